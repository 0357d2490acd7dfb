/- Two boxes of a job; the reference's At with a row of its own; rows whose stars are written. -/
import Derived.Test.YtpkffjcmoghaaaaLastK
import Derived.Test.YtpkffjcmoghaaaaApB
namespace Go.Proofs.Ytpkffjcmoghaaaa
open Go Go.RowKit Go.Lib Go.Sort
set_option maxRecDepth 100000 in
set_option maxHeartbeats 1000000 in
theorem refAt_own (a : Option Addr) (cap : Nat) (p L : Int) (S : List P.Star) (i : Nat) (x : Int) (w : World) (hi : i < S.length) (hl : S.length ≤ 1000000) (ha : Stars w a S) :
    Calls Try.prog 48 #[jobV p L a S.length cap, .int .i64 (i : Int), .int .i64 x] w fun e w' => ∃ g cap', e = .returned (jobV p L (some ⟨g, 0, none⟩) S.length cap') ∧ Stars w' (some ⟨g, 0, none⟩) (P.atW S i x) ∧ S.length ≤ cap' ∧ w.heap.size ≤ g ∧ (∀ o, w'.frozen? ⟨g, o, none⟩ = false) ∧ Below w.heap.size w w' := by
  have HA := Lib.hid ha; clear ha
  obtain ⟨b, off, rfl, -⟩ := HA.out i hi
  have HS1 : Hid (Stars ((((w.alloc (.cells #[.int .i64 p, .int .i64 L, .slice (some ⟨b, off, none⟩) S.length cap] 24)).alloc (.cells #[.int .i64 0, .int .i64 0, .slice none 0 0] 24)).alloc (.cells #[.int .i64 p, .int .i64 L, .slice (some ⟨b, off, none⟩) S.length cap] 24)).alloc (.cells #[] 59)) (some ⟨b, off, none⟩) S) := Lib.hid ((((HA.out.alloc _).alloc _).alloc _).alloc _)
  have HB1 : Hid (Below w.heap.size w ((((w.alloc (.cells #[.int .i64 p, .int .i64 L, .slice (some ⟨b, off, none⟩) S.length cap] 24)).alloc (.cells #[.int .i64 0, .int .i64 0, .slice none 0 0] 24)).alloc (.cells #[.int .i64 p, .int .i64 L, .slice (some ⟨b, off, none⟩) S.length cap] 24)).alloc (.cells #[] 59))) := Lib.hid ((((Below.new w _).alloc (by simp) _).alloc (by simp; omega) _).alloc (by simp; omega) _)
  have HO1 : Hid (World.ownsRow ((((w.alloc (.cells #[.int .i64 p, .int .i64 L, .slice (some ⟨b, off, none⟩) S.length cap] 24)).alloc (.cells #[.int .i64 0, .int .i64 0, .slice none 0 0] 24)).alloc (.cells #[.int .i64 p, .int .i64 L, .slice (some ⟨b, off, none⟩) S.length cap] 24)).alloc (.cells #[] 59)) w.heap.size 59 3 (.slice (some ⟨w.heap.size + 1 + 1 + 1, 0, none⟩) 0 0) 0 []) := Lib.hid (by have := owns_empty (((w.alloc (.cells #[.int .i64 p, .int .i64 L, .slice (some ⟨b, off, none⟩) S.length cap] 24)).alloc (.cells #[.int .i64 0, .int .i64 0, .slice none 0 0] 24)).alloc (.cells #[.int .i64 p, .int .i64 L, .slice (some ⟨b, off, none⟩) S.length cap] 24)) (base := w.heap.size) 59 3 (by simp; omega); simpa using this)
  have C6 : Hid (Cells ((((w.alloc (.cells #[.int .i64 p, .int .i64 L, .slice (some ⟨b, off, none⟩) S.length cap] 24)).alloc (.cells #[.int .i64 0, .int .i64 0, .slice none 0 0] 24)).alloc (.cells #[.int .i64 p, .int .i64 L, .slice (some ⟨b, off, none⟩) S.length cap] 24)).alloc (.cells #[] 59)) (w.heap.size + 1) [.int .i64 0, .int .i64 0, .slice none 0 0]) := Lib.hid (by
    have := ((Cells.new (w.alloc (.cells #[.int .i64 p, .int .i64 L, .slice (some ⟨b, off, none⟩) S.length cap] 24)) #[.int .i64 0, .int .i64 0, .slice none 0 0] 24).on (Below.new _ (.cells #[.int .i64 p, .int .i64 L, .slice (some ⟨b, off, none⟩) S.length cap] 24))).on (Below.new _ (.cells #[] 59))
    simpa using this)
  have C7 : Hid (Cells ((((w.alloc (.cells #[.int .i64 p, .int .i64 L, .slice (some ⟨b, off, none⟩) S.length cap] 24)).alloc (.cells #[.int .i64 0, .int .i64 0, .slice none 0 0] 24)).alloc (.cells #[.int .i64 p, .int .i64 L, .slice (some ⟨b, off, none⟩) S.length cap] 24)).alloc (.cells #[] 59)) (w.heap.size + 1 + 1) [.int .i64 p, .int .i64 L, .slice (some ⟨b, off, none⟩) S.length cap]) := Lib.hid (by
    have := (Cells.new ((w.alloc (.cells #[.int .i64 p, .int .i64 L, .slice (some ⟨b, off, none⟩) S.length cap] 24)).alloc (.cells #[.int .i64 0, .int .i64 0, .slice none 0 0] 24)) #[.int .i64 p, .int .i64 L, .slice (some ⟨b, off, none⟩) S.length cap] 24).on (Below.new _ (.cells #[] 59))
    simpa using this)
  have HP : Hid (0 < S.length) := Lib.hid (by omega)
  go_enter Try.func48, Try.ntmps48
  go_wp2_with (at_builtin; refine listApp T22 rfl (.tmp 9) (.tmp 11) rfl w.heap.size (.slice (some ⟨w.heap.size + 1 + 1 + 1, 0, none⟩) 0 0) 0 [] (flatS S) S.length cap ⟨b, off, none⟩ rfl HO1.out rfl (flatS_length S) HS1.out.news (flatS_one S) (by omega) (by simp; omega) ?_; intro v1 w1 hown1 hg1 hL1; have HB2 := Lib.hid (HB1.out.grown hg1 (by simp; omega) (fun k e => by simp [Value.ownBlock] at e; omega)); have D6 := Lib.hid (C6.out.grown hg1 (by simp [Value.ownBlock])); have D7 := Lib.hid (C7.out.grown hg1 (by simp [Value.ownBlock])); simp only [List.nil_append] at hown1; obtain ⟨-, g, cap1, rfl, hg0, hgl, hSt, hcap1, hfr⟩ := owns_open hown1 HP.out; have hL2 : w.heap.size + 1 + 1 + 1 ≤ g := (by rcases hL1 with e | e <;> simp [Value.ownBlock] at e <;> omega); clear hown1 hL1 hg1; have z0 := D7.out.cel 2 _ rfl; have f0 := D7.out.fr 2)
  have E7 := Lib.hid (D7.out.set 2 (.slice (some ⟨g, 0, none⟩) S.length cap1) (by simp))
  have E6 := Lib.hid (D6.out.setOther (c := w.heap.size + 1 + 1) 2 (.slice (some ⟨g, 0, none⟩) S.length cap1) (by omega))
  have ES := Lib.hid (hSt.setOther (c := w.heap.size + 1 + 1) 2 (.slice (some ⟨g, 0, none⟩) S.length cap1) (by omega))
  have EF : Hid (∀ o, (w1.setCell ⟨w.heap.size + 1 + 1, 2, none⟩ (.slice (some ⟨g, 0, none⟩) S.length cap1)).frozen? ⟨g, o, none⟩ = false) := Lib.hid (fun o => (World.frozen?_setCell _ _ _ _).trans (hfr o))
  have EB := Lib.hid (HB2.out.setCell (p := ⟨w.heap.size + 1 + 1, 2, none⟩) (by simp; omega) (.slice (some ⟨g, 0, none⟩) S.length cap1))
  clear z0 f0 hSt hfr D6 D7 HB2 hgl C6 C7 HO1 HB1 HS1 HA
  generalize w1.setCell ⟨w.heap.size + 1 + 1, 2, none⟩ (.slice (some ⟨g, 0, none⟩) S.length cap1) = w2 at *
  clear w1
  obtain ⟨b', off', e, c1, c2, c3⟩ := ES.out i hi
  cases e
  simp only [Nat.zero_add] at c1 c2 c3
  have f1 := EF.out (i * 3)
  have f2 := EF.out (i * 3 + 1)
  have z7 := E7.out.cel 2 _ rfl
  have q1 : (0 : Int) ≤ (i : Int) := by omega
  have q2 : (i : Int) < (S.length : Int) := by omega
  have hne : (⟨g, i * 3, none⟩ : Addr) ≠ ⟨w.heap.size + 1 + 1, 2, none⟩ := fun e => by have e := congrArg Addr.block e; simp only at e; omega
  have hne2 : (⟨g, i * 3 + 1, none⟩ : Addr) ≠ ⟨w.heap.size + 1 + 1, 2, none⟩ := fun e => by have e := congrArg Addr.block e; simp only at e; omega
  go_region_held3 (fun w' => w'.cell? ⟨w.heap.size + 1 + 1, 2, none⟩ = some (.slice (some ⟨g, 0, none⟩) S.length cap1)) (first | exact (World.cell?_setCell_other _ _ _ _ hne).trans z7 | exact (World.cell?_setCell_other _ _ _ _ hne2).trans ((World.cell?_setCell_other _ _ _ _ hne).trans z7) | go_keep) (fail)
  have G7 : Hid (Cells ((w2.setCell ⟨g, i * 3, none⟩ (.int .i64 x)).setCell ⟨g, i * 3 + 1, none⟩ (.int .i64 x)).drew (w.heap.size + 1 + 1) [.int .i64 p, .int .i64 L, .slice (some ⟨g, 0, none⟩) S.length cap1]) := Lib.hid (by
    have h := (E7.out.setOther (c := g) (i * 3) (.int .i64 x) (by omega)).setOther (c := g) (i * 3 + 1) (.int .i64 x) (by omega)
    exact ⟨h.cel, h.fr, h.lt⟩)
  have G6 : Hid (Cells ((w2.setCell ⟨g, i * 3, none⟩ (.int .i64 x)).setCell ⟨g, i * 3 + 1, none⟩ (.int .i64 x)).drew (w.heap.size + 1) [.int .i64 0, .int .i64 0, .slice none 0 0]) := Lib.hid (by
    have h := (E6.out.setOther (c := g) (i * 3) (.int .i64 x) (by omega)).setOther (c := g) (i * 3 + 1) (.int .i64 x) (by omega)
    exact ⟨h.cel, h.fr, h.lt⟩)
  have GB : Hid (Below w.heap.size w ((w2.setCell ⟨g, i * 3, none⟩ (.int .i64 x)).setCell ⟨g, i * 3 + 1, none⟩ (.int .i64 x)).drew) := Lib.hid ((EB.out.setCell (p := ⟨g, i * 3, none⟩) (by simp; omega) _).setCell (p := ⟨g, i * 3 + 1, none⟩) (by simp; omega) _).drew
  have GF : Hid (∀ o, ((w2.setCell ⟨g, i * 3, none⟩ (.int .i64 x)).setCell ⟨g, i * 3 + 1, none⟩ (.int .i64 x)).drew.frozen? ⟨g, o, none⟩ = false) := Lib.hid (fun o => ((World.frozen?_setCell _ _ _ _).trans (World.frozen?_setCell _ _ _ _)).trans (EF.out o))
  have GS : Hid (Stars ((w2.setCell ⟨g, i * 3, none⟩ (.int .i64 x)).setCell ⟨g, i * 3 + 1, none⟩ (.int .i64 x)).drew (some ⟨g, 0, none⟩) (P.atW S i x)) := Lib.hid (ES.out.put2 hi
    ((World.cell?_setCell_other _ _ _ _ (fun e => by have e := congrArg Addr.off e; simp only at e; omega)).trans (World.cell?_setCell_same _ _ _ c1))
    (World.cell?_setCell_same _ _ _ ((World.cell?_setCell_other _ _ _ _ (fun e => by have e := congrArg Addr.off e; simp only at e; omega)).trans c2))
    (fun o h1 h2 => (World.cell?_setCell_other _ _ _ _ (fun e => by have e := congrArg Addr.off e; simp only at e; omega)).trans (World.cell?_setCell_other _ _ _ _ (fun e => by have e := congrArg Addr.off e; simp only at e; omega))))
  clear c1 c2 c3 f1 f2 z7 hne hne2 E6 E7 ES EF EB q1 q2
  generalize ((w2.setCell ⟨g, i * 3, none⟩ (.int .i64 x)).setCell ⟨g, i * 3 + 1, none⟩ (.int .i64 x)).drew = w3 at *
  clear w2
  have z0 := G7.out.cel 0 _ rfl
  have z1 := G7.out.cel 1 _ rfl
  have z2 := G7.out.cel 2 _ rfl
  have y0 := G6.out.cel 0 _ rfl
  have y1 := G6.out.cel 1 _ rfl
  have y2 := G6.out.cel 2 _ rfl
  have v0 := G6.out.fr 0
  have v1 := G6.out.fr 1
  have v2 := G6.out.fr 2
  go_wp2_with fail
  have K6 := ((G6.out.set 0 (.int .i64 p) (by simp)).set 1 (.int .i64 L) (by simp)).set 2 (.slice (some ⟨g, 0, none⟩) S.length cap1) (by simp)
  have KS := ((GS.out.setOther (c := w.heap.size + 1) 0 (.int .i64 p) (by omega)).setOther (c := w.heap.size + 1) 1 (.int .i64 L) (by omega)).setOther (c := w.heap.size + 1) 2 (.slice (some ⟨g, 0, none⟩) S.length cap1) (by omega)
  have KF : ∀ o, (((w3.setCell ⟨w.heap.size + 1, 0, none⟩ (.int .i64 p)).setCell ⟨w.heap.size + 1, 1, none⟩ (.int .i64 L)).setCell ⟨w.heap.size + 1, 2, none⟩ (.slice (some ⟨g, 0, none⟩) S.length cap1)).frozen? ⟨g, o, none⟩ = false := fun o => (((World.frozen?_setCell _ _ _ _).trans (World.frozen?_setCell _ _ _ _)).trans (World.frozen?_setCell _ _ _ _)).trans (GF.out o)
  have KB := ((GB.out.setCell (p := ⟨w.heap.size + 1, 0, none⟩) (by simp) (.int .i64 p)).setCell (p := ⟨w.heap.size + 1, 1, none⟩) (by simp) (.int .i64 L)).setCell (p := ⟨w.heap.size + 1, 2, none⟩) (by simp) (.slice (some ⟨g, 0, none⟩) S.length cap1)
  generalize ((w3.setCell ⟨w.heap.size + 1, 0, none⟩ (.int .i64 p)).setCell ⟨w.heap.size + 1, 1, none⟩ (.int .i64 L)).setCell ⟨w.heap.size + 1, 2, none⟩ (.slice (some ⟨g, 0, none⟩) S.length cap1) = W at *
  have e0 := K6.cel 0 _ rfl
  have e1 := K6.cel 1 _ rfl
  have e2 := K6.cel 2 _ rfl
  exact bodyPost_ret (v := jobV p L (some ⟨g, 0, none⟩) S.length cap1) (by simp [results, Try.results48, go_sem, e0, e1, e2]) rfl ⟨_, _, rfl, KS, hcap1, by omega, KF, KB⟩

/-- A binding edge to an operation. -/
def edgeB (aft : Array Edge) (j : Nat) : Bool := aft.any (fun e => Region.binds .any e && decide (e.on = j))
def lowB (aft : Array Edge) (i : Nat) : Bool := aft.all (fun e => !Region.binds .any e || decide (e.on < i))
theorem edgeB_spec {aft : Array Edge} {j : Nat} {B : Nat → Bool} (h : edgeB aft j = true) (hd : ∀ e ∈ aft, Region.binds .any e = true → B e.on = true) : B j = true := by
  unfold edgeB at h
  rw [Array.any_eq_true] at h
  obtain ⟨k, hk, hk2⟩ := h
  simp only [Bool.and_eq_true, decide_eq_true_eq] at hk2
  rw [← hk2.2]; exact hd _ (Array.getElem_mem hk) hk2.1
theorem lowB_spec {aft : Array Edge} {i : Nat} (h : lowB aft i = true) : ∀ e ∈ aft, Region.binds .any e = true → e.on < i := by
  intro e he hb
  have := Array.all_eq_true_iff_forall_mem.1 h e he
  rw [hb] at this; simpa using this
def jobL (p L : Int) (ad : Option Addr) (n cap : Nat) : List Value := [.int .i64 p, .int .i64 L, .slice ad n cap]
def jobZ : List Value := [.int .i64 0, .int .i64 0, .slice none 0 0]
def ptrV (g : Nat) : Value := .pointer (some ⟨g, 0, none⟩)
/-- The state between the operations of a region that copies a job into two boxes. -/
structure TwoI (p L : Int) (ad : Option Addr) (n cap : Nat) (a : Act) (w : World) (b0 b1 b2 b3 b4 b5 : Bool) (a' : Act) (w' : World) : Prop where
  agr : Agr [32, 33, 7, 8] a a'
  bel : Below w.heap.size w w'
  v0 : b0 = true → a'.eval (.tmp 32) = jobV p L ad n cap
  v1 : b1 = true → a'.eval (.tmp 33) = jobV p L ad n cap
  v2 : b2 = true → ∃ g, a'.eval (.tmp 7) = ptrV g ∧ w.heap.size ≤ g ∧ Cells w' g (if b4 then jobL p L ad n cap else jobZ)
  v3 : b3 = true → ∃ g, a'.eval (.tmp 8) = ptrV g ∧ w.heap.size ≤ g ∧ Cells w' g (if b5 then jobL p L ad n cap else jobZ)
  ne : b2 = true → b3 = true → a'.eval (.tmp 7) ≠ a'.eval (.tmp 8)
  s4 : b4 = true → b2 = true
  s5 : b5 = true → b3 = true
theorem ptrV_inj {g h : Nat} (e : ptrV g = ptrV h) : g = h := by unfold ptrV at e; cases e; rfl
theorem Cells.store {w' w0 : World} {g : Nat} {p L : Int} {ad : Option Addr} {n cap : Nat} (h : Cells w' g jobZ) (hb : Below w0.heap.size w0 w') (hg : w0.heap.size ≤ g) :
    Cells (((w'.setCell ⟨g, 0, none⟩ (.int .i64 p)).setCell ⟨g, 1, none⟩ (.int .i64 L)).setCell ⟨g, 2, none⟩ (.slice ad n cap)) g (jobL p L ad n cap) ∧ Below w0.heap.size w0 (((w'.setCell ⟨g, 0, none⟩ (.int .i64 p)).setCell ⟨g, 1, none⟩ (.int .i64 L)).setCell ⟨g, 2, none⟩ (.slice ad n cap)) :=
  ⟨((h.set 0 (.int .i64 p) (by simp [jobZ])).set 1 (.int .i64 L) (by simp [jobZ])).set 2 (.slice ad n cap) (by simp [jobZ]), ((hb.setCell (p := ⟨g, 0, none⟩) hg _).setCell (p := ⟨g, 1, none⟩) hg _).setCell (p := ⟨g, 2, none⟩) hg _⟩
theorem Cells.store2 {w' : World} {g h : Nat} {l : List Value} {x y z : Value} (hc : Cells w' h l) (hne : g ≠ h) :
    Cells (((w'.setCell ⟨g, 0, none⟩ x).setCell ⟨g, 1, none⟩ y).setCell ⟨g, 2, none⟩ z) h l := ((hc.setOther 0 x hne).setOther 1 y hne).setOther 2 z hne
set_option maxRecDepth 20000 in
theorem store_wp {Q : Exit → Act → World → Prop} {K : Act → World → Prop} {a' : Act} {w' : World} {q1 q2 g : Nat} {p L : Int} {ad : Option Addr} {n cap : Nat} {ty : TypeId} {pos : String} {aft : Array Edge} (h1 : a'.eval (.tmp q1) = ptrV g) (h2 : a'.eval (.tmp q2) = jobV p L ad n cap) (hc : Cells w' g jobZ)
    (hK : K (a'.put none undef) (((w'.setCell ⟨g, 0, none⟩ (.int .i64 p)).setCell ⟨g, 1, none⟩ (.int .i64 L)).setCell ⟨g, 2, none⟩ (.slice ad n cap))) : Oper.wp Try.prog ⟨none, .store 24 (.tmp q1) (.tmp q2), ty, pos, aft, none⟩ a' w' K Q := by
  have e1 := tmp_of h1
  have e2 := tmp_of h2
  unfold ptrV at e1
  have z0 := hc.cel 0 _ rfl
  have z1 := hc.cel 1 _ rfl
  have z2 := hc.cel 2 _ rfl
  have f0 := hc.fr 0
  have f1 := hc.fr 1
  have f2 := hc.fr 2
  unfold Oper.wp
  simp [execOp, go_sem, e1, e2, z0, z1, z2, f0, f1, f2, jobV]
  exact hK
set_option maxRecDepth 20000 in
set_option maxHeartbeats 2000000 in
theorem wp_two_boxes {Q : Exit → Act → World → Prop} {id : Nat} {a : Act} {w : World} {B : Nat} {p L : Int} {ad : Option Addr} {cap : Nat} {S : List P.Star} {y0 y1 y2 y3 y4 y5 : TypeId} {s0 s1 s2 s3 s4 s5 : String} {f0 f1 f2 f3 f4 f5 : Array Edge}
    (hm : Try.prog.follows .mixedOrders = true) (hJ : Job w B p L ad cap S) (h3 : a.eval (.tmp 3) = .pointer (some ⟨B, 0, none⟩)) (hsz : 33 < a.tmps.size)
    (hE : (lowB f0 0 && lowB f1 1 && lowB f2 2 && lowB f3 3 && lowB f4 4 && lowB f5 5 && edgeB f4 0 && edgeB f4 2 && edgeB f5 1 && edgeB f5 3) = true)
    (hend : ∀ w' g7 g8, w.heap.size ≤ g7 → w.heap.size ≤ g8 → g7 ≠ g8 → Cells w' g7 (jobL p L ad S.length cap) → Cells w' g8 (jobL p L ad S.length cap) → Below w.heap.size w w' →
      Q .normal ((((a.put (some 32) (jobV p L ad S.length cap)).put (some 33) (jobV p L ad S.length cap)).put (some 7) (ptrV g7)).put (some 8) (ptrV g8)) w') :
    (Code.region id #[⟨some 32, .load 24 (.tmp 3), y0, s0, f0, none⟩, ⟨some 33, .load 24 (.tmp 3), y1, s1, f1, none⟩, ⟨some 7, .alloc 24, y2, s2, f2, none⟩, ⟨some 8, .alloc 24, y3, s3, f3, none⟩, ⟨none, .store 24 (.tmp 7) (.tmp 32), y4, s4, f4, none⟩, ⟨none, .store 24 (.tmp 8) (.tmp 33), y5, s5, f5, none⟩] true).wp Try.prog Q a w := by
  simp only [Bool.and_eq_true] at hE
  obtain ⟨⟨⟨⟨⟨⟨⟨⟨⟨l0, l1⟩, l2⟩, l3⟩, l4⟩, l5⟩, e40⟩, e42⟩, e51⟩, e53⟩ := hE
  refine wp_region_any hm ?_
  refine wpAny_inv (fun Bf a' w' => TwoI p L ad S.length cap a w (Bf 0) (Bf 1) (Bf 2) (Bf 3) (Bf 4) (Bf 5) a' w') ?_ ?_ ?_ _ _ _ _ (by simp) ?_ ?_
  · intro i o ho
    rcases i with _ | _ | _ | _ | _ | _ | i <;> simp at ho <;> subst ho <;> rfl
  · intro i o Bf a' w' ho hBi hd hI
    have t3 := tmp_of ((hI.agr.eval (by decide)).trans h3)
    have x1 := (hJ.on hI.bel).x1
    have x2 := (hJ.on hI.bel).x2
    have x3 := (hJ.on hI.bel).x3
    have hz := hI.agr.size
    have hbn := hI.bel.trans ((Below.new w' (.cells #[.int .i64 0, .int .i64 0, .slice none 0 0] 24)).mono hI.bel.size)
    have hbw := Below.new w' (.cells #[.int .i64 0, .int .i64 0, .slice none 0 0] 24)
    rcases i with _ | _ | _ | _ | _ | _ | i <;> simp at ho <;> subst ho
    · refine op_value (w' := w') (v := jobV p L ad S.length cap) (by simp [execOp, go_sem, t3, x1, x2, x3]) ?_
      show TwoI p L ad S.length cap a w true (Bf 1) (Bf 2) (Bf 3) (Bf 4) (Bf 5) _ _
      exact ⟨hI.agr.put (by decide) _, hI.bel, fun _ => eval_put_same _ _ (by omega), fun h => (eval_put_ne _ _ (by decide)).trans (hI.v1 h), fun h => by obtain ⟨g, e, r⟩ := hI.v2 h; exact ⟨g, (eval_put_ne _ _ (by decide)).trans e, r⟩, fun h => by obtain ⟨g, e, r⟩ := hI.v3 h; exact ⟨g, (eval_put_ne _ _ (by decide)).trans e, r⟩, fun h h' => by rw [eval_put_ne _ _ (by decide), eval_put_ne _ _ (by decide)]; exact hI.ne h h', hI.s4, hI.s5⟩
    · refine op_value (w' := w') (v := jobV p L ad S.length cap) (by simp [execOp, go_sem, t3, x1, x2, x3]) ?_
      show TwoI p L ad S.length cap a w (Bf 0) true (Bf 2) (Bf 3) (Bf 4) (Bf 5) _ _
      exact ⟨hI.agr.put (by decide) _, hI.bel, fun h => (eval_put_ne _ _ (by decide)).trans (hI.v0 h), fun _ => eval_put_same _ _ (by omega), fun h => by obtain ⟨g, e, r⟩ := hI.v2 h; exact ⟨g, (eval_put_ne _ _ (by decide)).trans e, r⟩, fun h => by obtain ⟨g, e, r⟩ := hI.v3 h; exact ⟨g, (eval_put_ne _ _ (by decide)).trans e, r⟩, fun h h' => by rw [eval_put_ne _ _ (by decide), eval_put_ne _ _ (by decide)]; exact hI.ne h h', hI.s4, hI.s5⟩
    · have hb4 : Bf 4 = false := by
        cases h : Bf 4 with
        | false => rfl
        | true => have := hI.s4 h; rw [hBi] at this; cases this
      refine op_value (w' := w'.alloc (.cells #[.int .i64 0, .int .i64 0, .slice none 0 0] 24)) (v := ptrV w'.heap.size) (by simp [execOp, go_sem, ptrV]) ?_
      show TwoI p L ad S.length cap a w (Bf 0) (Bf 1) true (Bf 3) (Bf 4) (Bf 5) _ _
      have hnew : ∃ g, (a'.put (some 7) (ptrV w'.heap.size)).eval (.tmp 7) = ptrV g ∧ w.heap.size ≤ g ∧ Cells (w'.alloc (.cells #[.int .i64 0, .int .i64 0, .slice none 0 0] 24)) g (if Bf 4 then jobL p L ad S.length cap else jobZ) := by
        rw [hb4]
        exact ⟨_, eval_put_same _ _ (by omega), hI.bel.size, Cells.new w' _ 24⟩
      exact ⟨hI.agr.put (by decide) _, hbn, fun h => (eval_put_ne _ _ (by decide)).trans (hI.v0 h), fun h => (eval_put_ne _ _ (by decide)).trans (hI.v1 h), fun _ => hnew, (fun h => by obtain ⟨g, e, r1, r2⟩ := hI.v3 h; exact ⟨g, (eval_put_ne _ _ (by decide)).trans e, r1, r2.on hbw⟩), fun _ h' => by obtain ⟨g, e, r1, r2⟩ := hI.v3 h'; rw [eval_put_same _ _ (by omega), eval_put_ne _ _ (by decide), e]; intro e2; have := ptrV_inj e2; have := r2.lt; omega, (fun _ => rfl), hI.s5⟩
    · have hb4 : Bf 5 = false := by
        cases h : Bf 5 with
        | false => rfl
        | true => have := hI.s5 h; rw [hBi] at this; cases this
      refine op_value (w' := w'.alloc (.cells #[.int .i64 0, .int .i64 0, .slice none 0 0] 24)) (v := ptrV w'.heap.size) (by simp [execOp, go_sem, ptrV]) ?_
      show TwoI p L ad S.length cap a w (Bf 0) (Bf 1) (Bf 2) true (Bf 4) (Bf 5) _ _
      have hnew : ∃ g, (a'.put (some 8) (ptrV w'.heap.size)).eval (.tmp 8) = ptrV g ∧ w.heap.size ≤ g ∧ Cells (w'.alloc (.cells #[.int .i64 0, .int .i64 0, .slice none 0 0] 24)) g (if Bf 5 then jobL p L ad S.length cap else jobZ) := by
        rw [hb4]
        exact ⟨_, eval_put_same _ _ (by omega), hI.bel.size, Cells.new w' _ 24⟩
      exact ⟨hI.agr.put (by decide) _, hbn, fun h => (eval_put_ne _ _ (by decide)).trans (hI.v0 h), fun h => (eval_put_ne _ _ (by decide)).trans (hI.v1 h), (fun h => by obtain ⟨g, e, r1, r2⟩ := hI.v2 h; exact ⟨g, (eval_put_ne _ _ (by decide)).trans e, r1, r2.on hbw⟩), fun _ => hnew, fun h _ => by obtain ⟨g, e, r1, r2⟩ := hI.v2 h; rw [eval_put_same _ _ (by omega), eval_put_ne _ _ (by decide), e]; intro e2; have := ptrV_inj e2; have := r2.lt; omega, hI.s4, (fun _ => rfl)⟩
    · have hb0 := edgeB_spec e40 hd
      have hb2 := edgeB_spec e42 hd
      obtain ⟨g, eg, hg, hc⟩ := hI.v2 hb2
      have hBi' : Bf 4 = false := hBi
      rw [hBi'] at hc
      refine store_wp eg (hI.v0 hb0) hc ?_
      obtain ⟨n1, n2⟩ := Cells.store (p := p) (L := L) (ad := ad) (n := S.length) (cap := cap) hc hI.bel hg
      show TwoI p L ad S.length cap a w (Bf 0) (Bf 1) (Bf 2) (Bf 3) true (Bf 5) a' _
      exact ⟨hI.agr, n2, hI.v0, hI.v1, fun _ => ⟨g, eg, hg, n1⟩, (fun h => by obtain ⟨g2, e2, r1, r2⟩ := hI.v3 h; exact ⟨g2, e2, r1, r2.store2 (fun e => hI.ne hb2 h (by rw [eg, e2, e]))⟩), hI.ne, fun _ => hb2, hI.s5⟩
    · have hb1 := edgeB_spec e51 hd
      have hb3 := edgeB_spec e53 hd
      obtain ⟨g, eg, hg, hc⟩ := hI.v3 hb3
      have hBi' : Bf 5 = false := hBi
      rw [hBi'] at hc
      refine store_wp eg (hI.v1 hb1) hc ?_
      obtain ⟨n1, n2⟩ := Cells.store (p := p) (L := L) (ad := ad) (n := S.length) (cap := cap) hc hI.bel hg
      show TwoI p L ad S.length cap a w (Bf 0) (Bf 1) (Bf 2) (Bf 3) (Bf 4) true a' _
      exact ⟨hI.agr, n2, hI.v0, hI.v1, (fun h => by obtain ⟨g2, e2, r1, r2⟩ := hI.v2 h; exact ⟨g2, e2, r1, r2.store2 (fun e => hI.ne h hb3 (by rw [eg, e2, e]))⟩), fun _ => ⟨g, eg, hg, n1⟩, hI.ne, hI.s4, fun _ => hb3⟩
  · intro listed a' w' hs hr hI
    have hall := all_listed2 (L := [⟨some 32, .load 24 (.tmp 3), y0, s0, f0, none⟩, ⟨some 33, .load 24 (.tmp 3), y1, s1, f1, none⟩, ⟨some 7, .alloc 24, y2, s2, f2, none⟩, ⟨some 8, .alloc 24, y3, s3, f3, none⟩, ⟨none, .store 24 (.tmp 7) (.tmp 32), y4, s4, f4, none⟩, ⟨none, .store 24 (.tmp 8) (.tmp 33), y5, s5, f5, none⟩]) (fun j o ho e he hb => ?_) (by simpa using hs) hr
    · have h0 := hall 0 (by simp)
      have h1 := hall 1 (by simp)
      have h2 := hall 2 (by simp)
      have h3 := hall 3 (by simp)
      have h4 := hall 4 (by simp)
      have h5 := hall 5 (by simp)
      dsimp only at hI
      rw [h0, h1, h2, h3, h4, h5] at hI
      obtain ⟨g7, e7, hg7, hc7⟩ := hI.v2 rfl
      obtain ⟨g8, e8, hg8, hc8⟩ := hI.v3 rfl
      have hne : g7 ≠ g8 := fun e => hI.ne rfl rfl (by rw [e7, e8, e])
      have hback := hI.agr.back (by decide) (fun k hk => by simp at hk; omega)
      rw [hback]
      simp only [List.map_cons, List.map_nil, hI.v0 rfl, hI.v1 rfl, e7, e8]
      exact hend w' g7 g8 hg7 hg8 hne hc7 hc8 hI.bel
    · rcases j with _ | _ | _ | _ | _ | _ | j <;> simp at ho <;> subst ho
      · exact lowB_spec l0 e he hb
      · exact lowB_spec l1 e he hb
      · exact lowB_spec l2 e he hb
      · exact lowB_spec l3 e he hb
      · exact lowB_spec l4 e he hb
      · exact lowB_spec l5 e he hb
  · rw [Array.toList_replicate]
    exact Nat.le_trans List.countP_le_length (by simp)
  · exact ⟨Agr.refl _ _, (Below.refl _ w).drew, (by intro h; simp at h), (by intro h; simp at h), (by intro h; simp at h), (by intro h; simp at h), (by intro h; simp at h), (by intro h; simp at h), (by intro h; simp at h)⟩
/-- A star is written into a row. -/
theorem Stars.putStar {w w' : World} {g : Nat} {S : List P.Star} {i : Nat} {s : P.Star} (h : Stars w (some ⟨g, 0, none⟩) S) (_hi : i < S.length) (h0 : w'.cell? ⟨g, i * 3, none⟩ = some (.int .i64 s.1)) (h1 : w'.cell? ⟨g, i * 3 + 1, none⟩ = some (.int .i64 s.2.1)) (h2 : w'.cell? ⟨g, i * 3 + 2, none⟩ = some (.int .i64 s.2.2))
    (ho : ∀ o, o ≠ i * 3 → o ≠ i * 3 + 1 → o ≠ i * 3 + 2 → w'.cell? ⟨g, o, none⟩ = w.cell? ⟨g, o, none⟩) : Stars w' (some ⟨g, 0, none⟩) (S.set i s) := by
  intro j hj
  rw [List.length_set] at hj
  obtain ⟨b, off, e, c1, c2, c3⟩ := h j hj
  cases e
  simp only [Nat.zero_add] at c1 c2 c3
  refine ⟨g, 0, rfl, ?_⟩
  simp only [Nat.zero_add]
  by_cases e : j = i
  · subst e
    have : P.star (S.set j s) j = s := by simp [P.star, hj]
    rw [this]
    exact ⟨h0, h1, h2⟩
  · have : P.star (S.set i s) j = P.star S j := by
      have e' : ¬ i = j := fun h => e h.symm
      simp [P.star, e']
    rw [this]
    exact ⟨(ho _ (by omega) (by omega) (by omega)).trans c1, (ho _ (by omega) (by omega) (by omega)).trans c2, (ho _ (by omega) (by omega) (by omega)).trans c3⟩
theorem atW_back (S : List P.Star) (i : Nat) (x : Int) (hi : i < S.length) : (P.atW S i x).set i (P.star S i) = S := by
  unfold P.atW
  rw [List.set_set]
  have : P.star S i = S[i] := by simp [P.star, hi]
  rw [this, List.set_getElem_self]
end Go.Proofs.Ytpkffjcmoghaaaa
