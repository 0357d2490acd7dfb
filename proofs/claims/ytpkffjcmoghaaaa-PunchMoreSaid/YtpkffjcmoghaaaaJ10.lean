/- One text of ComI, PL. -/
import Derived.Test.YtpkffjcmoghaaaaJ9
import Derived.Lib.SliceRun
/- Walks of the program's functions: the copy of a row of stars; a star moved. -/
namespace Go.Proofs.Ytpkffjcmoghaaaa
open Go.RowKit
set_option maxRecDepth 20000 in
set_option maxHeartbeats 1000000 in
theorem cloneS_any (a : Option Addr) (cap : Nat) (S : List P.Star) (w : World) (hl : S.length ≤ 1000000) (ha : Stars w a S) :
    Calls Try.prog 80 #[.slice a S.length cap] w fun e w' => ∃ v, e = .returned v ∧ w'.ownsRow w.heap.size 59 3 v S.length (flatS S) ∧ Below w.heap.size w w' := by
  cases a with
  | none =>
    have h0 : S = [] := by
      cases S with
      | nil => rfl
      | cons s r => obtain ⟨b, off, e, -⟩ := ha 0 (by simp); cases e
    subst h0
    have hn := fun W => Lib.run_eql_slice_nil (P := Try.prog) W 22 59 none 0 cap 0 0 Try.underlying22
    go_enter Try.func80, Try.ntmps80
    go_wp2_with fail
    go_ret
    exact ⟨_, rfl, World.ownsRow_nil _ _ _ _, Below.refl _ _⟩
  | some ad =>
    have HA := Lib.hid (ha.alloc (.cells #[] 59))
    have HO1 : Hid ((w.alloc (.cells #[] 59)).ownsRow w.heap.size 59 3 (.slice (some ⟨w.heap.size, 0, none⟩) 0 0) 0 []) := Lib.hid (owns_empty w (base := w.heap.size) 59 3 (Nat.le_refl _))
    have HN : Hid (∀ j u, (flatS S)[j]? = some u → (w.alloc (.cells #[] 59)).cell? (ad.add j) = some u) := Lib.hid (by
      intro j u hj
      by_cases hp : 0 < S.length
      · obtain ⟨b, off, e, -⟩ := HA.out 0 hp
        cases e
        exact HA.out.news j u hj
      · have := (List.getElem?_eq_some_iff.1 hj).1
        rw [flatS_length] at this; omega)
    have hlt : w.heap.size ≤ (w.alloc (.cells #[] 59)).heap.size := by simp
    have hln : 0 + S.length ≤ 2000000 := by omega
    clear ha
    have hn := fun W => Lib.run_eql_slice_nil (P := Try.prog) W 22 59 (some ad) S.length cap 0 0 Try.underlying22
    go_enter Try.func80, Try.ntmps80
    go_wp2_with (at_builtin; refine listApp T22 rfl (.tmp 5) (.tmp 6) rfl w.heap.size (.slice (some ⟨w.heap.size, 0, none⟩) 0 0) 0 [] (flatS S) S.length cap ad rfl HO1.out rfl (flatS_length S) HN.out (flatS_one S) hln hlt ?_; intro v1 w1 hown1 hg1 hL1)
    go_ret
    exact ⟨v1, rfl, by simpa using hown1, ((Below.new w _).grown hg1 (by simp) (fun k e => by simp [Value.ownBlock] at e; omega))⟩
set_option maxRecDepth 20000 in
set_option maxHeartbeats 2000000 in
theorem atP_any (B : Nat) (p L : Int) (a : Option Addr) (cap : Nat) (S : List P.Star) (i : Nat) (x : Int) (w : World) (hi : i < S.length) (hl : S.length ≤ 1000000) (h : Job w B p L a cap S) :
    Calls Try.prog 60 #[.pointer (some ⟨B, 0, none⟩), .int .i64 (i : Int), .int .i64 x] w fun e w' => ∃ B' a' cap', e = .returned (.pointer (some ⟨B', 0, none⟩)) ∧ Job w' B' p L a' cap' (P.atW S i x) ∧ w.heap.size ≤ B' ∧ (∀ b off, a' = some ⟨b, off, none⟩ → w.heap.size ≤ b) ∧ Below w.heap.size w w' := by
  have x1 := h.x1
  have x2 := h.x2
  have x3 := h.x3
  have C1 := Lib.hid (Cells.new w #[.int .i64 p, .int .i64 L, .slice a S.length cap] 77)
  have HC := Lib.hid (cloneS_any a cap S (w.alloc (.cells #[.int .i64 p, .int .i64 L, .slice a S.length cap] 77)) hl (h.st.alloc _))
  have hy3 := cell_on (Below.new w (.cells #[.int .i64 p, .int .i64 L, .slice a S.length cap] 77)) x3
  have hB1 := Lib.hid (Below.new w (.cells #[.int .i64 p, .int .i64 L, .slice a S.length cap] 77))
  have HP : Hid (0 < S.length) := Lib.hid (by omega)
  clear h
  go_enter Try.func60, Try.ntmps60
  go_wp2_with fail
  refine HC.out.mono ?_
  rintro e w2 ⟨v2, rfl, hown2, hb2⟩
  have C2 := Lib.hid (C1.out.on hb2)
  obtain ⟨-, g, cap1, rfl, hg0, hgl, hSt, hcap1, hfr⟩ := owns_open hown2 HP.out
  have hgW : w.heap.size < g := by have : (w.alloc (.cells #[.int .i64 p, .int .i64 L, .slice a S.length cap] 77)).heap.size = w.heap.size + 1 := (by simp); omega
  have z0 := C2.out.cel 2 _ rfl
  have f0 := C2.out.fr 2
  have EB := Lib.hid ((hB1.out.trans (hb2.mono hB1.out.size)).setCell (p := ⟨w.heap.size, 2, none⟩) (Nat.le_refl _) (.slice (some ⟨g, 0, none⟩) S.length cap1))
  have E7 := Lib.hid (C2.out.set 2 (.slice (some ⟨g, 0, none⟩) S.length cap1) (by simp))
  have ES := Lib.hid (hSt.setOther (c := w.heap.size) 2 (.slice (some ⟨g, 0, none⟩) S.length cap1) (by omega))
  have EF : Hid (∀ o, (w2.setCell ⟨w.heap.size, 2, none⟩ (.slice (some ⟨g, 0, none⟩) S.length cap1)).frozen? ⟨g, o, none⟩ = false) := Lib.hid (fun o => (World.frozen?_setCell _ _ _ _).trans (hfr o))
  clear hown2 hb2 hSt hfr C1 C2 HC hB1 x1 x2 x3 hy3
  go_wp2_with fail
  clear z0 f0
  generalize w2.setCell ⟨w.heap.size, 2, none⟩ (.slice (some ⟨g, 0, none⟩) S.length cap1) = w3 at *
  clear hg0 hgl w2
  obtain ⟨b', off', e, c1, c2, c3⟩ := ES.out i hi
  cases e
  simp only [Nat.zero_add] at c1 c2 c3
  have f1 := EF.out (i * 3)
  have f2 := EF.out (i * 3 + 1)
  have z7 := E7.out.cel 2 _ rfl
  have q1 : (0 : Int) ≤ (i : Int) := by omega
  have q2 : (i : Int) < (S.length : Int) := by omega
  have hne : (⟨g, i * 3, none⟩ : Addr) ≠ ⟨w.heap.size, 2, none⟩ := fun e => by have e := congrArg Addr.block e; simp only at e; omega
  have hne2 : (⟨g, i * 3 + 1, none⟩ : Addr) ≠ ⟨w.heap.size, 2, none⟩ := fun e => by have e := congrArg Addr.block e; simp only at e; omega
  go_region_held3 (fun w' => w'.cell? ⟨w.heap.size, 2, none⟩ = some (.slice (some ⟨g, 0, none⟩) S.length cap1)) (first | exact (World.cell?_setCell_other _ _ _ _ hne).trans z7 | exact (World.cell?_setCell_other _ _ _ _ hne2).trans ((World.cell?_setCell_other _ _ _ _ hne).trans z7) | go_keep) (fail)
  have G7 : Hid (Cells ((w3.setCell ⟨g, i * 3, none⟩ (.int .i64 x)).setCell ⟨g, i * 3 + 1, none⟩ (.int .i64 x)).drew w.heap.size [.int .i64 p, .int .i64 L, .slice (some ⟨g, 0, none⟩) S.length cap1]) := Lib.hid (by
    have h := (E7.out.setOther (c := g) (i * 3) (.int .i64 x) (by omega)).setOther (c := g) (i * 3 + 1) (.int .i64 x) (by omega)
    exact ⟨h.cel, h.fr, h.lt⟩)
  have GB : Hid (Below w.heap.size w ((w3.setCell ⟨g, i * 3, none⟩ (.int .i64 x)).setCell ⟨g, i * 3 + 1, none⟩ (.int .i64 x)).drew) := Lib.hid ((EB.out.setCell (p := ⟨g, i * 3, none⟩) (by simp; omega) _).setCell (p := ⟨g, i * 3 + 1, none⟩) (by simp; omega) _).drew
  have GS : Hid (Stars ((w3.setCell ⟨g, i * 3, none⟩ (.int .i64 x)).setCell ⟨g, i * 3 + 1, none⟩ (.int .i64 x)).drew (some ⟨g, 0, none⟩) (P.atW S i x)) := Lib.hid (ES.out.put2 hi
    ((World.cell?_setCell_other _ _ _ _ (fun e => by have e := congrArg Addr.off e; simp only at e; omega)).trans (World.cell?_setCell_same _ _ _ c1))
    (World.cell?_setCell_same _ _ _ ((World.cell?_setCell_other _ _ _ _ (fun e => by have e := congrArg Addr.off e; simp only at e; omega)).trans c2))
    (fun o h1 h2 => (World.cell?_setCell_other _ _ _ _ (fun e => by have e := congrArg Addr.off e; simp only at e; omega)).trans (World.cell?_setCell_other _ _ _ _ (fun e => by have e := congrArg Addr.off e; simp only at e; omega))))
  clear c1 c2 c3 f1 f2 z7 hne hne2 E7 ES EF EB q1 q2
  generalize ((w3.setCell ⟨g, i * 3, none⟩ (.int .i64 x)).setCell ⟨g, i * 3 + 1, none⟩ (.int .i64 x)).drew = w4 at *
  clear w3
  go_wp2_with fail
  go_ret
  exact ⟨_, some ⟨g, 0, none⟩, cap1, rfl, Cells.job (S := P.atW S i x) (by rw [P.atW_length]; exact G7.out) GS.out, Nat.le_refl _, fun b off e => by cases e; omega, GB.out⟩
end Go.Proofs.Ytpkffjcmoghaaaa
/- Plain: a wear at which all punches are taken. -/
namespace Go.Proofs.Ytpkffjcmoghaaaa.P
theorem countP_getD (l : List Int) (x : Int) : (List.range l.length).countP (fun i => decide (l.getD i 0 = x)) = l.countP fun v => decide (v = x) := by
  have h : (List.range l.length).map (fun i => l.getD i 0) = l := by
    apply List.ext_getElem
    · simp
    · intro i h1 h2; simp [h2]
  conv => rhs; rw [← h]
  rw [List.countP_map]; rfl
theorem canAt_full {S : List Star} {p L k : Nat} {s : List Star × List Int} (h : PT S p L k s) (hk : k < S.length) {x : Int} (h0 : 0 ≤ x) (hL : x < L) (hc : s.2.countP (fun v => decide (v = x)) = p) : canAt s.1 p L k x = false := by
  cases hh : canAt s.1 p L k x with
  | false => rfl
  | true =>
    exfalso
    unfold canAt at hh
    rw [fitsB_iff] at hh
    have h1 := hh x x h0 (Int.le_refl _) hL
    rw [cnt_range, atW_length, h.len] at h1
    have hks : k < s.1.length := by rw [h.len]; exact hk
    have hsub : (List.range (k + 1)).Sublist (List.range S.length) := by
      rw [List.range_sublist]; omega
    have h2 := hsub.countP_le (p := fun i => decide (x ≤ (star (atW s.1 k x) i).1 ∧ (star (atW s.1 k x) i).2.1 ≤ x))
    rw [List.range_succ, List.countP_append] at h2
    have h3 : (List.range k).countP (fun i => decide (x ≤ (star (atW s.1 k x) i).1 ∧ (star (atW s.1 k x) i).2.1 ≤ x)) = p := by
      rw [← hc, ← countP_getD, h.wears]
      refine List.countP_congr fun i hi => ?_
      have hi' : i < k := by simpa using hi
      rw [star_atW s.1 k x i hks, if_neg (by omega), (h.done i hi').1]
      simp; omega
    have h4 : [k].countP (fun i => decide (x ≤ (star (atW s.1 k x) i).1 ∧ (star (atW s.1 k x) i).2.1 ≤ x)) = 1 := by
      rw [List.countP_singleton, star_atW s.1 k x k hks, if_pos rfl]; simp
    have h5 : (p : Int) * (x - x + 1) = p := by rw [show x - x + 1 = 1 by omega]; omega
    omega
theorem leastW_at {S : List Star} {p L : Int} {i : Nat} {w x : Int} {k : Nat} (h1 : w ≤ x) (h2 : x < w + k) (hc : canAt S p L i x = true) (hn : ∀ v, w ≤ v → v < x → canAt S p L i v = false) : leastW S p L i w k = x := by
  obtain ⟨g1, g2, g3, g4⟩ := leastW_spec k w ⟨x, h1, h2, hc⟩
  rcases Int.lt_trichotomy (leastW S p L i w k) x with h | h | h
  · rw [hn _ g1 h] at g3; cases g3
  · exact h
  · rw [g4 x h1 h] at hc; cases hc
end Go.Proofs.Ytpkffjcmoghaaaa.P
