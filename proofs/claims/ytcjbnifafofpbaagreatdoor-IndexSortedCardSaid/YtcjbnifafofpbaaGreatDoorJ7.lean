/- One text of ComE. -/
import Derived.Test.YtcjbnifafofpbaaGreatDoorJ6
import Derived.RangeFuncBox
/- Walks of the program's functions: read's own walk. -/
namespace Go.Proofs.YtcjbnifafofpbaaGreatDoor
open Go.RowKit
/-- All blocks below the base lie as they lay, but one. -/
structure Wk (base c2 : Nat) (w w' : World) : Prop where
  os : w'.os = w.os
  tape : w'.tape = w.tape
  output : w'.output = w.output
  size : w.heap.size ≤ w'.heap.size
  block : ∀ k, k < base → k ≠ c2 → w'.heap[k]? = w.heap[k]?
theorem Wk.refl (base c2 : Nat) (w : World) : Wk base c2 w w := ⟨rfl, rfl, rfl, Nat.le_refl _, fun _ _ _ => rfl⟩
theorem Wk.trans {base c2 : Nat} {a b c : World} (h : Wk base c2 a b) (k : Wk base c2 b c) : Wk base c2 a c :=
  ⟨k.os.trans h.os, k.tape.trans h.tape, k.output.trans h.output, Nat.le_trans h.size k.size, fun j hj hne => (k.block j hj hne).trans (h.block j hj hne)⟩
theorem Wk.of_below {base c2 : Nat} {a b : World} (h : Below base a b) : Wk base c2 a b := ⟨h.os, h.tape, h.output, h.size, fun k hk _ => h.block k hk⟩
theorem Wk.below {base c2 H : Nat} {w0 a b : World} (h : Wk base c2 a b) (hb : Below H w0 a) (hH : H ≤ base) (hc : H ≤ c2) : Below H w0 b :=
  ⟨h.os.trans hb.os, h.tape.trans hb.tape, h.output.trans hb.output, Nat.le_trans hb.size h.size, fun k hk => (h.block k (by omega) (by omega)).trans (hb.block k hk)⟩
theorem Wk.boxed {base c2 B : Nat} {t : TypeId} {v : Value} {a b : World} (h : Wk base c2 a b) (hx : Boxed a B t v) (h1 : B < base) (h2 : B ≠ c2) : Boxed b B t v := (h.block B h1 h2).trans hx
theorem Wk.cell {base c2 : Nat} {a b : World} (h : Wk base c2 a b) {p : Addr} {v : Value} (hx : a.cell? p = some v) (h1 : p.block < base) (h2 : p.block ≠ c2) : b.cell? p = some v := by
  have := h.block _ h1 h2
  unfold World.cell? at *
  rw [this]; exact hx
/-- Where the words that are read are kept. -/
def OutB (base c2 : Nat) (w : World) (o : List X.W) : Prop := ∃ v, Boxed w c2 22 v ∧ w.ownsRow base 9 1 v o.length (o.map sv) ∧ c2 < base ∧ base ≤ w.heap.size
/-- What a walk of read sees. -/
structure Env (s : List X.St) (a : Option Addr) (cap : Nat) (lv : List Int) (H c1 c2 c3 c4 g lc base : Nat) (w0 w : World) : Prop where
  bel : Below H w0 w
  b1 : Boxed w c1 25 (.slice a s.length cap)
  b3 : Boxed w c3 56 (.slice (some ⟨g, 0, none⟩) lv.length lc)
  b4 : Boxed w c4 102 (.func (.func 97) #[] #[.pointer (some ⟨c1, 0, none⟩), .pointer (some ⟨c2, 0, none⟩), .pointer (some ⟨c3, 0, none⟩), .pointer (some ⟨c4, 0, none⟩)])
  live : ∀ i, i < lv.length → w.cell? ⟨g, i, none⟩ = some (.int .i64 (nth lv i))
  lt : H ≤ base ∧ H ≤ c2 ∧ c1 < base ∧ c3 < base ∧ c4 < base ∧ g < base ∧ c1 ≠ c2 ∧ c3 ≠ c2 ∧ c4 ≠ c2 ∧ g ≠ c2
theorem Env.kept {s : List X.St} {a : Option Addr} {cap : Nat} {lv : List Int} {H c1 c2 c3 c4 g lc base : Nat} {w0 w w' : World} (h : Env s a cap lv H c1 c2 c3 c4 g lc base w0 w) (k : Wk base c2 w w') : Env s a cap lv H c1 c2 c3 c4 g lc base w0 w' := by
  obtain ⟨h1, h2, h3, h4, h5, h6, h7, h8, h9, h10⟩ := h.lt
  exact ⟨k.below h.bel h1 h2, k.boxed h.b1 h3 h7, k.boxed h.b3 h4 h8, k.boxed h.b4 h5 h9, fun i hi => k.cell (h.live i hi) h6 h10, h.lt⟩
/-- A word more. -/
theorem OutB.app {W w2 : World} {base c2 : Nat} {v v' : Value} {o : List X.W} {x : X.W} (hv : Boxed W c2 22 v) (hrow : W.ownsRow base 9 1 v o.length (o.map sv)) (hc : c2 < base ∧ base ≤ W.heap.size) (tmp : Obj)
    (hown' : w2.ownsRow base 9 1 v' (o.length + 1) (o.map sv ++ [sv x])) (hg : (W.alloc tmp).grownBy w2 v.ownBlock) : Boxed w2 c2 22 v ∧ OutB base c2 (w2.setCell ⟨c2, 0, none⟩ v') (o ++ [x]) ∧ Wk base c2 W (w2.setCell ⟨c2, 0, none⟩ v') := by
  have h2 : Boxed w2 c2 22 v := (hv.alloc tmp).kept hg (hv.not_row (by decide) hrow)
  have hsz : W.heap.size ≤ w2.heap.size := by have := hg.size; rw [World.size_alloc] at this; omega
  have hnr : some c2 ≠ v'.ownBlock := h2.not_row (by decide) hown'
  refine ⟨h2, ⟨v', h2.set v', ?_, hc.1, by simp [World.setCell]; omega⟩, ?_⟩
  · have := hown'.kept (grownBy_setCell' w2 c2 v') (.inr hnr.symm)
    rw [List.length_append, List.map_append]; exact this
  · refine ⟨hg.os, hg.tape, hg.output, by simp [World.setCell]; omega, fun k hk hne => ?_⟩
    have e1 : (w2.setCell ⟨c2, 0, none⟩ v').heap[k]? = w2.heap[k]? := (grownBy_setCell' w2 c2 v').block k (by omega) (fun e => hne (by injection e))
    have e2 : w2.heap[k]? = (W.alloc tmp).heap[k]? := hg.block k (by rw [World.size_alloc]; omega) (fun e => by
      rcases hrow.2 with ⟨rfl, _⟩ | ⟨g, cap, cur, rfl, hb, _, _⟩
      · simp [Value.ownBlock] at e
      · have : k = g := by simpa [Value.ownBlock] using e
        omega)
    rw [e1, e2]
    exact (World.grownBy_alloc W tmp none).block k (by omega) (by simp)
theorem readsTo_pre (s : List X.St) (i : Nat) (begun : X.W) {k n : Nat} (h : k ≤ n) : ∃ q, readsTo s i n begun = readsTo s i k begun ++ q := by
  unfold readsTo
  refine ⟨(((((X.at_ s i).letters.zip (X.at_ s i).next).take n).drop k).flatMap (fun p => (X.reads s p.2.toNat).map ((begun ++ [p.1]) ++ ·))), ?_⟩
  rw [List.append_assoc, ← List.flatMap_append]
  congr 2
  conv => { lhs; rw [← List.take_append_drop k (List.take n _)] }
  rw [List.take_take, Nat.min_eq_left h]
theorem bad_pre {o p q R : List X.W} (h : X.Bad o p) (e : R = p ++ q) : X.Bad o R := by
  subst e
  rcases h with ⟨w, hw, hl⟩ | h
  · exact .inl ⟨w, by simp [hw], hl⟩
  · exact .inr (by simp only [List.length_append] at h ⊢; omega)
/-- How a walk ends. -/
def WalkOut (base c2 : Nat) (W W' : World) (o R : List X.W) (e : Ending) : Prop :=
  ∃ ok : Bool, e = .returned (.bool ok) ∧ Wk base c2 W W' ∧ (ok = true → X.Good o R ∧ OutB base c2 W' (o ++ R)) ∧ (ok = false → X.Bad o R)
theorem WalkOut.no {base c2 : Nat} {W W' : World} {o R : List X.W} {e : Ending} (h : e = .returned (.bool false)) (hk : Wk base c2 W W') (hb : X.Bad o R) : WalkOut base c2 W W' o R e := ⟨false, h, hk, fun h => by (cases h), fun _ => hb⟩
theorem WalkOut.yes {base c2 : Nat} {W W' : World} {o R : List X.W} {e : Ending} (h : e = .returned (.bool true)) (hk : Wk base c2 W W') (hg : X.Good o R) (ho : OutB base c2 W' (o ++ R)) : WalkOut base c2 W W' o R e := ⟨true, h, hk, fun _ => ⟨hg, ho⟩, fun h => by (cases h)⟩
theorem OutB.drew {base c2 : Nat} {w w' : World} {o : List X.W} (h : OutB base c2 w o) (hd : Drew w w') : OutB base c2 w' o := by
  obtain ⟨v, h1, h2, h3, h4⟩ := h
  obtain ⟨n, rfl⟩ := hd
  exact ⟨v, h1, h2, h3, h4⟩
theorem Wk.of_drew {base c2 : Nat} {a b : World} (h : Drew a b) : Wk base c2 a b := by obtain ⟨n, rfl⟩ := h; exact ⟨rfl, rfl, rfl, Nat.le_refl _, fun _ _ _ => rfl⟩
set_option maxRecDepth 20000 in
set_option maxHeartbeats 4000000 in
theorem walkP_any (s : List X.St) (hA : X.Auto s) (hfew : Few s) (a : Option Addr) (cap : Nat) (lv : List Int) (hlv : lv.length = s.length) (hli : ∀ i, i < s.length → nth lv i = X.anyI (X.reads s i)) (c1 c2 c3 c4 g lc base : Nat) (w0 : World) (hst : Sts w0 a s) :
    ∀ (d i : Nat), s.length - i ≤ d → i < s.length → ∀ (begun : X.W) (W : World) (o : List X.W), begun.length ≤ 11 → (10 < begun.length → X.reads s i ≠ []) → o.length ≤ 30 → Env s a cap lv w0.heap.size c1 c2 c3 c4 g lc base w0 W → OutB base c2 W o →
      Calls Tryz.prog 97 #[.int .i64 (i : Int), sv begun, .pointer (some ⟨c1, 0, none⟩), .pointer (some ⟨c2, 0, none⟩), .pointer (some ⟨c3, 0, none⟩), .pointer (some ⟨c4, 0, none⟩)] W fun e W' =>
        WalkOut base c2 W W' o ((X.reads s i).map (begun ++ ·)) e := by
  have eg : ∀ args w, (callFunc 97 args).run Tryz.prog w = .ok (.enter 97 args) w := enters_of Tryz.func97 (by kernel_rfl) rfl
  intro d
  induction d with
  | zero => intro i hd hi; omega
  | succ d ih0 =>
    intro i hd hi begun W o hbl hlive hol hE hO
    have hn2 := hA.n2
    have IH := Lib.hid (fun (n : Nat) (h1 : i < n) (h2 : n < s.length) => ih0 n (by omega) h2)
    clear ih0
    have HLive : Hid (10 < begun.length → X.Bad o ((X.reads s i).map (begun ++ ·))) := Lib.hid (fun h => by
      obtain ⟨x, hx⟩ := List.exists_mem_of_ne_nil _ (hlive h)
      exact .inl ⟨begun ++ x, List.mem_map_of_mem (f := (begun ++ ·)) hx, by rw [List.length_append]; omega⟩)
    have HE := Lib.hid hE
    have HAll := readsTo_all hA hi begun
    have HPre : Hid (∀ k, k ≤ (X.at_ s i).next.length → ∃ q, (X.reads s i).map (begun ++ ·) = readsTo s i k begun ++ q) := Lib.hid (fun k hk => by rw [← HAll]; exact readsTo_pre s i begun hk)
    have HAll := Lib.hid HAll
    have HSucc := Lib.hid (fun k h1 h2 => readsTo_succ s i (k := k) begun h1 h2)
    have heq := Lib.hid (hA.eq _ (X.at_mem hi))
    have HNx : Hid (∀ k, k < (X.at_ s i).next.length → (i : Int) < nth (X.at_ s i).next k ∧ nth (X.at_ s i).next k < s.length) := Lib.hid (fun k hk => by
      rw [nth_eq _ k hk]; exact hA.nx i hi _ (List.getElem_mem hk))
    have HR0 : Hid (readsTo s i 0 begun = if (X.at_ s i).ends = 1 then [begun] else []) := Lib.hid (by unfold readsTo; simp)
    have hen := Lib.hid (hA.en _ (X.at_mem hi))
    have hAl : (X.at_ s i).letters.length ≤ 1000000 := (hfew _ (X.at_mem hi)).1
    have HLi := Lib.hid hli
    have hiI : (i : Int) < (s.length : Int) := by omega
    have hi0 : (0 : Int) ≤ (i : Int) := by omega
    have p1 := hE.b1.cell
    have p2 := hE.b3.cell
    have p3 := hE.b4.cell
    obtain ⟨v, hv, hrow, hcb, hbs⟩ := hO
    have hvc := hv.cell
    have HV := Lib.hid hv
    have HRow := Lib.hid hrow
    obtain ⟨b, off, ha, q1, q2, a2, cap2, q3, hi3⟩ := hst i hi
    subst ha
    have HI3 := Lib.hid hi3
    have Q1 := Lib.hid q1
    have Q2 := Lib.hid q2
    have Q3 := Lib.hid q3
    have q1 := cell_on hE.bel q1
    have q2 := cell_on hE.bel q2
    have q3 := cell_on hE.bel q3
    generalize hNx : (X.at_ s i).next = N at *
    generalize hAx : (X.at_ s i).letters = A at *
    clear hNx hAx
    clear hst hE hlive hA hli hi3 hfew
    generalize (X.reads s i).map (begun ++ ·) = R at *
    by_cases h10 : 10 < begun.length
    · have h10I : (10 : Int) < (begun.length : Int) := by omega
      have HBd := Lib.hid (HLive.out h10)
      clear h10
      go_enter Tryz.func97, Tryz.ntmps97
      go_wp2_with fail
      go_ret
      exact WalkOut.no rfl (Wk.refl _ _ _) HBd.out
    · have h10I : ¬ (10 : Int) < (begun.length : Int) := by omega
      clear HLive
      rcases hen.out with he | he
      · -- no word ends here
        rw [he] at q1 HR0
        have HR00 : readsTo s i 0 begun = [] := by rw [HR0.out]; rfl
        have HOr : Hid (OutB base c2 W (o ++ readsTo s i 0 begun)) := Lib.hid (by rw [HR00, List.append_nil]; exact ⟨v, HV.out, HRow.out, hcb, hbs⟩)
        have HGd : Hid (X.Good o (readsTo s i 0 begun)) := Lib.hid (by rw [HR00]; exact ⟨fun w hw => by (cases hw), by rw [List.append_nil]; exact hol⟩)
        obtain ⟨-, av, cv, rfl, -, -⟩ := Strs.of_ownsRow hrow
        have holI : ¬ (30 : Int) < (o.length : Int) := by omega
        clear HV HRow hv hrow HR0 HR00
        go_enter Tryz.func97, Tryz.ntmps97
        have HEr := HE
        have HKr := Lib.hid (Wk.refl base c2 W)
        go_wp2_with fail
        clear hvc
        go_loopw [9, 10, 33] (fun _ _ x wr => ∃ k : Nat, k ≤ N.length ∧ x = .int .i64 k ∧ Hid (OutB base c2 wr (o ++ readsTo s i k begun)) ∧ Hid (X.Good o (readsTo s i k begun)) ∧ Hid (Wk base c2 W wr)) (fun _ _ x _ => N.length - (intOf x).toNat)
        case atStart => exact ⟨0, by omega, rfl, HOr, HGd, HKr⟩
        case round =>
          clear HOr HGd HKr HEr
          obtain ⟨k, hk, rfl, HOr, HGd, HKr⟩ := hrel
          have HEr := Lib.hid (HE.out.kept HKr.out)
          have p1 := HEr.out.b1.cell
          have p2 := HEr.out.b3.cell
          have p3 := HEr.out.b4.cell
          by_cases hkl : k < N.length
          · have hkI : (k : Int) < (N.length : Int) := by omega
            have hk0 : (0 : Int) ≤ (k : Int) := by omega
            obtain ⟨b3, off3, rfl, q4⟩ := (HI3.out.below HEr.out.bel) k hkl
            have q2 := cell_on HEr.out.bel Q2.out
            have HRs := Lib.hid (HSucc.out k (by rw [heq.out]; exact hkl) hkl)
            have hkA' : k < A.length := by rw [heq.out]; exact hkl
            have hv := HNx.out k hkl
            have HPk := Lib.hid (HPre.out (k + 1) (by omega))
            obtain ⟨n, hn⟩ := Int.eq_ofNat_of_zero_le (show 0 ≤ nth N k by omega)
            rw [hn] at q4 hv HRs
            have hns : n < s.length := by omega
            have hni : i < n := by omega
            have hnI : (n : Int) < (lv.length : Int) := by omega
            have hn0 : (0 : Int) ≤ (n : Int) := by omega
            have q5 := HEr.out.live n (by omega)
            rw [HLi.out n hns] at q5
            have ex : (ByteArray.mk A.toArray).extract k (k + 1) = ⟨[wc A k].toArray⟩ := by
              rw [ByteArray.extract_mk, show k + 1 - k = 1 by omega, List.drop_eq_getElem_cons hkA', wc_eq A k hkA']; rfl
            have hkA : k ≤ A.length := by omega
            have hkA1 : (k : Int) + 1 ≤ (A.length : Int) := by omega
            have hkA2 : (k : Int) ≤ (A.length : Int) := by omega
            generalize wc A k = c at *
            rw [Int.toNat_natCast] at HRs
            clear hn hv hkA' hd
            rcases X.anyI_cases (X.reads s n) with ⟨hz1, hz2⟩ | ⟨hz1, hz2⟩
            · rw [hz1] at q5
              rw [hz2, List.map_nil, List.append_nil] at HRs
              have HO2 : Hid (OutB base c2 wr (o ++ readsTo s i (k + 1) begun)) := Lib.hid (by rw [HRs.out]; exact HOr.out)
              have HG2 : Hid (X.Good o (readsTo s i (k + 1) begun)) := Lib.hid (by rw [HRs.out]; exact HGd.out)
              clear hz1 hz2 HRs HOr HGd IH HPk HSucc HPre
              go_wp2_with fail
              go_quiet (fail)
              go_wp2_with fail
              go_roundw
              case rel => exact ⟨k + 1, by omega, by go_num, Lib.hid (HO2.out.drew ⟨_, rfl⟩), HG2, Lib.hid (HKr.out.trans (Wk.of_drew ⟨_, rfl⟩))⟩
              case measure => simp [intOf]; omega
            · rw [hz1] at q5
              have hadd : (ByteArray.mk begun.toArray) ++ (ByteArray.mk [c].toArray) = ⟨(begun ++ [c]).toArray⟩ := ByteArray.mk_append_mk begun [c]
              have hadd2 : ¬ 9223372036854775807 < begun.length + 1 := by omega
              have hk01 : (0 : Int) ≤ (k : Int) + 1 := by omega
              have hkk : (k : Int) ≤ (k : Int) + 1 := by omega
              have hkt : ((k : Int) + 1).toNat = k + 1 := by omega
              have kk1 : IntKind.i64.wrap ((k : Int) + 1) = (k : Int) + 1 := IntWalk.i64_in _ (by omega)
              have hbl2 : (begun ++ [c]).length ≤ 11 := by rw [List.length_append, List.length_singleton]; omega
              have hol2 : (o ++ readsTo s i k begun).length ≤ 30 := HGd.out.2
              have HC : Hid (∀ W', Drew wr W' → Calls Tryz.prog 97 #[.int .i64 (n : Int), sv (begun ++ [c]), .pointer (some ⟨c1, 0, none⟩), .pointer (some ⟨c2, 0, none⟩), .pointer (some ⟨c3, 0, none⟩), .pointer (some ⟨c4, 0, none⟩)] W' fun e W'' => WalkOut base c2 W' W'' (o ++ readsTo s i k begun) ((X.reads s n).map ((begun ++ [c]) ++ ·)) e) :=
                Lib.hid (fun W' hd => IH.out n hni hns (begun ++ [c]) W' (o ++ readsTo s i k begun) hbl2 (fun _ => hz2) hol2 (HEr.out.kept (Wk.of_drew hd)) (HOr.out.drew hd))
              generalize (X.reads s n).map ((begun ++ [c]) ++ ·) = C at *
              clear hz1 hz2 IH HSucc HPre hol2 hbl2 HOr
              go_wp2_with fail
              go_still_tail 19, (by kernel_rfl)
              go_wp2_with fail
              refine (HC.out _ ⟨1, rfl⟩).mono ?_
              rintro e w3 ⟨ok, rfl, hk3, ht3, hf3⟩
              cases ok with
              | true =>
                obtain ⟨hg3, ho3⟩ := ht3 rfl
                have HO2 : Hid (OutB base c2 w3 (o ++ readsTo s i (k + 1) begun)) := Lib.hid (by rw [HRs.out, ← List.append_assoc]; exact ho3)
                have HG2 : Hid (X.Good o (readsTo s i (k + 1) begun)) := Lib.hid (by rw [HRs.out]; exact HGd.out.app hg3)
                have HK2 : Hid (Wk base c2 W w3) := Lib.hid ((HKr.out.trans (Wk.of_drew (⟨1, rfl⟩ : Drew wr _))).trans hk3)
                clear hg3 ho3 ht3 hf3 hk3 HC HRs HGd
                go_wp2_with fail
                go_roundw
                case rel => exact ⟨k + 1, by omega, by go_num, HO2, HG2, HK2⟩
                case measure => simp [intOf]; omega
              | false =>
                have hb3 := hf3 rfl
                have HBd : Hid (X.Bad o R) := Lib.hid (by
                  obtain ⟨q, hq⟩ := HPk.out
                  rw [hq, HRs.out, List.append_assoc]
                  exact hb3.app q)
                have HK2 : Hid (Wk base c2 W w3) := Lib.hid ((HKr.out.trans (Wk.of_drew (⟨1, rfl⟩ : Drew wr _))).trans hk3)
                clear hb3 ht3 hf3 hk3 HC HRs HGd
                go_wp2_with fail
                go_ret
                exact WalkOut.no rfl HK2.out HBd.out
          · have ek : k = N.length := by omega
            subst ek
            rw [HAll.out] at HOr HGd
            have hkI : ¬ (N.length : Int) < (N.length : Int) := by omega
            go_wp2_with fail
            go_ret
            exact WalkOut.yes rfl HKr.out HGd.out HOr.out
      · -- a word ends here
        rw [he] at q1 HR0
        have HR00 : readsTo s i 0 begun = [begun] := by rw [HR0.out]; rfl
        have O5 := Lib.hid (hrow.alloc (.cells #[sv begun] 9))
        have hnews := Lib.hid (news_new W #[sv begun] 9)
        have hszW : base ≤ (W.alloc (.cells #[sv begun] 9)).heap.size := by rw [World.size_alloc]; omega
        have hn : o.length + 1 ≤ 2000000 := by omega
        have HR0e := Lib.hid HR00
        clear HR0 HR00
        have hvf := hv.frozen
        obtain ⟨-, av, cv, rfl, -, -⟩ := Strs.of_ownsRow hrow
        clear hv hrow
        by_cases h30 : 30 ≤ o.length
        · have HBd : Hid (X.Bad o R) := Lib.hid (by
            obtain ⟨q, hq⟩ := HPre.out 0 (by omega)
            rw [HR0e.out] at hq
            exact bad_pre (.inr (by simp; omega)) hq)
          have h30I : (30 : Int) < ((o.length + 1 : Nat) : Int) := by omega
          have h30J : (30 : Int) < (o.length : Int) + 1 := by omega
          clear HPre
          go_enter Tryz.func97, Tryz.ntmps97
          go_wp2_with (at_builtin; refine listApp T22 rfl (.tmp 20) (.tmp 22) rfl base (.slice av o.length cv) o.length (o.map sv) [sv begun] 1 1 ⟨W.heap.size, 0, none⟩ rfl O5.out rfl rfl hnews.out (by simp [Value.oneCell']) hn hszW ?_; intro v8 w8 hown8 hg8 hL8; obtain ⟨hb8, ho8, hk8⟩ := OutB.app HV.out HRow.out ⟨hcb, hbs⟩ (.cells #[sv begun] 9) hown8 hg8; obtain ⟨g', cap', rfl⟩ := ownsRow_succ hown8; have hx8 := hb8.cell; have hy8 := hb8.frozen; obtain ⟨v9, hb9, -, -, -⟩ := ho8; have hx9 := (Boxed.set (.slice (some ⟨g', 0, none⟩) (o.length + 1) cap') hb8).cell)
          go_ret
          exact WalkOut.no rfl hk8 HBd.out
        · have h30I : ¬ (30 : Int) < ((o.length + 1 : Nat) : Int) := by omega
          have h30J : ¬ (30 : Int) < (o.length : Int) + 1 := by omega
          go_enter Tryz.func97, Tryz.ntmps97
          have HGd : Hid (X.Good o (readsTo s i 0 begun)) := Lib.hid (by
            rw [HR0e.out]
            exact ⟨fun w hw => by rw [List.mem_singleton.1 hw]; omega, by rw [List.length_append, List.length_singleton]; omega⟩)
          clear h30
          go_wp2_with (at_builtin; refine listApp T22 rfl (.tmp 20) (.tmp 22) rfl base (.slice av o.length cv) o.length (o.map sv) [sv begun] 1 1 ⟨W.heap.size, 0, none⟩ rfl O5.out rfl rfl hnews.out (by simp [Value.oneCell']) hn hszW ?_; intro v8 w8 hown8 hg8 hL8; obtain ⟨hb8, ho8, hk8⟩ := OutB.app HV.out HRow.out ⟨hcb, hbs⟩ (.cells #[sv begun] 9) hown8 hg8; obtain ⟨g', cap', rfl⟩ := ownsRow_succ hown8; have HX8 := Lib.hid hb8; have hx8 := hb8.cell; have hy8 := hb8.frozen; have HO8 := Lib.hid ho8; have HK8 := Lib.hid hk8; have hx9 := (Boxed.set (.slice (some ⟨g', 0, none⟩) (o.length + 1) cap') hb8).cell; have hE8 := HE.out.kept hk8; have p1 := hE8.b1.cell; have p2 := hE8.b3.cell; have p3 := hE8.b4.cell; have q1 := cell_on hE8.bel Q1.out; have q2 := cell_on hE8.bel Q2.out; have q3 := cell_on hE8.bel Q3.out; clear hown8 hg8 hL8 hb8 ho8 hk8 hE8)
          have HKr := HK8
          have HEr := Lib.hid (HE.out.kept HK8.out)
          have HOr : Hid (OutB base c2 (w8.setCell ⟨c2, 0, none⟩ (.slice (some ⟨g', 0, none⟩) (o.length + 1) cap')) (o ++ readsTo s i 0 begun)) := Lib.hid (by rw [HR0e.out]; exact HO8.out)
          clear p1 p2 p3 q1 q2 q3 hx8 hy8 hx9 HX8 HO8 HK8 O5 hnews HV HRow
          go_loopw [9, 10, 33] (fun _ _ x wr => ∃ k : Nat, k ≤ N.length ∧ x = .int .i64 k ∧ Hid (OutB base c2 wr (o ++ readsTo s i k begun)) ∧ Hid (X.Good o (readsTo s i k begun)) ∧ Hid (Wk base c2 W wr)) (fun _ _ x _ => N.length - (intOf x).toNat)
          case atStart => exact ⟨0, by omega, rfl, HOr, HGd, HKr⟩
          case round =>
            clear HOr HGd HKr HEr
            obtain ⟨k, hk, rfl, HOr, HGd, HKr⟩ := hrel
            have HEr := Lib.hid (HE.out.kept HKr.out)
            have p1 := HEr.out.b1.cell
            have p2 := HEr.out.b3.cell
            have p3 := HEr.out.b4.cell
            by_cases hkl : k < N.length
            · have hkI : (k : Int) < (N.length : Int) := by omega
              have hk0 : (0 : Int) ≤ (k : Int) := by omega
              obtain ⟨b3, off3, rfl, q4⟩ := (HI3.out.below HEr.out.bel) k hkl
              have q2 := cell_on HEr.out.bel Q2.out
              have HRs := Lib.hid (HSucc.out k (by rw [heq.out]; exact hkl) hkl)
              have hkA' : k < A.length := by rw [heq.out]; exact hkl
              have hv := HNx.out k hkl
              have HPk := Lib.hid (HPre.out (k + 1) (by omega))
              obtain ⟨n, hn⟩ := Int.eq_ofNat_of_zero_le (show 0 ≤ nth N k by omega)
              rw [hn] at q4 hv HRs
              have hns : n < s.length := by omega
              have hni : i < n := by omega
              have hnI : (n : Int) < (lv.length : Int) := by omega
              have hn0 : (0 : Int) ≤ (n : Int) := by omega
              have q5 := HEr.out.live n (by omega)
              rw [HLi.out n hns] at q5
              have ex : (ByteArray.mk A.toArray).extract k (k + 1) = ⟨[wc A k].toArray⟩ := by
                rw [ByteArray.extract_mk, show k + 1 - k = 1 by omega, List.drop_eq_getElem_cons hkA', wc_eq A k hkA']; rfl
              have hkA : k ≤ A.length := by omega
              have hkA1 : (k : Int) + 1 ≤ (A.length : Int) := by omega
              have hkA2 : (k : Int) ≤ (A.length : Int) := by omega
              generalize wc A k = c at *
              rw [Int.toNat_natCast] at HRs
              clear hn hv hkA' hd
              rcases X.anyI_cases (X.reads s n) with ⟨hz1, hz2⟩ | ⟨hz1, hz2⟩
              · rw [hz1] at q5
                rw [hz2, List.map_nil, List.append_nil] at HRs
                have HO2 : Hid (OutB base c2 wr (o ++ readsTo s i (k + 1) begun)) := Lib.hid (by rw [HRs.out]; exact HOr.out)
                have HG2 : Hid (X.Good o (readsTo s i (k + 1) begun)) := Lib.hid (by rw [HRs.out]; exact HGd.out)
                clear hz1 hz2 HRs HOr HGd IH HPk HSucc HPre
                go_wp2_with fail
                go_quiet (fail)
                go_wp2_with fail
                go_roundw
                case rel => exact ⟨k + 1, by omega, by go_num, Lib.hid (HO2.out.drew ⟨_, rfl⟩), HG2, Lib.hid (HKr.out.trans (Wk.of_drew ⟨_, rfl⟩))⟩
                case measure => simp [intOf]; omega
              · rw [hz1] at q5
                have hadd : (ByteArray.mk begun.toArray) ++ (ByteArray.mk [c].toArray) = ⟨(begun ++ [c]).toArray⟩ := ByteArray.mk_append_mk begun [c]
                have hadd2 : ¬ 9223372036854775807 < begun.length + 1 := by omega
                have hk01 : (0 : Int) ≤ (k : Int) + 1 := by omega
                have hkk : (k : Int) ≤ (k : Int) + 1 := by omega
                have hkt : ((k : Int) + 1).toNat = k + 1 := by omega
                have kk1 : IntKind.i64.wrap ((k : Int) + 1) = (k : Int) + 1 := IntWalk.i64_in _ (by omega)
                have hbl2 : (begun ++ [c]).length ≤ 11 := by rw [List.length_append, List.length_singleton]; omega
                have hol2 : (o ++ readsTo s i k begun).length ≤ 30 := HGd.out.2
                have HC : Hid (∀ W', Drew wr W' → Calls Tryz.prog 97 #[.int .i64 (n : Int), sv (begun ++ [c]), .pointer (some ⟨c1, 0, none⟩), .pointer (some ⟨c2, 0, none⟩), .pointer (some ⟨c3, 0, none⟩), .pointer (some ⟨c4, 0, none⟩)] W' fun e W'' => WalkOut base c2 W' W'' (o ++ readsTo s i k begun) ((X.reads s n).map ((begun ++ [c]) ++ ·)) e) :=
                  Lib.hid (fun W' hd => IH.out n hni hns (begun ++ [c]) W' (o ++ readsTo s i k begun) hbl2 (fun _ => hz2) hol2 (HEr.out.kept (Wk.of_drew hd)) (HOr.out.drew hd))
                generalize (X.reads s n).map ((begun ++ [c]) ++ ·) = C at *
                clear hz1 hz2 IH HSucc HPre hol2 hbl2 HOr
                go_wp2_with fail
                go_still_tail 19, (by kernel_rfl)
                go_wp2_with fail
                refine (HC.out _ ⟨1, rfl⟩).mono ?_
                rintro e w3 ⟨ok, rfl, hk3, ht3, hf3⟩
                cases ok with
                | true =>
                  obtain ⟨hg3, ho3⟩ := ht3 rfl
                  have HO2 : Hid (OutB base c2 w3 (o ++ readsTo s i (k + 1) begun)) := Lib.hid (by rw [HRs.out, ← List.append_assoc]; exact ho3)
                  have HG2 : Hid (X.Good o (readsTo s i (k + 1) begun)) := Lib.hid (by rw [HRs.out]; exact HGd.out.app hg3)
                  have HK2 : Hid (Wk base c2 W w3) := Lib.hid ((HKr.out.trans (Wk.of_drew (⟨1, rfl⟩ : Drew wr _))).trans hk3)
                  clear hg3 ho3 ht3 hf3 hk3 HC HRs HGd
                  go_wp2_with fail
                  go_roundw
                  case rel => exact ⟨k + 1, by omega, by go_num, HO2, HG2, HK2⟩
                  case measure => simp [intOf]; omega
                | false =>
                  have hb3 := hf3 rfl
                  have HBd : Hid (X.Bad o R) := Lib.hid (by
                    obtain ⟨q, hq⟩ := HPk.out
                    rw [hq, HRs.out, List.append_assoc]
                    exact hb3.app q)
                  have HK2 : Hid (Wk base c2 W w3) := Lib.hid ((HKr.out.trans (Wk.of_drew (⟨1, rfl⟩ : Drew wr _))).trans hk3)
                  clear hb3 ht3 hf3 hk3 HC HRs HGd
                  go_wp2_with fail
                  go_ret
                  exact WalkOut.no rfl HK2.out HBd.out
            · have ek : k = N.length := by omega
              subst ek
              rw [HAll.out] at HOr HGd
              have hkI : ¬ (N.length : Int) < (N.length : Int) := by omega
              go_wp2_with fail
              go_ret
              exact WalkOut.yes rfl HKr.out HGd.out HOr.out

end Go.Proofs.YtcjbnifafofpbaaGreatDoor
