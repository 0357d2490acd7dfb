/- One text of ComJ, ComK. -/
import Derived.Test.YtcjbnifafofpbaaGreatDoorJ12
import Derived.Shelf.GgSortFunc.SW
/- Rows that are sorted in place; Clone, Sort, Compact. -/
namespace Go.Proofs.YtcjbnifafofpbaaGreatDoor
open Go.RowKit Go.Lib Go.Sort
theorem lt_list : ∀ a b : X.W, X.lt a b = true ↔ a < b
  | a, [] => by cases a <;> simp [X.lt]
  | [], _ :: _ => by simp [X.lt]
  | a :: x, b :: y => by
    rw [X.lt_cons, lt_list x y, List.cons_lt_cons_iff]
theorem le_list (a b : X.W) : decide (a ≤ b) = !X.lt b a := by
  rw [Bool.eq_iff_iff, decide_eq_true_iff, Bool.not_eq_true']
  show ¬ b < a ↔ _
  rw [← lt_list]; simp
theorem merge_sorted (S : List X.W) : (S.mergeSort fun x y => decide (x ≤ y)).Pairwise (fun a b => X.lt b a = false) := by
  have := List.pairwise_mergeSort (le := fun x y : X.W => decide (x ≤ y)) (fun a b c h1 h2 => by
    rw [le_list] at *
    simp only [Bool.not_eq_true'] at *
    cases h : X.lt c a with
    | false => rfl
    | true =>
      rcases X.lt_total a b with k | rfl | k
      · rw [X.lt_trans h k] at h2; cases h2
      · rw [h] at h2; cases h2
      · rw [k] at h1; cases h1) (fun a b => by
    rw [le_list, le_list]
    cases h : X.lt b a with
    | false => rfl
    | true => rw [X.lt_asymm h]; rfl) S
  exact this.imp (fun h => by rw [le_list] at h; simpa using h)
theorem atB (S : List X.W) (m : Nat) : S.toArray[m]! = wat S m := by
  unfold wat
  by_cases h : m < S.length
  · simp [h, getElem!_pos]
  · simp [h]; rfl
theorem compact_upto (S : List X.W) (hS : S.Pairwise (fun a b => X.lt b a = false)) : ∀ m, m ≤ S.length → (Lib.compactUpTo S.toArray m).Pairwise (fun a b => X.lt a b = true) ∧ ∀ x, x ∈ Lib.compactUpTo S.toArray m ↔ x ∈ S.take m := by
  have hle : ∀ i j, i ≤ j → j < S.length → X.lt (wat S j) (wat S i) = false := fun i j hij hj => by
    by_cases e : i = j
    · subst e; exact X.lt_irrefl _
    · rw [wat_eq S i (by omega), wat_eq S j hj]; exact List.pairwise_iff_getElem.1 hS i j (by omega) hj (by omega)
  intro m
  induction m with
  | zero => intro _; exact ⟨by unfold Lib.compactUpTo; simp, fun x => by unfold Lib.compactUpTo; simp⟩
  | succ m ih =>
    intro hm
    obtain ⟨h1, h2⟩ := ih (by omega)
    rw [Lib.compactUpTo_succ, atB]
    rw [take_succ_wat S m (by omega)]
    cases hk : Lib.keeps S.toArray m with
    | true =>
      rw [if_pos rfl]
      refine ⟨?_, fun x => by rw [List.mem_append, List.mem_append, h2]⟩
      rw [List.pairwise_append]
      refine ⟨h1, by simp, fun x hx y hy => ?_⟩
      rw [List.mem_singleton.1 hy]
      obtain ⟨j, hj, rfl⟩ := List.getElem_of_mem ((h2 x).1 hx)
      have hjm : j < m := by rw [List.length_take] at hj; omega
      have hxj : (S.take m)[j] = wat S j := by rw [List.getElem_take, wat_eq S j (by omega)]
      rw [hxj]
      rcases X.lt_total (wat S j) (wat S m) with k | k | k
      · exact k
      · exfalso
        have hne : wat S m ≠ wat S (m - 1) := by
          unfold Lib.keeps at hk
          rw [atB, atB] at hk
          have : ¬ m = 0 := by omega
          simpa [this] using hk
        have h3 := hle j (m - 1) (by omega) (by omega)
        have h4 := hle (m - 1) m (by omega) (by omega)
        rw [k] at h3
        rcases X.lt_total (wat S (m - 1)) (wat S m) with q | q | q
        · rw [q] at h3; cases h3
        · exact hne q.symm
        · rw [q] at h4; cases h4
      · have := hle j m (by omega) (by omega)
        rw [this] at k; cases k
    | false =>
      rw [if_neg (by simp)]
      rw [List.append_nil]
      refine ⟨h1, fun x => ?_⟩
      have hm0 : 0 < m := by
        cases m with
        | zero => simp [Lib.keeps] at hk
        | succ m => omega
      have he : wat S m = wat S (m - 1) := by
        unfold Lib.keeps at hk
        rw [atB, atB] at hk
        have : ¬ m = 0 := by omega
        simpa [this] using hk
      rw [h2, List.mem_append, List.mem_singleton, he]
      constructor
      · exact .inl
      · rintro (h | rfl)
        · exact h
        · rw [wat_eq S (m - 1) (by omega)]
          exact List.mem_take_iff_getElem.2 ⟨m - 1, by omega, rfl⟩
theorem compactUpTo_len (S : List X.W) : ∀ m, (Lib.compactUpTo S.toArray m).length ≤ m
  | 0 => by unfold Lib.compactUpTo; simp
  | m + 1 => by
    rw [Lib.compactUpTo_succ, List.length_append]
    have := compactUpTo_len S m
    split <;> simp <;> omega
theorem compact_spec (S : List X.W) (hS : S.Pairwise (fun a b => X.lt b a = false)) : X.Rises (Lib.compact S) ∧ ∀ x, x ∈ Lib.compact S ↔ x ∈ S := by
  have := compact_upto S hS S.length (Nat.le_refl _)
  rw [List.take_length] at this
  exact this
/-- Words in cells that may be written. -/
structure Row (w : World) (g cap : Nat) (l : List X.W) : Prop where
  holds : Holds encStr w g 0 l.toArray
  le : l.length ≤ cap
  lt : g < w.heap.size
theorem Row.strs {w : World} {g cap : Nat} {l : List X.W} (h : Row w g cap l) : Strs w (some ⟨g, 0, none⟩) l := fun i hi => by
  have := (h.holds i (by simpa using hi)).1
  refine ⟨g, 0, rfl, ?_⟩
  rw [this, atB]
theorem Row.of_own {w : World} {base : Nat} {v : Value} {l : List X.W} (h : w.ownsRow base 9 1 v l.length (l.map sv)) : (v = .slice none 0 0 ∧ l = []) ∨ ∃ g cap, v = .slice (some ⟨g, 0, none⟩) l.length cap ∧ Row w g cap l ∧ base ≤ g := by
  rcases h.2 with ⟨e, h0⟩ | ⟨g, cap, cur, e, hb, hg, hn, hm, hs, ht⟩
  · exact .inl ⟨e, List.eq_nil_of_length_eq_zero h0⟩
  · subst e
    refine .inr ⟨g, cap, rfl, ⟨fun j hj => ⟨?_, World.ownsRow.frozenAt h _⟩, hn, (World.ownsRow.lt h g rfl).2⟩, hb⟩
    have hj' : j < l.length := by simpa using hj
    rw [Nat.zero_add, World.ownsRow.cellAt h j (by omega), atB]
    simp [wat, hj']
theorem heap_putRow {α : Type} [Inhabited α] (enc : α → Value) (w : World) (blk off : Nat) (d : Array α) : (putRow enc w blk off d).heap.size = w.heap.size ∧ ∀ k, k ≠ blk → (putRow enc w blk off d).heap[k]? = w.heap[k]? := by
  refine ⟨by simp [putRow, mapBlock], fun k hk => ?_⟩
  have hk' : ¬ blk = k := fun e => hk e.symm
  simp [putRow, mapBlock, Array.getElem?_modify, hk']
theorem below_putRow {α : Type} [Inhabited α] (enc : α → Value) (w : World) (q blk off : Nat) (d : Array α) (os : Array Obj) {B : Nat} (hB : B ≤ blk) (hw : B ≤ w.heap.size) : RowKit.Below B w (grow (putRow enc (Sort.ahead w q) blk off d) os) := by
  obtain ⟨h1, h2⟩ := heap_putRow enc (Sort.ahead w q) blk off d
  have hs : (putRow enc (Sort.ahead w q) blk off d).heap.size = w.heap.size := h1
  refine ⟨rfl, rfl, rfl, by simp only [grow, Array.size_append, hs]; omega, fun k hk => ?_⟩
  have h3 : (grow (putRow enc (Sort.ahead w q) blk off d) os).heap[k]? = (putRow enc (Sort.ahead w q) blk off d).heap[k]? := by
    simp only [grow]; rw [Array.getElem?_append_left (by rw [hs]; omega)]
  rw [h3, h2 k (by omega)]; rfl
theorem clone_any (a : Option Addr) (cap : Nat) (l : List X.W) (w : World) (hl : l.length ≤ 1000000) (hs : Strs w a l) :
    Calls Tryz.prog 83 #[.slice a l.length cap] w fun e w' => ∃ v, e = .returned v ∧ w'.ownsRow w.heap.size 9 1 v l.length (l.map sv) ∧ RowKit.Below w.heap.size w w' := by
  cases a with
  | none =>
    have hL : l = [] := by
      cases l with
      | nil => rfl
      | cons x r => obtain ⟨b, off, e, -⟩ := hs 0 (by simp); cases e
    subst hL
    refine (lay_slices_Clone_nil 0 cap w).mono ?_
    rintro e w' ⟨rfl, rfl⟩
    exact ⟨_, rfl, World.ownsRow_nil _ _ _ _, RowKit.Below.refl _ _⟩
  | some ad =>
    cases hL : l with
    | nil =>
      refine (lay_slices_Clone_zero ad cap w).mono ?_
      rintro e w' ⟨v, rfl, h1, -, h2⟩
      exact ⟨v, rfl, h1, h2⟩
    | cons x r =>
      have hpos : 0 < l.length := by rw [hL]; simp
      obtain ⟨b, off, e, -⟩ := hs 0 hpos
      cases e
      rw [← hL]
      refine (lay_slices_Clone b off l.length cap (l.map bs) w (by simp) (by omega) (fun j hj => ?_)).mono ?_
      · have hj' : j < l.length := by simpa using hj
        rw [hs.cellAt j hj']
        simp [wat, hj']
      · rintro e w' ⟨v, rfl, h1, -, h2⟩
        refine ⟨v, rfl, ?_, h2⟩
        rw [List.take_of_length_le (by simp), List.map_map] at h1
        exact h1
theorem sort_any (g cap : Nat) (l : List X.W) (w : World) (hl : l.length ≤ 1000000) (h : Row w g cap l) {B : Nat} (hB : B ≤ g) :
    Calls Tryz.prog 84 #[.slice (some ⟨g, 0, none⟩) l.length cap] w fun e w' => e = .returned (.tuple #[]) ∧ Row w' g cap (l.mergeSort fun x y => decide (x ≤ y)) ∧ RowKit.Below B w w' := by
  refine (lay_slices_Sort g 0 cap l w h.holds h.lt (by omega)).mono ?_
  rintro e w' ⟨rfl, n, os, rfl⟩
  have hlt := h.lt
  have hSW : SW encStr w g 0 (l.mergeSort fun x y => decide (x ≤ y)).toArray (grow (putRow encStr (Sort.ahead w n) g 0 (l.mergeSort fun x y => decide (x ≤ y)).toArray) os) := ⟨n, os, rfl⟩
  have hH := hSW.holds hlt h.holds (by simp)
  refine ⟨rfl, ⟨hH, by rw [List.length_mergeSort]; exact h.le, ?_⟩, below_putRow _ _ _ _ _ _ _ hB (by omega)⟩
  have := (heap_putRow encStr (Sort.ahead w n) g 0 (l.mergeSort fun x y => decide (x ≤ y)).toArray).1
  simp only [grow, Array.size_append, this]
  exact Nat.lt_of_lt_of_le hlt (Nat.le_add_right _ _)
theorem compact_any (g cap : Nat) (l : List X.W) (w : World) (hl : l.length ≤ 1000000) (h : Row w g cap l) {B : Nat} (hB : B ≤ g) :
    Calls Tryz.prog 85 #[.slice (some ⟨g, 0, none⟩) l.length cap] w fun e w' => e = .returned (.slice (some ⟨g, 0, none⟩) (Lib.compact l).length cap) ∧ Strs w' (some ⟨g, 0, none⟩) (Lib.compact l) ∧ RowKit.Below B w w' := by
  refine (lay_slices_Compact g 0 cap l w h.holds (by omega) h.le).mono ?_
  rintro e w' ⟨rfl, q, rfl⟩
  have hlt := h.lt
  have hlen : (Lib.compact l).length ≤ l.length := by
    exact compactUpTo_len l l.length
  have hb := below_putRow encStr w q g 0 (Lib.compact l ++ List.replicate (l.length - (Lib.compact l).length) []).toArray #[] hB (by omega)
  rw [grow_empty] at hb
  refine ⟨rfl, fun i hi => ⟨g, 0, rfl, ?_⟩, hb⟩
  have hH := holds_putRow encStr (Sort.ahead w q) g 0 l.toArray (Lib.compact l ++ List.replicate (l.length - (Lib.compact l).length) []).toArray h.holds (by simp; omega)
  have := (hH i (by simp; omega)).1
  rw [this, atB]
  simp [wat, List.getElem?_append_left hi]
end Go.Proofs.YtcjbnifafofpbaaGreatDoor
/- Walks of the program's functions: two, Join, Both. -/
namespace Go.Proofs.YtcjbnifafofpbaaGreatDoor
open Go.RowKit Go.Lib Go.Sort
set_option maxRecDepth 20000 in
theorem twoP_any (a : Option Addr) (cap : Nat) (l : List X.W) (b : Option Addr) (cap2 : Nat) (m : List X.W) (w : World) (hl : l.length ≤ 1000000) (hm : m.length ≤ 1000000) (hrl : Rooms l) (hrm : Rooms m) (ha : Strs w a l) (hb : Strs w b m) :
    Calls Tryz.prog 82 #[.slice a l.length cap, .slice b m.length cap2] w fun e w' => e = .returned (.int .i64 (X.twoE l m)) ∧ RowKit.Below w.heap.size w w' := by
  have HA := Lib.hid (checkListP_any a cap l w hl hrl ha)
  have HB := Lib.hid (fun W hd => checkListP_any b cap2 m W hm hrm (hb.below hd))
  clear ha hb
  have HT : Hid (X.twoE l m = if X.listE l ≠ 0 then X.listE l else X.listE m) := Lib.hid rfl
  generalize X.twoE l m = t at *
  generalize X.listE l = p at *
  generalize X.listE m = q at *
  by_cases hp : p = 0
  · subst hp
    go_enter Tryz.func82, Tryz.ntmps82
    go_wp2_with fail
    refine HA.out.mono ?_
    rintro e w1 ⟨rfl, hb1⟩
    have HB1 := Lib.hid hb1
    clear hb1
    go_wp2_with fail
    refine (HB.out _ HB1.out).mono ?_
    rintro e w2 ⟨rfl, hb2⟩
    go_wp2_with fail
    go_ret
    exact ⟨ret_int HT.out.symm, HB1.out.trans (hb2.mono HB1.out.size)⟩
  · have hn := ne_bool hp
    have HT2 : Hid (t = p) := Lib.hid (by rw [HT.out, if_pos hp])
    clear hp
    go_enter Tryz.func82, Tryz.ntmps82
    go_wp2_with fail
    refine HA.out.mono ?_
    rintro e w1 ⟨rfl, hb1⟩
    go_wp2_with fail
    go_ret
    exact ⟨ret_int HT2.out.symm, hb1⟩
theorem two_ok {l m : List X.W} (h : X.twoE l m = 0) : X.List_ l ∧ X.List_ m := by
  unfold X.twoE at h
  by_cases h1 : X.listE l = 0
  · rw [if_neg (not_not_intro h1)] at h
    exact ⟨X.listE_iff.1 h1, X.listE_iff.1 h⟩
  · rw [if_pos h1] at h; exact absurd h h1
set_option maxRecDepth 20000 in
set_option maxHeartbeats 1000000 in
theorem joinP_any (a : Option Addr) (cap : Nat) (l : List X.W) (b : Option Addr) (cap2 : Nat) (m : List X.W) (w : World) (hl : l.length ≤ 1000) (hm : m.length ≤ 1000) (hrl : Rooms l) (hrm : Rooms m) (ha : Strs w a l) (hb : Strs w b m) (hb0 : b = none → cap2 = 0) :
    Calls Tryz.prog 41 #[.slice a l.length cap, .slice b m.length cap2] w fun e w' => OutSE w w' e (X.joinE l m) := by
  have HT := Lib.hid (twoP_any a cap l b cap2 m w (by omega) (by omega) hrl hrm ha hb)
  by_cases h : X.twoE l m = 0
  case neg =>
    have HE : Hid (X.joinE l m = ([], X.twoE l m)) := Lib.hid (by unfold X.joinE; rw [if_pos h])
    have hn := ne_bool h
    clear h ha hb
    go_enter Tryz.func41, Tryz.ntmps41
    go_wp2_with fail
    refine HT.out.mono ?_
    rintro e w1 ⟨rfl, hb1⟩
    go_wp2_with fail
    go_ret2
    rw [HE.out]
    exact ⟨none, 0, rfl, Strs.nil _ _, by simp, hb1⟩
  obtain ⟨hL, hM⟩ := two_ok h
  have HE : Hid (X.joinE l m = if 30 < (X.joinL l m).length then ([], 6) else (X.joinL l m, 0)) := Lib.hid (by unfold X.joinE; rw [if_neg (not_not_intro h)])
  rw [h] at HT
  have hms := merge_sorted (l ++ m)
  obtain ⟨hcr, hcm⟩ := compact_spec _ hms
  have hJ : Lib.compact ((l ++ m).mergeSort fun x y => decide (x ≤ y)) = X.joinL l m := X.join_sorted hL.up hM.up hcr (fun x => by
    rw [hcm, (List.mergeSort_perm _ _).mem_iff, List.mem_append])
  have HJ := Lib.hid hJ
  have hS : ((l ++ m).mergeSort fun x y => decide (x ≤ y)).length = (l ++ m).length := List.length_mergeSort _
  have HCl := Lib.hid (fun W hd => clone_any a cap l W (by omega) (ha.below hd))
  have HBs := Lib.hid (fun W hd => (hb.below hd : Strs W b m))
  have hnn : l.length + m.length ≤ 2000000 := by omega
  have hLM : (l ++ m).length ≤ 1000000 := by rw [List.length_append]; omega
  have HLM := Lib.hid hLM
  have HSl := Lib.hid hS
  have HJn : Hid (l ++ m = [] → X.joinL l m = []) := Lib.hid (fun h => by
    obtain ⟨rfl, rfl⟩ := List.append_eq_nil_iff.1 h; rfl)
  clear h hL hM hms hcr hcm hJ hS ha hb hrl hrm hLM
  go_enter Tryz.func41, Tryz.ntmps41
  go_wp2_with fail
  refine HT.out.mono ?_
  rintro e w1 ⟨rfl, hb1⟩
  have HB1 := Lib.hid hb1
  clear hb1
  go_wp2_with fail
  refine (HCl.out w1 HB1.out).mono ?_
  rintro e w2 ⟨v, rfl, hown, hb2⟩
  have HOw := Lib.hid hown
  have HB2 := Lib.hid hb2
  have HBb := Lib.hid (HBs.out w2 (HB1.out.trans (hb2.mono HB1.out.size)))
  have hsz := hb2.size
  clear hown hb2
  go_wp2_with (at_builtin; refine listAppS rfl (.tmp 15) (.tmp 16) rfl w1.heap.size v l m b cap2 rfl HOw.out rfl HBb.out hb0 hnn hsz ?_; intro v3 w3 hown3 hg3)
  have HB3 : Hid (RowKit.Below w.heap.size w w3) := Lib.hid ((HB1.out.trans (HB2.out.mono HB1.out.size)).grown hg3 (Nat.le_trans HB1.out.size HB2.out.size) (fun k e => Nat.le_trans HB1.out.size ((World.ownsRow.lt HOw.out k e).1)))
  rcases Row.of_own hown3 with ⟨rfl, hnil⟩ | ⟨g, cp, rfl, hrow, hbg⟩
  · have HJ0 := Lib.hid (HJn.out hnil)
    clear hown3 hg3
    refine (lay_slices_Sort_none none 0 w3).mono ?_
    rintro e w4 ⟨rfl, rfl⟩
    go_wp2_with fail
    refine (lay_slices_Compact_none none 0 w4).mono ?_
    rintro e w5 ⟨rfl, rfl⟩
    go_wp2_with fail
    go_ret2
    rw [HE.out, HJ0.out]
    exact ⟨none, 0, rfl, Strs.nil _ _, by simp, HB3.out⟩
  · have hgw : w.heap.size ≤ g := Nat.le_trans HB1.out.size hbg
    clear hown3 hg3
    refine (sort_any g cp (l ++ m) w3 HLM.out hrow hgw).mono ?_
    rintro e w4 ⟨rfl, hrow4, hb4⟩
    have HB4 := Lib.hid (HB3.out.trans hb4)
    have HR4 := Lib.hid hrow4
    clear hrow hrow4 hb4
    go_wp2_with fail
    have hcp := compact_any g cp ((l ++ m).mergeSort fun x y => decide (x ≤ y)) w4 (by rw [HSl.out]; exact HLM.out) HR4.out hgw
    rw [HSl.out, HJ.out, List.length_append] at hcp
    have hle := HR4.out.le
    rw [HSl.out] at hle
    refine hcp.mono ?_
    rintro e w5 ⟨rfl, hs5, hb5⟩
    have HB5 := Lib.hid (HB4.out.trans hb5)
    have HS5 := Lib.hid hs5
    have hjl : (X.joinL l m).length ≤ (l ++ m).length := by
      have := compactUpTo_len ((l ++ m).mergeSort fun x y => decide (x ≤ y)) ((l ++ m).mergeSort fun x y => decide (x ≤ y)).length
      rw [← HJ.out, ← HSl.out]; exact this
    have HLe : Hid ((X.joinL l m).length ≤ cp) := Lib.hid (by omega)
    clear hcp hs5 hb5 hle hjl
    by_cases h30 : 30 < (X.joinL l m).length
    · have h30I : (30 : Int) < ((X.joinL l m).length : Int) := by omega
      rw [if_pos h30] at HE
      go_wp2_with fail
      go_ret2
      rw [HE.out]
      exact ⟨none, 0, rfl, Strs.nil _ _, by simp, HB5.out⟩
    · have h30I : ¬ (30 : Int) < ((X.joinL l m).length : Int) := by omega
      rw [if_neg h30] at HE
      go_wp2_with fail
      go_ret2
      rw [HE.out]
      exact ⟨_, cp, rfl, HS5.out, ⟨HLe.out, fun h => by cases h⟩, HB5.out⟩
/-- Both's own closure. -/
theorem otherF_any (B : Nat) (b : Option Addr) (cap2 : Nat) (m : List X.W) (s : X.W) (w : World) (hm : m.length ≤ 1000000) (hc : w.cell? ⟨B, 0, none⟩ = some (.slice b m.length cap2)) (hb : Strs w b m) :
    Calls Tryz.prog 87 #[sv s, .pointer (some ⟨B, 0, none⟩)] w fun e w' => e = .returned (.bool (!decide (s ∈ m))) ∧ w = w' := by
  have HC := Lib.hid (contains_any b cap2 m s w hm hb)
  clear hb
  generalize decide (s ∈ m) = D at *
  go_enter Tryz.func87, Tryz.ntmps87
  go_wp2_with fail
  refine HC.out.mono ?_
  rintro e w' ⟨rfl, rfl⟩
  go_wp2_with fail
  go_ret
  exact ⟨rfl, rfl⟩
theorem bothL_filter (l m : List X.W) : (l.filter fun x => !(!decide (x ∈ m))) = X.bothL l m := by
  unfold X.bothL
  congr 1
  funext x
  simp
theorem index_nil (a : Option Addr) (cap : Nat) (fv : Value) (w : World) : Calls Tryz.prog 96 #[.slice a 0 cap, fv] w fun e w' => e = .returned (.int .i64 (-1)) ∧ w = w' := by
  go_enter Tryz.func96, Tryz.ntmps96
  go_wp2_with fail
  go_loop [8] (fun i => i = .int .i64 0) (fun _ => 0)
  case atStart => rfl
  case round =>
    obtain rfl := hrel
    go_wp2_with fail
    go_ret
    exact ⟨rfl, rfl⟩
theorem delete_nil (a : Option Addr) (cap : Nat) (fv : Value) (w : World) : Calls Tryz.prog 88 #[.slice a 0 cap, fv] w fun e w' => e = .returned (.slice a 0 cap) ∧ w = w' := by
  go_enter Tryz.func88, Tryz.ntmps88
  go_wp2_with fail
  refine (index_nil a cap fv w).mono ?_
  rintro e w' ⟨rfl, rfl⟩
  go_wp2_with fail
  go_ret
  exact ⟨rfl, rfl⟩
set_option maxRecDepth 20000 in
set_option maxHeartbeats 1000000 in
theorem bothP_any (a : Option Addr) (cap : Nat) (l : List X.W) (b : Option Addr) (cap2 : Nat) (m : List X.W) (w : World) (hl : l.length ≤ 1000) (hm : m.length ≤ 1000) (hrl : Rooms l) (hrm : Rooms m) (ha : Strs w a l) (hb : Strs w b m) :
    Calls Tryz.prog 43 #[.slice a l.length cap, .slice b m.length cap2] w fun e w' => OutSE w w' e (X.bothE l m) := by
  have hbn := Below.new w (.cells #[.slice b m.length cap2] 22)
  have HB0 := Lib.hid hbn
  have HT := Lib.hid (twoP_any a cap l b cap2 m (w.alloc (.cells #[.slice b m.length cap2] 22)) (by omega) (by omega) hrl hrm (ha.alloc _) (hb.alloc _))
  have HX0 := Lib.hid (cell_new1 w (.slice b m.length cap2) 22)
  have eg : ∀ args w, (callFunc 87 args).run Tryz.prog w = .ok (.enter 87 args) w := enters_of Tryz.func87 (by kernel_rfl) rfl
  by_cases h : X.twoE l m = 0
  case neg =>
    have HE : Hid (X.bothE l m = ([], X.twoE l m)) := Lib.hid (by unfold X.bothE; rw [if_pos h])
    have hn := ne_bool h
    clear h ha hb hbn
    go_enter Tryz.func43, Tryz.ntmps43
    go_wp2_with fail
    refine HT.out.mono ?_
    rintro e w1 ⟨rfl, hb1⟩
    go_wp2_with fail
    go_ret2
    rw [HE.out]
    exact ⟨none, 0, rfl, Strs.nil _ _, by simp, HB0.out.trans (hb1.mono HB0.out.size)⟩
  have HE : Hid (X.bothE l m = (X.bothL l m, 0)) := Lib.hid (by unfold X.bothE; rw [if_neg (not_not_intro h)])
  rw [h] at HT
  have HF := Lib.hid (bothL_filter l m)
  have HCl := Lib.hid (fun W hd => clone_any a cap l W (by omega) (ha.below hd))
  have HBs := Lib.hid (fun W hd => (hb.below hd : Strs W b m))
  have HBlt : Hid (∀ bb off, b = some ⟨bb, off, none⟩ → 0 < m.length → bb < w.heap.size) := Lib.hid (fun bb off e h => by
    obtain ⟨b', off', e', c⟩ := hb 0 h
    rw [e] at e'; cases e'
    exact World.block_lt_of_cell? w _ c)
  have HEg := Lib.hid eg
  have hmm : m.length ≤ 1000000 := by omega
  have hll : l.length ≤ 1000000 := by omega
  clear h ha hb hrl hrm hbn eg
  go_enter Tryz.func43, Tryz.ntmps43
  go_wp2_with fail
  refine HT.out.mono ?_
  rintro e w1 ⟨rfl, hb1⟩
  have HB1 := Lib.hid (HB0.out.trans (hb1.mono HB0.out.size))
  have HX1 := Lib.hid (cell_on hb1 HX0.out)
  have HSz := Lib.hid hb1.size
  clear hb1
  go_wp2_with fail
  refine (HCl.out w1 HB1.out).mono ?_
  rintro e w2 ⟨v, rfl, hown, hb2⟩
  have HB2 := Lib.hid (HB1.out.trans (hb2.mono HB1.out.size))
  have HX2 := Lib.hid (cell_on hb2 HX1.out)
  have HBw := Lib.hid (HBs.out w2 HB2.out)
  have HOw := Lib.hid hown
  clear hown hb2
  go_wp2_with fail
  rcases Row.of_own HOw.out with ⟨rfl, rfl⟩ | ⟨g, cp, rfl, hrow, hbg⟩
  · refine (delete_nil none 0 _ w2).mono ?_
    rintro e w3 ⟨rfl, rfl⟩
    go_wp2_with fail
    go_ret2
    rw [HE.out]
    exact ⟨none, 0, rfl, Strs.nil _ _, by simp [X.bothL], HB2.out⟩
  · have hpa : PredAt Tryz.prog 87 #[.pointer (some ⟨w.heap.size, 0, none⟩)] encStr (fun x : X.W => !decide (x ∈ m)) w2 := fun W x hW => by
      refine (otherF_any w.heap.size b cap2 m x W hmm (cell_on hW HX2.out) (HBw.out.below hW)).mono ?_
      rintro e w' ⟨rfl, rfl⟩
      exact ⟨rfl, 0, rfl⟩
    have hpo : PredOver Tryz.prog 87 #[.pointer (some ⟨w.heap.size, 0, none⟩)] encStr (fun x : X.W => !decide (x ∈ m)) g 0 l.toArray.size w2 := fun n os dk x hdk => by
      have hbb : RowKit.Below g w2 (sortWorld encStr w2 g 0 n dk os) := below_putRow encStr w2 n g 0 dk os (Nat.le_refl _) (Nat.le_of_lt hrow.lt)
      have hgt : w.heap.size < g := by have := HSz.out; simp at this; omega
      refine (otherF_any w.heap.size b cap2 m x _ hmm ((hbb.cell (p := ⟨w.heap.size, 0, none⟩) hgt).trans HX2.out) (fun i hi => ?_)).mono ?_
      · obtain ⟨bb, off, e, c⟩ := HBw.out i hi
        exact ⟨bb, off, e, (hbb.cell (p := ⟨bb, off + i, none⟩) (by have := HBlt.out bb off e (by omega); show bb < g; omega)).trans c⟩
      · rintro e w' ⟨rfl, rfl⟩
        exact ⟨rfl, 0, rfl⟩
    have hd := lay_slices_DeleteFunc encStr (fun x => rfl) (fun x : X.W => !decide (x ∈ m)) 87 #[.pointer (some ⟨w.heap.size, 0, none⟩)] HEg.out [] (fun w => Tryz.zeroValue9 w) g 0 cp l.toArray w2 hpa hpo hrow.holds (by simp; omega) (by simpa using hrow.le)
    rw [List.size_toArray, List.toList_toArray, HF.out] at hd
    refine hd.mono ?_
    rintro e w3 ⟨rfl, q, rfl⟩
    have hgw : w.heap.size ≤ g := by have := HB1.out.size; omega
    have hb3 := below_putRow encStr w2 q g 0 (X.bothL l m ++ List.replicate (l.length - (X.bothL l m).length) []).toArray #[] hgw HB2.out.size
    rw [grow_empty] at hb3
    have hlen : (X.bothL l m).length ≤ l.length := by unfold X.bothL; exact List.length_filter_le _ _
    have hH := holds_putRow encStr (Sort.ahead w2 q) g 0 l.toArray (X.bothL l m ++ List.replicate (l.length - (X.bothL l m).length) []).toArray hrow.holds (by simp; omega)
    have hs3 : Strs (putRow encStr (Sort.ahead w2 q) g 0 (X.bothL l m ++ List.replicate (l.length - (X.bothL l m).length) []).toArray) (some ⟨g, 0, none⟩) (X.bothL l m) := fun i hi => ⟨g, 0, rfl, by
      have := (hH i (by simp; omega)).1
      rw [this, atB]
      simp [wat, List.getElem?_append_left hi]⟩
    have HB3 := Lib.hid (HB2.out.trans hb3)
    have HS3 := Lib.hid hs3
    have HLe : Hid ((X.bothL l m).length ≤ cp) := Lib.hid (Nat.le_trans hlen hrow.le)
    generalize putRow encStr (Sort.ahead w2 q) g 0 (X.bothL l m ++ List.replicate (l.length - (X.bothL l m).length) []).toArray = w3 at *
    clear hd hpa hpo hb3 hlen hH hs3 hrow
    go_wp2_with fail
    go_ret2
    rw [HE.out]
    exact ⟨_, cp, rfl, HS3.out, ⟨HLe.out, fun h => by cases h⟩, HB3.out⟩
end Go.Proofs.YtcjbnifafofpbaaGreatDoor
