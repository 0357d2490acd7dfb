/- One text of RefJ, XL, Cel, ComA. -/
import Derived.Test.YtcjbnifafofpbaaGreatDoorJ4
import Derived.Shelf.Abstract
/- Walk of the reference's read. -/
namespace Go.Proofs.YtcjbnifafofpbaaGreatDoor
open Go.RowKit
/-- 'append(s, x ..)' at an operation: a slice that came in onto a row of the call's own. -/
theorem wpAppS {o : Oper} {a : Act} {W : World} {K : Act → World → Prop} {Q : Exit → Act → World → Prop} (_hgd : o.guard = none) (s x : Operand)
    (ho : o.op = .call { callee := .builtin .append, args := #[s, x], argTypes := #[22, 22] }) (base : Nat) (v : Value) (A B : List X.W) (ad : Option Addr) (c : Nat) (hs : a.eval s = v)
    (hown : W.ownsRow base 9 1 v A.length (A.map sv)) (hx : a.eval x = .slice ad B.length c) (hB : Strs W ad B) (h0 : ad = none → c = 0) (hn : A.length + B.length ≤ 2000000) (hbase : base ≤ W.heap.size)
    (h : ∀ v' w', w'.ownsRow base 9 1 v' (A ++ B).length ((A ++ B).map sv) → W.grownBy w' v.ownBlock → K (a.put o.dst v') w') : o.wp Tryz.prog a W K Q := by
  cases ad with
  | none =>
    have hB0 : B = [] := by
      cases B with
      | nil => rfl
      | cons x r => obtain ⟨b, off, e, -⟩ := hB 0 (by simp); cases e
    subst hB0
    rw [h0 rfl] at hx
    have hfin := h v W (by rw [List.append_nil]; exact hown) (grownBy_of_below (Below.refl _ _) _)
    obtain ⟨i0, hi, _, _, _⟩ := info_parts T22.hi
    rcases hown.2 with ⟨rfl, -⟩ | ⟨g, cap, cur, rfl, -, -, hle, -⟩
    · unfold Oper.wp execOp
      simp only [ho, resolve, invoke, builtin, Sem.run_bind, Sem.run_pure, Result.andThen_ok, List.map_toArray, List.map_cons, List.map_nil, hs, hx]
      simp [Builtin.append_, run_underlying T22.ht, sizeOf, typeInfo, hi, Builtin.lenOf, go_sem]
      exact hfin
    · unfold Oper.wp execOp
      simp only [ho, resolve, invoke, builtin, Sem.run_bind, Sem.run_pure, Result.andThen_ok, List.map_toArray, List.map_cons, List.map_nil, hs, hx]
      simp [Builtin.append_, run_underlying T22.ht, sizeOf, typeInfo, hi, Builtin.lenOf, go_sem, hle]
      exact hfin
  | some p =>
    refine wpApp T22 s x ho base v A.length (A.map sv) (B.map sv) B.length c p hs hown hx (by simp) (fun j u hj => ?_) (by intro u hu; obtain ⟨w, -, rfl⟩ := List.mem_map.1 hu; rfl) hn hbase (fun v' w' h1 h2 _ => h v' w' (by rw [List.length_append, List.map_append]; exact h1) h2)
    have hjl : j < B.length := by have := (List.getElem?_eq_some_iff.1 hj).1; simpa using this
    obtain ⟨b, off, e, hc⟩ := hB j hjl
    cases e
    rw [addr_add, hc]
    simp [hjl] at hj
    rw [← hj, wat_eq B j hjl]
/-- The value is a slice that reads as words. -/
def KSt (l : List X.W) : Known := fun v w => ∃ a c, v = .slice a l.length c ∧ Strs w a l ∧ (a = none → c = 0)
theorem KSt.st (l : List X.W) : ∀ v w w', KSt l v w → Below w.heap.size w w' → KSt l v w' := fun _ _ _ ⟨a, c, e, h, h0⟩ hb => ⟨a, c, e, h.below hb, h0⟩
/-- The words of a state, each behind a beginning, by the first ways. -/
def readsTo (s : List X.St) (i k : Nat) (begun : X.W) : List X.W :=
  (if (X.at_ s i).ends = 1 then [begun] else []) ++ (((X.at_ s i).letters.zip (X.at_ s i).next).take k).flatMap (fun p => (X.reads s p.2.toNat).map ((begun ++ [p.1]) ++ ·))
theorem readsTo_all {s : List X.St} (h : X.Auto s) {i : Nat} (hi : i < s.length) (begun : X.W) : readsTo s i (X.at_ s i).next.length begun = (X.reads s i).map (begun ++ ·) := by
  have he := h.eq _ (X.at_mem hi)
  unfold readsTo
  rw [X.reads_eq h hi, List.map_append, List.map_flatMap, List.take_of_length_le (by rw [List.length_zip, he]; simp)]
  congr 1
  · split <;> simp
  · congr 1
    funext p
    rw [List.map_map]
    apply List.map_congr_left
    intro x _
    simp
theorem readsTo_succ (s : List X.St) (i : Nat) {k : Nat} (begun : X.W) (h1 : k < (X.at_ s i).letters.length) (h2 : k < (X.at_ s i).next.length) :
    readsTo s i (k + 1) begun = readsTo s i k begun ++ (X.reads s (nth (X.at_ s i).next k).toNat).map ((begun ++ [wc (X.at_ s i).letters k]) ++ ·) := by
  unfold readsTo
  have hz : k < ((X.at_ s i).letters.zip (X.at_ s i).next).length := by rw [List.length_zip]; omega
  rw [List.take_succ_eq_append_getElem hz, List.flatMap_append, ← List.append_assoc]
  congr 1
  simp [wc_eq _ _ h1, nth_eq _ _ h2]
theorem flat_le {α : Type} (f : α → List X.W) (q : List α) (k : Nat) : ((q.take k).flatMap f).length ≤ (q.flatMap f).length := by
  conv => { rhs; rw [← List.take_append_drop k q] }
  rw [List.flatMap_append, List.length_append]; omega
theorem readsTo_len {s : List X.St} (h : X.Auto s) {i k : Nat} (hi : i < s.length) (begun : X.W) : (readsTo s i k begun).length ≤ (X.reads s i).length := by
  have e : (X.reads s i).length = (readsTo s i (X.at_ s i).next.length begun).length := by rw [readsTo_all h hi]; simp
  have he := h.eq _ (X.at_mem hi)
  rw [e]
  unfold readsTo
  rw [List.length_append, List.length_append]
  rw [List.take_of_length_le (i := (X.at_ s i).next.length) (by rw [List.length_zip, he]; simp)]
  have := flat_le (fun p : UInt8 × Int => (X.reads s p.2.toNat).map ((begun ++ [p.1]) ++ ·)) ((X.at_ s i).letters.zip (X.at_ s i).next) k
  omega
theorem step_by3 {Q : Exit → Act → World → Prop} {R : List Known} {ks : List Nat} {a : Act} {w : World} {i : Nat} {o : Oper} {j1 j2 j3 q1 q2 q3 : Nat} {v1 v2 v3 v4 : Value} (hq1 : ks.getD j1 0 = q1) (hj1 : j1 ∈ (o.after.toList.filter (fun e => Region.binds .any e)).map (fun e => e.on)) (hR1 : Rat R j1 = KEq v1)
    (hq2 : ks.getD j2 0 = q2) (hj2 : j2 ∈ (o.after.toList.filter (fun e => Region.binds .any e)).map (fun e => e.on)) (hR2 : Rat R j2 = KEq v2)
    (hq3 : ks.getD j3 0 = q3) (hj3 : j3 ∈ (o.after.toList.filter (fun e => Region.binds .any e)).map (fun e => e.on)) (hR3 : Rat R j3 = KEq v3) (hR : Rat R i = KEq v4)
    (hrun : ∀ (a' : Act) (w' : World), a'.tmps[q1]?.getD undef = v1 → a'.tmps[q2]?.getD undef = v2 → a'.tmps[q3]?.getD undef = v3 → Below w.heap.size w w' → (execOp a'.eval o).run Tryz.prog w' = .ok (.value v4) w') : StepG Tryz.prog Q R ks a w i o := by
  intro a' w' hA hb hd K hK
  have e1 : a'.eval (.tmp q1) = v1 := by have := hd j1 hj1; rw [hR1, hq1] at this; exact this
  have e2 : a'.eval (.tmp q2) = v2 := by have := hd j2 hj2; rw [hR2, hq2] at this; exact this
  have e3 : a'.eval (.tmp q3) = v3 := by have := hd j3 hj3; rw [hR3, hq3] at this; exact this
  exact op_value (hrun a' w' (tmp_of e1) (tmp_of e2) (tmp_of e3) hb) (hK _ _ (Below.refl _ _) (by rw [hR]; rfl))
set_option maxRecDepth 20000 in
theorem step_read {Q : Exit → Act → World → Prop} {R : List Known} {ks : List Nat} {a : Act} {w : World} {i : Nat} {dst : Option Tmp} {ty : TypeId} {pos : String} {after : Array Edge} {ats : Array TypeId} {j1 j2 j3 j4 q1 q2 q3 q4 : Nat} {v1 v2 v3 v4 : Value} {l : List X.W} (hq1 : ks.getD j1 0 = q1) (hj1 : j1 ∈ (after.toList.filter (fun e => Region.binds .any e)).map (fun e => e.on)) (hR1 : Rat R j1 = KEq v1)
    (hq2 : ks.getD j2 0 = q2) (hj2 : j2 ∈ (after.toList.filter (fun e => Region.binds .any e)).map (fun e => e.on)) (hR2 : Rat R j2 = KEq v2)
    (hq3 : ks.getD j3 0 = q3) (hj3 : j3 ∈ (after.toList.filter (fun e => Region.binds .any e)).map (fun e => e.on)) (hR3 : Rat R j3 = KEq v3)
    (hq4 : ks.getD j4 0 = q4) (hj4 : j4 ∈ (after.toList.filter (fun e => Region.binds .any e)).map (fun e => e.on)) (hR4 : Rat R j4 = KEq v4) (hR : Rat R i = KSt l)
    (hC : ∀ w', Below w.heap.size w w' → Calls Tryz.prog 67 #[v1, v2, v3, v4] w' fun e w'' => OutS w' w'' e l) :
    StepG Tryz.prog Q R ks a w i ⟨dst, .call { callee := .value (.func 67), args := #[.tmp q1, .tmp q2, .tmp q3, .tmp q4], argTypes := ats }, ty, pos, after, none⟩ := by
  intro a' w' hA hb hd K hK
  have e1 : a'.eval (.tmp q1) = v1 := by have := hd j1 hj1; rw [hR1, hq1] at this; exact this
  have e2 : a'.eval (.tmp q2) = v2 := by have := hd j2 hj2; rw [hR2, hq2] at this; exact this
  have e3 : a'.eval (.tmp q3) = v3 := by have := hd j3 hj3; rw [hR3, hq3] at this; exact this
  have e4 : a'.eval (.tmp q4) = v4 := by have := hd j4 hj4; rw [hR4, hq4] at this; exact this
  refine op_call rfl (enters_of Tryz.func67 (by kernel_rfl) rfl) (args := #[v1, v2, v3, v4]) (by simp [← e1, ← e2, ← e3, ← e4]) (hC w' hb) (fun e' w'' ⟨x, c, h1, h2, h3, h4⟩ => ⟨_, h1, ?_⟩)
  exact hK _ _ h4 (by rw [hR]; exact ⟨x, c, rfl, h2, h3.2⟩)
end Go.Proofs.YtcjbnifafofpbaaGreatDoor
/- Plain Lean: the words of a state by its first ways: how many, how long, whether any. -/
namespace X
/-- The words of a state, by its first k ways. -/
def part (s : List St) (i k : Nat) : List W :=
  (if (at_ s i).ends = 1 then [[]] else []) ++ (((at_ s i).letters.zip (at_ s i).next).take k).flatMap (fun p => (reads s p.2.toNat).map (p.1 :: ·))
theorem part_all {s : List St} (h : Auto s) {i : Nat} (hi : i < s.length) : part s i (at_ s i).next.length = reads s i := by
  have he := h.eq _ (at_mem hi)
  unfold part
  rw [reads_eq h hi, List.take_of_length_le (by rw [List.length_zip, he]; simp)]
theorem part_succ (s : List St) (i : Nat) {k : Nat} (h1 : k < (at_ s i).letters.length) (h2 : k < (at_ s i).next.length) :
    part s i (k + 1) = part s i k ++ (reads s ((at_ s i).next[k]).toNat).map ((at_ s i).letters[k] :: ·) := by
  unfold part
  have hz : k < ((at_ s i).letters.zip (at_ s i).next).length := by rw [List.length_zip]; omega
  rw [List.take_succ_eq_append_getElem hz, List.flatMap_append, ← List.append_assoc]
  simp
theorem part_zero (s : List St) (i : Nat) : part s i 0 = if (at_ s i).ends = 1 then [[]] else [] := by unfold part; simp
/-- Whether there is a word: 0 or 1. -/
def anyI (q : List W) : Int := if q = [] then 0 else 1
/-- How many, at most 31. -/
def capI (q : List W) : Int := if q.length ≤ 31 then q.length else 31
/-- How long the longest is; -1 if there is none. -/
def lonI (q : List W) : Int := if q = [] then -1 else longest q
theorem anyI_app (p q : List W) (c : UInt8) : (if anyI p < anyI q then anyI q else anyI p) = anyI (p ++ q.map (c :: ·)) := by
  unfold anyI
  cases p <;> cases q <;> simp
theorem capI_app (p q : List W) (c : UInt8) : (if capI p + capI q < 31 then capI p + capI q else 31) = capI (p ++ q.map (c :: ·)) := by
  unfold capI
  rw [List.length_append, List.length_map]
  split <;> split <;> split <;> omega
theorem longest_app (p q : List W) : longest (p ++ q) = max (longest p) (longest q) := by
  apply Nat.le_antisymm
  · apply longest_bd
    intro w hw
    rcases List.mem_append.1 hw with h | h
    · have := longest_le h; omega
    · have := longest_le h; omega
  · have h1 : longest p ≤ longest (p ++ q) := longest_bd fun w hw => longest_le (List.mem_append_left _ hw)
    have h2 : longest q ≤ longest (p ++ q) := longest_bd fun w hw => longest_le (List.mem_append_right _ hw)
    omega
theorem longest_cons {q : List W} (h : q ≠ []) (c : UInt8) : longest (q.map (c :: ·)) = longest q + 1 := by
  apply Nat.le_antisymm
  · apply longest_bd
    intro w hw
    obtain ⟨v, hv, rfl⟩ := List.mem_map.1 hw
    have := longest_le hv
    simp; omega
  · obtain ⟨v, hv, hl⟩ := longest_ex h
    have := longest_le (List.mem_map_of_mem (f := (c :: ·)) hv)
    simp at this; omega
theorem lonI_app (p q : List W) (c : UInt8) : (if 0 ≤ lonI q then (if lonI p < 1 + lonI q then 1 + lonI q else lonI p) else lonI p) = lonI (p ++ q.map (c :: ·)) := by
  unfold lonI
  by_cases hq : q = []
  · subst hq; simp
  · have hne : p ++ q.map (c :: ·) ≠ [] := by simp [hq]
    rw [if_neg hq, if_neg hne, if_pos (by omega), longest_app, longest_cons hq]
    by_cases hp : p = []
    · subst hp
      have : longest ([] : List W) = 0 := rfl
      rw [this]; simp; omega
    · rw [if_neg hp]; split <;> omega
theorem anyI_zero {s : List St} (h : Auto s) {i : Nat} (hi : i < s.length) : anyI (part s i 0) = (at_ s i).ends := by
  rw [part_zero]
  rcases h.en _ (at_mem hi) with e | e <;> rw [e] <;> rfl
theorem capI_zero {s : List St} (h : Auto s) {i : Nat} (hi : i < s.length) : capI (part s i 0) = (at_ s i).ends := by
  rw [part_zero]
  rcases h.en _ (at_mem hi) with e | e <;> rw [e] <;> rfl
theorem lonI_zero {s : List St} (h : Auto s) {i : Nat} (hi : i < s.length) : lonI (part s i 0) = (at_ s i).ends - 1 := by
  rw [part_zero]
  rcases h.en _ (at_mem hi) with e | e <;> rw [e] <;> rfl
theorem anyI_cases (q : List W) : anyI q = 0 ∧ q = [] ∨ anyI q = 1 ∧ q ≠ [] := by
  unfold anyI; by_cases h : q = [] <;> simp [h]
/-- The reference's test. -/
theorem over_iff {s : List St} : overB s = (decide (30 < capI (reads s 0)) || decide (10 < lonI (reads s 0)) || decide ((at_ s 0).ends = 1)) := by
  unfold overB
  congr 1
  congr 1
  · rw [decide_eq_decide]; unfold capI; split <;> omega
  · rw [Bool.eq_iff_iff, List.any_eq_true, decide_eq_true_iff]
    unfold lonI
    constructor
    · rintro ⟨w, hw, h1⟩
      have := longest_le hw
      rw [decide_eq_true_iff] at h1
      rw [if_neg (fun e => by rw [e] at hw; cases hw)]; omega
    · intro h1
      by_cases e : reads s 0 = []
      · rw [if_pos e] at h1; omega
      · rw [if_neg e] at h1
        obtain ⟨w, hw, hl⟩ := longest_ex e
        exact ⟨w, hw, by rw [decide_eq_true_iff]; omega⟩
/-- What a walk that gives up has seen. -/
def Bad (o R : List W) : Prop := (∃ w ∈ R, 10 < w.length) ∨ 30 < (o ++ R).length
def Good (o R : List W) : Prop := (∀ w ∈ R, w.length ≤ 10) ∧ (o ++ R).length ≤ 30
theorem Bad.not {o R : List W} (h : Bad o R) : ¬ Good o R := by
  rintro ⟨h1, h2⟩
  rcases h with ⟨w, hw, hl⟩ | h
  · have := h1 w hw; omega
  · omega
theorem Bad.over {s : List St} (h : Bad [] (reads s 0)) : overB s = true := by
  unfold overB
  simp only [Bool.or_eq_true, decide_eq_true_eq, List.any_eq_true]
  rcases h with ⟨w, hw, hl⟩ | h
  · exact .inl (.inr ⟨w, hw, hl⟩)
  · exact .inl (.inl h)
theorem Good.over {s : List St} (h : Good [] (reads s 0)) : overB s = decide ((at_ s 0).ends = 1) := by
  unfold overB
  rw [decide_eq_false (show ¬ 30 < (reads s 0).length by have := h.2; simp at this; omega)]
  have : (reads s 0).any (fun w => decide (10 < w.length)) = false := by
    simp only [List.any_eq_false, decide_eq_true_eq]
    intro w hw; have := h.1 w hw; omega
  rw [this]; rfl
theorem Bad.app {o p R : List W} (h : Bad (o ++ p) R) (q : List W) : Bad o (p ++ (R ++ q)) := by
  rcases h with ⟨w, hw, hl⟩ | h
  · exact .inl ⟨w, by simp [hw], hl⟩
  · refine .inr ?_
    simp only [List.length_append] at h ⊢; omega
theorem Good.app {o p R : List W} (h1 : Good o p) (h2 : Good (o ++ p) R) : Good o (p ++ R) := by
  refine ⟨fun w hw => ?_, by have := h2.2; rwa [List.append_assoc] at this⟩
  rcases List.mem_append.1 hw with h | h
  · exact h1.1 w h
  · exact h2.1 w h
end X
/- Blocks of the call's own, whose cells are written in place. -/
namespace Go.Proofs.YtcjbnifafofpbaaGreatDoor
open Go.RowKit
theorem grownBy_setCell (w : World) (c o : Nat) (u : Value) : w.grownBy (w.setCell ⟨c, o, none⟩ u) (some c) :=
  ⟨rfl, rfl, rfl, by simp [World.setCell], fun k _ hne => Below.heap_setCell w ⟨c, o, none⟩ u k (fun e => hne (by rw [e]))⟩
theorem owns_setOther {w : World} {base : Nat} {e : TypeId} {size : Nat} {v : Value} {n : Nat} {xs : List Value} (h : w.ownsRow base e size v n xs) (c o : Nat) (u : Value) (hne : v.ownBlock ≠ some c) : (w.setCell ⟨c, o, none⟩ u).ownsRow base e size v n xs :=
  h.kept (grownBy_setCell w c o u) (.inr hne)
/-- A block of the call's own: its cells, which may be written. -/
structure Cells (w : World) (b : Nat) (l : List Value) : Prop where
  cel : ∀ o u, l[o]? = some u → w.cell? ⟨b, o, none⟩ = some u
  fr : ∀ o, w.frozen? ⟨b, o, none⟩ = false
  lt : b < w.heap.size
theorem Cells.new (w : World) (c : Array Value) (t : TypeId) : Cells (w.alloc (.cells c t)) w.heap.size c.toList :=
  ⟨fun o u h => by simpa using h, fun o => by simp, by simp⟩
theorem Cells.on {w w' : World} {b : Nat} {l : List Value} (h : Cells w b l) (hb : Below w.heap.size w w') : Cells w' b l :=
  ⟨fun o u ho => cell_on hb (h.cel o u ho), fun o => (hb.frozen (p := ⟨b, o, none⟩) h.lt).trans (h.fr o), Nat.lt_of_lt_of_le h.lt hb.size⟩
theorem Cells.grown {w w' : World} {b : Nat} {l : List Value} {row : Option Nat} (h : Cells w b l) (hg : w.grownBy w' row) (hne : some b ≠ row) : Cells w' b l :=
  ⟨fun o u ho => hg.cell (h.cel o u ho) hne, fun o => (World.frozen?_of_block (w := w) (hg.block b h.lt hne)).trans (h.fr o), Nat.lt_of_lt_of_le h.lt hg.size⟩
theorem Cells.set {w : World} {b : Nat} {l : List Value} (h : Cells w b l) (o : Nat) (u : Value) (ho : o < l.length) : Cells (w.setCell ⟨b, o, none⟩ u) b (l.set o u) := by
  refine ⟨fun j v hj => ?_, fun j => (World.frozen?_setCell _ _ _ _).trans (h.fr j), by simp [World.setCell]; exact h.lt⟩
  rw [List.getElem?_set] at hj
  split at hj
  · rename_i e; subst e
    cases hj; exact World.cell?_setCell_same _ _ _ (h.cel o _ (List.getElem?_eq_getElem ho))
  · rename_i e; rw [World.cell?_setCell_other _ _ _ _ (by simp)]; exact h.cel j v hj
theorem Cells.setOther {w : World} {b c : Nat} {l : List Value} (h : Cells w b l) (o : Nat) (u : Value) (hne : c ≠ b) : Cells (w.setCell ⟨c, o, none⟩ u) b l :=
  ⟨fun j v hj => by rw [World.cell?_setCell_other _ _ _ _ (by simp)]; exact h.cel j v hj, fun j => (World.frozen?_setCell _ _ _ _).trans (h.fr j), by simp [World.setCell]; exact h.lt⟩
theorem Cells.ints {w : World} {b : Nat} {l : List Int} (h : Cells w b (l.map (.int .i64))) : Ints .i64 w (some ⟨b, 0, none⟩) l := fun i hi => ⟨b, 0, rfl, by
  rw [Nat.zero_add]; exact h.cel i _ (by simp [nth, hi])⟩
theorem Cells.nth {w : World} {b : Nat} {l : List Int} (h : Cells w b (l.map (.int .i64))) (i : Nat) (hi : i < l.length) : w.cell? ⟨b, i, none⟩ = some (.int .i64 (nth l i)) := h.cel i _ (by simp [YtcjbnifafofpbaaGreatDoor.nth, hi])
theorem Cells.put {w : World} {b : Nat} {l : List Int} (h : Cells w b (l.map (.int .i64))) (o : Nat) (x : Int) (ho : o < l.length) : Cells (w.setCell ⟨b, o, none⟩ (.int .i64 x)) b ((l.set o x).map (.int .i64)) := by
  rw [List.map_set]; exact h.set o _ (by simpa using ho)
theorem Cells.made (w : World) (n : Nat) : Cells (w.alloc (.cells (madeCells #[.int .i64 0] n) 3)) w.heap.size ((List.replicate n (0 : Int)).map (.int .i64)) := by
  have := Cells.new w (madeCells #[.int .i64 0] n) 3
  have e : (madeCells #[Value.int .i64 0] n).toList = (List.replicate n (0 : Int)).map (.int .i64) := by
    simp only [madeCells]
    apply List.ext_getElem
    · simp
    · intro i h1 h2; simp [Nat.mod_one]
  rwa [e] at this
theorem Strs.setAside {w : World} {a : Option Addr} {l : List X.W} (h : Strs w a l) (c o : Nat) (u : Value) (hne : ∀ b off, a = some ⟨b, off, none⟩ → c ≠ b) : Strs (w.setCell ⟨c, o, none⟩ u) a l := by
  intro i hi
  obtain ⟨b, off, rfl, c1⟩ := h i hi
  have hne := hne b off rfl
  exact ⟨b, off, rfl, by rw [World.cell?_setCell_other _ _ _ _ (by simp)]; exact c1⟩
end Go.Proofs.YtcjbnifafofpbaaGreatDoor
/- Walks of the program's functions: within; odd, checkWord. -/
namespace Go.Proofs.YtcjbnifafofpbaaGreatDoor
open Go.RowKit
theorem least_ex {q : Nat → Prop} : ∀ n, q n → ∃ m, q m ∧ ∀ k, k < m → ¬ q k := by
  intro n
  induction n using Nat.strongRecOn with
  | ind n ih =>
    intro h
    by_cases hk : ∃ k, k < n ∧ q k
    · obtain ⟨k, hk, hq⟩ := hk; exact ih k hk hq
    · exact ⟨n, h, fun k hk' hq => hk ⟨k, hk', hq⟩⟩
theorem nth_mem {l : List Int} {j : Nat} (h : j < l.length) : nth l j ∈ l := by rw [nth_eq l j h]; exact List.getElem_mem h
def outB (lo hi : Int) (n : Int) : Bool := decide (n < lo ∨ hi < n)
set_option maxHeartbeats 400000 in
theorem withinF_any (lo hi n : Int) (b1 b2 : Nat) (w : World) (h1 : w.cell? ⟨b1, 0, none⟩ = some (.int .i64 lo)) (h2 : w.cell? ⟨b2, 0, none⟩ = some (.int .i64 hi)) :
    Calls Tryz.prog 101 #[.int .i64 n, .pointer (some ⟨b1, 0, none⟩), .pointer (some ⟨b2, 0, none⟩)] w fun e w' => e = .returned (.bool (outB lo hi n)) ∧ w = w' := by
  by_cases c1 : n < lo
  · have HE : Hid (outB lo hi n = true) := Lib.hid (by unfold outB; rw [decide_eq_true_eq]; exact .inl c1)
    go_enter Tryz.func101, Tryz.ntmps101
    go_wp2_with fail
    go_ret
    exact ⟨ret_bool (by rw [HE.out]), rfl⟩
  · by_cases c2 : hi < n
    · have HE : Hid (outB lo hi n = true) := Lib.hid (by unfold outB; rw [decide_eq_true_eq]; exact .inr c2)
      go_enter Tryz.func101, Tryz.ntmps101
      go_wp2_with fail
      go_ret
      exact ⟨ret_bool (by rw [HE.out]), rfl⟩
    · have HE : Hid (outB lo hi n = false) := Lib.hid (by unfold outB; rw [decide_eq_false_iff_not]; omega)
      go_enter Tryz.func101, Tryz.ntmps101
      go_wp2_with fail
      go_ret
      exact ⟨ret_bool (by rw [HE.out]), rfl⟩
/-- The index of the first that meets q, -1 if none does. -/
def idxBy (q : Int → Bool) (l : List Int) : Int := ((l.findIdx? q).map Int.ofNat).getD (-1)
theorem idxBy_hit {q : Int → Bool} {l : List Int} {j : Nat} (hj : j < l.length) (h1 : ∀ k, k < j → q (nth l k) = false) (h2 : q (nth l j) = true) : idxBy q l = j := by
  have : l.findIdx? q = some j := by
    rw [List.findIdx?_eq_some_iff_getElem]
    refine ⟨hj, by rw [← nth_eq l j hj]; exact h2, fun k hk => ?_⟩
    have := h1 k hk
    rw [nth_eq l k (by omega)] at this
    simp [this]
  unfold idxBy; rw [this]; rfl
theorem idxBy_none {q : Int → Bool} {l : List Int} (h1 : ∀ k, k < l.length → q (nth l k) = false) : idxBy q l = -1 := by
  have : l.findIdx? q = none := by
    rw [List.findIdx?_eq_none_iff]
    intro x hx
    obtain ⟨k, hk, rfl⟩ := List.getElem_of_mem hx
    have := h1 k hk
    rwa [nth_eq l k hk] at this
  unfold idxBy; rw [this]; rfl
theorem idxBy_any (q : Int → Bool) (l : List Int) : decide (0 ≤ idxBy q l) = l.any q := by
  by_cases h : ∃ k, k < l.length ∧ q (nth l k) = true
  · obtain ⟨k0, h0, h1⟩ := h
    obtain ⟨k, ⟨hk, hq⟩, hmin⟩ := least_ex (q := fun k => k < l.length ∧ q (nth l k) = true) k0 ⟨h0, h1⟩
    rw [idxBy_hit hk (fun j hj => by have := hmin j hj; cases h : q (nth l j); rfl; exact absurd ⟨by omega, h⟩ this) hq]
    have : l.any q = true := by rw [List.any_eq_true]; exact ⟨nth l k, nth_mem hk, hq⟩
    rw [this, decide_eq_true_eq]; omega
  · have hn : ∀ k, k < l.length → q (nth l k) = false := fun k hk => by cases hq : q (nth l k); rfl; exact absurd ⟨k, hk, hq⟩ h
    rw [idxBy_none hn]
    have : l.any q = false := by
      rw [List.any_eq_false]; intro x hx
      obtain ⟨k, hk, rfl⟩ := List.getElem_of_mem hx
      have := hn k hk; rw [nth_eq l k hk] at this; simp [this]
    rw [this]; simp
set_option maxHeartbeats 400000 in
theorem indexInt_any (f : Nat) (cb : Array Value) (q : Int → Bool) (b : Option Addr) (cap : Nat) (l : List Int) (w : World) (hl : l.length ≤ 1000000) (hb : Ints .i64 w b l) (eg : ∀ args w, (callFunc f args).run Tryz.prog w = .ok (.enter f args) w)
    (hq : ∀ n, Calls Tryz.prog f (#[.int .i64 n] ++ cb) w fun e w' => e = .returned (.bool (q n)) ∧ w = w') :
    Calls Tryz.prog 123 #[.slice b l.length cap, .func (.func f) #[] cb] w fun e w' => e = .returned (.int .i64 (idxBy q l)) ∧ w = w' := by
  have HA := Lib.hid hb; clear hb
  have HQ := Lib.hid hq; clear hq
  go_enter Tryz.func123, Tryz.ntmps123
  go_wp2_with fail
  go_loop [5, 8] (fun _ i => ∃ j : Nat, j ≤ l.length ∧ i = .int .i64 j ∧ Hid (∀ k, k < j → q (nth l k) = false)) (fun _ i => l.length - (intOf i).toNat)
  case atStart => exact ⟨0, by omega, rfl, Lib.hid (fun k hk => by omega)⟩
  case round =>
    obtain ⟨j, hj, rfl, hr⟩ := hrel
    by_cases hlt : j < l.length
    · obtain ⟨b1, off1, rfl, c⟩ := HA.out j hlt
      cases hqj : q (nth l j) with
      | true =>
        have HE := Lib.hid (idxBy_hit hlt hr.out hqj)
        have HC := HQ.out (nth l j)
        rw [hqj] at HC
        have HC := Lib.hid HC
        clear hqj
        go_wp2_with fail
        refine HC.out.mono ?_
        rintro e w' ⟨rfl, rfl⟩
        go_wp2_with fail
        go_ret
        exact ⟨ret_int (by rw [HE.out]), rfl⟩
      | false =>
        have HE : Hid (∀ k, k < j + 1 → q (nth l k) = false) := Lib.hid (fun k hk => by
          by_cases e : k = j
          · rw [e]; exact hqj
          · exact hr.out k (by omega))
        have HC := HQ.out (nth l j)
        rw [hqj] at HC
        have HC := Lib.hid HC
        clear hqj
        go_wp2_with fail
        refine HC.out.mono ?_
        rintro e w' ⟨rfl, rfl⟩
        go_wp2_with fail
        go_round
        case rel => exact ⟨j + 1, by omega, by go_num, HE⟩
        case measure => simp [intOf]; omega
    · have HE := Lib.hid (idxBy_none (l := l) (q := q) (fun k hk => hr.out k (by omega)))
      go_wp2_with fail
      go_ret
      exact ⟨ret_int (by rw [HE.out]), rfl⟩
set_option maxHeartbeats 400000 in
theorem containsFInt_any (f : Nat) (cb : Array Value) (q : Int → Bool) (b : Option Addr) (cap : Nat) (l : List Int) (w : World) (hl : l.length ≤ 1000000) (hb : Ints .i64 w b l) (eg : ∀ args w, (callFunc f args).run Tryz.prog w = .ok (.enter f args) w)
    (hq : ∀ n, Calls Tryz.prog f (#[.int .i64 n] ++ cb) w fun e w' => e = .returned (.bool (q n)) ∧ w = w') :
    Calls Tryz.prog 100 #[.slice b l.length cap, .func (.func f) #[] cb] w fun e w' => e = .returned (.bool (l.any q)) ∧ w = w' := by
  have HC := Lib.hid (indexInt_any f cb q b cap l w hl hb eg hq)
  have HE := Lib.hid (idxBy_any q l)
  clear hb hq
  generalize idxBy q l = x at *
  go_enter Tryz.func100, Tryz.ntmps100
  go_wp2_with fail
  refine HC.out.mono ?_
  rintro e w' ⟨rfl, rfl⟩
  go_wp2_with fail
  go_ret
  exact ⟨ret_bool (by rw [← HE.out]), rfl⟩
def withinB (lo hi : Int) (l : List Int) : Bool := l.all fun n => decide (lo ≤ n ∧ n ≤ hi)
theorem withinB_any (lo hi : Int) (l : List Int) : (!l.any (outB lo hi)) = withinB lo hi l := by
  unfold withinB
  induction l with
  | nil => rfl
  | cons x r ih =>
    rw [List.any_cons, List.all_cons, ← ih, Bool.not_or]
    congr 1
    unfold outB
    by_cases h : lo ≤ x ∧ x ≤ hi
    · rw [decide_eq_true h, decide_eq_false (by omega)]; rfl
    · rw [decide_eq_false h, decide_eq_true (by omega)]; rfl
set_option maxRecDepth 100000 in
set_option maxHeartbeats 400000 in
theorem within_any (lo hi : Int) (b : Option Addr) (cap : Nat) (l : List Int) (w : World) (hl : l.length ≤ 1000000) (hb : Ints .i64 w b l) :
    Calls Tryz.prog 70 #[.int .i64 lo, .int .i64 hi, .slice b l.length cap] w fun e w' => e = .returned (.bool (withinB lo hi l)) ∧ Below w.heap.size w w' := by
  have eg : ∀ args w, (callFunc 101 args).run Tryz.prog w = .ok (.enter 101 args) w := enters_of Tryz.func101 (by kernel_rfl) rfl
  have hb1 := (Below.new w (.cells #[.int .i64 lo] 3)).alloc (by simp) (.cells #[.int .i64 hi] 3)
  have HC := Lib.hid (containsFInt_any 101 #[.pointer (some ⟨w.heap.size, 0, none⟩), .pointer (some ⟨w.heap.size + 1, 0, none⟩)] (outB lo hi) b cap l ((w.alloc (.cells #[.int .i64 lo] 3)).alloc (.cells #[.int .i64 hi] 3)) hl (hb.below hb1) eg
    (fun n => withinF_any lo hi n w.heap.size (w.heap.size + 1) _ (cell_on (Below.new _ _) (by simp)) (by have := cell_new1 (w.alloc (.cells #[.int .i64 lo] 3)) (.int .i64 hi) 3; simpa only [World.size_alloc] using this)))
  have HB := Lib.hid hb1
  have HE := Lib.hid (withinB_any lo hi l)
  clear hb hb1
  go_enter Tryz.func70, Tryz.ntmps70
  go_wp2_with fail
  refine HC.out.mono ?_
  rintro e w' ⟨rfl, rfl⟩
  go_wp2_with fail
  go_ret
  exact ⟨ret_bool (by rw [← HE.out]), HB.out⟩
/-- One number. -/
theorem within_one (lo hi n : Int) (w : World) (g : Nat) (c : w.cell? ⟨g, 0, none⟩ = some (.int .i64 n)) :
    Calls Tryz.prog 70 #[.int .i64 lo, .int .i64 hi, .slice (some ⟨g, 0, none⟩) 1 1] w fun e w' => e = .returned (.bool (decide (lo ≤ n ∧ n ≤ hi))) ∧ Below w.heap.size w w' := by
  have h := within_any lo hi (some ⟨g, 0, none⟩) 1 [n] w (by simp) (fun i hi => by
    have : i = 0 := by simp at hi; omega
    subst this; exact ⟨g, 0, rfl, by simpa [nth] using c⟩)
  refine h.mono ?_
  rintro e w' ⟨rfl, hb⟩
  exact ⟨by unfold withinB; simp, hb⟩
end Go.Proofs.YtcjbnifafofpbaaGreatDoor
