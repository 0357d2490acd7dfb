/- The region of CometMore that makes the longer log, by an invariant. -/
import Derived.Test.YtkcgkfhfogdihaaMathL
import Derived.Test.YtkcgkfhfogdihaaLastI
namespace Go.Proofs.Ytkcgkfhfogdihaa
open Go Go.RowKit
/-- The same, the frame at the entrance known by some facts alone. -/
theorem wp_region_from {P : Program} {Q : Exit → Act → World → Prop} {id : Nat} {a : Act} {w : World} {L : List Oper} (m : Nat) (F : Act → Prop) (I : Act → (Nat → Bool) → Act → World → Prop) (hF : F a) (hm : P.follows .mixedOrders = true) (hB : invB L m = true)
    (h0 : ∀ a0, I a0 (fun _ => false) a0 w.drew)
    (hstep : ∀ a0, F a0 → ∀ (i : Nat) (o : Oper) (B : Nat → Bool) (a : Act) (w : World), (L.take m)[i]? = some o → B i = false → (∀ e ∈ o.after, Region.binds .any e = true → B e.on = true) → I a0 B a w → ∀ K : Act → World → Prop, (∀ a' w', I a0 (upd B i) a' w' → K a' w') → o.wp P a w K (NoPanic Q))
    (hend : ∀ (B : Nat → Bool) (a' : Act) (w : World), (∀ i, i < m → B i = true) → I a B a' w → ∀ o : Oper, L.drop m = [o] → ∀ K : Act → World → Prop, (∀ a' w', NoPanic Q .normal a' w' → K a' w') → o.wp P a' w K (NoPanic Q)) : (Code.region id L.toArray true).wp P Q a w :=
  wp_region_inv m (I a) hm hB (h0 a) (hstep a hF) hend
theorem op_skip {P : Program} {Q : Exit → Act → World → Prop} {o : Oper} {a : Act} {w w' : World} {K : Act → World → Prop} (hd : o.dst = none) (h : (execOp a.eval o).run P w = .ok .skip w') (hK : K a w') : o.wp P a w K Q := by
  unfold Oper.wp; rw [h]; unfold Oper.upon; rw [hd]; exact hK
theorem grownBy_setCell (w : World) (c o : Nat) (u : Value) : w.grownBy (w.setCell ⟨c, o, none⟩ u) (some c) :=
  ⟨rfl, rfl, rfl, by simp [World.setCell], fun k _ hne => Below.heap_setCell w ⟨c, o, none⟩ u k (fun e => hne (by rw [e]))⟩
theorem owns_setOther {w : World} {base : Nat} {e : TypeId} {size : Nat} {v : Value} {n : Nat} {xs : List Value} (h : w.ownsRow base e size v n xs) (c o : Nat) (u : Value) (hne : v.ownBlock ≠ some c) : (w.setCell ⟨c, o, none⟩ u).ownsRow base e size v n xs :=
  h.kept (grownBy_setCell w c o u) (.inr hne)
theorem tmp_of {a : Act} {k : Nat} {v : Value} (h : a.eval (.tmp k) = v) : a.tmps[k]?.getD undef = v := by rw [← Array.getD_eq_getD_getElem?]; exact h
theorem upd_ne {B : Nat → Bool} {i j : Nat} (h : j ≠ i) : upd B i j = B j := by unfold upd; rw [if_neg h]
theorem upd_same (B : Nat → Bool) (i : Nat) : upd B i i = true := by unfold upd; rw [if_pos rfl]
/-- Which operation writes which slot, and what. -/
abbrev SlTab := List (Nat × Nat × Value)
def SlTab.ok (T : SlTab) : Prop := T.Pairwise fun e f => e.1 ≠ f.1 ∧ e.2.1 ≠ f.2.1
def Holds (T : SlTab) (B : Nat → Bool) (a : Act) : Prop := ∀ e ∈ T, B e.1 = true → a.eval (.tmp e.2.1) = e.2.2
theorem pair_ne {α : Type} {R : α → α → Prop} (hs : ∀ a b, R a b → R b a) : ∀ {l : List α}, l.Pairwise R → ∀ a ∈ l, ∀ b ∈ l, a ≠ b → R a b
  | [], _, a, ha, _, _, _ => by simp at ha
  | x :: l, h, a, ha, b, hb, hab => by
    rw [List.pairwise_cons] at h
    rcases List.mem_cons.1 ha with ea | ha'
    · rcases List.mem_cons.1 hb with eb | hb'
      · exact absurd (ea.trans eb.symm) hab
      · rw [ea]; exact h.1 b hb'
    · rcases List.mem_cons.1 hb with eb | hb'
      · rw [eb]; exact hs _ _ (h.1 _ ha')
      · exact pair_ne hs h.2 a ha' b hb' hab
theorem Holds.put {T : SlTab} {B : Nat → Bool} {a : Act} (h : Holds T B a) (hT : T.ok) {i k : Nat} {v : Value} (hm : (i, k, v) ∈ T) (hk : k < a.tmps.size) : Holds T (upd B i) (a.put (some k) v) := by
  intro e he hB
  by_cases hee : e = (i, k, v)
  · subst hee; exact eval_put_same a v hk
  · have := pair_ne (fun a b h => ⟨fun e => h.1 e.symm, fun e => h.2 e.symm⟩) hT e he _ hm hee
    rw [upd_ne this.1] at hB
    rw [eval_put_ne a v this.2]; exact h e he hB
/-- The table changes at an entry whose operation has not come up. -/
theorem Holds.turn {T U : SlTab} {B : Nat → Bool} {a : Act} (h : Holds T B a) (hTU : ∀ e ∈ U, B e.1 = true → e ∈ T) : Holds U B a := fun e he hB => h e (hTU e he hB) hB
def tabM (b : Nat) (d D y : Int) (sl x2 x5 x9 x10 x12 : Value) : SlTab :=
  [(0, 135, .pointer (some ⟨b, 0, none⟩)), (1, 136, .int .i64 d), (2, 137, x2), (3, 138, .pointer (some ⟨b, 1, none⟩)), (4, 139, sl), (5, 140, x5), (6, 141, .int .i64 D), (7, 142, .int .i64 y), (8, 143, .agg #[.int .i64 D, .int .i64 y]), (9, 144, x9), (10, 145, x10), (11, 146, .agg #[.int .i64 d, x10]), (12, 16, x12)]
theorem tabM_ok (b : Nat) (d D y : Int) (sl x2 x5 x9 x10 x12 : Value) : (tabM b d D y sl x2 x5 x9 x10 x12).ok := by
  simp [SlTab.ok, tabM]
def slM : List Nat := [16, 135, 136, 137, 138, 139, 140, 141, 142, 143, 144, 145, 146]
structure WM (w9 : World) (l : List (Int × Int)) (D y : Int) (B : Nat → Bool) (x2 x5 x9 x10 x12 : Value) (w : World) : Prop where
  bel : Below w9.heap.size w9 w
  o2 : B 2 = true → B 5 = false → w.ownsRow w9.heap.size 57 2 x2 0 []
  o5 : B 5 = true → B 10 = false → w.ownsRow w9.heap.size 57 2 x5 l.length (flat l)
  c9 : B 9 = true → B 10 = false → ∃ h, x9 = .slice (some ⟨h, 0, none⟩) 1 1 ∧ w.cell? ⟨h, 0, none⟩ = some (.int .i64 D) ∧ w.cell? ⟨h, 1, none⟩ = some (.int .i64 y)
  o10 : B 10 = true → w.ownsRow w9.heap.size 57 2 x10 (l.length + 1) (flat l ++ [.int .i64 D, .int .i64 y])
  c12 : B 12 = true → ∃ q, x12 = .pointer (some ⟨q, 0, none⟩) ∧ w.cell? ⟨q, 0, none⟩ = some (.int .i64 0) ∧ w.cell? ⟨q, 1, none⟩ = some (.slice none 0 0) ∧ w.frozen? ⟨q, 0, none⟩ = false ∧ w.frozen? ⟨q, 1, none⟩ = false ∧ w9.heap.size ≤ q
  s29 : B 2 = true → B 5 = false → B 9 = true → B 10 = false → x2.ownBlock ≠ x9.ownBlock
  s59 : B 5 = true → B 9 = true → B 10 = false → x5.ownBlock ≠ x9.ownBlock
  s2q : B 2 = true → B 5 = false → B 12 = true → ∀ q, x12 = .pointer (some ⟨q, 0, none⟩) → x2.ownBlock ≠ some q
  s5q : B 5 = true → B 10 = false → B 12 = true → ∀ q, x12 = .pointer (some ⟨q, 0, none⟩) → x5.ownBlock ≠ some q
  s10q : B 10 = true → B 12 = true → ∀ q, x12 = .pointer (some ⟨q, 0, none⟩) → x10.ownBlock ≠ some q
theorem WM.same {w9 : World} {l : List (Int × Int)} {D y : Int} {B : Nat → Bool} {x2 x5 x9 x10 x12 : Value} {w : World} (h : WM w9 l D y B x2 x5 x9 x10 x12 w) {i : Nat} (hi : i ≠ 2 ∧ i ≠ 5 ∧ i ≠ 9 ∧ i ≠ 10 ∧ i ≠ 12) : WM w9 l D y (upd B i) x2 x5 x9 x10 x12 w := by
  have e2 : upd B i 2 = B 2 := upd_ne (by omega)
  have e5 : upd B i 5 = B 5 := upd_ne (by omega)
  have e9 : upd B i 9 = B 9 := upd_ne (by omega)
  have e10 : upd B i 10 = B 10 := upd_ne (by omega)
  have e12 : upd B i 12 = B 12 := upd_ne (by omega)
  constructor <;> (try rw [e2]) <;> (try rw [e5]) <;> (try rw [e9]) <;> (try rw [e10]) <;> (try rw [e12])
  · exact h.bel
  · exact h.o2
  · exact h.o5
  · exact h.c9
  · exact h.o10
  · exact h.c12
  · exact h.s29
  · exact h.s59
  · exact h.s2q
  · exact h.s5q
  · exact h.s10q
/-- What waits for what. -/
def Prec (B : Nat → Bool) : Prop := (B 5 = true → B 2 = true) ∧ (B 10 = true → B 5 = true ∧ B 9 = true) ∧ (B 11 = true → B 10 = true)
theorem Prec.upd {B : Nat → Bool} (h : Prec B) (i : Nat) (h5 : i = 5 → B 2 = true) (h10 : i = 10 → B 5 = true ∧ B 9 = true) (h11 : i = 11 → B 10 = true) : Prec (upd B i) := by
  have key : ∀ j, B j = true → Go.Proofs.Ytkcgkfhfogdihaa.upd B i j = true := fun j hj => by unfold Go.Proofs.Ytkcgkfhfogdihaa.upd; split; rfl; exact hj
  have back : ∀ j, Go.Proofs.Ytkcgkfhfogdihaa.upd B i j = true → j = i ∨ B j = true := fun j hj => by
    unfold Go.Proofs.Ytkcgkfhfogdihaa.upd at hj; split at hj
    · rename_i e; exact .inl e
    · exact .inr hj
  refine ⟨fun e => ?_, fun e => ?_, fun e => ?_⟩
  · rcases back 5 e with e | e
    · exact key 2 (h5 e.symm)
    · exact key 2 (h.1 e)
  · rcases back 10 e with e | e
    · exact ⟨key 5 (h10 e.symm).1, key 9 (h10 e.symm).2⟩
    · exact ⟨key 5 (h.2.1 e).1, key 9 (h.2.1 e).2⟩
  · rcases back 11 e with e | e
    · exact key 10 (h11 e.symm)
    · exact key 10 (h.2.2 e)
/-- The invariant: the slots but those of the region are as they were. -/
def IM (a0 : Act) (w9 : World) (b : Nat) (d D y : Int) (sl : Value) (l : List (Int × Int)) (B : Nat → Bool) (a : Act) (w : World) : Prop :=
  Agr slM a0 a ∧ Prec B ∧ ∃ x2 x5 x9 x10 x12, Holds (tabM b d D y sl x2 x5 x9 x10 x12) B a ∧ WM w9 l D y B x2 x5 x9 x10 x12 w
section
variable {a0 : Act} {w9 : World} {b : Nat} {d D y : Int} {sl : Value} {l : List (Int × Int)} {B : Nat → Bool} {a : Act} {w : World}
/-- What a slot holds. -/
theorem IM.pure (h : IM a0 w9 b d D y sl l B a w) {i k : Nat} {v : Value} (hm : ∀ x2 x5 x9 x10 x12, (i, k, v) ∈ tabM b d D y sl x2 x5 x9 x10 x12) (hi : i ≠ 2 ∧ i ≠ 5 ∧ i ≠ 9 ∧ i ≠ 10 ∧ i ≠ 12) (hk : k < a0.tmps.size) (hs : k ∈ slM) (h11 : i = 11 → B 10 = true) : IM a0 w9 b d D y sl l (upd B i) (a.put (some k) v) w := by
  obtain ⟨hA, hP, x2, x5, x9, x10, x12, hH, hW⟩ := h
  exact ⟨hA.put hs v, hP.upd i (fun e => by omega) (fun e => by omega) h11, x2, x5, x9, x10, x12, hH.put (tabM_ok ..) (hm ..) (by rw [hA.size]; exact hk), hW.same hi⟩
theorem IM.at (h : IM a0 w9 b d D y sl l B a w) {i k : Nat} {v : Value} (hm : ∀ x2 x5 x9 x10 x12, (i, k, v) ∈ tabM b d D y sl x2 x5 x9 x10 x12) (hB : B i = true) : a.eval (.tmp k) = v := by
  obtain ⟨hA, hP, x2, x5, x9, x10, x12, hH, hW⟩ := h
  exact hH _ (hm x2 x5 x9 x10 x12) hB
theorem IM.bel (h : IM a0 w9 b d D y sl l B a w) : Below w9.heap.size w9 w := by obtain ⟨_, _, _, _, _, _, _, _, hW⟩ := h; exact hW.bel
theorem IM.agr (h : IM a0 w9 b d D y sl l B a w) : Agr slM a0 a := h.1
/-- More blocks. -/
theorem WM.alloc {x2 x5 x9 x10 x12 : Value} (h : WM w9 l D y B x2 x5 x9 x10 x12 w) (o : Obj) : WM w9 l D y B x2 x5 x9 x10 x12 (w.alloc o) where
  bel := h.bel.alloc h.bel.size o
  o2 := fun a b => (h.o2 a b).alloc o
  o5 := fun a b => (h.o5 a b).alloc o
  c9 := fun a b => by
    obtain ⟨g, e, c0, c1⟩ := h.c9 a b
    exact ⟨g, e, cell_on (Below.new w o) c0, cell_on (Below.new w o) c1⟩
  o10 := fun a => (h.o10 a).alloc o
  c12 := fun a => by
    obtain ⟨q, e, c0, c1, f0, f1, hq⟩ := h.c12 a
    have hl := World.block_lt_of_cell? w _ c0
    exact ⟨q, e, cell_on (Below.new w o) c0, cell_on (Below.new w o) c1, ((Below.new w o).frozen (p := ⟨q, 0, none⟩) hl).trans f0, ((Below.new w o).frozen (p := ⟨q, 1, none⟩) hl).trans f1, hq⟩
  s29 := h.s29
  s59 := h.s59
  s2q := h.s2q
  s5q := h.s5q
  s10q := h.s10q
/-- Writes into the row v, or a new one. -/
theorem grown_cells {w w' : World} {row : Option Nat} (hg : w.grownBy w' row) {q o : Nat} {u : Value} (h : w.cell? ⟨q, o, none⟩ = some u) (hne : row ≠ some q) : w'.cell? ⟨q, o, none⟩ = some u := hg.cell h (fun e => hne e.symm)
theorem grown_frozen {w w' : World} {row : Option Nat} (hg : w.grownBy w' row) {q o : Nat} (hl : q < w.heap.size) (h : w.frozen? ⟨q, o, none⟩ = false) (hne : row ≠ some q) : w'.frozen? ⟨q, o, none⟩ = false :=
  (World.frozen?_of_block (w := w) (hg.block q hl (fun e => hne e.symm))).trans h
variable {x2 x5 x9 x10 x12 : Value}
/-- The empty row is made. -/
theorem WM.step2 (h : WM w9 l D y B x2 x5 x9 x10 x12 w) (h10 : B 10 = false) : WM w9 l D y (upd B 2) (.slice (some ⟨w.heap.size, 0, none⟩) 0 0) x5 x9 x10 x12 (w.alloc (.cells #[] 57)) := by
  have h' := h.alloc (.cells #[] 57)
  have e5 : upd B 2 5 = B 5 := upd_ne (by omega)
  have e9 : upd B 2 9 = B 9 := upd_ne (by omega)
  have e10 : upd B 2 10 = B 10 := upd_ne (by omega)
  have e12 : upd B 2 12 = B 12 := upd_ne (by omega)
  constructor <;> (try rw [e5]) <;> (try rw [e9]) <;> (try rw [e10]) <;> (try rw [e12])
  · exact h'.bel
  · exact fun _ _ => World.ownsRow_made w #[] 0 h.bel.size (by decide) (by simp)
  · exact h'.o5
  · exact h'.c9
  · exact h'.o10
  · exact h'.c12
  · intro _ _ h9 _
    obtain ⟨g, e, c0, -⟩ := h.c9 h9 h10
    have := World.block_lt_of_cell? w _ c0
    rw [e]; simp only [Value.ownBlock, ne_eq, Option.some.injEq]; simp only at this; omega
  · exact h'.s59
  · intro _ _ h12 q e
    obtain ⟨q', e', c0, -⟩ := h.c12 h12
    have := World.block_lt_of_cell? w _ c0
    rw [e'] at e; cases e
    simp only [Value.ownBlock, ne_eq, Option.some.injEq]; simp only at this; omega
  · exact h'.s5q
  · exact h'.s10q
/-- The new sighting's block. -/
theorem WM.step9 (h : WM w9 l D y B x2 x5 x9 x10 x12 w) (h10 : B 10 = false) : WM w9 l D y (upd B 9) x2 x5 (.slice (some ⟨w.heap.size, 0, none⟩) 1 1) x10 x12 (w.alloc (.cells #[.int .i64 D, .int .i64 y] 57)) := by
  have h' := h.alloc (.cells #[.int .i64 D, .int .i64 y] 57)
  have e2 : upd B 9 2 = B 2 := upd_ne (by omega)
  have e5 : upd B 9 5 = B 5 := upd_ne (by omega)
  have e10 : upd B 9 10 = B 10 := upd_ne (by omega)
  have e12 : upd B 9 12 = B 12 := upd_ne (by omega)
  constructor <;> (try rw [e2]) <;> (try rw [e5]) <;> (try rw [e10]) <;> (try rw [e12])
  · exact h'.bel
  · exact h'.o2
  · exact h'.o5
  · exact fun _ _ => ⟨w.heap.size, rfl, cell_top rfl rfl, cell_top rfl rfl⟩
  · exact h'.o10
  · exact h'.c12
  · intro h2 h5 _ _ e
    have := (h.o2 h2 h5).lt _ e
    simp at this
  · intro h5 _ _ e
    have := (h.o5 h5 h10).lt _ e
    simp at this
  · exact h'.s2q
  · exact h'.s5q
  · exact h'.s10q
/-- The log's block. -/
theorem WM.step12 (h : WM w9 l D y B x2 x5 x9 x10 x12 w) : WM w9 l D y (upd B 12) x2 x5 x9 x10 (.pointer (some ⟨w.heap.size, 0, none⟩)) (w.alloc (.cells #[.int .i64 0, .slice none 0 0] 33)) := by
  have h' := h.alloc (.cells #[.int .i64 0, .slice none 0 0] 33)
  have e2 : upd B 12 2 = B 2 := upd_ne (by omega)
  have e5 : upd B 12 5 = B 5 := upd_ne (by omega)
  have e9 : upd B 12 9 = B 9 := upd_ne (by omega)
  have e10 : upd B 12 10 = B 10 := upd_ne (by omega)
  constructor <;> (try rw [e2]) <;> (try rw [e5]) <;> (try rw [e9]) <;> (try rw [e10])
  · exact h'.bel
  · exact h'.o2
  · exact h'.o5
  · exact h'.c9
  · exact h'.o10
  · exact fun _ => ⟨w.heap.size, rfl, cell_top rfl rfl, cell_top rfl rfl, by simp, by simp, h.bel.size⟩
  · exact h'.s29
  · exact h'.s59
  · intro h2 h5 _ q e e2
    cases e
    have := (h.o2 h2 h5).lt _ e2; simp at this
  · intro h5 h10 _ q e e2
    cases e
    have := (h.o5 h5 h10).lt _ e2; simp at this
  · intro h10 _ q e e2
    cases e
    have := (h.o10 h10).lt _ e2; simp at this
/-- All sightings are appended to the empty row. -/
theorem WM.step5 (h : WM w9 l D y B x2 x5 x9 x10 x12 w) (h2 : B 2 = true) (hB : B 5 = false) (h10 : B 10 = false) {v w'} (hown : World.ownsRow w' w9.heap.size 57 2 v l.length (flat l)) (hg : w.grownBy w' x2.ownBlock) (hL : Lies x2 v w.heap.size) : WM w9 l D y (upd B 5) x2 v x9 x10 x12 w' := by
  have e2 : upd B 5 2 = B 2 := upd_ne (by omega)
  have e9 : upd B 5 9 = B 9 := upd_ne (by omega)
  have e10 : upd B 5 10 = B 10 := upd_ne (by omega)
  have e12 : upd B 5 12 = B 12 := upd_ne (by omega)
  have e5 := upd_same B 5
  have hx2 := (h.o2 h2 hB).lt
  constructor <;> (try rw [e2]) <;> (try rw [e5]) <;> (try rw [e9]) <;> (try rw [e10]) <;> (try rw [e12])
  · exact h.bel.grown hg h.bel.size (fun k e => (hx2 k e).1)
  · intro _ e; cases e
  · exact fun _ _ => hown
  · intro h9 _
    obtain ⟨g, e, c0, c1⟩ := h.c9 h9 h10
    have hne : x2.ownBlock ≠ some g := by have := h.s29 h2 hB h9 h10; rwa [e] at this
    exact ⟨g, e, grown_cells hg c0 hne, grown_cells hg c1 hne⟩
  · intro e; rw [h10] at e; cases e
  · intro h12
    obtain ⟨q, e, c0, c1, f0, f1, hq⟩ := h.c12 h12
    have hne := h.s2q h2 hB h12 q e
    have hl := World.block_lt_of_cell? w _ c0
    exact ⟨q, e, grown_cells hg c0 hne, grown_cells hg c1 hne, grown_frozen hg hl f0 hne, grown_frozen hg hl f1 hne, hq⟩
  · intro _ e; cases e
  · intro _ h9 _
    rcases hL with e | e
    · rw [e]; exact h.s29 h2 hB h9 h10
    · obtain ⟨g, e9, c0, -⟩ := h.c9 h9 h10
      have := World.block_lt_of_cell? w _ c0
      rw [e, e9]; simp only [Value.ownBlock, ne_eq, Option.some.injEq]; simp only at this; omega
  · intro _ e; cases e
  · intro _ _ h12 q e
    rcases hL with e' | e'
    · rw [e']; exact h.s2q h2 hB h12 q e
    · obtain ⟨q', e'', c0, -⟩ := h.c12 h12
      have := World.block_lt_of_cell? w _ c0
      rw [e''] at e; cases e
      rw [e']; simp only [ne_eq, Option.some.injEq]; simp only at this; omega
  · intro e; rw [h10] at e; cases e
/-- The new sighting is appended. -/
theorem WM.step10 (h : WM w9 l D y B x2 x5 x9 x10 x12 w) (h5 : B 5 = true) (hB : B 10 = false) {v w'} (hown : World.ownsRow w' w9.heap.size 57 2 v (l.length + 1) (flat l ++ [.int .i64 D, .int .i64 y])) (hg : w.grownBy w' x5.ownBlock) (hL : Lies x5 v w.heap.size) : WM w9 l D y (upd B 10) x2 x5 x9 v x12 w' := by
  have e2 : upd B 10 2 = B 2 := upd_ne (by omega)
  have e5 : upd B 10 5 = B 5 := upd_ne (by omega)
  have e9 : upd B 10 9 = B 9 := upd_ne (by omega)
  have e12 : upd B 10 12 = B 12 := upd_ne (by omega)
  have e10 := upd_same B 10
  have hx5 := (h.o5 h5 hB).lt
  constructor <;> (try rw [e2]) <;> (try rw [e5]) <;> (try rw [e9]) <;> (try rw [e10]) <;> (try rw [e12])
  · exact h.bel.grown hg h.bel.size (fun k e => (hx5 k e).1)
  · intro _ e; rw [h5] at e; cases e
  · intro _ e; cases e
  · intro _ e; cases e
  · exact fun _ => hown
  · intro h12
    obtain ⟨q, e, c0, c1, f0, f1, hq⟩ := h.c12 h12
    have hne := h.s5q h5 hB h12 q e
    have hl := World.block_lt_of_cell? w _ c0
    exact ⟨q, e, grown_cells hg c0 hne, grown_cells hg c1 hne, grown_frozen hg hl f0 hne, grown_frozen hg hl f1 hne, hq⟩
  · intro _ e; rw [h5] at e; cases e
  · intro _ _ e; cases e
  · intro _ e; rw [h5] at e; cases e
  · intro _ e; cases e
  · intro _ h12 q e
    rcases hL with e' | e'
    · rw [e']; exact h.s5q h5 hB h12 q e
    · obtain ⟨q', e'', c0, -⟩ := h.c12 h12
      have := World.block_lt_of_cell? w _ c0
      rw [e''] at e; cases e
      rw [e']; simp only [ne_eq, Option.some.injEq]; simp only at this; omega
/-- One slot of the table gets its value when its operation comes up. -/
theorem Holds.turn2 (h : Holds (tabM b d D y sl x2 x5 x9 x10 x12) B a) (hB : B 2 = false) (v : Value) : Holds (tabM b d D y sl v x5 x9 x10 x12) B a := by
  intro e he hb
  simp only [tabM, List.mem_cons, List.not_mem_nil, or_false] at he
  rcases he with rfl | rfl | rfl | rfl | rfl | rfl | rfl | rfl | rfl | rfl | rfl | rfl | rfl
  all_goals first | (rw [hB] at hb; cases hb) | exact h _ (by simp [tabM]) hb
theorem Holds.turn5 (h : Holds (tabM b d D y sl x2 x5 x9 x10 x12) B a) (hB : B 5 = false) (v : Value) : Holds (tabM b d D y sl x2 v x9 x10 x12) B a := by
  intro e he hb
  simp only [tabM, List.mem_cons, List.not_mem_nil, or_false] at he
  rcases he with rfl | rfl | rfl | rfl | rfl | rfl | rfl | rfl | rfl | rfl | rfl | rfl | rfl
  all_goals first | (rw [hB] at hb; cases hb) | exact h _ (by simp [tabM]) hb
theorem Holds.turn9 (h : Holds (tabM b d D y sl x2 x5 x9 x10 x12) B a) (hB : B 9 = false) (v : Value) : Holds (tabM b d D y sl x2 x5 v x10 x12) B a := by
  intro e he hb
  simp only [tabM, List.mem_cons, List.not_mem_nil, or_false] at he
  rcases he with rfl | rfl | rfl | rfl | rfl | rfl | rfl | rfl | rfl | rfl | rfl | rfl | rfl
  all_goals first | (rw [hB] at hb; cases hb) | exact h _ (by simp [tabM]) hb
theorem Holds.turn10 (h : Holds (tabM b d D y sl x2 x5 x9 x10 x12) B a) (hB : B 10 = false) (h11 : B 11 = false) (v : Value) : Holds (tabM b d D y sl x2 x5 x9 v x12) B a := by
  intro e he hb
  simp only [tabM, List.mem_cons, List.not_mem_nil, or_false] at he
  rcases he with rfl | rfl | rfl | rfl | rfl | rfl | rfl | rfl | rfl | rfl | rfl | rfl | rfl
  all_goals first | (rw [hB] at hb; cases hb) | (rw [h11] at hb; cases hb) | exact h _ (by simp [tabM]) hb
theorem Holds.turn12 (h : Holds (tabM b d D y sl x2 x5 x9 x10 x12) B a) (hB : B 12 = false) (v : Value) : Holds (tabM b d D y sl x2 x5 x9 x10 v) B a := by
  intro e he hb
  simp only [tabM, List.mem_cons, List.not_mem_nil, or_false] at he
  rcases he with rfl | rfl | rfl | rfl | rfl | rfl | rfl | rfl | rfl | rfl | rfl | rfl | rfl
  all_goals first | (rw [hB] at hb; cases hb) | exact h _ (by simp [tabM]) hb
end
end Go.Proofs.Ytkcgkfhfogdihaa
