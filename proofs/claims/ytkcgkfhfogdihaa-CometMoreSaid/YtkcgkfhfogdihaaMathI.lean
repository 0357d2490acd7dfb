/- Plain Lean: the least degree of logs that have the same paths; the logs that are seen from another day, turned, or to which a path is added. -/
import Derived.Test.YtkcgkfhfogdihaaJ16
namespace Go.Proofs.Ytkcgkfhfogdihaa
namespace C
theorem valid_deg {d : Int} {l : List (Int × Int)} (h : R.Valid d l) (k : Nat) (hk : k ≤ 3) : R.Valid (k : Int) l := R.Valid.deg h k hk
theorem countP_all {α : Type} (p : α → Bool) (xs : List α) : xs.countP p = xs.length ↔ ∀ x ∈ xs, p x = true := by
  induction xs with
  | nil => simp
  | cons x r ih =>
    rw [List.countP_cons, List.length_cons]
    have hle : r.countP p ≤ r.length := List.countP_le_length
    by_cases hx : p x = true
    · rw [if_pos hx]
      constructor
      · intro h y hy
        rcases List.mem_cons.1 hy with rfl | hy
        · exact hx
        · exact ih.1 (by omega) y hy
      · intro h; have := ih.2 (fun y hy => h y (List.mem_cons_of_mem _ hy)); omega
    · rw [if_neg hx]
      constructor
      · intro h; omega
      · intro h; exact absurd (h x (List.mem_cons_self)) hx
theorem onL_all {l : List (Int × Int)} {q : List Int} : onL l q = l.length ↔ ∀ i, i < l.length → R.atD q (dayN l i) = plcN l i := by
  rw [onL_count]
  have := countP_all (fun i => R.atD q (dayN l i) == plcN l i) (List.range l.length)
  rw [List.length_range] at this
  rw [this]
  constructor
  · intro h i hi; exact eq_of_beq (h i (List.mem_range.2 hi))
  · intro h i hi; rw [h i (List.mem_range.1 hi)]; simp
/-- All sightings lie on the path through the first ones, if they lie on any of that degree. -/
theorem hitD_iff {l : List (Int × Int)} {deg : Int} (hv : R.Valid deg l) {k : Nat} (hk : k ≤ 3) (hn : k < l.length) : R.hitD l k = true ↔ ∃ q : List Int, q.length = k + 1 ∧ onL l q = l.length := by
  have hP := R.take_piece hv (k := k + 1) (by omega)
  have hlen : (l.take (k + 1)).length = k + 1 := by rw [List.length_take]; omega
  constructor
  · intro h
    unfold R.hitD at h
    cases hp : R.pass (l.take (k + 1)) with
    | none => rw [hp] at h; cases h
    | some p =>
      rw [hp] at h
      have := eq_of_beq h
      rw [onL_size hv.len] at this
      exact ⟨p, by rw [(hP.pass_some hp).1, hlen], this⟩
  · rintro ⟨q, hq, h⟩
    have hall := onL_all.1 h
    have hp : R.pass (l.take (k + 1)) = some q := hP.pass_of_path (by rw [hlen, hq]) (fun i hi => by
      rw [hlen] at hi
      rw [(dayN_take l (k + 1) i hi).1, (dayN_take l (k + 1) i hi).2]
      exact hall i (by omega))
    unfold R.hitD
    rw [hp]
    show (R.size (R.on l q) == l.length) = true
    rw [onL_size hv.len, h]; simp
theorem Twin.leastE {l x : List (Int × Int)} {F G : List Int → List Int} {f : Nat → Nat} {deg : Int} (h : ∀ d, d ≤ 3 → Twin d l x F G f) (hl : R.Valid deg l) (hx : R.Valid deg x) : R.leastE deg l = R.leastE deg x := by
  have hlen := (h 0 (by omega)).len
  have hhit : ∀ k, k ≤ 3 → k < l.length → R.hitD l k = R.hitD x k := fun k hk hn => by
    have ht := h k hk
    rw [Bool.eq_iff_iff, hitD_iff hl hk hn, hitD_iff hx hk (by omega)]
    constructor
    · rintro ⟨q, hq, e⟩
      have hg := ht.lenG q hq
      refine ⟨G q, hg, ?_⟩
      rw [← ht.on hg, ht.FG q hq, e, hlen]
    · rintro ⟨q, hq, e⟩
      exact ⟨F q, ht.lenF q hq, by rw [ht.on hq, e, hlen]⟩
  have hto : ∀ k, k ≤ 4 → R.leastTo l k = R.leastTo x k := by
    intro k
    induction k with
    | zero => intro _; rfl
    | succ k ih =>
      intro hk
      rw [R.leastTo_succ, R.leastTo_succ, ih (by omega)]
      cases R.leastTo x k with
      | some y => rfl
      | none =>
        by_cases hn : k < l.length
        · simp only [hhit k (by omega) hn, hlen]
        · simp only [hlen, hn, false_and, if_false]
  unfold R.leastE
  rw [hl.zero, hx.zero, hlen, hto 4 (by omega)]
/-! ### The three twins -/
/-- The log, each sighting told by its number. -/
def bldTo (g : Nat → Int × Int) (j : Nat) : List (Int × Int) := up (fun i r => r ++ [g i]) [] j
theorem bldTo_succ (g : Nat → Int × Int) (j : Nat) : bldTo g (j + 1) = bldTo g j ++ [g j] := rfl
theorem bldTo_length (g : Nat → Int × Int) (j : Nat) : (bldTo g j).length = j := by
  induction j with
  | zero => rfl
  | succ j ih => rw [bldTo_succ, List.length_append, ih]; rfl
theorem bldTo_get (g : Nat → Int × Int) (j i : Nat) (h : i < j) : dayN (bldTo g j) i = (g i).1 ∧ plcN (bldTo g j) i = (g i).2 := by
  induction j with
  | zero => omega
  | succ j ih =>
    rw [bldTo_succ]
    by_cases hh : i < j
    · have h1 := dayN_left (bldTo g j) (g j).1 (g j).2 i (by rw [bldTo_length]; exact hh)
      have h2 := ih hh
      exact ⟨h1.1.trans h2.1, h1.2.trans h2.2⟩
    · have : i = j := by omega
      subst this
      have h1 := dayN_right (bldTo g i) (g i).1 (g i).2
      rw [bldTo_length] at h1
      exact h1
/-- The log a number of days later. -/
def lateL (l : List (Int × Int)) (c : Int) (j : Nat) : List (Int × Int) := bldTo (fun i => (dayN l i + c, plcN l i)) j
theorem late_twin (l : List (Int × Int)) (c : Int) (d : Nat) (hd : d ≤ 3) : Twin d l (lateL l c l.length) (seen 1 c) (seen 1 (-c)) id where
  len := bldTo_length _ _
  lenF := fun q hq => (seen_length _ _ _).trans hq
  lenG := fun q hq => (seen_length _ _ _).trans hq
  FG := fun q hq => seen_seen (.inl rfl) _ _ (by omega) (by omega)
  GF := fun q hq => seen_seen (.inl rfl) _ _ (by omega) (by omega)
  perm := by rw [List.map_id]
  lies := fun q hq i hi => by
    have e := bldTo_get (fun i => (dayN l i + c, plcN l i)) l.length i hi
    rw [seen_at (.inl rfl) c (by omega)]
    show _ ↔ R.atD q (dayN (bldTo _ l.length) i) = plcN (bldTo _ l.length) i
    rw [e.1, e.2, Int.one_mul]
/-- The log turned. -/
def turnL (l : List (Int × Int)) (j : Nat) : List (Int × Int) := bldTo (fun i => (60 - dayN l (l.length - 1 - i), plcN l (l.length - 1 - i))) j
theorem turn_perm (n : Nat) : ((List.range n).map fun i => n - 1 - i).Perm (List.range n) := by
  have : (List.range n).map (fun i => n - 1 - i) = (List.range n).reverse := by
    apply List.ext_getElem
    · simp
    · intro i h1 h2
      simp
  rw [this]; exact List.reverse_perm _
theorem turn_twin (l : List (Int × Int)) (d : Nat) (hd : d ≤ 3) : Twin d l (turnL l l.length) (seen (-1) 60) (seen (-1) 60) (fun i => l.length - 1 - i) where
  len := bldTo_length _ _
  lenF := fun q hq => (seen_length _ _ _).trans hq
  lenG := fun q hq => (seen_length _ _ _).trans hq
  FG := fun q hq => seen_seen (.inr rfl) _ _ (by omega) (by omega)
  GF := fun q hq => seen_seen (.inr rfl) _ _ (by omega) (by omega)
  perm := turn_perm _
  lies := fun q hq i hi => by
    have e := bldTo_get (fun i => (60 - dayN l (l.length - 1 - i), plcN l (l.length - 1 - i))) l.length (l.length - 1 - i) (by omega)
    rw [show l.length - 1 - (l.length - 1 - i) = i by omega] at e
    rw [seen_at (.inr rfl) 60 (by omega)]
    show _ ↔ R.atD q (dayN (bldTo _ l.length) (l.length - 1 - i)) = plcN (bldTo _ l.length) (l.length - 1 - i)
    rw [e.1, e.2, show -1 * dayN l i + 60 = 60 - dayN l i by omega]
theorem valid_of {deg : Int} {l : List (Int × Int)} (h0 : 0 ≤ deg) (h3 : deg ≤ 3) (hl : l.length ≤ 12) (hf : R.Fit l) (hi : R.Inc l) : R.Valid deg l := ⟨h0, h3, hl, hf, hi⟩
theorem turn_valid {deg : Int} {l : List (Int × Int)} (hv : R.Valid deg l) : R.Valid deg (turnL l l.length) := by
  have hlen : (turnL l l.length).length = l.length := bldTo_length _ _
  refine valid_of hv.d0 hv.d3 (by rw [hlen]; exact hv.len) (fun i hi => ?_) (fun i hi => ?_)
  · rw [hlen] at hi
    have e := bldTo_get (fun i => (60 - dayN l (l.length - 1 - i), plcN l (l.length - 1 - i))) l.length i hi
    have hf := hv.fit (l.length - 1 - i) (by omega)
    unfold R.FitS at *
    show _ ∧ _
    unfold turnL
    rw [e.1, e.2]; omega
  · rw [hlen] at hi
    have e1 := (bldTo_get (fun i => (60 - dayN l (l.length - 1 - i), plcN l (l.length - 1 - i))) l.length i (by omega)).1
    have e2 := (bldTo_get (fun i => (60 - dayN l (l.length - 1 - i), plcN l (l.length - 1 - i))) l.length (i + 1) (by omega)).1
    have hlt := R.day_lt hv.inc (i := l.length - 1 - (i + 1)) (j := l.length - 1 - i) (by omega) (by omega)
    unfold turnL
    rw [e1, e2]
    show 60 - dayN l (l.length - 1 - i) < 60 - dayN l (l.length - 1 - (i + 1))
    omega
/-- A path added to another one, or taken from it. -/
def addP (s : Int) (p q : List Int) : List Int := R.tab (fun i => nth q i + s * nth p i) q.length
theorem addP_length (s : Int) (p q : List Int) : (addP s p q).length = q.length := R.tab_length _ _
theorem addP_nth (s : Int) (p q : List Int) (i : Nat) (h : i < q.length) : nth (addP s p q) i = nth q i + s * nth p i := R.tab_nth _ _ _ h
theorem atFrom_add (s : Int) (p q : List Int) (t : Int) (j : Nat) (hj : j ≤ q.length) : R.atFrom (addP s p q) t j = R.atFrom q t j + s * R.atFrom p t j := by
  induction j with
  | zero => simp [R.atFrom, up]
  | succ j ih =>
    show R.atFrom (addP s p q) t j + nth (addP s p q) j * R.ways t j = (R.atFrom q t j + nth q j * R.ways t j) + s * (R.atFrom p t j + nth p j * R.ways t j)
    rw [ih (by omega), addP_nth s p q j (by omega)]; grind
theorem at_add (s : Int) {p q : List Int} (h : p.length = q.length) (t : Int) : R.atD (addP s p q) t = R.atD q t + s * R.atD p t := by
  unfold R.atD
  rw [addP_length, atFrom_add s p q t q.length (Nat.le_refl _), h]
theorem addP_back {s s' : Int} (h : s' = -s) (p q : List Int) : addP s' p (addP s p q) = q := by
  apply list_ext_nth (by rw [addP_length, addP_length])
  intro i hi
  rw [addP_length, addP_length] at hi
  rw [addP_nth _ _ _ _ (by rw [addP_length]; exact hi), addP_nth _ _ _ _ hi, h]; grind
/-- The log to which a path is added. -/
def addL (l : List (Int × Int)) (p : List Int) (j : Nat) : List (Int × Int) := bldTo (fun i => (dayN l i, plcN l i + R.atD p (dayN l i))) j
theorem add_twin (l : List (Int × Int)) (d : Nat) (p : List Int) (hp : p.length = d + 1) : Twin d l (addL l p l.length) (addP (-1) p) (addP 1 p) id where
  len := bldTo_length _ _
  lenF := fun q hq => (addP_length _ _ _).trans hq
  lenG := fun q hq => (addP_length _ _ _).trans hq
  FG := fun q _ => addP_back rfl p q
  GF := fun q _ => addP_back (by decide) p q
  perm := by rw [List.map_id]
  lies := fun q hq i hi => by
    have e : dayN (bldTo (fun i => (dayN l i, plcN l i + R.atD p (dayN l i))) l.length) i = dayN l i ∧ plcN (bldTo (fun i => (dayN l i, plcN l i + R.atD p (dayN l i))) l.length) i = plcN l i + R.atD p (dayN l i) := bldTo_get _ l.length i hi
    rw [at_add (-1) (hp.trans hq.symm)]
    show _ ↔ R.atD q (dayN (bldTo _ l.length) i) = plcN (bldTo _ l.length) i
    rw [e.1, e.2]
    constructor <;> intro h <;> omega
end C
end Go.Proofs.Ytkcgkfhfogdihaa
