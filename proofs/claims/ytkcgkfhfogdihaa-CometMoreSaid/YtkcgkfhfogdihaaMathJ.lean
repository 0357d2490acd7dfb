/- Plain Lean: small paths seen later. -/
import Derived.Test.YtkcgkfhfogdihaaLawL
namespace Go.Proofs.Ytkcgkfhfogdihaa
/-- A path of small numbers. -/
def SmallP (p : List Int) : Prop := ∀ i, i < p.length → -20 ≤ nth p i ∧ nth p i ≤ 20
theorem given_smallP (b : List Int) (n : Nat) : SmallP (given b n) := fun i hi => given_small b n i (by rw [given_length] at hi; exact hi)
theorem small_atFrom {p : List Int} (hs : SmallP p) {day : Int} (h0 : 0 ≤ day) (h1 : day ≤ 63) : ∀ j : Nat, j ≤ p.length → j ≤ 4 → -(j * 794220) ≤ R.atFrom p day j ∧ R.atFrom p day j ≤ j * 794220 := by
  intro j
  induction j with
  | zero => intro _ _; simp [R.atFrom, up]
  | succ j ih =>
    intro hj h4
    have h := ih (by omega) (by omega)
    have hb := R.mul_bd (A := 20) (B := 39711) (hs j (by omega)) (R.ways_bd3 h0 h1 (show j ≤ 3 by omega))
    have e : R.atFrom p day (j + 1) = R.atFrom p day j + nth p j * R.ways day j := rfl
    rw [e]
    generalize nth p j * R.ways day j = x at *
    generalize R.atFrom p day j = y at *
    omega
theorem small_at {p : List Int} (hs : SmallP p) (hl : p.length ≤ 4) {day : Int} (h0 : 0 ≤ day) (h1 : day ≤ 63) : -3176880 ≤ R.atD p day ∧ R.atD p day ≤ 3176880 := by
  have h := small_atFrom hs h0 h1 p.length (Nat.le_refl _) hl
  unfold R.atD
  omega
theorem later_num {p : List Int} (hs : SmallP p) (hl : p.length ≤ 4) {k : Int} (h0 : 0 ≤ k) (h1 : k ≤ 60) : (R.laterOf p k).all R.numOk = true := by
  have hb : R.Bd 3176880 (R.tab (fun i : Nat => R.atD p (k + i)) p.length) := R.diffs_tab_bd fun i hi => small_at hs hl (by omega) (by omega)
  have hd := R.diffs_bd (by rw [R.tab_length]; exact hl) hb
  rw [List.all_eq_true]
  intro x hx
  obtain ⟨i, hi, rfl⟩ := List.getElem_of_mem hx
  have : -(8 * 3176880) ≤ nth (R.laterOf p k) i ∧ nth (R.laterOf p k) i ≤ 8 * 3176880 := hd i hi
  rw [nth_eq _ _ hi] at this
  exact R.numOk_true (by have := this.1; omega) (by have := this.2; omega)
theorem later_seen (p : List Int) (k : Int) : R.laterOf p k = C.seen 1 k p := by
  unfold R.laterOf C.seen
  rw [R.tab_congr (g := fun i : Nat => R.atD p (1 * (i : Int) + k)) fun i _ => by show R.atD p _ = R.atD p _; congr 1; omega]
theorem later_later {p : List Int} (hl : p.length ≤ 4) (c c' : Int) : R.laterOf (R.laterOf p c) c' = R.laterOf p (c + c') := by
  have e : R.laterOf (R.laterOf p c) c' = R.diffs (R.tab (fun i : Nat => R.atD (R.laterOf p c) (c' + i)) (R.laterOf p c).length) := rfl
  have e2 : R.laterOf p (c + c') = R.diffs (R.tab (fun i : Nat => R.atD p (c + c' + i)) p.length) := rfl
  rw [e, e2, laterOf_length]
  congr 1
  refine R.tab_congr fun i _ => ?_
  rw [later_seen, C.seen_at (.inl rfl) c hl]
  congr 1; omega
theorem checkPath_ok {deg : Int} {l : List (Int × Int)} {q : List Int} (hv : R.Valid deg l) (hq : (q.length : Int) = deg + 1) (hz : q.all R.numOk = true) : R.checkPath deg l q = ((C.onL l q : Int), 0) := by
  unfold R.checkPath
  rw [if_neg (not_not_intro hv.zero), if_neg (not_not_intro hq), if_neg (not_not_intro hz), C.onL_size hv.len]
theorem isPath_ok {q : List Int} (h1 : 1 ≤ q.length) (h4 : q.length ≤ 4) (hz : q.all R.numOk = true) : R.isPath q = 0 := by
  unfold R.isPath; rw [if_neg (by omega), if_pos hz]
end Go.Proofs.Ytkcgkfhfogdihaa
