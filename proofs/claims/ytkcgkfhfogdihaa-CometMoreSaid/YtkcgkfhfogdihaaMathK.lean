/- Plain Lean: the least degree. -/
import Derived.Test.YtkcgkfhfogdihaaLawJ
namespace Go.Proofs.Ytkcgkfhfogdihaa
namespace C
theorem most_le {l : List (Int × Int)} {k : Nat} (hv : R.Valid (k : Int) l) : R.most (k : Int) l ≤ l.length := by
  rcases most_ex hv with e | ⟨q, _, e⟩
  · omega
  · have := onL_le l q; omega
theorem most_bd {l : List (Int × Int)} {k : Nat} (hv : R.Valid (k : Int) l) (h : R.most (k : Int) l ≠ 0) : k + 1 ≤ R.most (k : Int) l := by
  rcases most_ex hv with e | ⟨q, hq, e⟩
  · exact absurd e h
  · have := ((found_iff hv).1 hq).2; omega
theorem most_all {l : List (Int × Int)} {k : Nat} (hv : R.Valid (k : Int) l) (hn : 0 < l.length) : R.most (k : Int) l = l.length ↔ k < l.length ∧ R.hitD l k = true := by
  have hk : k ≤ 3 := by have := hv.d3; omega
  constructor
  · intro h
    rcases most_ex hv with e | ⟨q, hq, e⟩
    · omega
    · have hf := (found_iff hv).1 hq
      have hkn : k < l.length := by omega
      exact ⟨hkn, (hitD_iff hv hk hkn).2 ⟨q, hf.1, by omega⟩⟩
  · rintro ⟨hkn, hh⟩
    obtain ⟨q, hq, e⟩ := (hitD_iff hv hk hkn).1 hh
    have := most_ge hv ((found_iff hv).2 ⟨hq, by omega⟩)
    have := most_le hv
    omega
theorem leastTo_spec (l : List (Int × Int)) : ∀ k, (∀ d, R.leastTo l k = some d → d < k ∧ d < l.length ∧ R.hitD l d = true ∧ ∀ j, j < d → ¬ (j < l.length ∧ R.hitD l j = true)) ∧ (R.leastTo l k = none → ∀ j, j < k → ¬ (j < l.length ∧ R.hitD l j = true)) := by
  intro k
  induction k with
  | zero => exact ⟨fun d h => by simp [R.leastTo, up] at h, fun _ j hj => by omega⟩
  | succ k ih =>
    rw [R.leastTo_succ]
    cases e : R.leastTo l k with
    | some y =>
      refine ⟨fun d h => ?_, fun h => by simp at h⟩
      simp only [Option.some.injEq] at h
      subst h
      have := ih.1 y e
      exact ⟨by omega, this.2.1, this.2.2.1, this.2.2.2⟩
    | none =>
      have hn := ih.2 e
      by_cases hc : k < l.length ∧ R.hitD l k = true
      · simp only [hc, and_self, if_true]
        refine ⟨fun d h => ?_, fun h => by simp at h⟩
        simp only [Option.some.injEq] at h
        subst h
        exact ⟨by omega, hc.1, hc.2, hn⟩
      · simp only [hc, if_false]
        refine ⟨fun d h => by simp at h, fun _ j hj => ?_⟩
        rcases Nat.lt_succ_iff_lt_or_eq.1 hj with h | rfl
        · exact hn j h
        · exact hc
theorem atFrom_take (p : List Int) (t : Int) (k j : Nat) (hj : j ≤ k) : R.atFrom (p.take k) t j = R.atFrom p t j := by
  induction j with
  | zero => rfl
  | succ j ih =>
    show R.atFrom (p.take k) t j + nth (p.take k) j * R.ways t j = R.atFrom p t j + nth p j * R.ways t j
    rw [ih (by omega), nth_take p k j (by omega)]
theorem at_take {p : List Int} {k : Nat} (hp : p.length = k + 1) (h0 : nth p k = 0) (t : Int) : R.atD (p.take k) t = R.atD p t := by
  unfold R.atD
  rw [List.length_take, hp, show min k (k + 1) = k by omega, atFrom_take p t k k (Nat.le_refl _)]
  show _ = R.atFrom p t k + nth p k * R.ways t k
  rw [h0]; simp
/-- With the least degree, all sightings lie on one best path. -/
theorem count_one {l : List (Int × Int)} {k : Nat} (hv : R.Valid (k : Int) l) (hkn : k < l.length) (hm : R.most (k : Int) l = l.length) : R.countE (k : Int) l = (1, 0) := by
  obtain ⟨qs, hs⟩ := same_ex hv
  have hne : R.most (k : Int) l ≠ 0 := by omega
  obtain ⟨q, hq, e⟩ := (most_ex hv).resolve_left hne
  have hall : ∀ p ∈ qs, p = q := fun p hp => by
    have h1 := hs.most p hp
    have h2 := both_ge hv.len p q
    exact eq_of_both hv ((hs.found p hp).props hv).1 (hq.props hv).1 (by omega)
  have hlen : qs.length = 1 := by
    have hq1 := hs.all q hq e
    match qs, hs.nodup, hall, hq1 with
    | [x], _, _, _ => rfl
    | x :: y :: r, hnd, hall, _ =>
      have e1 := hall x (by simp)
      have e2 := hall y (by simp)
      rw [e1, e2] at hnd
      simp at hnd
  unfold R.countE
  rw [if_neg (not_not_intro hv.zero), if_neg hne, ← hs.count hv, hlen]; rfl
theorem least_spec {deg : Int} {l : List (Int × Int)} (hv : R.Valid deg l) (hn : 0 < l.length) :
    (R.leastE deg l = (0, 23) ∧ ∀ k : Nat, k ≤ 3 → R.most (k : Int) l ≠ l.length) ∨
    ∃ d : Nat, d ≤ 3 ∧ d < l.length ∧ R.leastE deg l = ((d : Int), 0) ∧ R.most (d : Int) l = l.length ∧ ∀ k : Nat, k < d → R.most (k : Int) l ≠ l.length := by
  have hs := leastTo_spec l 4
  have hE : R.leastE deg l = R.leastR (R.leastTo l 4) := by unfold R.leastE; rw [if_neg (not_not_intro hv.zero), if_neg (by omega)]
  cases e : R.leastTo l 4 with
  | none =>
    refine .inl ⟨by rw [hE, e]; rfl, fun k hk h => hs.2 e k (by omega) ((most_all (valid_deg hv k hk) hn).1 h)⟩
  | some d =>
    obtain ⟨h1, h2, h3, h4⟩ := hs.1 d e
    exact .inr ⟨d, by omega, h2, by rw [hE, e]; rfl, (most_all (valid_deg hv d (by omega)) hn).2 ⟨h2, h3⟩, fun k hk h => h4 k hk ((most_all (valid_deg hv k (by omega)) hn).1 h)⟩
theorem least_path {deg : Int} {l : List (Int × Int)} (hv : R.Valid deg l) {d : Nat} (hd : d ≤ 3) (hdn : d < l.length) (hm : R.most (d : Int) l = l.length) (hmin : ∀ k : Nat, k < d → R.most (k : Int) l ≠ l.length) {p : List Int} (h : BestOne (d : Int) l p) : p.length = d + 1 ∧ (0 < d → nth p d ≠ 0) := by
  have hvd := valid_deg hv d hd
  have hne : R.most (d : Int) l ≠ 0 := by omega
  rcases h with ⟨h1, -⟩ | ⟨-, d', e, hf, hmp⟩
  · exfalso; apply h1; unfold R.mostE; rw [if_neg (not_not_intro hvd.zero), if_neg hne]
  · have : d' = d := by omega
    subst this
    have hp := hf.props hvd
    refine ⟨hp.1, fun h0 hz => ?_⟩
    obtain ⟨k, rfl⟩ : ∃ k, d' = k + 1 := ⟨d' - 1, by omega⟩
    have hvk := valid_deg hv k (by omega)
    refine hmin k (by omega) ((most_all hvk (by omega)).2 ⟨by omega, (hitD_iff hvk (by omega) (by omega)).2 ⟨p.take (k + 1), by rw [List.length_take, hp.1]; omega, ?_⟩⟩)
    have hall := onL_all.1 (hmp.trans hm)
    exact onL_all.2 fun i hi => by rw [at_take hp.1 hz]; exact hall i hi
end C
end Go.Proofs.Ytkcgkfhfogdihaa
