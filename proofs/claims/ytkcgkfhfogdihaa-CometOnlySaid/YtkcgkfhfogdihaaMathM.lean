/- The plain law of CometOnly. -/
import Derived.Test.YtkcgkfhfogdihaaLawS
import Derived.Test.YtkcgkfhfogdihaaMathK
namespace Go.Proofs.Ytkcgkfhfogdihaa
namespace C
structure OnlyP (d : Nat) (l : List (Int × Int)) (p : List Int) (c : Nat) : Prop where
  only : R.onlyE (d : Int) l (c : Int) = (p, 0)
  most : R.mostE (d : Int) l = ((l.length : Int) - (c : Int), 0)
  count : R.countE (d : Int) l = (1, 0)
  path : ∀ q, BestOne (d : Int) l q → q = p
  kind : ∀ i, i < l.length → R.kindE (d : Int) l (i : Int) = (if R.atD p (dayN l i) = plcN l i then 0 else 2, 0)
theorem onlyP {d : Nat} {l : List (Int × Int)} {p : List Int} {c : Nat} (hv : R.Valid (d : Int) l) (hp : p.length = d + 1) (h5 : c ≤ 5) (hn : d + 1 + 2 * c ≤ l.length) (hon : onL l p + c = l.length) : OnlyP d l p c := by
  have hf : Found l d p := (found_iff hv).2 ⟨hp, by omega⟩
  have hge := most_ge hv hf
  have hne : R.most (d : Int) l ≠ 0 := by omega
  have huniq : ∀ q, Found l d q → onL l q = R.most (d : Int) l → q = p := fun q hq e => by
    have h2 := both_ge hv.len q p
    exact eq_of_both hv (hq.props hv).1 hp (by omega)
  obtain ⟨q, hq, e⟩ := (most_ex hv).resolve_left hne
  have hqp := huniq q hq e
  subst hqp
  have hm : R.mostE (d : Int) l = ((l.length : Int) - (c : Int), 0) := by
    unfold R.mostE
    rw [if_neg (not_not_intro hv.zero), if_neg hne, ← e]
    have : ((onL l q : Nat) : Int) = (l.length : Int) - (c : Int) := by omega
    rw [this]
  have hbest : ∀ x, x ∈ R.best (d : Int) l → x = R.on l q := fun x hx => by
    obtain ⟨⟨q', h1, h2⟩, h3⟩ := (best_mem' hv.len x).1 hx
    have : onL l q' = R.most (d : Int) l := by rw [← onL_size hv.len, h2]; exact h3
    rw [← h2, huniq q' h1 this]
  have hin : R.on l q ∈ R.best (d : Int) l := (best_mem' hv.len _).2 ⟨⟨q, hq, rfl⟩, by rw [onL_size hv.len]; exact e⟩
  obtain ⟨qs, hs⟩ := same_ex hv
  have hall : ∀ x ∈ qs, x = q := fun x hx => huniq x (hs.found x hx) (hs.most x hx)
  have hlen : qs.length = 1 := by
    have hq1 := hs.all q hq e
    match qs, hs.nodup, hall, hq1 with
    | [x], _, _, _ => rfl
    | x :: y :: r, hnd, hall, _ =>
      have e1 := hall x (by simp)
      have e2 := hall y (by simp)
      rw [e1, e2] at hnd
      simp at hnd
  have hbl : (R.best (d : Int) l).length = 1 := by rw [← hs.count hv, hlen]
  obtain ⟨x, hx⟩ : ∃ x, R.best (d : Int) l = [x] := List.length_eq_one_iff.1 hbl
  have hxe : x = R.on l q := hbest x (by rw [hx]; simp)
  subst hxe
  refine ⟨?_, hm, ?_, fun q' h => ?_, fun i hi => ?_⟩
  · unfold R.onlyE
    rw [if_neg (not_not_intro hv.zero), if_neg (by omega), if_neg (by omega)]
    exact onlyR_some hv (by omega) hf (by omega)
  · unfold R.countE
    rw [if_neg (not_not_intro hv.zero), if_neg hne, hbl]; rfl
  · rcases h with ⟨h1, -⟩ | ⟨-, d', hd', h1, h2⟩
    · rw [hm] at h1; exact absurd rfl h1
    · have : d' = d := by omega
      subst this
      exact huniq q' h1 h2
  · rw [kindE_valid hv hi, if_neg hne, hbl]
    have hw : R.wrongs (d : Int) l i = 1 - R.on l q / 2 ^ i % 2 := by
      unfold R.wrongs
      rw [hbl, hx]
      show 0 + (1 - _) = _
      simp
    have hb := on_bit l q i hi
    by_cases h : R.atD q (dayN l i) = plcN l i
    · rw [if_pos h, hw, hb.2 h]; rfl
    · have h0 : R.on l q / 2 ^ i % 2 = 0 := by
        have := mt hb.1 h; omega
      rw [if_neg h, hw, h0]; rfl
end C
end Go.Proofs.Ytkcgkfhfogdihaa
