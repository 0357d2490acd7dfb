/- Plain Lean: a log with a sighting more, or less. -/
import Derived.Test.YtkcgkfhfogdihaaLawN
import Derived.Test.YtkcgkfhfogdihaaMathJ
namespace Go.Proofs.Ytkcgkfhfogdihaa
namespace C
theorem onN_congr {l l' : List (Int × Int)} (q : List Int) (j : Nat) (h : ∀ i, i < j → dayN l i = dayN l' i ∧ plcN l i = plcN l' i) : onN l q j = onN l' q j := by
  induction j with
  | zero => rfl
  | succ j ih => rw [onN_succ, onN_succ, ih (fun i hi => h i (by omega)), (h j (by omega)).1, (h j (by omega)).2]
theorem onL_snoc (l : List (Int × Int)) (d p : Int) (q : List Int) : onL (l ++ [(d, p)]) q = if R.atD q d = p then onL l q + 1 else onL l q := by
  unfold onL
  rw [List.length_append, List.length_singleton, onN_succ, (dayN_right l d p).1, (dayN_right l d p).2, onN_congr (l' := l) q l.length (fun i hi => dayN_left l d p i hi)]
  by_cases h : R.atD q d = p
  · rw [if_pos h, if_pos (by rw [h]; simp)]
  · rw [if_neg h, if_neg (by simpa using h)]
theorem take_valid {deg : Int} {l : List (Int × Int)} (hv : R.Valid deg l) (m : Nat) : R.Valid deg (l.take m) := by
  have hl : (l.take m).length = min m l.length := List.length_take
  refine valid_of hv.d0 hv.d3 (by have := hv.len; omega) (fun i hi => ?_) (fun i hi => ?_)
  · rw [(dayN_take l m i (by omega)).1, (dayN_take l m i (by omega)).2]; exact hv.fit i (by omega)
  · rw [(dayN_take l m i (by omega)).1, (dayN_take l m (i + 1) (by omega)).1]; exact hv.inc i (by omega)
theorem split_last (l : List (Int × Int)) (h : 0 < l.length) : l = l.take (l.length - 1) ++ [(dayN l (l.length - 1), plcN l (l.length - 1))] := by
  have e := List.take_append_getElem (l := l) (i := l.length - 1) (by omega)
  rw [show l.length - 1 + 1 = l.length by omega, List.take_length] at e
  conv => lhs; rw [← e]
  congr 2
  unfold dayN plcN
  rw [List.getD_eq_getElem?_getD, List.getElem?_eq_getElem (by omega)]; rfl
theorem most_less {d : Nat} {l : List (Int × Int)} (hv : R.Valid (d : Int) l) (hn : 0 < l.length) (h0 : R.most (d : Int) (l.take (l.length - 1)) ≠ 0) :
    R.most (d : Int) l ≠ 0 ∧ R.most (d : Int) (l.take (l.length - 1)) ≤ R.most (d : Int) l ∧ R.most (d : Int) l ≤ R.most (d : Int) (l.take (l.length - 1)) + 1 := by
  have hvl := take_valid hv (l.length - 1)
  have hs := fun q => onL_snoc (l.take (l.length - 1)) (dayN l (l.length - 1)) (plcN l (l.length - 1)) q
  rw [← split_last l hn] at hs
  have hbd := most_bd hvl h0
  obtain ⟨q, hq, e⟩ := (most_ex hvl).resolve_left h0
  have h1 := hs q
  have hq1 : Found l d q := (found_iff hv).2 ⟨(hq.props hvl).1, by split at h1 <;> omega⟩
  have h2 := most_ge hv hq1
  have hge : R.most (d : Int) (l.take (l.length - 1)) ≤ R.most (d : Int) l := by split at h1 <;> omega
  refine ⟨by omega, hge, ?_⟩
  rcases most_ex hv with e2 | ⟨x, hx, e2⟩
  · omega
  · have h3 := hs x
    have hxl := (hx.props hv).1
    by_cases hh : d + 1 ≤ onL (l.take (l.length - 1)) x
    · have := most_ge hvl ((found_iff hvl).2 ⟨hxl, hh⟩)
      split at h3 <;> omega
    · split at h3 <;> omega
theorem most_more {d : Nat} {l : List (Int × Int)} {t y : Int} {p : List Int} (hv : R.Valid (d : Int) l) (hv' : R.Valid (d : Int) (l ++ [(t, y)])) (hp : Found l d p) (hm : onL l p = R.most (d : Int) l) (hy : R.atD p t = y) : R.most (d : Int) (l ++ [(t, y)]) = R.most (d : Int) l + 1 := by
  have hpl := (hp.props hv).1
  have h1 := onL_snoc l t y p
  rw [if_pos hy, hm] at h1
  have hb := ((found_iff hv).1 hp).2
  have h2 := most_ge hv' ((found_iff hv').2 ⟨hpl, by omega⟩)
  rcases most_ex hv' with e | ⟨x, hx, e⟩
  · omega
  · have h3 := onL_snoc l t y x
    have hxl := (hx.props hv').1
    by_cases hh : d + 1 ≤ onL l x
    · have := most_ge hv ((found_iff hv).2 ⟨hxl, hh⟩)
      split at h3 <;> omega
    · split at h3 <;> omega
end C
theorem Sigs.news {w : World} {ad : Addr} {l : List (Int × Int)} (h : Sigs w (some ad) l) : ∀ j u, (flat l)[j]? = some u → w.cell? (ad.add j) = some u := by
  intro j u hj
  have hjl : j < l.length * 2 := by
    have := (List.getElem?_eq_some_iff.1 hj).1
    rw [flat_length] at this; exact this
  obtain ⟨b, off, e, h1, h2⟩ := h (j / 2) (by omega)
  cases e
  have hg := flat_get l (j / 2) (by omega)
  rw [addr_add]
  rcases Nat.mod_two_eq_zero_or_one j with hm | hm
  · have ej : j / 2 * 2 = j := by omega
    rw [ej] at hg h1
    rw [hg.1] at hj; cases hj; exact h1
  · have ej : j / 2 * 2 + 1 = j := by omega
    rw [ej] at hg
    rw [Nat.add_assoc, ej] at h2
    rw [hg.2] at hj; cases hj; exact h2
end Go.Proofs.Ytkcgkfhfogdihaa
