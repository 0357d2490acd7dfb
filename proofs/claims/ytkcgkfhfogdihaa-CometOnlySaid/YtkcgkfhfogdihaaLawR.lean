/- Walk of Seen. -/
import Derived.Test.YtkcgkfhfogdihaaMathL
namespace Go.Proofs.Ytkcgkfhfogdihaa
open Go.RowKit
/-- What has been built of Seen's log behind the days below t. -/
structure SeenL (p : List Int) (t : Nat) (r : List (Int × Int)) : Prop where
  len : r.length ≤ 12
  low : ∀ i, i < r.length → 0 ≤ dayN r i ∧ dayN r i < t
  inc : R.Inc r
  at' : ∀ i, i < r.length → plcN r i = R.atD p (dayN r i) ∧ -90000 ≤ plcN r i ∧ plcN r i ≤ 90000
theorem SeenL.nil (p : List Int) : SeenL p 0 [] := ⟨by simp, fun i h => by simp at h, fun i h => by simp at h, fun i h => by simp at h⟩
theorem SeenL.skip {p : List Int} {t : Nat} {r : List (Int × Int)} (h : SeenL p t r) : SeenL p (t + 1) r := ⟨h.len, fun i hi => by have := h.low i hi; omega, h.inc, h.at'⟩
theorem SeenL.add {p : List Int} {t : Nat} {r : List (Int × Int)} (h : SeenL p t r) (hl : r.length < 12) (h1 : -90000 ≤ R.atD p t) (h2 : R.atD p t ≤ 90000) : SeenL p (t + 1) (r ++ [((t : Int), R.atD p t)]) := by
  refine ⟨by rw [List.length_append, List.length_singleton]; omega, fun i hi => ?_, fun i hi => ?_, fun i hi => ?_⟩
  · rw [List.length_append, List.length_singleton] at hi
    by_cases e : i < r.length
    · rw [(dayN_left r _ _ i e).1]; have := h.low i e; omega
    · have : i = r.length := by omega
      subst this
      rw [(dayN_right r _ _).1]; omega
  · rw [List.length_append, List.length_singleton] at hi
    rw [(dayN_left r _ _ i (by omega)).1]
    by_cases e : i + 1 < r.length
    · rw [(dayN_left r _ _ (i + 1) e).1]; exact h.inc i (by omega)
    · have : i + 1 = r.length := by omega
      rw [this, (dayN_right r _ _).1]; exact (h.low i (by omega)).2
  · rw [List.length_append, List.length_singleton] at hi
    by_cases e : i < r.length
    · rw [(dayN_left r _ _ i e).1, (dayN_left r _ _ i e).2]; exact h.at' i e
    · have : i = r.length := by omega
      subst this
      rw [(dayN_right r _ _).1, (dayN_right r _ _).2]; exact ⟨rfl, h1, h2⟩
/-- What has been changed of the first j. -/
structure SeenC (p : List Int) (j c : Nat) (r : List (Int × Int)) : Prop where
  len : r.length ≤ 12
  low : ∀ i, i < r.length → 0 ≤ dayN r i ∧ dayN r i ≤ 60
  inc : R.Inc r
  rest : ∀ i, j ≤ i → i < r.length → plcN r i = R.atD p (dayN r i)
  bd : ∀ i, i < r.length → -90003 ≤ plcN r i ∧ plcN r i ≤ 90003
  fresh : ∀ i, j ≤ i → i < r.length → -90000 ≤ plcN r i ∧ plcN r i ≤ 90000
  cnt : C.onN r p j + c = j
theorem SeenL.start {p : List Int} {r : List (Int × Int)} (h : SeenL p 61 r) : SeenC p 0 0 r :=
  ⟨h.len, fun i hi => by have := h.low i hi; omega, h.inc, fun i _ hi => (h.at' i hi).1, fun i hi => by have := (h.at' i hi).2; omega, fun i _ hi => (h.at' i hi).2, rfl⟩
theorem SeenC.keep {p : List Int} {j c : Nat} {r : List (Int × Int)} (h : SeenC p j c r) (hj : j < r.length) : SeenC p (j + 1) c r := by
  refine ⟨h.len, h.low, h.inc, fun i hi => h.rest i (by omega), h.bd, fun i hi => h.fresh i (by omega), ?_⟩
  rw [C.onN_succ, if_pos (by rw [h.rest j (Nat.le_refl _) hj]; simp)]
  have := h.cnt; omega
theorem dayN_set (r : List (Int × Int)) (j : Nat) (x : Int) (i : Nat) (hj : j < r.length) : dayN (r.set j (dayN r j, x)) i = dayN r i ∧ plcN (r.set j (dayN r j, x)) i = if i = j then x else plcN r i := by
  unfold dayN plcN
  simp only [List.getD_eq_getElem?_getD, List.getElem?_set]
  by_cases e : j = i
  · subst e; simp [hj]
  · have e' : ¬ i = j := fun h => e h.symm
    simp [e, e']
theorem SeenC.change {p : List Int} {j c : Nat} {r : List (Int × Int)} (h : SeenC p j c r) (hj : j < r.length) {x : Int} (h0 : 0 < x) (h3 : x ≤ 3) : SeenC p (j + 1) (c + 1) (r.set j (dayN r j, plcN r j + x)) := by
  have hs := fun i => dayN_set r j (plcN r j + x) i hj
  have hf := h.fresh j (Nat.le_refl _) hj
  have hr := h.rest j (Nat.le_refl _) hj
  refine ⟨by rw [List.length_set]; exact h.len, fun i hi => ?_, fun i hi => ?_, fun i hi hl => ?_, fun i hi => ?_, fun i hi hl => ?_, ?_⟩
  · rw [List.length_set] at hi; rw [(hs i).1]; exact h.low i hi
  · rw [List.length_set] at hi; rw [(hs i).1, (hs (i + 1)).1]; exact h.inc i hi
  · rw [List.length_set] at hl; rw [(hs i).1, (hs i).2, if_neg (by omega)]; exact h.rest i (by omega) hl
  · rw [List.length_set] at hi; rw [(hs i).2]; split
    · omega
    · exact h.bd i hi
  · rw [List.length_set] at hl; rw [(hs i).2, if_neg (by omega)]; exact h.fresh i (by omega) hl
  · rw [C.onN_succ, (hs j).1, (hs j).2, if_pos rfl, if_neg (by rw [beq_iff_eq]; omega)]
    rw [C.onN_congr (l' := r) p j (fun i hi => ⟨(hs i).1, by rw [(hs i).2, if_neg (by omega)]⟩)]
    have := h.cnt; omega
/-- Behind all: a log, and how many of its sightings do not lie on the path. -/
theorem SeenC.done {p : List Int} {c d : Nat} {r : List (Int × Int)} (h : SeenC p r.length c r) (hd : d ≤ 3) : R.Valid (d : Int) r ∧ C.onL r p + c = r.length :=
  ⟨C.valid_of (by omega) (by omega) h.len (fun i hi => by have := h.low i hi; have := h.bd i hi; unfold R.FitS; omega) h.inc, h.cnt⟩
theorem flat_set (r : List (Int × Int)) (j : Nat) (x : Int) (hj : j < r.length) : flat (r.set j (dayN r j, x)) = (flat r).set (j * 2 + 1) (.int .i64 x) := by
  apply List.ext_getElem?
  intro k
  have hl := flat_length (r.set j (dayN r j, x))
  rw [List.length_set] at hl
  by_cases hk : k < r.length * 2
  · have hg := flat_get (r.set j (dayN r j, x)) (k / 2) (by rw [List.length_set]; omega)
    have hg0 := flat_get r (k / 2) (by omega)
    have hs := dayN_set r j x (k / 2) hj
    rw [List.getElem?_set]
    rcases Nat.mod_two_eq_zero_or_one k with hm | hm
    · have e : k / 2 * 2 = k := by omega
      rw [e] at hg hg0
      rw [hg.1, hs.1, if_neg (by omega), hg0.1]
    · have e : k / 2 * 2 + 1 = k := by omega
      rw [e] at hg hg0
      rw [hg.2, hs.2]
      by_cases hh : k / 2 = j
      · rw [if_pos hh, if_pos (by omega), if_pos (by rw [flat_length]; omega)]
      · rw [if_neg hh, if_neg (by omega), hg0.2]
  · rw [List.getElem?_eq_none (by omega), List.getElem?_eq_none (by rw [List.length_set, flat_length]; omega)]
/-- The worlds in which Seen builds its log in the block H; the block Z holds what is handed back. -/
structure SeenI (w0 ws : World) (Z H : Nat) (deg : Int) (v : Value) (r : List (Int × Int)) (wi : World) : Prop where
  x0 : wi.cell? ⟨H, 0, none⟩ = some (.int .i64 deg)
  x1 : wi.cell? ⟨H, 1, none⟩ = some v
  fz : wi.frozen? ⟨H, 1, none⟩ = false
  own : wi.ownsRow ws.heap.size 57 2 v r.length (flat r)
  bel : Below w0.heap.size w0 wi
  sz : ws.heap.size ≤ wi.heap.size
  kp : ∀ k, k < ws.heap.size → k ≠ H → wi.heap[k]? = ws.heap[k]?
theorem SeenI.step {w0 ws : World} {Z H : Nat} {deg : Int} {v : Value} {r : List (Int × Int)} {wi w1 w2 : World} {v2 : Value} {s : Int × Int}
    (h : SeenI w0 ws Z H deg v r wi) (hH : H < ws.heap.size) (h0 : w0.heap.size ≤ H) (hb : Below wi.heap.size wi w1) (hg : w1.grownBy w2 v.ownBlock) (ho : w2.ownsRow ws.heap.size 57 2 v2 (r.length + 1) (flat (r ++ [s]))) :
    SeenI w0 ws Z H deg v2 (r ++ [s]) (w2.setCell ⟨H, 1, none⟩ v2) := by
  have ne : ∀ c, c < ws.heap.size → some c ≠ v.ownBlock := fun c hc e => by have := (h.own.lt c e.symm).1; omega
  have sz := h.sz
  have bs := hb.size
  have c : ∀ {p : Addr} {u : Value}, p.block < ws.heap.size → wi.cell? p = some u → w2.cell? p = some u := fun hp hu => hg.cell (cell_on hb hu) (ne _ hp)
  have f : ∀ {p : Addr}, p.block < ws.heap.size → w2.frozen? p = wi.frozen? p := fun {p} hp => by
    rw [← hb.frozen (p := p) (by omega)]
    exact World.frozen?_of_block (hg.block _ (by omega) (ne _ hp))
  refine ⟨?_, World.cell?_setCell_same _ _ _ (c hH h.x1), by rw [World.frozen?_setCell, f hH]; exact h.fz, ?_, ?_, ?_, fun k hk hkH => ?_⟩
  · rw [World.cell?_setCell_other _ _ _ _ (by simp)]; exact c hH h.x0
  · rw [List.length_append, List.length_singleton]; exact ownsRow_setCell_below ho hH _
  · exact ((h.bel.trans (hb.mono h.bel.size)).grown hg (by have := h.bel.size; omega) (fun k e => by have := (h.own.lt k e).1; have := h.bel.size; omega)).setCell (p := ⟨H, 1, none⟩) h0 _
  · have := hg.size
    simp [World.setCell]
    omega
  · rw [Below.heap_setCell _ _ _ _ hkH, hg.block k (by omega) (ne k hk), hb.block k (by omega)]
    exact h.kp k hk hkH
theorem SeenI.below {w0 ws : World} {Z H : Nat} {deg : Int} {v : Value} {r : List (Int × Int)} {wi w1 : World} (h : SeenI w0 ws Z H deg v r wi) (hH : H < ws.heap.size) (hb : Below wi.heap.size wi w1) : SeenI w0 ws Z H deg v r w1 := by
  have sz := h.sz
  exact ⟨cell_on hb h.x0, cell_on hb h.x1, by rw [hb.frozen (p := ⟨H, 1, none⟩) (by show H < _; omega)]; exact h.fz, owns_below h.own hb, h.bel.trans (hb.mono h.bel.size), by have := hb.size; omega, fun k hk hkH => (hb.block k (by omega)).trans (h.kp k hk hkH)⟩
theorem SeenI.cell {w0 ws : World} {Z H : Nat} {deg : Int} {v : Value} {r : List (Int × Int)} {wi : World} (h : SeenI w0 ws Z H deg v r wi) {p : Addr} {u : Value} (hp : ws.cell? p = some u) (hne : p.block ≠ H) : wi.cell? p = some u :=
  (World.cell?_of_block (h.kp p.block (World.block_lt_of_cell? _ _ hp) hne)).trans hp
end Go.Proofs.Ytkcgkfhfogdihaa
