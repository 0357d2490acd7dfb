/- Plain Lean: the table of distances, row by row. -/
import Derived.Test.YtcjbnifafofpbaaGreatDoorJ24
namespace X
theorem lev_reverse (a b : W) : lev a.reverse b.reverse = lev a b := by
  have h1 : lev a.reverse b.reverse ≤ lev a b := (lev_iff _ _).2 (le_reverse.2 ((lev_iff _ _).1 (Nat.le_refl _)))
  have h2 : lev a b ≤ lev a.reverse b.reverse := (lev_iff _ _).2 (le_reverse.1 ((lev_iff _ _).1 (Nat.le_refl _)))
  omega
/-- The distance of two beginnings. -/
def dst (a b : W) (i k : Nat) : Nat := lev (a.take i).reverse (b.take k).reverse
theorem dst_left (a b : W) {k : Nat} (h : k ≤ b.length) : dst a b 0 k = k := by
  unfold dst; rw [List.take_zero, List.reverse_nil, lev_nil, List.length_reverse, List.length_take]; omega
theorem dst_top (a b : W) {i : Nat} (h : i ≤ a.length) : dst a b i 0 = i := by
  unfold dst; rw [List.take_zero, List.reverse_nil, lev_nil2, List.length_reverse, List.length_take]; omega
theorem dst_step {a b : W} {i k : Nat} (hi : i < a.length) (hk : k < b.length) :
    dst a b (i + 1) (k + 1) = min (min (dst a b i k + if a[i] = b[k] then 0 else 1) (dst a b i (k + 1) + 1)) (dst a b (i + 1) k + 1) := by
  unfold dst
  rw [List.take_succ_eq_append_getElem hi, List.take_succ_eq_append_getElem hk, List.reverse_append, List.reverse_append]
  show lev (a[i] :: (a.take i).reverse) (b[k] :: (b.take k).reverse) = _
  rw [lev_cons]
  show _ = min (min _ (lev _ (b[k] :: (b.take k).reverse) + 1)) (lev (a[i] :: (a.take i).reverse) _ + 1)
  omega
theorem dst_all (a b : W) : dst a b a.length b.length = lev a b := by
  unfold dst; rw [List.take_length, List.take_length, lev_reverse]
theorem dst_le {a b : W} {i k : Nat} (hi : i ≤ a.length) (hk : k ≤ b.length) : dst a b i k ≤ i + k := by
  have : Le (i + k) (a.take i).reverse (b.take k).reverse := by
    have h1 : Ed i (a.take i).reverse [] := by
      have : ∀ q : W, Ed q.length q [] := fun q => by
        induction q with
        | nil => exact .nil
        | cons c q ih => exact .del c ih
      have h := this (a.take i).reverse
      rw [List.length_reverse, List.length_take, Nat.min_eq_left hi] at h
      exact h
    have h2 : Ed k [] (b.take k).reverse := by
      have : ∀ q : W, Ed q.length [] q := fun q => by
        induction q with
        | nil => exact .nil
        | cons c q ih => exact .ins c ih
      have h := this (b.take k).reverse
      rw [List.length_reverse, List.length_take, Nat.min_eq_left hk] at h
      exact h
    exact h1.trans h2
  exact (lev_iff _ _).2 this
theorem lev_near {n : Nat} (a b : W) : lev a b ≤ n ↔ near n a b = true := by rw [lev_iff, near_iff]
theorem ins_at {w : W} : ∀ {q : List W} (k : Nat), k ≤ q.length → Rises q → w ∉ q → (∀ x ∈ q.drop k, lt w x = true) → (∀ x, q[k - 1]? = some x → 0 < k → lt w x = false) → q.take k ++ w :: q.drop k = ins w q
  | [], k, _, _, _, _, _ => by simp [ins]
  | y :: q, 0, _, _, _, h, _ => by
    have := h y (by simp)
    unfold ins; rw [lt_asymm this]; rfl
  | y :: q, k + 1, hk, hs, hw, h, h2 => by
    have hs2 := List.pairwise_cons.1 hs
    rw [List.mem_cons, not_or] at hw
    have hy : lt w y = false := by
      cases hc : lt w y with
      | false => rfl
      | true =>
        cases k with
        | zero => exact hc.symm.trans (h2 y (by simp) (by omega))
        | succ k =>
          have hl : k < q.length := by simp at hk; omega
          have := h2 q[k] (by simp [List.getElem?_eq_getElem hl]) (by omega)
          rw [lt_trans hc (hs2.1 _ (List.getElem_mem hl))] at this; cases this
    have hy2 : lt y w = true := by
      rcases lt_total y w with e | e | e
      · exact e
      · exact absurd e.symm hw.1
      · rw [hy] at e; cases e
    unfold ins
    rw [hy2, if_pos rfl]
    rw [List.take_succ_cons, List.drop_succ_cons, List.cons_append, ins_at k (by simpa using hk) hs2.2 hw.2 (fun x hx => h x (by simpa using hx)) (fun x hx h0 => h2 x (by
      obtain ⟨j, rfl⟩ : ∃ j, k = j + 1 := ⟨k - 1, by omega⟩
      simpa using hx) (by omega))]
theorem swap_at {α : Type} (q : List α) (x : α) {p : Nat} (hp : p < q.length) : ((q.take (p + 1) ++ x :: q.drop (p + 1)).set (p + 1) q[p]).set p x = q.take p ++ x :: q.drop p := by
  have h1 : (q.take (p + 1) ++ x :: q.drop (p + 1)).set (p + 1) q[p] = q.take (p + 1) ++ q[p] :: q.drop (p + 1) := by
    rw [List.set_append]
    have : (q.take (p + 1)).length = p + 1 := by rw [List.length_take]; omega
    rw [this, if_neg (by omega), Nat.sub_self]; rfl
  rw [h1, List.take_succ_eq_append_getElem hp, List.append_assoc, List.set_append]
  have : (q.take p).length = p := by rw [List.length_take]; omega
  rw [this, if_neg (by omega), Nat.sub_self]
  rw [List.drop_eq_getElem_cons hp]
  rfl
theorem joinL_snoc (l m : List W) (w : W) : joinL l (m ++ [w]) = joinStep l (joinL l m) w := by unfold joinL; rw [List.foldl_append]; rfl
end X
