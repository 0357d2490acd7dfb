/- Plain Lean: words for the walk of IndexSorted. -/
import Derived.Test.YtcjbnifafofpbaaGreatDoorJ24
namespace X
/-- The longest word of a state by its first ways. -/
def lonP (l : List W) (i k : Nat) : Int := (((at_ (build l) i).next.take k).map (fun n => 1 + (lon l n.toNat : Int))).foldl max ((at_ (build l) i).ends - 1)
theorem lonP_zero (l : List W) (i : Nat) : lonP l i 0 = (at_ (build l) i).ends - 1 := by simp [lonP]
theorem lonP_succ (l : List W) (i : Nat) {k : Nat} (hk : k < (at_ (build l) i).next.length) : lonP l i (k + 1) = max (lonP l i k) (1 + (lon l ((at_ (build l) i).next[k]).toNat : Int)) := by
  unfold lonP
  rw [List.take_succ_eq_append_getElem hk, List.map_append, List.foldl_append]; rfl
theorem lonP_all {l : List W} (hl : List_ l) (h0 : l ≠ []) {i : Nat} (hi : i < (tops l).length) : lonP l i (at_ (build l) i).next.length = (lon l i : Int) := by
  unfold lonP
  rw [List.take_length]; exact lon_fold hl h0 hi
theorem lon_le {l : List W} (hl : List_ l) (i : Nat) : lon l i ≤ 10 := longest_bd (fun e he => by have := ends_len hl he; omega)
end X
