/- One text of Open, XO. -/
import Derived.Test.YtcjbnifafofpbaaGreatDoorJ20
import Derived.ProofKit
import Derived.OpenShut
import Derived.ChangeMaps5
import Derived.SliceStrings
import Derived.ChangeOld
import Derived.Below
import Derived.Carry
import Derived.Lay
import Derived.LaidMore
/- Opening the arguments of the statements: words, and slices of words. -/
namespace Go.Proofs.YtcjbnifafofpbaaGreatDoor
open Go.ChangeShapes Go.WideShapes Go.ChangeAt Go.RowKit
theorem own : ownKnob Tryz.prog.godebug = none := by kernel_rfl
theorem laidOutT : laidOutB Tryz.prog = true := by kernel_rfl
theorem spot_none {w : World} {a : Addr} {v : Value} (h : w.cell? (a.add 0) = some v) : ∃ b off, a = ⟨b, off, none⟩ := by
  obtain ⟨b, off, spot⟩ := a
  have e : (Addr.add ⟨b, off, spot⟩ 0).spot = none := World.cell?_spot h
  cases spot with
  | none => exact ⟨b, off, rfl⟩
  | some s => simp [Addr.add] at e
set_option maxRecDepth 100000 in
theorem open_word {H : Type} {enc : TypeId × Value → H} {W : World} {base : Nat} {sp : Nat → Bool} {held : Bool} {v : Value} {d : DataW H} {p : List MemPlace}
    (hv : Value.okWide Tryz.prog W .any base 9 v) (h : DataW.Trod enc Tryz.prog W 0 sp held 9 v d p) : ∃ s : X.W, v = sv s := by
  obtain ⟨s, rfl, -, -, -⟩ := Go.ChangeMaps.open_string Tryz.underlying9 hv h
  exact ⟨s.data.toList, by show _ = Value.string (bs s.data.toList); rw [bs_of]⟩
set_option maxRecDepth 100000 in
theorem open_words {H : Type} {enc : TypeId × Value → H} {W : World} {base : Nat} {sp : Nat → Bool} {held : Bool} {v : Value} {d : DataW H} {p : List MemPlace}
    (hv : Value.okWide Tryz.prog W .any base 22 v) (h : DataW.Trod enc Tryz.prog W 0 sp held 22 v d p) : ∃ a cap l, v = .slice a l.length cap ∧ (a = none → cap = 0) ∧ Strs W a l := by
  obtain ⟨a, len, cap, rfl⟩ := okWide_slice Tryz.underlying22 hv
  obtain ⟨fuel, hf⟩ := h
  rcases open_strings Tryz.underlying22 Tryz.underlying9 (by kernel_rfl) hf with ⟨hcs, _⟩ | ⟨x, l, c, ss, hcs, _, hl, hm, hz, _, hcell, hsz⟩
  · simp [Value.cells] at hcs
    obtain ⟨rfl, rfl, rfl⟩ := hcs
    exact ⟨none, 0, [], rfl, fun _ => rfl, Strs.nil _ _⟩
  · simp [Value.cells] at hcs
    obtain ⟨rfl, rfl, rfl⟩ := hcs
    have hls : len ≤ ss.length := by rw [hz]; split <;> omega
    have hlen : ((ss.take len).map (fun s => s.data.toList)).length = len := by rw [List.length_map, List.length_take]; omega
    refine ⟨some x, cap, (ss.take len).map (fun s => s.data.toList), by rw [hlen], (fun h => by cases h), fun i hi => ?_⟩
    rw [hlen] at hi
    have hci := hcell i (by omega)
    obtain ⟨b, off, rfl⟩ := spot_none (hcell 0 (by omega))
    refine ⟨b, off, rfl, ?_⟩
    rw [addr_add] at hci
    rw [hci]
    have e : wat ((ss.take len).map (fun s => s.data.toList)) i = (ss.getD i ByteArray.empty).data.toList := by
      unfold wat
      have h1 : i < ss.length := by omega
      simp [List.getD_eq_getElem?_getD, hi, h1]
    rw [e]
end Go.Proofs.YtcjbnifafofpbaaGreatDoor
/- Plain Lean: the one first word with the endings of a word. -/
namespace X
theorem idx_iff {l : List W} (hl : List_ l) {u : W} (h : ends l u ≠ []) {k : Nat} (hk : k < (tops l).length) : ends l ((tops l).getD k []) = ends l u ↔ k = idx l (ends l u) := by
  obtain ⟨h1, h2⟩ := idx_spec hl (scan_ends h)
  constructor
  · intro e
    refine top_inj hl hk h1 ?_
    rw [h2]; exact e
  · rintro rfl
    exact h2
/-- The ways so far, and the one that is looked for. -/
def upTo (q : List Int) (x k : Nat) : List Int := q ++ if x < k then [(x : Int)] else []
theorem upTo_zero (q : List Int) (x : Nat) : upTo q x 0 = q := by unfold upTo; simp
theorem upTo_hit (q : List Int) (x : Nat) : upTo q x (x + 1) = upTo q x x ++ [(x : Int)] := by unfold upTo; simp
theorem upTo_miss (q : List Int) {x k : Nat} (h : k ≠ x) : upTo q x (k + 1) = upTo q x k := by
  unfold upTo
  by_cases h1 : x < k
  · rw [if_pos h1, if_pos (by omega)]
  · rw [if_neg h1, if_neg (by omega)]
theorem upTo_all (q : List Int) {x n : Nat} (h : x < n) : upTo q x n = q ++ [(x : Int)] := by unfold upTo; rw [if_pos h]
theorem upTo_len (q : List Int) (x k : Nat) : (upTo q x k).length ≤ q.length + 1 := by unfold upTo; split <;> simp
end X
