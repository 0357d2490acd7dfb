/- One text of LawF. -/
import Derived.Test.YtkcgkfhfogdihaaJ15
import Derived.ProofKit
import Derived.OpenShut
import Derived.ShutString
import Derived.ChangeOld
import Derived.Below
import Derived.Carry
import Derived.Lib.SmallJoins
import Derived.Deep.SlicePairs
/- Opening the arguments of the statements: a log, a slice of integers. -/
namespace Go.Proofs.Ytkcgkfhfogdihaa
open Go.ChangeShapes Go.WideShapes Go.ChangeAt Go.RowKit
theorem own : ownKnob Try.prog.godebug = none := by kernel_rfl
theorem laidOutT : laidOutB Try.prog = true := by kernel_rfl
theorem spot_none {w : World} {a : Addr} {v : Value} (h : w.cell? (a.add 0) = some v) : ∃ b off, a = ⟨b, off, none⟩ := by
  obtain ⟨b, off, spot⟩ := a
  have e : (Addr.add ⟨b, off, spot⟩ 0).spot = none := World.cell?_spot h
  cases spot with
  | none => exact ⟨b, off, rfl⟩
  | some s => simp [Addr.add] at e
/-- The number that a value is. -/
def numV : Value → Int | .int _ n => n | _ => 0
set_option maxRecDepth 100000 in
theorem open_nums {H : Type} {enc : TypeId × Value → H} {W : World} {base : Nat} {sp : Nat → Bool} {held : Bool} {t e : TypeId} {k : IntKind} {v : Value} {d : DataW H} {p : List MemPlace} (ht : Try.prog.underlying t = some (.slice e)) (he : Try.prog.underlying e = some (.int k)) (hc : Try.prog.cellsOf e = 1)
    (hv : Value.okWide Try.prog W .any base t v) (h : DataW.Trod enc Try.prog W 0 sp held t v d p) : ∃ a cap zs, v = .slice a zs.length cap ∧ zs.length ≤ cap ∧ Ints k W a zs ∧ ∀ n ∈ zs, (Lit.int k n).wf = true := by
  obtain ⟨a, len, cap, rfl⟩ := okWide_slice ht hv
  obtain ⟨fuel, hf⟩ := h
  rcases open_ints ht he hc hf with ⟨hcs, _⟩ | ⟨x, l, c, zs, hcs, _, hl, hm, hz, _, hcell, hwz⟩
  · simp [Value.cells] at hcs
    obtain ⟨rfl, rfl, rfl⟩ := hcs
    exact ⟨none, 0, [], rfl, Nat.le_refl _, fun i hi => by simp at hi, fun n hn => by simp at hn⟩
  · simp [Value.cells] at hcs
    obtain ⟨rfl, rfl, rfl⟩ := hcs
    have hlz : len ≤ zs.length := by rw [hz]; split <;> omega
    have hlen : (zs.take len).length = len := by rw [List.length_take]; omega
    refine ⟨some x, cap, zs.take len, by rw [hlen], by omega, fun i hi => ?_, fun n hn => hwz n (List.mem_of_mem_take hn)⟩
    rw [hlen] at hi
    have hci := hcell i (by omega)
    obtain ⟨b, off, rfl⟩ := spot_none (hcell 0 (by omega))
    refine ⟨b, off, rfl, ?_⟩
    rw [C.nth_take _ _ _ hi]
    rw [addr_add] at hci; exact hci
set_option maxRecDepth 100000 in
theorem open_log {H : Type} {enc : TypeId × Value → H} {W : World} {base : Nat} {sp : Nat → Bool} {held : Bool} {v : Value} {d : DataW H} {p : List MemPlace}
    (hv : Value.okWide Try.prog W .any base 33 v) (h : DataW.Trod enc Try.prog W 0 sp held 33 v d p) : ∃ deg a cap l, v = .agg #[.int .i64 deg, .slice a l.length cap] ∧ l.length ≤ cap ∧ Sigs W a l ∧ (Lit.int .i64 deg).wf = true := by
  obtain ⟨v0, v1, y0, y1, n, rfl, -, -, h0, h1⟩ := Go.Joins.open_agg2 Try.underlying33 (by kernel_rfl) (by kernel_rfl) hv h
  obtain ⟨deg, e0, -, hw⟩ := DataW.trod_int Try.underlying3 h0
  cases e0
  rcases Go.Deep.open_slice_pairs (t := 31) (e := 57) Try.underlying31 Try.underlying57 (by kernel_rfl) rfl rfl (by kernel_rfl) (by kernel_rfl) h1 with ⟨hcs, -⟩ | ⟨a, len, cap, m, n', V0, V1, D0, D1, P0, P1, hcs, hb, hl, hm, hmm, -, hx⟩
  · cases hcs
    exact ⟨deg, none, 0, [], rfl, Nat.le_refl _, fun i hi => by simp at hi, hw⟩
  · cases hcs
    have hlm : len ≤ m := by rw [hmm]; split <;> omega
    refine ⟨deg, some a, cap, (List.range len).map fun i => (numV (V0 i), numV (V1 i)), by simp, by simpa using hl, fun i hi => ?_, hw⟩
    simp only [List.length_map, List.length_range] at hi
    obtain ⟨c0, c1, t0, t1⟩ := hx i (by omega)
    obtain ⟨z0, f0, -, -⟩ := DataW.trod_int Try.underlying2 t0
    obtain ⟨z1, f1, -, -⟩ := DataW.trod_int Try.underlying2 t1
    simp only [List.cons.injEq, and_true] at f0 f1
    have c00 := (hx 0 (by omega)).1
    rw [Nat.zero_mul] at c00
    obtain ⟨b, off, rfl⟩ := spot_none c00
    rw [addr_add, f0] at c0
    rw [addr_add, f1, ← Nat.add_assoc] at c1
    refine ⟨b, off, rfl, ?_, ?_⟩
    · rw [c0]; simp [dayN, hi, f0, numV]
    · rw [c1]; simp [plcN, hi, f1, numV]
end Go.Proofs.Ytkcgkfhfogdihaa
