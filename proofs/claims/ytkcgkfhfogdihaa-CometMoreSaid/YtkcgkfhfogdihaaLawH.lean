/- Walk of the statement CometStill; opening four small numbers. -/
import Derived.Test.YtkcgkfhfogdihaaLawG
import Derived.Laws.IdiomArrays
namespace Go.Proofs.Ytkcgkfhfogdihaa
open Go.ChangeShapes Go.WideShapes Go.ChangeAt Go.RowKit
theorem i8_bd {n : Int} (h : (Lit.int .i8 n).wf = true) : -128 ≤ n ∧ n ≤ 127 := by
  simp [Lit.wf] at h
  have h1 : IntKind.i8.min = -128 := by decide
  have h2 : IntKind.i8.max = 127 := by decide
  omega
theorem u8_bd {n : Int} (h : (Lit.int .u8 n).wf = true) : 0 ≤ n ∧ n ≤ 255 := by
  simp [Lit.wf] at h
  have h1 : IntKind.u8.min = 0 := by decide
  have h2 : IntKind.u8.max = 255 := by decide
  omega
set_option maxRecDepth 100000 in
theorem open_by {H : Type} {enc : TypeId × Value → H} {W : World} {base : Nat} {sp : Nat → Bool} {held : Bool} {v : Value} {d : DataW H} {p : List MemPlace}
    (hv : Value.okWide Try.prog W .any base 47 v) (h : DataW.Trod enc Try.prog W 0 sp held 47 v d p) : ∃ b, v = by8 b ∧ Small b := by
  have hv' := hv
  simp only [Value.okWide, Try.underlying47] at hv'
  obtain ⟨cs, rfl, hsz, -⟩ := hv'
  obtain ⟨c0, c1, c2, c3, rfl⟩ := Go.Joins.array4 (hsz.trans (by kernel_rfl))
  obtain ⟨fuel, hf⟩ := h
  obtain ⟨y0, y1, y2, y3, n, -, h0, h1, h2, h3⟩ := trod_array4 Try.underlying47 (by kernel_rfl) (by simpa [Value.cells] using hf)
  obtain ⟨z0, e0, -, w0⟩ := DataW.trod_int Try.underlying46 h0
  obtain ⟨z1, e1, -, w1⟩ := DataW.trod_int Try.underlying46 h1
  obtain ⟨z2, e2, -, w2⟩ := DataW.trod_int Try.underlying46 h2
  obtain ⟨z3, e3, -, w3⟩ := DataW.trod_int Try.underlying46 h3
  cases e0; cases e1; cases e2; cases e3
  refine ⟨[z0, z1, z2, z3], rfl, fun i hi => ?_⟩
  obtain rfl | rfl | rfl | rfl : i = 0 ∨ i = 1 ∨ i = 2 ∨ i = 3 := by omega
  · exact i8_bd w0
  · exact i8_bd w1
  · exact i8_bd w2
  · exact i8_bd w3
/-! ### A path seen later: its first and its last number; the differences of two days -/
theorem later_first {p : List Int} (h : p.length ≤ 4) (h1 : 1 ≤ p.length) (k : Int) : nth (R.laterOf p k) 0 = R.atD p k := by
  unfold R.laterOf
  obtain ⟨n, hn⟩ : ∃ n, p.length = n + 1 := ⟨p.length - 1, by omega⟩
  have e := R.tab_nth (fun i : Nat => R.atD p (k + i)) p.length 0 (by omega)
  have hl := R.tab_length (fun i : Nat => R.atD p (k + i)) p.length
  generalize R.tab (fun i : Nat => R.atD p (k + i)) p.length = t at *
  match t, hl with
  | [], hl => simp at hl; omega
  | a :: r, _ =>
    rw [R.diffs_cons]
    simp [nth] at e ⊢
    exact e
theorem later_last {p : List Int} (h : p.length ≤ 4) (h1 : 1 ≤ p.length) (k : Int) : nth (R.laterOf p k) (p.length - 1) = nth p (p.length - 1) := by
  have q : ∀ c : Int, 6 * R.atD p (k + c) = R.poly p (k + c) := fun c => C.atD_polyI h _
  have q0 := q (0 : Nat); have q1 := q (1 : Nat); have q2 := q (2 : Nat); have q3 := q (3 : Nat)
  unfold R.laterOf
  generalize hf : (fun i : Nat => R.atD p (k + (i : Int))) = f
  have f0 : R.atD p (k + ((0 : Nat) : Int)) = f 0 := by rw [← hf]
  have f1 : R.atD p (k + ((1 : Nat) : Int)) = f 1 := by rw [← hf]
  have f2 : R.atD p (k + ((2 : Nat) : Int)) = f 2 := by rw [← hf]
  have f3 : R.atD p (k + ((3 : Nat) : Int)) = f 3 := by rw [← hf]
  rw [f0] at q0; rw [f1] at q1; rw [f2] at q2; rw [f3] at q3
  clear hf q f0 f1 f2 f3
  rcases R.list4 h with rfl | ⟨a, rfl⟩ | ⟨a, b, rfl⟩ | ⟨a, b, c, rfl⟩ | ⟨a, b, c, d, rfl⟩
  · simp at h1
  · simp [R.poly, nth] at q0
    simp [R.diffs, R.diffsF, R.tab, up, nth]; omega
  · simp [R.poly, nth] at q0 q1
    simp [R.diffs, R.diffsF, R.steps, R.tab, up, nth]; grind
  · simp [R.poly, nth] at q0 q1 q2
    simp [R.diffs, R.diffsF, R.steps, R.tab, up, nth]; grind
  · simp [R.poly, nth] at q0 q1 q2 q3
    simp [R.diffs, R.diffsF, R.steps, R.tab, up, nth]; grind
theorem step_less {p : List Int} (h : p.length ≤ 4) (h2 : 2 ≤ p.length) (k : Int) : R.atD p (k + 1) - R.atD p k = R.atD (p.drop 1) k := by
  have q0 := C.atD_polyI h k
  have q1 := C.atD_polyI h (k + 1)
  have q2 := C.atD_polyI (q := p.drop 1) (by rw [List.length_drop]; omega) k
  suffices e : R.poly p (k + 1) - R.poly p k = R.poly (p.drop 1) k by omega
  clear q0 q1 q2
  rcases R.list4 h with rfl | ⟨a, rfl⟩ | ⟨a, b, rfl⟩ | ⟨a, b, c, rfl⟩ | ⟨a, b, c, d, rfl⟩
  · simp at h2
  · simp at h2
  · simp [R.poly, nth]; grind
  · simp [R.poly, nth]; grind
  · simp [R.poly, nth]; grind
theorem at_one (x t : Int) : R.atD [x] t = x := by simp [R.atD, R.atFrom, up, nth, R.ways]
theorem at_ok {p : List Int} (h1 : 1 ≤ p.length) (h4 : p.length ≤ 4) (hz : p.all R.numOk = true) {k : Int} (h0 : 0 ≤ k) (h60 : k ≤ 60) : R.at' p k = (R.atD p k, 0) := by
  have : R.isPath p = 0 := by unfold R.isPath; rw [if_neg (by omega), if_pos hz]
  unfold R.at'; rw [if_pos this, if_neg (by omega)]
theorem later_ok {p : List Int} (h1 : 1 ≤ p.length) (h4 : p.length ≤ 4) (hz : p.all R.numOk = true) {k : Int} (h0 : 0 ≤ k) (h60 : k ≤ 60) : R.later p k = (R.laterOf p k, 0) := by
  have : R.isPath p = 0 := by unfold R.isPath; rw [if_neg (by omega), if_pos hz]
  unfold R.later; rw [if_pos this, if_neg (by omega)]
theorem laterOf_length (p : List Int) (k : Int) : (R.laterOf p k).length = p.length := by unfold R.laterOf; rw [R.diffs_length, R.tab_length]
end Go.Proofs.Ytkcgkfhfogdihaa
