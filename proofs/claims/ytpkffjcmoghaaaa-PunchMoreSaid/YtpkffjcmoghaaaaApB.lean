/- Plain Lean: a job made of two. -/
import Derived.Test.YtpkffjcmoghaaaaApA
namespace Go.Proofs.Ytpkffjcmoghaaaa
open Go Go.RowKit
section
variable {p p2 L M : Int} {S T : List P.Star}
theorem ap_valid (hS : P.Valid p L S) (hT : P.Valid p2 M T) : P.Valid p M T := ⟨hS.p1, hS.p5, hT.l1, hT.l20, hT.len, hT.ok, hT.wt⟩
theorem ap_check (hS : P.Valid p L S) (hT : P.Valid p M T) (h1 : L + M ≤ 20) (h2 : S.length + T.length ≤ 16) : P.checkJob p (L + M) (P.both L S T) = 0 := P.checkJob_iff.2 (P.both_valid hS hT h1 h2)
theorem ap_fits (hS : P.Valid p L S) (hT : P.Valid p M T) : P.fitsB (P.both L S T) p (L + M) = (P.fitsB S p L && P.fitsB T p M) := by
  rw [Bool.eq_iff_iff, Bool.and_eq_true, P.fitsB_iff, P.fitsB_iff, P.fitsB_iff, P.fits_both hS hT]
theorem ap_plan (hS : P.Valid p L S) (hT : P.Valid p M T) (h1 : L + M ≤ 20) (h2 : S.length + T.length ≤ 16) (fS : P.Fits S p L) (fT : P.Fits T p M) : P.plan (P.both L S T) p (L + M) = P.wearsB L (P.plan S p L) (P.plan T p M) := by
  obtain ⟨pn, rfl⟩ := Int.eq_ofNat_of_zero_le (show 0 ≤ p by have := hS.p1; omega)
  obtain ⟨Ln, rfl⟩ := Int.eq_ofNat_of_zero_le (show 0 ≤ L by have := hS.l1; omega)
  obtain ⟨Mn, rfl⟩ := Int.eq_ofNat_of_zero_le (show 0 ≤ M by have := hT.l1; omega)
  have := P.plan_both hS hT (by omega) h2 fS fT
  rw [← this]; rfl
theorem ap_next {j : Nat} (h : j < T.length) : (P.both L S T).take (S.length + (j + 1)) = (P.both L S T).take (S.length + j) ++ [((P.star T j).1 + L, (P.star T j).2.1 + L, (P.star T j).2.2)] := by
  have h' : S.length + j < (P.both L S T).length := by rw [P.both_length]; omega
  rw [show S.length + (j + 1) = (S.length + j) + 1 by omega, List.take_succ_eq_append_getElem h']
  have e : (P.both L S T)[S.length + j] = P.star (P.both L S T) (S.length + j) := by simp [P.star, h']
  rw [e, P.star_both2 h]
theorem ap_zero : (P.both L S T).take (S.length + 0) = S := by simp [P.both]
/-- A box and a row of its own, anywhere. -/
structure XJ (w0 : World) (bx : Nat) (p L : Int) (v : Value) (n : Nat) (U : List P.Star) (w : World) : Prop where
  cel : Cells w bx [.int .i64 p, .int .i64 L, v]
  row : w.ownsRow w0.heap.size 59 3 v n (flatS U)
  off : v.ownBlock ≠ some bx
  ge : w0.heap.size ≤ bx
  bel : Below w0.heap.size w0 w
theorem XJ.on {w0 : World} {bx : Nat} {v : Value} {n : Nat} {U : List P.Star} {w w' : World} (h : XJ w0 bx p L v n U w) (hb : Below w.heap.size w w') : XJ w0 bx p L v n U w' :=
  ⟨h.cel.on hb, owns_below h.row hb, h.off, h.ge, h.bel.trans (hb.mono h.bel.size)⟩
/-- The store that ends the region. -/
theorem XJ.mk' {w0 w' : World} {g : Nat} {sl : Value} {n : Nat} {U : List P.Star} (hb : Below w0.heap.size w0 w') (hg : w0.heap.size ≤ g) (hbox : w'.heap[g]? = some (.cells #[.int .i64 0, .int .i64 0, .slice none 0 0] 24 (0, 0)))
    (hrow : w'.ownsRow w0.heap.size 59 3 sl n (flatS U)) : sl.ownBlock ≠ some g ∧ Cells w' g [.int .i64 0, .int .i64 0, .slice none 0 0] ∧
      XJ w0 g p L sl n U (((w'.setCell ⟨g, 0, none⟩ (.int .i64 p)).setCell ⟨g, 1, none⟩ (.int .i64 L)).setCell ⟨g, 2, none⟩ sl) := by
  have hne : sl.ownBlock ≠ some g := by
    rcases hrow.2 with ⟨rfl, -⟩ | ⟨g', c', cur, rfl, h1, h2, -⟩
    · simp [Value.ownBlock]
    · intro e
      simp only [Value.ownBlock, Option.some.injEq] at e
      subst e
      rw [h2] at hbox
      simp at hbox
  have hlt := (Array.getElem?_eq_some_iff.1 hbox).1
  have hC : Cells w' g [.int .i64 0, .int .i64 0, .slice none 0 0] := by
    refine ⟨fun j v hj => ?_, fun j => ?_, hlt⟩
    · simp [World.cell?, hbox]
      exact hj
    · simp [World.frozen?, hbox]
  refine ⟨hne, hC, ?_⟩
  have hR := ((hC.set 0 (.int .i64 p) (by simp)).set 1 (.int .i64 L) (by simp)).set 2 sl (by simp)
  have hO := owns_setOther (owns_setOther (owns_setOther hrow g 0 (.int .i64 p) hne) g 1 (.int .i64 L) hne) g 2 sl hne
  exact ⟨hR, hO, hne, hg, ((hb.setCell (p := ⟨g, 0, none⟩) hg (.int .i64 p)).setCell (p := ⟨g, 1, none⟩) hg (.int .i64 L)).setCell (p := ⟨g, 2, none⟩) hg sl⟩
end
set_option maxRecDepth 100000 in
/-- append: nothing to nothing. -/
theorem listApp0 {t e : TypeId} {z : Value} {size bytes : Nat} (R : RowT t e z size bytes) {ops : Array Oper} {rest : List Oper} {o : Oper} {a : Act} {W : World} {Q : Exit → Act → World → Prop} (hgd : o.guard = none) (s x : Operand)
    (ho : o.op = .call { callee := .builtin .append, args := #[s, x], argTypes := #[t, t] }) (g c : Nat) (hs : a.eval s = .slice (some ⟨g, 0, none⟩) 0 0) (hx : a.eval x = .slice none 0 c)
    (h : wpList Try.prog ops Q rest (a.put o.dst (.slice (some ⟨g, 0, none⟩) 0 0)) W) : wpList Try.prog ops Q (o :: rest) a W := by
  obtain ⟨i0, hi, hz0, hz1, hz2⟩ := info_parts R.hi
  have hr : (Builtin.append_ #[t, t] o.type #[.slice (some ⟨g, 0, none⟩) 0 0, .slice none 0 c]).run Try.prog W = .ok (.slice (some ⟨g, 0, none⟩) 0 0) W := by
    simp [Builtin.append_, run_underlying R.ht, sizeOf, typeInfo, hi, Builtin.lenOf, go_sem]
  refine wpList_plain hgd fun _ hK => ?_
  unfold Oper.wp execOp
  simp only [ho, resolve, invoke, builtin, Sem.run_bind, Sem.run_pure, Result.andThen_ok, List.map_toArray, List.map_cons, List.map_nil, hs, hx, hr]
  exact hK _ _ h
end Go.Proofs.Ytpkffjcmoghaaaa
