/- Steps of a region that makes a job out of two: an append to an empty slice of its own, a box. -/
import Derived.Test.YtpkffjcmoghaaaaLastH
import Derived.Test.YtpkffjcmoghaaaaJ16
namespace Go.Proofs.Ytpkffjcmoghaaaa
open Go Go.RowKit Go.Lib Go.Sort
/-- A row of its own, from a block on. -/
def KOwn (base : Nat) (S : List P.Star) : Known := fun v w => w.ownsRow base 59 3 v S.length (flatS S)
def KEmp (base : Nat) : Known := fun v w => ∃ g, v = .slice (some ⟨g, 0, none⟩) 0 0 ∧ w.ownsRow base 59 3 v 0 []
def KAgg (base : Nat) (x y : Value) (S : List P.Star) : Known := fun v w => ∃ b c, v = .agg #[x, y, .slice b S.length c] ∧ w.ownsRow base 59 3 (.slice b S.length c) S.length (flatS S)
def KBox (base : Nat) : Known := fun v w => ∃ g, v = .pointer (some ⟨g, 0, none⟩) ∧ base ≤ g ∧ w.heap[g]? = some (.cells #[.int .i64 0, .int .i64 0, .slice none 0 0] 24 (0, 0))
theorem owns_on {base : Nat} {v : Value} {n : Nat} {xs : List Value} {w w' : World} (h : w.ownsRow base 59 3 v n xs) (hb : Below w.heap.size w w') : w'.ownsRow base 59 3 v n xs := owns_below h hb
theorem KOwn.st (base : Nat) (S : List P.Star) : ∀ v w w', KOwn base S v w → Below w.heap.size w w' → KOwn base S v w' := fun _ _ _ h hb => owns_on h hb
theorem KEmp.st (base : Nat) : ∀ v w w', KEmp base v w → Below w.heap.size w w' → KEmp base v w' := fun _ _ _ ⟨g, e, h⟩ hb => ⟨g, e, owns_on h hb⟩
theorem KAgg.st (base : Nat) (x y : Value) (S : List P.Star) : ∀ v w w', KAgg base x y S v w → Below w.heap.size w w' → KAgg base x y S v w' := fun _ _ _ ⟨g, c, e, h⟩ hb => ⟨g, c, e, owns_on h hb⟩
theorem KBox.st (base : Nat) : ∀ v w w', KBox base v w → Below w.heap.size w w' → KBox base v w' := fun _ _ _ ⟨g, e, h1, h2⟩ hb => ⟨g, e, h1, by rw [hb.block g (Array.getElem?_eq_some_iff.1 h2).1]; exact h2⟩
section
variable {Q : Exit → Act → World → Prop} {R : List Known} {ks : List Nat} {a : Act} {w : World} {i : Nat} {dst : Option Tmp} {ty : TypeId} {pos : String} {after : Array Edge}
theorem step_out {o : Oper} {q : Nat} {v0 v1 : Value} (hq : q ∉ ks) (he : a.eval (.tmp q) = v0) (hR : Rat R i = KEq v1)
    (hrun : ∀ (a' : Act) (w' : World), a'.tmps[q]?.getD undef = v0 → Below w.heap.size w w' → (execOp a'.eval o).run Try.prog w' = .ok (.value v1) w') : StepG Try.prog Q R ks a w i o := by
  intro a' w' hA hb hd K hK
  exact op_value (hrun a' w' (tmp_of ((hA.eval hq).trans he)) hb) (hK _ _ (Below.refl _ _) (by rw [hR]; rfl))
set_option maxRecDepth 100000 in
theorem step_emp (hR : Rat R i = KEmp w.heap.size) : StepG Try.prog Q R ks a w i ⟨dst, .buildSlice 22 0 #[], ty, pos, after, none⟩ := by
  intro a' w' hA hb hd K hK
  refine op_value (w' := w'.alloc (.cells #[] 59)) (v := .slice (some ⟨w'.heap.size, 0, none⟩) 0 0) (by simp [execOp, go_sem]) (hK _ _ (Below.new _ _) ?_)
  rw [hR]
  exact ⟨_, rfl, owns_empty w' 59 3 hb.size⟩
set_option maxRecDepth 100000 in
theorem step_box (hR : Rat R i = KBox w.heap.size) : StepG Try.prog Q R ks a w i ⟨dst, .alloc 24, ty, pos, after, none⟩ := by
  intro a' w' hA hb hd K hK
  refine op_value (w' := w'.alloc (.cells #[.int .i64 0, .int .i64 0, .slice none 0 0] 24)) (v := .pointer (some ⟨w'.heap.size, 0, none⟩)) (by simp [execOp, go_sem]) (hK _ _ (Below.new _ _) ?_)
  rw [hR]
  exact ⟨_, rfl, hb.size, heap_alloc_new w' _⟩
set_option maxRecDepth 100000 in
theorem step_app0 {ad : Option Addr} {cap j1 j2 q1 q2 : Nat} {S : List P.Star} (hS : Stars w ad S) (hn : S.length ≤ 1000)
    (hq1 : ks.getD j1 0 = q1) (hj1 : j1 ∈ (after.toList.filter (fun e => Region.binds .any e)).map (fun e => e.on)) (hR1 : Rat R j1 = KEmp w.heap.size)
    (hq2 : ks.getD j2 0 = q2) (hj2 : j2 ∈ (after.toList.filter (fun e => Region.binds .any e)).map (fun e => e.on)) (hR2 : Rat R j2 = KEq (.slice ad S.length cap)) (hR : Rat R i = KOwn w.heap.size S) :
    StepG Try.prog Q R ks a w i ⟨dst, .call { callee := .builtin .append, args := #[.tmp q1, .tmp q2], argTypes := #[22, 22] }, ty, pos, after, none⟩ := by
  intro a' w' hA hb hd K hK
  obtain ⟨g, e1, ho⟩ := (show KEmp w.heap.size _ _ by have := hd j1 hj1; rw [hR1, hq1] at this; exact this)
  have e2 : a'.eval (.tmp q2) = .slice ad S.length cap := by have := hd j2 hj2; rw [hR2, hq2] at this; exact this
  obtain ⟨i0, hi, hz0, hz1, hz2⟩ := info_parts T22.hi
  by_cases h0 : 0 < S.length
  · obtain ⟨sb, so, rfl, -⟩ := hS 0 h0
    have hS' := hS.below hb
    obtain ⟨v', w'', hr, h2, h3⟩ := run_append_arg_grows (P := Try.prog) (w := w') 22 ty 59 i0 _ 3 _ T22.ht hi hz0 hz1 hz2 T22.hz T22.hs.1 ⟨g, 0, none⟩ 0 0 [] (by simp) (by simp) ⟨sb, so, none⟩ S.length cap (flatS S) (flatS_length S) hS'.news (by omega) (by unfold maxLen; omega) (Nat.le_trans (Nat.mul_le_mul (show 0 + S.length ≤ 2000000 by omega) T22.hs.2) (by decide))
    have hbl : Below w'.heap.size w' w'' := (Below.refl _ _).grown h3 (Nat.le_refl _) (fun k e => by cases e)
    refine op_value (w' := w'') (v := v') ?_ (hK _ _ hbl ?_)
    · unfold execOp
      simp only [resolve, invoke, builtin, Sem.run_bind, Sem.run_pure, Result.andThen_ok, List.map_toArray, List.map_cons, List.map_nil, e1, e2, hr]
    · rw [hR]
      have := h2
      rw [Nat.zero_add, List.nil_append] at this
      refine ⟨this.1, this.2.imp id ?_⟩
      rintro ⟨g', c', cur, x1, x2, x3⟩
      exact ⟨g', c', cur, x1, Nat.le_trans hb.size x2, x3⟩
  · have hn0 : S = [] := List.eq_nil_of_length_eq_zero (by omega)
    subst hn0
    refine op_value (w' := w') (v := .slice (some ⟨g, 0, none⟩) 0 0) ?_ (hK _ _ (Below.refl _ _) ?_)
    · unfold execOp
      simp only [resolve, invoke, builtin, Sem.run_bind, Sem.run_pure, Result.andThen_ok, List.map_toArray, List.map_cons, List.map_nil, e1, e2]
      cases ad <;> simp [Builtin.append_, run_underlying T22.ht, sizeOf, typeInfo, hi, Builtin.lenOf, go_sem]
    · rw [hR]
      have := ho
      rw [e1] at this
      exact this
set_option maxRecDepth 100000 in
theorem step_agg {j1 j2 j3 q1 q2 q3 base : Nat} {x y : Value} {S : List P.Star} (hq1 : ks.getD j1 0 = q1) (hj1 : j1 ∈ (after.toList.filter (fun e => Region.binds .any e)).map (fun e => e.on)) (hR1 : Rat R j1 = KEq x)
    (hq2 : ks.getD j2 0 = q2) (hj2 : j2 ∈ (after.toList.filter (fun e => Region.binds .any e)).map (fun e => e.on)) (hR2 : Rat R j2 = KEq y)
    (hq3 : ks.getD j3 0 = q3) (hj3 : j3 ∈ (after.toList.filter (fun e => Region.binds .any e)).map (fun e => e.on)) (hR3 : Rat R j3 = KOwn base S) (hR : Rat R i = KAgg base x y S)
    (hrun : ∀ (a' : Act) (w' : World) (b : Option Addr) (c : Nat), a'.tmps[q1]?.getD undef = x → a'.tmps[q2]?.getD undef = y → a'.tmps[q3]?.getD undef = .slice b S.length c → (execOp a'.eval ⟨dst, .build 24 #[(0, .tmp q1), (1, .tmp q2), (2, .tmp q3)], ty, pos, after, none⟩).run Try.prog w' = .ok (.value (.agg #[x, y, .slice b S.length c])) w') :
    StepG Try.prog Q R ks a w i ⟨dst, .build 24 #[(0, .tmp q1), (1, .tmp q2), (2, .tmp q3)], ty, pos, after, none⟩ := by
  intro a' w' hA hb hd K hK
  have e1 : a'.eval (.tmp q1) = x := by have := hd j1 hj1; rw [hR1, hq1] at this; exact this
  have e2 : a'.eval (.tmp q2) = y := by have := hd j2 hj2; rw [hR2, hq2] at this; exact this
  have h3 := (show KOwn base S _ _ by have := hd j3 hj3; rw [hR3, hq3] at this; exact this)
  obtain ⟨-, b, c, e3, -, -⟩ := owns_stars h3
  exact op_value (v := .agg #[x, y, .slice b S.length c]) (hrun a' w' b c (tmp_of e1) (tmp_of e2) (tmp_of e3)) (hK _ _ (Below.refl _ _) (by rw [hR]; rw [e3] at h3; exact ⟨_, _, rfl, h3⟩))
end
end Go.Proofs.Ytpkffjcmoghaaaa
