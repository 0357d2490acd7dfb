/- One text of ComQ. -/
import Derived.Test.YtkcgkfhfogdihaaJ11
import Derived.ChangeKeysEq
/- A loop over the map of the paths found: its step; which entries are still there, or have been collected. -/
namespace Go.Proofs.Ytkcgkfhfogdihaa
open Go.RowKit Go.Shelf Go.Maps
theorem eq_zero (a b c d : Int) (w : World) : (binOp .eql 76 (.agg #[.int .i64 a, .int .i64 b, .int .i64 c, .int .i64 d]) (.agg #[.int .i64 0, .int .i64 0, .int .i64 0, .int .i64 0])).run Try.prog w = .ok (.bool (a == 0 && (b == 0 && (c == 0 && d == 0)))) w := by
  have h2 := info_parts T22.hi
  obtain ⟨i0, hi, -, hz1, -⟩ := h2
  have hi' : Try.prog.info? 2 = some i0 := hi
  have ha : ∀ w, (isAgg 2).run Try.prog w = .ok false w := Try.isAgg2
  rw [run_eql_struct, show (10000 : Nat) = 9998 + 1 + 1 from rfl, run_equalIn_array w (9998 + 1) _ _ Try.underlying76 hi']
  have hc : Try.prog.cellsOf 2 = 1 := by kernel_rfl
  have u2 := Try.underlying2
  have a2 := Try.isAgg2
  have z2 := Try.sizeOf2
  have hr : List.range 4 = [0, 1, 2, 3] := rfl
  rw [hc, hr]
  simp only [Op.eqItems]
  go_simp
  by_cases h1 : a = 0 <;> by_cases h2 : b = 0 <;> by_cases h3 : c = 0 <;> by_cases h4 : d = 0 <;> simp [h1, h2, h3, h4]
/-- The step of a range over the map, the entries that are still to come being paths found. -/
theorem wpNextT {w : World} {ops : Array Oper} {rest : List Oper} {o : Oper} {a : Act} {Q : Exit → Act → World → Prop} (hg : o.guard = none) (it : Operand) (hop : o.op = Op.next it false) (l : List (Int × Int)) (Qs : List (List Int))
    (b r n : Nat) (D : DataW Unit) (left : Lit → Bool) (cnt : Nat) (hit : a.eval it = .pointer (some ⟨r, 0, none⟩)) (h : w.ranges Try.prog 114 (plainElem Try.prog 3) b r n D left cnt)
    (hok : ∀ q ∈ Qs, q.all R.numOk = true) (hL : ∀ kl, left kl = true → ∃ q ∈ Qs, klT q = kl) (hAt : ∀ q ∈ Qs, left (klT q) = true → ∀ z, D.atKey (klT q) z = .lit (.int .i64 (C.onL l q)))
    (hDone : cnt = 0 → (∀ kl, left kl = false) → wpList Try.prog ops Q rest (a.put o.dst (.tuple #[.bool false])) w)
    (hMore : ∀ q ∈ Qs, left (klT q) = true → ∀ (w' : World) (cnt' : Nat), w'.ranges Try.prog 114 (plainElem (H := Unit) Try.prog 3) b r n D (fun z => left z && !z.sameKey (klT q)) cnt' → cnt' < cnt → w.grownBy w' (some r) → w'.heap.size = w.heap.size →
      (Instr.entry (.pointer (some ⟨r, 0, none⟩))).run Try.prog w' = .ok (.tuple #[.agg #[.int .i64 (nth q 0), .int .i64 (nth q 1), .int .i64 (nth q 2), .int .i64 (nth q 3)], .int .i64 (C.onL l q)]) w' →
      wpList Try.prog ops Q rest (a.put o.dst (.tuple #[.bool true, .agg #[.int .i64 (nth q 0), .int .i64 (nth q 1), .int .i64 (nth q 2), .int .i64 (nth q 3)], .int .i64 (C.onL l q)])) w') :
    wpList Try.prog ops Q (o :: rest) a w := by
  refine wpList_plain hg fun K' hK' => ?_
  unfold Oper.wp
  rcases h.next K114 o.type with ⟨h0, hl, hrun⟩ | ⟨key, v, kl, y, w', cnt', hkey, hlk, hv, hat, hrun, hrg, hlt, hgr, hsz, hen⟩
  · simp [execOp, hop, hit, hrun, Result.andThen]
    exact hK' _ _ (hDone h0 hl)
  · obtain ⟨q, hq, rfl⟩ := hL kl hlk
    have ek : key = trackV q := K114.inj hkey (klT_key (hok q hq))
    subst ek
    obtain ⟨c, rfl, hy, -⟩ := plainElem_int_inv Try.underlying3 hv
    have ec : c = (C.onL l q : Int) := by
      have h1 := hat (.lit (.int .i64 0))
      rw [hAt q hq hlk, hy] at h1
      simp only [DataW.lit.injEq, Lit.int.injEq, true_and] at h1
      exact h1.symm
    subst ec
    simp [execOp, hop, hit, hrun, Result.andThen]
    exact hK' _ _ (hMore q hq hlk w' cnt' hrg hlt hgr hsz hen)
set_option maxRecDepth 100000 in
theorem klT_lit {q : List Int} (hz : q.all R.numOk = true) : WideAt.IsKeyLit (klT q) := K114.key (klT_key hz)
theorem klT_same (q : List Int) (hz : q.all R.numOk = true) : (klT q).sameKey (klT q) = true := WideAt.sameKey_self (klT_lit hz)
theorem left_iff {left : Lit → Bool} {kl k : Lit} (hk : WideAt.IsKeyLit k) : (left kl && !kl.sameKey k) = true ↔ left kl = true ∧ kl ≠ k := by
  by_cases e : kl = k
  · subst e; simp [WideAt.sameKey_self hk]
  · simp [sameKey_ne e, e]
/-- While the entries that are not the greatest are struck. -/
structure Strike (l : List (Int × Int)) (M : Nat) (Qs : List (List Int)) (D : DataW Unit) (left : Lit → Bool) : Prop where
  has : ∀ kl, Maps.has D kl = true ↔ ∃ q ∈ Qs, klT q = kl ∧ (left kl = true ∨ C.onL l q = M)
  at_ : ∀ q ∈ Qs, Maps.has D (klT q) = true → ∀ z, D.atKey (klT q) z = .lit (.int .i64 (C.onL l q))
  sub : ∀ kl, left kl = true → ∃ q ∈ Qs, klT q = kl
variable {l : List (Int × Int)} {M m : Nat} {Qs : List (List Int)} {D : DataW Unit} {left : Lit → Bool}
theorem Strike.start (h : Good l m D Qs) : Strike l M Qs D (Maps.has D) :=
  ⟨fun kl => ⟨fun hh => by obtain ⟨q, hq, e⟩ := (h.has kl).1 hh; exact ⟨q, hq, e, .inl hh⟩, fun ⟨q, hq, e, _⟩ => (h.has kl).2 ⟨q, hq, e⟩⟩, fun q hq _ z => h.at_ q hq z, fun kl hk => (h.has kl).1 hk⟩
theorem Strike.pass (h : Strike l M Qs D left) (hok : ∀ q ∈ Qs, PathOk m q) {q : List Int} (hq : q ∈ Qs) (hm : C.onL l q = M) : Strike l M Qs D (fun z => left z && !z.sameKey (klT q)) := by
  have hk := klT_lit (hok q hq).1
  refine ⟨fun kl => (h.has kl).trans ⟨?_, ?_⟩, h.at_, fun kl hkl => h.sub kl ((left_iff hk).1 hkl).1⟩
  · rintro ⟨p, hp, e, hl⟩
    by_cases e2 : kl = klT q
    · exact ⟨q, hq, e2.symm, .inr hm⟩
    · exact ⟨p, hp, e, hl.imp (fun h1 => (left_iff hk).2 ⟨h1, e2⟩) id⟩
  · rintro ⟨p, hp, e, hl⟩
    exact ⟨p, hp, e, hl.imp (fun h1 => ((left_iff hk).1 h1).1) id⟩
theorem Strike.struck (h : Strike l M Qs D left) (hok : ∀ q ∈ Qs, PathOk m q) (hm4 : m ≤ 4) {q : List Int} (hq : q ∈ Qs) (hm : C.onL l q ≠ M) : Strike l M Qs (D.del (klT q)) (fun z => left z && !z.sameKey (klT q)) := by
  have hk := klT_lit (hok q hq).1
  have inj : ∀ p ∈ Qs, klT p = klT q → p = q := fun p hp e => klT_inj (hok p hp).1 (hok q hq).1 (by rw [(hok p hp).2]; exact hm4) (by rw [(hok p hp).2, (hok q hq).2]) e
  refine ⟨fun kl => ?_, fun p hp hh z => ?_, fun kl hkl => h.sub kl ((left_iff hk).1 hkl).1⟩
  · by_cases e : kl = klT q
    · subst e
      rw [has_del_same]
      constructor
      · intro h1; cases h1
      · rintro ⟨p, hp, e, hl⟩
        rcases hl with hl | hl
        · exact absurd rfl ((left_iff hk).1 hl).2
        · rw [inj p hp e] at hl; exact absurd hl hm
    · rw [has_del_other e, h.has]
      constructor
      · rintro ⟨p, hp, e1, hl⟩; exact ⟨p, hp, e1, hl.imp (fun h1 => (left_iff hk).2 ⟨h1, e⟩) id⟩
      · rintro ⟨p, hp, e1, hl⟩; exact ⟨p, hp, e1, hl.imp (fun h1 => ((left_iff hk).1 h1).1) id⟩
  · by_cases e : klT p = klT q
    · rw [e, has_del_same] at hh; cases hh
    · rw [atKey_del_other e]; rw [has_del_other e] at hh; exact h.at_ p hp hh z
/-- While the greatest ones are collected. -/
structure Coll (l : List (Int × Int)) (M : Nat) (Qs : List (List Int)) (left : Lit → Bool) (qs : List (List Int)) : Prop where
  all : ∀ q ∈ Qs, C.onL l q = M → left (klT q) = true ∨ q ∈ qs
  mem : ∀ q ∈ qs, q ∈ Qs ∧ C.onL l q = M ∧ left (klT q) = false
  nodup : qs.Nodup
  sub : ∀ kl, left kl = true → ∃ q ∈ Qs, klT q = kl ∧ C.onL l q = M
theorem Coll.start (h : Strike l M Qs D left) (hl : ∀ kl, left kl = false) : Coll l M Qs (Maps.has D) [] :=
  ⟨fun q hq hm => .inl ((h.has _).2 ⟨q, hq, rfl, .inr hm⟩), fun q hq => by simp at hq, List.nodup_nil, fun kl hk => by
    obtain ⟨q, hq, e, h1⟩ := (h.has kl).1 hk
    rcases h1 with h1 | h1
    · rw [hl kl] at h1; cases h1
    · exact ⟨q, hq, e, h1⟩⟩
theorem Coll.more {qs qs' : List (List Int)} (h : Coll l M Qs left qs) (hok : ∀ q ∈ Qs, PathOk m q) (hm4 : m ≤ 4) {q : List Int} (hq : q ∈ Qs) (hl : left (klT q) = true) (hp : qs'.Perm (q :: qs)) : Coll l M Qs (fun z => left z && !z.sameKey (klT q)) qs' := by
  have hk := klT_lit (hok q hq).1
  have inj : ∀ p ∈ Qs, klT p = klT q → p = q := fun p hp e => klT_inj (hok p hp).1 (hok q hq).1 (by rw [(hok p hp).2]; exact hm4) (by rw [(hok p hp).2, (hok q hq).2]) e
  have hM : C.onL l q = M := by
    obtain ⟨p, hp1, e, h1⟩ := h.sub _ hl
    rw [← inj p hp1 e]; exact h1
  have hself : (left (klT q) && !(klT q).sameKey (klT q)) = false := by rw [klT_same q (hok q hq).1]; simp
  refine ⟨fun p hp1 hm => ?_, fun p hp1 => ?_, ?_, fun kl hkl => h.sub kl ((left_iff hk).1 hkl).1⟩
  · by_cases e : p = q
    · subst e; exact .inr (hp.mem_iff.2 (by simp))
    · rcases h.all p hp1 hm with h1 | h1
      · exact .inl ((left_iff hk).2 ⟨h1, fun e2 => e (inj p hp1 e2)⟩)
      · exact .inr (hp.mem_iff.2 (by simp [h1]))
  · rcases List.mem_cons.1 (hp.mem_iff.1 hp1) with e | h1
    · subst e; exact ⟨hq, hM, hself⟩
    · obtain ⟨h2, h3, h4⟩ := h.mem p h1
      exact ⟨h2, h3, by show (left (klT p) && _) = false; rw [h4]; rfl⟩
  · refine hp.nodup_iff.2 (List.nodup_cons.2 ⟨fun h1 => ?_, h.nodup⟩)
    have := (h.mem q h1).2.2
    rw [hl] at this; cases this
theorem Coll.done {qs : List (List Int)} (h : Coll l M Qs left qs) (hl : ∀ kl, left kl = false) : qs.Nodup ∧ ∀ q, q ∈ qs ↔ q ∈ Qs ∧ C.onL l q = M :=
  ⟨h.nodup, fun q => ⟨fun hq => ⟨(h.mem q hq).1, (h.mem q hq).2.1⟩, fun ⟨h1, h2⟩ => (h.all q h1 h2).resolve_left (by rw [hl]; simp)⟩⟩
end Go.Proofs.Ytkcgkfhfogdihaa
