/- One text of ComF. -/
import Derived.Test.YtpkffjcmoghaaaaJ6
import Derived.Maps.OwnIn
import Derived.Maps.OwnSet
import Derived.Maps.OwnOps
import Derived.Maps.RangeWalk
import Derived.DeepKeys4
import Derived.ChangeKeysEq
/- The map of strikes: its keys, and what it holds. -/
namespace Go.Proofs.Ytpkffjcmoghaaaa
open Go.RowKit Go.Shelf Go.Maps
theorem laidOut : laidOutB Try.prog = true := by kernel_rfl
theorem row112 : (112 : TypeId) < Try.prog.types.size := of_decide_eq_true (by kernel_rfl)
theorem deep112 : Try.prog.keyTypeAt 4 112 = true := by kernel_rfl
theorem law112 : WideMaps.KeyLaw Try.prog 112 := deep_law_laid laidOut (m := 4) (by omega) row112 deep112 (by rw [Try.underlying112])
theorem K112 : Keyed Try.prog 112 := Keyed.of_law law112
abbrev keyV (w c : Int) : Value := .agg #[.int .i64 w, .int .i64 c]
theorem key_ex {w c : Int} (hw : 0 ≤ w ∧ w < 100) (hc : 0 ≤ c ∧ c < 100) : ∃ kl, keyOf Try.prog 112 (keyV w c) = some kl := by
  have w0 : (Lit.int .i64 w).wf = true := WalkArith.wf_i64 (by omega)
  have w1 : (Lit.int .i64 c).wf = true := WalkArith.wf_i64 (by omega)
  have hk : Try.prog.keyType 112 = true := by kernel_rfl
  have hc1 : Try.prog.cellsOf 112 = 2 := by kernel_rfl
  have hc3 : Try.prog.cellsOf 3 = 1 := by kernel_rfl
  have hs : ∃ m, Try.prog.types.size + 1 = m + 1 + 1 + 1 := ⟨Try.prog.types.size - 2, by have h : 112 < Try.prog.types.size := row112; omega⟩
  obtain ⟨m, hm⟩ := hs
  unfold keyOf
  rw [Try.underlying112]
  simp only [hk, keyV, Value.formed, Try.underlying112, hc1, hm]
  simp [Program.keyLits, Try.underlying112, Try.underlying3, hc1, hc3, Value.cells, w0, w1]
theorem klEx (w c : Int) : ∃ kl, (0 ≤ w ∧ w < 100) → (0 ≤ c ∧ c < 100) → keyOf Try.prog 112 (keyV w c) = some kl := by
  by_cases hw : 0 ≤ w ∧ w < 100
  · by_cases hc : 0 ≤ c ∧ c < 100
    · obtain ⟨kl, hk⟩ := key_ex hw hc
      exact ⟨kl, fun _ _ => hk⟩
    · exact ⟨.bool false, fun _ h => absurd h hc⟩
  · exact ⟨.bool false, fun h => absurd h hw⟩
noncomputable def klS (w c : Int) : Lit := Classical.choose (klEx w c)
theorem klS_key {w c : Int} (hw : 0 ≤ w ∧ w < 100) (hc : 0 ≤ c ∧ c < 100) : keyOf Try.prog 112 (keyV w c) = some (klS w c) := Classical.choose_spec (klEx w c) hw hc
/-- A strike: wear, punch, star. -/
abbrev Ent := Int × Int × Nat
def EntOk (n : Nat) (e : Ent) : Prop := (0 ≤ e.1 ∧ e.1 < 100) ∧ (0 ≤ e.2.1 ∧ e.2.1 < 100) ∧ e.2.2 < n
noncomputable def klE (e : Ent) : Lit := klS e.1 e.2.1
theorem klE_key {n : Nat} {e : Ent} (h : EntOk n e) : keyOf Try.prog 112 (keyV e.1 e.2.1) = some (klE e) := klS_key h.1 h.2.1
theorem klE_inj {n : Nat} {e f : Ent} (he : EntOk n e) (hf : EntOk n f) (h : klE e = klE f) : e.1 = f.1 ∧ e.2.1 = f.2.1 := by
  have := K112.inj (klE_key he) (by rw [h]; exact klE_key hf)
  simp only [keyV, Value.agg.injEq, Array.mk.injEq, List.cons.injEq, Value.int.injEq, true_and, and_true] at this
  exact this
theorem klE_lit {n : Nat} {e : Ent} (h : EntOk n e) : WideAt.IsKeyLit (klE e) := K112.key (klE_key h)
theorem klE_same {n : Nat} {e : Ent} (h : EntOk n e) : (klE e).sameKey (klE e) = true := WideAt.sameKey_self (klE_lit h)
/-- The keys differ. -/
def Apart (o : List Ent) : Prop := o.Pairwise fun e f => ¬ (e.1 = f.1 ∧ e.2.1 = f.2.1)
theorem Apart.eq {o : List Ent} (h : Apart o) {e f : Ent} (he : e ∈ o) (hf : f ∈ o) (h1 : e.1 = f.1) (h2 : e.2.1 = f.2.1) : e = f := by
  induction o with
  | nil => simp at he
  | cons x r ih =>
    unfold Apart at h
    rw [List.pairwise_cons] at h
    rcases List.mem_cons.1 he with he1 | he1
    · rcases List.mem_cons.1 hf with hf1 | hf1
      · rw [he1, hf1]
      · exact absurd ⟨by rw [← he1]; exact h1, by rw [← he1]; exact h2⟩ (h.1 f hf1)
    · rcases List.mem_cons.1 hf with hf1 | hf1
      · exact absurd ⟨by rw [← hf1]; exact h1.symm, by rw [← hf1]; exact h2.symm⟩ (h.1 e he1)
      · exact ih h.2 he1 hf1
/-- What the map holds. -/
structure Good (n : Nat) (D : DataW Unit) (o : List Ent) : Prop where
  ok : ∀ e ∈ o, EntOk n e
  apart : Apart o
  tidy : Tidy D
  has : ∀ kl, Maps.has D kl = true ↔ ∃ e ∈ o, klE e = kl
  at_ : ∀ e ∈ o, ∀ z, D.atKey (klE e) z = .lit (.int .i64 (e.2.2 : Int))
  size : Maps.size D = o.length
theorem tidy_map {D : DataW Unit} (h : Tidy D) : IsMap D := by obtain ⟨es, rfl, -⟩ := h; exact ⟨es, rfl⟩
theorem tidy_nil : Tidy (.map [] : DataW Unit) := ⟨[], rfl, List.Pairwise.nil⟩
theorem Good.start (n : Nat) : Good n (.map []) [] :=
  ⟨fun e h => by simp at h, List.Pairwise.nil, tidy_nil, fun kl => ⟨fun h => by simp [Maps.has] at h, fun ⟨q, h, _⟩ => by simp at h⟩, fun e h => by simp at h, rfl⟩
theorem Good.step {n : Nat} {D : DataW Unit} {o : List Ent} (h : Good n D o) {e : Ent} (he : EntOk n e) (hn : ∀ f ∈ o, ¬ (f.1 = e.1 ∧ f.2.1 = e.2.1)) : Good n (D.put (klE e) (.lit (.int .i64 (e.2.2 : Int)))) (o ++ [e]) := by
  have hk := klE_lit he
  have hno : Maps.has D (klE e) = false := by
    cases hh : Maps.has D (klE e) with
    | false => rfl
    | true =>
      obtain ⟨f, hf, hfe⟩ := (h.has _).1 hh
      exact absurd (klE_inj (h.ok f hf) he hfe) (hn f hf)
  refine ⟨fun f hf => ?_, ?_, h.tidy.put hk _, fun kl => ?_, fun f hf z => ?_, ?_⟩
  · rcases List.mem_append.1 hf with hf | hf
    · exact h.ok f hf
    · rw [List.mem_singleton] at hf; subst hf; exact he
  · unfold Apart; rw [List.pairwise_append]
    exact ⟨h.apart, by simp, fun a ha b hb => by rw [List.mem_singleton] at hb; subst hb; exact hn a ha⟩
  · by_cases e1 : kl = klE e
    · subst e1
      exact ⟨fun _ => ⟨e, by simp, rfl⟩, fun _ => has_put_same (tidy_map h.tidy) hk _⟩
    · rw [has_put_other e1, h.has]
      constructor
      · rintro ⟨f, hf, e2⟩; exact ⟨f, List.mem_append_left _ hf, e2⟩
      · rintro ⟨f, hf, e2⟩
        rcases List.mem_append.1 hf with hf | hf
        · exact ⟨f, hf, e2⟩
        · rw [List.mem_singleton] at hf; subst hf; exact absurd e2.symm e1
  · by_cases e1 : klE f = klE e
    · rcases List.mem_append.1 hf with hf | hf
      · exact absurd (klE_inj (h.ok f hf) he e1) (hn f hf)
      · rw [List.mem_singleton] at hf; subst hf
        exact atKey_put_same (tidy_map h.tidy) hk _ _
    · rw [atKey_put_other e1]
      rcases List.mem_append.1 hf with hf | hf
      · exact h.at_ f hf z
      · rw [List.mem_singleton] at hf; subst hf; exact absurd rfl e1
  · rw [size_put h.tidy, hno, h.size]; simp
/-! ### those that are too late are struck out -/
theorem left_iff {left : Lit → Bool} {kl k : Lit} (hk : WideAt.IsKeyLit k) : (left kl && !kl.sameKey k) = true ↔ left kl = true ∧ kl ≠ k := by
  by_cases e : kl = k
  · subst e; simp [WideAt.sameKey_self hk]
  · simp [sameKey_ne e, e]
theorem countP_one {o : List Ent} {e : Ent} (ha : Apart o) (he : e ∈ o) {p q : Ent → Bool} (hp : p e = true) (hq : q e = false) (hs : ∀ f ∈ o, f ≠ e → q f = p f) : o.countP q + 1 = o.countP p := by
  induction o with
  | nil => simp at he
  | cons x r ih =>
    have ha0 := ha
    unfold Apart at ha
    rw [List.pairwise_cons] at ha
    rw [List.countP_cons, List.countP_cons]
    by_cases hxe : x = e
    · subst hxe
      have hr : ∀ f ∈ r, f ≠ x := fun f hf ef => by rw [ef] at hf; exact ha.1 x hf ⟨rfl, rfl⟩
      have : r.countP q = r.countP p := P.countP_eq_of r q p fun f hf => hs f (by simp [hf]) (hr f hf)
      rw [this, hp, hq]; simp
    · have her : e ∈ r := by rcases List.mem_cons.1 he with h | h; exact absurd h.symm hxe; exact h
      have := ih ha.2 her (fun f hf => hs f (by simp [hf]))
      rw [hs x (by simp) hxe]; omega
structure Late (n : Nat) (tm : Ent → Bool) (o : List Ent) (D : DataW Unit) (left : Lit → Bool) : Prop where
  ok : ∀ e ∈ o, EntOk n e
  apart : Apart o
  tidy : Tidy D
  has : ∀ kl, Maps.has D kl = true ↔ ∃ e ∈ o, klE e = kl ∧ (left kl = true ∨ tm e = true)
  at_ : ∀ e ∈ o, Maps.has D (klE e) = true → ∀ z, D.atKey (klE e) z = .lit (.int .i64 (e.2.2 : Int))
  sub : ∀ kl, left kl = true → ∃ e ∈ o, klE e = kl
  size : Maps.size D = o.countP fun e => left (klE e) || tm e
section
variable {n : Nat} {tm : Ent → Bool} {o : List Ent} {D : DataW Unit} {left : Lit → Bool}
theorem Late.start (h : Good n D o) : Late n tm o D (Maps.has D) := by
  refine ⟨h.ok, h.apart, h.tidy, fun kl => ⟨fun hh => by obtain ⟨e, he, hk⟩ := (h.has kl).1 hh; exact ⟨e, he, hk, .inl hh⟩, fun ⟨e, he, hk, _⟩ => (h.has kl).2 ⟨e, he, hk⟩⟩, fun e he _ z => h.at_ e he z, fun kl hk => (h.has kl).1 hk, ?_⟩
  rw [h.size]
  symm
  rw [List.countP_eq_length]
  intro e he
  rw [(h.has _).2 ⟨e, he, rfl⟩]; rfl
theorem Late.pass (h : Late n tm o D left) {e : Ent} (he : e ∈ o) (ht : tm e = true) : Late n tm o D (fun z => left z && !z.sameKey (klE e)) := by
  have hk := klE_lit (h.ok e he)
  refine ⟨h.ok, h.apart, h.tidy, fun kl => (h.has kl).trans ⟨?_, ?_⟩, h.at_, fun kl hkl => h.sub kl ((left_iff hk).1 hkl).1, ?_⟩
  · rintro ⟨f, hf, e1, hl⟩
    by_cases e2 : kl = klE e
    · exact ⟨e, he, e2.symm, .inr ht⟩
    · exact ⟨f, hf, e1, hl.imp (fun h1 => (left_iff hk).2 ⟨h1, e2⟩) id⟩
  · rintro ⟨f, hf, e1, hl⟩
    exact ⟨f, hf, e1, hl.imp (fun h1 => ((left_iff hk).1 h1).1) id⟩
  · rw [h.size]
    refine P.countP_eq_of o _ _ fun f hf => ?_
    by_cases e1 : klE f = klE e
    · have := klE_inj (h.ok f hf) (h.ok e he) e1
      have hfe := h.apart.eq hf he this.1 this.2
      subst hfe
      rw [ht]; simp
    · rw [sameKey_ne e1]; simp
theorem Late.struck (h : Late n tm o D left) {e : Ent} (he : e ∈ o) (ht : tm e = false) (hl : left (klE e) = true) : Late n tm o (D.del (klE e)) (fun z => left z && !z.sameKey (klE e)) := by
  have hk := klE_lit (h.ok e he)
  have hh : Maps.has D (klE e) = true := (h.has _).2 ⟨e, he, rfl, .inl hl⟩
  have inj : ∀ f ∈ o, klE f = klE e → f = e := fun f hf e1 => by
    have := klE_inj (h.ok f hf) (h.ok e he) e1
    exact h.apart.eq hf he this.1 this.2
  refine ⟨h.ok, h.apart, h.tidy.del _, fun kl => ?_, fun f hf hh z => ?_, fun kl hkl => h.sub kl ((left_iff hk).1 hkl).1, ?_⟩
  · by_cases e1 : kl = klE e
    · subst e1
      rw [has_del_same]
      constructor
      · intro h1; cases h1
      · rintro ⟨f, hf, e1, hl⟩
        rcases hl with hl | hl
        · exact absurd rfl ((left_iff hk).1 hl).2
        · rw [inj f hf e1, ht] at hl; cases hl
    · rw [has_del_other e1, h.has]
      constructor
      · rintro ⟨f, hf, e2, hl⟩; exact ⟨f, hf, e2, hl.imp (fun h1 => (left_iff hk).2 ⟨h1, e1⟩) id⟩
      · rintro ⟨f, hf, e2, hl⟩; exact ⟨f, hf, e2, hl.imp (fun h1 => ((left_iff hk).1 h1).1) id⟩
  · by_cases e1 : klE f = klE e
    · rw [e1, has_del_same] at hh; cases hh
    · rw [atKey_del_other e1]; rw [has_del_other e1] at hh; exact h.at_ f hf hh z
  · have h1 := size_del (k := klE e) h.tidy
    rw [hh, if_pos rfl, h.size] at h1
    have h2 := countP_one h.apart he (p := fun e => left (klE e) || tm e) (q := fun f => (left (klE f) && !(klE f).sameKey (klE e)) || tm f) (by simp [hl]) (by simp [klE_same (h.ok e he), ht]) (fun f hf hfe => by
      have : klE f ≠ klE e := fun e1 => hfe (inj f hf e1)
      simp [sameKey_ne this])
    omega
theorem Late.done (h : Late n tm o D left) (hl : ∀ kl, left kl = false) : Maps.size D = o.countP tm := by
  rw [h.size]; exact P.countP_eq_of o _ _ fun e _ => by simp [hl]
end
/-- The step of a range over the map of strikes. -/
theorem wpNextS {w : World} {ops : Array Oper} {rest : List Oper} {op : Oper} {a : Act} {Q : Exit → Act → World → Prop} (hg : op.guard = none) (it : Operand) (hop : op.op = Op.next it false) {N : Nat} (o : List Ent)
    (b r n : Nat) (D : DataW Unit) (left : Lit → Bool) (cnt : Nat) (hit : a.eval it = .pointer (some ⟨r, 0, none⟩)) (h : w.ranges Try.prog 112 (plainElem Try.prog 3) b r n D left cnt)
    (hok : ∀ e ∈ o, EntOk N e) (hL : ∀ kl, left kl = true → ∃ e ∈ o, klE e = kl) (hAt : ∀ e ∈ o, left (klE e) = true → ∀ z, D.atKey (klE e) z = .lit (.int .i64 (e.2.2 : Int)))
    (hDone : cnt = 0 → (∀ kl, left kl = false) → wpList Try.prog ops Q rest (a.put op.dst (.tuple #[.bool false])) w)
    (hMore : ∀ e ∈ o, left (klE e) = true → ∀ (w' : World) (cnt' : Nat), w'.ranges Try.prog 112 (plainElem (H := Unit) Try.prog 3) b r n D (fun z => left z && !z.sameKey (klE e)) cnt' → cnt' < cnt → w.grownBy w' (some r) → w'.heap.size = w.heap.size →
      (Instr.entry (.pointer (some ⟨r, 0, none⟩))).run Try.prog w' = .ok (.tuple #[keyV e.1 e.2.1, .int .i64 (e.2.2 : Int)]) w' →
      wpList Try.prog ops Q rest (a.put op.dst (.tuple #[.bool true, keyV e.1 e.2.1, .int .i64 (e.2.2 : Int)])) w') :
    wpList Try.prog ops Q (op :: rest) a w := by
  refine wpList_plain hg fun K' hK' => ?_
  unfold Oper.wp
  rcases h.next K112 op.type with ⟨h0, hl, hrun⟩ | ⟨key, v, kl, y, w', cnt', hkey, hlk, hv, hat, hrun, hrg, hlt, hgr, hsz, hen⟩
  · simp [execOp, hop, hit, hrun, Result.andThen]
    exact hK' _ _ (hDone h0 hl)
  · obtain ⟨e, he, rfl⟩ := hL kl hlk
    have ek : key = keyV e.1 e.2.1 := K112.inj hkey (klE_key (hok e he))
    subst ek
    obtain ⟨c, rfl, hy, -⟩ := plainElem_int_inv Try.underlying3 hv
    have ec : c = (e.2.2 : Int) := by
      have h1 := hat (.lit (.int .i64 0))
      rw [hAt e he hlk, hy] at h1
      simp only [DataW.lit.injEq, Lit.int.injEq, true_and] at h1
      exact h1.symm
    subst ec
    simp [execOp, hop, hit, hrun, Result.andThen]
    exact hK' _ _ (hMore e he hlk w' cnt' hrg hlt hgr hsz hen)
end Go.Proofs.Ytpkffjcmoghaaaa
