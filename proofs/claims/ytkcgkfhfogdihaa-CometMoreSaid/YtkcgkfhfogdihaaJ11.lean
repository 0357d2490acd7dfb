/- One text of ComO. -/
import Derived.Test.YtkcgkfhfogdihaaJ10
import Derived.Maps.OwnIn
import Derived.Maps.OwnSet
import Derived.Maps.OwnOps
import Derived.Maps.RangeWalk
import Derived.DeepKeys4
/- The map of the paths found: its keys, and what it holds. -/
namespace Go.Proofs.Ytkcgkfhfogdihaa
open Go.RowKit Go.Shelf Go.Maps
theorem laidOut : laidOutB Try.prog = true := by kernel_rfl
theorem row114 : (114 : TypeId) < Try.prog.types.size := of_decide_eq_true (by kernel_rfl)
theorem deep114 : Try.prog.keyTypeAt 4 114 = true := by kernel_rfl
theorem law114 : WideMaps.KeyLaw Try.prog 114 := deep_law_laid laidOut (m := 4) (by omega) row114 deep114 (by rw [Try.underlying114])
theorem K114 : Keyed Try.prog 114 := Keyed.of_law law114
theorem int_wf {n : Int} (h : R.numOk n = true) : (Lit.int .i64 n).wf = true := by
  have := R.numOk_iff.1 h
  exact WalkArith.wf_i64 (by omega)
theorem key_mark (q : List Int) (hz : q.all R.numOk = true) : ∃ kl, keyOf Try.prog 114 (trackV q) = some kl := by
  have w0 := int_wf (nth_num hz 0)
  have w1 := int_wf (nth_num hz 1)
  have w2 := int_wf (nth_num hz 2)
  have w3 := int_wf (nth_num hz 3)
  have hk : Try.prog.keyType 114 = true := by kernel_rfl
  have hc : Try.prog.cellsOf 114 = 4 := by kernel_rfl
  have hc2 : Try.prog.cellsOf 76 = 4 := by kernel_rfl
  have hc3 : Try.prog.cellsOf 2 = 1 := by kernel_rfl
  have hs : ∃ m, Try.prog.types.size + 1 = m + 1 + 1 + 1 := ⟨Try.prog.types.size - 2, by have h : 114 < Try.prog.types.size := row114; omega⟩
  obtain ⟨m, hm⟩ := hs
  unfold keyOf
  rw [Try.underlying114]
  simp only [hk, trackV, Value.formed, Try.underlying114, hc, hm]
  simp [Program.keyLits, Try.underlying114, Try.underlying76, Try.underlying2, hc, hc2, hc3, Value.cells, w0, w1, w2, w3, List.range_succ]
theorem klEx (q : List Int) : ∃ kl, q.all R.numOk = true → keyOf Try.prog 114 (trackV q) = some kl := by
  by_cases h : q.all R.numOk = true
  · obtain ⟨kl, hk⟩ := key_mark q h
    exact ⟨kl, fun _ => hk⟩
  · exact ⟨.bool false, fun h' => absurd h' h⟩
/-- What a path reads as, as a key. -/
noncomputable def klT (q : List Int) : Lit := Classical.choose (klEx q)
theorem klT_key {q : List Int} (hz : q.all R.numOk = true) : keyOf Try.prog 114 (trackV q) = some (klT q) := Classical.choose_spec (klEx q) hz
theorem list_ext_nth {p q : List Int} (h : p.length = q.length) (hn : ∀ i, i < p.length → nth p i = nth q i) : p = q := by
  apply List.ext_getElem h
  intro i h1 h2
  have := hn i h1
  rwa [nth_eq p i h1, nth_eq q i h2] at this
theorem trackV_inj {p q : List Int} (hp : p.length ≤ 4) (h : p.length = q.length) (e : trackV p = trackV q) : p = q := by
  unfold trackV at e
  simp only [Value.agg.injEq, Array.mk.injEq, List.cons.injEq, Value.int.injEq, true_and, and_true] at e
  obtain ⟨e0, e1, e2, e3⟩ := e
  refine list_ext_nth h fun i hi => ?_
  have : i = 0 ∨ i = 1 ∨ i = 2 ∨ i = 3 := by omega
  rcases this with rfl | rfl | rfl | rfl <;> assumption
theorem klT_inj {p q : List Int} (hzp : p.all R.numOk = true) (hzq : q.all R.numOk = true) (hp : p.length ≤ 4) (h : p.length = q.length) (e : klT p = klT q) : p = q :=
  trackV_inj hp h (K114.inj (klT_key hzp) (by rw [e]; exact klT_key hzq))
/-- A path that the loop may find. -/
def PathOk (m : Nat) (q : List Int) : Prop := q.all R.numOk = true ∧ q.length = m
/-- What the map holds, some paths having been found. -/
structure Good (l : List (Int × Int)) (m : Nat) (D : DataW Unit) (Qs : List (List Int)) : Prop where
  ok : ∀ q ∈ Qs, PathOk m q
  isMap : IsMap D
  has : ∀ kl, Maps.has D kl = true ↔ ∃ q ∈ Qs, klT q = kl
  at_ : ∀ q ∈ Qs, ∀ z, D.atKey (klT q) z = .lit (.int .i64 (C.onL l q))
theorem Good.start (l : List (Int × Int)) (m : Nat) : Good l m (.map []) [] :=
  ⟨fun q h => by simp at h, isMap_empty, fun kl => ⟨fun h => by simp [Maps.has] at h, fun ⟨q, h, _⟩ => by simp at h⟩, fun q h => by simp at h⟩
set_option maxRecDepth 100000 in
theorem Good.step {l : List (Int × Int)} {m : Nat} {D : DataW Unit} {Qs : List (List Int)} (h : Good l m D Qs) (hm : m ≤ 4) {q : List Int} (hq : PathOk m q) : Good l m (D.put (klT q) (.lit (.int .i64 (C.onL l q)))) (Qs ++ [q]) := by
  have hk := K114.key (klT_key hq.1)
  refine ⟨fun p hp => ?_, h.isMap.put _ _, fun kl => ?_, fun p hp z => ?_⟩
  · rcases List.mem_append.1 hp with hp | hp
    · exact h.ok p hp
    · rw [List.mem_singleton] at hp; subst hp; exact hq
  · by_cases e : kl = klT q
    · subst e
      exact ⟨fun _ => ⟨q, by simp, rfl⟩, fun _ => has_put_same h.isMap hk _⟩
    · rw [has_put_other e, h.has]
      constructor
      · rintro ⟨p, hp, e2⟩; exact ⟨p, List.mem_append_left _ hp, e2⟩
      · rintro ⟨p, hp, e2⟩
        rcases List.mem_append.1 hp with hp | hp
        · exact ⟨p, hp, e2⟩
        · rw [List.mem_singleton] at hp; subst hp; exact absurd e2.symm e
  · by_cases e : klT p = klT q
    · have hpq : p = q := by
        rcases List.mem_append.1 hp with hp | hp
        · have := h.ok p hp; exact klT_inj this.1 hq.1 (by rw [this.2]; exact hm) (by rw [this.2, hq.2]) e
        · rw [List.mem_singleton] at hp; exact hp
      subst hpq
      exact atKey_put_same h.isMap hk _ _
    · rw [atKey_put_other e]
      rcases List.mem_append.1 hp with hp | hp
      · exact h.at_ p hp z
      · rw [List.mem_singleton] at hp; subst hp; exact absurd rfl e
namespace C
/-- The greatest number of sightings on one of some paths. -/
def mostOf (l : List (Int × Int)) (Qs : List (List Int)) : Nat := Qs.foldl (fun m q => max m (onL l q)) 0
theorem mostOf_snoc (l : List (Int × Int)) (Qs : List (List Int)) (q : List Int) : mostOf l (Qs ++ [q]) = max (mostOf l Qs) (onL l q) := by simp [mostOf, List.foldl_append]
theorem onL_le (l : List (Int × Int)) (q : List Int) : onL l q ≤ l.length := onN_le l q l.length
theorem mostOf_le (l : List (Int × Int)) (Qs : List (List Int)) : mostOf l Qs ≤ l.length := by
  have : ∀ (Qs : List (List Int)) (m : Nat), m ≤ l.length → Qs.foldl (fun m q => max m (onL l q)) m ≤ l.length := by
    intro Qs
    induction Qs with
    | nil => intro m h; exact h
    | cons q r ih => intro m h; exact ih _ (by have := onL_le l q; show max m (onL l q) ≤ _; omega)
  exact this Qs 0 (Nat.zero_le _)
end C
end Go.Proofs.Ytkcgkfhfogdihaa
