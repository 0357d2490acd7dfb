/- A region that draws its order, only adds to the world at first, and ends in operations one behind another, each of which waits for all ahead of it. -/
import Derived.Test.YtpkffjcmoghaaaaLastH
namespace Go.Proofs.Ytpkffjcmoghaaaa
open Go Go.RowKit
section
variable {P : Program} {Q : Exit → Act → World → Prop}
def dirB (L : List Oper) (i j : Nat) : Bool := match L[i]? with
  | some o => o.after.any (fun e => Region.binds .any e && decide (e.on = j))
  | none => false
/-- An operation waits for another one, itself or by those that it waits for. -/
def clB (L : List Oper) : Nat → Nat → Nat → Bool
  | 0, i, j => dirB L i j
  | f + 1, i, j => dirB L i j || match L[i]? with
    | some o => o.after.any (fun e => Region.binds .any e && clB L f e.on j)
    | none => false
theorem dirB_spec {L : List Oper} {i j : Nat} (h : dirB L i j = true) : ∃ o, L[i]? = some o ∧ ∃ e ∈ o.after, Region.binds .any e = true ∧ e.on = j := by
  unfold dirB at h
  cases ho : L[i]? with
  | none => rw [ho] at h; cases h
  | some o =>
    rw [ho] at h
    dsimp only at h
    rw [Array.any_eq_true] at h
    obtain ⟨k, hk, hk2⟩ := h
    simp only [Bool.and_eq_true, decide_eq_true_eq] at hk2
    exact ⟨o, rfl, _, Array.getElem_mem hk, hk2.1, hk2.2⟩
theorem clB_spec {L : List Oper} {B : Nat → Bool} (hc : ∀ i o, L[i]? = some o → B i = true → ∀ e ∈ o.after, Region.binds .any e = true → B e.on = true) :
    ∀ (f i j : Nat), clB L f i j = true → (∀ o, L[i]? = some o → ∀ e ∈ o.after, Region.binds .any e = true → B e.on = true) → B j = true := by
  intro f
  induction f with
  | zero =>
    intro i j h hi
    obtain ⟨o, ho, e, he, hb, rfl⟩ := dirB_spec h
    exact hi o ho e he hb
  | succ f ih =>
    intro i j h hi
    simp only [clB, Bool.or_eq_true] at h
    rcases h with h | h
    · obtain ⟨o, ho, e, he, hb, rfl⟩ := dirB_spec h
      exact hi o ho e he hb
    · split at h
      · rename_i o ho
        rw [Array.any_eq_true] at h
        obtain ⟨k, hk, hk2⟩ := h
        simp only [Bool.and_eq_true] at hk2
        exact ih _ _ hk2.2 (fun o' ho' => hc _ o' ho' (hi o ho _ (Array.getElem_mem hk) hk2.1))
      · cases h
def rowB (L : List Oper) (n : Nat) : Bool :=
  (List.range (L.length - n)).all fun i => match L[n + i]? with
    | some o => o.guard.isNone && (List.range (n + i)).all (fun j => clB L 5 (n + i) j) && o.after.all (fun e => !Region.binds .any e || decide (e.on < n + i))
    | none => false
/-- Operations one behind another. -/
def RowWp (P : Program) (Q : Exit → Act → World → Prop) : List Oper → Act → World → Prop
  | [], a, w => Q .normal a w
  | o :: r, a, w => o.wp P a w (fun a' w' => RowWp P Q r a' w') Q
theorem rowB_at {L : List Oper} {n : Nat} (h : rowB L n = true) {i : Nat} {o : Oper} (hi : n ≤ i) (ho : L[i]? = some o) : o.guard = none ∧ (∀ j, j < i → clB L 5 i j = true) ∧ (∀ e ∈ o.after, Region.binds .any e = true → e.on < i) := by
  unfold rowB at h
  have hil := (List.getElem?_eq_some_iff.1 ho).1
  have := List.all_eq_true.1 h (i - n) (List.mem_range.2 (by omega))
  rw [show n + (i - n) = i by omega, ho] at this
  simp only [Bool.and_eq_true, Option.isNone_iff_eq_none] at this
  obtain ⟨⟨hg, h1⟩, h2⟩ := this
  refine ⟨hg, fun j hj => ?_, fun e he hb => ?_⟩
  · have := List.all_eq_true.1 h1 j (List.mem_range.2 hj)
    exact this
  · have := Array.all_eq_true_iff_forall_mem.1 h2 e he
    rw [hb] at this; simpa using this
theorem wp_region_growrow {id : Nat} {a : Act} {w : World} {L : List Oper} (n : Nat) (ks : List Nat) (R : List Known) (hm : P.follows .mixedOrders = true) (hG : growB (L.take n) ks = true) (hn0 : decide (n < L.length) = true) (hT : rowB L n = true) (hsz : ks.all (fun k => decide (k < a.tmps.size)) = true) (hl : R.length = ks.length) (hst : StableAll R)
    (hstep : StepsG P Q R ks a w (L.take n) 0)
    (hend : ∀ w', Below w.heap.size w w' → EndsG w' (fun a' => RowWp P Q (L.drop n) a' w') ks R a) : (Code.region id L.toArray true).wp P Q a w := by
  have hn := of_decide_eq_true hn0
  obtain ⟨h1, h2, h3, h4⟩ := growB_spec hG
  have hnk : ks.length = n := by rw [← h1, List.length_take]; omega
  have hsz' : ∀ k ∈ ks, k < a.tmps.size := fun k hk => by have := List.all_eq_true.1 hsz k hk; simpa using this
  have htk : ∀ i, i < n → (L.take n)[i]? = L[i]? := fun i hi => by rw [List.getElem?_take, if_pos hi]
  refine wp_region_any hm ?_
  refine wpAny_inv (fun B a' w' => (∀ i o, L[i]? = some o → B i = true → ∀ e ∈ o.after, Region.binds .any e = true → B e.on = true) ∧ ∃ m, (∀ j, n ≤ j → j < L.length → (B j = true ↔ j < n + m)) ∧ (m = 0 → Agr ks a a' ∧ Below w.heap.size w w' ∧ ∀ i, B i = true → i < n → Rat R i (a'.eval (.tmp (ks.getD i 0))) w') ∧ (0 < m → (∀ i, i < n → B i = true) ∧ RowWp P Q (L.drop (n + m)) a' w')) ?_ ?_ ?_ _ _ _ _ (by simp) ?_ ⟨?_, 0, ?_, ?_, ?_⟩
  · intro i o ho
    have ho2 : L[i]? = some o := by simpa using ho
    by_cases hi : i < n
    · exact h3 o (List.mem_of_getElem? (i := i) (by rw [htk i hi]; exact ho2))
    · exact (rowB_at hT (by omega) ho2).1
  · rintro i o B a' w' ho hBi hd ⟨hC, m, hB, hI, hQ⟩
    have ho2 : L[i]? = some o := by simpa using ho
    have hil := (List.getElem?_eq_some_iff.1 ho2).1
    have hC2 : ∀ i' o', L[i']? = some o' → updB B i i' = true → ∀ e ∈ o'.after, Region.binds .any e = true → updB B i e.on = true := by
      intro i' o' ho' hB' e he hb
      have up : B e.on = true → updB B i e.on = true := fun h => by unfold updB; rw [h, ite_self]
      by_cases hii : i' = i
      · subst hii
        rw [ho2] at ho'; cases ho'
        exact up (hd e he hb)
      · unfold updB at hB'; rw [if_neg hii] at hB'
        exact up (hC i' o' ho' hB' e he hb)
    by_cases hi : i < n
    · have hm0 : m = 0 := by
        cases m with
        | zero => rfl
        | succ m => have := (hQ (by omega)).1 i hi; rw [hBi] at this; cases this
      subst hm0
      obtain ⟨hA, hb, hR⟩ := hI rfl
      have ho3 : (L.take n)[i]? = some o := by rw [htk i hi]; exact ho2
      obtain ⟨hj, hdst, hlow⟩ := h4 i o ho3
      have hS := StepsG.at hstep i o ho3
      rw [Nat.zero_add] at hS
      refine hS a' w' hA hb (fun j hj' => ?_) _ (fun v w'' hb2 hv => ?_)
      · obtain ⟨e, he, rfl⟩ := List.mem_map.1 hj'
        rw [List.mem_filter] at he
        exact hR e.on (hd e (by simpa using he.1) he.2) (by have := hlow e (by simpa using he.1) he.2; omega)
      · rw [hdst]
        refine ⟨hC2, 0, fun j hj1 hj2 => ?_, fun _ => ⟨hA.put (List.getElem_mem hj) v, hb.trans (hb2.mono hb.size), fun j hBj hjl => ?_⟩, fun h => absurd h (by omega)⟩
        · unfold updB; rw [if_neg (by omega)]; exact hB j hj1 hj2
        · by_cases e : j = i
          · subst e
            have : ks.getD j 0 = ks[j] := by simp [hj]
            rw [this, eval_put_same a' v (by rw [hA.size]; exact hsz' _ (List.getElem_mem hj))]
            exact hv
          · have hjk : j < ks.length := by omega
            have hne : ks.getD j 0 ≠ ks[i] := by
              have : ks.getD j 0 = ks[j] := by simp [hjk]
              rw [this]
              exact fun e2 => e (nodup_inj h2 hjk hj e2)
            rw [eval_put_ne a' v hne]
            have hBj' : B j = true := by unfold updB at hBj; rwa [if_neg e] at hBj
            exact hst.at j _ _ _ (hR j hBj' hjl) hb2
    · obtain ⟨hg0, hall0, hlow0⟩ := rowB_at hT (by omega) ho2
      have hall : ∀ j, j < i → B j = true := fun j hj => clB_spec hC 5 i j (hall0 j hj) (fun o' ho' => by rw [ho2] at ho'; cases ho'; exact hd)
      have him : i = n + m := by
        have h6 : ¬ i < n + m := fun h => by have := (hB i (by omega) hil).2 h; rw [hBi] at this; cases this
        by_cases h7 : n + m < i
        · have := (hB (n + m) (by omega) (by omega)).1 (hall _ h7)
          omega
        · omega
      subst him
      have hRow : RowWp P Q (L.drop (n + m)) a' w' := by
        by_cases hm0 : m = 0
        · subst hm0
          obtain ⟨hA, hb, hR⟩ := hI rfl
          have hX := (hend w' hb).all (vs := ks.map fun k => a'.eval (.tmp k)) (by simp) hl (fun j hj => by
            have hjn : j < n := by omega
            have := hR j (hall j (by omega)) hjn
            have e1 : ks.getD j 0 = ks[j] := by simp [hj]
            have e2 : (ks.map fun k => a'.eval (.tmp k)).getD j undef = a'.eval (.tmp ks[j]) := by simp [hj]
            rw [e2, ← e1]; exact this)
          rw [← hA.back h2 hsz'] at hX
          exact hX
        · exact (hQ (by omega)).2
      have hdrop : L.drop (n + m) = o :: L.drop (n + m + 1) := by
        have : L[n + m]'hil = o := by rw [List.getElem?_eq_getElem hil] at ho2; exact Option.some.inj ho2
        rw [← this]; exact List.drop_eq_getElem_cons hil
      rw [hdrop] at hRow
      refine Oper.wp_mono (fun a'' w'' hq => ?_) hRow
      refine ⟨hC2, m + 1, fun j hj1 hj2 => ?_, fun h => absurd h (by omega), fun _ => ⟨fun j hj => ?_, hq⟩⟩
      · unfold updB
        by_cases e : j = n + m
        · rw [if_pos e]; simp; omega
        · rw [if_neg e, hB j hj1 hj2]; omega
      · unfold updB; rw [if_neg (by omega)]; exact hall j (by omega)
  · rintro listed a' w' hs hr ⟨-, m, hB, -, hQ⟩
    have hall := all_listed2 (L := L) (fun j o ho e he hb => ?_) (by simpa using hs) hr
    · have hlast := (hB (L.length - 1) (by omega) (by omega)).1 (hall _ (by omega))
      have := (hQ (by omega)).2
      rw [List.drop_eq_nil_of_le (by omega)] at this
      exact this
    · by_cases hj : j < n
      · obtain ⟨_, _, hlow⟩ := h4 j o (by rw [htk j hj]; exact ho)
        exact hlow e he hb
      · exact (rowB_at hT (by omega) ho).2.2 e he hb
  · rw [Array.toList_replicate]
    exact Nat.le_trans List.countP_le_length (by simp)
  · intro i o _ h
    simp only [Array.getD_eq_getD_getElem?, Array.getElem?_replicate] at h
    split at h <;> simp at h
  · intro j hj hjl
    simp [hjl]; omega
  · intro _
    refine ⟨Agr.refl _ _, (Below.refl _ w).drew, fun i hi => ?_⟩
    simp only [Array.getD_eq_getD_getElem?, Array.getElem?_replicate] at hi
    split at hi <;> simp at hi
  · intro h; exact absurd h (by omega)
end
end Go.Proofs.Ytpkffjcmoghaaaa
