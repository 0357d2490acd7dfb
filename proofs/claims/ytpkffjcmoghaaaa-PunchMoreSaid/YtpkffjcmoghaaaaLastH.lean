/- A region that draws its order, only adds to the world, and ends in one store that waits for all others. -/
import Derived.Test.YtpkffjcmoghaaaaJ16
namespace Go.Proofs.Ytpkffjcmoghaaaa
open Go Go.RowKit
section
variable {P : Program} {Q : Exit → Act → World → Prop}
def growstB (L : List Oper) (n : Nat) (ks : List Nat) : Bool :=
  growB (L.take n) ks && decide (L.length = n + 1) && match L[n]? with
    | some o => o.guard.isNone && (List.range n).all (fun j => o.after.any (fun e => Region.binds .any e && decide (e.on = j))) && o.after.all (fun e => !Region.binds .any e || decide (e.on < n))
    | none => false
theorem all_listed2 {L : List Oper} (h4 : ∀ j o, L[j]? = some o → ∀ e ∈ o.after, Region.binds .any e = true → e.on < j) {listed : Array Bool} (hs : listed.size = L.length) (hr : Region.ready .any L.toArray listed = []) : ∀ i, i < L.length → listed.getD i false = true := by
  intro i
  induction i using Nat.strongRecOn with
  | ind i ih =>
    intro hi
    cases hl : listed.getD i false with
    | true => rfl
    | false =>
      exfalso
      have ho : L[i]? = some L[i] := List.getElem?_eq_getElem hi
      have hm : i ∈ Region.ready .any L.toArray listed := by
        rw [mem_ready]
        refine ⟨?_, L[i], by simp, fun e he hb => ?_⟩
        · have his : i < listed.size := by omega
          simpa [his] using hl
        · have h5 := h4 i _ ho e he hb
          exact ih e.on h5 (by omega)
      rw [hr] at hm; cases hm
theorem wp_region_growst {id : Nat} {a : Act} {w : World} {L : List Oper} (n : Nat) (ks : List Nat) (R : List Known) (hm : P.follows .mixedOrders = true) (hB : growstB L n ks = true) (hsz : ks.all (fun k => decide (k < a.tmps.size)) = true) (hl : R.length = ks.length) (hst : StableAll R)
    (hstep : StepsG P Q R ks a w (L.take n) 0)
    (hend : ∀ w', Below w.heap.size w w' → EndsG w' (fun a' => ∀ o, L[n]? = some o → o.wp P a' w' (fun a'' w'' => Q .normal a'' w'') Q) ks R a) : (Code.region id L.toArray true).wp P Q a w := by
  unfold growstB at hB
  simp only [Bool.and_eq_true, decide_eq_true_eq] at hB
  obtain ⟨⟨hG, hLn⟩, hO⟩ := hB
  obtain ⟨h1, h2, h3, h4⟩ := growB_spec hG
  have hnk : ks.length = n := by rw [← h1, List.length_take]; omega
  have hsz' : ∀ k ∈ ks, k < a.tmps.size := fun k hk => by have := List.all_eq_true.1 hsz k hk; simpa using this
  have hon : L[n]? = some (L[n]'(by omega)) := List.getElem?_eq_getElem (by omega)
  obtain ⟨o', ho'⟩ : ∃ o', o' = L[n]'(by omega) := ⟨_, rfl⟩
  rw [← ho'] at hon
  clear ho'
  rw [hon] at hO
  simp only [Bool.and_eq_true, Option.isNone_iff_eq_none] at hO
  obtain ⟨⟨hg0, hall0⟩, hlow0⟩ := hO
  have htk : ∀ i, i < n → (L.take n)[i]? = L[i]? := fun i hi => by rw [List.getElem?_take, if_pos hi]
  refine wp_region_any hm ?_
  refine wpAny_inv (fun B a' w' => (B n = true → (∀ i, i < n → B i = true) ∧ Q .normal a' w') ∧ (B n = false → Agr ks a a' ∧ Below w.heap.size w w' ∧ ∀ i, B i = true → i < n → Rat R i (a'.eval (.tmp (ks.getD i 0))) w')) ?_ ?_ ?_ _ _ _ _ (by simp) ?_ ⟨?_, ?_⟩
  · intro i o ho
    have ho2 : L[i]? = some o := by simpa using ho
    by_cases hi : i < n
    · exact h3 o (List.mem_of_getElem? (i := i) (by rw [htk i hi]; exact ho2))
    · have hil := (List.getElem?_eq_some_iff.1 ho2).1
      have : i = n := by omega
      subst this
      rw [hon] at ho2; cases ho2; exact hg0
  · rintro i o B a' w' ho hBi hd ⟨hQ, hI⟩
    have ho2 : L[i]? = some o := by simpa using ho
    by_cases hi : i < n
    · have hBn : B n = false := by
        cases hb : B n with
        | false => rfl
        | true => have := (hQ hb).1 i hi; rw [hBi] at this; cases this
      obtain ⟨hA, hb, hR⟩ := hI hBn
      have ho3 : (L.take n)[i]? = some o := by rw [htk i hi]; exact ho2
      obtain ⟨hj, hdst, hlow⟩ := h4 i o ho3
      have hS := StepsG.at hstep i o ho3
      rw [Nat.zero_add] at hS
      refine hS a' w' hA hb (fun j hj' => ?_) _ (fun v w'' hb2 hv => ?_)
      · obtain ⟨e, he, rfl⟩ := List.mem_map.1 hj'
        rw [List.mem_filter] at he
        exact hR e.on (hd e (by simpa using he.1) he.2) (by have := hlow e (by simpa using he.1) he.2; omega)
      · rw [hdst]
        have hun : updB B i n = false := by unfold updB; rw [if_neg (by omega)]; exact hBn
        refine ⟨fun h => (by rw [hun] at h; cases h), fun _ => ⟨hA.put (List.getElem_mem hj) v, hb.trans (hb2.mono hb.size), fun j hBj hjl => ?_⟩⟩
        by_cases e : j = i
        · subst e
          have : ks.getD j 0 = ks[j] := by simp [hj]
          rw [this, eval_put_same a' v (by rw [hA.size]; exact hsz' _ (List.getElem_mem hj))]
          exact hv
        · have hjk : j < ks.length := by omega
          have hne : ks.getD j 0 ≠ ks[i] := by
            have : ks.getD j 0 = ks[j] := by simp [hjk]
            rw [this]
            exact fun e2 => e (nodup_inj h2 hjk hj e2)
          rw [eval_put_ne a' v hne]
          have hBj' : B j = true := by unfold updB at hBj; rwa [if_neg e] at hBj
          exact hst.at j _ _ _ (hR j hBj' hjl) hb2
    · have hil := (List.getElem?_eq_some_iff.1 ho2).1
      have : i = n := by omega
      subst this
      rw [hon] at ho2; cases ho2
      obtain ⟨hA, hb, hR⟩ := hI hBi
      have hall : ∀ j, j < i → B j = true := fun j hj => by
        have := List.all_eq_true.1 hall0 j (List.mem_range.2 hj)
        rw [Array.any_eq_true] at this
        obtain ⟨k, hk, hk2⟩ := this
        simp only [Bool.and_eq_true, decide_eq_true_eq] at hk2
        have := hd _ (Array.getElem_mem hk) hk2.1
        rw [hk2.2] at this; exact this
      have hX := (hend w' hb).all (vs := ks.map fun k => a'.eval (.tmp k)) (by simp) hl (fun j hj => by
        have hjn : j < i := by omega
        have := hR j (hall j hjn) hjn
        have e1 : ks.getD j 0 = ks[j] := by simp [hj]
        have e2 : (ks.map fun k => a'.eval (.tmp k)).getD j undef = a'.eval (.tmp ks[j]) := by simp [hj]
        rw [e2, ← e1]; exact this)
      rw [← hA.back h2 hsz'] at hX
      refine Oper.wp_mono (fun a'' w'' hq => ?_) (hX _ hon)
      have hun : updB B i i = true := by unfold updB; rw [if_pos rfl]
      refine ⟨fun _ => ⟨fun j hj => ?_, hq⟩, fun h => (by rw [hun] at h; cases h)⟩
      unfold updB; rw [if_neg (by omega)]; exact hall j hj
  · rintro listed a' w' hs hr ⟨hQ, -⟩
    have hall := all_listed2 (L := L) (fun j o ho e he hb => ?_) (by simpa using hs) hr
    · exact (hQ (hall n (by omega))).2
    · by_cases hj : j < n
      · obtain ⟨_, _, hlow⟩ := h4 j o (by rw [htk j hj]; exact ho)
        exact hlow e he hb
      · have hil := (List.getElem?_eq_some_iff.1 ho).1
        have : j = n := by omega
        subst this
        rw [hon] at ho; cases ho
        have := Array.all_eq_true_iff_forall_mem.1 hlow0 e he
        rw [hb] at this; simpa using this
  · rw [Array.toList_replicate]
    exact Nat.le_trans List.countP_le_length (by simp)
  · intro h
    simp only [Array.getD_eq_getD_getElem?, Array.getElem?_replicate] at h
    split at h <;> simp at h
  · intro _
    refine ⟨Agr.refl _ _, (Below.refl _ w).drew, fun i hi => ?_⟩
    simp only [Array.getD_eq_getD_getElem?, Array.getElem?_replicate] at hi
    split at hi <;> simp at hi
end
end Go.Proofs.Ytpkffjcmoghaaaa
