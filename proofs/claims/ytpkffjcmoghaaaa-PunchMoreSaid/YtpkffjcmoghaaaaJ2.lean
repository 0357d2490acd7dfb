/- One text of PE, PF, PG, PH, PI, PJ, PK. -/
import Derived.Test.YtpkffjcmoghaaaaJ1
import Derived.Sort.LotA
/- Plain Lean: insertion of numbers 0 to n - 1 by a key leaves equals in their order. -/
namespace Go.Proofs.Ytpkffjcmoghaaaa
namespace P
open Go.Sort
/-- Less by the key, or the same and ahead. -/
def tie (lt : Nat → Nat → Bool) (x y : Nat) : Bool := lt x y || (!lt y x && decide (x < y))
theorem insInner_tie {lt : Nat → Nat → Bool} : ∀ (j : Nat) (d : Array Nat), j < d.size → (∀ k, k < j → d[k]! < d[j]!) → insInner lt 0 j d = insInner (tie lt) 0 j d
  | 0, d, _, _ => by simp [insInner]
  | j + 1, d, hj, h => by
    have h1 := h j (by omega)
    have e : tie lt d[j + 1]! d[j]! = lt d[j + 1]! d[j]! := by
      unfold tie
      have : decide (d[j + 1]! < d[j]!) = false := by simp; omega
      rw [this]; simp
    unfold insInner
    rw [e]
    split
    · have hs : (swp d (j + 1) j).size = d.size := by simp [swp]
      refine insInner_tie j _ (by omega) (fun k hk => ?_)
      have e1 : (swp d (j + 1) j)[k]! = d[k]! := by
        simp [swp, Array.getElem!_eq_getD, Array.getD_eq_getD_getElem?, show ¬ j = k by omega, show ¬ j + 1 = k by omega]
      have e2 : (swp d (j + 1) j)[j]! = d[j + 1]! := by
        simp [swp, Array.getElem!_eq_getD, Array.getD_eq_getD_getElem?, show j < d.size by omega]
      rw [e1, e2]; exact h k (by omega)
    · rfl
theorem insOuter_tie {lt : Nat → Nat → Bool} (hS : SWO (tie lt)) (n : Nat) : ∀ (m i : Nat) (d : Array Nat), n - i = m → d.size = n → (∀ k, i ≤ k → k < n → d[k]! = k) → (∀ k, k < i → k < n → d[k]! < i) → insOuter lt 0 n i d = insOuter (tie lt) 0 n i d
  | 0, i, d, hm, _, _, _ => by
    have e : ∀ lt : Nat → Nat → Bool, insOuter lt 0 n i d = d := fun lt => by unfold insOuter; rw [if_neg (by omega)]
    rw [e, e]
  | m + 1, i, d, hm, hs, h1, h2 => by
    by_cases hin : i < n
    · have eo : ∀ lt : Nat → Nat → Bool, insOuter lt 0 n i d = insOuter lt 0 n (i + 1) (insInner lt 0 i d) := fun lt => by rw [insOuter, if_pos hin]
      rw [eo, eo]
      have e := insInner_tie (lt := lt) i d (by omega) (fun k hk => by rw [h1 i (Nat.le_refl _) hin]; exact h2 k hk (by omega))
      rw [e]
      have hp : PermIn 0 (i + 1) d (insInner (tie lt) 0 i d) := by
        have hI := insertionSort_holds (lt := tie lt)
        clear hI e
        have : ∀ (j : Nat) (d : Array Nat), j ≤ i → d.size = n → PermIn 0 (i + 1) d (insInner (tie lt) 0 j d) := by
          intro j
          induction j with
          | zero => intro d _ _; simp only [insInner]; exact permIn_refl d 0 (i + 1)
          | succ j ih =>
            intro d hj hd
            unfold insInner
            split
            · exact permIn_trans d _ _ 0 (i + 1) (swp_permIn d 0 (i + 1) (j + 1) j (by omega) (by omega) (by omega) (by omega) (by omega)) (ih _ (by omega) (by simpa [swp] using hd))
            · exact permIn_refl d 0 (i + 1)
        exact this i d (Nat.le_refl _) hs
      refine insOuter_tie hS n m (i + 1) _ (by omega) (hp.1.trans hs) (fun k hk hkn => ?_) (fun k hk hkn => ?_)
      · rw [hp.2.1 k (.inr hk)]; exact h1 k (by omega) hkn
      · refine permIn_all d _ 0 (i + 1) (fun x => x < i + 1) (by omega) hp (fun k _ hk => ?_) k (by omega) hk
        by_cases hki : k = i
        · rw [hki, h1 i (Nat.le_refl _) hin]; omega
        · have := h2 k (by omega) (by omega); omega
    · omega
theorem tie_swo {lt : Nat → Nat → Bool} (h : SWO lt) : SWO (tie lt) where
  irrefl x := by unfold tie; simp [h.irrefl]
  trans x y z h1 h2 := by
    unfold tie at *
    simp only [Bool.or_eq_true, Bool.and_eq_true, Bool.not_eq_true', decide_eq_true_eq] at *
    have a1 := h.trans x y z; have a2 := h.ntrans z y x; have a3 := h.ntrans x z y; have a4 := h.ntrans y x z
    have a5 := h.trans z x y; have a6 := h.trans y z x
    cases e1 : lt x y <;> cases e2 : lt y z <;> cases e3 : lt x z <;> cases e4 : lt z x <;> cases e5 : lt y x <;> cases e6 : lt z y <;> simp_all <;> omega
  ntrans x y z h1 h2 := by
    unfold tie at *
    simp only [Bool.or_eq_false_iff, Bool.and_eq_false_iff, Bool.not_eq_false', decide_eq_false_iff_not] at *
    have a1 := h.ntrans x y z; have a2 := h.trans z y x; have a3 := h.ntrans z x y; have a4 := h.ntrans y z x; have a5 := h.ntrans z y x
    cases e1 : lt x y <;> cases e2 : lt y z <;> cases e3 : lt x z <;> cases e4 : lt z x <;> cases e5 : lt y x <;> cases e6 : lt z y <;> simp_all <;> omega
theorem range_get! (n k : Nat) (h : k < n) : (Array.range n)[k]! = k := by simp [h]
theorem insertion_stable {lt : Nat → Nat → Bool} (h : SWO lt) (n : Nat) : (insertionSort lt (Array.range n) 0 n).toList.Perm (List.range n) ∧ (insertionSort lt (Array.range n) 0 n).toList.Pairwise fun x y => tie lt x y = true := by
  have hs := tie_swo h
  have e : insertionSort lt (Array.range n) 0 n = insertionSort (tie lt) (Array.range n) 0 n := by
    unfold insertionSort
    refine insOuter_tie hs n (n - 1) 1 _ (by omega) (by simp) (fun k _ hk => range_get! n k hk) (fun k hk hkn => ?_)
    rw [range_get! n k hkn]; omega
  rw [e]
  obtain ⟨hp, ho⟩ := insertionSort_holds (lt := tie lt) hs (Array.range n) 0 n (by omega) (by simp)
  generalize insertionSort (tie lt) (Array.range n) 0 n = r at *
  obtain ⟨h1, -, h3⟩ := hp
  have hrs : r.size = n := by simpa using h1
  have e1 : r.extract 0 n = r := by rw [← hrs]; simp
  have e2 : (Array.range n).extract 0 n = Array.range n := by
    have := Array.extract_size (xs := Array.range n); rwa [Array.size_range] at this
  rw [e1, e2] at h3
  have hperm : r.toList.Perm (List.range n) := by simpa using h3
  refine ⟨hperm, ?_⟩
  have hnd : r.toList.Nodup := hperm.nodup_iff.2 List.nodup_range
  rw [List.pairwise_iff_getElem]
  intro i j hi hj hij
  have hi' : i < r.size := by simpa using hi
  have hj' : j < r.size := by simpa using hj
  have h4 := ho i j (by omega) hij (by omega)
  rw [getElem!_pos r j hj', getElem!_pos r i hi'] at h4
  have hne : r.toList[i] ≠ r.toList[j] := by
    have := List.pairwise_iff_getElem.1 hnd i j hi hj hij
    exact this
  simp only [Array.getElem_toList] at hne ⊢
  generalize r[i] = x at *
  generalize r[j] = y at *
  unfold tie at *
  simp only [Bool.or_eq_false_iff, Bool.and_eq_false_iff, Bool.not_eq_false', decide_eq_false_iff_not, Bool.or_eq_true, Bool.and_eq_true, Bool.not_eq_true', decide_eq_true_eq] at *
  rcases h4.2 with h5 | h5
  · exact .inl h5
  · exact .inr ⟨h4.1, by omega⟩
end P
end Go.Proofs.Ytpkffjcmoghaaaa
/- Plain Lean: the order of the choice: the heavier stars first, of several alike the first one first. -/
namespace Go.Proofs.Ytpkffjcmoghaaaa
namespace P
open Go.Sort
def ltW (S : List Star) (i j : Nat) : Bool := decide ((star S j).2.2 < (star S i).2.2)
def ltT (S : List Star) (i j : Nat) : Bool := decide ((star S i).2.1 < (star S j).2.1)
theorem ltW_swo (S : List Star) : SWO (ltW S) where
  irrefl x := by simp [ltW]
  trans x y z h1 h2 := by simp [ltW] at *; omega
  ntrans x y z h1 h2 := by simp [ltW] at *; omega
theorem ltT_swo (S : List Star) : SWO (ltT S) where
  irrefl x := by simp [ltT]
  trans x y z h1 h2 := by simp [ltT] at *; omega
  ntrans x y z h1 h2 := by simp [ltT] at *; omega
def orderT (S : List Star) : List Nat := (insertionSort (ltT S) (Array.range S.length) 0 S.length).toList
def orderW (S : List Star) : List Nat := (insertionSort (ltW S) (Array.range S.length) 0 S.length).toList
theorem orderT_perm (S : List Star) : (orderT S).Perm (List.range S.length) := (insertion_stable (ltT_swo S) _).1
theorem orderW_perm (S : List Star) : (orderW S).Perm (List.range S.length) := (insertion_stable (ltW_swo S) _).1
theorem orderT_by (S : List Star) : ByTo S (orderT S) := by
  refine List.Pairwise.imp ?_ (insertion_stable (ltT_swo S) S.length).2
  intro x y h
  simp only [tie, ltT, Bool.or_eq_true, Bool.and_eq_true, Bool.not_eq_true', decide_eq_true_eq, decide_eq_false_iff_not] at h
  omega
theorem orderW_by (S : List Star) : (orderW S).Pairwise fun i j => (star S j).2.2 ≤ (star S i).2.2 := by
  refine List.Pairwise.imp ?_ (insertion_stable (ltW_swo S) S.length).2
  intro x y h
  simp only [tie, ltW, Bool.or_eq_true, Bool.and_eq_true, Bool.not_eq_true', decide_eq_true_eq, decide_eq_false_iff_not] at h
  omega
/-- The reference's order: by weight from 100 down, and by index. -/
def ofW (S : List Star) (v : Int) : List Nat := (List.range S.length).filter fun i => decide ((star S i).2.2 = v)
def refOrder (S : List Star) : Nat → List Nat
  | 0 => []
  | k + 1 => refOrder S k ++ ofW S (100 - k)
theorem refOrder_mem {S : List Star} {i : Nat} : ∀ {k : Nat}, i ∈ refOrder S k ↔ i < S.length ∧ (100 : Int) - k < (star S i).2.2 ∧ (star S i).2.2 ≤ 100
  | 0 => by
    simp only [refOrder, List.not_mem_nil, false_iff]; omega
  | k + 1 => by
    rw [refOrder, List.mem_append, refOrder_mem]
    simp only [ofW, List.mem_filter, List.mem_range, decide_eq_true_eq]
    omega
theorem refOrder_by (S : List Star) : ∀ k, (refOrder S k).Pairwise fun x y => tie (ltW S) x y = true
  | 0 => by simp [refOrder]
  | k + 1 => by
    rw [refOrder, List.pairwise_append]
    refine ⟨refOrder_by S k, ?_, fun a ha b hb => ?_⟩
    · refine List.Pairwise.imp_of_mem ?_ (List.Pairwise.filter _ (List.pairwise_lt_range (n := S.length)))
      intro a b ha hb hab
      have ha := (List.mem_filter.1 ha).2
      have hb := (List.mem_filter.1 hb).2
      simp only [decide_eq_true_eq] at ha hb
      simp only [tie, ltW, Bool.or_eq_true, Bool.and_eq_true, Bool.not_eq_true', decide_eq_true_eq, decide_eq_false_iff_not]
      omega
    · have h1 := refOrder_mem.1 ha
      simp only [ofW, List.mem_filter, List.mem_range, decide_eq_true_eq] at hb
      simp only [tie, ltW, Bool.or_eq_true, Bool.and_eq_true, Bool.not_eq_true', decide_eq_true_eq, decide_eq_false_iff_not]
      omega
theorem orderW_eq {S : List Star} (h : ∀ s ∈ S, 1 ≤ s.2.2 ∧ s.2.2 ≤ 100) : orderW S = refOrder S 100 := by
  have hT : ∀ l : List Nat, (l.Pairwise fun x y => tie (ltW S) x y = true) → l.Nodup := fun l hl => List.Pairwise.imp (fun {a b} hab e => by rw [e, (tie_swo (ltW_swo S)).irrefl] at hab; cases hab) hl
  have h1 := (insertion_stable (ltW_swo S) S.length).2
  have h2 := refOrder_by S 100
  have hp : (orderW S).Perm (refOrder S 100) := by
    show List.Perm (insertionSort (ltW S) (Array.range S.length) 0 S.length).toList _
    rw [List.perm_ext_iff_of_nodup (hT _ h1) (hT _ h2)]
    intro i
    have hm := (orderW_perm S).mem_iff (a := i)
    unfold orderW at hm
    rw [hm, refOrder_mem, List.mem_range]
    constructor
    · intro hi; have := h _ (star_mem hi); exact ⟨hi, by omega, this.2⟩
    · exact fun h => h.1
  refine List.Perm.eq_of_pairwise (le := fun x y => tie (ltW S) x y = true) ?_ h1 h2 hp
  intro a b _ _ hab hba
  have := (tie_swo (ltW_swo S)).trans a b a hab hba
  rw [(tie_swo (ltW_swo S)).irrefl] at this; cases this
theorem foldl_filter' {α β : Type} (q : α → Bool) (f : β → α → β) : ∀ (l : List α) (b : β), (l.filter q).foldl f b = l.foldl (fun b x => if q x then f b x else b) b
  | [], _ => rfl
  | x :: l, b => by
    simp only [List.filter_cons, List.foldl_cons]
    split
    · rw [List.foldl_cons]; exact foldl_filter' q f l _
    · exact foldl_filter' q f l _
/-- The reference's choice. -/
def refRow (S : List Star) (p L : Int) (wo : Int) (v : Int) (out : List Nat) (n : Nat) : List Nat := (List.range n).foldl (fun out i => if decide ((star S i).2.2 = v) then take1 S p L wo out i else out) out
def refChoose (S : List Star) (p L : Int) (given : List Nat) (wo : Int) : Nat → List Nat
  | 0 => given
  | k + 1 => refRow S p L wo (100 - k) (refChoose S p L given wo k) S.length
theorem refChoose_eq (S : List Star) (p L : Int) (given : List Nat) (wo : Int) : ∀ k, refChoose S p L given wo k = choose S p L given wo (refOrder S k)
  | 0 => rfl
  | k + 1 => by
    rw [refOrder, choose_append, refChoose, refChoose_eq S p L given wo k]
    unfold refRow ofW choose
    rw [foldl_filter']
theorem choose_ref {S : List Star} (h : ∀ s ∈ S, 1 ≤ s.2.2 ∧ s.2.2 ≤ 100) (p L : Int) (given : List Nat) (wo : Int) : refChoose S p L given wo 100 = choose S p L given wo (orderW S) := by
  rw [refChoose_eq, orderW_eq h]
/-- What the program asks of its strikes is what the reference asks of the windows. -/
theorem struck_eq {S : List Star} {p L : Nat} (hok : Ok L S) : allStruck S p L (orderT S) = fitsB S p L := by
  rw [Bool.eq_iff_iff, allStruck_iff hok (orderT_perm S) (orderT_by S), fitsB_iff]
end P
end Go.Proofs.Ytpkffjcmoghaaaa
/- Plain Lean: the first plan; when a star can be struck. -/
namespace Go.Proofs.Ytpkffjcmoghaaaa
namespace P
/-- A star that is struck at a wear alone. -/
def atW (S : List Star) (i : Nat) (w : Int) : List Star := S.set i (w, w, (star S i).2.2)
theorem atW_length (S : List Star) (i : Nat) (w : Int) : (atW S i w).length = S.length := by simp [atW]
theorem star_atW (S : List Star) (i : Nat) (w : Int) (j : Nat) (hi : i < S.length) : star (atW S i w) j = if j = i then (w, w, (star S i).2.2) else star S j := by
  unfold atW star
  rw [List.getD_eq_getElem?_getD, List.getElem?_set]
  by_cases h : i = j
  · subst h; simp [hi]
  · have h' : ¬ j = i := fun e => h e.symm
    rw [if_neg h, if_neg h']; rfl
theorem star_ok {L : Int} {S : List Star} (h : Ok L S) {i : Nat} (hi : i < S.length) : 0 ≤ (star S i).1 ∧ (star S i).1 ≤ (star S i).2.1 ∧ (star S i).2.1 < L := h _ (star_mem hi)
theorem ok_of {L : Int} {S : List Star} (h : ∀ i, i < S.length → 0 ≤ (star S i).1 ∧ (star S i).1 ≤ (star S i).2.1 ∧ (star S i).2.1 < L) : Ok L S := by
  intro s hs
  obtain ⟨i, hi, rfl⟩ := List.getElem_of_mem hs
  have := h i hi
  simpa [star, hi] using this
theorem Ok.at {L : Int} {S : List Star} (h : Ok L S) {i : Nat} (hi : i < S.length) {w : Int} (h0 : 0 ≤ w) (h1 : w < L) : Ok L (atW S i w) := by
  refine ok_of fun j hj => ?_
  rw [atW_length] at hj
  rw [star_atW S i w j hi]
  split
  · exact ⟨h0, Int.le_refl _, h1⟩
  · exact star_ok h hj
/-- A plan that strikes the star at w is one of the job in which it is struck at w alone. -/
theorem Plan.at {S : List Star} {p : Int} {σ : Nat → Int} (h : Plan S p σ) {i : Nat} (hi : i < S.length) : Plan (atW S i (σ i)) p σ := by
  refine ⟨fun j hj => ?_, fun w => by rw [atW_length]; exact h.few w⟩
  rw [atW_length] at hj
  rw [star_atW S i _ j hi]
  split
  · rename_i e; subst e; exact ⟨Int.le_refl _, Int.le_refl _⟩
  · exact h.inn j hj
theorem Plan.back {S : List Star} {p : Int} {σ : Nat → Int} {i : Nat} {w : Int} (h : Plan (atW S i w) p σ) (hi : i < S.length) (h1 : (star S i).1 ≤ w) (h2 : w ≤ (star S i).2.1) : Plan S p σ ∧ σ i = w := by
  have hw : σ i = w := by
    have := h.inn i (by rw [atW_length]; exact hi)
    rw [star_atW S i w i hi, if_pos rfl] at this
    have h1 : w ≤ σ i := this.1
    have h2 : σ i ≤ w := this.2
    omega
  refine ⟨⟨fun j hj => ?_, fun v => by have := h.few v; rwa [atW_length] at this⟩, hw⟩
  have := h.inn j (by rw [atW_length]; exact hj)
  rw [star_atW S i w j hi] at this
  split at this
  · rename_i e; subst e; omega
  · exact this
def canAt (S : List Star) (p L : Int) (i : Nat) (w : Int) : Bool := fitsB (atW S i w) p L
/-- The star can be struck at w just if some plan does. -/
theorem canAt_iff {S : List Star} {p L : Nat} (hok : Ok L S) {i : Nat} (hi : i < S.length) {w : Int} (h1 : (star S i).1 ≤ w) (h2 : w ≤ (star S i).2.1) : canAt S p L i w = true ↔ ∃ σ, Plan S p σ ∧ σ i = w := by
  have hs := star_ok hok hi
  unfold canAt
  rw [fitsB_iff, fits_iff (hok.at hi (by omega) (by omega))]
  constructor
  · rintro ⟨σ, h⟩; exact ⟨σ, h.back hi h1 h2⟩
  · rintro ⟨σ, h, rfl⟩; exact ⟨σ, h.at hi⟩
theorem canAt_ex {S : List Star} {p L : Nat} (hok : Ok L S) (hf : Fits S p L) {i : Nat} (hi : i < S.length) : ∃ w, (star S i).1 ≤ w ∧ w ≤ (star S i).2.1 ∧ canAt S p L i w = true := by
  obtain ⟨σ, h⟩ := plan_ex hf hok
  have := h.inn i hi
  exact ⟨σ i, this.1, this.2, (canAt_iff hok hi this.1 this.2).2 ⟨σ, h, rfl⟩⟩
/-- The least wear from w on at which the star can be struck. -/
def leastW (S : List Star) (p L : Int) (i : Nat) (w : Int) : Nat → Int
  | 0 => w
  | k + 1 => if canAt S p L i w then w else leastW S p L i (w + 1) k
theorem leastW_spec {S : List Star} {p L : Int} {i : Nat} : ∀ (k : Nat) (w : Int), (∃ v, w ≤ v ∧ v < w + k ∧ canAt S p L i v = true) →
    w ≤ leastW S p L i w k ∧ leastW S p L i w k < w + k ∧ canAt S p L i (leastW S p L i w k) = true ∧ ∀ v, w ≤ v → v < leastW S p L i w k → canAt S p L i v = false
  | 0, w, ⟨v, h1, h2, _⟩ => by omega
  | k + 1, w, ⟨v, h1, h2, h3⟩ => by
    unfold leastW
    by_cases hc : canAt S p L i w = true
    · rw [if_pos hc]; exact ⟨Int.le_refl _, by omega, hc, fun v h1 h2 => by omega⟩
    · rw [if_neg hc]
      have hvw : v ≠ w := fun e => hc (e ▸ h3)
      obtain ⟨a1, a2, a3, a4⟩ := leastW_spec (S := S) (p := p) (L := L) (i := i) k (w + 1) ⟨v, by omega, by omega, h3⟩
      refine ⟨by omega, by omega, a3, fun u hu1 hu2 => ?_⟩
      by_cases hu : u = w
      · subst hu; simpa using hc
      · exact a4 u (by omega) hu2
/-- The first plan, up to a star: the job as it then stands, and the wears. -/
def planTo (S : List Star) (p L : Int) : Nat → List Star × List Int
  | 0 => (S, [])
  | k + 1 => (atW (planTo S p L k).1 k (leastW (planTo S p L k).1 p L k (star S k).1 ((star S k).2.1 - (star S k).1 + 1).toNat), (planTo S p L k).2 ++ [leastW (planTo S p L k).1 p L k (star S k).1 ((star S k).2.1 - (star S k).1 + 1).toNat])
def plan (S : List Star) (p L : Int) : List Int := (planTo S p L S.length).2
structure PT (S : List Star) (p L : Nat) (k : Nat) (s : List Star × List Int) : Prop where
  len : s.1.length = S.length
  wears : s.2.length = k
  ok : Ok L s.1
  fits : Fits s.1 p L
  done : ∀ j, j < k → star s.1 j = (s.2.getD j 0, s.2.getD j 0, (star S j).2.2) ∧ (star S j).1 ≤ s.2.getD j 0 ∧ s.2.getD j 0 ≤ (star S j).2.1
  rest : ∀ j, k ≤ j → star s.1 j = star S j
theorem planTo_spec {S : List Star} {p L : Nat} (hok : Ok L S) (hf : Fits S p L) : ∀ k, k ≤ S.length → PT S p L k (planTo S p L k)
  | 0, _ => ⟨rfl, rfl, hok, hf, fun j hj => by omega, fun _ _ => rfl⟩
  | k + 1, hk => by
    have ih := planTo_spec hok hf k (by omega)
    have hkl : k < (planTo S p L k).1.length := by rw [ih.len]; omega
    have hs := ih.rest k (Nat.le_refl _)
    obtain ⟨v, v1, v2, v3⟩ := canAt_ex ih.ok ih.fits hkl
    rw [hs] at v1 v2
    have hsk := star_ok hok (show k < S.length by omega)
    have hw := leastW_spec (S := (planTo S p L k).1) (p := p) (L := L) (i := k) ((star S k).2.1 - (star S k).1 + 1).toNat (star S k).1 ⟨v, v1, by omega, v3⟩
    simp only [planTo]
    generalize hlw : leastW (planTo S p L k).1 p L k (star S k).1 ((star S k).2.1 - (star S k).1 + 1).toNat = lw at *
    obtain ⟨w1, w2, w3, w4⟩ := hw
    have hlen := ih.wears
    refine ⟨by rw [atW_length]; exact ih.len, by simp [hlen], ih.ok.at hkl (by omega) (by omega), fitsB_iff.1 w3, fun j hj => ?_, fun j hj => ?_⟩
    · rw [star_atW _ _ _ _ hkl]
      by_cases e : j = k
      · subst e
        have eg : ((planTo S p L j).2 ++ [lw]).getD j 0 = lw := by
          rw [List.getD_eq_getElem?_getD, List.getElem?_append_right (by omega), hlen]; simp
        rw [if_pos rfl, eg, hs]; exact ⟨rfl, w1, by omega⟩
      · have hjk : j < k := by omega
        have eg : ((planTo S p L k).2 ++ [lw]).getD j 0 = (planTo S p L k).2.getD j 0 := by
          simp only [List.getD_eq_getElem?_getD]; rw [List.getElem?_append_left (by omega)]
        rw [if_neg e, eg]; exact ih.done j hjk
    · rw [star_atW _ _ _ _ hkl, if_neg (by omega)]; exact ih.rest j (by omega)
def wear (l : List Int) (i : Nat) : Int := l.getD i 0
theorem plan_spec {S : List Star} {p L : Nat} (hok : Ok L S) (hf : Fits S p L) : (plan S p L).length = S.length ∧ Plan S p (wear (plan S p L)) := by
  have h := planTo_spec hok hf S.length (Nat.le_refl _)
  refine ⟨h.wears, fun i hi => (h.done i hi).2, fun w => ?_⟩
  show ((List.countP (fun i => decide ((planTo S p L S.length).2.getD i 0 = w)) (List.range S.length) : Nat) : Int) ≤ p
  by_cases hw : 0 ≤ w ∧ w < L
  · have h1 := h.fits w w hw.1 (Int.le_refl _) hw.2
    rw [cnt_range, h.len] at h1
    have h2 : (List.range S.length).countP (fun i => decide ((planTo S p L S.length).2.getD i 0 = w)) ≤ (List.range S.length).countP (fun i => decide (w ≤ (star (planTo S p L S.length).1 i).1 ∧ (star (planTo S p L S.length).1 i).2.1 ≤ w)) := by
      refine countP_le_of _ _ _ fun i hi he => ?_
      have := (h.done i (by simpa using hi)).1
      rw [this]
      simp only [decide_eq_true_eq] at *; omega
    have h3 : (p : Int) * (w - w + 1) = p := by rw [show w - w + 1 = 1 by omega]; simp
    omega
  · have : (List.range S.length).countP (fun i => decide ((planTo S p L S.length).2.getD i 0 = w)) = 0 := by
      rw [List.countP_eq_zero]; intro i hi
      have h1 := (h.done i (by simpa using hi)).2
      have h2 := star_ok hok (show i < S.length by simpa using hi)
      simp only [decide_eq_true_eq]; omega
    omega
/-- The wear of a star in the first plan is not greater than that of a plan that is the same up to it. -/
theorem plan_least {S : List Star} {p L : Nat} (hok : Ok L S) (hf : Fits S p L) {σ : Nat → Int} (hσ : Plan S p σ) {i : Nat} (hi : i < S.length) (hs : ∀ j, j < i → σ j = wear (plan S p L) j) : wear (plan S p L) i ≤ σ i := by
  have hpre : ∀ k m, k ≤ m → ∀ j, j < k → k ≤ S.length → m ≤ S.length → (planTo S p L m).2.getD j 0 = (planTo S p L k).2.getD j 0 := by
    intro k m hkm
    induction m with
    | zero => intro j hj _ _; omega
    | succ m ih =>
      intro j hj hk hm
      by_cases e : k = m + 1
      · rw [e]
      · have h1 := ih (by omega) j hj hk (by omega)
        have hl := (planTo_spec hok hf m (by omega)).wears
        rw [← h1]
        show ((planTo S p L m).2 ++ [_]).getD j 0 = _
        simp only [List.getD_eq_getElem?_getD]; rw [List.getElem?_append_left (by omega)]
  have h := planTo_spec hok hf i (by omega)
  have hil : i < (planTo S p L i).1.length := by rw [h.len]; exact hi
  have hsi := h.rest i (Nat.le_refl _)
  obtain ⟨v, v1, v2, v3⟩ := canAt_ex h.ok h.fits hil
  rw [hsi] at v1 v2
  have hw := leastW_spec (S := (planTo S p L i).1) (p := p) (L := L) (i := i) ((star S i).2.1 - (star S i).1 + 1).toNat (star S i).1 ⟨v, v1, by omega, v3⟩
  have e : wear (plan S p L) i = leastW (planTo S p L i).1 p L i (star S i).1 ((star S i).2.1 - (star S i).1 + 1).toNat := by
    unfold wear plan
    rw [hpre (i + 1) S.length (by omega) i (by omega) (by omega) (Nat.le_refl _)]
    show ((planTo S p L i).2 ++ [_]).getD i 0 = _
    have hl := h.wears
    rw [List.getD_eq_getElem?_getD, List.getElem?_append_right (by omega)]; simp [hl]
  rw [e]
  apply Classical.byContradiction
  intro hlt
  have hin := hσ.inn i hi
  have hc := hw.2.2.2 (σ i) hin.1 (by omega)
  have hP : Plan (planTo S p L i).1 p σ := by
    refine ⟨fun j hj => ?_, fun w => by rw [h.len]; exact hσ.few w⟩
    rw [h.len] at hj
    by_cases hji : j < i
    · rw [(h.done j hji).1]
      have := hs j hji
      unfold wear plan at this
      rw [hpre i S.length (by omega) j hji (by omega) (Nat.le_refl _)] at this
      rw [← this]; exact ⟨Int.le_refl _, Int.le_refl _⟩
    · rw [h.rest j (by omega)]; exact hσ.inn j hj
  have : canAt (planTo S p L i).1 p L i (σ i) = true := (canAt_iff h.ok hil (by rw [hsi]; exact hin.1) (by rw [hsi]; exact hin.2)).2 ⟨σ, hP, rfl⟩
  rw [this] at hc; cases hc
/-- When a star can be struck. -/
def timesTo (S : List Star) (p L : Int) (i : Nat) (w : Int) : Nat → List Int
  | 0 => []
  | k + 1 => timesTo S p L i w k ++ if canAt S p L i (w + k) then [w + k] else []
def times (S : List Star) (p L : Int) (i : Nat) : List Int := timesTo S p L i (star S i).1 ((star S i).2.1 - (star S i).1 + 1).toNat
theorem timesTo_mem {S : List Star} {p L : Int} {i : Nat} {w : Int} {v : Int} : ∀ {k : Nat}, v ∈ timesTo S p L i w k ↔ w ≤ v ∧ v < w + k ∧ canAt S p L i v = true
  | 0 => by simp [timesTo]; omega
  | k + 1 => by
    rw [timesTo, List.mem_append, timesTo_mem]
    by_cases hc : canAt S p L i (w + k) = true
    · rw [if_pos hc]; simp only [List.mem_singleton]
      constructor
      · rintro (h | rfl)
        · exact ⟨h.1, by omega, h.2.2⟩
        · exact ⟨by omega, by omega, hc⟩
      · rintro ⟨h1, h2, h3⟩
        by_cases e : v = w + k
        · exact .inr e
        · exact .inl ⟨h1, by omega, h3⟩
    · rw [if_neg hc]
      simp only [List.not_mem_nil, or_false]
      constructor
      · rintro ⟨h1, h2, h3⟩; exact ⟨h1, by omega, h3⟩
      · rintro ⟨h1, h2, h3⟩
        refine ⟨h1, ?_, h3⟩
        by_cases e : v = w + k
        · subst e; exact absurd h3 hc
        · omega
theorem times_mem {S : List Star} {p L : Int} {i : Nat} {v : Int} : v ∈ times S p L i ↔ (star S i).1 ≤ v ∧ v ≤ (star S i).2.1 ∧ canAt S p L i v = true := by
  unfold times; rw [timesTo_mem]
  constructor <;> rintro ⟨h1, h2, h3⟩ <;> exact ⟨h1, by omega, h3⟩
theorem timesTo_lt {S : List Star} {p L : Int} {i : Nat} {w : Int} : ∀ {k : Nat}, (timesTo S p L i w k).Pairwise (· < ·)
  | 0 => by simp [timesTo]
  | k + 1 => by
    rw [timesTo, List.pairwise_append]
    refine ⟨timesTo_lt, ?_, fun a ha b hb => ?_⟩
    · split <;> simp
    · split at hb
      · simp at hb; have := timesTo_mem.1 ha; omega
      · simp at hb
end P
end Go.Proofs.Ytpkffjcmoghaaaa
/- Plain Lean: valid jobs; the heaviest choice, and kinds of stars. -/
namespace Go.Proofs.Ytpkffjcmoghaaaa
namespace P
/-- A valid job: punches, life, stars. -/
structure Valid (p L : Int) (S : List Star) : Prop where
  p1 : 1 ≤ p
  p5 : p ≤ 5
  l1 : 1 ≤ L
  l20 : L ≤ 20
  len : S.length ≤ 16
  ok : Ok L S
  wt : ∀ s ∈ S, 1 ≤ s.2.2 ∧ s.2.2 ≤ 100
def chosen (S : List Star) (p L : Int) (given : List Nat) (wo : Int) : List Nat := choose S p L given wo (orderW S)
def heavy (S : List Star) (p L : Int) : Int := weigh S (chosen S p L [] (-1))
def kind (S : List Star) (p L : Int) (i : Nat) : Int :=
  if weigh S (chosen S p L [] i) < heavy S p L then 2 else if weigh S (chosen S p L [i] (-1)) = heavy S p L then 1 else 0
theorem ind_nil {S : List Star} {p L : Int} (hp : 0 ≤ p) : Ind S p L [] := by
  rw [ind_iff]; intro a b _ _ _; simp [win]; exact Int.mul_nonneg hp (by omega)
theorem ind_one {S : List Star} {p L : Int} (hp : 1 ≤ p) (i : Nat) : Ind S p L [i] := by
  rw [ind_iff]; intro a b _ h _
  have h1 : win S [i] a b ≤ 1 := by unfold win; exact Nat.le_trans List.countP_le_length (by simp)
  have h2 : 1 * 1 ≤ p * (b - a + 1) := Int.mul_le_mul hp (by omega) (by omega) (by omega)
  omega
/-- A set of stars that can be struck. -/
structure Set_ (S : List Star) (p L : Int) (I : List Nat) : Prop where
  ind : Ind S p L I
  nd : I.Nodup
  inn : ∀ i ∈ I, i < S.length
section
variable {S : List Star} {p L : Int}
theorem Valid.star (h : Valid p L S) {i : Nat} (hi : i < S.length) : 0 ≤ (star S i).1 ∧ (star S i).1 ≤ (star S i).2.1 ∧ (star S i).2.1 < L := star_ok h.ok hi
theorem Valid.weight (h : Valid p L S) {i : Nat} (hi : i < S.length) : 1 ≤ (P.star S i).2.2 ∧ (P.star S i).2.2 ≤ 100 := h.wt _ (star_mem hi)
theorem mem_orderW {i : Nat} : i ∈ orderW S ↔ i < S.length := by rw [(orderW_perm S).mem_iff, List.mem_range]
theorem orderW_nodup : (orderW S).Nodup := (orderW_perm S).nodup_iff.2 List.nodup_range
theorem chosen_ch {g : List Nat} (hg : Set_ S p L g) (wo : Int) : Ch S p L g wo (orderW S) (chosen S p L g wo) := Ch.mk' hg.ind hg.nd _
theorem chosen_set {g : List Nat} (hg : Set_ S p L g) (wo : Int) : Set_ S p L (chosen S p L g wo) :=
  ⟨(chosen_ch hg wo).ind, (chosen_ch hg wo).nodup, fun i hi => ((chosen_ch hg wo).from_ i hi).elim (hg.inn i) mem_orderW.1⟩
theorem chosen_heavy (h : Valid p L S) {g : List Nat} (hg : Set_ S p L g) (wo : Int) {I : List Nat} (hI : Set_ S p L I) (hgI : ∀ i ∈ g, i ∈ I) (hwo : ∀ i ∈ I, i ∉ g → (i : Int) ≠ wo) : weigh S I ≤ weigh S (chosen S p L g wo) := by
  refine choose_heavy hg.ind hg.nd orderW_nodup (fun i hi => (h.star (hi.elim (hg.inn i) mem_orderW.1)).2.1) (fun i hi => by have := (h.weight (mem_orderW.1 hi)).1; omega) (orderW_by S) hI.ind hI.nd hgI (fun i hi => ?_)
  by_cases hig : i ∈ g
  · exact .inl hig
  · exact .inr ⟨mem_orderW.2 (hI.inn i hi), hwo i hi hig⟩
theorem chosen_most (h : Valid p L S) {g : List Nat} (hg : Set_ S p L g) (wo : Int) {I : List Nat} (hI : Set_ S p L I) (hwo : ∀ i ∈ I, i ∉ g → (i : Int) ≠ wo) : I.length ≤ (chosen S p L g wo).length := by
  refine (chosen_ch hg wo).most (fun i hi => (h.star (hi.elim (hg.inn i) mem_orderW.1)).2.1) hI.ind hI.nd (fun i hi => ?_)
  by_cases hig : i ∈ g
  · exact .inl hig
  · exact .inr ⟨mem_orderW.2 (hI.inn i hi), hwo i hi hig⟩
theorem set_nil (h : Valid p L S) : Set_ S p L [] := ⟨ind_nil (by have := h.p1; omega), List.nodup_nil, by simp⟩
theorem set_one (h : Valid p L S) {i : Nat} (hi : i < S.length) : Set_ S p L [i] := ⟨ind_one h.p1 i, by simp, by simpa using hi⟩
theorem heavy_le (h : Valid p L S) {I : List Nat} (hI : Set_ S p L I) : weigh S I ≤ heavy S p L := chosen_heavy h (set_nil h) (-1) hI (by simp) (fun i _ _ => by omega)
/-- There is a heaviest choice. -/
theorem heavy_ex (h : Valid p L S) : ∃ I, Set_ S p L I ∧ weigh S I = heavy S p L := ⟨_, chosen_set (set_nil h) (-1), rfl⟩
theorem weigh_pos (h : Valid p L S) : ∀ {I : List Nat}, (∀ i ∈ I, i < S.length) → 0 ≤ weigh S I ∧ weigh S I ≤ 100 * I.length
  | [], _ => by simp [weigh]
  | i :: I, hI => by
    have h1 := weigh_pos h (I := I) (fun j hj => hI j (by simp [hj]))
    have h2 := h.weight (hI i (by simp))
    have e : weigh S (i :: I) = (P.star S i).2.2 + weigh S I := by simp [weigh]
    rw [e]; simp only [List.length_cons]; omega
theorem set_len {I : List Nat} (hI : Set_ S p L I) : I.length ≤ S.length := by
  have := List.Nodup.length_le_of_subset (l₂ := List.range S.length) hI.nd (fun i hi => by simpa using hI.inn i hi)
  simpa using this
theorem heavy_bd (h : Valid p L S) : 0 ≤ heavy S p L ∧ heavy S p L ≤ 1600 := by
  obtain ⟨I, hI, e⟩ := heavy_ex h
  have h1 := weigh_pos h hI.inn
  have h2 := set_len hI
  have h3 := h.len
  omega
theorem chosen_bd (h : Valid p L S) {g : List Nat} (hg : Set_ S p L g) (wo : Int) : 0 ≤ weigh S (chosen S p L g wo) ∧ weigh S (chosen S p L g wo) ≤ heavy S p L :=
  ⟨(weigh_pos h (chosen_set hg wo).inn).1, heavy_le h (chosen_set hg wo)⟩
theorem kind_bd (i : Nat) : 0 ≤ kind S p L i ∧ kind S p L i ≤ 2 := by unfold kind; split; omega; split <;> omega
/-- Whoever is in each heaviest choice was chosen. -/
theorem kind_always (h : Valid p L S) {i : Nat} (hk : kind S p L i = 2) : i ∈ chosen S p L [] (-1) := by
  apply Classical.byContradiction
  intro hn
  have h1 := chosen_heavy h (set_nil h) i (chosen_set (set_nil h) (-1)) (by simp) (fun j hj _ e => hn (Int.ofNat.inj e ▸ hj))
  unfold kind at hk
  rw [if_neg (by unfold heavy; omega)] at hk
  split at hk <;> omega
theorem kind_never (h : Valid p L S) {i : Nat} (hi : i < S.length) (hk : kind S p L i = 0) : i ∉ chosen S p L [] (-1) := by
  intro hn
  have h1 := chosen_heavy h (set_one h hi) (-1) (chosen_set (set_nil h) (-1)) (by simpa using hn) (fun j _ _ e => by omega)
  have h2 := (chosen_bd h (set_one h hi) (-1)).2
  have h3 : weigh S (chosen S p L [] (-1)) = heavy S p L := rfl
  unfold kind at hk
  split at hk
  · omega
  · rw [if_pos (by omega)] at hk; omega
/-- Where all stars can be struck all are chosen. -/
theorem chosen_all (h : Valid p L S) (hf : Fits S p L) : (chosen S p L [] (-1)).Perm (List.range S.length) := by
  have hr : Set_ S p L (List.range S.length) := by
    refine ⟨ind_iff.2 fun a b h0 h1 h2 => ?_, List.nodup_range, by simp⟩
    have := hf a b h0 h1 h2
    rw [cnt_range] at this; exact this
  have hc := chosen_set (set_nil h) (-1)
  have hl := chosen_most h (set_nil h) (-1) hr (fun i _ _ => by omega)
  rw [List.perm_ext_iff_of_nodup hc.nd List.nodup_range]
  intro i
  rw [List.mem_range]
  refine ⟨hc.inn i, fun hi => Classical.byContradiction fun hn => ?_⟩
  have h1 : (i :: chosen S p L [] (-1)).length ≤ (List.range S.length).length := List.Nodup.length_le_of_subset (List.nodup_cons.2 ⟨hn, hc.nd⟩) (fun j hj => by
    rcases List.mem_cons.1 hj with rfl | hj
    · simpa using hi
    · simpa using hc.inn j hj)
  simp only [List.length_cons] at h1; omega
theorem fits_len (h : Valid p L S) : Fits S p L ↔ (chosen S p L [] (-1)).length = S.length := by
  constructor
  · intro hf; simpa using (chosen_all h hf).length_eq
  · intro hl
    have hc := chosen_set (set_nil h) (-1)
    have hp : (chosen S p L [] (-1)).Perm (List.range S.length) := by
      rw [List.perm_ext_iff_of_nodup hc.nd List.nodup_range]
      intro i
      rw [List.mem_range]
      refine ⟨hc.inn i, fun hi => Classical.byContradiction fun hn => ?_⟩
      have h1 : (i :: chosen S p L [] (-1)).length ≤ (List.range S.length).length := List.Nodup.length_le_of_subset (List.nodup_cons.2 ⟨hn, hc.nd⟩) (fun j hj => by
        rcases List.mem_cons.1 hj with rfl | hj
        · simpa using hi
        · simpa using hc.inn j hj)
      simp only [List.length_cons, List.length_range] at h1; omega
    have := ind_iff.1 (hc.ind.perm hp)
    intro a b h0 h1 h2
    rw [cnt_range]; exact this a b h0 h1 h2
theorem weigh_cons (i : Nat) (I : List Nat) : weigh S (i :: I) = (P.star S i).2.2 + weigh S I := by simp [weigh]
theorem kind_has (h : Valid p L S) (hf : Fits S p L) {i : Nat} (hi : i < S.length) : kind S p L i = 2 := by
  have hc := chosen_ch (set_nil h) (i : Int)
  have hs := chosen_set (set_nil h) (i : Int)
  have hni : i ∉ chosen S p L [] (i : Int) := fun hm => hc.avoid i hm (by simp) rfl
  have h1 : Set_ S p L (i :: chosen S p L [] (i : Int)) := by
    refine ⟨?_, List.nodup_cons.2 ⟨hni, hs.nd⟩, fun j hj => ?_⟩
    · have hr : Ind S p L (List.range S.length) := ind_iff.2 fun a b h0 h1 h2 => by
        have := hf a b h0 h1 h2
        rw [cnt_range] at this; exact this
      refine hr.subset (List.nodup_cons.2 ⟨hni, hs.nd⟩) (fun j hj => ?_)
      rcases List.mem_cons.1 hj with rfl | hj
      · simpa using hi
      · simpa using hs.inn j hj
    · rcases List.mem_cons.1 hj with rfl | hj
      · exact hi
      · exact hs.inn j hj
  have h2 := heavy_le h h1
  rw [weigh_cons] at h2
  have h3 := (h.weight hi).1
  unfold kind
  rw [if_pos (by omega)]
/-- A star that is heavier than all others. -/
theorem kind_heaviest (h : Valid p L S) {i : Nat} (hi : i < S.length) (hw : ∀ j, j < S.length → j ≠ i → (P.star S j).2.2 < (P.star S i).2.2) : kind S p L i = 2 := by
  have hc := chosen_ch (set_nil h) (i : Int)
  have hs := chosen_set (set_nil h) (i : Int)
  have hni : i ∉ chosen S p L [] (i : Int) := fun hm => hc.avoid i hm (by simp) rfl
  have hlt : weigh S (chosen S p L [] (i : Int)) < heavy S p L := by
    have hg1 := set_one h hi
    by_cases h0 : (chosen S p L [] (i : Int)).length = 0
    · have e : chosen S p L [] (i : Int) = [] := List.eq_nil_of_length_eq_zero h0
      rw [e]
      have := heavy_le h hg1
      have h3 := (h.weight hi).1
      rw [weigh_cons] at this
      have h4 : weigh S [] = 0 := rfl
      omega
    · -- fill {i} up out of the others
      generalize hI : chosen S p L [] (i : Int) = I at *
      have grow : ∀ m : Nat, m + 1 ≤ I.length → ∃ J, Set_ S p L (i :: J) ∧ J.length = m ∧ ∀ j ∈ J, j ∈ I := by
        intro m
        induction m with
        | zero => intro _; exact ⟨[], hg1, rfl, by simp⟩
        | succ m ih =>
          intro hm
          obtain ⟨J, hJ, hJl, hJI⟩ := ih (by omega)
          obtain ⟨k, hk, hkn, hkI⟩ := exchange hs.ind hJ.ind hs.nd (fun j hj => (h.star (hs.inn j hj)).2.1) (fun j hj => (h.star (hJ.inn j hj)).2.1) (by simp only [List.length_cons]; omega)
          refine ⟨J ++ [k], ⟨by simpa using hkI, ?_, fun j hj => ?_⟩, by simp [hJl], fun j hj => ?_⟩
          · have : ((i :: J) ++ [k]).Nodup := by
              rw [List.nodup_append]; refine ⟨hJ.nd, by simp, fun a ha b hb e => ?_⟩
              simp only [List.mem_singleton] at hb; rw [hb] at e; rw [e] at ha; exact hkn ha
            simpa using this
          · have : j ∈ (i :: J) ++ [k] := by simpa using hj
            rcases List.mem_append.1 this with hj | hj
            · exact hJ.inn j hj
            · simp only [List.mem_singleton] at hj; rw [hj]; exact hs.inn k hk
          · rcases List.mem_append.1 hj with hj | hj
            · exact hJI j hj
            · simp only [List.mem_singleton] at hj; rw [hj]; exact hk
      obtain ⟨J, hJ, hJl, hJI⟩ := grow (I.length - 1) (by omega)
      have hJn : J.Nodup := (List.nodup_cons.1 hJ.nd).2
      -- I is J and one star more
      have hx : ∃ x ∈ I, x ∉ J := by
        apply Classical.byContradiction
        intro hn
        have := List.Nodup.length_le_of_subset (l₂ := J) hs.nd (fun j hj => Classical.byContradiction fun h => hn ⟨j, hj, h⟩)
        omega
      obtain ⟨x, hxI, hxJ⟩ := hx
      have hp : (x :: J).Perm I := by
        rw [List.perm_ext_iff_of_nodup (List.nodup_cons.2 ⟨hxJ, hJn⟩) hs.nd]
        intro j
        constructor
        · intro hj
          rcases List.mem_cons.1 hj with rfl | hj
          · exact hxI
          · exact hJI j hj
        · intro hj
          apply Classical.byContradiction
          intro hn
          have : (j :: x :: J).length ≤ I.length := List.Nodup.length_le_of_subset (List.nodup_cons.2 ⟨hn, List.nodup_cons.2 ⟨hxJ, hJn⟩⟩) (fun k hk => by
            rcases List.mem_cons.1 hk with rfl | hk
            · exact hj
            · rcases List.mem_cons.1 hk with rfl | hk
              · exact hxI
              · exact hJI k hk)
          simp only [List.length_cons] at this; omega
      have h1 := heavy_le h hJ
      rw [weigh_cons] at h1
      rw [← weigh_perm hp, weigh_cons]
      have hxi : x ≠ i := fun e => hni (e ▸ hxI)
      have := hw x (hs.inn x hxI) hxi
      omega
  unfold kind
  rw [if_pos hlt]
end
end P
end Go.Proofs.Ytpkffjcmoghaaaa
/- Plain Lean: the fewest punches; more punches, longer lives, other stars; wear counted from the other end; two jobs behind one another. -/
namespace Go.Proofs.Ytpkffjcmoghaaaa
namespace P
section
variable {S : List Star} {p L : Int}
theorem Fits.mono {q : Int} (h : Fits S p L) (hpq : p ≤ q) : Fits S q L := by
  intro a b h0 h1 h2
  have := h a b h0 h1 h2
  have h3 : p * (b - a + 1) ≤ q * (b - a + 1) := Int.mul_le_mul_of_nonneg_right hpq (by omega)
  omega
/-! ### the fewest punches -/
/-- The least from k on with which there is a plan. -/
def fewFrom (S : List Star) (L : Int) (k : Nat) : Nat → Nat
  | 0 => k
  | m + 1 => if fitsB S k L then k else fewFrom S L (k + 1) m
def fewest (S : List Star) (L : Int) : Nat := fewFrom S L 0 S.length
theorem fits_many (S : List Star) (L : Int) : Fits S S.length L := by
  intro a b h0 h1 h2
  have h3 : cnt S a b ≤ S.length := List.countP_le_length
  have h4 : (S.length : Int) * 1 ≤ S.length * (b - a + 1) := Int.mul_le_mul_of_nonneg_left (by omega) (by omega)
  omega
theorem fewFrom_spec : ∀ (m k : Nat), Fits S (k + m : Nat) L → k ≤ fewFrom S L k m ∧ fewFrom S L k m ≤ k + m ∧ Fits S (fewFrom S L k m) L ∧ ∀ q : Nat, k ≤ q → q < fewFrom S L k m → ¬ Fits S q L
  | 0, k, h => ⟨Nat.le_refl _, Nat.le_refl _, by simpa [fewFrom] using h, fun q h1 h2 => by simp [fewFrom] at h2; omega⟩
  | m + 1, k, h => by
    unfold fewFrom
    by_cases hc : fitsB S k L = true
    · rw [if_pos hc]; exact ⟨Nat.le_refl _, by omega, fitsB_iff.1 hc, fun q h1 h2 => by omega⟩
    · rw [if_neg hc]
      obtain ⟨a1, a2, a3, a4⟩ := fewFrom_spec m (k + 1) (by rw [show k + 1 + m = k + (m + 1) by omega]; exact h)
      refine ⟨by omega, by omega, a3, fun q h1 h2 => ?_⟩
      by_cases e : q = k
      · subst e; exact fun h => hc (fitsB_iff.2 h)
      · exact a4 q (by omega) h2
theorem fewest_spec (S : List Star) (L : Int) : fewest S L ≤ S.length ∧ Fits S (fewest S L) L ∧ ∀ q : Nat, Fits S q L → fewest S L ≤ q := by
  obtain ⟨-, h2, h3, h4⟩ := fewFrom_spec (S := S) (L := L) S.length 0 (by simpa using fits_many S L)
  refine ⟨by unfold fewest; omega, h3, fun q hq => Classical.byContradiction fun hn => h4 q (by omega) (by unfold fewest at hn; omega) hq⟩
theorem fits_fewest {q : Nat} : Fits S q L ↔ fewest S L ≤ q := ⟨(fewest_spec S L).2.2 q, fun h => (fewest_spec S L).2.1.mono (by omega)⟩
theorem fewest_nil (L : Int) : fewest [] L = 0 := rfl
theorem fewest_pos (h : Ok L S) (hn : 0 < S.length) : 1 ≤ fewest S L := by
  apply Classical.byContradiction
  intro h0
  have hf := (fewest_spec S L).2.1
  rw [show fewest S L = 0 by omega] at hf
  have hs := star_ok h hn
  have := hf (star S 0).1 (star S 0).2.1 hs.1 hs.2.1 hs.2.2
  have h1 : 0 < cnt S (star S 0).1 (star S 0).2.1 := List.countP_pos_iff.2 ⟨star S 0, star_mem hn, by simp⟩
  simp at this; omega
/-- The greatest of all windows: how many stars, by how many wears, rounded up. -/
def ceilW (S : List Star) (a b : Int) : Int := ((cnt S a b : Int) + (b - a + 1) - 1) / (b - a + 1)
def mostRow (S : List Star) (a : Nat) : Nat → Int → Int
  | 0, m => m
  | k + 1, m => max (mostRow S a k m) (ceilW S a (a + k : Nat))
def mostTo (S : List Star) (L : Nat) : Nat → Int
  | 0 => 0
  | k + 1 => mostRow S k (L - k) (mostTo S L k)
theorem ceil_le {n d k : Int} (hd : 1 ≤ d) : (n + d - 1) / d ≤ k ↔ n ≤ k * d := by
  constructor
  · intro h
    have h1 : (n + d - 1) / d < k + 1 := by omega
    rw [Int.ediv_lt_iff_lt_mul (by omega)] at h1
    rw [Int.add_mul] at h1; omega
  · intro h
    have h1 : (n + d - 1) / d < k + 1 := by
      rw [Int.ediv_lt_iff_lt_mul (by omega), Int.add_mul]; omega
    omega
theorem mostRow_le {a : Nat} {k : Nat} {m q : Int} : mostRow S a k m ≤ q ↔ m ≤ q ∧ ∀ j : Nat, j < k → ceilW S a (a + j : Nat) ≤ q := by
  induction k with
  | zero => simp [mostRow]
  | succ k ih =>
    rw [mostRow, Int.max_le, ih]
    constructor
    · rintro ⟨⟨h1, h2⟩, h3⟩
      refine ⟨h1, fun j hj => ?_⟩
      by_cases e : j = k
      · subst e; exact h3
      · exact h2 j (by omega)
    · rintro ⟨h1, h2⟩
      exact ⟨⟨h1, fun j hj => h2 j (by omega)⟩, h2 k (by omega)⟩
theorem mostTo_le {L : Nat} {k : Nat} {q : Int} (hk : k ≤ L) : mostTo S L k ≤ q ↔ 0 ≤ q ∧ ∀ a b : Nat, a < k → a ≤ b → b < L → ceilW S a b ≤ q := by
  induction k with
  | zero => simp [mostTo]
  | succ k ih =>
    rw [mostTo, mostRow_le, ih (by omega)]
    constructor
    · rintro ⟨⟨h1, h2⟩, h3⟩
      refine ⟨h1, fun a b ha hab hb => ?_⟩
      by_cases e : a = k
      · subst e
        have := h3 (b - a) (by omega)
        rwa [show a + (b - a) = b by omega] at this
      · exact h2 a b (by omega) hab hb
    · rintro ⟨h1, h2⟩
      exact ⟨⟨h1, fun a b ha hab hb => h2 a b (by omega) hab hb⟩, fun j hj => h2 k (k + j) (by omega) (by omega) (by omega)⟩
theorem mostTo_fits {L : Nat} {q : Int} (hq : 0 ≤ q) : mostTo S L L ≤ q ↔ Fits S q L := by
  rw [mostTo_le (Nat.le_refl _)]
  constructor
  · rintro ⟨-, h⟩ a b h0 h1 h2
    obtain ⟨a', rfl⟩ := Int.eq_ofNat_of_zero_le h0
    obtain ⟨b', rfl⟩ := Int.eq_ofNat_of_zero_le (show 0 ≤ b by omega)
    have := h a' b' (by omega) (by omega) (by omega)
    unfold ceilW at this
    rwa [ceil_le (by omega)] at this
  · intro h
    refine ⟨hq, fun a b ha hab hb => ?_⟩
    unfold ceilW
    rw [ceil_le (by omega)]
    exact h a b (by omega) (by omega) (by omega)
theorem mostTo_pos (L k : Nat) : 0 ≤ mostTo S L k := by
  induction k with
  | zero => simp [mostTo]
  | succ k ih =>
    rw [mostTo]
    have : ∀ n m, 0 ≤ m → 0 ≤ mostRow S k n m := by
      intro n m hm
      induction n with
      | zero => exact hm
      | succ n ih => rw [mostRow]; omega
    exact this _ _ ih
theorem fewest_most (L : Nat) : (fewest S L : Int) = mostTo S L L := by
  have h1 := (mostTo_fits (S := S) (L := L) (q := fewest S L) (by omega)).2 (fewest_spec S L).2.1
  have h0 := mostTo_pos (S := S) L L
  have h2 := (mostTo_fits (S := S) (L := L) (q := mostTo S L L) h0).1 (Int.le_refl _)
  obtain ⟨m, hm⟩ := Int.eq_ofNat_of_zero_le h0
  rw [hm] at h2
  have := (fewest_spec S L).2.2 m h2
  omega
/-! ### a longer life -/
theorem fits_life {M : Int} (hok : Ok L S) (hLM : L ≤ M) (hp : 0 ≤ p) : Fits S p M ↔ Fits S p L := by
  constructor
  · intro h a b h0 h1 h2; exact h a b h0 h1 (by omega)
  · intro h a b h0 h1 h2
    by_cases ha : L ≤ a
    · have : cnt S a b = 0 := by
        unfold cnt; rw [List.countP_eq_zero]; intro s hs; have := hok s hs; simp only [decide_eq_true_eq]; omega
      rw [this]; exact Int.mul_nonneg hp (by omega)
    · by_cases hb : b < L
      · exact h a b h0 h1 hb
      · have e : cnt S a b = cnt S a (L - 1) := by
          unfold cnt; refine countP_eq_of _ _ _ fun s hs => ?_
          have := hok s hs; simp only [decide_eq_decide]; omega
        have h3 := h a (L - 1) h0 (by omega) (by omega)
        have h4 : p * (L - 1 - a + 1) ≤ p * (b - a + 1) := Int.mul_le_mul_of_nonneg_left (by omega) hp
        rw [e]; omega
theorem Ok.sel {I : List Nat} (hok : Ok L S) (hI : ∀ i ∈ I, i < S.length) : Ok L (sel S I) := by
  intro s hs
  unfold P.sel at hs
  rw [List.mem_map] at hs
  obtain ⟨i, hi, rfl⟩ := hs
  exact star_ok hok (hI i hi)
theorem Ok.life {M : Int} (hok : Ok L S) (h : L ≤ M) : Ok M S := fun s hs => by have := hok s hs; omega
theorem Valid.life {M : Int} (h : Valid p L S) (h1 : L ≤ M) (h2 : M ≤ 20) : Valid p M S := ⟨h.p1, h.p5, by have := h.l1; omega, h2, h.len, h.ok.life h1, h.wt⟩
theorem Valid.punches {q : Int} (h : Valid p L S) (h1 : p ≤ q) (h2 : q ≤ 5) : Valid q L S := ⟨by have := h.p1; omega, h2, h.l1, h.l20, h.len, h.ok, h.wt⟩
theorem Set_.punches {q : Int} {I : List Nat} (h : Set_ S p L I) (h1 : p ≤ q) : Set_ S q L I := ⟨Fits.mono h.ind h1, h.nd, h.inn⟩
theorem heavy_punches {q : Int} (h : Valid p L S) (h1 : p ≤ q) (h2 : q ≤ 5) : heavy S p L ≤ heavy S q L := by
  obtain ⟨I, hI, e⟩ := heavy_ex h
  rw [← e]; exact heavy_le (h.punches h1 h2) (hI.punches h1)
theorem heavy_life {M : Int} (h : Valid p L S) (h1 : L ≤ M) (h2 : M ≤ 20) : heavy S p M = heavy S p L := by
  have hp : 0 ≤ p := by have := h.p1; omega
  apply Int.le_antisymm
  · obtain ⟨I, hI, e⟩ := heavy_ex (h.life h1 h2)
    rw [← e]; exact heavy_le h ⟨(fits_life (h.ok.sel hI.inn) h1 hp).1 hI.ind, hI.nd, hI.inn⟩
  · obtain ⟨I, hI, e⟩ := heavy_ex h
    rw [← e]; exact heavy_le (h.life h1 h2) ⟨(fits_life (h.ok.sel hI.inn) h1 hp).2 hI.ind, hI.nd, hI.inn⟩
/-! ### a star whose To is greater -/
def widen (S : List Star) (i : Nat) (t : Int) : List Star := S.set i ((star S i).1, t, (star S i).2.2)
theorem star_widen (S : List Star) (i : Nat) (t : Int) (j : Nat) (hi : i < S.length) : star (widen S i t) j = if j = i then ((star S i).1, t, (star S i).2.2) else star S j := by
  unfold widen star
  rw [List.getD_eq_getElem?_getD, List.getElem?_set]
  by_cases h : i = j
  · subst h; simp [hi]
  · have h' : ¬ j = i := fun e => h e.symm
    rw [if_neg h, if_neg h']; rfl
theorem widen_length (S : List Star) (i : Nat) (t : Int) : (widen S i t).length = S.length := by simp [widen]
theorem widen_valid (h : Valid p L S) {i : Nat} (hi : i < S.length) {t : Int} (h1 : (star S i).2.1 ≤ t) (h2 : t < L) : Valid p L (widen S i t) := by
  refine ⟨h.p1, h.p5, h.l1, h.l20, by rw [widen_length]; exact h.len, ok_of fun j hj => ?_, fun s hs => ?_⟩
  · rw [widen_length] at hj
    rw [star_widen _ _ _ _ hi]
    split
    · have := h.star hi; exact ⟨this.1, by show (star S i).1 ≤ t; omega, h2⟩
    · exact h.star hj
  · obtain ⟨j, hj, rfl⟩ := List.getElem_of_mem hs
    have e : (widen S i t)[j] = star (widen S i t) j := by simp [star, hj]
    rw [widen_length] at hj
    rw [e, star_widen _ _ _ _ hi]
    split
    · exact h.weight hi
    · exact h.weight hj
theorem win_widen {i : Nat} (hi : i < S.length) {t : Int} (h1 : (star S i).2.1 ≤ t) (I : List Nat) (a b : Int) : win (widen S i t) I a b ≤ win S I a b := by
  refine countP_le_of _ _ _ fun j _ hj => ?_
  rw [star_widen _ _ _ _ hi] at hj
  split at hj
  · rename_i e; subst e; simp only [decide_eq_true_eq] at *; omega
  · exact hj
theorem weigh_widen {i : Nat} (hi : i < S.length) (t : Int) (I : List Nat) : weigh (widen S i t) I = weigh S I := by
  unfold weigh
  congr 1
  refine List.map_congr_left fun j _ => ?_
  rw [star_widen _ _ _ _ hi]
  split
  · rename_i e; subst e; rfl
  · rfl
theorem heavy_widen (h : Valid p L S) {i : Nat} (hi : i < S.length) {t : Int} (h1 : (star S i).2.1 ≤ t) (h2 : t < L) : heavy S p L ≤ heavy (widen S i t) p L := by
  obtain ⟨I, hI, e⟩ := heavy_ex h
  rw [← e, ← weigh_widen hi t]
  refine heavy_le (widen_valid h hi h1 h2) ⟨ind_iff.2 fun a b h0 h3 h4 => ?_, hI.nd, by rw [widen_length]; exact hI.inn⟩
  have := ind_iff.1 hI.ind a b h0 h3 h4
  have := win_widen hi h1 I a b
  omega
theorem fits_widen {i : Nat} (hi : i < S.length) {t : Int} (h1 : (star S i).2.1 ≤ t) (hf : Fits S p L) : Fits (widen S i t) p L := by
  intro a b h0 h3 h4
  have := hf a b h0 h3 h4
  rw [cnt_range] at this ⊢
  rw [widen_length]
  have h5 := win_widen hi h1 (List.range S.length) a b
  unfold win at h5; omega
/-! ### without a star -/
def sh (i j : Nat) : Nat := if j < i then j else j + 1
theorem sh_ne (i j : Nat) : sh i j ≠ i := by unfold sh; split <;> omega
theorem sh_inj {i a b : Nat} (h : sh i a = sh i b) : a = b := by unfold sh at h; split at h <;> split at h <;> omega
theorem sh_lt {i j n : Nat} (hi : i < n) (hj : j < n - 1) : sh i j < n := by unfold sh; split <;> omega
theorem star_erase (S : List Star) (i j : Nat) : star (S.eraseIdx i) j = star S (sh i j) := by
  unfold star sh
  rw [List.getD_eq_getElem?_getD, List.getElem?_eraseIdx]
  split <;> rfl
theorem erase_length {i : Nat} (hi : i < S.length) : (S.eraseIdx i).length = S.length - 1 := by simp [List.length_eraseIdx, hi]
theorem erase_valid (h : Valid p L S) (i : Nat) : Valid p L (S.eraseIdx i) :=
  ⟨h.p1, h.p5, h.l1, h.l20, Nat.le_trans (List.Sublist.length_le (List.eraseIdx_sublist ..)) h.len, fun s hs => h.ok s ((List.eraseIdx_sublist ..).subset hs), fun s hs => h.wt s ((List.eraseIdx_sublist ..).subset hs)⟩
theorem sel_erase (i : Nat) (I : List Nat) : sel (S.eraseIdx i) I = sel S (I.map (sh i)) := by
  unfold sel; rw [List.map_map]; exact List.map_congr_left fun j _ => star_erase S i j
theorem weigh_erase (i : Nat) (I : List Nat) : weigh (S.eraseIdx i) I = weigh S (I.map (sh i)) := by
  unfold weigh; rw [List.map_map]; congr 1; exact List.map_congr_left fun j _ => by rw [star_erase]; rfl
theorem set_erase {i : Nat} (hi : i < S.length) {I : List Nat} (h : Set_ (S.eraseIdx i) p L I) : Set_ S p L (I.map (sh i)) := by
  refine ⟨?_, ?_, fun j hj => ?_⟩
  · have := h.ind; unfold Ind at *; rw [sel_erase] at this; exact this
  · exact List.Pairwise.map _ (fun a b hab e => hab (sh_inj e)) h.nd
  · rw [List.mem_map] at hj
    obtain ⟨k, hk, rfl⟩ := hj
    have := h.inn k hk
    rw [erase_length hi] at this
    exact sh_lt hi this
def un (i j : Nat) : Nat := if j < i then j else j - 1
theorem sh_un {i j : Nat} (h : j ≠ i) : sh i (un i j) = j := by
  unfold sh un
  by_cases h1 : j < i
  · rw [if_pos h1, if_pos h1]
  · rw [if_neg h1, if_neg (by omega)]; omega
theorem heavy_less (h : Valid p L S) {i : Nat} (hi : i < S.length) : heavy (S.eraseIdx i) p L ≤ heavy S p L ∧ heavy S p L - (star S i).2.2 ≤ heavy (S.eraseIdx i) p L := by
  constructor
  · obtain ⟨I, hI, e⟩ := heavy_ex (erase_valid h i)
    rw [← e, weigh_erase]; exact heavy_le h (set_erase hi hI)
  · obtain ⟨I, hI, e⟩ := heavy_ex h
    have hm : ((I.filter fun j => decide (j ≠ i)).map (un i)).map (sh i) = I.filter fun j => decide (j ≠ i) := by
      rw [List.map_map]
      conv => rhs; rw [← List.map_id (I.filter _)]
      refine List.map_congr_left fun j hj => ?_
      simp only [List.mem_filter, decide_eq_true_eq] at hj
      exact sh_un hj.2
    have hnd : (I.filter fun j => decide (j ≠ i)).Nodup := hI.nd.filter _
    have hS : Set_ (S.eraseIdx i) p L ((I.filter fun j => decide (j ≠ i)).map (un i)) := by
      refine ⟨?_, ?_, fun j hj => ?_⟩
      · unfold Ind; rw [sel_erase, hm]; exact hI.ind.sub List.filter_sublist
      · refine List.Pairwise.map _ (fun a b (hab : a ≠ b ∧ a ≠ i ∧ b ≠ i) e => hab.1 ?_) (List.Pairwise.imp_of_mem (fun {a b} ha hb hab => ?_) hnd)
        · rw [← sh_un hab.2.1, ← sh_un hab.2.2, e]
        · simp only [List.mem_filter, decide_eq_true_eq] at ha hb; exact ⟨hab, ha.2, hb.2⟩
      · rw [List.mem_map] at hj
        obtain ⟨k, hk, rfl⟩ := hj
        simp only [List.mem_filter, decide_eq_true_eq] at hk
        have := hI.inn k hk.1
        rw [erase_length hi]; unfold un; split <;> omega
    have h1 := heavy_le (erase_valid h i) hS
    rw [weigh_erase, hm] at h1
    have h2 : weigh S I ≤ weigh S (I.filter fun j => decide (j ≠ i)) + (star S i).2.2 := by
      by_cases hm : i ∈ I
      · have hp : I.Perm (i :: I.filter fun j => decide (j ≠ i)) := by
          rw [List.perm_ext_iff_of_nodup hI.nd (List.nodup_cons.2 ⟨by simp, hnd⟩)]
          intro j
          simp only [List.mem_cons, List.mem_filter, decide_eq_true_eq]
          constructor
          · intro hj
            by_cases e : j = i
            · exact .inl e
            · exact .inr ⟨hj, e⟩
          · rintro (rfl | h)
            · exact hm
            · exact h.1
        rw [weigh_perm hp, weigh_cons]; omega
      · have : (I.filter fun j => decide (j ≠ i)) = I := by
          rw [List.filter_eq_self]; intro j hj; simp only [decide_eq_true_eq]; intro e; exact hm (e ▸ hj)
        rw [this]; have := (h.weight hi).1; omega
    omega
theorem fits_erase (i : Nat) (hf : Fits S p L) : Fits (S.eraseIdx i) p L := by
  intro a b h0 h1 h2
  have := hf a b h0 h1 h2
  have h3 : cnt (S.eraseIdx i) a b ≤ cnt S a b := List.Sublist.countP_le (List.eraseIdx_sublist ..)
  omega
/-! ### wear counted from the other end -/
def turn (L : Int) (S : List Star) : List Star := S.map fun s => (L - 1 - s.2.1, L - 1 - s.1, s.2.2)
theorem turn_length (L : Int) (S : List Star) : (turn L S).length = S.length := by simp [turn]
theorem star_turn {i : Nat} (hi : i < S.length) : star (turn L S) i = (L - 1 - (star S i).2.1, L - 1 - (star S i).1, (star S i).2.2) := by
  simp [star, turn, hi]
theorem turn_valid (h : Valid p L S) : Valid p L (turn L S) := by
  refine ⟨h.p1, h.p5, h.l1, h.l20, by rw [turn_length]; exact h.len, fun s hs => ?_, fun s hs => ?_⟩
  all_goals
    unfold turn at hs
    rw [List.mem_map] at hs
    obtain ⟨s, hs, rfl⟩ := hs
  · have := h.ok s hs; exact ⟨by show 0 ≤ L - 1 - s.2.1; omega, by show L - 1 - s.2.1 ≤ L - 1 - s.1; omega, by show L - 1 - s.1 < L; omega⟩
  · exact h.wt s hs
theorem cnt_turn (a b : Int) : cnt (turn L S) a b = cnt S (L - 1 - b) (L - 1 - a) := by
  unfold cnt turn
  rw [List.countP_map]
  refine countP_eq_of _ _ _ fun s _ => ?_
  simp only [Function.comp, decide_eq_decide]
  constructor <;> intro h <;> omega
theorem fits_turn : Fits (turn L S) p L ↔ Fits S p L := by
  constructor
  · intro h a b h0 h1 h2
    have := h (L - 1 - b) (L - 1 - a) (by omega) (by omega) (by omega)
    rw [cnt_turn, show L - 1 - (L - 1 - a) = a by omega, show L - 1 - (L - 1 - b) = b by omega, show L - 1 - a - (L - 1 - b) + 1 = b - a + 1 by omega] at this
    exact this
  · intro h a b h0 h1 h2
    have := h (L - 1 - b) (L - 1 - a) (by omega) (by omega) (by omega)
    rw [cnt_turn, show b - a + 1 = L - 1 - a - (L - 1 - b) + 1 by omega]; exact this
theorem fitsB_turn : fitsB (turn L S) p L = fitsB S p L := by rw [Bool.eq_iff_iff, fitsB_iff, fitsB_iff, fits_turn]
theorem sel_turn {I : List Nat} (hI : ∀ i ∈ I, i < S.length) : sel (turn L S) I = turn L (sel S I) := by
  unfold sel turn
  rw [List.map_map]
  refine List.map_congr_left fun i hi => ?_
  have := star_turn (L := L) (hI i hi)
  unfold turn at this; rw [this]; rfl
theorem take1_turn {wo : Int} {out : List Nat} {i : Nat} (ho : ∀ j ∈ out, j < S.length) (hi : i < S.length) : take1 (turn L S) p L wo out i = take1 S p L wo out i := by
  unfold take1
  rw [sel_turn (fun j hj => by
    rcases List.mem_append.1 hj with hj | hj
    · exact ho j hj
    · simp at hj; subst hj; exact hi), fitsB_turn]
theorem choose_turn {wo : Int} : ∀ (o g : List Nat), (∀ j ∈ g, j < S.length) → (∀ j ∈ o, j < S.length) → choose (turn L S) p L g wo o = choose S p L g wo o
  | [], g, _, _ => rfl
  | i :: o, g, hg, ho => by
    unfold choose
    rw [List.foldl_cons, List.foldl_cons, take1_turn hg (ho i (by simp))]
    refine choose_turn o _ (fun j hj => ?_) (fun j hj => ho j (by simp [hj]))
    rcases take1_or S p L wo g i with e | ⟨e, -⟩
    · rw [e] at hj; exact hg j hj
    · rw [e] at hj
      rcases List.mem_append.1 hj with hj | hj
      · exact hg j hj
      · simp at hj; subst hj; exact ho j (by simp)
theorem orderW_turn (h : Valid p L S) : orderW (turn L S) = orderW S := by
  rw [orderW_eq h.wt, orderW_eq (turn_valid h).wt]
  have : ∀ k, refOrder (turn L S) k = refOrder S k := by
    intro k
    induction k with
    | zero => rfl
    | succ k ih =>
      rw [refOrder, refOrder, ih]
      congr 1
      unfold ofW
      rw [turn_length]
      refine List.filter_congr fun i hi => ?_
      rw [star_turn (by simpa using hi)]
  exact this 100
theorem chosen_turn (h : Valid p L S) {g : List Nat} (hg : ∀ j ∈ g, j < S.length) (wo : Int) : chosen (turn L S) p L g wo = chosen S p L g wo := by
  unfold chosen
  rw [orderW_turn h, choose_turn _ _ hg (fun j hj => mem_orderW.1 hj)]
theorem weigh_turn {I : List Nat} (hI : ∀ i ∈ I, i < S.length) : weigh (turn L S) I = weigh S I := by
  unfold weigh
  congr 1
  refine List.map_congr_left fun i hi => ?_
  rw [star_turn (hI i hi)]
theorem heavy_turn (h : Valid p L S) : heavy (turn L S) p L = heavy S p L := by
  unfold heavy
  rw [chosen_turn h (by simp), weigh_turn (chosen_set (set_nil h) (-1)).inn]
theorem kind_turn (h : Valid p L S) {i : Nat} (hi : i < S.length) : kind (turn L S) p L i = kind S p L i := by
  unfold kind
  rw [heavy_turn h, chosen_turn h (by simp), chosen_turn h (by simpa using hi), weigh_turn (chosen_set (set_nil h) i).inn, weigh_turn (chosen_set (set_one h hi) (-1)).inn]
theorem canAt_turn {i : Nat} (hi : i < S.length) (w : Int) : canAt (turn L S) p L i w = canAt S p L i (L - 1 - w) := by
  unfold canAt
  have e : atW (turn L S) i w = turn L (atW S i (L - 1 - w)) := by
    apply List.ext_getElem
    · simp [atW_length, turn_length]
    · intro j h1 h2
      have h1' : j < S.length := by simpa [atW_length, turn_length] using h1
      have a1 : (atW (turn L S) i w)[j] = star (atW (turn L S) i w) j := by simp [star, h1]
      have a2 : (turn L (atW S i (L - 1 - w)))[j] = star (turn L (atW S i (L - 1 - w))) j := by simp [star, h2]
      rw [a1, a2, star_atW (turn L S) _ _ _ (by rw [turn_length]; exact hi), star_turn (S := atW S i (L - 1 - w)) (by rw [atW_length]; exact h1'), star_atW _ _ _ _ hi]
      by_cases e : j = i
      · subst e
        rw [if_pos rfl, if_pos rfl, star_turn hi]
        show (w, w, (star S j).2.2) = (L - 1 - (L - 1 - w), L - 1 - (L - 1 - w), (star S j).2.2)
        rw [show L - 1 - (L - 1 - w) = w by omega]
      · rw [if_neg e, if_neg e, star_turn h1']
  rw [e, fitsB_turn]
theorem times_turn {i : Nat} (hi : i < S.length) : times (turn L S) p L i = ((times S p L i).map fun w => L - 1 - w).reverse := by
  have hl : ∀ l : List Int, l.Pairwise (· < ·) → ((l.map fun w => L - 1 - w).reverse).Pairwise (· < ·) := by
    intro l h
    rw [List.pairwise_reverse]
    exact List.Pairwise.map _ (fun a b hab => by show L - 1 - b < L - 1 - a; omega) h
  have p1 : (times (turn L S) p L i).Pairwise (· < ·) := timesTo_lt
  have p2 := hl (times S p L i) timesTo_lt
  refine List.Perm.eq_of_pairwise (le := (· < ·)) (fun a b _ _ h1 h2 => by omega) p1 p2 ?_
  have nd : ∀ l : List Int, l.Pairwise (· < ·) → l.Nodup := fun l h => List.Pairwise.imp (fun {a b} hab e => by omega) h
  rw [List.perm_ext_iff_of_nodup (nd _ p1) (nd _ p2)]
  intro v
  simp only [times_mem, List.mem_reverse, List.mem_map]
  rw [canAt_turn hi, star_turn hi]
  constructor
  · rintro ⟨h1, h2, h3⟩
    simp only at h1 h2
    exact ⟨L - 1 - v, ⟨by omega, by omega, h3⟩, by omega⟩
  · rintro ⟨w, ⟨h1, h2, h3⟩, rfl⟩
    simp only
    exact ⟨by omega, by omega, by rw [show L - 1 - (L - 1 - w) = w by omega]; exact h3⟩
theorem fewest_turn : fewest (turn L S) L = fewest S L := by
  have h : ∀ m k, fewFrom (turn L S) L k m = fewFrom S L k m := by
    intro m
    induction m with
    | zero => intro k; rfl
    | succ m ih => intro k; unfold fewFrom; rw [fitsB_turn, ih]
  unfold fewest; rw [turn_length]; exact h _ _
end
end P
end Go.Proofs.Ytpkffjcmoghaaaa
/- Plain Lean: what the functions of the chapter answer; two jobs behind one another. -/
namespace Go.Proofs.Ytpkffjcmoghaaaa
namespace P
def okB (L : Int) (s : Star) : Bool := decide (0 ≤ s.1 ∧ s.1 ≤ s.2.1 ∧ s.2.1 < L ∧ 1 ≤ s.2.2 ∧ s.2.2 ≤ 100)
def checkJob (p L : Int) (S : List Star) : Int := if p < 1 ∨ 5 < p ∨ L < 1 ∨ 20 < L then 3 else if 16 < S.length then 6 else if S.all (okB L) then 0 else 3
theorem checkJob_iff {p L : Int} {S : List Star} : checkJob p L S = 0 ↔ Valid p L S := by
  unfold checkJob
  constructor
  · intro h
    split at h
    · omega
    · split at h
      · omega
      · split at h
        · rename_i h1 h2 h3
          rw [List.all_eq_true] at h3
          refine ⟨by omega, by omega, by omega, by omega, by omega, fun s hs => ?_, fun s hs => ?_⟩
          all_goals
            have := h3 s hs
            simp only [okB, decide_eq_true_eq] at this
            omega
        · omega
  · intro h
    obtain ⟨h1, h2, h3, h4, h5, h6, h7⟩ := h
    rw [if_neg (by omega), if_neg (by omega), if_pos]
    rw [List.all_eq_true]
    intro s hs
    have := h6 s hs; have := h7 s hs
    simp only [okB, decide_eq_true_eq]; omega
def cntEq (l : List Int) (w : Int) : Nat := l.countP fun v => decide (v = w)
def inB (S : List Star) (l : List Int) : Bool := (List.range S.length).all fun i => decide ((star S i).1 ≤ wear l i ∧ wear l i ≤ (star S i).2.1)
def fewB (p L : Int) (l : List Int) : Bool := (List.range L.toNat).all fun w => decide ((cntEq l w : Int) ≤ p)
def checkPlan (p L : Int) (S : List Star) (l : List Int) : Int :=
  if checkJob p L S ≠ 0 then checkJob p L S else if l.length ≠ S.length then 15 else if inB S l = false then 20 else if fewB p L l = false then 10 else 0
def planE (p L : Int) (S : List Star) : List Int × Int := if checkJob p L S ≠ 0 then ([], checkJob p L S) else if fitsB S p L then (plan S p L, 0) else ([], 13)
def windowE (p L : Int) (S : List Star) (a b : Int) : Int × Int := if checkJob p L S ≠ 0 then (0, checkJob p L S) else if ¬ (0 ≤ a ∧ a ≤ b ∧ b < L) then (0, 2) else if (cnt S a b : Int) ≤ p * (b - a + 1) then (0, 14) else (cnt S a b, 0)
def fewestE (p L : Int) (S : List Star) : Int × Int := if checkJob p L S ≠ 0 then (0, checkJob p L S) else (fewest S L, 0)
def starred (p L : Int) (S : List Star) (i : Int) : Int := if checkJob p L S ≠ 0 then checkJob p L S else if i < 0 ∨ S.length ≤ i then 2 else 0
def timesE (p L : Int) (S : List Star) (i : Int) : List Int × Int := if starred p L S i ≠ 0 then ([], starred p L S i) else if fitsB S p L then (times S p L i.toNat, 0) else ([], 13)
def isList (l : List Int) (below : Int) : Bool := (List.range l.length).all fun i => decide (0 ≤ wear l i ∧ wear l i < below ∧ (0 < i → wear l (i - 1) < wear l i))
def idx (l : List Int) : List Nat := l.map Int.toNat
def struckE (p L : Int) (S : List Star) (l : List Int) : Int × Int := if checkJob p L S ≠ 0 then (0, checkJob p L S) else if isList l S.length = false then (0, 3) else if fitsB (sel S (idx l)) p L then (weigh S (idx l), 0) else (0, 13)
def sorted (S : List Star) (I : List Nat) : List Nat := (List.range S.length).filter fun i => decide (i ∈ I)
def chosenE (p L : Int) (S : List Star) : List Int × Int := if checkJob p L S ≠ 0 then ([], checkJob p L S) else ((sorted S (chosen S p L [] (-1))).map Int.ofNat, 0)
def heavyE (p L : Int) (S : List Star) : Int × Int := if checkJob p L S ≠ 0 then (0, checkJob p L S) else (heavy S p L, 0)
def kindE (p L : Int) (S : List Star) (i : Int) : Int × Int := if starred p L S i ≠ 0 then (0, starred p L S i) else (kind S p L i.toNat, 0)
theorem sorted_perm {S : List Star} {I : List Nat} (hn : I.Nodup) (hi : ∀ i ∈ I, i < S.length) : (sorted S I).Perm I := by
  unfold sorted
  rw [List.perm_ext_iff_of_nodup (List.nodup_range.filter _) hn]
  intro i
  simp only [ List.mem_filter, List.mem_range, decide_eq_true_eq]
  exact ⟨And.right, fun h => ⟨hi i h, h⟩⟩
theorem sorted_lt (S : List Star) (I : List Nat) : (sorted S I).Pairwise (· < ·) := List.Pairwise.filter _ List.pairwise_lt_range
theorem cntEq_range (l : List Int) (w : Int) : cntEq l w = (List.range l.length).countP fun i => decide (wear l i = w) := by
  have h : l = (List.range l.length).map (wear l) := by
    apply List.ext_getElem
    · simp
    · intro i h1 h2; simp [wear, h1]
  conv => lhs; rw [h]
  unfold cntEq
  rw [List.countP_map]
  rfl
theorem checkPlan_iff {p L : Int} {S : List Star} {l : List Int} : checkPlan p L S l = 0 ↔ Valid p L S ∧ l.length = S.length ∧ Plan S p (wear l) := by
  unfold checkPlan
  constructor
  · intro h
    split at h
    · rename_i h1; exact absurd h h1
    · rename_i h1
      have hv := checkJob_iff.1 (Classical.not_not.1 h1)
      split at h
      · omega
      · rename_i h2
        split at h
        · omega
        · rename_i h3
          split at h
          · omega
          · rename_i h4
            have hl : l.length = S.length := Classical.not_not.1 h2
            have h3 : inB S l = true := by simpa using h3
            have h4 : fewB p L l = true := by simpa using h4
            unfold inB at h3; unfold fewB at h4
            rw [List.all_eq_true] at h3 h4
            have hin : ∀ i, i < S.length → (star S i).1 ≤ wear l i ∧ wear l i ≤ (star S i).2.1 := fun i hi => by simpa using h3 i (by simpa using hi)
            refine ⟨hv, hl, hin, fun w => ?_⟩
            by_cases hw : 0 ≤ w ∧ w < L
            · have := h4 w.toNat (by simp; omega)
              rw [decide_eq_true_eq, cntEq_range, show ((w.toNat : Nat) : Int) = w by omega, hl] at this
              exact this
            · have : (List.range S.length).countP (fun i => decide (wear l i = w)) = 0 := by
                rw [List.countP_eq_zero]; intro i hi
                have h5 := hin i (by simpa using hi)
                have h6 := hv.star (show i < S.length by simpa using hi)
                simp only [decide_eq_true_eq]; omega
              have := hv.p1
              omega
  · rintro ⟨hv, hl, hP⟩
    rw [if_neg (Classical.not_not.2 (checkJob_iff.2 hv)), if_neg (Classical.not_not.2 hl), if_neg, if_neg]
    · have : fewB p L l = true := by
        unfold fewB; rw [List.all_eq_true]; intro w _
        rw [decide_eq_true_eq, cntEq_range, hl]; exact hP.few w
      rw [this]; simp
    · have : inB S l = true := by
        unfold inB; rw [List.all_eq_true]; intro i hi
        rw [decide_eq_true_eq]; exact hP.inn i (by simpa using hi)
      rw [this]; simp
/-! ### two jobs behind one another -/
def later (L : Int) (T : List Star) : List Star := T.map fun s => (s.1 + L, s.2.1 + L, s.2.2)
def both (L : Int) (S T : List Star) : List Star := S ++ later L T
section
variable {S T : List Star} {p L M : Int}
theorem both_length : (both L S T).length = S.length + T.length := by simp [both, later]
theorem star_both1 {i : Nat} (hi : i < S.length) : star (both L S T) i = star S i := by
  unfold star both; rw [List.getD_eq_getElem?_getD, List.getElem?_append_left hi]; rfl
theorem star_both2 {i : Nat} (hi : i < T.length) : star (both L S T) (S.length + i) = ((star T i).1 + L, (star T i).2.1 + L, (star T i).2.2) := by
  unfold star both later; rw [List.getD_eq_getElem?_getD, List.getElem?_append_right (by omega)]; simp [hi]
theorem both_valid (hS : Valid p L S) (hT : Valid p M T) (hL : L + M ≤ 20) (hn : S.length + T.length ≤ 16) : Valid p (L + M) (both L S T) := by
  have h1 := hS.l1; have h2 := hT.l1
  refine ⟨hS.p1, hS.p5, by omega, hL, by rw [both_length]; exact hn, ok_of fun i hi => ?_, fun s hs => ?_⟩
  · rw [both_length] at hi
    by_cases h : i < S.length
    · rw [star_both1 h]; have := hS.star h; omega
    · obtain ⟨j, rfl⟩ : ∃ j, i = S.length + j := ⟨i - S.length, by omega⟩
      rw [star_both2 (by omega)]; have := hT.star (show j < T.length by omega)
      exact ⟨by show 0 ≤ (star T j).1 + L; omega, by show (star T j).1 + L ≤ (star T j).2.1 + L; omega, by show (star T j).2.1 + L < L + M; omega⟩
  · unfold both later at hs
    rcases List.mem_append.1 hs with hs | hs
    · exact hS.wt s hs
    · rw [List.mem_map] at hs; obtain ⟨u, hu, rfl⟩ := hs; exact hT.wt u hu
/-- A set of stars of both, and of each. -/
def fst_ (n : Nat) (I : List Nat) : List Nat := I.filter fun i => decide (i < n)
def snd_ (n : Nat) (I : List Nat) : List Nat := (I.filter fun i => decide (n ≤ i)).map fun i => i - n
theorem win_both {I : List Nat} (hI : ∀ i ∈ I, i < S.length + T.length) (a b : Int) : win (both L S T) I a b = win S (fst_ S.length I) a b + win T (snd_ S.length I) (a - L) (b - L) := by
  unfold win fst_ snd_
  induction I with
  | nil => rfl
  | cons i I ih =>
    have h1 := ih (fun j hj => hI j (by simp [hj]))
    have h2 := hI i (by simp)
    rw [List.countP_cons, h1]
    by_cases h : i < S.length
    · rw [List.filter_cons_of_pos (by simpa using h), List.filter_cons_of_neg (by simpa using h), List.countP_cons, star_both1 h]; omega
    · rw [List.filter_cons_of_neg (by simpa using h), List.filter_cons_of_pos (by simpa using h), List.map_cons, List.countP_cons]
      obtain ⟨j, rfl⟩ : ∃ j, i = S.length + j := ⟨i - S.length, by omega⟩
      rw [star_both2 (by omega), show S.length + j - S.length = j by omega]
      have e : decide (a ≤ (star T j).1 + L ∧ (star T j).2.1 + L ≤ b) = decide (a - L ≤ (star T j).1 ∧ (star T j).2.1 ≤ b - L) := by
        rw [decide_eq_decide]; constructor <;> intro h <;> omega
      rw [e]; omega
theorem ind_both (hS : Valid p L S) (hT : Valid p M T) {I : List Nat} (hI : ∀ i ∈ I, i < S.length + T.length) : Ind (both L S T) p (L + M) I ↔ Ind S p L (fst_ S.length I) ∧ Ind T p M (snd_ S.length I) := by
  have hI1 : ∀ i ∈ fst_ S.length I, i < S.length := fun i hi => by simp [fst_] at hi; exact hi.2
  have hI2 : ∀ i ∈ snd_ S.length I, i < T.length := fun i hi => by
    simp only [snd_, List.mem_map, List.mem_filter, decide_eq_true_eq] at hi
    obtain ⟨j, ⟨hj, hj2⟩, rfl⟩ := hi
    have := hI j hj; omega
  have z1 : ∀ a b, L ≤ a → win S (fst_ S.length I) a b = 0 := fun a b h => by
    unfold win; rw [List.countP_eq_zero]; intro i hi; have := hS.star (hI1 i hi); simp only [decide_eq_true_eq]; omega
  have z2 : ∀ a b, b < 0 → win T (snd_ S.length I) a b = 0 := fun a b h => by
    unfold win; rw [List.countP_eq_zero]; intro i hi; have := hT.star (hI2 i hi); simp only [decide_eq_true_eq]; omega
  have c1 : ∀ a b, L - 1 ≤ b → win S (fst_ S.length I) a b = win S (fst_ S.length I) a (L - 1) := fun a b h => by
    unfold win; refine countP_eq_of _ _ _ fun i hi => ?_; have := hS.star (hI1 i hi); simp only [decide_eq_decide]; omega
  have c2 : ∀ a b, a ≤ 0 → win T (snd_ S.length I) a b = win T (snd_ S.length I) 0 b := fun a b h => by
    unfold win; refine countP_eq_of _ _ _ fun i hi => ?_; have := hT.star (hI2 i hi); simp only [decide_eq_decide]; omega
  have hl1 := hS.l1; have hl2 := hT.l1
  simp only [ind_iff]
  constructor
  · intro h
    refine ⟨fun a b h0 h1 h2 => ?_, fun a b h0 h1 h2 => ?_⟩
    · have := h a b h0 h1 (by omega)
      rw [win_both hI, z2 _ _ (by omega)] at this; simpa using this
    · have := h (a + L) (b + L) (by omega) (by omega) (by omega)
      rw [win_both hI, z1 _ _ (by omega), show a + L - L = a by omega, show b + L - L = b by omega, show b + L - (a + L) + 1 = b - a + 1 by omega] at this
      simpa using this
  · rintro ⟨h, k⟩ a b h0 h1 h2
    rw [win_both hI]
    by_cases hb : b < L
    · rw [z2 _ _ (by omega)]; have := h a b h0 h1 hb; omega
    · by_cases ha : L ≤ a
      · rw [z1 _ _ ha]
        have := k (a - L) (b - L) (by omega) (by omega) (by omega)
        rw [show b - L - (a - L) + 1 = b - a + 1 by omega] at this; omega
      · rw [c1 _ _ (by omega), c2 _ _ (by omega)]
        have h3 := h a (L - 1) h0 (by omega) (by omega)
        have h4 := k 0 (b - L) (by omega) (by omega) (by omega)
        have e : p * (b - a + 1) = p * (L - 1 - a + 1) + p * (b - L - 0 + 1) := by rw [← Int.mul_add]; congr 1; omega
        omega
theorem weigh_both {I : List Nat} (hI : ∀ i ∈ I, i < S.length + T.length) : weigh (both L S T) I = weigh S (fst_ S.length I) + weigh T (snd_ S.length I) := by
  induction I with
  | nil => rfl
  | cons i I ih =>
    have h1 := ih (fun j hj => hI j (by simp [hj]))
    have h2 := hI i (by simp)
    rw [weigh_cons, h1]
    unfold fst_ snd_
    by_cases h : i < S.length
    · rw [List.filter_cons_of_pos (by simpa using h), List.filter_cons_of_neg (by simpa using h), weigh_cons, star_both1 h]; omega
    · rw [List.filter_cons_of_neg (by simpa using h), List.filter_cons_of_pos (by simpa using h), List.map_cons, weigh_cons]
      obtain ⟨j, rfl⟩ : ∃ j, i = S.length + j := ⟨i - S.length, by omega⟩
      rw [star_both2 (by omega), show S.length + j - S.length = j by omega]; show (star T j).2.2 + _ = _; omega
theorem set_both (hS : Valid p L S) (hT : Valid p M T) {I : List Nat} (h : Set_ (both L S T) p (L + M) I) : Set_ S p L (fst_ S.length I) ∧ Set_ T p M (snd_ S.length I) := by
  have hI : ∀ i ∈ I, i < S.length + T.length := fun i hi => by have := h.inn i hi; rwa [both_length] at this
  have hh := (ind_both hS hT hI).1 h.ind
  refine ⟨⟨hh.1, h.nd.filter _, fun i hi => by simp [fst_] at hi; exact hi.2⟩, ⟨hh.2, ?_, fun i hi => ?_⟩⟩
  · have h1 : (I.filter fun i => decide (S.length ≤ i)).Pairwise fun a b => a ≠ b ∧ S.length ≤ a ∧ S.length ≤ b :=
      List.Pairwise.imp_of_mem (fun {a b} ha hb hab => by simp only [List.mem_filter, decide_eq_true_eq] at ha hb; exact ⟨hab, ha.2, hb.2⟩) (h.nd.filter _)
    exact List.Pairwise.map _ (fun a b hab e => hab.1 (by omega)) h1
  · simp only [snd_, List.mem_map, List.mem_filter, decide_eq_true_eq] at hi
    obtain ⟨j, ⟨hj, hj2⟩, rfl⟩ := hi
    have := hI j hj; omega
theorem join_fst {I J : List Nat} (hI : ∀ i ∈ I, i < S.length) : fst_ S.length (I ++ J.map fun i => S.length + i) = I ∧ snd_ S.length (I ++ J.map fun i => S.length + i) = J := by
  unfold fst_ snd_
  rw [List.filter_append, List.filter_append]
  have e1 : I.filter (fun i => decide (i < S.length)) = I := List.filter_eq_self.2 fun i hi => by simpa using hI i hi
  have e2 : (J.map fun i => S.length + i).filter (fun i => decide (i < S.length)) = [] := List.filter_eq_nil_iff.2 fun i hi => by simp at hi; obtain ⟨j, -, rfl⟩ := hi; simp
  have e3 : I.filter (fun i => decide (S.length ≤ i)) = [] := List.filter_eq_nil_iff.2 fun i hi => by have := hI i hi; simp; omega
  have e4 : (J.map fun i => S.length + i).filter (fun i => decide (S.length ≤ i)) = J.map fun i => S.length + i := List.filter_eq_self.2 fun i hi => by simp at hi; obtain ⟨j, -, rfl⟩ := hi; simp
  rw [e1, e2, e3, e4, List.append_nil, List.nil_append, List.map_map]
  refine ⟨rfl, ?_⟩
  conv => rhs; rw [← List.map_id J]
  exact List.map_congr_left fun i _ => by simp
theorem heavy_both (hS : Valid p L S) (hT : Valid p M T) (hL : L + M ≤ 20) (hn : S.length + T.length ≤ 16) : heavy (both L S T) p (L + M) = heavy S p L + heavy T p M := by
  have hB := both_valid hS hT hL hn
  apply Int.le_antisymm
  · obtain ⟨I, hI, e⟩ := heavy_ex hB
    have hi : ∀ i ∈ I, i < S.length + T.length := fun i hi => by have := hI.inn i hi; rwa [both_length] at this
    obtain ⟨h1, h2⟩ := set_both hS hT hI
    rw [← e, weigh_both hi]
    have := heavy_le hS h1; have := heavy_le hT h2; omega
  · obtain ⟨I, hI, e⟩ := heavy_ex hS
    obtain ⟨J, hJ, e2⟩ := heavy_ex hT
    obtain ⟨j1, j2⟩ := join_fst (S := S) (J := J) hI.inn
    have hi : ∀ i ∈ I ++ J.map fun i => S.length + i, i < S.length + T.length := fun i hi => by
      rcases List.mem_append.1 hi with hi | hi
      · have := hI.inn i hi; omega
      · simp at hi; obtain ⟨j, hj, rfl⟩ := hi; have := hJ.inn j hj; omega
    have hSet : Set_ (both L S T) p (L + M) (I ++ J.map fun i => S.length + i) := by
      refine ⟨(ind_both hS hT hi).2 (by rw [j1, j2]; exact ⟨hI.ind, hJ.ind⟩), ?_, fun i h => by rw [both_length]; exact hi i h⟩
      rw [List.nodup_append]
      refine ⟨hI.nd, List.Pairwise.map _ (fun a b hab e => hab (by omega)) hJ.nd, fun a ha b hb e => ?_⟩
      simp at hb; obtain ⟨j, -, rfl⟩ := hb
      have := hI.inn a ha; omega
    have := heavy_le hB hSet
    rw [weigh_both hi, j1, j2] at this
    omega
theorem fits_both (hS : Valid p L S) (hT : Valid p M T) : Fits (both L S T) p (L + M) ↔ Fits S p L ∧ Fits T p M := by
  have h := ind_both hS hT (I := List.range (S.length + T.length)) (by simp)
  have r : ∀ (U : List Star) (q N : Int), Ind U q N (List.range U.length) ↔ Fits U q N := fun U q N => by
    rw [ind_iff]; unfold Fits; simp only [cnt_range]; rfl
  have e1 : fst_ S.length (List.range (S.length + T.length)) = List.range S.length := by
    have := (join_fst (S := S) (I := List.range S.length) (J := List.range T.length) (by simp)).1
    rw [← this, List.range_add]
  have e2 : snd_ S.length (List.range (S.length + T.length)) = List.range T.length := by
    have := (join_fst (S := S) (I := List.range S.length) (J := List.range T.length) (by simp)).2
    rw [← List.range_add] at this; exact this
  rw [e1, e2, r, r, ← both_length (L := L), r] at h
  exact h
end
end P
end Go.Proofs.Ytpkffjcmoghaaaa
/- Plain Lean: the first plan of two jobs behind one another. -/
namespace Go.Proofs.Ytpkffjcmoghaaaa
namespace P
section
variable {S T : List Star} {p L M : Nat}
def wearsB (L : Int) (a b : List Int) : List Int := a ++ b.map fun w => w + L
theorem wearsB1 {a b : List Int} {L : Int} {i : Nat} (h : i < a.length) : wear (wearsB L a b) i = wear a i := by
  unfold wear wearsB; rw [List.getD_eq_getElem?_getD, List.getElem?_append_left h]; rfl
theorem wearsB2 {a b : List Int} {L : Int} {i : Nat} (h : i < b.length) : wear (wearsB L a b) (a.length + i) = wear b i + L := by
  unfold wear wearsB; rw [List.getD_eq_getElem?_getD, List.getElem?_append_right (by omega)]; simp [h]
theorem plan_both_of (hS : Valid p L S) (hT : Valid p M T) {σ τ : Nat → Int} (h : Plan S p σ) (k : Plan T p τ) {ρ : Nat → Int} (h1 : ∀ i, i < S.length → ρ i = σ i) (h2 : ∀ i, i < T.length → ρ (S.length + i) = τ i + L) : Plan (both L S T) p ρ := by
  have hin1 : ∀ i, i < S.length → σ i < L := fun i hi => by have := h.inn i hi; have := hS.star hi; omega
  have hin2 : ∀ i, i < T.length → 0 ≤ τ i := fun i hi => by have := k.inn i hi; have := hT.star hi; omega
  refine ⟨fun i hi => ?_, fun w => ?_⟩
  · rw [both_length] at hi
    by_cases c : i < S.length
    · rw [star_both1 c, h1 i c]; exact h.inn i c
    · obtain ⟨j, rfl⟩ : ∃ j, i = S.length + j := ⟨i - S.length, by omega⟩
      rw [star_both2 (by omega), h2 j (by omega)]
      have := k.inn j (by omega)
      exact ⟨by show (star T j).1 + L ≤ _; omega, by show _ ≤ (star T j).2.1 + L; omega⟩
  · rw [both_length, List.range_add, List.countP_append, List.countP_map]
    by_cases hw : w < L
    · have e1 : (List.range S.length).countP (fun i => decide (ρ i = w)) = (List.range S.length).countP (fun i => decide (σ i = w)) := countP_eq_of _ _ _ fun i hi => by rw [h1 i (by simpa using hi)]
      have e2 : (List.range T.length).countP ((fun i => decide (ρ i = w)) ∘ fun i => S.length + i) = 0 := by
        rw [List.countP_eq_zero]; intro i hi
        have hi : i < T.length := by simpa using hi
        have := hin2 i hi
        simp only [Function.comp, decide_eq_true_eq]; rw [h2 i hi]; omega
      rw [e1, e2]; have := h.few w; omega
    · have e1 : (List.range S.length).countP (fun i => decide (ρ i = w)) = 0 := by
        rw [List.countP_eq_zero]; intro i hi
        have hi : i < S.length := by simpa using hi
        have := hin1 i hi
        simp only [decide_eq_true_eq]; rw [h1 i hi]; omega
      have e2 : (List.range T.length).countP ((fun i => decide (ρ i = w)) ∘ fun i => S.length + i) = (List.range T.length).countP (fun i => decide (τ i = w - L)) := countP_eq_of _ _ _ fun i hi => by
        simp only [Function.comp, decide_eq_decide]; rw [h2 i (by simpa using hi)]; constructor <;> intro h <;> omega
      rw [e1, e2]; have := k.few (w - L); omega
theorem plan_both_parts {ρ : Nat → Int} (h : Plan (both L S T) p ρ) : Plan S p ρ ∧ Plan T p fun i => ρ (S.length + i) - L := by
  have hin1 : ∀ i, i < S.length → (star S i).1 ≤ ρ i ∧ ρ i ≤ (star S i).2.1 := fun i hi => by
    have := h.inn i (by rw [both_length]; omega); rwa [star_both1 hi] at this
  have hin2 : ∀ i, i < T.length → (star T i).1 + L ≤ ρ (S.length + i) ∧ ρ (S.length + i) ≤ (star T i).2.1 + L := fun i hi => by
    have := h.inn (S.length + i) (by rw [both_length]; omega); rwa [star_both2 hi] at this
  have hfew := h.few
  simp only [both_length, List.range_add, List.countP_append, List.countP_map] at hfew
  refine ⟨⟨hin1, fun w => by have := hfew w; omega⟩, ⟨fun i hi => by have := hin2 i hi; omega, fun w => ?_⟩⟩
  have := hfew (w + L)
  have e2 : (List.range T.length).countP ((fun i => decide (ρ i = w + L)) ∘ fun i => S.length + i) = (List.range T.length).countP (fun i => decide (ρ (S.length + i) - L = w)) := countP_eq_of _ _ _ fun i hi => by
    simp only [Function.comp, decide_eq_decide]; constructor <;> intro h <;> omega
  omega
theorem nthw {l : List Int} {i : Nat} (h : i < l.length) : l[i] = wear l i := by simp [wear, h]
theorem plan_both (hS : Valid p L S) (hT : Valid p M T) (hL : L + M ≤ 20) (hn : S.length + T.length ≤ 16) (fS : Fits S p L) (fT : Fits T p M) : plan (both L S T) p (L + M : Nat) = wearsB L (plan S p L) (plan T p M) := by
  have hB := both_valid hS hT (by omega) hn
  have fB := (fits_both hS hT).2 ⟨fS, fT⟩
  have cast : ((L : Int) + (M : Int)) = ((L + M : Nat) : Int) := by omega
  rw [cast] at fB hB
  obtain ⟨l1, p1⟩ := plan_spec hS.ok fS
  obtain ⟨l2, p2⟩ := plan_spec hT.ok fT
  obtain ⟨l3, p3⟩ := plan_spec hB.ok fB
  rw [both_length] at l3
  obtain ⟨q1, q2⟩ := plan_both_parts p3
  have key : ∀ i, i < S.length + T.length → wear (plan (both L S T) p (L + M : Nat)) i = wear (wearsB L (plan S p L) (plan T p M)) i := by
    intro i
    induction i using Nat.strongRecOn with
    | ind i ih =>
      intro hi
      have hC : Plan (both L S T) p (wear (wearsB L (plan S p L) (plan T p M))) := plan_both_of hS hT p1 p2 (fun i hi => wearsB1 (by omega)) (fun i hi => by have := wearsB2 (a := plan S p L) (b := plan T p M) (L := L) (i := i) (by omega); rwa [l1] at this)
      have h1 := plan_least hB.ok fB hC (by rw [both_length]; exact hi) (fun j hj => (ih j hj (by omega)).symm)
      by_cases c : i < S.length
      · have h2 := plan_least hS.ok fS q1 c (fun j hj => by rw [ih j hj (by omega), wearsB1 (by omega)])
        rw [wearsB1 (by omega)] at h1 ⊢
        omega
      · obtain ⟨j, rfl⟩ : ∃ j, i = S.length + j := ⟨i - S.length, by omega⟩
        have e : ∀ j, j < T.length → wear (wearsB L (plan S p L) (plan T p M)) (S.length + j) = wear (plan T p M) j + L := fun j hj => by
          have := wearsB2 (a := plan S p L) (b := plan T p M) (L := L) (i := j) (by omega); rwa [l1] at this
        have h2 := plan_least hT.ok fT q2 (show j < T.length by omega) (fun k hk => by
          show wear (plan (both L S T) p (L + M : Nat)) (S.length + k) - L = _
          rw [ih (S.length + k) (by omega) (by omega), e k (by omega)]; omega)
        rw [e j (by omega)] at h1 ⊢
        show _ = _
        have h2 : wear (plan T p M) j ≤ wear (plan (both L S T) p (L + M : Nat)) (S.length + j) - L := h2
        omega
  have hlen : (wearsB (L : Int) (plan S p L) (plan T p M)).length = S.length + T.length := by simp [wearsB, l1, l2]
  apply List.ext_getElem
  · rw [l3, hlen]
  · intro i h1 h2
    have := key i (by omega)
    rw [nthw h1, nthw h2]; exact this
end
end P
end Go.Proofs.Ytpkffjcmoghaaaa
