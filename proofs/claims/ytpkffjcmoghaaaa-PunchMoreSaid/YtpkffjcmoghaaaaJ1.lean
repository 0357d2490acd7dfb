/- One text of PA, PB, PC, PD. -/
/- Plain Lean: jobs, windows, plans; the stars that can be struck. No program in sight. -/
namespace Go.Proofs.Ytpkffjcmoghaaaa
namespace P
/-- A star: from, to, weight. -/
abbrev Star := Int × Int × Int
def cnt (S : List Star) (a b : Int) : Nat := S.countP fun s => decide (a ≤ s.1 ∧ s.2.1 ≤ b)
/-- No window is too narrow. -/
def Fits (S : List Star) (p L : Int) : Prop := ∀ a b : Int, 0 ≤ a → a ≤ b → b < L → (cnt S a b : Int) ≤ p * (b - a + 1)
/-- Stars of a valid job. -/
def Ok (L : Int) (S : List Star) : Prop := ∀ s ∈ S, 0 ≤ s.1 ∧ s.1 ≤ s.2.1 ∧ s.2.1 < L
def star (S : List Star) (i : Nat) : Star := S.getD i (0, 0, 0)
theorem star_mem {S : List Star} {i : Nat} (h : i < S.length) : star S i ∈ S := by
  unfold star; simp [h]
theorem cnt_range (S : List Star) (a b : Int) : cnt S a b = (List.range S.length).countP fun i => decide (a ≤ (star S i).1 ∧ (star S i).2.1 ≤ b) := by
  have h : S = (List.range S.length).map (star S) := by
    apply List.ext_getElem
    · simp
    · intro i h1 h2; simp [star, h1]
  conv => lhs; rw [h]
  unfold cnt
  rw [List.countP_map]
  rfl
/-- A plan. -/
structure Plan (S : List Star) (p : Int) (σ : Nat → Int) : Prop where
  inn : ∀ i, i < S.length → (star S i).1 ≤ σ i ∧ σ i ≤ (star S i).2.1
  few : ∀ w, (((List.range S.length).countP fun i => decide (σ i = w)) : Int) ≤ p
theorem countP_or_le {α : Type} (l : List α) (p q r : α → Bool) (h : ∀ x ∈ l, p x = true → q x = true ∨ r x = true) : l.countP p ≤ l.countP q + l.countP r := by
  induction l with
  | nil => simp
  | cons x l ih =>
    have h1 := ih (fun y hy => h y (by simp [hy]))
    have h2 := h x (by simp)
    simp only [List.countP_cons]
    cases hp : p x <;> cases hq : q x <;> cases hr : r x <;> simp_all <;> omega
theorem countP_le_of {α : Type} (l : List α) (p q : α → Bool) (h : ∀ x ∈ l, p x = true → q x = true) : l.countP p ≤ l.countP q := by
  have := countP_or_le l p q (fun _ => false) (fun x hx hp => .inl (h x hx hp))
  simpa using this
theorem countP_eq_of {α : Type} (l : List α) (p q : α → Bool) (h : ∀ x ∈ l, p x = q x) : l.countP p = l.countP q :=
  Nat.le_antisymm (countP_le_of l p q fun x hx hp => by rw [← h x hx]; exact hp) (countP_le_of l q p fun x hx hp => by rw [h x hx]; exact hp)
theorem span_le {l : List Nat} {σ : Nat → Int} {p : Int} (hp : 0 ≤ p) (few : ∀ w, ((l.countP fun i => decide (σ i = w)) : Int) ≤ p) : ∀ (n : Nat) (a : Int), ((l.countP fun i => decide (a ≤ σ i ∧ σ i < a + n)) : Int) ≤ p * n
  | 0, a => by
    have : (l.countP fun i => decide (a ≤ σ i ∧ σ i < a + (0 : Nat))) = 0 := by
      rw [List.countP_eq_zero]; intro i _; simp
    rw [this]; simp
  | n + 1, a => by
    have h1 := span_le hp few n a
    have h2 := few (a + n)
    have h3 := countP_or_le l (fun i => decide (a ≤ σ i ∧ σ i < a + (n + 1 : Nat))) (fun i => decide (a ≤ σ i ∧ σ i < a + n)) (fun i => decide (σ i = a + n)) (fun i _ h => by simp at *; omega)
    have h4 : p * ((n + 1 : Nat) : Int) = p * n + p := by rw [Int.natCast_add, Int.mul_add]; simp
    rw [h4]; omega
theorem Plan.pos {S : List Star} {p : Int} {σ : Nat → Int} (h : Plan S p σ) : 0 ≤ p := by have := h.few 0; omega
theorem Plan.fits {S : List Star} {p : Int} {σ : Nat → Int} (h : Plan S p σ) (L : Int) : Fits S p L := by
  intro a b h0 hab hbl
  have h1 := span_le (l := List.range S.length) h.pos h.few (b - a + 1).toNat a
  rw [cnt_range]
  have h2 := countP_le_of (List.range S.length) (fun i => decide (a ≤ (star S i).1 ∧ (star S i).2.1 ≤ b)) (fun i => decide (a ≤ σ i ∧ σ i < a + (b - a + 1).toNat)) (fun i hi hp => by
    have := h.inn i (by simpa using hi)
    simp at *; omega)
  have h3 : p * ((b - a + 1).toNat : Int) = p * (b - a + 1) := by congr 1; omega
  rw [h3] at h1; omega
/-! ### the strikes: at each wear the stars that may be struck then, the one that ends first, first -/
/-- The state: which stars are left, in their order; and what has been struck: wear, punch, star. -/
abbrev St := List Nat × List (Int × Int × Nat)
/-- One punch at a wear. -/
def pick (S : List Star) (w c : Int) (s : St) : St :=
  match s.1.findIdx? (fun i => decide ((star S i).1 ≤ w)) with
  | none => s
  | some k => (s.1.eraseIdx k, s.2 ++ [(w, c, s.1.getD k 0)])
/-- n punches at a wear. -/
def picks (S : List Star) (w : Int) (s : St) : Nat → St
  | 0 => s
  | n + 1 => pick S w n (picks S w s n)
/-- All wears. -/
def sweep (S : List Star) (p : Nat) (s : St) : Nat → St
  | 0 => s
  | n + 1 => picks S n (sweep S p s n) p
theorem pick_none {S : List Star} {w c : Int} {s : St} (h : ∀ i ∈ s.1, w < (star S i).1) : pick S w c s = s := by
  unfold pick
  have : s.1.findIdx? (fun i => decide ((star S i).1 ≤ w)) = none := by
    rw [List.findIdx?_eq_none_iff]; intro i hi; have := h i hi; simp; omega
  rw [this]
theorem pick_some {S : List Star} {w c : Int} {s : St} (h : ∃ i ∈ s.1, (star S i).1 ≤ w) : ∃ k, ∃ hk : k < s.1.length, (star S s.1[k]).1 ≤ w ∧ (∀ j (hj : j < k), w < (star S s.1[j]).1) ∧ s.1.findIdx? (fun i => decide ((star S i).1 ≤ w)) = some k ∧ pick S w c s = (s.1.eraseIdx k, s.2 ++ [(w, c, s.1[k])]) := by
  cases hf : s.1.findIdx? (fun i => decide ((star S i).1 ≤ w)) with
  | none =>
    rw [List.findIdx?_eq_none_iff] at hf
    obtain ⟨i, hi, hw⟩ := h
    have := hf i hi; simp at this; omega
  | some k =>
    have hs := List.findIdx?_eq_some_iff_getElem.1 hf
    obtain ⟨hk, h1, h2⟩ := hs
    refine ⟨k, hk, by simpa using h1, fun j hj => by have := h2 j hj; simp at this; omega, rfl, ?_⟩
    unfold pick; rw [hf]; simp [hk]
theorem pick_or (S : List Star) (w : Int) (s : St) : (∀ i ∈ s.1, w < (star S i).1) ∨ ∃ i ∈ s.1, (star S i).1 ≤ w := by
  by_cases h : ∃ i ∈ s.1, (star S i).1 ≤ w
  · exact .inr h
  · refine .inl fun i hi => ?_
    by_cases h2 : (star S i).1 ≤ w
    · exact absurd ⟨i, hi, h2⟩ h
    · omega
/-- What every state has: the stars left are in order, together with those struck they are all; who is struck may be by then; few at a wear. -/
structure Inv (S : List Star) (p : Nat) (R : List Nat) (s : St) : Prop where
  sub : s.1.Sublist R
  perm : (s.2.map (fun e => e.2.2) ++ s.1).Perm R
theorem perm_erase {l : List Nat} {k : Nat} (hk : k < l.length) (o : List Nat) : (o ++ [l[k]] ++ l.eraseIdx k).Perm (o ++ l) := by
  rw [List.append_assoc]
  refine List.Perm.append_left o ?_
  show (l[k] :: l.eraseIdx k).Perm l
  have h1 : l = l.take k ++ l[k] :: l.drop (k + 1) := by simp
  have h2 : l.eraseIdx k = l.take k ++ l.drop (k + 1) := List.eraseIdx_eq_take_drop_succ l k
  have h3 : (l[k] :: (l.take k ++ l.drop (k + 1))).Perm (l.take k ++ l[k] :: l.drop (k + 1)) := List.perm_middle.symm
  rw [h2]; rw [← h1] at h3; exact h3
theorem Inv.pick {S : List Star} {p : Nat} {R : List Nat} {s : St} (h : Inv S p R s) (w c : Int) : Inv S p R (pick S w c s) := by
  rcases pick_or S w s with h0 | h0
  · rw [pick_none h0]; exact h
  · obtain ⟨k, hk, -, -, -, e⟩ := pick_some (c := c) h0
    rw [e]
    refine ⟨(List.eraseIdx_sublist ..).trans h.sub, ?_⟩
    simp only [List.map_append, List.map_cons, List.map_nil]
    exact (perm_erase hk _).trans h.perm
theorem Inv.picks {S : List Star} {p : Nat} {R : List Nat} {s : St} (h : Inv S p R s) (w : Int) : ∀ n, Inv S p R (picks S w s n)
  | 0 => h
  | n + 1 => (Inv.picks h w n).pick w n
theorem Inv.sweep {S : List Star} {p : Nat} {R : List Nat} {s : St} (h : Inv S p R s) : ∀ n, Inv S p R (sweep S p s n)
  | 0 => h
  | n + 1 => (Inv.sweep h n).picks n p
theorem Inv.start (S : List Star) (p : Nat) (R : List Nat) : Inv S p R (R, []) := ⟨List.Sublist.refl _, by simp⟩
/-! the strikes themselves -/
/-- Struck by then, at a wear below n, by a punch below p; the keys differ. -/
structure Stk (S : List Star) (p : Nat) (n : Nat) (o : List (Int × Int × Nat)) : Prop where
  by_ : ∀ e ∈ o, (star S e.2.2).1 ≤ e.1 ∧ 0 ≤ e.1 ∧ e.1 < n
  few : ∀ w, o.countP (fun e => decide (e.1 = w)) ≤ p
theorem pick_out {S : List Star} {w c : Int} {s : St} : (pick S w c s).2 = s.2 ∨ ∃ i, i ∈ s.1 ∧ (star S i).1 ≤ w ∧ (pick S w c s).2 = s.2 ++ [(w, c, i)] := by
  rcases pick_or S w s with h0 | h0
  · rw [pick_none h0]; exact .inl rfl
  · obtain ⟨k, hk, h1, -, -, e⟩ := pick_some (c := c) h0
    rw [e]; exact .inr ⟨_, List.getElem_mem hk, h1, rfl⟩
theorem Stk.picks {S : List Star} {p n : Nat} {s : St} (h : Stk S p n s.2) : ∀ m, m ≤ p → (∀ e ∈ (picks S n s m).2, (star S e.2.2).1 ≤ e.1 ∧ 0 ≤ e.1 ∧ e.1 < (n + 1 : Nat)) ∧ (∀ w, w ≠ (n : Int) → (picks S n s m).2.countP (fun e => decide (e.1 = w)) ≤ p) ∧ (picks S n s m).2.countP (fun e => decide (e.1 = (n : Int))) ≤ m
  | 0, _ => ⟨fun e he => by have := h.by_ e he; omega, fun w _ => h.few w, by
      have : s.2.countP (fun e => decide (e.1 = (n : Int))) = 0 := by
        rw [List.countP_eq_zero]; intro e he; have := h.by_ e he; simp; omega
      show s.2.countP _ ≤ 0
      omega⟩
  | m + 1, hm => by
    obtain ⟨h1, h2, h3⟩ := Stk.picks h m (by omega)
    show _ ∧ _ ∧ _
    simp only [P.picks]
    rcases pick_out (S := S) (w := n) (c := m) (s := P.picks S n s m) with e | ⟨i, hi, hw, e⟩
    · rw [e]; exact ⟨h1, h2, by omega⟩
    · rw [e]
      refine ⟨fun e he => ?_, fun w hw => ?_, ?_⟩
      · rcases List.mem_append.1 he with he | he
        · exact h1 e he
        · simp at he; subst he; exact ⟨hw, by omega, by omega⟩
      · rw [List.countP_append]; have := h2 w hw; have hw' : ¬ (n : Int) = w := fun e => hw e.symm; simp [hw']; omega
      · rw [List.countP_append]; simp; omega
theorem Stk.sweep {S : List Star} {p : Nat} (R : List Nat) : ∀ n, Stk S p n (sweep S p (R, []) n).2
  | 0 => ⟨fun e he => by simp [P.sweep] at he, fun w => by simp [P.sweep]⟩
  | n + 1 => by
    obtain ⟨h1, h2, h3⟩ := Stk.picks (Stk.sweep (S := S) (p := p) R n) p (Nat.le_refl _)
    refine ⟨h1, fun w => ?_⟩
    by_cases hw : w = (n : Int)
    · subst hw; exact h3
    · exact h2 w hw
/-- Those struck in time. -/
def inTime (S : List Star) (o : List (Int × Int × Nat)) : List (Int × Int × Nat) := o.filter fun e => decide (e.1 ≤ (star S e.2.2).2.1)
/-- Whether all are struck in time, the stars in an order of their indexes. -/
def allStruck (S : List Star) (p L : Nat) (R : List Nat) : Bool := decide ((inTime S (sweep S p (R, []) L).2).length = S.length)
end P
end Go.Proofs.Ytpkffjcmoghaaaa
/- Plain Lean: all stars are struck in time just if no window is too narrow, which is just if there is a plan. -/
namespace Go.Proofs.Ytpkffjcmoghaaaa
namespace P
/-- The order: by the last wear at which a star may be struck. -/
def ByTo (S : List Star) (R : List Nat) : Prop := R.Pairwise fun i j => (star S i).2.1 ≤ (star S j).2.1
def upTo (S : List Star) (R : List Nat) (b : Int) : Nat := R.countP fun i => decide ((star S i).2.1 ≤ b)
def win (S : List Star) (R : List Nat) (a b : Int) : Nat := R.countP fun i => decide (a ≤ (star S i).1 ∧ (star S i).2.1 ≤ b)
structure H (S : List Star) (p L : Nat) (w : Nat) (R : List Nat) : Prop where
  ord : ByTo S R
  ok : ∀ i ∈ R, (star S i).1 ≤ (star S i).2.1 ∧ (star S i).2.1 < L
  now : ∀ b : Int, (w : Int) - 1 ≤ b → b < L → (upTo S R b : Int) ≤ p * (b - w + 1)
  later : ∀ a b : Int, (w : Int) + 1 ≤ a → a ≤ b → b < L → (win S R a b : Int) ≤ p * (b - a + 1)
theorem upTo_sub {S : List Star} {R R' : List Nat} (h : R'.Sublist R) (b : Int) : upTo S R' b ≤ upTo S R b := h.countP_le
theorem win_sub {S : List Star} {R R' : List Nat} (h : R'.Sublist R) (a b : Int) : win S R' a b ≤ win S R a b := h.countP_le
theorem countP_erase {l : List Nat} {q : Nat → Bool} {k : Nat} (hk : k < l.length) : (l.eraseIdx k).countP q + (if q l[k] then 1 else 0) = l.countP q := by
  have h1 : (l[k] :: l.eraseIdx k).Perm l := by simpa using perm_erase hk []
  have h2 := h1.countP_eq q
  rw [List.countP_cons] at h2
  exact h2
/-- Behind some punches at a wear: up to b there are fewer by as many, or all that are left up to b come later. -/
theorem picks_step {S : List Star} {w : Nat} {R : List Nat} {o : List (Int × Int × Nat)} (hord : ByTo S R) (b : Int) (q : Int) (h0 : (upTo S R b : Int) ≤ q) :
    ∀ m : Nat, (picks S w (R, o) m).1.Sublist R ∧ ((upTo S (picks S w (R, o) m).1 b : Int) + m ≤ q ∨ ∀ i ∈ (picks S w (R, o) m).1, (star S i).2.1 ≤ b → (w : Int) < (star S i).1)
  | 0 => ⟨List.Sublist.refl _, .inl (by simpa [picks] using h0)⟩
  | m + 1 => by
    obtain ⟨hs, ih⟩ := picks_step hord b q h0 m
    simp only [picks]
    generalize hst : picks S w (R, o) m = s at *
    rcases pick_or S w s with hn | hn
    · rw [pick_none hn]
      exact ⟨hs, .inr fun i hi _ => hn i hi⟩
    · obtain ⟨k, hk, h1, h2, -, e⟩ := pick_some (c := m) hn
      rw [e]
      have hsub : (s.1.eraseIdx k).Sublist s.1 := List.eraseIdx_sublist ..
      refine ⟨hsub.trans hs, ?_⟩
      rcases ih with ih | ih
      · by_cases ht : (star S s.1[k]).2.1 ≤ b
        · left
          have := countP_erase (q := fun i => decide ((star S i).2.1 ≤ b)) hk
          rw [if_pos (by simpa using ht)] at this
          unfold upTo at *; show ((List.countP _ (s.1.eraseIdx k) : Nat) : Int) + _ ≤ q; omega
        · right
          intro i hi hb
          have hm : i ∈ s.1 := hsub.subset hi
          obtain ⟨j, hj, rfl⟩ := List.getElem_of_mem hm
          have hp : ByTo S s.1 := List.Pairwise.sublist hs hord
          rcases Nat.lt_trichotomy j k with hjk | hjk | hjk
          · exact h2 j hjk
          · subst hjk; exact absurd hb ht
          · have := List.pairwise_iff_getElem.1 hp k j hk hj hjk
            omega
      · exact .inr fun i hi hb => ih i (hsub.subset hi) hb
theorem picks_sub {S : List Star} {w : Int} {R : List Nat} {o : List (Int × Int × Nat)} : ∀ m : Nat, (picks S w (R, o) m).1.Sublist R
  | 0 => List.Sublist.refl _
  | m + 1 => by
    have ih := picks_sub (S := S) (w := w) (R := R) (o := o) m
    simp only [picks]
    rcases pick_or S w (picks S w (R, o) m) with hn | hn
    · rw [pick_none hn]; exact ih
    · obtain ⟨k, hk, -, -, -, e⟩ := pick_some (c := m) hn
      rw [e]; exact (List.eraseIdx_sublist ..).trans ih
theorem H.step {S : List Star} {p L w : Nat} {R : List Nat} (h : H S p L w R) (o : List (Int × Int × Nat)) : H S p L (w + 1) (picks S w (R, o) p).1 := by
  have hsub := picks_sub (S := S) (w := w) (R := R) (o := o) p
  refine ⟨List.Pairwise.sublist hsub h.ord, fun i hi => h.ok i (hsub.subset hi), fun b hb hL => ?_, fun a b ha hab hL => ?_⟩
  · have hq := h.now b (by omega) hL
    obtain ⟨-, h2⟩ := picks_step (o := o) (w := w) h.ord b _ hq p
    have e : (p : Int) * (b - w + 1) = p * (b - (w + 1 : Nat) + 1) + p := by
      rw [show b - (w : Int) + 1 = (b - (w + 1 : Nat) + 1) + 1 by omega, Int.mul_add]; simp
    rcases h2 with h2 | h2
    · omega
    · by_cases hbw : b = (w : Int)
      · have : upTo S (picks S w (R, o) p).1 b = 0 := by
          unfold upTo; rw [List.countP_eq_zero]; intro i hi
          have h3 := h.ok i (hsub.subset hi)
          have h4 := h2 i hi
          simp; omega
        rw [this, hbw, show (w : Int) - (w + 1 : Nat) + 1 = 0 by omega]; simp
      · have h3 := h.later (w + 1) b (by omega) (by omega) hL
        have h4 : upTo S (picks S w (R, o) p).1 b ≤ win S R (w + 1) b := by
          refine Nat.le_trans ?_ (win_sub hsub _ _)
          unfold upTo win
          refine countP_le_of _ _ _ fun i hi hb => ?_
          have := h2 i hi (by simpa using hb)
          simp at *; omega
        have e2 : (p : Int) * (b - (w + 1) + 1) = p * (b - (w + 1 : Nat) + 1) := by congr 1
        omega
  · have := h.later a b (by omega) hab hL
    have := win_sub hsub a b (S := S)
    omega
theorem H.sweep {S : List Star} {p L : Nat} {R : List Nat} (h : H S p L 0 R) (o : List (Int × Int × Nat)) : ∀ n, n ≤ L → H S p L n (sweep S p (R, o) n).1
  | 0, _ => h
  | n + 1, hn => by
    have ih := H.sweep h o n (by omega)
    have := ih.step (P.sweep S p (R, o) n).2
    exact this
theorem H.none {S : List Star} {p L w : Nat} {R : List Nat} (h : H S p L w R) (hw : w ≤ L) : ∀ i ∈ R, (w : Int) ≤ (star S i).2.1 := by
  intro i hi
  have h1 := h.now (w - 1) (by omega) (by omega)
  rw [show (w : Int) - 1 - w + 1 = 0 by omega] at h1
  have h2 : upTo S R (w - 1) = 0 := by omega
  unfold upTo at h2
  rw [List.countP_eq_zero] at h2
  have := h2 i hi
  simp at this; omega
/-- Those struck from a state that is fine are struck in time. -/
theorem H.inTime {S : List Star} {p L : Nat} {R : List Nat} (h : H S p L 0 R) : ∀ n, n ≤ L → ∀ e ∈ (P.sweep S p (R, []) n).2, e.1 ≤ (star S e.2.2).2.1
  | 0, _, e, he => by simp [P.sweep] at he
  | n + 1, hn, e, he => by
    have ih := H.inTime h n (by omega)
    have hn' := (H.sweep h [] n (by omega)).none (by omega)
    have hp : ∀ m, (∀ e ∈ (picks S n (P.sweep S p (R, []) n) m).2, e.1 ≤ (star S e.2.2).2.1) := by
      intro m
      induction m with
      | zero => exact ih
      | succ m ihm =>
        simp only [picks]
        rcases pick_out (S := S) (w := n) (c := m) (s := picks S n (P.sweep S p (R, []) n) m) with e1 | ⟨i, hi, -, e1⟩
        · rw [e1]; exact ihm
        · rw [e1]
          intro e he
          rcases List.mem_append.1 he with he | he
          · exact ihm e he
          · simp at he; subst he
            exact hn' i ((picks_sub m).subset hi)
    exact hp p e he
theorem H.start {S : List Star} {p L : Nat} {R : List Nat} (hf : Fits S p L) (hok : Ok L S) (hR : R.Perm (List.range S.length)) (hord : ByTo S R) : H S p L 0 R := by
  have hw : ∀ a b, win S R a b = cnt S a b := fun a b => by rw [cnt_range]; exact hR.countP_eq _
  have hi : ∀ i ∈ R, star S i ∈ S := fun i hi => star_mem (by simpa using hR.mem_iff.1 hi)
  refine ⟨hord, fun i h => ?_, fun b hb hL => ?_, fun a b ha hab hL => ?_⟩
  · have := hok _ (hi i h); omega
  · have e : upTo S R b = win S R 0 b := by
      unfold upTo win
      refine countP_eq_of _ _ _ fun i h => ?_
      have := hok _ (hi i h)
      simp; omega
    rw [e, hw]
    by_cases hb0 : b < 0
    · have : cnt S 0 b = 0 := by
        unfold cnt; rw [List.countP_eq_zero]; intro s hs; have := hok s hs; simp; omega
      rw [this, show b - (0 : Nat) + 1 = 0 by omega]; simp
    · have := hf 0 b (by omega) (by omega) hL
      simpa using this
  · rw [hw]; exact hf a b (by omega) hab hL
theorem allStruck_iff {S : List Star} {p L : Nat} {R : List Nat} (hok : Ok L S) (hR : R.Perm (List.range S.length)) (hord : ByTo S R) : allStruck S p L R = true ↔ Fits S p L := by
  have hinv := Inv.sweep (Inv.start S p R) L
  have hlen : (P.sweep S p (R, []) L).2.length + (P.sweep S p (R, []) L).1.length = S.length := by
    have := hinv.perm.length_eq; have h2 := hR.length_eq; simp at this h2; omega
  unfold allStruck
  rw [decide_eq_true_eq]
  constructor
  · intro h
    have hle : (P.inTime S (P.sweep S p (R, []) L).2).length ≤ (P.sweep S p (R, []) L).2.length := List.length_filter_le _ _
    have hall : ∀ e ∈ (P.sweep S p (R, []) L).2, e.1 ≤ (star S e.2.2).2.1 := by
      have : (P.inTime S (P.sweep S p (R, []) L).2).length = (P.sweep S p (R, []) L).2.length := by omega
      unfold P.inTime at this
      rw [List.length_filter_eq_length_iff] at this
      intro e he; simpa using this e he
    have hnil : (P.sweep S p (R, []) L).1 = [] := List.eq_nil_of_length_eq_zero (by omega)
    have hs := Stk.sweep (S := S) (p := p) R L
    have hperm := hinv.perm
    rw [hnil, List.append_nil] at hperm
    generalize (P.sweep S p (R, []) L).2 = o at *
    intro a b h0 hab hL
    rw [cnt_range, ← (hperm.trans hR).countP_eq, List.countP_map]
    have h1 : o.countP ((fun i => decide (a ≤ (star S i).1 ∧ (star S i).2.1 ≤ b)) ∘ fun e => e.2.2) ≤ o.countP (fun e => decide (a ≤ e.1 ∧ e.1 < a + (b - a + 1).toNat)) := by
      refine countP_le_of _ _ _ fun e he hc => ?_
      have h1 := hs.by_ e he; have h2 := hall e he
      simp at *; omega
    have h2 : ∀ n : Nat, o.countP (fun e => decide (a ≤ e.1 ∧ e.1 < a + n)) ≤ p * n := by
      intro n
      induction n with
      | zero =>
        have : o.countP (fun e => decide (a ≤ e.1 ∧ e.1 < a + (0 : Nat))) = 0 := by rw [List.countP_eq_zero]; intro e _; simp
        omega
      | succ n ih =>
        have h3 := hs.few (a + n)
        have h4 := countP_or_le o (fun e => decide (a ≤ e.1 ∧ e.1 < a + (n + 1 : Nat))) (fun e => decide (a ≤ e.1 ∧ e.1 < a + n)) (fun e => decide (e.1 = a + n)) (fun e _ h => by simp at *; omega)
        rw [Nat.mul_add]; omega
    have h3 := h2 (b - a + 1).toNat
    have h4 : (p : Int) * (b - a + 1) = ((p * (b - a + 1).toNat : Nat) : Int) := by
      rw [Int.natCast_mul]; congr 1; omega
    rw [h4]; omega
  · intro hf
    have h := H.start hf hok hR hord
    have hL := H.sweep h [] L (Nat.le_refl _)
    have hnil : (P.sweep S p (R, []) L).1 = [] := by
      rw [List.eq_nil_iff_forall_not_mem]
      intro i hi
      have h1 := hL.none (Nat.le_refl _) i hi
      have h2 := hL.ok i hi
      omega
    rw [hnil] at hlen
    have : P.inTime S (P.sweep S p (R, []) L).2 = (P.sweep S p (R, []) L).2 := by
      unfold P.inTime
      rw [List.filter_eq_self]
      intro e he; simpa using H.inTime h L (Nat.le_refl _) e he
    rw [this]; simpa using hlen
/-! ### plans -/
/-- An order by To. -/
def ins (S : List Star) (i : Nat) : List Nat → List Nat
  | [] => [i]
  | j :: r => if (star S i).2.1 ≤ (star S j).2.1 then i :: j :: r else j :: ins S i r
theorem ins_perm (S : List Star) (i : Nat) : ∀ l, (ins S i l).Perm (i :: l)
  | [] => List.Perm.refl _
  | j :: r => by
    unfold ins; split
    · exact List.Perm.refl _
    · exact (List.Perm.cons j (ins_perm S i r)).trans (List.Perm.swap i j r)
theorem ins_ord (S : List Star) (i : Nat) : ∀ l, ByTo S l → ByTo S (ins S i l)
  | [], _ => by simp [ins, ByTo]
  | j :: r, h => by
    unfold ByTo at *
    rw [List.pairwise_cons] at h
    unfold ins; split
    · rename_i h1
      rw [List.pairwise_cons, List.pairwise_cons]
      refine ⟨fun k hk => ?_, h.1, h.2⟩
      rcases List.mem_cons.1 hk with rfl | hk
      · exact h1
      · have := h.1 k hk; omega
    · rename_i h1
      rw [List.pairwise_cons]
      refine ⟨fun k hk => ?_, ins_ord S i r h.2⟩
      rcases List.mem_cons.1 ((ins_perm S i r).mem_iff.1 hk) with rfl | hk
      · omega
      · exact h.1 k hk
theorem order_ex (S : List Star) : ∀ l : List Nat, ∃ R, R.Perm l ∧ ByTo S R
  | [] => ⟨[], List.Perm.refl _, by simp [ByTo]⟩
  | i :: l => by
    obtain ⟨R, h1, h2⟩ := order_ex S l
    exact ⟨ins S i R, (ins_perm S i R).trans (List.Perm.cons i h1), ins_ord S i R h2⟩
/-- The wear at which a star is struck. -/
def wearOf (o : List (Int × Int × Nat)) (i : Nat) : Int := ((o.find? fun e => e.2.2 == i).map (fun e => e.1)).getD 0
theorem wearOf_mem : ∀ {o : List (Int × Int × Nat)} {i : Nat}, i ∈ o.map (fun e => e.2.2) → ∃ e ∈ o, e.2.2 = i ∧ wearOf o i = e.1
  | [], i, h => by simp at h
  | e :: o, i, h => by
    by_cases hi : e.2.2 = i
    · exact ⟨e, by simp, hi, by simp [wearOf, hi]⟩
    · have : i ∈ o.map (fun e => e.2.2) := by
        simp only [List.map_cons, List.mem_cons] at h
        rcases h with h | h
        · exact absurd h.symm hi
        · exact h
      obtain ⟨e', h1, h2, h3⟩ := wearOf_mem this
      refine ⟨e', by simp [h1], h2, ?_⟩
      have hb : (e.2.2 == i) = false := by simpa using hi
      unfold wearOf at *
      rw [List.find?_cons, hb]; exact h3
theorem wearOf_eq : ∀ {o : List (Int × Int × Nat)} (_ : (o.map (fun e => e.2.2)).Nodup) {e : Int × Int × Nat}, e ∈ o → wearOf o e.2.2 = e.1
  | [], _, e, h => by simp at h
  | x :: o, hn, e, h => by
    simp only [List.map_cons, List.nodup_cons] at hn
    rcases List.mem_cons.1 h with rfl | h
    · simp [wearOf]
    · have hb : (x.2.2 == e.2.2) = false := by
        rw [beq_eq_false_iff_ne]; intro he; exact hn.1 (he ▸ List.mem_map_of_mem (f := fun e => e.2.2) h)
      have := wearOf_eq hn.2 h
      unfold wearOf at *
      rw [List.find?_cons, hb]; exact this
theorem plan_ex {S : List Star} {p L : Nat} (hf : Fits S p L) (hok : Ok L S) : ∃ σ, Plan S p σ := by
  obtain ⟨R, hR, hord⟩ := order_ex S (List.range S.length)
  have h := H.start hf hok hR hord
  have hL := H.sweep h [] L (Nat.le_refl _)
  have hnil : (P.sweep S p (R, []) L).1 = [] := by
    rw [List.eq_nil_iff_forall_not_mem]
    intro i hi
    have h1 := hL.none (Nat.le_refl _) i hi
    have h2 := hL.ok i hi
    omega
  have hperm := (Inv.sweep (Inv.start S p R) L).perm
  rw [hnil, List.append_nil] at hperm
  have hperm := hperm.trans hR
  have hin := H.inTime h L (Nat.le_refl _)
  have hs := Stk.sweep (S := S) (p := p) R L
  generalize (P.sweep S p (R, []) L).2 = o at *
  have hnd : (o.map (fun e => e.2.2)).Nodup := hperm.nodup_iff.2 List.nodup_range
  refine ⟨wearOf o, fun i hi => ?_, fun w => ?_⟩
  · obtain ⟨e, he, rfl, hw⟩ := wearOf_mem (hperm.mem_iff.2 (by simpa using hi))
    rw [hw]
    have h1 := hs.by_ e he; have h2 := hin e he
    exact ⟨h1.1, h2⟩
  · rw [← hperm.countP_eq, List.countP_map]
    have h1 := hs.few w
    have h2 : o.countP ((fun i => decide (wearOf o i = w)) ∘ fun e => e.2.2) = o.countP (fun e => decide (e.1 = w)) := by
      refine countP_eq_of _ _ _ fun e he => ?_
      simp [wearOf_eq hnd he]
    omega
theorem fits_iff {S : List Star} {p L : Nat} (hok : Ok L S) : Fits S p L ↔ ∃ σ, Plan S p σ := ⟨fun h => plan_ex h hok, fun ⟨_, h⟩ => h.fits L⟩
end P
end Go.Proofs.Ytpkffjcmoghaaaa
/- Plain Lean: stars that can be struck together: exchange, and the choice of the heavier ones first. -/
namespace Go.Proofs.Ytpkffjcmoghaaaa
namespace P
def sel (S : List Star) (I : List Nat) : List Star := I.map (star S)
theorem cnt_sel (S : List Star) (I : List Nat) (a b : Int) : cnt (sel S I) a b = win S I a b := by
  unfold cnt sel win; rw [List.countP_map]; rfl
def Ind (S : List Star) (p L : Int) (I : List Nat) : Prop := Fits (sel S I) p L
theorem ind_iff {S : List Star} {p L : Int} {I : List Nat} : Ind S p L I ↔ ∀ a b : Int, 0 ≤ a → a ≤ b → b < L → (win S I a b : Int) ≤ p * (b - a + 1) := by
  unfold Ind Fits; simp only [cnt_sel]
theorem win_perm {S : List Star} {I J : List Nat} (h : I.Perm J) (a b : Int) : win S I a b = win S J a b := h.countP_eq _
theorem Ind.perm {S : List Star} {p L : Int} {I J : List Nat} (h : Ind S p L I) (hp : I.Perm J) : Ind S p L J := by
  rw [ind_iff] at *; intro a b h0 h1 h2; rw [← win_perm hp]; exact h a b h0 h1 h2
theorem Ind.sub {S : List Star} {p L : Int} {I J : List Nat} (h : Ind S p L J) (hs : I.Sublist J) : Ind S p L I := by
  rw [ind_iff] at *; intro a b h0 h1 h2; have := win_sub (S := S) hs a b; have := h a b h0 h1 h2; omega
theorem sub_win {I J : List Nat} (hn : I.Nodup) (hs : ∀ i ∈ I, i ∈ J) (q : Nat → Bool) : I.countP q ≤ J.countP q := by
  rw [List.countP_eq_length_filter, List.countP_eq_length_filter]
  refine List.Nodup.length_le_of_subset (hn.filter _) ?_
  intro i hi; rw [List.mem_filter] at *; exact ⟨hs i hi.1, hi.2⟩
theorem Ind.subset {S : List Star} {p L : Int} {I J : List Nat} (h : Ind S p L J) (hn : I.Nodup) (hs : ∀ i ∈ I, i ∈ J) : Ind S p L I := by
  rw [ind_iff] at *; intro a b h0 h1 h2; have := sub_win hn hs (fun i => decide (a ≤ (star S i).1 ∧ (star S i).2.1 ≤ b)); have := h a b h0 h1 h2; unfold win at *; omega
theorem win_snoc (S : List Star) (J : List Nat) (i : Nat) (a b : Int) : win S (J ++ [i]) a b = win S J a b + if a ≤ (star S i).1 ∧ (star S i).2.1 ≤ b then 1 else 0 := by
  unfold win; rw [List.countP_append]; simp
/-- As many stars as it can have. -/
def Tight (S : List Star) (p L : Int) (J : List Nat) (a b : Int) : Prop := 0 ≤ a ∧ a ≤ b ∧ b < L ∧ (win S J a b : Int) = p * (b - a + 1)
theorem tight_of {S : List Star} {p L : Int} {J : List Nat} {i : Nat} (hJ : Ind S p L J) (h : ¬ Ind S p L (J ++ [i])) : ∃ a b, Tight S p L J a b ∧ a ≤ (star S i).1 ∧ (star S i).2.1 ≤ b := by
  apply Classical.byContradiction
  intro hn
  apply h
  rw [ind_iff] at *
  intro a b h0 h1 h2
  have h3 := hJ a b h0 h1 h2
  rw [win_snoc]
  by_cases hc : a ≤ (star S i).1 ∧ (star S i).2.1 ≤ b
  · rw [if_pos hc]
    by_cases he : (win S J a b : Int) = p * (b - a + 1)
    · exact absurd ⟨a, b, ⟨h0, h1, h2, he⟩, hc.1, hc.2⟩ hn
    · omega
  · rw [if_neg hc]; simpa using h3
theorem Tight.join {S : List Star} {p L : Int} {J : List Nat} (hJ : Ind S p L J) (hv : ∀ i ∈ J, (star S i).1 ≤ (star S i).2.1) {a b c d : Int} (h : Tight S p L J a b) (k : Tight S p L J c d) (h1 : c < a) (h2 : a ≤ d + 1) (h3 : d < b) : Tight S p L J c b := by
  obtain ⟨a0, a1, a2, a3⟩ := h
  obtain ⟨k0, k1, k2, k3⟩ := k
  rw [ind_iff] at hJ
  have u := hJ c b k0 (by omega) a2
  have hsum : win S J c d + win S J a b ≤ win S J c b + win S J a d := by
    unfold win
    clear hJ a3 k3 u
    induction J with
    | nil => simp
    | cons x l ih =>
      have := ih (fun i hi => hv i (by simp [hi]))
      have hx := hv x (by simp)
      simp only [List.countP_cons, decide_eq_true_eq]
      generalize (star S x).1 = f at *
      generalize (star S x).2.1 = t at *
      by_cases e1 : c ≤ f ∧ t ≤ d
      · have e3 : c ≤ f ∧ t ≤ b := by omega
        rw [if_pos e1, if_pos e3]
        by_cases e2 : a ≤ f ∧ t ≤ b
        · rw [if_pos e2, if_pos (by omega)]; omega
        · rw [if_neg e2]; omega
      · rw [if_neg e1]
        by_cases e2 : a ≤ f ∧ t ≤ b
        · rw [if_pos e2, if_pos (by omega)]; omega
        · rw [if_neg e2]; omega
  have hmid : (win S J a d : Int) ≤ p * (d - a + 1) := by
    by_cases e : a ≤ d
    · exact hJ a d a0 e k2
    · have : win S J a d = 0 := by
        unfold win; rw [List.countP_eq_zero]; intro i hi; have := hv i hi; simp; omega
      rw [this, show d - a + 1 = 0 by omega]; simp
  refine ⟨k0, by omega, a2, ?_⟩
  have e : p * (b - c + 1) = p * (d - c + 1) + p * (b - a + 1) - p * (d - a + 1) := by
    rw [← Int.mul_add, ← Int.mul_sub]; congr 1; omega
  omega
/-- In a tight window that ends before n. -/
def Good (S : List Star) (p L : Int) (J : List Nat) (n : Nat) (i : Nat) : Prop := ∃ a b, Tight S p L J a b ∧ b < n ∧ a ≤ (star S i).1 ∧ (star S i).2.1 ≤ b
theorem least_ex {q : Nat → Prop} : ∀ n, q n → ∃ m, q m ∧ ∀ k, k < m → ¬ q k := by
  intro n
  induction n using Nat.strongRecOn with
  | ind n ih =>
    intro h
    by_cases hk : ∃ k, k < n ∧ q k
    · obtain ⟨k, hk, hq⟩ := hk; exact ih k hk hq
    · exact ⟨n, h, fun k hk' hq => hk ⟨k, hk', hq⟩⟩
open Classical in
theorem good_le {S : List Star} {p L : Int} {I J : List Nat} (hI : Ind S p L I) (hJ : Ind S p L J) (vI : ∀ i ∈ I, (star S i).1 ≤ (star S i).2.1) (vJ : ∀ i ∈ J, (star S i).1 ≤ (star S i).2.1) :
    ∀ n : Nat, (I.countP fun i => decide (Good S p L J n i)) ≤ J.countP fun i => decide (Good S p L J n i) := by
  intro n
  induction n using Nat.strongRecOn with
  | ind n ih =>
    cases n with
    | zero =>
      have : I.countP (fun i => decide (Good S p L J 0 i)) = 0 := by
        rw [List.countP_eq_zero]; intro i _; simp only [decide_eq_true_eq]
        rintro ⟨a, b, ⟨h0, h1, -, -⟩, hb, -, -⟩; omega
      omega
    | succ n =>
      by_cases hT : ∃ a : Nat, Tight S p L J a n
      · obtain ⟨a0, ha0⟩ := hT
        obtain ⟨a, ha, hmin⟩ := least_ex (q := fun a : Nat => Tight S p L J a n) a0 ha0
        have han : (a : Int) ≤ n := ha.2.1
        have ih' := ih a (by omega)
        have key : ∀ i, (star S i).1 ≤ (star S i).2.1 → (Good S p L J (n + 1) i ↔ ((a : Int) ≤ (star S i).1 ∧ (star S i).2.1 ≤ (n : Int)) ∨ Good S p L J a i) := by
          intro i hv
          constructor
          · rintro ⟨c, d, hcd, hd, h1, h2⟩
            have c0 := hcd.1
            obtain ⟨c', rfl⟩ := Int.eq_ofNat_of_zero_le c0
            by_cases hca : a ≤ c'
            · exact .inl ⟨by omega, by omega⟩
            · by_cases hdn : d = n
              · subst hdn; exact absurd hcd (hmin c' (by omega))
              · by_cases hda : (a : Int) ≤ d + 1
                · exact absurd (Tight.join hJ vJ ha hcd (by omega) hda (by omega)) (hmin c' (by omega))
                · exact .inr ⟨_, d, hcd, by omega, h1, h2⟩
          · rintro (⟨h1, h2⟩ | ⟨c, d, hcd, hd, h1, h2⟩)
            · exact ⟨a, n, ha, by omega, h1, h2⟩
            · exact ⟨c, d, hcd, by omega, h1, h2⟩
        have e : ∀ K : List Nat, (∀ i ∈ K, (star S i).1 ≤ (star S i).2.1) → K.countP (fun i => decide (Good S p L J (n + 1) i)) = win S K a n + K.countP (fun i => decide (Good S p L J a i)) := by
          intro K hK
          unfold win
          induction K with
          | nil => simp
          | cons x l ihK =>
            have h1 := ihK (fun i hi => hK i (by simp [hi]))
            have hx := key x (hK x (by simp))
            have hv := hK x (by simp)
            have hdis : ((a : Int) ≤ (star S x).1 ∧ (star S x).2.1 ≤ (n : Int)) → ¬ Good S p L J a x := by
              rintro ⟨h1, h2⟩ ⟨c, d, -, h3, h4, h5⟩; omega
            simp only [List.countP_cons, decide_eq_true_eq, h1]
            by_cases e1 : (a : Int) ≤ (star S x).1 ∧ (star S x).2.1 ≤ (n : Int)
            · rw [if_pos e1, if_neg (hdis e1), if_pos (hx.2 (.inl e1))]; omega
            · by_cases e2 : Good S p L J a x
              · rw [if_neg e1, if_pos e2, if_pos (hx.2 (.inr e2))]; omega
              · rw [if_neg e1, if_neg e2, if_neg (fun h => (hx.1 h).elim e1 e2)]; omega
        rw [e I vI, e J vJ]
        have hb := (ind_iff.1 hI) a n (by omega) han ha.2.2.1
        have := ha.2.2.2
        omega
      · have key : ∀ i, Good S p L J (n + 1) i ↔ Good S p L J n i := by
          intro i
          constructor
          · rintro ⟨c, d, hcd, hd, h1, h2⟩
            refine ⟨c, d, hcd, ?_, h1, h2⟩
            by_cases hdn : d = n
            · subst hdn
              obtain ⟨c', rfl⟩ := Int.eq_ofNat_of_zero_le hcd.1
              exact absurd ⟨c', hcd⟩ hT
            · omega
          · rintro ⟨c, d, hcd, hd, h1, h2⟩
            exact ⟨c, d, hcd, by omega, h1, h2⟩
        have := ih n (by omega)
        rw [countP_eq_of I _ (fun i => decide (Good S p L J n i)) (fun i _ => by simp [key]), countP_eq_of J (fun i => decide (Good S p L J (n + 1) i)) (fun i => decide (Good S p L J n i)) (fun i _ => by simp [key])]
        exact this
/-- Of more stars that can be struck one can be struck together with the fewer. -/
theorem exchange {S : List Star} {p L : Int} {I J : List Nat} (hI : Ind S p L I) (hJ : Ind S p L J) (nI : I.Nodup) (vI : ∀ i ∈ I, (star S i).1 ≤ (star S i).2.1) (vJ : ∀ i ∈ J, (star S i).1 ≤ (star S i).2.1) (hlt : J.length < I.length) : ∃ i ∈ I, i ∉ J ∧ Ind S p L (J ++ [i]) := by
  classical
  apply Classical.byContradiction
  intro hn
  have hall : ∀ i ∈ I, i ∉ J → Good S p L J L.toNat i := by
    intro i hi hj
    have : ¬ Ind S p L (J ++ [i]) := fun h => hn ⟨i, hi, hj, h⟩
    obtain ⟨a, b, hT, h1, h2⟩ := tight_of hJ this
    exact ⟨a, b, hT, by have := hT.2.2.1; have := hT.1; have := hT.2.1; omega, h1, h2⟩
  have h1 := good_le hI hJ vI vJ L.toNat
  have h2 : I.countP (fun i => !decide (Good S p L J L.toNat i)) ≤ J.countP (fun i => !decide (Good S p L J L.toNat i)) := by
    rw [List.countP_eq_length_filter, List.countP_eq_length_filter]
    refine List.Nodup.length_le_of_subset (nI.filter _) ?_
    intro i hi
    rw [List.mem_filter] at *
    refine ⟨Classical.byContradiction fun h => ?_, hi.2⟩
    have := hall i hi.1 h
    simp [this] at hi
  have h3 := List.length_eq_countP_add_countP (l := I) (fun i => decide (Good S p L J L.toNat i))
  have h4 := List.length_eq_countP_add_countP (l := J) (fun i => decide (Good S p L J L.toNat i))
  have e : ∀ K : List Nat, K.countP (fun a => decide ¬decide (Good S p L J L.toNat a) = true) = K.countP (fun i => !decide (Good S p L J L.toNat i)) := fun K => countP_eq_of K _ _ fun i _ => by simp
  rw [e] at h3 h4
  omega
end P
end Go.Proofs.Ytpkffjcmoghaaaa
/- Plain Lean: the choice of stars, the heavier ones first, is as heavy as any. -/
namespace Go.Proofs.Ytpkffjcmoghaaaa
namespace P
def fitsB (S : List Star) (p L : Int) : Bool := (List.range L.toNat).all fun a => (List.range L.toNat).all fun b => decide (a ≤ b → (cnt S a b : Int) ≤ p * (b - a + 1))
theorem fitsB_iff {S : List Star} {p L : Int} : fitsB S p L = true ↔ Fits S p L := by
  unfold fitsB Fits
  simp only [List.all_eq_true, List.mem_range, decide_eq_true_eq]
  constructor
  · intro h a b h0 h1 h2
    obtain ⟨a', rfl⟩ := Int.eq_ofNat_of_zero_le h0
    obtain ⟨b', rfl⟩ := Int.eq_ofNat_of_zero_le (show 0 ≤ b by omega)
    exact h a' (by omega) b' (by omega) (by omega)
  · intro h a ha b hb hab
    exact h a b (by omega) (by omega) (by omega)
/-- One star more, if it can be struck with those taken. -/
def take1 (S : List Star) (p L : Int) (without : Int) (out : List Nat) (i : Nat) : List Nat :=
  if (i : Int) = without ∨ i ∈ out then out else if fitsB (sel S (out ++ [i])) p L then out ++ [i] else out
def choose (S : List Star) (p L : Int) (given : List Nat) (without : Int) (order : List Nat) : List Nat := order.foldl (take1 S p L without) given
def weigh (S : List Star) (I : List Nat) : Int := (I.map fun i => (star S i).2.2).sum
theorem take1_or (S : List Star) (p L : Int) (wo : Int) (out : List Nat) (i : Nat) : take1 S p L wo out i = out ∨ (take1 S p L wo out i = out ++ [i] ∧ (i : Int) ≠ wo ∧ i ∉ out ∧ Ind S p L (out ++ [i])) := by
  unfold take1
  by_cases h : (i : Int) = wo ∨ i ∈ out
  · rw [if_pos h]; exact .inl rfl
  · rw [if_neg h]
    by_cases h2 : fitsB (sel S (out ++ [i])) p L = true
    · rw [if_pos h2]; exact .inr ⟨rfl, fun e => h (.inl e), fun e => h (.inr e), fitsB_iff.1 h2⟩
    · rw [if_neg h2]; exact .inl rfl
theorem take1_no {S : List Star} {p L : Int} {wo : Int} {out : List Nat} {i : Nat} (hne : (i : Int) ≠ wo) (hi : i ∉ out) (h : take1 S p L wo out i = out) : ¬ Ind S p L (out ++ [i]) := by
  unfold take1 at h
  rw [if_neg (by rintro (h | h); exact hne h; exact hi h)] at h
  intro hI
  rw [if_pos (fitsB_iff.2 hI)] at h
  have := congrArg List.length h; simp at this
theorem snoc_rec {α : Type} {q : List α → Prop} (h0 : q []) (hs : ∀ l x, q l → q (l ++ [x])) : ∀ l, q l := by
  intro l
  have : ∀ r : List α, q r.reverse := by
    intro r
    induction r with
    | nil => exact h0
    | cons x r ih => rw [List.reverse_cons]; exact hs _ _ ih
  have h := this l.reverse
  rwa [List.reverse_reverse] at h
/-- What the choice has, whatever was taken in. -/
structure Ch (S : List Star) (p L : Int) (given : List Nat) (wo : Int) (order : List Nat) (out : List Nat) : Prop where
  ind : Ind S p L out
  nodup : out.Nodup
  pre : given.Sublist out
  from_ : ∀ i ∈ out, i ∈ given ∨ i ∈ order
  avoid : ∀ i ∈ out, i ∉ given → (i : Int) ≠ wo
  full : ∀ i ∈ order, (i : Int) ≠ wo → i ∉ out → ¬ Ind S p L (out ++ [i])
theorem choose_snoc (S : List Star) (p L : Int) (g : List Nat) (wo : Int) (o : List Nat) (i : Nat) : choose S p L g wo (o ++ [i]) = take1 S p L wo (choose S p L g wo o) i := by simp [choose, List.foldl_append]
theorem Ch.mk' {S : List Star} {p L : Int} {given : List Nat} {wo : Int} (hg : Ind S p L given) (hn : given.Nodup) : ∀ order : List Nat, Ch S p L given wo order (choose S p L given wo order) := by
  intro order
  refine snoc_rec (q := fun order => Ch S p L given wo order (choose S p L given wo order)) ?_ ?_ order
  · exact ⟨hg, hn, List.Sublist.refl _, fun i hi => .inl hi, fun i hi h => absurd hi h, fun i hi => by simp at hi⟩
  · intro l i ih
    rw [choose_snoc]
    rcases take1_or S p L wo (choose S p L given wo l) i with e | ⟨e, h1, h2, h3⟩
    · have e0 := e
      rw [e]
      refine ⟨ih.ind, ih.nodup, ih.pre, fun j hj => (ih.from_ j hj).imp id (fun h => by simp [h]), ih.avoid, fun j hj hne hout => ?_⟩
      rcases List.mem_append.1 hj with hj | hj
      · exact ih.full j hj hne hout
      · simp at hj; subst hj; exact take1_no hne hout e0
    · rw [e]
      refine ⟨h3, ?_, ih.pre.trans (List.sublist_append_left _ _), fun j hj => ?_, fun j hj hg => ?_, fun j hj hne hout => ?_⟩
      · rw [List.nodup_append]; refine ⟨ih.nodup, by simp, fun a ha b hb hab => ?_⟩
        simp at hb; subst hb; rw [hab] at ha; exact h2 ha
      · rcases List.mem_append.1 hj with hj | hj
        · exact (ih.from_ j hj).imp id (fun h => by simp [h])
        · exact .inr (by simp at hj; simp [hj])
      · rcases List.mem_append.1 hj with hj | hj
        · exact ih.avoid j hj hg
        · simp at hj; subst hj; exact h1
      · have hj' : j ∈ l := by
          rcases List.mem_append.1 hj with hj | hj
          · exact hj
          · simp at hj; subst hj; simp at hout
        have := ih.full j hj' hne (fun h => hout (by simp [h]))
        intro hI
        refine this (hI.sub ?_)
        exact List.Sublist.append (List.sublist_append_left _ _) (List.Sublist.refl _)
/-- Whatever can be struck, of what was offered, is no more than what was chosen. -/
theorem Ch.most {S : List Star} {p L : Int} {given : List Nat} {wo : Int} {order out : List Nat} (h : Ch S p L given wo order out) (hv : ∀ i, i ∈ given ∨ i ∈ order → (star S i).1 ≤ (star S i).2.1) {I : List Nat} (hI : Ind S p L I) (nI : I.Nodup) (hin : ∀ i ∈ I, i ∈ given ∨ (i ∈ order ∧ (i : Int) ≠ wo)) : I.length ≤ out.length := by
  apply Classical.byContradiction
  intro hn
  obtain ⟨i, hi, hj, hk⟩ := exchange hI h.ind nI (fun i hi => hv i ((hin i hi).imp id And.left)) (fun i hi => hv i (h.from_ i hi)) (by omega)
  rcases hin i hi with h1 | ⟨h1, h2⟩
  · exact hj (h.pre.subset h1)
  · exact h.full i h1 h2 hj hk
/-- Sums of which one has no fewer terms, however far one looks, the greater terms first. -/
theorem sum_le (w : Nat → Int) (α β : Nat → Bool) : ∀ (l : List Nat) (c W : Int), 0 ≤ c → 0 ≤ W → (∀ i ∈ l, 0 ≤ w i ∧ w i ≤ W) → (l.Pairwise fun i j => w j ≤ w i) →
    (∀ k, ((l.take k).countP α : Int) ≤ (l.take k).countP β + c) → ((l.filter α).map w).sum ≤ ((l.filter β).map w).sum + c * W
  | [], c, W, hc, hW, _, _, _ => by simp; exact Int.mul_nonneg hc hW
  | x :: l, c, W, hc, hW, hw, hs, hk => by
    have hx := hw x (by simp)
    rw [List.pairwise_cons] at hs
    have h1 := hk 1
    have hc' : 0 ≤ c + (if β x then 1 else 0) - (if α x then 1 else 0) := by
      simp only [List.take_succ_cons, List.take_zero, List.countP_cons, List.countP_nil] at h1
      cases ha : α x <;> cases hb : β x <;> simp only [ha, hb, if_true, if_false, Bool.false_eq_true] at h1 ⊢ <;> omega
    have ih := sum_le w α β l (c + (if β x then 1 else 0) - (if α x then 1 else 0)) (w x) hc' hx.1 (fun i hi => ⟨(hw i (by simp [hi])).1, hs.1 i hi⟩) hs.2 (fun k => by
      have := hk (k + 1)
      simp only [List.take_succ_cons, List.countP_cons] at this
      cases ha : α x <;> cases hb : β x <;> simp only [ha, hb, if_true, if_false, Bool.false_eq_true] at this ⊢ <;> omega)
    have hm : c * w x ≤ c * W := Int.mul_le_mul_of_nonneg_left hx.2 hc
    cases ha : α x <;> cases hb : β x <;> simp only [ha, hb, List.filter_cons, if_true, if_false, List.map_cons, List.sum_cons, Bool.false_eq_true] at ih ⊢
    · rw [show c + 0 - 0 = c by omega] at ih; omega
    · rw [show c + 1 - 0 = c + 1 by omega, Int.add_mul] at ih; omega
    · rw [show c + 0 - 1 = c - 1 by omega, Int.sub_mul] at ih; omega
    · rw [show c + 1 - 1 = c by omega] at ih; omega
theorem sum_perm {l m : List Int} (h : l.Perm m) : l.sum = m.sum := by
  induction h with
  | nil => rfl
  | cons x _ ih => simp [ih]
  | swap x y l => simp; omega
  | trans _ _ h1 h2 => rw [h1, h2]
theorem weigh_perm {S : List Star} {I J : List Nat} (h : I.Perm J) : weigh S I = weigh S J := sum_perm (h.map _)
theorem weigh_append (S : List Star) (I J : List Nat) : weigh S (I ++ J) = weigh S I + weigh S J := by simp [weigh]
theorem choose_append (S : List Star) (p L : Int) (g : List Nat) (wo : Int) (o r : List Nat) : choose S p L g wo (o ++ r) = choose S p L (choose S p L g wo o) wo r := by simp [choose]
theorem choose_sub (S : List Star) (p L : Int) (wo : Int) : ∀ (o g : List Nat), g.Sublist (choose S p L g wo o)
  | [], g => List.Sublist.refl _
  | i :: o, g => by
    have h1 : g.Sublist (take1 S p L wo g i) := by
      rcases take1_or S p L wo g i with e | ⟨e, -⟩
      · rw [e]; exact List.Sublist.refl _
      · rw [e]; exact List.sublist_append_left _ _
    exact h1.trans (choose_sub S p L wo o _)
theorem choose_heavy {S : List Star} {p L : Int} {given : List Nat} {wo : Int} {order : List Nat} (hg : Ind S p L given) (hn : given.Nodup) (no : order.Nodup) (hv : ∀ i, i ∈ given ∨ i ∈ order → (star S i).1 ≤ (star S i).2.1) (hw : ∀ i ∈ order, 0 ≤ (star S i).2.2)
    (hs : order.Pairwise fun i j => (star S j).2.2 ≤ (star S i).2.2) {I : List Nat} (hI : Ind S p L I) (nI : I.Nodup) (hgI : ∀ i ∈ given, i ∈ I) (hin : ∀ i ∈ I, i ∈ given ∨ (i ∈ order ∧ (i : Int) ≠ wo)) : weigh S I ≤ weigh S (choose S p L given wo order) := by
  have hC := Ch.mk' (wo := wo) hg hn order
  have hα : I.Perm (given ++ order.filter fun i => decide (i ∈ I ∧ i ∉ given)) := by
    rw [List.perm_ext_iff_of_nodup nI]
    · intro i
      simp only [List.mem_append, List.mem_filter, decide_eq_true_eq]
      constructor
      · intro h
        by_cases hg : i ∈ given
        · exact .inl hg
        · exact .inr ⟨((hin i h).resolve_left hg).1, h, hg⟩
      · rintro (h | h)
        · exact hgI i h
        · exact h.2.1
    · rw [List.nodup_append]
      refine ⟨hn, no.filter _, fun a ha b hb hab => ?_⟩
      simp only [List.mem_filter, decide_eq_true_eq] at hb
      exact hb.2.2 (hab ▸ ha)
  have hβ : (choose S p L given wo order).Perm (given ++ order.filter fun i => decide (i ∈ choose S p L given wo order ∧ i ∉ given)) := by
    rw [List.perm_ext_iff_of_nodup hC.nodup]
    · intro i
      simp only [List.mem_append, List.mem_filter, decide_eq_true_eq]
      constructor
      · intro h
        by_cases hg : i ∈ given
        · exact .inl hg
        · exact .inr ⟨(hC.from_ i h).resolve_left hg, h, hg⟩
      · rintro (h | h)
        · exact hC.pre.subset h
        · exact h.2.1
    · rw [List.nodup_append]
      refine ⟨hn, no.filter _, fun a ha b hb hab => ?_⟩
      simp only [List.mem_filter, decide_eq_true_eq] at hb
      exact hb.2.2 (hab ▸ ha)
  rw [weigh_perm hα, weigh_perm hβ, weigh_append, weigh_append]
  suffices h : weigh S (order.filter fun i => decide (i ∈ I ∧ i ∉ given)) ≤ weigh S (order.filter fun i => decide (i ∈ choose S p L given wo order ∧ i ∉ given)) by omega
  have hpre : ∀ k, ((order.take k).countP (fun i => decide (i ∈ I ∧ i ∉ given)) : Int) ≤ (order.take k).countP (fun i => decide (i ∈ choose S p L given wo order ∧ i ∉ given)) + 0 := by
    intro k
    have hCk := Ch.mk' (wo := wo) hg hn (order.take k)
    have hsub : (choose S p L given wo (order.take k)).Sublist (choose S p L given wo order) := by
      conv => rhs; rw [← List.take_append_drop k order, choose_append]
      exact choose_sub ..
    have nk : (order.take k).Nodup := no.sublist (List.take_sublist _ _)
    have h1 : (given ++ (order.take k).filter fun i => decide (i ∈ I ∧ i ∉ given)).length ≤ (I.filter fun i => decide (i ∈ given ∨ i ∈ order.take k)).length := by
      refine List.Nodup.length_le_of_subset ?_ ?_
      · rw [List.nodup_append]
        refine ⟨hn, nk.filter _, fun a ha b hb hab => ?_⟩
        simp only [List.mem_filter, decide_eq_true_eq] at hb
        exact hb.2.2 (hab ▸ ha)
      · intro i hi
        simp only [List.mem_append, List.mem_filter, decide_eq_true_eq] at hi ⊢
        rcases hi with hi | hi
        · exact ⟨hgI i hi, .inl hi⟩
        · exact ⟨hi.2.1, .inr hi.1⟩
    have h2 : (I.filter fun i => decide (i ∈ given ∨ i ∈ order.take k)).length ≤ (choose S p L given wo (order.take k)).length := by
      refine hCk.most (fun i hi => hv i (hi.imp id (fun h => List.mem_of_mem_take h))) (hI.sub (List.filter_sublist)) (nI.filter _) (fun i hi => ?_)
      simp only [List.mem_filter, decide_eq_true_eq] at hi
      by_cases hg : i ∈ given
      · exact .inl hg
      · exact .inr ⟨hi.2.resolve_left hg, ((hin i hi.1).resolve_left hg).2⟩
    have h3 : (choose S p L given wo (order.take k)).length ≤ (given ++ (order.take k).filter fun i => decide (i ∈ choose S p L given wo order ∧ i ∉ given)).length := by
      refine List.Nodup.length_le_of_subset hCk.nodup ?_
      intro i hi
      simp only [List.mem_append, List.mem_filter, decide_eq_true_eq]
      by_cases hg : i ∈ given
      · exact .inl hg
      · exact .inr ⟨(hCk.from_ i hi).resolve_left hg, hsub.subset hi, hg⟩
    rw [List.length_append, ← List.countP_eq_length_filter] at h1 h3
    omega
  cases order with
  | nil => simp [weigh]
  | cons x l =>
    rw [List.pairwise_cons] at hs
    have hx := hw x (by simp)
    have := sum_le (fun i => (star S i).2.2) (fun i => decide (i ∈ I ∧ i ∉ given)) (fun i => decide (i ∈ choose S p L given wo (x :: l) ∧ i ∉ given)) (x :: l) 0 (star S x).2.2 (by omega) hx (fun i hi => ⟨hw i hi, by
      rcases List.mem_cons.1 hi with rfl | hi
      · omega
      · exact hs.1 i hi⟩) (by rw [List.pairwise_cons]; exact hs) hpre
    simpa [weigh] using this
end P
end Go.Proofs.Ytpkffjcmoghaaaa
