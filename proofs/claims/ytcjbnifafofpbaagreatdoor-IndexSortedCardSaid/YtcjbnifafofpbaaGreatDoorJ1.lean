/- One text of XA, XB, XC, XD, XE, XF, XG, XH, XI, XJ, XK. -/
/- Plain Lean: the order of words, by their bytes. -/
namespace X
abbrev W := List UInt8
/-- A word comes before another one. -/
def lt : W → W → Bool
  | _, [] => false
  | [], _ :: _ => true
  | a :: x, b :: y => decide (a < b) || (!decide (b < a) && lt x y)
theorem lt_irrefl : ∀ x : W, lt x x = false
  | [] => rfl
  | a :: x => by simp [lt, lt_irrefl x]
theorem u8_trans {a b c : UInt8} (h : a < b) (k : b < c) : a < c := by rw [UInt8.lt_iff_toNat_lt] at *; omega
theorem u8_eq {a b : UInt8} (h : ¬ a < b) (k : ¬ b < a) : a = b := by
  rw [UInt8.lt_iff_toNat_lt] at *
  exact UInt8.toNat_inj.1 (by omega)
theorem u8_asymm {a b : UInt8} (h : a < b) : ¬ b < a := by rw [UInt8.lt_iff_toNat_lt] at *; omega
theorem lt_cons {a b : UInt8} {x y : W} : lt (a :: x) (b :: y) = true ↔ a < b ∨ a = b ∧ lt x y = true := by
  simp only [lt, Bool.or_eq_true, decide_eq_true_eq, Bool.and_eq_true, Bool.not_eq_true', decide_eq_false_iff_not]
  constructor
  · rintro (h | ⟨h, k⟩)
    · exact .inl h
    · by_cases hab : a < b
      · exact .inl hab
      · exact .inr ⟨u8_eq hab h, k⟩
  · rintro (h | ⟨rfl, k⟩)
    · exact .inl h
    · exact .inr ⟨by rw [UInt8.lt_iff_toNat_lt]; omega, k⟩
theorem lt_trans : ∀ {x y z : W}, lt x y = true → lt y z = true → lt x z = true
  | _, [], _, h, _ => by simp [lt] at h
  | _, _ :: _, [], _, h => by simp [lt] at h
  | [], _ :: _, _ :: _, _, _ => rfl
  | a :: x, b :: y, c :: z, h, k => by
    rw [lt_cons] at *
    rcases h with h | ⟨rfl, h⟩
    · rcases k with k | ⟨rfl, _⟩
      · exact .inl (u8_trans h k)
      · exact .inl h
    · rcases k with k | ⟨rfl, k⟩
      · exact .inl k
      · exact .inr ⟨rfl, lt_trans h k⟩
theorem lt_asymm {x y : W} (h : lt x y = true) : lt y x = false := by
  cases k : lt y x with
  | false => rfl
  | true => have := lt_trans h k; rw [lt_irrefl] at this; cases this
theorem lt_ne {x y : W} (h : lt x y = true) : x ≠ y := fun e => by rw [e, lt_irrefl] at h; cases h
theorem lt_total : ∀ (x y : W), lt x y = true ∨ x = y ∨ lt y x = true
  | [], [] => .inr (.inl rfl)
  | [], _ :: _ => .inl rfl
  | _ :: _, [] => .inr (.inr rfl)
  | a :: x, b :: y => by
    rw [lt_cons, lt_cons]
    by_cases h : a < b
    · exact .inl (.inl h)
    · by_cases k : b < a
      · exact .inr (.inr (.inl k))
      · have := u8_eq h k
        subst this
        rcases lt_total x y with h2 | rfl | h2
        · exact .inl (.inr ⟨rfl, h2⟩)
        · exact .inr (.inl rfl)
        · exact .inr (.inr (.inr ⟨rfl, h2⟩))
theorem lt_append (u : W) {x y : W} : lt (u ++ x) (u ++ y) = lt x y := by
  induction u with
  | nil => rfl
  | cons a u ih =>
    show lt (a :: (u ++ x)) (a :: (u ++ y)) = _
    simp [lt, ih]
theorem lt_front (u : W) (c : UInt8) (v : W) : lt u (u ++ c :: v) = true := by
  have := lt_append u (x := []) (y := c :: v)
  rw [List.append_nil] at this
  rw [this]; rfl
theorem lt_prefix {x y : W} (h : x <+: y) (hne : x ≠ y) : lt x y = true := by
  obtain ⟨t, rfl⟩ := h
  cases t with
  | nil => simp at hne
  | cons c v => exact lt_front x c v
theorem lt_not_nil (x : W) : lt x [] = false := by cases x <;> rfl
/-- Beginnings of two words: the one that does not begin the lesser word comes behind. -/
theorem lt_begins : ∀ {x y t s : W}, lt t s = true → x <+: t → y <+: s → ¬ y <+: t → lt x y = true
  | _, [], t, _, _, _, _, hn => absurd (List.nil_prefix) hn
  | [], _ :: _, _, _, _, _, _, _ => rfl
  | a :: x, b :: y, t, s, h, hx, hy, hn => by
    obtain ⟨t', rfl⟩ := hx
    obtain ⟨s', rfl⟩ := hy
    simp only [List.cons_append] at h hn
    rw [lt_cons] at h ⊢
    rcases h with h | ⟨rfl, h⟩
    · exact .inl h
    · exact .inr ⟨rfl, lt_begins h (List.prefix_append _ _) (List.prefix_append _ _) (fun hp => hn (by rw [List.cons_prefix_cons]; exact ⟨rfl, hp⟩))⟩
/-- Strictly rising. -/
def Rises (l : List W) : Prop := l.Pairwise (fun x y => lt x y = true)
theorem Rises.nodup {l : List W} (h : Rises l) : l.Nodup := List.Pairwise.imp (fun h => lt_ne h) h
/-- Two lists that rise by an order with the same members are equal. -/
theorem sorted_unique {α : Type} (r : α → α → Prop) (asymm : ∀ x y, r x y → ¬ r y x) : ∀ {a b : List α}, a.Pairwise r → b.Pairwise r → (∀ x, x ∈ a ↔ x ∈ b) → a = b
  | [], [], _, _, _ => rfl
  | [], y :: b, _, _, h => absurd ((h y).2 (by simp)) (by simp)
  | x :: a, [], _, _, h => absurd ((h x).1 (by simp)) (by simp)
  | x :: a, y :: b, ha, hb, h => by
    rw [List.pairwise_cons] at ha hb
    have irr : ∀ z, ¬ r z z := fun z hz => asymm z z hz hz
    have e : x = y := by
      rcases List.mem_cons.1 ((h x).1 (by simp)) with e | hx
      · exact e
      · rcases List.mem_cons.1 ((h y).2 (by simp)) with e | hy
        · exact e.symm
        · exact absurd (hb.1 x hx) (asymm _ _ (ha.1 y hy))
    subst e
    rw [sorted_unique r asymm ha.2 hb.2 (fun z => ?_)]
    constructor
    · intro hz
      rcases List.mem_cons.1 ((h z).1 (List.mem_cons_of_mem _ hz)) with e | h2
      · subst e; exact absurd (ha.1 z hz) (irr z)
      · exact h2
    · intro hz
      rcases List.mem_cons.1 ((h z).2 (List.mem_cons_of_mem _ hz)) with e | h2
      · subst e; exact absurd (hb.1 z hz) (irr z)
      · exact h2
theorem Rises.unique {a b : List W} (ha : Rises a) (hb : Rises b) (h : ∀ x, x ∈ a ↔ x ∈ b) : a = b :=
  sorted_unique _ (fun x y h k => by rw [lt_asymm h] at k; cases k) ha hb h
end X
/- Plain Lean: lists of names, endings of words, and the least beginning of each set of endings. -/
namespace X
/-- All endings that make a word into a name, in the order of the names. -/
def ends (l : List W) (w : W) : List W := (l.filter (fun s => w.isPrefixOf s)).map (fun s => s.drop w.length)
theorem mem_ends {l : List W} {w e : W} : e ∈ ends l w ↔ w ++ e ∈ l := by
  unfold ends
  simp only [List.mem_map, List.mem_filter, List.isPrefixOf_iff_prefix]
  constructor
  · rintro ⟨s, ⟨hs, t, rfl⟩, rfl⟩
    simpa using hs
  · intro h
    exact ⟨w ++ e, ⟨h, List.prefix_append _ _⟩, by simp⟩
theorem ends_rises {l : List W} (h : Rises l) (w : W) : Rises (ends l w) := by
  unfold ends Rises
  rw [List.pairwise_map]
  refine List.Pairwise.imp_of_mem ?_ (List.Pairwise.filter _ h)
  intro a b ha hb hab
  simp only [List.mem_filter, List.isPrefixOf_iff_prefix] at ha hb
  obtain ⟨-, t, rfl⟩ := ha
  obtain ⟨-, u, rfl⟩ := hb
  rw [lt_append] at hab
  simpa using hab
theorem ends_ends (l : List W) (u c : W) : ends (ends l u) c = ends l (u ++ c) := by
  unfold ends
  rw [List.filter_map, List.map_map]
  simp only [List.filter_filter]
  have : l.filter (fun a => ((fun s => c.isPrefixOf s) ∘ fun s => List.drop u.length s) a && u.isPrefixOf a) = l.filter (fun s => (u ++ c).isPrefixOf s) := by
    apply List.filter_congr
    intro s _
    rw [Bool.eq_iff_iff]
    simp only [Function.comp, Bool.and_eq_true, List.isPrefixOf_iff_prefix]
    constructor
    · rintro ⟨h, t, rfl⟩
      obtain ⟨v, hv⟩ := h
      rw [List.drop_left] at hv
      exact ⟨v, by rw [List.append_assoc, hv]⟩
    · rintro ⟨v, rfl⟩
      exact ⟨⟨v, by rw [List.append_assoc, List.drop_left]⟩, ⟨c ++ v, by simp⟩⟩
  rw [this]
  apply List.map_congr_left
  intro s _
  simp [Function.comp, List.drop_drop]
theorem ends_nil (l : List W) : ends l [] = l := by
  unfold ends
  rw [List.filter_eq_self.2 (fun s _ => by simp)]
  simp
theorem ends_eq {l : List W} (h : Rises l) {u v : W} : ends l u = ends l v ↔ ∀ e, u ++ e ∈ l ↔ v ++ e ∈ l := by
  constructor
  · intro he e; rw [← mem_ends, ← mem_ends, he]
  · intro he
    exact (ends_rises h u).unique (ends_rises h v) (fun e => by rw [mem_ends, mem_ends]; exact he e)
theorem ends_empty {l : List W} {u : W} : ends l u = [] ↔ ∀ e, u ++ e ∉ l := by
  rw [List.eq_nil_iff_forall_not_mem]
  constructor
  · intro h e he; exact h e (mem_ends.2 he)
  · intro h e he; exact h e (mem_ends.1 he)
/-- The words that are looked at, in order: the empty one, then the beginnings of each name. -/
def begs (s : W) : List W := (List.range s.length).map (fun n => s.take (n + 1))
theorem mem_begs {s w : W} : w ∈ begs s ↔ w ≠ [] ∧ w <+: s := by
  unfold begs
  simp only [List.mem_map, List.mem_range]
  constructor
  · rintro ⟨n, hn, rfl⟩
    refine ⟨fun e => ?_, List.take_prefix _ _⟩
    have := congrArg List.length e
    simp only [List.length_take, List.length_nil] at this; omega
  · rintro ⟨h0, h⟩
    have hl : 0 < w.length := List.length_pos_iff.2 h0
    have hl2 := h.length_le
    exact ⟨w.length - 1, by omega, by rw [show w.length - 1 + 1 = w.length by omega]; exact (List.prefix_iff_eq_take.1 h).symm⟩
def scan (l : List W) : List W := [] :: l.flatMap begs
theorem mem_scan {l : List W} {w : W} : w ∈ scan l ↔ w = [] ∨ ∃ s, s ∈ l ∧ w <+: s := by
  unfold scan
  simp only [List.mem_cons, List.mem_flatMap, mem_begs]
  constructor
  · rintro (h | ⟨s, hs, h0, h⟩)
    · exact .inl h
    · exact .inr ⟨s, hs, h⟩
  · rintro (h | ⟨s, hs, h⟩)
    · exact .inl h
    · by_cases h0 : w = []
      · exact .inl h0
      · exact .inr ⟨s, hs, h0, h⟩
/-- A word comes up that was not there before: it is behind all that were. -/
def Fresh (q : List W) : Prop := ∀ pre y post, q = pre ++ y :: post → y ∉ pre → ∀ x ∈ pre, lt x y = true
theorem begs_fresh (s : W) : ∀ pre y post, begs s = pre ++ y :: post → (∀ x ∈ pre, lt x y = true) ∧ y ∈ begs s := by
  intro pre y post h
  have hy : y ∈ begs s := by rw [h]; simp
  refine ⟨fun x hx => ?_, hy⟩
  have hpw : (begs s).Pairwise (fun a b => lt a b = true) := by
    unfold begs
    rw [List.pairwise_map]
    refine List.Pairwise.imp_of_mem ?_ (List.pairwise_lt_range (n := s.length))
    intro a b ha hb hab
    simp only [List.mem_range] at ha hb
    refine lt_prefix ⟨(s.take (b + 1)).drop (a + 1), ?_⟩ (fun e => ?_)
    · have : s.take (a + 1) = (s.take (b + 1)).take (a + 1) := by rw [List.take_take, Nat.min_eq_left (by omega)]
      rw [this, List.take_append_drop]
    · have := congrArg List.length e
      simp at this; omega
  rw [h] at hpw
  exact (List.pairwise_append.1 hpw).2.2 x hx y (by simp)
theorem scan_fresh {l : List W} (hl : Rises l) : Fresh (scan l) := by
  have main : ∀ (l : List W), Rises l → ∀ pre y post, l.flatMap begs = pre ++ y :: post → y ∉ pre → ∀ x ∈ pre, lt x y = true := by
    intro l
    induction l with
    | nil => intro _ pre y post h; simp at h
    | cons s r ih =>
      intro hr pre y post h hy x hx
      rw [List.flatMap_cons] at h
      have hr' := List.pairwise_cons.1 hr
      rcases List.append_eq_append_iff.1 h with ⟨a, h1, h2⟩ | ⟨c, h1, h2⟩
      · subst h1
        rw [List.mem_append] at hy
        have hya : y ∉ a := fun h => hy (.inr h)
        have hys : y ∉ begs s := fun h => hy (.inl h)
        rcases List.mem_append.1 hx with hx | hx
        · have hyr : y ∈ r.flatMap begs := by rw [h2]; simp
          obtain ⟨t, ht, hyt⟩ := List.mem_flatMap.1 hyr
          have k1 := mem_begs.1 hyt
          exact lt_begins (hr'.1 t ht) (mem_begs.1 hx).2 k1.2 (fun hp => hys (mem_begs.2 ⟨k1.1, hp⟩))
        · exact ih hr'.2 a y post h2 hya x hx
      · cases c with
        | nil =>
          simp at h2
          rw [List.append_nil] at h1
          have hyr : y ∈ r.flatMap begs := by rw [← h2]; simp
          obtain ⟨t, ht, hyt⟩ := List.mem_flatMap.1 hyr
          have k1 := mem_begs.1 hyt
          rw [← h1] at hy hx
          exact lt_begins (hr'.1 t ht) (mem_begs.1 hx).2 k1.2 (fun hp => hy (mem_begs.2 ⟨k1.1, hp⟩))
        | cons z c =>
          simp at h2
          obtain ⟨rfl, -⟩ := h2
          exact (begs_fresh s pre y c h1).1 x hx
  intro pre y post h hy x hx
  unfold scan at h
  cases pre with
  | nil => cases hx
  | cons z pre =>
    simp at h
    obtain ⟨rfl, h⟩ := h
    simp only [List.mem_cons, not_or] at hy
    rcases List.mem_cons.1 hx with rfl | hx
    · exact lt_prefix (List.nil_prefix) (fun e => hy.1 e.symm)
    · exact main l hl pre y post h hy.2 x hx
/-- Each word alone that is the first with its endings. -/
def keepStep (l : List W) (out : List W) (w : W) : List W := if out.any (fun v => ends l v == ends l w) then out else out ++ [w]
def firsts (l : List W) : List W := (l.flatMap begs).foldl (keepStep l) [[]]
/-- What is kept of a part of the words that are looked at. -/
structure Kept (l : List W) (pre out : List W) : Prop where
  rises : Rises out
  sub : ∀ w ∈ out, w ∈ pre
  all : ∀ w ∈ pre, ∃ v ∈ out, ends l v = ends l w
  uniq : ∀ v ∈ out, ∀ w ∈ out, ends l v = ends l w → v = w
  least : ∀ v ∈ out, ∀ w ∈ pre, ends l w = ends l v → lt w v = false
theorem kept_fold {l : List W} (hl : Rises l) : ∀ (pre q : List W) (out : List W), pre ++ q = scan l → Kept l pre out → Kept l (scan l) (q.foldl (keepStep l) out)
  | pre, [], out, h, hk => by rw [List.append_nil] at h; subst h; exact hk
  | pre, w :: q, out, h, hk => by
    rw [List.foldl_cons]
    refine kept_fold hl (pre ++ [w]) q _ (by simp [h]) ?_
    unfold keepStep
    have hfresh := scan_fresh hl pre w q h.symm
    split
    · rename_i ha
      simp only [List.any_eq_true, beq_iff_eq] at ha
      obtain ⟨v, hv, he⟩ := ha
      refine ⟨hk.rises, fun x hx => List.mem_append_left _ (hk.sub x hx), fun x hx => ?_, hk.uniq, fun x hx y hy he2 => ?_⟩
      · rcases List.mem_append.1 hx with hx | hx
        · exact hk.all x hx
        · rw [List.mem_singleton] at hx; subst hx; exact ⟨v, hv, he⟩
      · rcases List.mem_append.1 hy with hy | hy
        · exact hk.least x hx y hy he2
        · rw [List.mem_singleton] at hy; subst hy
          by_cases hyp : y ∈ pre
          · exact hk.least x hx y hyp he2
          · exact lt_asymm (hfresh hyp x (hk.sub x hx))
    · rename_i ha
      have hne : ∀ v ∈ out, ends l v ≠ ends l w := fun v hv he => ha (by simp only [List.any_eq_true, beq_iff_eq]; exact ⟨v, hv, he⟩)
      have hwp : w ∉ pre := fun hw => by obtain ⟨v, hv, he⟩ := hk.all w hw; exact hne v hv he
      have hlt := hfresh hwp
      refine ⟨?_, fun x hx => ?_, fun x hx => ?_, fun v hv x hx he => ?_, fun x hx y hy he => ?_⟩
      · unfold Rises
        rw [List.pairwise_append]
        exact ⟨hk.rises, by simp, fun a ha' b hb => by rw [List.mem_singleton.1 hb]; exact hlt a (hk.sub a ha')⟩
      · rcases List.mem_append.1 hx with h1 | h1
        · exact List.mem_append_left _ (hk.sub x h1)
        · exact List.mem_append_right _ h1
      · rcases List.mem_append.1 hx with h1 | h1
        · obtain ⟨v, hv, he⟩ := hk.all x h1; exact ⟨v, List.mem_append_left _ hv, he⟩
        · rw [List.mem_singleton.1 h1]; exact ⟨w, by simp, rfl⟩
      · rcases List.mem_append.1 hv with h1 | h1
        · rcases List.mem_append.1 hx with h2 | h2
          · exact hk.uniq v h1 x h2 he
          · rw [List.mem_singleton.1 h2] at he; exact absurd he (hne v h1)
        · rcases List.mem_append.1 hx with h2 | h2
          · rw [List.mem_singleton.1 h1] at he; exact absurd he.symm (hne x h2)
          · rw [List.mem_singleton.1 h1, List.mem_singleton.1 h2]
      · rcases List.mem_append.1 hx with h1 | h1
        · rcases List.mem_append.1 hy with h2 | h2
          · exact hk.least x h1 y h2 he
          · rw [List.mem_singleton.1 h2] at he; exact absurd he.symm (hne x h1)
        · rcases List.mem_append.1 hy with h2 | h2
          · rw [List.mem_singleton.1 h1] at he
            obtain ⟨v, hv, hev⟩ := hk.all y h2
            exact absurd (hev.trans he) (hne v hv)
          · rw [List.mem_singleton.1 h1, List.mem_singleton.1 h2]; exact lt_irrefl _
theorem firsts_kept {l : List W} (hl : Rises l) : Kept l (scan l) (firsts l) :=
  kept_fold hl [[]] (l.flatMap begs) [[]] rfl ⟨by simp [Rises], fun w h => h, fun w h => ⟨w, h, rfl⟩, fun v hv w hw _ => by simp at hv hw; rw [hv, hw], fun v hv w hw _ => by simp at hv hw; rw [hv, hw]; rfl⟩
/-- The least word of all with its endings. -/
def IsLeast (l : List W) (w : W) : Prop := w ∈ scan l ∧ ∀ v ∈ scan l, ends l v = ends l w → lt v w = false
theorem mem_firsts {l : List W} (hl : Rises l) {w : W} : w ∈ firsts l ↔ IsLeast l w := by
  have hk := firsts_kept hl
  constructor
  · intro hw; exact ⟨hk.sub w hw, fun v hv he => hk.least w hw v hv he⟩
  · rintro ⟨h1, h2⟩
    obtain ⟨v, hv, he⟩ := hk.all w h1
    have a1 := hk.least v hv w h1 he.symm
    have a2 := h2 v (hk.sub v hv) he
    rcases lt_total v w with h | rfl | h
    · rw [h] at a2; cases a2
    · exact hv
    · rw [h] at a1; cases a1
/-- The length of the longest word. -/
def longest (l : List W) : Nat := (l.map List.length).foldl max 0
theorem foldl_max (l : List Nat) : ∀ m, m ≤ l.foldl max m ∧ (∀ x ∈ l, x ≤ l.foldl max m) ∧ (l.foldl max m = m ∨ l.foldl max m ∈ l) := by
  induction l with
  | nil => intro m; exact ⟨Nat.le_refl _, fun x h => by simp at h, .inl rfl⟩
  | cons y r ih =>
    intro m
    obtain ⟨h1, h2, h3⟩ := ih (max m y)
    rw [List.foldl_cons]
    refine ⟨Nat.le_trans (Nat.le_max_left _ _) h1, fun x hx => ?_, ?_⟩
    · rcases List.mem_cons.1 hx with rfl | hx
      · exact Nat.le_trans (Nat.le_max_right _ _) h1
      · exact h2 x hx
    · rcases h3 with h3 | h3
      · rw [h3]
        rcases Nat.le_total m y with h | h
        · rw [Nat.max_eq_right h]; exact .inr (by simp)
        · rw [Nat.max_eq_left h]; exact .inl rfl
      · exact .inr (List.mem_cons_of_mem _ h3)
theorem longest_le {l : List W} {w : W} (h : w ∈ l) : w.length ≤ longest l := (foldl_max _ 0).2.1 _ (List.mem_map_of_mem h)
theorem longest_bd {l : List W} {n : Nat} (h : ∀ w ∈ l, w.length ≤ n) : longest l ≤ n := by
  rcases (foldl_max (l.map List.length) 0).2.2 with e | e
  · unfold longest; rw [e]; omega
  · obtain ⟨w, hw, hl⟩ := List.mem_map.1 e
    unfold longest; rw [← hl]; exact h w hw
theorem longest_ex {l : List W} (h : l ≠ []) : ∃ w ∈ l, w.length = longest l := by
  rcases (foldl_max (l.map List.length) 0).2.2 with e | e
  · cases l with
    | nil => exact absurd rfl h
    | cons w r =>
      refine ⟨w, by simp, ?_⟩
      have := longest_le (l := w :: r) (w := w) (by simp)
      unfold longest at this ⊢
      omega
  · obtain ⟨w, hw, hl⟩ := List.mem_map.1 e
    exact ⟨w, hw, hl⟩
/-- Those with longer endings first; of those as long, in their order. -/
def before (l : List W) (u v : W) : Prop := longest (ends l v) < longest (ends l u) ∨ longest (ends l u) = longest (ends l v) ∧ lt u v = true
theorem before_asymm {l : List W} (x y : W) (h : before l x y) : ¬ before l y x := by
  rintro (k | ⟨k, k2⟩)
  · rcases h with h | ⟨h, -⟩ <;> omega
  · rcases h with h | ⟨h, h2⟩
    · omega
    · rw [lt_asymm h2] at k2; cases k2
/-- The first words of the states, in their order. -/
def tops (l : List W) : List W := ((List.range 11).reverse).flatMap (fun n => (firsts l).filter (fun w => longest (ends l w) == n))
theorem mem_tops {l : List W} (hb : ∀ s ∈ l, s.length ≤ 10) {w : W} : w ∈ tops l ↔ w ∈ firsts l := by
  unfold tops
  simp only [List.mem_flatMap, List.mem_reverse, List.mem_range, List.mem_filter, beq_iff_eq]
  constructor
  · rintro ⟨n, hn, h, -⟩; exact h
  · intro h
    refine ⟨_, ?_, h, rfl⟩
    have : longest (ends l w) ≤ 10 := longest_bd (fun e he => by have := hb _ (mem_ends.1 he); simp at this; omega)
    omega
theorem tops_sorted {l : List W} (hl : Rises l) : (tops l).Pairwise (before l) := by
  unfold tops
  rw [List.flatMap, List.pairwise_flatten]
  refine ⟨fun x hx => ?_, ?_⟩
  · simp only [List.mem_map] at hx
    obtain ⟨n, -, rfl⟩ := hx
    refine List.Pairwise.imp_of_mem ?_ (List.Pairwise.filter _ (firsts_kept hl).rises)
    intro a b ha hb hab
    simp only [List.mem_filter, beq_iff_eq] at ha hb
    exact .inr ⟨ha.2.trans hb.2.symm, hab⟩
  · rw [List.pairwise_map, List.pairwise_reverse]
    refine List.Pairwise.imp ?_ (List.pairwise_lt_range (n := 11))
    intro a b hab x hx y hy
    simp only [List.mem_filter, beq_iff_eq] at hx hy
    exact .inl (by omega)
/-- What the program has: any list in the order with the least words in it. -/
theorem tops_unique {l : List W} (hl : Rises l) (hb : ∀ s ∈ l, s.length ≤ 10) {T : List W} (hT : T.Pairwise (before l)) (hm : ∀ w, w ∈ T ↔ IsLeast l w) : T = tops l :=
  sorted_unique (before l) before_asymm hT (tops_sorted hl) (fun w => by rw [hm, mem_tops hb, mem_firsts hl])
end X
/- Plain Lean: automata, what they read, and the least automaton of a list. -/
namespace X
/-- A state: whether a name ends there, and by which letters one comes to which states. -/
structure St where
  ends : Int
  letters : W
  next : List Int
deriving DecidableEq
def nil_ : St := ⟨0, [], []⟩
def at_ (s : List St) (i : Nat) : St := s.getD i nil_
def letter (b : UInt8) : Bool := decide (97 ≤ b.toNat) && decide (b.toNat ≤ 122)
def letters (w : W) : Bool := w.all letter
/-- Strictly rising letters. -/
def Up (w : W) : Prop := w.Pairwise (fun a b => a < b)
/-- A valid automaton. -/
structure Auto (s : List St) : Prop where
  n1 : 1 ≤ s.length
  n2 : s.length ≤ 301
  en : ∀ x ∈ s, x.ends = 0 ∨ x.ends = 1
  eq : ∀ x ∈ s, x.letters.length = x.next.length
  lt : ∀ x ∈ s, letters x.letters = true
  up : ∀ x ∈ s, Up x.letters
  nx : ∀ i, i < s.length → ∀ n ∈ (at_ s i).next, (i : Int) < n ∧ n < s.length
theorem at_mem {s : List St} {i : Nat} (h : i < s.length) : at_ s i ∈ s := by
  have : at_ s i = s[i] := by simp [at_, h]
  rw [this]; exact List.getElem_mem h
/-- What is read from a state, in order. -/
def words (s : List St) : Nat → Nat → List W
  | 0, _ => []
  | f + 1, i => (if (at_ s i).ends = 1 then [[]] else []) ++ ((at_ s i).letters.zip (at_ s i).next).flatMap (fun p => (words s f p.2.toNat).map (p.1 :: ·))
theorem words_fuel {s : List St} (h : Auto s) : ∀ (f g i : Nat), i < s.length → s.length - i ≤ f → s.length - i ≤ g → words s f i = words s g i := by
  intro f
  induction f with
  | zero => intro g i hi hf; omega
  | succ f ih =>
    intro g i hi hf hg
    cases g with
    | zero => omega
    | succ g =>
      show _ ++ _ = _ ++ _
      congr 1
      have : ∀ p ∈ (at_ s i).letters.zip (at_ s i).next, (words s f p.2.toNat).map (p.1 :: ·) = (words s g p.2.toNat).map (p.1 :: ·) := by
        intro p hp
        have hn := h.nx i hi p.2 (List.of_mem_zip hp).2
        rw [ih g p.2.toNat (by omega) (by omega) (by omega)]
      rw [List.flatMap, List.flatMap, List.map_congr_left this]
/-- What is read from a state of a valid automaton. -/
def reads (s : List St) (i : Nat) : List W := words s 400 i
theorem reads_eq {s : List St} (h : Auto s) {i : Nat} (hi : i < s.length) : reads s i = (if (at_ s i).ends = 1 then [[]] else []) ++ ((at_ s i).letters.zip (at_ s i).next).flatMap (fun p => (reads s p.2.toNat).map (p.1 :: ·)) := by
  have e : reads s i = words s 401 i := words_fuel h _ _ i hi (by have := h.n2; omega) (by have := h.n2; omega)
  rw [e]; rfl
theorem up_nodup {w : W} (h : Up w) : w.Nodup := List.Pairwise.imp (fun h e => by rw [e, UInt8.lt_iff_toNat_lt] at h; omega) h
/-- A letter leads to one state alone. -/
theorem zip_one {w : W} (h : w.Nodup) : ∀ {l : List Int} {c : UInt8} {m n : Int}, (c, m) ∈ w.zip l → (c, n) ∈ w.zip l → m = n := by
  induction w with
  | nil => intro l c m n h; simp at h
  | cons a r ih =>
    intro l c m n h1 h2
    rw [List.nodup_cons] at h
    cases l with
    | nil => simp at h1
    | cons b q =>
      simp only [List.zip_cons_cons, List.mem_cons, Prod.mk.injEq] at h1 h2
      rcases h1 with ⟨rfl, rfl⟩ | h1
      · rcases h2 with ⟨_, rfl⟩ | h2
        · rfl
        · exact absurd (List.of_mem_zip h2).1 h.1
      · rcases h2 with ⟨rfl, rfl⟩ | h2
        · exact absurd (List.of_mem_zip h1).1 h.1
        · exact ih h.2 h1 h2
theorem mem_reads_nil {s : List St} (h : Auto s) {i : Nat} (hi : i < s.length) : [] ∈ reads s i ↔ (at_ s i).ends = 1 := by
  rw [reads_eq h hi]
  simp only [List.mem_append, List.mem_flatMap, List.mem_map]
  constructor
  · rintro (h | ⟨p, _, w, _, e⟩)
    · by_cases he : (at_ s i).ends = 1
      · exact he
      · rw [if_neg he] at h; cases h
    · cases e
  · intro he; rw [if_pos he]; exact .inl (by simp)
theorem mem_reads_cons {s : List St} (h : Auto s) {i : Nat} (hi : i < s.length) {c : UInt8} {w : W} : c :: w ∈ reads s i ↔ ∃ n : Int, (c, n) ∈ (at_ s i).letters.zip (at_ s i).next ∧ w ∈ reads s n.toNat := by
  rw [reads_eq h hi]
  simp only [List.mem_append, List.mem_flatMap, List.mem_map]
  constructor
  · rintro (h | ⟨p, hp, v, hv, e⟩)
    · split at h <;> simp at h
    · cases e; exact ⟨p.2, hp, hv⟩
  · rintro ⟨n, h1, h2⟩; exact .inr ⟨_, h1, w, h2, rfl⟩
theorem reads_rises {s : List St} (h : Auto s) : ∀ (k i : Nat), i < s.length → s.length - i ≤ k → Rises (reads s i) := by
  intro k
  induction k with
  | zero => intro i hi hk; omega
  | succ k ih =>
    intro i hi hk
    rw [reads_eq h hi]
    unfold Rises
    rw [List.pairwise_append]
    refine ⟨by split <;> simp, ?_, fun a ha b hb => ?_⟩
    · rw [List.flatMap, List.pairwise_flatten]
      have hup := h.up _ (at_mem hi)
      have hnx := h.nx i hi
      generalize (at_ s i).letters = A at *
      generalize (at_ s i).next = N at *
      refine ⟨fun x hx => ?_, ?_⟩
      · obtain ⟨p, hp, rfl⟩ := List.mem_map.1 hx
        have hn := hnx p.2 (List.of_mem_zip hp).2
        rw [List.pairwise_map]
        exact List.Pairwise.imp (fun h => lt_cons.2 (.inr ⟨rfl, h⟩)) (ih p.2.toNat (by omega) (by omega))
      · rw [List.pairwise_map]
        clear hnx
        induction A generalizing N with
        | nil => simp
        | cons a r ihA =>
          cases N with
          | nil => simp
          | cons n N =>
            unfold Up at hup
            rw [List.pairwise_cons] at hup
            rw [List.zip_cons_cons, List.pairwise_cons]
            refine ⟨fun p hp x hx y hy => ?_, ihA hup.2 N⟩
            obtain ⟨u, -, rfl⟩ := List.mem_map.1 hx
            obtain ⟨v, -, rfl⟩ := List.mem_map.1 hy
            exact lt_cons.2 (.inl (hup.1 _ (List.of_mem_zip hp).1))
    · split at ha
      · rw [List.mem_singleton.1 ha]
        simp only [List.mem_flatMap, List.mem_map] at hb
        obtain ⟨p, -, w, -, rfl⟩ := hb
        rfl
      · cases ha
theorem reads_letters {s : List St} (h : Auto s) : ∀ (k i : Nat), i < s.length → s.length - i ≤ k → ∀ w ∈ reads s i, letters w = true := by
  intro k
  induction k with
  | zero => intro i hi hk; omega
  | succ k ih =>
    intro i hi hk w hw
    cases w with
    | nil => rfl
    | cons c w =>
      obtain ⟨n, h1, h2⟩ := (mem_reads_cons h hi).1 hw
      have hn := h.nx i hi n (List.of_mem_zip h1).2
      have := ih n.toNat (by omega) (by omega) w h2
      unfold letters at *
      rw [List.all_cons, this, Bool.and_true]
      exact List.all_eq_true.1 (h.lt _ (at_mem hi)) _ (List.of_mem_zip h1).1
/-- The state to which one comes by a word. -/
def go (s : List St) : Nat → W → Option Nat
  | i, [] => some i
  | i, c :: w => match ((at_ s i).letters.zip (at_ s i).next).find? (fun p => p.1 == c) with
    | some p => go s p.2.toNat w
    | none => none
theorem go_reads {s : List St} (h : Auto s) : ∀ (w : W) (i : Nat), i < s.length → (∃ e, w ++ e ∈ reads s i) → ∃ k, k < s.length ∧ go s i w = some k ∧ ∀ e, e ∈ reads s k ↔ w ++ e ∈ reads s i
  | [], i, hi, _ => ⟨i, hi, rfl, fun e => Iff.rfl⟩
  | c :: w, i, hi, ⟨e, he⟩ => by
    obtain ⟨n, h1, h2⟩ := (mem_reads_cons h hi).1 he
    have hn := h.nx i hi n (List.of_mem_zip h1).2
    obtain ⟨k, hk, hg, hr⟩ := go_reads h w n.toNat (by omega) ⟨e, h2⟩
    have hnd := up_nodup (h.up _ (at_mem hi))
    refine ⟨k, hk, ?_, fun e' => ?_⟩
    · show (match ((at_ s i).letters.zip (at_ s i).next).find? (fun p => p.1 == c) with | some p => go s p.2.toNat w | none => none) = some k
      cases hf : ((at_ s i).letters.zip (at_ s i).next).find? (fun p => p.1 == c) with
      | none =>
        have := List.find?_eq_none.1 hf _ h1
        simp at this
      | some p =>
        have hp := List.mem_of_find?_eq_some hf
        have hc := List.find?_some hf
        simp only [beq_iff_eq] at hc
        obtain ⟨c', m⟩ := p
        simp only at hc
        subst hc
        have := zip_one hnd h1 hp
        subst this
        exact hg
    · rw [hr, List.cons_append, mem_reads_cons h hi]
      constructor
      · intro h3; exact ⟨n, h1, h3⟩
      · rintro ⟨m, h3, h4⟩
        rw [zip_one hnd h1 h3]; exact h4
theorem nodup_lt : ∀ (n : Nat) (l : List Nat), l.Nodup → (∀ x ∈ l, x < n) → l.length ≤ n
  | 0, l, _, h => by
    cases l with
    | nil => simp
    | cons x r => have := h x (by simp); omega
  | n + 1, l, hn, h => by
    have := nodup_lt n (l.erase n) (hn.erase n) (fun x hx => by
      have h1 := (hn.mem_erase_iff.1 hx)
      have := h x h1.2
      have := h1.1
      omega)
    rw [List.length_erase] at this
    split at this <;> omega
theorem nodup_map_le {α : Type} {T : List α} {n : Nat} (f : α → Nat) (hn : T.Nodup) (hf : ∀ x ∈ T, f x < n) (hi : ∀ x ∈ T, ∀ y ∈ T, f x = f y → x = y) : T.length ≤ n := by
  have h1 : (T.map f).Nodup := by
    rw [List.nodup_iff_pairwise_ne, List.pairwise_map]
    exact List.Pairwise.imp_of_mem (fun ha hb hab he => hab (hi _ ha _ hb he)) hn
  have h2 := nodup_lt n (T.map f) h1 (fun x hx => by
    obtain ⟨y, hy, rfl⟩ := List.mem_map.1 hx
    exact hf y hy)
  simpa using h2
theorem firsts_uniq {l : List W} (hl : Rises l) {v w : W} (hv : v ∈ firsts l) (hw : w ∈ firsts l) (h : ends l v = ends l w) : v = w := (firsts_kept hl).uniq v hv w hw h
theorem before_ne {l : List W} {x y : W} (h : before l x y) : x ≠ y := fun e => by
  subst e; exact before_asymm x x h h
theorem tops_nodup {l : List W} (hl : Rises l) : (tops l).Nodup := List.Pairwise.imp (fun h => before_ne h) (tops_sorted hl)
/-- No automaton that reads the names of a list, which are some, has fewer states. -/
theorem tops_least {s : List St} (h : Auto s) {l : List W} (hl : Rises l) (hb : ∀ w ∈ l, w.length ≤ 10) (h0 : l ≠ []) (hr : reads s 0 = l) : (tops l).length ≤ s.length := by
  have hz : 0 < s.length := h.n1
  refine nodup_map_le (fun w => (go s 0 w).getD 0) (tops_nodup hl) (fun w hw => ?_) (fun v hv w hw he => ?_)
  · cases hg : go s 0 w with
    | none => simpa using hz
    | some k =>
      rw [mem_tops hb, mem_firsts hl] at hw
      have : ∃ e, w ++ e ∈ reads s 0 := by
        rw [hr]
        rcases mem_scan.1 hw.1 with rfl | ⟨t, ht, e, rfl⟩
        · cases l with
          | nil => exact absurd rfl h0
          | cons x r => exact ⟨x, by simp⟩
        · exact ⟨e, ht⟩
      obtain ⟨k', hk, hg', -⟩ := go_reads h w 0 hz this
      rw [hg] at hg'; cases hg'
      simpa using hk
  · rw [mem_tops hb] at hv hw
    have ex : ∀ w, w ∈ firsts l → ∃ e, w ++ e ∈ reads s 0 := by
      intro w hw
      rw [hr]
      rcases mem_scan.1 ((mem_firsts hl).1 hw).1 with rfl | ⟨t, ht, e, rfl⟩
      · cases l with
        | nil => exact absurd rfl h0
        | cons x r => exact ⟨x, by simp⟩
      · exact ⟨e, ht⟩
    obtain ⟨k, hk, hg, hR⟩ := go_reads h v 0 hz (ex v hv)
    obtain ⟨k', hk', hg', hR'⟩ := go_reads h w 0 hz (ex w hw)
    simp only [hg, hg', Option.getD_some] at he
    subst he
    refine firsts_uniq hl hv hw ((ends_eq hl).2 (fun e => ?_))
    rw [← hr, ← hR, ← hR']
end X
/- Plain Lean: the least automaton of a list reads the list. -/
namespace X
/-- A valid list. -/
structure List_ (l : List W) : Prop where
  many : l.length ≤ 30
  long : ∀ s ∈ l, s.length ≤ 10
  some : ∀ s ∈ l, s ≠ []
  lett : ∀ s ∈ l, letters s = true
  up : Rises l
def abc : W := (List.range 26).map (fun k => UInt8.ofNat (97 + k))
/-- The number of the state with these endings. -/
def idx (l : List W) (e : List W) : Nat := (tops l).findIdx (fun v => ends l v == e)
def outs (l : List W) (w : W) : W := abc.filter (fun c => ends l (w ++ [c]) != [])
def state (l : List W) (w : W) : St := ⟨if w ∈ l then 1 else 0, outs l w, (outs l w).map (fun c => (idx l (ends l (w ++ [c])) : Int))⟩
def build (l : List W) : List St := (tops l).map (state l)
def top (l : List W) (k : Nat) : W := (tops l).getD k []
theorem abc_up : Up abc := by unfold Up; decide +kernel
theorem abc_letters : letters abc = true := by decide +kernel
theorem mem_abc {c : UInt8} : c ∈ abc ↔ letter c = true := by
  unfold abc letter
  simp only [List.mem_map, List.mem_range, Bool.and_eq_true, decide_eq_true_eq]
  constructor
  · rintro ⟨k, hk, rfl⟩
    have : (UInt8.ofNat (97 + k)).toNat = 97 + k := by simp; omega
    omega
  · rintro ⟨h1, h2⟩
    refine ⟨c.toNat - 97, by omega, ?_⟩
    rw [show 97 + (c.toNat - 97) = c.toNat by omega]
    exact UInt8.ofNat_toNat
theorem nodup_at {α : Type} {T : List α} (h : T.Nodup) {i j : Nat} (hi : i < T.length) (hj : j < T.length) (e : T[i] = T[j]) : i = j := by
  rw [List.nodup_iff_pairwise_ne, List.pairwise_iff_getElem] at h
  rcases Nat.lt_trichotomy i j with h1 | h1 | h1
  · exact absurd e (h i j hi hj h1)
  · exact h1
  · exact absurd e.symm (h j i hj hi h1)
theorem mem_zip_map {f : UInt8 → Int} {c : UInt8} {n : Int} : ∀ {w : W}, (c, n) ∈ w.zip (w.map f) ↔ c ∈ w ∧ n = f c
  | [] => by simp
  | a :: w => by
    rw [List.map_cons, List.zip_cons_cons, List.mem_cons, mem_zip_map, List.mem_cons, Prod.mk.injEq]
    constructor
    · rintro (⟨rfl, rfl⟩ | ⟨h, e⟩)
      · exact ⟨.inl rfl, rfl⟩
      · exact ⟨.inr h, e⟩
    · rintro ⟨rfl | h, e⟩
      · exact .inl ⟨rfl, e⟩
      · exact .inr ⟨h, e⟩
section
variable {l : List W} (hl : List_ l)
include hl
theorem ends_len {w e : W} (h : e ∈ ends l w) : w.length + e.length ≤ 10 := by
  have := hl.long _ (mem_ends.1 h); simpa using this
omit hl in
theorem scan_ends {w : W} (h : ends l w ≠ []) : w ∈ scan l := by
  obtain ⟨e, he⟩ := List.exists_mem_of_ne_nil _ h
  exact mem_scan.2 (.inr ⟨_, mem_ends.1 he, List.prefix_append _ _⟩)
/-- Each word that begins names has a first one with its endings. -/
theorem idx_spec {w : W} (h : w ∈ scan l) : idx l (ends l w) < (tops l).length ∧ ends l (top l (idx l (ends l w))) = ends l w := by
  obtain ⟨v, hv, he⟩ := (firsts_kept hl.up).all w h
  have hm : v ∈ tops l := (mem_tops hl.long).2 hv
  have h1 : idx l (ends l w) < (tops l).length := by
    unfold idx
    rw [List.findIdx_lt_length]
    exact ⟨v, hm, by simp [he]⟩
  refine ⟨h1, ?_⟩
  have := List.findIdx_getElem (w := h1)
  simp only [beq_iff_eq] at this
  unfold top
  rw [List.getD_eq_getElem?_getD, List.getElem?_eq_getElem h1]
  exact this
theorem top_mem {k : Nat} (h : k < (tops l).length) : top l k ∈ firsts l := by
  unfold top
  rw [List.getD_eq_getElem?_getD, List.getElem?_eq_getElem h]
  exact (mem_tops hl.long).1 (List.getElem_mem h)
theorem top_inj {j k : Nat} (hj : j < (tops l).length) (hk : k < (tops l).length) (h : ends l (top l j) = ends l (top l k)) : j = k := by
  have e := firsts_uniq hl.up (top_mem hl hj) (top_mem hl hk) h
  unfold top at e
  rw [List.getD_eq_getElem?_getD, List.getElem?_eq_getElem hj, List.getD_eq_getElem?_getD, List.getElem?_eq_getElem hk] at e
  exact nodup_at (tops_nodup hl.up) hj hk e
theorem idx_top {k : Nat} (hk : k < (tops l).length) : idx l (ends l (top l k)) = k := by
  have h := idx_spec hl ((firsts_kept hl.up).sub _ (top_mem hl hk))
  exact top_inj hl h.1 hk h.2
/-- States come in their order. -/
theorem top_before {j k : Nat} (hjk : j < k) (hk : k < (tops l).length) : before l (top l j) (top l k) := by
  have := List.pairwise_iff_getElem.1 (tops_sorted hl.up) j k (by omega) hk hjk
  unfold top
  rw [List.getD_eq_getElem?_getD, List.getElem?_eq_getElem (by omega), List.getD_eq_getElem?_getD, List.getElem?_eq_getElem hk]
  exact this
omit hl in
theorem longest_less {w : W} {c : UInt8} (h : ends l (w ++ [c]) ≠ []) : longest (ends l (w ++ [c])) < longest (ends l w) := by
  obtain ⟨e, he, hl2⟩ := longest_ex h
  have : c :: e ∈ ends l w := by rw [mem_ends] at he ⊢; simpa using he
  have := longest_le this
  simp at this; omega
theorem idx_more {k : Nat} (hk : k < (tops l).length) {c : UInt8} (h : ends l (top l k ++ [c]) ≠ []) : k < idx l (ends l (top l k ++ [c])) ∧ idx l (ends l (top l k ++ [c])) < (tops l).length := by
  have h1 := idx_spec hl (scan_ends h)
  refine ⟨?_, h1.1⟩
  have h2 := longest_less h
  rw [← h1.2] at h2
  generalize idx l (ends l (top l k ++ [c])) = m at *
  rcases Nat.lt_trichotomy k m with h3 | rfl | h3
  · exact h3
  · omega
  · rcases top_before hl h3 hk with h4 | ⟨h4, -⟩ <;> omega
omit hl in
theorem build_len : (build l).length = (tops l).length := by simp [build]
omit hl in
theorem at_build {k : Nat} (hk : k < (tops l).length) : at_ (build l) k = state l (top l k) := by
  unfold at_ build top
  simp [hk]
theorem tops_pos : 1 ≤ (tops l).length := by
  have := (idx_spec hl (w := []) (mem_scan.2 (.inl rfl))).1
  omega
theorem scan_len : (firsts l).length ≤ 301 := by
  have h1 : (firsts l).length ≤ (scan l).length := by
    have h : ∀ (q out : List W), (q.foldl (keepStep l) out).length ≤ out.length + q.length := by
      intro q
      induction q with
      | nil => intro out; simp
      | cons w q ih =>
        intro out
        rw [List.foldl_cons]
        refine Nat.le_trans (ih _) ?_
        unfold keepStep
        split <;> simp <;> omega
    have := h (l.flatMap begs) [[]]
    unfold firsts scan
    simp at this ⊢
    omega
  have h2 : ∀ (q : List W), (∀ s ∈ q, s.length ≤ 10) → (q.flatMap begs).length ≤ 10 * q.length := by
    intro q
    induction q with
    | nil => intro _; simp
    | cons s q ih =>
      intro h
      rw [List.flatMap_cons, List.length_append, List.length_cons]
      have := ih (fun t ht => h t (List.mem_cons_of_mem _ ht))
      have h3 := h s (by simp)
      have : (begs s).length = s.length := by simp [begs]
      omega
  have := h2 l hl.long
  have := hl.many
  unfold scan at h1
  simp only [List.length_cons] at h1
  omega
theorem tops_len : (tops l).length = (firsts l).length := by
  have hf : (firsts l).Nodup := (firsts_kept hl.up).rises.nodup
  have ht := tops_nodup hl.up
  exact Nat.le_antisymm
    (nodup_map_le (fun w => (firsts l).idxOf w) ht (fun x hx => List.idxOf_lt_length_of_mem ((mem_tops hl.long).1 hx)) (fun x hx y hy e => by
      have hx' := List.idxOf_lt_length_of_mem ((mem_tops hl.long).1 hx)
      have hy' := List.idxOf_lt_length_of_mem ((mem_tops hl.long).1 hy)
      have e1 := List.getElem_idxOf hx'
      have e2 := List.getElem_idxOf hy'
      rw [← e1, ← e2]; congr 1))
    (nodup_map_le (fun w => (tops l).idxOf w) hf (fun x hx => List.idxOf_lt_length_of_mem ((mem_tops hl.long).2 hx)) (fun x hx y hy e => by
      have hx' := List.idxOf_lt_length_of_mem ((mem_tops hl.long).2 hx)
      have hy' := List.idxOf_lt_length_of_mem ((mem_tops hl.long).2 hy)
      have e1 := List.getElem_idxOf hx'
      have e2 := List.getElem_idxOf hy'
      rw [← e1, ← e2]; congr 1))
theorem build_auto : Auto (build l) := by
  have hlen := build_len (l := l)
  refine ⟨by have := tops_pos hl; omega, by have := tops_len hl; have := scan_len hl; omega, ?_, ?_, ?_, ?_, ?_⟩
  all_goals try (intro x hx; obtain ⟨w, -, rfl⟩ := List.mem_map.1 hx)
  · unfold state; dsimp only; split <;> simp
  · simp [state]
  · unfold letters
    rw [List.all_eq_true]
    intro c hc
    exact mem_abc.1 (List.mem_filter.1 hc).1
  · exact List.Pairwise.filter _ abc_up
  · intro k hk n hn
    rw [hlen] at hk
    rw [at_build hk] at hn
    simp only [state, List.mem_map] at hn
    obtain ⟨c, hc, rfl⟩ := hn
    have h2 := (List.mem_filter.1 hc).2
    have := idx_more hl hk (c := c) (by simpa using h2)
    omega
theorem mem_build {k : Nat} (hk : k < (tops l).length) {e : W} : e ∈ reads (build l) k ↔ e ∈ ends l (top l k) := by
  have hA := build_auto hl
  induction e generalizing k with
  | nil =>
    rw [mem_reads_nil hA (by rw [build_len]; exact hk), at_build hk, mem_ends, List.append_nil]
    unfold state; dsimp only
    split <;> simp_all
  | cons c e ih =>
    rw [mem_reads_cons hA (by rw [build_len]; exact hk), at_build hk]
    have hz : ∀ n : Int, (c, n) ∈ (state l (top l k)).letters.zip (state l (top l k)).next ↔ c ∈ outs l (top l k) ∧ n = (idx l (ends l (top l k ++ [c])) : Int) := by
      intro n
      exact mem_zip_map
    have hE : e ∈ ends l (top l k ++ [c]) ↔ c :: e ∈ ends l (top l k) := by rw [mem_ends, mem_ends, List.append_assoc]; rfl
    constructor
    · rintro ⟨n, h1, h2⟩
      obtain ⟨ha, rfl⟩ := (hz n).1 h1
      have hne : ends l (top l k ++ [c]) ≠ [] := by simpa using (List.mem_filter.1 ha).2
      have hi := idx_spec hl (scan_ends hne)
      rw [Int.toNat_natCast] at h2
      have h3 := (ih hi.1).1 h2
      rw [hi.2] at h3
      exact hE.1 h3
    · intro h
      have hne : ends l (top l k ++ [c]) ≠ [] := fun e0 => by have := hE.2 h; rw [e0] at this; cases this
      have hi := idx_spec hl (scan_ends hne)
      refine ⟨_, (hz _).2 ⟨List.mem_filter.2 ⟨mem_abc.2 ?_, by simpa using hne⟩, rfl⟩, ?_⟩
      · have := hl.lett _ (mem_ends.1 h)
        unfold letters at this
        exact List.all_eq_true.1 this c (by simp)
      · rw [Int.toNat_natCast]
        refine (ih hi.1).2 ?_
        rw [hi.2]
        exact hE.2 h
theorem reads_build {k : Nat} (hk : k < (tops l).length) : reads (build l) k = ends l (top l k) :=
  (reads_rises (build_auto hl) _ k (by rw [build_len]; exact hk) (Nat.le_refl _)).unique (ends_rises hl.up _) (fun _ => mem_build hl hk)
/-- The state 0 is the empty word's. -/
theorem top_zero : top l 0 = [] := by
  have h0 := tops_pos hl
  have hi := idx_spec hl (w := []) (mem_scan.2 (.inl rfl))
  have hne : idx l (ends l []) = 0 := by
    rcases Nat.eq_zero_or_pos (idx l (ends l [])) with h | h
    · exact h
    · exfalso
      have hb := top_before hl h hi.1
      rw [before, hi.2] at hb
      have hm := (firsts_kept hl.up).sub _ (top_mem hl h0)
      have hle : longest (ends l (top l 0)) ≤ longest l := longest_bd (fun e he => by have := longest_le (mem_ends.1 he); simp at this; omega)
      have el : longest (ends l []) = longest l := by rw [ends_nil]
      rcases hb with hb | ⟨hb, hb2⟩
      · omega
      · have hnil : top l (idx l (ends l [])) = [] := by
          have hlst := (firsts_kept hl.up).least _ (top_mem hl hi.1) [] (mem_scan.2 (.inl rfl)) hi.2.symm
          cases hq : top l (idx l (ends l [])) with
          | nil => rfl
          | cons c v => rw [hq] at hlst; simp [lt] at hlst
        rw [hnil, lt_not_nil] at hb2
        cases hb2
  rw [hne] at hi
  have hlst := (firsts_kept hl.up).least _ (top_mem hl h0) [] (mem_scan.2 (.inl rfl)) hi.2.symm
  cases hq : top l 0 with
  | nil => rfl
  | cons c v => rw [hq] at hlst; simp [lt] at hlst
theorem reads_root : reads (build l) 0 = l := by rw [reads_build hl (tops_pos hl), top_zero hl, ends_nil]
theorem root_ends : (at_ (build l) 0).ends = 0 := by
  rw [at_build (tops_pos hl), top_zero hl]
  unfold state; dsimp only
  rw [if_neg (fun h => hl.some _ h rfl)]
end
end X
/- Plain Lean: the distance of two words. -/
namespace X
/-- One word becomes another one by so many changes. -/
inductive Ed : Nat → W → W → Prop
  | nil : Ed 0 [] []
  | same {n : Nat} {a b : W} (c : UInt8) : Ed n a b → Ed n (c :: a) (c :: b)
  | sub {n : Nat} {a b : W} (x y : UInt8) : Ed n a b → Ed (n + 1) (x :: a) (y :: b)
  | del {n : Nat} {a b : W} (x : UInt8) : Ed n a b → Ed (n + 1) (x :: a) b
  | ins {n : Nat} {a b : W} (y : UInt8) : Ed n a b → Ed (n + 1) a (y :: b)
/-- By at most so many. -/
def Le (n : Nat) (a b : W) : Prop := ∃ m, m ≤ n ∧ Ed m a b
theorem Ed.refl : ∀ a : W, Ed 0 a a
  | [] => .nil
  | c :: a => .same c (Ed.refl a)
theorem Ed.symm {n : Nat} {a b : W} (h : Ed n a b) : Ed n b a := by
  induction h with
  | nil => exact .nil
  | same c _ ih => exact .same c ih
  | sub x y _ ih => exact .sub y x ih
  | del x _ ih => exact .ins x ih
  | ins y _ ih => exact .del y ih
theorem Le.mono {m n : Nat} {a b : W} (h : Le m a b) (hmn : m ≤ n) : Le n a b := by obtain ⟨k, h1, h2⟩ := h; exact ⟨k, by omega, h2⟩
theorem Le.symm {n : Nat} {a b : W} (h : Le n a b) : Le n b a := by obtain ⟨k, h1, h2⟩ := h; exact ⟨k, h1, h2.symm⟩
theorem Le.refl (a : W) : Le 0 a a := ⟨0, Nat.le_refl _, Ed.refl a⟩
theorem Le.same {n : Nat} {a b : W} (c : UInt8) (h : Le n a b) : Le n (c :: a) (c :: b) := by obtain ⟨k, h1, h2⟩ := h; exact ⟨k, h1, .same c h2⟩
theorem Le.sub {n : Nat} {a b : W} (x y : UInt8) (h : Le n a b) : Le (n + 1) (x :: a) (y :: b) := by obtain ⟨k, h1, h2⟩ := h; exact ⟨k + 1, by omega, .sub x y h2⟩
theorem Le.del {n : Nat} {a b : W} (x : UInt8) (h : Le n a b) : Le (n + 1) (x :: a) b := by obtain ⟨k, h1, h2⟩ := h; exact ⟨k + 1, by omega, .del x h2⟩
theorem Le.ins {n : Nat} {a b : W} (y : UInt8) (h : Le n a b) : Le (n + 1) a (y :: b) := by obtain ⟨k, h1, h2⟩ := h; exact ⟨k + 1, by omega, .ins y h2⟩
theorem Ed.trans {m : Nat} {a b : W} (h : Ed m a b) : ∀ {n : Nat} {c : W}, Ed n b c → Le (m + n) a c := by
  induction h with
  | nil => intro n c k; exact ⟨n, by omega, k⟩
  | @same m a b x h ih =>
    intro n c k
    generalize hb : x :: b = b' at k
    induction k with
    | nil => cases hb
    | @same n b2 c y k ihk => cases hb; exact (ih k).same x
    | @sub n b2 c y z k ihk => cases hb; exact (ih k).sub x z
    | @del n b2 c y k ihk => cases hb; exact (ih k).del x
    | @ins n b2 c y k ihk => exact (ihk hb).ins y
  | @sub m a b x x' h ih =>
    intro n c k
    generalize hb : x' :: b = b' at k
    induction k with
    | nil => cases hb
    | @same n b2 c y k ihk => cases hb; exact ((ih k).sub x x').mono (by omega)
    | @sub n b2 c y z k ihk => cases hb; exact ((ih k).sub x z).mono (by omega)
    | @del n b2 c y k ihk => cases hb; exact ((ih k).del x).mono (by omega)
    | @ins n b2 c y k ihk => exact (ihk hb).ins y
  | @del m a b x h ih => intro n c k; exact ((ih k).del x).mono (by omega)
  | @ins m a b x h ih =>
    intro n c k
    generalize hb : x :: b = b' at k
    induction k with
    | nil => cases hb
    | @same n b2 c y k ihk => cases hb; exact ((ih k).ins x).mono (by omega)
    | @sub n b2 c y z k ihk => cases hb; exact ((ih k).ins z).mono (by omega)
    | @del n b2 c y k ihk => cases hb; exact (ih k).mono (by omega)
    | @ins n b2 c y k ihk => exact (ihk hb).ins y
theorem Le.trans {m n : Nat} {a b c : W} (h : Le m a b) (k : Le n b c) : Le (m + n) a c := by
  obtain ⟨m', h1, h2⟩ := h
  obtain ⟨n', k1, k2⟩ := k
  exact (h2.trans k2).mono (by omega)
theorem Ed.append {m : Nat} {a b : W} (h : Ed m a b) {n : Nat} {c d : W} (k : Ed n c d) : Ed (m + n) (a ++ c) (b ++ d) := by
  induction h with
  | nil => rw [Nat.zero_add]; exact k
  | same c _ ih => exact .same c ih
  | sub x y _ ih => rw [Nat.add_right_comm]; exact .sub x y ih
  | del x _ ih => rw [Nat.add_right_comm]; exact .del x ih
  | ins y _ ih => rw [Nat.add_right_comm]; exact .ins y ih
theorem Ed.reverse {m : Nat} {a b : W} (h : Ed m a b) : Ed m a.reverse b.reverse := by
  induction h with
  | nil => exact .nil
  | same c _ ih => rw [List.reverse_cons, List.reverse_cons]; exact ih.append (Ed.refl [c])
  | sub x y _ ih => rw [List.reverse_cons, List.reverse_cons]; exact ih.append (.sub x y .nil)
  | @del n a b x _ ih => rw [List.reverse_cons]; have := ih.append (.del x .nil); rwa [List.append_nil] at this
  | @ins n a b y _ ih => rw [List.reverse_cons]; have := ih.append (.ins y .nil); rwa [List.append_nil] at this
theorem le_reverse {m : Nat} {a b : W} : Le m a.reverse b.reverse ↔ Le m a b := by
  constructor
  · rintro ⟨k, h1, h2⟩
    have := h2.reverse
    rw [List.reverse_reverse, List.reverse_reverse] at this
    exact ⟨k, h1, this⟩
  · rintro ⟨k, h1, h2⟩; exact ⟨k, h1, h2.reverse⟩
/-- The same first letters say nothing. -/
theorem le_cons {n : Nat} {a b : W} {c : UInt8} : Le n (c :: a) (c :: b) ↔ Le n a b := by
  constructor
  · rintro ⟨m, h1, h2⟩
    cases h2 with
    | same _ h => exact ⟨m, h1, h⟩
    | sub _ _ h => exact ⟨_, by omega, h⟩
    | del _ h => exact (h.trans (.del c (Ed.refl b))).mono (by omega)
    | ins _ h => exact (Ed.trans (.ins c (Ed.refl a)) h).mono (by omega)
  · exact Le.same c
theorem Ed.len {n : Nat} {a b : W} (h : Ed n a b) : a.length ≤ b.length + n ∧ b.length ≤ a.length + n := by
  induction h with
  | nil => simp
  | same => simp; omega
  | sub => simp; omega
  | del => simp; omega
  | ins => simp; omega
theorem le_nil {n : Nat} {a : W} : Le n a [] ↔ a.length ≤ n := by
  constructor
  · rintro ⟨m, h1, h2⟩; have := h2.len.1; simp at this; omega
  · intro h
    have : Ed a.length a [] := by
      clear h
      induction a with
      | nil => exact .nil
      | cons x a ih => exact .del x ih
    exact ⟨_, h, this⟩
theorem nil_le {n : Nat} {a : W} : Le n [] a ↔ a.length ≤ n := ⟨fun h => le_nil.1 h.symm, fun h => (le_nil.2 h).symm⟩
theorem le_zero {a b : W} : Le 0 a b ↔ a = b := by
  constructor
  · rintro ⟨m, h1, h2⟩
    have : m = 0 := by omega
    subst this
    clear h1
    generalize hz : 0 = z at h2
    induction h2 with
    | nil => rfl
    | same c _ ih => rw [ih hz]
    | sub => omega
    | del => omega
    | ins => omega
  · rintro rfl; exact Le.refl a
/-- What is left behind the same first letters. -/
def strip : W → W → W × W
  | x :: a, y :: b => if x = y then strip a b else (x :: a, y :: b)
  | a, b => (a, b)
theorem strip_le {n : Nat} : ∀ a b : W, Le n (strip a b).1 (strip a b).2 ↔ Le n a b
  | [], [] => Iff.rfl
  | [], _ :: _ => Iff.rfl
  | _ :: _, [] => Iff.rfl
  | x :: a, y :: b => by
    unfold strip
    split
    · rename_i e; subst e; rw [strip_le a b, le_cons]
    · exact Iff.rfl
theorem strip_ne : ∀ {a b : W} {x y : UInt8} {c d : W}, strip a b = (x :: c, y :: d) → x ≠ y
  | [], [], _, _, _, _, h => by cases h
  | [], _ :: _, _, _, _, _, h => by cases h
  | _ :: _, [], _, _, _, _, h => by cases h
  | x :: a, y :: b, _, _, _, _, h => by
    unfold strip at h
    split at h
    · exact strip_ne h
    · cases h; assumption
theorem le_ne {n : Nat} {a b : W} {x y : UInt8} (h : x ≠ y) : Le (n + 1) (x :: a) (y :: b) ↔ Le n a (y :: b) ∨ Le n (x :: a) b ∨ Le n a b := by
  constructor
  · rintro ⟨m, h1, h2⟩
    cases h2 with
    | same => exact absurd rfl h
    | sub _ _ h => exact .inr (.inr ⟨_, by omega, h⟩)
    | del _ h => exact .inl ⟨_, by omega, h⟩
    | ins _ h => exact .inr (.inl ⟨_, by omega, h⟩)
  · rintro (h | h | h)
    · exact h.del x
    · exact h.ins y
    · exact h.sub x y
/-- The program's way: each change is tried at the first letters that are not the same. -/
def near : Nat → W → W → Bool
  | 0, a, b => match strip a b with
    | ([], d) => decide (d.length ≤ 0)
    | (c, []) => decide (c.length ≤ 0)
    | _ => false
  | n + 1, a, b => match strip a b with
    | ([], d) => decide (d.length ≤ n + 1)
    | (c, []) => decide (c.length ≤ n + 1)
    | (x :: c, y :: d) => near n c (y :: d) || near n (x :: c) d || near n c d
theorem near_iff : ∀ (n : Nat) (a b : W), near n a b = true ↔ Le n a b
  | 0, a, b => by
    rw [← strip_le a b]
    unfold near
    split
    · rename_i d h; rw [h, nil_le, decide_eq_true_iff]
    · rename_i c _ h; rw [h, le_nil, decide_eq_true_iff]
    · rename_i h1 h2
      have h3 : strip a b = ((strip a b).1, (strip a b).2) := rfl
      generalize hc : (strip a b).1 = c at *
      generalize hd : (strip a b).2 = d at *
      cases c with
      | nil => exact absurd h3 (h1 d)
      | cons x c =>
        cases d with
        | nil => exact absurd h3 (h2 _)
        | cons y d =>
          constructor
          · intro h; cases h
          · intro h
            rw [le_zero] at h
            cases h
            exact absurd rfl (strip_ne h3)
  | n + 1, a, b => by
    rw [← strip_le a b]
    unfold near
    split
    · rename_i d h; rw [h, nil_le, decide_eq_true_iff]
    · rename_i c _ h; rw [h, le_nil, decide_eq_true_iff]
    · rename_i x c y d h
      rw [h]
      simp only [Bool.or_eq_true, near_iff n]
      rw [le_ne (strip_ne h), or_assoc]
/-- The distance, as the definition says, of words that are read from their ends. -/
def lev : W → W → Nat
  | [], b => b.length
  | a, [] => a.length
  | x :: a, y :: b => min (lev a b + if x = y then 0 else 1) (min (lev a (y :: b) + 1) (lev (x :: a) b + 1))
termination_by a b => a.length + b.length
theorem lev_nil (b : W) : lev [] b = b.length := by unfold lev; cases b <;> rfl
theorem lev_nil2 (a : W) : lev a [] = a.length := by unfold lev; cases a <;> rfl
theorem lev_cons (x y : UInt8) (a b : W) : lev (x :: a) (y :: b) = min (lev a b + if x = y then 0 else 1) (min (lev a (y :: b) + 1) (lev (x :: a) b + 1)) := by rw [lev]
theorem lev_iff {n : Nat} : ∀ a b : W, lev a b ≤ n ↔ Le n a b
  | [], b => by rw [lev_nil, nil_le]
  | x :: a, [] => by rw [lev_nil2, le_nil]
  | x :: a, y :: b => by
    rw [lev_cons]
    have h1 := lev_iff (n := n) a b
    cases n with
    | zero =>
      by_cases e : x = y
      · subst e
        rw [le_cons, ← h1]; simp
      · rw [if_neg e, le_zero]
        constructor
        · intro h; omega
        · intro h; cases h; exact absurd rfl e
    | succ n =>
      have h2 := lev_iff (n := n) a (y :: b)
      have h3 := lev_iff (n := n) (x :: a) b
      have h4 := lev_iff (n := n) a b
      by_cases e : x = y
      · subst e
        rw [if_pos rfl, Nat.add_zero, le_cons, ← h1]
        constructor
        · intro h
          by_cases k : lev a b ≤ n + 1
          · exact k
          · have : lev a (x :: b) ≤ n ∨ lev (x :: a) b ≤ n := by omega
            rw [h2, h3] at this
            rw [h1]
            rcases this with h | h
            · exact le_cons.1 (h.del x)
            · exact le_cons.1 (h.ins x)
        · intro h; omega
      · rw [if_neg e, le_ne e, ← h2, ← h3, ← h4]; omega
termination_by a b => a.length + b.length
/-- A letter left out. -/
theorem le_drop (w : W) (k : Nat) : Le 1 w (w.take k ++ w.drop (k + 1)) := by
  by_cases hk : k < w.length
  · have h : Ed 1 (w.take k ++ w.drop k) (w.take k ++ w.drop (k + 1)) := by
      have h1 : w.drop k = w[k] :: w.drop (k + 1) := List.drop_eq_getElem_cons hk
      rw [h1]
      have := (Ed.refl (w.take k)).append (.del w[k] (Ed.refl (w.drop (k + 1))))
      simpa using this
    rw [List.take_append_drop] at h
    exact ⟨1, Nat.le_refl _, h⟩
  · rw [List.take_of_length_le (by omega), List.drop_of_length_le (by omega), List.append_nil]
    exact (Le.refl w).mono (by omega)
end X
/- Plain Lean: lists joined; one more name; one more letter in front. -/
namespace X
def ins (w : W) : List W → List W
  | [] => [w]
  | x :: r => if lt x w then x :: ins w r else w :: x :: r
theorem mem_ins {w x : W} : ∀ {l : List W}, x ∈ ins w l ↔ x = w ∨ x ∈ l
  | [] => by simp [ins]
  | y :: r => by
    unfold ins
    split
    · rw [List.mem_cons, mem_ins, List.mem_cons]
      constructor
      · rintro (h | h | h) <;> simp [h]
      · rintro (h | h | h) <;> simp [h]
    · simp
theorem ins_rises {w : W} : ∀ {l : List W}, Rises l → w ∉ l → Rises (ins w l)
  | [], _, _ => by simp [ins, Rises]
  | y :: r, h, hw => by
    unfold Rises at h
    rw [List.pairwise_cons] at h
    rw [List.mem_cons, not_or] at hw
    unfold ins
    split
    · rename_i hy
      unfold Rises
      rw [List.pairwise_cons]
      refine ⟨fun x hx => ?_, ins_rises h.2 hw.2⟩
      rcases mem_ins.1 hx with rfl | hx
      · exact hy
      · exact h.1 x hx
    · rename_i hy
      have hwy : lt w y = true := by
        rcases lt_total w y with k | k | k
        · exact k
        · exact absurd k hw.1
        · exact absurd k hy
      unfold Rises
      rw [List.pairwise_cons, List.pairwise_cons]
      refine ⟨fun x hx => ?_, h⟩
      rcases List.mem_cons.1 hx with rfl | hx
      · exact hwy
      · exact lt_trans hwy (h.1 x hx)
theorem ins_len {w : W} : ∀ {l : List W}, (ins w l).length = l.length + 1
  | [] => rfl
  | y :: r => by unfold ins; split <;> simp [ins_len]
def joinStep (a : List W) (out : List W) (w : W) : List W := if a.contains w then out else ins w out
def joinL (a b : List W) : List W := b.foldl (joinStep a) a
def bothL (a b : List W) : List W := a.filter (fun w => b.contains w)
theorem join_fold {a : List W} (ha : Rises a) : ∀ (b out : List W), Rises out → Rises b → (∀ w ∈ a, w ∈ out) → (∀ w ∈ b, w ∈ out → w ∈ a) →
    Rises (b.foldl (joinStep a) out) ∧ (∀ x, x ∈ b.foldl (joinStep a) out ↔ x ∈ out ∨ x ∈ b) ∧ (b.foldl (joinStep a) out).length = out.length + (b.filter (fun w => !a.contains w)).length
  | [], out, ho, _, _, _ => by simp [ho]
  | w :: b, out, ho, hb, h1, h2 => by
    unfold Rises at hb
    rw [List.pairwise_cons] at hb
    rw [List.foldl_cons]
    by_cases hw : w ∈ a
    · have e : joinStep a out w = out := by unfold joinStep; rw [if_pos (by simpa using hw)]
      rw [e]
      obtain ⟨r1, r2, r3⟩ := join_fold ha b out ho hb.2 h1 (fun x hx => h2 x (List.mem_cons_of_mem _ hx))
      refine ⟨r1, fun x => ?_, ?_⟩
      · rw [r2, List.mem_cons]
        constructor
        · rintro (h | h) <;> simp [h]
        · rintro (h | rfl | h)
          · exact .inl h
          · exact .inl (h1 x hw)
          · exact .inr h
      · rw [r3, List.filter_cons_of_neg (by simp [hw])]
    · have e : joinStep a out w = ins w out := by unfold joinStep; rw [if_neg (by simpa using hw)]
      have hwo : w ∉ out := fun h => hw (h2 w (by simp) h)
      rw [e]
      obtain ⟨r1, r2, r3⟩ := join_fold ha b (ins w out) (ins_rises ho hwo) hb.2 (fun x hx => mem_ins.2 (.inr (h1 x hx))) (fun x hx hxo => by
        rcases mem_ins.1 hxo with rfl | h
        · have := hb.1 x hx; rw [lt_irrefl] at this; cases this
        · exact h2 x (List.mem_cons_of_mem _ hx) h)
      refine ⟨r1, fun x => ?_, ?_⟩
      · rw [r2, mem_ins, List.mem_cons]
        constructor
        · rintro ((h | h) | h) <;> simp [h]
        · rintro (h | h | h) <;> simp [h]
      · rw [r3, ins_len, List.filter_cons_of_pos (by simp [hw])]
        simp; omega
theorem join_spec {a b : List W} (ha : Rises a) (hb : Rises b) : Rises (joinL a b) ∧ (∀ x, x ∈ joinL a b ↔ x ∈ a ∨ x ∈ b) ∧ (joinL a b).length = a.length + (b.filter (fun w => !a.contains w)).length :=
  join_fold ha b a ha hb (fun _ h => h) (fun _ _ h => h)
theorem join_comm {a b : List W} (ha : Rises a) (hb : Rises b) : joinL a b = joinL b a :=
  (join_spec ha hb).1.unique (join_spec hb ha).1 (fun x => by rw [(join_spec ha hb).2.1, (join_spec hb ha).2.1]; exact Or.comm)
theorem join_self {a : List W} (ha : Rises a) : joinL a a = a := (join_spec ha ha).1.unique ha (fun x => by rw [(join_spec ha ha).2.1]; simp)
theorem mem_both {a b : List W} {x : W} : x ∈ bothL a b ↔ x ∈ a ∧ x ∈ b := by simp [bothL]
theorem both_rises {a b : List W} (ha : Rises a) : Rises (bothL a b) := List.Pairwise.filter _ ha
theorem both_comm {a b : List W} (ha : Rises a) (hb : Rises b) : bothL a b = bothL b a := (both_rises ha).unique (both_rises hb) (fun x => by rw [mem_both, mem_both]; exact And.comm)
theorem both_self {a : List W} : bothL a a = a := List.filter_eq_self.2 (fun x hx => by simpa using hx)
theorem filter_len {p : W → Bool} : ∀ l : List W, (l.filter p).length + (l.filter (fun w => !p w)).length = l.length
  | [] => rfl
  | x :: l => by
    have := filter_len (p := p) l
    cases h : p x
    · rw [List.filter_cons_of_neg (by simp [h]), List.filter_cons_of_pos (by simp [h])]; simp; omega
    · rw [List.filter_cons_of_pos (by simp [h]), List.filter_cons_of_neg (by simp [h])]; simp; omega
/-- The sum of both lengths. -/
theorem join_len {a b : List W} (ha : Rises a) (hb : Rises b) : (joinL a b).length + (bothL a b).length = a.length + b.length := by
  rw [(join_spec ha hb).2.2, both_comm ha hb]
  have := filter_len (p := fun w => a.contains w) b
  unfold bothL
  omega
theorem both_len {a b : List W} : (bothL a b).length ≤ a.length := List.length_filter_le _ _
theorem join_list {a b : List W} (ha : List_ a) (hb : List_ b) (hn : (joinL a b).length ≤ 30) : List_ (joinL a b) := by
  have h := join_spec ha.up hb.up
  refine ⟨hn, fun s hs => ?_, fun s hs => ?_, fun s hs => ?_, h.1⟩
  all_goals rcases (h.2.1 s).1 hs with k | k
  · exact ha.long s k
  · exact hb.long s k
  · exact ha.some s k
  · exact hb.some s k
  · exact ha.lett s k
  · exact hb.lett s k
theorem idx_pos {l : List W} (hl : List_ l) {v : W} (h0 : v ≠ []) (he : ends l v ≠ []) : 1 ≤ idx l (ends l v) := by
  have hi := idx_spec hl (scan_ends he)
  rcases Nat.eq_zero_or_pos (idx l (ends l v)) with h | h
  · exfalso
    rw [h, top_zero hl, ends_nil] at hi
    obtain ⟨e, he1, he2⟩ := longest_ex he
    have h2 := longest_le (mem_ends.1 he1)
    rw [← hi.2] at he2
    have := List.length_pos_iff.2 h0
    simp at h2
    omega
  · exact h
/-- One more name: at most as many states more as it has letters. -/
theorem more_states {l m : List W} (hl : List_ l) (hm : List_ m) {w : W} (h : ∀ x, x ∈ m ↔ x ∈ l ∨ x = w) : (tops m).length ≤ (tops l).length + w.length := by
  have ht := tops_pos hl
  have same : ∀ v, ¬ v <+: w → ends m v = ends l v := by
    intro v hv
    refine (ends_rises hm.up v).unique (ends_rises hl.up v) (fun e => ?_)
    rw [mem_ends, mem_ends, h]
    constructor
    · rintro (k | k)
      · exact k
      · exact absurd ⟨e, k⟩ hv
    · exact .inl
  have some : ∀ v ∈ firsts m, ¬ v <+: w → v ≠ [] ∧ ends l v ≠ [] := by
    intro v hv hp
    have hs := (firsts_kept hm.up).sub v hv
    refine ⟨fun e => hp (e ▸ List.nil_prefix), ?_⟩
    rw [← same v hp]
    rcases mem_scan.1 hs with rfl | ⟨s, hs, e, rfl⟩
    · exact absurd List.nil_prefix hp
    · intro h0
      have : e ∈ ends m v := mem_ends.2 hs
      rw [h0] at this; cases this
  refine nodup_map_le (fun v => if v <+: w then v.length else w.length + idx l (ends l v)) (tops_nodup hm.up) (fun v hv => ?_) (fun u hu v hv he => ?_)
  · rw [mem_tops hm.long] at hv
    show (if _ then _ else _) < _
    split
    · rename_i hp; have := hp.length_le; omega
    · rename_i hp
      have := (idx_spec hl (scan_ends (some v hv hp).2)).1
      show w.length + idx l (ends l v) < (tops l).length + w.length
      omega
  · rw [mem_tops hm.long] at hu hv
    split at he
    · rename_i hp
      split at he
      · rename_i hq
        exact (List.prefix_of_prefix_length_le hp hq (by omega)).eq_of_length he
      · rename_i hq
        have := idx_pos hl (some v hv hq).1 (some v hv hq).2
        have := hp.length_le
        omega
    · rename_i hp
      split at he
      · rename_i hq
        have := idx_pos hl (some u hu hp).1 (some u hu hp).2
        have := hq.length_le
        omega
      · rename_i hq
        have e : idx l (ends l u) = idx l (ends l v) := by omega
        have h1 := (idx_spec hl (scan_ends (some u hu hp).2)).2
        have h2 := (idx_spec hl (scan_ends (some v hv hq).2)).2
        rw [e] at h1
        exact firsts_uniq hm.up hu hv ((same u hp).trans ((h1.symm.trans h2).trans (same v hq).symm))
/-- The same letter in front of all names. -/
def front (c : UInt8) (l : List W) : List W := l.map (c :: ·)
section
variable {l : List W} {c : UInt8}
theorem mem_front {w : W} : w ∈ front c l ↔ ∃ u ∈ l, w = c :: u := by
  unfold front; rw [List.mem_map]
  constructor
  · rintro ⟨u, h, rfl⟩; exact ⟨u, h, rfl⟩
  · rintro ⟨u, h, rfl⟩; exact ⟨u, h, rfl⟩
theorem front_rises (h : Rises l) : Rises (front c l) := by
  unfold front Rises
  rw [List.pairwise_map]
  exact List.Pairwise.imp (fun h => lt_cons.2 (.inr ⟨rfl, h⟩)) h
theorem front_list (hl : List_ l) (h9 : ∀ s ∈ l, s.length ≤ 9) (hc : letter c = true) : List_ (front c l) := by
  refine ⟨by unfold front; simpa using hl.many, fun s hs => ?_, fun s hs => ?_, fun s hs => ?_, front_rises hl.up⟩
  all_goals obtain ⟨u, hu, rfl⟩ := mem_front.1 hs
  · have := h9 u hu; simp; omega
  · simp
  · have := hl.lett u hu; unfold letters at *; simp [hc, this]
theorem ends_front (hl : Rises l) (w : W) : ends (front c l) (c :: w) = ends l w := by
  refine (ends_rises (front_rises hl) _).unique (ends_rises hl w) (fun e => ?_)
  rw [mem_ends, mem_ends, mem_front]
  constructor
  · rintro ⟨u, hu, h⟩; cases h; exact hu
  · intro h; exact ⟨_, h, rfl⟩
theorem front_longest (h0 : l ≠ []) : longest (front c l) = longest l + 1 := by
  obtain ⟨w, hw, hl⟩ := longest_ex h0
  apply Nat.le_antisymm
  · refine longest_bd (fun s hs => ?_)
    obtain ⟨u, hu, rfl⟩ := mem_front.1 hs
    have := longest_le hu
    simp; omega
  · rw [← hl]
    have := longest_le (l := front c l) (mem_front.2 ⟨w, hw, rfl⟩)
    simpa using this
theorem ends_longest (w : W) : longest (ends l w) ≤ longest l := longest_bd (fun e he => by have := longest_le (mem_ends.1 he); simp at this; omega)
theorem scan_front (h0 : l ≠ []) {w : W} : w ∈ scan (front c l) ↔ w = [] ∨ ∃ u ∈ scan l, w = c :: u := by
  rw [mem_scan]
  constructor
  · rintro (h | ⟨s, hs, hp⟩)
    · exact .inl h
    · obtain ⟨u, hu, rfl⟩ := mem_front.1 hs
      cases w with
      | nil => exact .inl rfl
      | cons d w =>
        rw [List.cons_prefix_cons] at hp
        obtain ⟨rfl, hp⟩ := hp
        exact .inr ⟨w, mem_scan.2 (.inr ⟨u, hu, hp⟩), rfl⟩
  · rintro (h | ⟨u, hu, rfl⟩)
    · exact .inl h
    · rcases mem_scan.1 hu with rfl | ⟨s, hs, hp⟩
      · cases l with
        | nil => exact absurd rfl h0
        | cons x r => exact .inr ⟨c :: x, mem_front.2 ⟨x, by simp, rfl⟩, by rw [List.cons_prefix_cons]; exact ⟨rfl, List.nil_prefix⟩⟩
      · exact .inr ⟨c :: s, mem_front.2 ⟨s, hs, rfl⟩, by rw [List.cons_prefix_cons]; exact ⟨rfl, hp⟩⟩
theorem tops_front (hl : List_ l) (h0 : l ≠ []) (h9 : ∀ s ∈ l, s.length ≤ 9) : tops (front c l) = [] :: (tops l).map (c :: ·) := by
  have hr := front_rises (c := c) hl.up
  have hb : ∀ s ∈ front c l, s.length ≤ 10 := fun s hs => by obtain ⟨u, hu, rfl⟩ := mem_front.1 hs; have := h9 u hu; simp; omega
  have hne : ∀ w, ends (front c l) [] ≠ ends l w := fun w e => by
    have h1 := front_longest (c := c) h0
    have h2 := ends_longest (l := l) w
    rw [← e, ends_nil] at h2; omega
  symm
  refine tops_unique hr hb ?_ (fun w => ?_)
  · rw [List.pairwise_cons]
    refine ⟨fun w hw => ?_, ?_⟩
    · obtain ⟨u, -, rfl⟩ := List.mem_map.1 hw
      refine .inl ?_
      rw [ends_front hl.up, ends_nil, front_longest h0]
      have := ends_longest (l := l) u
      omega
    · rw [List.pairwise_map]
      refine List.Pairwise.imp (fun {u v} h => ?_) (tops_sorted hl.up)
      unfold before at h ⊢
      rw [ends_front hl.up, ends_front hl.up, lt_cons]
      rcases h with h | ⟨h1, h2⟩
      · exact .inl h
      · exact .inr ⟨h1, .inr ⟨rfl, h2⟩⟩
  · rw [List.mem_cons, List.mem_map]
    constructor
    · rintro (rfl | ⟨u, hu, rfl⟩)
      · exact ⟨mem_scan.2 (.inl rfl), fun v _ _ => lt_not_nil v⟩
      · obtain ⟨h1, h2⟩ := (mem_firsts hl.up).1 ((mem_tops hl.long).1 hu)
        refine ⟨(scan_front h0).2 (.inr ⟨u, h1, rfl⟩), fun v hv he => ?_⟩
        rcases (scan_front h0).1 hv with rfl | ⟨x, hx, rfl⟩
        · rw [ends_front hl.up] at he; exact absurd he (hne u)
        · rw [ends_front hl.up, ends_front hl.up] at he
          have := h2 x hx he
          cases k : lt (c :: x) (c :: u) with
          | false => rfl
          | true => rcases lt_cons.1 k with k | ⟨-, k⟩
                    · rw [UInt8.lt_iff_toNat_lt] at k; omega
                    · rw [this] at k; cases k
    · rintro ⟨h1, h2⟩
      rcases (scan_front h0).1 h1 with rfl | ⟨u, hu, rfl⟩
      · exact .inl rfl
      · refine .inr ⟨u, (mem_tops hl.long).2 ((mem_firsts hl.up).2 ⟨hu, fun v hv he => ?_⟩), rfl⟩
        have := h2 (c :: v) ((scan_front h0).2 (.inr ⟨v, hv, rfl⟩)) (by rw [ends_front hl.up, ends_front hl.up, he])
        cases k : lt v u with
        | false => rfl
        | true => rw [lt_cons.2 (.inr ⟨rfl, k⟩)] at this; cases this
theorem idx_front (hl : List_ l) (h0 : l ≠ []) (h9 : ∀ s ∈ l, s.length ≤ 9) {w : W} : idx (front c l) (ends l w) = idx l (ends l w) + 1 := by
  have hne : ends (front c l) [] ≠ ends l w := fun e => by
    have h1 := front_longest (c := c) h0
    have h2 := ends_longest (l := l) w
    rw [← e, ends_nil] at h2; omega
  unfold idx
  rw [tops_front hl h0 h9, List.findIdx_cons, show (ends (front c l) [] == ends l w) = false from beq_eq_false_iff_ne.2 hne]
  simp only [cond_false, List.findIdx_map, Function.comp_def, ends_front hl.up]
theorem outs_front (hl : List_ l) (w : W) : outs (front c l) (c :: w) = outs l w := by
  unfold outs
  apply List.filter_congr
  intro d _
  rw [List.cons_append, ends_front hl.up]
theorem state_front (hl : List_ l) (h0 : l ≠ []) (h9 : ∀ s ∈ l, s.length ≤ 9) (w : W) : state (front c l) (c :: w) = ⟨(state l w).ends, (state l w).letters, (state l w).next.map (· + 1)⟩ := by
  unfold state
  rw [outs_front hl]
  have e1 : (c :: w ∈ front c l) ↔ w ∈ l := by
    rw [mem_front]
    constructor
    · rintro ⟨u, hu, e⟩; cases e; exact hu
    · intro h; exact ⟨w, h, rfl⟩
  simp only [e1, List.map_map, St.mk.injEq, true_and]
  apply List.map_congr_left
  intro d hd
  have hd' : ends l (w ++ [d]) ≠ [] := by simpa using (List.mem_filter.1 hd).2
  simp only [List.cons_append, ends_front hl.up, Function.comp]
  rw [idx_front hl h0 h9]
  simp
theorem filter_one : ∀ {q : W}, Up q → c ∈ q → ∀ {p : UInt8 → Bool}, (∀ d, p d = true ↔ d = c) → q.filter p = [c]
  | [], _, h, _, _ => by cases h
  | a :: q, hu, h, p, hp => by
    unfold Up at hu
    rw [List.pairwise_cons] at hu
    rcases List.mem_cons.1 h with rfl | h
    · rw [List.filter_cons_of_pos ((hp _).2 rfl), List.filter_eq_nil_iff.2 (fun d hd hpd => ?_)]
      have e := (hp d).1 hpd
      subst e
      have := hu.1 d hd
      rw [UInt8.lt_iff_toNat_lt] at this; omega
    · rw [List.filter_cons_of_neg (fun hpa => ?_), filter_one hu.2 h hp]
      have e := (hp a).1 hpa
      subst e
      have := hu.1 a h
      rw [UInt8.lt_iff_toNat_lt] at this; omega
/-- The least automaton: one state more, and the others are the same, numbered by one more. -/
theorem build_front (hl : List_ l) (h0 : l ≠ []) (h9 : ∀ s ∈ l, s.length ≤ 9) (hc : letter c = true) :
    build (front c l) = ⟨0, [c], [1]⟩ :: (build l).map (fun s => ⟨s.ends, s.letters, s.next.map (· + 1)⟩) := by
  unfold build
  rw [tops_front hl h0 h9, List.map_cons, List.map_map, List.map_map]
  congr 1
  · have ho : outs (front c l) [] = [c] := by
      unfold outs
      refine filter_one abc_up (mem_abc.2 hc) (fun d => ?_)
      simp only [List.nil_append, bne_iff_ne, ne_eq]
      rw [ends_empty]
      constructor
      · intro h
        simp only [mem_front] at h
        apply Classical.byContradiction
        intro hdc
        refine h (fun e ⟨u, _, he⟩ => ?_)
        simp at he
        exact hdc he.1
      · rintro rfl h
        cases l with
        | nil => exact h0 rfl
        | cons x r => exact h x (mem_front.2 ⟨x, by simp, rfl⟩)
    unfold state
    rw [ho]
    have h1 : ([] : W) ∉ front c l := fun h => by obtain ⟨u, _, e⟩ := mem_front.1 h; cases e
    rw [if_neg h1]
    simp only [List.map_cons, List.map_nil, List.nil_append]
    have h2 : idx (front c l) (ends (front c l) [c]) = 1 := by
      rw [ends_front hl.up, idx_front hl h0 h9]
      have := idx_top hl (tops_pos hl)
      rw [top_zero hl] at this
      rw [this]
    rw [h2]; rfl
  · apply List.map_congr_left
    intro w _
    exact state_front hl h0 h9 w
end
end X
/- Plain Lean: the answers of the package, with their errors. -/
namespace X
/-- The error of a word. -/
def wordE (s : W) : Int := if 10 < s.length then 7 else if letters s = true then 0 else 8
/-- The first error of words. -/
def wordsE : List W → Int
  | [] => 0
  | s :: r => if wordE s = 0 then wordsE r else wordE s
def risesB : List W → Bool
  | x :: y :: r => lt x y && risesB (y :: r)
  | _ => true
/-- The error of a list. -/
def listE (l : List W) : Int :=
  if 30 < l.length then 6
  else if l.any (fun s => decide (10 < s.length)) = true then 7
  else if l.any (fun s => s.isEmpty || !letters s) = true then 8
  else if risesB l = true then 0 else 16
theorem risesB_iff : ∀ {l : List W}, risesB l = true ↔ Rises l
  | [] => by simp [risesB, Rises]
  | [x] => by simp [risesB, Rises]
  | x :: y :: r => by
    have ih := risesB_iff (l := y :: r)
    unfold risesB
    rw [Bool.and_eq_true, ih]
    unfold Rises
    rw [List.pairwise_cons (a := x)]
    constructor
    · rintro ⟨h, k⟩
      refine ⟨fun z hz => ?_, k⟩
      rcases List.mem_cons.1 hz with rfl | hz
      · exact h
      · exact lt_trans h ((List.pairwise_cons.1 k).1 z hz)
    · rintro ⟨h, k⟩; exact ⟨h y (by simp), k⟩
theorem listE_iff {l : List W} : listE l = 0 ↔ List_ l := by
  unfold listE
  constructor
  · intro h
    split at h
    · cases h
    · rename_i h1
      split at h
      · cases h
      · rename_i h2
        split at h
        · cases h
        · rename_i h3
          split at h
          · rename_i h4
            simp only [List.any_eq_true, decide_eq_true_eq, not_exists, not_and, Bool.or_eq_true, List.isEmpty_iff, Bool.not_eq_true'] at h2 h3
            refine ⟨by omega, fun s hs => by have := h2 s hs; omega, fun s hs e => h3 s hs (.inl e), fun s hs => ?_, risesB_iff.1 h4⟩
            cases k : letters s with
            | true => rfl
            | false => exact absurd (.inr k) (h3 s hs)
          · cases h
  · intro h
    rw [if_neg (by have := h.many; omega), if_neg, if_neg, if_pos (risesB_iff.2 h.up)]
    · simp only [List.any_eq_true, not_exists, not_and, Bool.or_eq_true, List.isEmpty_iff, Bool.not_eq_true']
      rintro s hs (e | e)
      · exact h.some s hs e
      · rw [h.lett s hs] at e; cases e
    · simp only [List.any_eq_true, decide_eq_true_eq, not_exists, not_and]
      intro s hs
      have := h.long s hs
      omega
theorem listE_ne {l : List W} (h : ¬ List_ l) : listE l ≠ 0 := fun e => h (listE_iff.1 e)
def buildE (l : List W) : List St × Int := if listE l = 0 then (build l, 0) else ([], listE l)
/-- The error of an automaton. -/
def upB : W → Bool
  | x :: y :: r => decide (x < y) && upB (y :: r)
  | _ => true
def inB (n i : Nat) (l : List Int) : Bool := l.all (fun k => decide ((i : Int) < k) && decide (k < (n : Int)))
def statesE (s : List St) : Int :=
  if s.length < 1 ∨ 301 < s.length then 6
  else if s.any (fun x => decide (x.ends ≠ 0) && decide (x.ends ≠ 1)) = true then 2
  else if s.any (fun x => decide (x.letters.length ≠ x.next.length)) = true then 15
  else if s.any (fun x => !letters x.letters || !upB x.letters) = true then 8
  else if (List.range s.length).all (fun i => inB s.length i (at_ s i).next) = true then 0 else 3
theorem upB_iff : ∀ {l : W}, upB l = true ↔ Up l
  | [] => by simp [upB, Up]
  | [x] => by simp [upB, Up]
  | x :: y :: r => by
    have ih := upB_iff (l := y :: r)
    unfold upB
    rw [Bool.and_eq_true, ih, decide_eq_true_iff]
    unfold Up
    rw [List.pairwise_cons (a := x)]
    constructor
    · rintro ⟨h, k⟩
      refine ⟨fun z hz => ?_, k⟩
      rcases List.mem_cons.1 hz with rfl | hz
      · exact h
      · exact u8_trans h ((List.pairwise_cons.1 k).1 z hz)
    · rintro ⟨h, k⟩; exact ⟨h y (by simp), k⟩
theorem statesE_iff {s : List St} : statesE s = 0 ↔ Auto s := by
  unfold statesE
  constructor
  · intro h
    split at h
    · cases h
    · rename_i h1
      split at h
      · cases h
      · rename_i h2
        split at h
        · cases h
        · rename_i h3
          split at h
          · cases h
          · rename_i h4
            split at h
            · rename_i h5
              simp only [List.any_eq_true, decide_eq_true_eq, not_exists, not_and, Bool.or_eq_true, Bool.and_eq_true, Bool.not_eq_true'] at h2 h3 h4
              simp only [List.all_eq_true, List.mem_range, inB, Bool.and_eq_true, decide_eq_true_eq] at h5
              refine ⟨by omega, by omega, fun x hx => ?_, fun x hx => ?_, fun x hx => ?_, fun x hx => ?_, fun i hi n hn => h5 i hi n hn⟩
              · have := h2 x hx
                by_cases e : x.ends = 0
                · exact .inl e
                · exact .inr (Classical.byContradiction (this e))
              · exact Classical.byContradiction (h3 x hx)
              · cases k : letters x.letters with
                | true => rfl
                | false => exact absurd (.inl k) (h4 x hx)
              · refine upB_iff.1 ?_
                cases k : upB x.letters with
                | true => rfl
                | false => exact absurd (.inr k) (h4 x hx)
            · cases h
  · intro h
    rw [if_neg (by have := h.n1; have := h.n2; omega), if_neg, if_neg, if_neg, if_pos]
    · simp only [List.all_eq_true, List.mem_range, inB, Bool.and_eq_true, decide_eq_true_eq]
      exact fun i hi n hn => h.nx i hi n hn
    · simp only [List.any_eq_true, not_exists, not_and, Bool.or_eq_true, Bool.not_eq_true']
      rintro x hx (e | e)
      · rw [h.lt x hx] at e; cases e
      · rw [upB_iff.2 (h.up x hx)] at e; cases e
    · simp only [List.any_eq_true, decide_eq_true_eq, not_exists, not_and]
      intro x hx e; exact e (h.eq x hx)
    · simp only [List.any_eq_true, decide_eq_true_eq, not_exists, not_and, Bool.and_eq_true]
      intro x hx e1 e2
      rcases h.en x hx with e | e
      · exact e1 e
      · exact e2 e
/-- What an automaton reads, or the error. -/
def overB (s : List St) : Bool := decide (30 < (reads s 0).length) || (reads s 0).any (fun w => decide (10 < w.length)) || decide ((at_ s 0).ends = 1)
def namesE (s : List St) : List W × Int := if statesE s = 0 then (if overB s = true then ([], 4) else (reads s 0, 0)) else ([], statesE s)
theorem over_list {s : List St} (h : Auto s) (ho : overB s = false) : List_ (reads s 0) := by
  unfold overB at ho
  simp only [Bool.or_eq_false_iff, decide_eq_false_iff_not, List.any_eq_false, decide_eq_true_eq] at ho
  obtain ⟨⟨h1, h2⟩, h3⟩ := ho
  have hz : 0 < s.length := h.n1
  refine ⟨by omega, fun w hw => by have := h2 w hw; omega, fun w hw e => ?_, reads_letters h _ 0 hz (Nat.le_refl _), reads_rises h _ 0 hz (Nat.le_refl _)⟩
  subst e
  exact h3 ((mem_reads_nil h hz).1 hw)
theorem build_names {l : List W} (hl : List_ l) : namesE (build l) = (l, 0) := by
  unfold namesE
  rw [if_pos (statesE_iff.2 (build_auto hl)), if_neg, reads_root hl]
  unfold overB
  rw [reads_root hl, root_ends hl]
  have := hl.many
  simp only [Bool.or_eq_true, decide_eq_true_eq, List.any_eq_true, not_or, not_exists, not_and]
  exact ⟨⟨by omega, fun w hw => by have := hl.long w hw; omega⟩, by decide⟩
def numberE (s : List St) (w : W) : Int × Int :=
  if (namesE s).2 ≠ 0 then (0, (namesE s).2)
  else if wordE w ≠ 0 then (0, wordE w)
  else if w ∈ (namesE s).1 then (((namesE s).1.idxOf w : Nat), 0) else (0, 5)
def nameE (s : List St) (n : Int) : W × Int :=
  if (namesE s).2 ≠ 0 then ([], (namesE s).2)
  else if n < 0 ∨ ((namesE s).1.length : Int) ≤ n then ([], 3)
  else ((namesE s).1.getD n.toNat [], 0)
/-- The first one by length, then by letters. -/
def less (a b : W) : Bool := decide (a.length < b.length) || (decide (a.length = b.length) && lt a b)
def least : List W → Option W
  | [] => none
  | x :: r => match least r with
    | none => some x
    | some y => if less y x then some y else some x
/-- The endings that tell two words apart. -/
def apart (l : List W) (u v : W) : List W := (ends l u).filter (fun e => !(ends l v).contains e) ++ (ends l v).filter (fun e => !(ends l u).contains e)
def tellE (l : List W) (u v : W) : W × Int :=
  if listE l ≠ 0 then ([], listE l) else if wordE u ≠ 0 then ([], wordE u) else if wordE v ≠ 0 then ([], wordE v)
  else match least (apart l u v) with
    | none => ([], 5)
    | some e => (e, 0)
/-- Words that begin names and are told apart. -/
def tellsB (l : List W) : List W → List (List W) → Bool
  | [], _ => true
  | w :: r, seen => if (ends l w).isEmpty || seen.contains (ends l w) then false else tellsB l r (seen ++ [ends l w])
def checkApartE (l : List W) (ws : List W) : Int × Int :=
  if listE l ≠ 0 then (0, listE l) else if 301 < ws.length then (0, 6) else if wordsE ws ≠ 0 then (0, wordsE ws)
  else if tellsB l ws [] = true then ((ws.length : Int), 0) else (0, 25)
def apartE (l : List W) : List W × Int := if listE l ≠ 0 then ([], listE l) else if l = [] then ([], 0) else (tops l, 0)
def nearE (l : List W) (w : W) (most : Int) : List W × Int :=
  if listE l ≠ 0 then ([], listE l) else if wordE w ≠ 0 then ([], wordE w) else if most < 0 ∨ 2 < most then ([], 3)
  else (l.filter (fun s => near most.toNat s w), 0)
def twoE (a b : List W) : Int := if listE a ≠ 0 then listE a else listE b
def joinE (a b : List W) : List W × Int := if twoE a b ≠ 0 then ([], twoE a b) else if 30 < (joinL a b).length then ([], 6) else (joinL a b, 0)
def bothE (a b : List W) : List W × Int := if twoE a b ≠ 0 then ([], twoE a b) else (bothL a b, 0)
end X
/- Plain Lean: the statements of the package. -/
namespace X
theorem less_iff {a b : W} : less a b = true ↔ a.length < b.length ∨ a.length = b.length ∧ lt a b = true := by
  unfold less; simp
theorem less_total (a b : W) : less a b = true ∨ a = b ∨ less b a = true := by
  rw [less_iff, less_iff]
  rcases Nat.lt_trichotomy a.length b.length with h | h | h
  · exact .inl (.inl h)
  · rcases lt_total a b with k | k | k
    · exact .inl (.inr ⟨h, k⟩)
    · exact .inr (.inl k)
    · exact .inr (.inr (.inr ⟨h.symm, k⟩))
  · exact .inr (.inr (.inl h))
theorem less_asymm {a b : W} (h : less a b = true) : less b a = false := by
  cases k : less b a with
  | false => rfl
  | true =>
    rw [less_iff] at h k
    rcases h with h | ⟨h, h2⟩ <;> rcases k with k | ⟨k, k2⟩
    · omega
    · omega
    · omega
    · rw [lt_asymm h2] at k2; cases k2
theorem less_trans {a b c : W} (h : less a b = true) (k : less b c = true) : less a c = true := by
  rw [less_iff] at *
  rcases h with h | ⟨h, h2⟩ <;> rcases k with k | ⟨k, k2⟩
  · exact .inl (by omega)
  · exact .inl (by omega)
  · exact .inl (by omega)
  · exact .inr ⟨by omega, lt_trans h2 k2⟩
theorem least_none : ∀ {l : List W}, least l = none ↔ l = []
  | [] => by simp [least]
  | x :: r => by
    unfold least
    cases least r with
    | none => simp
    | some y => by_cases h : less y x = true <;> simp [h]
theorem least_some : ∀ {l : List W} {e : W}, least l = some e → e ∈ l ∧ ∀ x ∈ l, less x e = false
  | [], e, h => by simp [least] at h
  | x :: r, e, h => by
    have irr : less x x = false := by
      cases k : less x x with
      | false => rfl
      | true => have := less_asymm k; rw [k] at this; cases this
    unfold least at h
    cases hr : least r with
    | none =>
      rw [hr] at h
      simp only [Option.some.injEq] at h
      subst h
      rw [least_none] at hr
      subst hr
      exact ⟨by simp, fun y hy => by rw [List.mem_singleton.1 hy]; exact irr⟩
    | some y =>
      rw [hr] at h
      obtain ⟨h1, h2⟩ := least_some hr
      by_cases hyx : less y x = true
      · simp only [hyx, if_true, Option.some.injEq] at h
        subst h
        refine ⟨List.mem_cons_of_mem _ h1, fun z hz => ?_⟩
        rcases List.mem_cons.1 hz with rfl | hz
        · exact less_asymm hyx
        · exact h2 z hz
      · simp only [hyx, Bool.false_eq_true, if_false, Option.some.injEq] at h
        subst h
        refine ⟨by simp, fun z hz => ?_⟩
        rcases List.mem_cons.1 hz with rfl | hz
        · exact irr
        · cases k : less z x with
          | false => rfl
          | true =>
            rcases less_total y z with q | rfl | q
            · exact absurd (less_trans q k) hyx
            · exact absurd k hyx
            · rw [h2 z hz] at q; cases q
theorem least_same {a b : List W} (h : ∀ x, x ∈ a ↔ x ∈ b) : least a = least b := by
  cases ha : least a with
  | none =>
    rw [least_none] at ha
    subst ha
    symm
    rw [least_none, List.eq_nil_iff_forall_not_mem]
    exact fun x hx => by have := (h x).2 hx; cases this
  | some e =>
    cases hb : least b with
    | none =>
      rw [least_none] at hb
      subst hb
      have := (h e).1 (least_some ha).1
      cases this
    | some f =>
      obtain ⟨a1, a2⟩ := least_some ha
      obtain ⟨b1, b2⟩ := least_some hb
      have c1 := a2 f ((h f).2 b1)
      have c2 := b2 e ((h e).1 a1)
      rcases less_total e f with q | rfl | q
      · rw [c2] at q; cases q
      · rfl
      · rw [c1] at q; cases q
theorem mem_apart {l : List W} {u v e : W} : e ∈ apart l u v ↔ (u ++ e ∈ l ∧ v ++ e ∉ l) ∨ (v ++ e ∈ l ∧ u ++ e ∉ l) := by
  unfold apart
  simp only [List.mem_append, List.mem_filter, Bool.not_eq_true', List.contains_eq_mem, decide_eq_false_iff_not, mem_ends]
theorem apart_comm (l : List W) (u v : W) : least (apart l u v) = least (apart l v u) := least_same (fun x => by rw [mem_apart, mem_apart]; exact Or.comm)
theorem apart_nil {l : List W} (h : Rises l) {u v : W} : apart l u v = [] ↔ ends l u = ends l v := by
  rw [ends_eq h, List.eq_nil_iff_forall_not_mem]
  constructor
  · intro k e
    have := k e
    rw [mem_apart] at this
    constructor
    · intro h1; exact Classical.byContradiction (fun h2 => this (.inl ⟨h1, h2⟩))
    · intro h1; exact Classical.byContradiction (fun h2 => this (.inr ⟨h1, h2⟩))
  · intro k e he
    rw [mem_apart, k e] at he
    rcases he with ⟨a, b⟩ | ⟨a, b⟩ <;> exact b a
/-- Tell on a valid list and words. -/
theorem tellE_ok {l : List W} (hl : List_ l) {u v : W} (hu : wordE u = 0) (hv : wordE v = 0) : tellE l u v = (match least (apart l u v) with | none => ([], 5) | some e => (e, 0)) := by
  unfold tellE
  rw [if_neg (by rw [listE_iff.2 hl]; simp), if_neg (by rw [hu]; simp), if_neg (by rw [hv]; simp)]
  all_goals (cases least (apart l u v) <;> rfl)
theorem tell_comm {l : List W} (hl : List_ l) {u v : W} (hu : wordE u = 0) (hv : wordE v = 0) : tellE l u v = tellE l v u := by rw [tellE_ok hl hu hv, tellE_ok hl hv hu, apart_comm]
theorem tell_bad {l : List W} (hl : List_ l) {u v : W} (h : wordE u ≠ 0 ∨ wordE v ≠ 0) : (tellE l u v).1 = [] ∧ (tellE l u v).2 ≠ 0 := by
  unfold tellE
  rw [if_neg (by rw [listE_iff.2 hl]; simp)]
  by_cases hu : wordE u = 0
  · rw [if_neg (by rw [hu]; simp)]
    have hv : wordE v ≠ 0 := by
      rcases h with h | h
      · exact absurd hu h
      · exact h
    rw [if_pos hv]; exact ⟨rfl, hv⟩
  · rw [if_pos hu]; exact ⟨rfl, hu⟩
theorem tell_cases {l : List W} (hl : List_ l) {u v : W} (hu : wordE u = 0) (hv : wordE v = 0) :
    (∃ e, tellE l u v = (e, 0) ∧ decide (u ++ e ∈ l) ≠ decide (v ++ e ∈ l)) ∨ (tellE l u v = ([], 5) ∧ ends l u = ends l v) := by
  rw [tellE_ok hl hu hv]
  cases h : least (apart l u v) with
  | none => exact .inr ⟨rfl, (apart_nil hl.up).1 (least_none.1 h)⟩
  | some e =>
    refine .inl ⟨e, rfl, ?_⟩
    rcases mem_apart.1 (least_some h).1 with ⟨a, b⟩ | ⟨a, b⟩ <;> simp [a, b]
theorem tell_letter {l : List W} (hl : List_ l) {u v : W} {c : UInt8} (hu : wordE (u ++ [c]) = 0) (hv : wordE (v ++ [c]) = 0) (h : ends l u = ends l v) : tellE l (u ++ [c]) (v ++ [c]) = ([], 5) := by
  rw [tellE_ok hl hu hv, least_none.2]
  rw [apart_nil hl.up, ← ends_ends, ← ends_ends, h]
theorem wordE_iff {w : W} : wordE w = 0 ↔ w.length ≤ 10 ∧ letters w = true := by
  unfold wordE
  constructor
  · intro h
    split at h
    · cases h
    · split at h
      · rename_i h1 h2; exact ⟨by omega, h2⟩
      · cases h
  · rintro ⟨h1, h2⟩; rw [if_neg (by omega), if_pos h2]
theorem wordE_snoc {w : W} {c : UInt8} (h : wordE w = 0) (hc : letter c = true) (hl : w.length < 10) : wordE (w ++ [c]) = 0 := by
  rw [wordE_iff] at *
  refine ⟨by simp; omega, ?_⟩
  unfold letters at *
  rw [List.all_append, h.2]; simp [hc]
theorem wordE_name {l : List W} (hl : List_ l) {w : W} (h : w ∈ l) : wordE w = 0 := wordE_iff.2 ⟨hl.long w h, hl.lett w h⟩
theorem letters_prefix {u w : W} (h : u <+: w) (hw : letters w = true) : letters u = true := by
  obtain ⟨t, rfl⟩ := h
  unfold letters at *
  rw [List.all_append, Bool.and_eq_true] at hw
  exact hw.1
theorem wordE_scan {l : List W} (hl : List_ l) {w : W} (h : w ∈ scan l) : wordE w = 0 := by
  rcases mem_scan.1 h with rfl | ⟨s, hs, hp⟩
  · rfl
  · exact wordE_iff.2 ⟨Nat.le_trans hp.length_le (hl.long s hs), letters_prefix hp (hl.lett s hs)⟩
theorem wordsE_ok : ∀ {ws : List W}, wordsE ws = 0 ↔ ∀ w ∈ ws, wordE w = 0
  | [] => by simp [wordsE]
  | s :: r => by
    unfold wordsE
    split
    · rename_i h; rw [wordsE_ok]; simp [h]
    · rename_i h; simp [h]
theorem tellsB_ok {l : List W} : ∀ {ws : List W} {seen : List (List W)}, (∀ w ∈ ws, ends l w ≠ []) → (∀ w ∈ ws, ends l w ∉ seen) → ws.Pairwise (fun u v => ends l u ≠ ends l v) → tellsB l ws seen = true
  | [], _, _, _, _ => rfl
  | w :: r, seen, h1, h2, h3 => by
    rw [List.pairwise_cons] at h3
    unfold tellsB
    rw [if_neg]
    · refine tellsB_ok (fun v hv => h1 v (List.mem_cons_of_mem _ hv)) (fun v hv hm => ?_) h3.2
      rcases List.mem_append.1 hm with hm | hm
      · exact h2 v (List.mem_cons_of_mem _ hv) hm
      · exact h3.1 v hv (List.mem_singleton.1 hm).symm
    · have := h1 w (by simp)
      have := h2 w (by simp)
      simp_all
theorem tops_ends {l : List W} (hl : List_ l) (h0 : l ≠ []) {w : W} (h : w ∈ tops l) : ends l w ≠ [] := by
  have hs := (firsts_kept hl.up).sub w ((mem_tops hl.long).1 h)
  rcases mem_scan.1 hs with rfl | ⟨s, hs, e, rfl⟩
  · rw [ends_nil]; exact h0
  · intro he
    have : e ∈ ends l w := mem_ends.2 hs
    rw [he] at this; cases this
theorem apart_checks {l : List W} (hl : List_ l) (h0 : l ≠ []) : checkApartE l (tops l) = (((tops l).length : Int), 0) := by
  unfold checkApartE
  rw [if_neg (by rw [listE_iff.2 hl]; simp), if_neg (by have := tops_len hl; have := scan_len hl; omega), if_neg, if_pos]
  · refine tellsB_ok (fun w hw => tops_ends hl h0 hw) (by simp) ?_
    refine List.Pairwise.imp_of_mem ?_ (List.nodup_iff_pairwise_ne.1 (tops_nodup hl.up))
    intro u v hu hv huv he
    exact huv (firsts_uniq hl.up ((mem_tops hl.long).1 hu) ((mem_tops hl.long).1 hv) he)
  · have : wordsE (tops l) = 0 := wordsE_ok.2 (fun w hw => wordE_scan hl ((firsts_kept hl.up).sub w ((mem_tops hl.long).1 hw)))
    rw [this]; simp
theorem apart_checks0 : checkApartE [] [] = (0, 0) := by decide
theorem build_nil : build [] = [⟨0, [], []⟩] := by decide +kernel
/-- Number and Name of the least automaton. -/
theorem number_build {l : List W} (hl : List_ l) (w : W) : numberE (build l) w = if wordE w ≠ 0 then (0, wordE w) else if w ∈ l then (((l.idxOf w : Nat) : Int), (0 : Int)) else (0, 5) := by
  unfold numberE; rw [build_names hl]; simp
theorem number_at {l : List W} (hl : List_ l) {i : Nat} (hi : i < l.length) : numberE (build l) (l.getD i []) = ((i : Int), 0) := by
  have e : l.getD i [] = l[i] := by simp [hi]
  have hm : l[i] ∈ l := List.getElem_mem hi
  rw [number_build hl, e, if_neg (by rw [wordE_name hl hm]; simp), if_pos hm]
  have h1 := List.idxOf_lt_length_of_mem hm
  have h2 := List.getElem_idxOf h1
  rw [nodup_at hl.up.nodup h1 hi h2]
theorem name_at {l : List W} (hl : List_ l) {i : Nat} (hi : i < l.length) : nameE (build l) (i : Int) = (l.getD i [], 0) := by
  unfold nameE; rw [build_names hl]
  rw [if_neg (by simp), if_neg (by simp; omega)]
  simp
/-- Near. -/
theorem nearE_ok {l : List W} (hl : List_ l) {w : W} (hw : wordE w = 0) {n : Nat} (hn : n ≤ 2) : nearE l w (n : Int) = (l.filter (fun s => near n s w), 0) := by
  unfold nearE
  rw [if_neg (by rw [listE_iff.2 hl]; simp), if_neg (by rw [hw]; simp), if_neg (by omega)]
  simp
theorem mem_near {l : List W} {w s : W} {n : Nat} : s ∈ l.filter (fun s => near n s w) ↔ s ∈ l ∧ Le n s w := by rw [List.mem_filter, near_iff]
theorem near_zero {l : List W} (hl : List_ l) (w : W) : l.filter (fun s => near 0 s w) = if w ∈ l then [w] else [] := by
  have h : ∀ s, s ∈ l.filter (fun s => near 0 s w) ↔ s ∈ l ∧ s = w := fun s => by rw [mem_near, le_zero]
  have hr : Rises (l.filter (fun s => near 0 s w)) := List.Pairwise.filter _ hl.up
  by_cases hw : w ∈ l
  · rw [if_pos hw]
    refine hr.unique (by simp [Rises]) (fun s => ?_)
    rw [h, List.mem_singleton]
    exact ⟨fun k => k.2, fun k => by subst k; exact ⟨hw, rfl⟩⟩
  · rw [if_neg hw]
    exact List.eq_nil_iff_forall_not_mem.2 (fun s hs => by obtain ⟨h1, rfl⟩ := (h s).1 hs; exact hw h1)
theorem near_within {l : List W} {w : W} {m n : Nat} (h : m ≤ n) : ∀ s ∈ l.filter (fun s => near m s w), s ∈ l.filter (fun s => near n s w) := fun s hs => by
  rw [mem_near] at *
  exact ⟨hs.1, hs.2.mono h⟩
theorem near_two {l : List W} {w x : W} (hx : x ∈ l.filter (fun s => near 1 s w)) : ∀ s ∈ l.filter (fun s => near 1 s w), s ∈ l.filter (fun s => near 2 s x) := fun s hs => by
  rw [mem_near] at *
  exact ⟨hs.1, hs.2.trans hx.2.symm⟩
theorem near_drop {l : List W} {w : W} (h : w ∈ l) (k : Nat) : w ∈ l.filter (fun s => near 1 s (w.take k ++ w.drop (k + 1))) := mem_near.2 ⟨h, le_drop w k⟩
theorem wordE_drop {l : List W} (hl : List_ l) {w : W} (h : w ∈ l) (k : Nat) : wordE (w.take k ++ w.drop (k + 1)) = 0 := by
  have h1 := hl.long w h
  have h2 := hl.lett w h
  rw [wordE_iff]
  refine ⟨by simp; omega, ?_⟩
  unfold letters at *
  rw [List.all_eq_true] at *
  intro c hc
  rcases List.mem_append.1 hc with hc | hc
  · exact h2 c (List.mem_of_mem_take hc)
  · exact h2 c (List.mem_of_mem_drop hc)
end X
/- Plain Lean: the least automaton is sorted: no two states alike, each is come to, longer ones come first. -/
namespace X
section
variable {l : List W} (hl : List_ l)
include hl
theorem build_inj {i k : Nat} (hi : i < (tops l).length) (hk : k < (tops l).length) (h : at_ (build l) i = at_ (build l) k) : i = k := by
  have hA := build_auto hl
  have e : reads (build l) i = reads (build l) k := by rw [reads_eq hA (by rw [build_len]; exact hi), reads_eq hA (by rw [build_len]; exact hk), h]
  rw [reads_build hl hi, reads_build hl hk] at e
  exact top_inj hl hi hk e
/-- Each state but the first one is come to from one ahead of it. -/
theorem build_pred {i : Nat} (hi : i < (tops l).length) (h0 : 0 < i) : ∃ j, j < i ∧ (i : Int) ∈ (at_ (build l) j).next := by
  have hs := (firsts_kept hl.up).sub _ (top_mem hl hi)
  have hne : top l i ≠ [] := by
    intro e
    have := top_inj hl hi (tops_pos hl) (by rw [e, top_zero hl])
    omega
  have hdrop : top l i = (top l i).dropLast ++ [(top l i).getLast hne] := (List.dropLast_concat_getLast hne).symm
  generalize (top l i).dropLast = u at hdrop
  generalize (top l i).getLast hne = c at hdrop
  have hscan : u ∈ scan l := by
    rcases mem_scan.1 hs with e | ⟨s, hs, hp⟩
    · exact absurd e hne
    · rw [hdrop] at hp
      exact mem_scan.2 (.inr ⟨s, hs, List.IsPrefix.trans (List.prefix_append _ _) hp⟩)
  have hi2 := idx_spec hl hscan
  have hends : ends l (top l (idx l (ends l u)) ++ [c]) = ends l (top l i) := by rw [← ends_ends, hi2.2, ends_ends, ← hdrop]
  have hn0 : ends l (top l i) ≠ [] := by
    refine tops_ends hl ?_ ((mem_tops hl.long).2 (top_mem hl hi))
    rintro rfl
    have : (tops ([] : List W)).length = 1 := by decide +kernel
    omega
  have hn1 : ends l (top l (idx l (ends l u)) ++ [c]) ≠ [] := by rw [hends]; exact hn0
  refine ⟨idx l (ends l u), ?_, ?_⟩
  · have := (idx_more hl hi2.1 hn1).1
    rw [hends, idx_top hl hi] at this
    exact this
  · rw [at_build hi2.1]
    unfold state
    dsimp only
    rw [List.mem_map]
    refine ⟨c, List.mem_filter.2 ⟨mem_abc.2 ?_, by simpa using hn1⟩, by rw [hends, idx_top hl hi]⟩
    obtain ⟨e, he⟩ := List.exists_mem_of_ne_nil _ hn0
    have := hl.lett _ (mem_ends.1 he)
    rw [hdrop] at this
    unfold letters at this
    rw [List.all_append, List.all_append] at this
    simp only [Bool.and_eq_true, List.all_cons] at this
    exact this.1.2.1
/-- How long the longest word of a state is. -/
def lon (l : List W) (i : Nat) : Nat := longest (ends l (top l i))
theorem lon_down {i : Nat} (hi : i + 1 < (tops l).length) : lon l (i + 1) ≤ lon l i := by
  have h := top_before hl (show i < i + 1 by omega) hi
  unfold before at h
  unfold lon
  rcases h with h | ⟨h, -⟩ <;> omega
end
theorem foldl_maxI (q : List Int) : ∀ m, m ≤ q.foldl max m ∧ (∀ x ∈ q, x ≤ q.foldl max m) ∧ (q.foldl max m = m ∨ q.foldl max m ∈ q) := by
  induction q with
  | nil => intro m; exact ⟨Int.le_refl _, fun x h => by simp at h, .inl rfl⟩
  | cons y r ih =>
    intro m
    obtain ⟨h1, h2, h3⟩ := ih (max m y)
    rw [List.foldl_cons]
    refine ⟨by omega, fun x hx => ?_, ?_⟩
    · rcases List.mem_cons.1 hx with rfl | hx
      · omega
      · exact h2 x hx
    · rcases h3 with h3 | h3
      · rw [h3]
        by_cases h : m ≤ y
        · exact .inr (by rw [Int.max_eq_right h]; simp)
        · exact .inl (by omega)
      · exact .inr (List.mem_cons_of_mem _ h3)
section
variable {l : List W} (hl : List_ l) (h0 : l ≠ [])
include hl h0
/-- The longest word by the longest ones of the states to which one comes. -/
theorem lon_fold {i : Nat} (hi : i < (tops l).length) : ((at_ (build l) i).next.map (fun n => 1 + (lon l n.toNat : Int))).foldl max ((at_ (build l) i).ends - 1) = (lon l i : Int) := by
  have hA := build_auto hl
  have hb : i < (build l).length := by rw [build_len]; exact hi
  have hne := tops_ends hl h0 ((mem_tops hl.long).2 (top_mem hl hi))
  obtain ⟨f1, f2, f3⟩ := foldl_maxI ((at_ (build l) i).next.map (fun n => 1 + (lon l n.toNat : Int))) ((at_ (build l) i).ends - 1)
  have hr := reads_build hl hi
  have hnx := hA.nx i hb
  have hen := hA.en _ (at_mem hb)
  have hup : ∀ n ∈ (at_ (build l) i).next, 1 + lon l n.toNat ≤ lon l i := by
    intro n hn
    rw [at_build hi] at hn
    simp only [state, List.mem_map] at hn
    obtain ⟨c, hc, rfl⟩ := hn
    have hc2 : ends l (top l i ++ [c]) ≠ [] := by simpa using (List.mem_filter.1 hc).2
    have h1 := longest_less hc2
    have h2 := (idx_spec hl (scan_ends hc2)).2
    unfold lon
    rw [Int.toNat_natCast, h2]; omega
  apply Int.le_antisymm
  · rcases f3 with e | e
    · rw [e]; rcases hen with k | k <;> omega
    · obtain ⟨n, hn, e2⟩ := List.mem_map.1 e
      rw [← e2]
      have := hup n hn
      omega
  · obtain ⟨w, hw, hwl⟩ := longest_ex hne
    have hlon : lon l i = w.length := by unfold lon; exact hwl.symm
    rw [← hr] at hw
    cases w with
    | nil =>
      have := (mem_reads_nil hA hb).1 hw
      rw [hlon]; simp; omega
    | cons c w =>
      obtain ⟨n, hn, hwn⟩ := (mem_reads_cons hA hb).1 hw
      have hm : n ∈ (at_ (build l) i).next := (List.of_mem_zip hn).2
      have hb2 := hnx n hm
      rw [build_len] at hb2
      rw [reads_build hl (by omega)] at hwn
      have h1 := longest_le hwn
      have h2 := f2 _ (List.mem_map_of_mem hm)
      refine Int.le_trans ?_ h2
      rw [hlon]
      unfold lon
      simp; omega
end
/-- Sums over numbers. -/
def sumTo (n : Nat) (f : Nat → Int) : Int := ((List.range n).map f).sum
theorem sumTo_succ (n : Nat) (f : Nat → Int) : sumTo (n + 1) f = sumTo n f + f n := by
  unfold sumTo; rw [List.range_succ, List.map_append, List.sum_append]; simp
theorem sumTo_congr {n : Nat} {f g : Nat → Int} (h : ∀ j, j < n → f j = g j) : sumTo n f = sumTo n g := by
  induction n with
  | zero => rfl
  | succ n ih => rw [sumTo_succ, sumTo_succ, ih (fun j hj => h j (by omega)), h n (by omega)]
theorem sumTo_add {n p : Nat} {f g : Nat → Int} {d : Int} (hp : p < n) (h : ∀ j, j < n → g j = if j = p then f j + d else f j) : sumTo n g = sumTo n f + d := by
  induction n with
  | zero => omega
  | succ n ih =>
    rw [sumTo_succ, sumTo_succ]
    by_cases e : p = n
    · subst e
      rw [h p (by omega), if_pos rfl, sumTo_congr (g := f) (fun j hj => by rw [h j (by omega), if_neg (by omega)])]
      omega
    · rw [ih (by omega) (fun j hj => h j (by omega)), h n (by omega), if_neg (by omega)]
      omega
theorem sumTo_le {n p : Nat} {f : Nat → Int} (hp : p < n) (h : ∀ j, j < n → 0 ≤ f j) : f p ≤ sumTo n f := by
  induction n with
  | zero => omega
  | succ n ih =>
    rw [sumTo_succ]
    have hs : 0 ≤ sumTo n f := by
      clear ih hp
      induction n with
      | zero => simp [sumTo]
      | succ n ih => rw [sumTo_succ]; have := ih (fun j hj => h j (by omega)); have := h n (by omega); omega
    by_cases e : p = n
    · subst e; omega
    · have := ih (by omega) (fun j hj => h j (by omega))
      have := h n (by omega)
      omega
/-- How many words are read from a state. -/
def many (l : List W) (i : Nat) : Int := ((ends l (top l i)).length : Int)
def sumOf (q : List Int) : Int := q.sum
theorem sum_many {l : List W} : ∀ q : List Int, 0 ≤ (q.map (fun n => many l n.toNat)).sum
  | [] => by simp
  | n :: q => by
    rw [List.map_cons, List.sum_cons]
    have := sum_many (l := l) q
    have : 0 ≤ many l n.toNat := by unfold many; omega
    omega
/-- The counts of ways, between the rounds of the loop: row i, the ways from k on being left. -/
structure Come (l : List W) (i k : Nat) (c : List Int) : Prop where
  len : c.length = (tops l).length
  pos : ∀ j, j < (tops l).length → 0 ≤ c.getD j 0
  low : ∀ j, j < (tops l).length → j ≤ i → c.getD j 0 ≤ 30
  tot : sumTo (tops l).length (fun j => if i < j then c.getD j 0 * many l j else 0) + c.getD i 0 * (if k = 0 then many l i else (((at_ (build l) i).next.drop k).map (fun n => many l n.toNat)).sum) ≤ 30
  one : ∀ j, j < (tops l).length → (j = 0 ∨ (∃ i', i' < i ∧ (j : Int) ∈ (at_ (build l) i').next) ∨ ∃ k', k' < k ∧ (at_ (build l) i).next[k']? = some (j : Int)) → 1 ≤ c.getD j 0
section
variable {l : List W} (hl : List_ l) (h0 : l ≠ [])
include hl h0
theorem many_pos {i : Nat} (hi : i < (tops l).length) : 1 ≤ many l i := by
  have := List.length_pos_iff.2 (tops_ends hl h0 ((mem_tops hl.long).2 (top_mem hl hi)))
  unfold many; omega
omit h0 in
theorem many_sum {i : Nat} (hi : i < (tops l).length) : ((at_ (build l) i).next.map (fun n => many l n.toNat)).sum ≤ many l i := by
  have hA := build_auto hl
  have hb : i < (build l).length := by rw [build_len]; exact hi
  have h1 := reads_build hl hi
  rw [reads_eq hA hb] at h1
  have hnx := hA.nx i hb
  have heq := hA.eq _ (at_mem hb)
  unfold many
  rw [← h1, List.length_append]
  generalize (at_ (build l) i).letters = A at *
  generalize (at_ (build l) i).next = N at *
  clear h1
  have : (N.map (fun n => ((ends l (top l n.toNat)).length : Int))).sum = (((A.zip N).flatMap (fun p => (reads (build l) p.2.toNat).map (p.1 :: ·))).length : Int) := by
    induction N generalizing A with
    | nil => simp
    | cons n N ih =>
      cases A with
      | nil => simp at heq
      | cons a A =>
        have hn := hnx n (by simp)
        rw [build_len] at hn
        rw [List.map_cons, List.sum_cons, List.zip_cons_cons, List.flatMap_cons, List.length_append, List.length_map, ih A (fun m hm => hnx m (List.mem_cons_of_mem _ hm)) (by simpa using heq), reads_build hl (by omega)]
        simp
  rw [this]
  omega
omit h0 in
theorem come_start : Come l 0 0 ((List.replicate (tops l).length (0 : Int)).set 0 1) := by
  have hp := tops_pos hl
  have hg : ∀ j, ((List.replicate (tops l).length (0 : Int)).set 0 1).getD j 0 = if j = 0 then 1 else 0 := by
    intro j
    rw [List.getD_eq_getElem?_getD, List.getElem?_set]
    by_cases e : j = 0
    · subst e; simp; rw [if_pos (by omega)]; rfl
    · have e' : ¬ 0 = j := fun h => e h.symm
      rw [if_neg e', if_neg e, List.getElem?_replicate]
      split <;> rfl
  refine ⟨by simp, fun j hj => by rw [hg]; split <;> omega, fun j hj h => by rw [hg]; split <;> omega, ?_, fun j hj h => ?_⟩
  · have : sumTo (tops l).length (fun j => if 0 < j then ((List.replicate (tops l).length (0 : Int)).set 0 1).getD j 0 * many l j else 0) = 0 := by
      rw [sumTo_congr (g := fun _ => 0)]
      · clear hg hp
        induction (tops l).length with
        | zero => rfl
        | succ n ih => rw [sumTo_succ, ih]; rfl
      · intro j hj
        rw [hg]
        split
        · rw [if_neg (by omega)]; simp
        · rfl
    rw [this, hg, if_pos rfl, if_pos rfl]
    unfold many
    rw [top_zero hl, ends_nil]
    have := hl.many
    omega
  · rw [hg]
    rcases h with rfl | ⟨i', h, -⟩ | ⟨k', h, -⟩
    · simp
    · omega
    · omega
omit h0 in
/-- A row is begun: its ways are as many words, at least. -/
theorem come_open {i : Nat} {c : List Int} (hi : i < (tops l).length) (h : Come l i 0 c) :
    sumTo (tops l).length (fun j => if i < j then c.getD j 0 * many l j else 0) + c.getD i 0 * (((at_ (build l) i).next.drop 0).map (fun n => many l n.toNat)).sum ≤ 30 := by
  have h1 := h.tot
  rw [if_pos rfl] at h1
  have h2 := many_sum hl hi
  have h3 := h.pos i hi
  rw [List.drop_zero]
  have := Int.mul_le_mul_of_nonneg_left h2 h3
  omega
theorem come_bound {i k : Nat} {c : List Int} (hi : i < (tops l).length) (h : Come l i k c) {j : Nat} (hj : j < (tops l).length) (hij : i < j) : c.getD j 0 ≤ 30 := by
  have h1 := h.tot
  have hm := many_pos hl h0 hj
  have hp : ∀ q, q < (tops l).length → 0 ≤ (fun j => if i < j then c.getD j 0 * many l j else 0) q := by
    intro q hq
    dsimp only
    split
    · exact Int.mul_nonneg (h.pos q hq) (by have := many_pos hl h0 hq; omega)
    · exact Int.le_refl _
  have h2 := sumTo_le hj hp
  simp only [hij, if_true] at h2
  have h3 : 0 ≤ c.getD i 0 * (if k = 0 then many l i else (((at_ (build l) i).next.drop k).map (fun n => many l n.toNat)).sum) := by
    refine Int.mul_nonneg (h.pos i hi) ?_
    split
    · have := many_pos hl h0 hi; omega
    · exact sum_many _
  have h4 : c.getD j 0 * 1 ≤ c.getD j 0 * many l j := Int.mul_le_mul_of_nonneg_left hm (h.pos j hj)
  omega
omit h0 in
theorem come_reach {i k : Nat} {c : List Int} (hi : i < (tops l).length) (h : Come l i k c) : 1 ≤ c.getD i 0 := by
  refine h.one i hi ?_
  rcases Nat.eq_zero_or_pos i with e | e
  · exact .inl e
  · obtain ⟨j, hj, hm⟩ := build_pred hl hi e
    exact .inr (.inl ⟨j, hj, hm⟩)
omit h0 in
/-- One way. -/
theorem come_step {i k : Nat} {c : List Int} (hi : i < (tops l).length) (h : Come l i k c) {p : Nat} (hp : (at_ (build l) i).next[k]? = some (p : Int)) : Come l i (k + 1) (c.set p (c.getD p 0 + c.getD i 0)) := by
  have hA := build_auto hl
  have hb : i < (build l).length := by rw [build_len]; exact hi
  have hnx := hA.nx i hb _ (List.mem_of_getElem? hp)
  rw [build_len] at hnx
  have hpl : p < (tops l).length := by omega
  have hip : i < p := by omega
  have hg : ∀ j, (c.set p (c.getD p 0 + c.getD i 0)).getD j 0 = if j = p then c.getD p 0 + c.getD i 0 else c.getD j 0 := by
    intro j
    rw [List.getD_eq_getElem?_getD, List.getElem?_set]
    by_cases e : j = p
    · subst e
      rw [if_pos rfl, if_pos rfl, if_pos (by rw [h.len]; exact hpl)]; rfl
    · rw [if_neg (fun h => e h.symm), if_neg e, ← List.getD_eq_getElem?_getD]
  have ht : sumTo (tops l).length (fun j => if i < j then c.getD j 0 * many l j else 0) + c.getD i 0 * (((at_ (build l) i).next.drop k).map (fun n => many l n.toNat)).sum ≤ 30 := by
    cases k with
    | zero => exact come_open hl hi h
    | succ k => have := h.tot; rwa [if_neg (by omega)] at this
  have hk : k < (at_ (build l) i).next.length := (List.getElem?_eq_some_iff.1 hp).1
  have hdrop : (at_ (build l) i).next.drop k = (p : Int) :: (at_ (build l) i).next.drop (k + 1) := by
    rw [List.drop_eq_getElem_cons hk]
    congr 1
    rw [List.getElem?_eq_getElem hk] at hp
    exact Option.some.inj hp
  have hci := h.pos i hi
  have hcp := h.pos p hpl
  refine ⟨by simp [h.len], fun j hj => ?_, fun j hj hji => ?_, ?_, fun j hj hr => ?_⟩
  · rw [hg]; split
    · omega
    · exact h.pos j hj
  · rw [hg, if_neg (by omega)]; exact h.low j hj hji
  · rw [if_neg (by omega), hg i, if_neg (by omega)]
    rw [sumTo_add (f := fun j => if i < j then c.getD j 0 * many l j else 0) (d := c.getD i 0 * many l p) hpl]
    · rw [hdrop, List.map_cons, List.sum_cons, Int.toNat_natCast, Int.mul_add] at ht
      omega
    · intro j hj
      rw [hg]
      by_cases e : j = p
      · subst e
        rw [if_pos hip, if_pos rfl, if_pos rfl, if_pos hip, Int.add_mul]
      · rw [if_neg e, if_neg e]
  · rw [hg]
    by_cases e : j = p
    · rw [if_pos e]
      have := come_reach hl hi h
      omega
    · rw [if_neg e]
      refine h.one j hj ?_
      rcases hr with hr | hr | ⟨k', hk', hr⟩
      · exact .inl hr
      · exact .inr (.inl hr)
      · refine .inr (.inr ⟨k', ?_, hr⟩)
        rcases Nat.lt_or_ge k' k with q | q
        · exact q
        · exfalso
          have : k' = k := by omega
          subst this
          rw [hp] at hr
          simp at hr
          omega
/-- A row is done. -/
theorem come_next {i k : Nat} {c : List Int} (hi : i < (tops l).length) (h : Come l i k c) (hk : k = (at_ (build l) i).next.length) : Come l (i + 1) 0 c := by
  have ht : sumTo (tops l).length (fun j => if i < j then c.getD j 0 * many l j else 0) ≤ 30 := by
    have h1 := h.tot
    have h3 : 0 ≤ c.getD i 0 * (if k = 0 then many l i else (((at_ (build l) i).next.drop k).map (fun n => many l n.toNat)).sum) := by
      refine Int.mul_nonneg (h.pos i hi) ?_
      split
      · have := many_pos hl h0 hi; omega
      · exact sum_many _
    omega
  refine ⟨h.len, h.pos, fun j hj hji => ?_, ?_, fun j hj hr => ?_⟩
  · rcases Nat.lt_or_ge i j with q | q
    · exact come_bound hl h0 hi h hj q
    · exact h.low j hj q
  · rw [if_pos rfl]
    by_cases hb : i + 1 < (tops l).length
    · have e := sumTo_add (n := (tops l).length) (p := i + 1) (f := fun j => if i + 1 < j then c.getD j 0 * many l j else 0) (g := fun j => if i < j then c.getD j 0 * many l j else 0) (d := c.getD (i + 1) 0 * many l (i + 1)) hb (fun j hj => by
        by_cases e : j = i + 1
        · subst e
          rw [if_pos rfl, if_pos (by omega), if_neg (by omega)]; omega
        · rw [if_neg e]
          by_cases q : i < j
          · rw [if_pos q, if_pos (by omega)]
          · rw [if_neg q, if_neg (by omega)])
      omega
    · have hz : c.getD (i + 1) 0 = 0 := by rw [List.getD_eq_getElem?_getD, List.getElem?_eq_none (by have := h.len; omega)]; rfl
      rw [hz, Int.zero_mul]
      have e : sumTo (tops l).length (fun j => if i + 1 < j then c.getD j 0 * many l j else 0) = sumTo (tops l).length (fun j => if i < j then c.getD j 0 * many l j else 0) := sumTo_congr (fun j hj => by rw [if_neg (by omega), if_neg (by omega)])
      omega
  · refine h.one j hj ?_
    rcases hr with hr | ⟨i', hi', hr⟩ | ⟨k', hk', -⟩
    · exact .inl hr
    · rcases Nat.lt_or_ge i' i with q | q
      · exact .inr (.inl ⟨i', q, hr⟩)
      · have : i' = i := by omega
        subst this
        obtain ⟨k', hk', e⟩ := List.getElem_of_mem hr
        exact .inr (.inr ⟨k', by omega, by rw [List.getElem?_eq_getElem hk', e]⟩)
    · omega
end
end X
/- Plain Lean: what the program keeps of a word: all its endings, one behind another. -/
namespace X
/-- Words one behind another, each closed by a semicolon. -/
def cat (q : List W) : W := q.flatMap (fun e => e ++ [59])
theorem letter_semi {w : W} (h : letters w = true) : (59 : UInt8) ∉ w := by
  intro hm
  unfold letters at h
  have := List.all_eq_true.1 h 59 hm
  revert this; decide
theorem cut_semi : ∀ {a b x y : W}, (59 : UInt8) ∉ a → (59 : UInt8) ∉ b → a ++ 59 :: x = b ++ 59 :: y → a = b ∧ x = y
  | [], [], x, y, _, _, h => by simp at h; exact ⟨rfl, h⟩
  | [], c :: b, x, y, _, hb, h => by
    simp at h; exact absurd (by rw [h.1]; simp) hb
  | c :: a, [], x, y, ha, _, h => by
    simp at h; exact absurd (by rw [h.1]; simp) ha
  | c :: a, d :: b, x, y, ha, hb, h => by
    simp only [List.cons_append, List.cons.injEq] at h
    obtain ⟨rfl, h⟩ := h
    obtain ⟨e1, e2⟩ := cut_semi (fun hm => ha (List.mem_cons_of_mem _ hm)) (fun hm => hb (List.mem_cons_of_mem _ hm)) h
    exact ⟨by rw [e1], e2⟩
theorem cat_inj : ∀ {p q : List W}, (∀ w ∈ p, letters w = true) → (∀ w ∈ q, letters w = true) → cat p = cat q → p = q
  | [], [], _, _, _ => rfl
  | [], w :: q, _, _, h => by
    unfold cat at h
    rw [List.flatMap_nil, List.flatMap_cons] at h
    have := congrArg List.length h
    simp at this
  | w :: p, [], _, _, h => by
    unfold cat at h
    rw [List.flatMap_nil, List.flatMap_cons] at h
    have := congrArg List.length h
    simp at this
  | w :: p, v :: q, hp, hq, h => by
    have e1 : cat (w :: p) = w ++ 59 :: cat p := by unfold cat; rw [List.flatMap_cons, List.append_assoc]; rfl
    have e2 : cat (v :: q) = v ++ 59 :: cat q := by unfold cat; rw [List.flatMap_cons, List.append_assoc]; rfl
    rw [e1, e2] at h
    obtain ⟨h1, h2⟩ := cut_semi (letter_semi (hp w (by simp))) (letter_semi (hq v (by simp))) h
    rw [h1, cat_inj (fun x hx => hp x (List.mem_cons_of_mem _ hx)) (fun x hx => hq x (List.mem_cons_of_mem _ hx)) h2]
theorem cat_nil {p : List W} : cat p = [] ↔ p = [] := by
  constructor
  · intro h
    cases p with
    | nil => rfl
    | cons w p =>
      unfold cat at h
      rw [List.flatMap_cons] at h
      simp at h
  · rintro rfl; rfl
theorem ends_letters {l : List W} (hl : ∀ s ∈ l, letters s = true) (w : W) : ∀ e ∈ ends l w, letters e = true := by
  intro e he
  have := hl _ (mem_ends.1 he)
  unfold letters at *
  rw [List.all_append, Bool.and_eq_true] at this
  exact this.2
theorem cat_ends {l : List W} (hl : ∀ s ∈ l, letters s = true) {u v : W} : cat (ends l u) = cat (ends l v) ↔ ends l u = ends l v :=
  ⟨fun h => cat_inj (ends_letters hl u) (ends_letters hl v) h, fun h => by rw [h]⟩
/-- Whether a word is a name: by its endings. -/
theorem mem_by_ends {l : List W} {w : W} : w ∈ l ↔ [] ∈ ends l w := by rw [mem_ends, List.append_nil]
/-- What the map keeps: the least word so far with these endings. -/
def keepM (l : List W) (m : List W) (w : W) : List W :=
  match m.find? (fun v => ends l v == ends l w) with
  | none => w :: m
  | some v => if lt w v then w :: m.filter (fun x => x != v) else m
/-- The words of a map, in whatever order, that have been kept of some words. -/
structure Kept2 (l pre m : List W) : Prop where
  sub : ∀ w ∈ m, w ∈ pre
  all : ∀ w ∈ pre, ∃ v ∈ m, ends l v = ends l w
  least : ∀ v ∈ m, ∀ w ∈ pre, ends l w = ends l v → lt w v = false
theorem Kept2.uniq {l pre m : List W} (h : Kept2 l pre m) {v w : W} (hv : v ∈ m) (hw : w ∈ m) (e : ends l v = ends l w) : v = w := by
  have h1 := h.least v hv w (h.sub w hw) e.symm
  have h2 := h.least w hw v (h.sub v hv) e
  rcases lt_total v w with k | k | k
  · rw [k] at h2; cases h2
  · exact k
  · rw [k] at h1; cases h1
/-- A word that is not there yet, or is less than the one that is. -/
theorem Kept2.put {l pre m m' : List W} {w : W} (h : Kept2 l pre m) (hn : ∀ v ∈ m, ends l v = ends l w → lt w v = true) (hm : ∀ x, x ∈ m' ↔ x = w ∨ x ∈ m ∧ ends l x ≠ ends l w) : Kept2 l (pre ++ [w]) m' := by
  refine ⟨fun x hx => ?_, fun x hx => ?_, fun v hv x hx he => ?_⟩
  · rcases (hm x).1 hx with rfl | ⟨h1, -⟩
    · simp
    · exact List.mem_append_left _ (h.sub x h1)
  · rcases List.mem_append.1 hx with hx | hx
    · obtain ⟨v, hv, he⟩ := h.all x hx
      by_cases e : ends l v = ends l w
      · exact ⟨w, (hm w).2 (.inl rfl), by rw [← e, he]⟩
      · exact ⟨v, (hm v).2 (.inr ⟨hv, e⟩), he⟩
    · rw [List.mem_singleton.1 hx]; exact ⟨w, (hm w).2 (.inl rfl), rfl⟩
  · rcases (hm v).1 hv with rfl | ⟨h1, h2⟩
    · rcases List.mem_append.1 hx with hx | hx
      · obtain ⟨u, hu, hue⟩ := h.all x hx
        have h3 := hn u hu (by rw [hue, he])
        have h4 := h.least u hu x hx hue.symm
        cases k : lt x v with
        | false => rfl
        | true => rw [lt_trans k h3] at h4; cases h4
      · rw [List.mem_singleton.1 hx]; exact lt_irrefl _
    · rcases List.mem_append.1 hx with hx | hx
      · exact h.least v h1 x hx he
      · rw [List.mem_singleton.1 hx] at he; exact absurd he.symm h2
/-- A word that stays out: the one that is there is no greater. -/
theorem Kept2.skip {l pre m : List W} {w v : W} (h : Kept2 l pre m) (hv : v ∈ m) (he : ends l v = ends l w) (hn : lt w v = false) : Kept2 l (pre ++ [w]) m := by
  refine ⟨fun x hx => List.mem_append_left _ (h.sub x hx), fun x hx => ?_, fun u hu x hx hue => ?_⟩
  · rcases List.mem_append.1 hx with hx | hx
    · exact h.all x hx
    · rw [List.mem_singleton.1 hx]; exact ⟨v, hv, he⟩
  · rcases List.mem_append.1 hx with hx | hx
    · exact h.least u hu x hx hue
    · rw [List.mem_singleton.1 hx] at hue ⊢
      have : u = v := h.uniq hu hv (by rw [he, hue])
      rw [this]; exact hn
theorem Kept2.start (l : List W) : Kept2 l [[]] [[]] := ⟨fun _ h => h, fun w h => ⟨w, h, rfl⟩, fun v hv w hw _ => by rw [List.mem_singleton.1 hv, List.mem_singleton.1 hw]; rfl⟩
/-- All words having been looked at: the least ones. -/
theorem Kept2.done {l m : List W} (h : Kept2 l (scan l) m) (w : W) : w ∈ m ↔ IsLeast l w := by
  constructor
  · intro hw; exact ⟨h.sub w hw, fun v hv he => h.least w hw v hv he⟩
  · rintro ⟨h1, h2⟩
    obtain ⟨v, hv, he⟩ := h.all w h1
    have a1 := h.least v hv w h1 he.symm
    have a2 := h2 v (h.sub v hv) he
    rcases lt_total v w with k | rfl | k
    · rw [k] at a2; cases a2
    · exact hv
    · rw [k] at a1; cases a1
/-- Of a list in the order of Tell's endings the first one is the least. -/
theorem least_head {q : List W} (h : q.Pairwise (fun a b => less b a = false)) : least q = q.head? := by
  cases q with
  | nil => rfl
  | cons x r =>
    rw [List.pairwise_cons] at h
    cases hr : least r with
    | none => unfold least; rw [hr]; rfl
    | some y =>
      have := h.1 y (least_some hr).1
      unfold least; rw [hr]
      simp [this]
/-- Lists joined by sorting: what the program does. -/
theorem join_sorted {a b q : List W} (ha : Rises a) (hb : Rises b) (hq : Rises q) (hm : ∀ x, x ∈ q ↔ x ∈ a ∨ x ∈ b) : q = joinL a b :=
  hq.unique (join_spec ha hb).1 (fun x => by rw [hm, (join_spec ha hb).2.1])
end X
/- Plain Lean: what loops make of lists, one more at a time. -/
namespace X
theorem ends_snoc (l : List W) (s w : W) : ends (l ++ [s]) w = ends l w ++ if w.isPrefixOf s = true then [s.drop w.length] else [] := by
  unfold ends
  rw [List.filter_append, List.map_append]
  congr 1
  split
  · rename_i h; rw [List.filter_cons_of_pos h]; rfl
  · rename_i h; rw [List.filter_cons_of_neg h]; rfl
theorem longest_snoc (l : List W) (s : W) : longest (l ++ [s]) = max (longest l) s.length := by
  unfold longest; rw [List.map_append, List.foldl_append]; rfl
theorem letters_snoc (w : W) (c : UInt8) : letters (w ++ [c]) = (letters w && letter c) := by
  unfold letters; rw [List.all_append]; simp
/-- The words that firsts keeps, behind some of those that are looked at. -/
def firstsOf (l q : List W) : List W := q.foldl (keepStep l) [[]]
theorem firstsOf_snoc (l q : List W) (w : W) : firstsOf l (q ++ [w]) = keepStep l (firstsOf l q) w := by unfold firstsOf; rw [List.foldl_append]; rfl
theorem firsts_eq (l : List W) : firsts l = firstsOf l (l.flatMap begs) := rfl
theorem begs_take {s : W} {n : Nat} (h : n < s.length) : (begs s).take (n + 1) = (begs s).take n ++ [s.take (n + 1)] := by
  have hl : n < (begs s).length := by simp [begs, h]
  rw [List.take_succ_eq_append_getElem hl]
  simp [begs]
theorem begs_all (s : W) : (begs s).take s.length = begs s := List.take_of_length_le (by simp [begs])
theorem flat_take {l : List W} {i : Nat} (h : i < l.length) : (l.take (i + 1)).flatMap begs = (l.take i).flatMap begs ++ begs (l.getD i []) := by
  rw [List.take_succ_eq_append_getElem h, List.flatMap_append]
  simp [h]
/-- No word of some has the same endings. -/
def freshB (l out : List W) (w : W) : Bool := !out.any (fun v => ends l v == ends l w)
theorem freshB_snoc (l out : List W) (v w : W) : freshB l (out ++ [v]) w = (freshB l out w && !(ends l v == ends l w)) := by
  unfold freshB; rw [List.any_append]; simp
theorem keepStep_eq (l out : List W) (w : W) : keepStep l out w = if freshB l out w = true then out ++ [w] else out := by
  unfold keepStep freshB
  by_cases h : out.any (fun v => ends l v == ends l w) = true
  · rw [if_pos h, h]; rfl
  · rw [if_neg h, if_pos (by simpa using h)]
/-- The rows of tops: the lengths from 10 down to n. -/
def topsFrom (l : List W) (n : Nat) : List W := ((List.range (11 - n)).map (fun k => 10 - k)).flatMap (fun m => (firsts l).filter (fun w => longest (ends l w) == m))
theorem topsFrom_step (l : List W) {n : Nat} (h : n ≤ 10) : topsFrom l n = topsFrom l (n + 1) ++ (firsts l).filter (fun w => longest (ends l w) == n) := by
  unfold topsFrom
  rw [show 11 - n = (11 - (n + 1)) + 1 by omega, List.range_succ, List.map_append, List.flatMap_append]
  simp only [List.map_cons, List.map_nil, List.flatMap_cons, List.flatMap_nil, List.append_nil]
  rw [show 10 - (11 - (n + 1)) = n by omega]
theorem topsFrom_zero (l : List W) : topsFrom l 0 = tops l := by
  unfold topsFrom tops
  congr 1
theorem topsFrom_end (l : List W) : topsFrom l 11 = [] := rfl
end X
