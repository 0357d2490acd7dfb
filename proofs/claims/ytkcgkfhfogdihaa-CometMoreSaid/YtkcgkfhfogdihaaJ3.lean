/- One text of Last, LawA, ComA, ComB, ComC, MathC, ComD, ComE, ComF, ComG, MathD, ComH, MathE. -/
import Derived.Test.YtkcgkfhfogdihaaJ2
import Derived.OrdersHeld
/- A region that draws its order, and whose last operation waits for all others: the others in whatever order, then that one. -/
namespace Go.Proofs.Ytkcgkfhfogdihaa
open Go
section
variable {P : Program} {md : Region.Mode} {Q : Exit → Act → World → Prop}
/-- The last operation's post, behind the others. -/
def lastQ (P : Program) (o : Oper) (Q : Exit → Act → World → Prop) : Exit → Act → World → Prop
  | .normal, a, w => o.wp P a w (fun a w => Q .normal a w) Q
  | e, a, w => Q e a w
theorem wp_lastQ {o x : Oper} {a : Act} {w : World} {K K' : Act → World → Prop} (h : ∀ a w, K a w → K' a w) (hh : x.wp P a w K (lastQ P o Q)) : x.wp P a w K' Q := by
  unfold Oper.wp at *
  generalize (execOp a.eval x).run P w = r at *
  cases r with
  | ok n w' =>
    cases n with
    | value v => exact h _ _ hh
    | skip => exact h _ _ hh
    | defer d => exact h _ _ hh
    | enter f args => exact Calls.mono hh (fun e w'' he => by
        cases e with
        | returned v => exact h _ _ he
        | panicked c => exact he
        | outgrown => exact he)
    | row r args => exact Rows.mono hh (fun _ _ he => h _ _ he)
    | _ => exact hh
  | halt x w' => cases x <;> exact hh
/-- All wait for those ahead of them only; the last one for each of the others; no guard. -/
def lastB (md : Region.Mode) (l : List Oper) (o : Oper) : Bool :=
  (l ++ [o]).all (fun x => x.guard.isNone) && (List.range l.length).all (fun j => ((l[j]?).map fun x => x.after.all fun e => !Region.binds md e || decide (e.on < j)).getD true)
    && (List.range l.length).all (fun i => o.after.any fun e => Region.binds md e && e.on == i) && o.after.all (fun e => !Region.binds md e || decide (e.on < l.length))
structure LastP (md : Region.Mode) (l : List Oper) (o : Oper) : Prop where
  free : ∀ x, x ∈ l ++ [o] → x.guard = none
  low : ∀ j x, l[j]? = some x → ∀ e ∈ x.after, Region.binds md e = true → e.on < j
  last : ∀ i, i < l.length → ∃ e ∈ o.after, Region.binds md e = true ∧ e.on = i
  lowO : ∀ e ∈ o.after, Region.binds md e = true → e.on < l.length
theorem lastB_spec {l : List Oper} {o : Oper} (h : lastB md l o = true) : LastP md l o := by
  unfold lastB at h
  simp only [Bool.and_eq_true] at h
  obtain ⟨⟨⟨h1, h2⟩, h3⟩, h4⟩ := h
  refine ⟨fun x hx => ?_, fun j x hj e he hb => ?_, fun i hi => ?_, fun e he hb => ?_⟩
  · have := List.all_eq_true.1 h1 x hx
    exact Option.isNone_iff_eq_none.1 this
  · have hjl : j < l.length := (List.getElem?_eq_some_iff.1 hj).1
    have := List.all_eq_true.1 h2 j (List.mem_range.2 hjl)
    rw [hj] at this
    simp only [Option.map_some, Option.getD_some, Array.all_eq_true_iff_forall_mem, Bool.or_eq_true, Bool.not_eq_true', decide_eq_true_eq] at this
    rcases this e he with h | h
    · rw [hb] at h; cases h
    · exact h
  · have := List.all_eq_true.1 h3 i (List.mem_range.2 hi)
    obtain ⟨e, he, hh⟩ := Array.any_eq_true'.1 this
    simp only [Bool.and_eq_true, beq_iff_eq] at hh
    exact ⟨e, he, hh.1, hh.2⟩
  · simp only [Array.all_eq_true_iff_forall_mem, Bool.or_eq_true, Bool.not_eq_true', decide_eq_true_eq] at h4
    rcases h4 e he with h | h
    · rw [hb] at h; cases h
    · exact h
theorem wanted_free {o : Oper} (h : o.guard = none) (y : Nat → Option Bool) : Region.wanted o y = true := by simp [Region.wanted, h]
theorem ready_all {l : List Oper} {o : Oper} (hp : LastP md l o) {listed : Array Bool} (hs : listed.size = l.length) (hr : Region.ready md l.toArray listed = []) : ∀ i, i < l.length → listed.getD i false = true := by
  intro i
  induction i using Nat.strongRecOn with
  | ind i ih =>
    intro hi
    cases hl : listed.getD i false with
    | true => rfl
    | false =>
      exfalso
      have hm : i ∈ Region.ready md l.toArray listed := by
        rw [mem_ready]
        have ho : l.toArray[i]? = some l[i] := by simp [hi]
        refine ⟨?_, l[i], ho, fun e he hb => ?_⟩
        · have : i < listed.size := by omega
          simp [this] at hl ⊢; exact hl
        · have := hp.low i l[i] (by simp [hi]) e he hb
          exact ih e.on this (by omega)
      rw [hr] at hm; cases hm
theorem get_low {l : List Oper} {o : Oper} {i : Nat} (hi : i < l.length) : (l ++ [o]).toArray[i]? = l.toArray[i]? := by simp [List.getElem?_append_left hi]
theorem get_last (l : List Oper) (o : Oper) : (l ++ [o]).toArray[l.length]? = some o := by simp
theorem getD_push_lt {listed : Array Bool} {b d : Bool} {i : Nat} (h : i < listed.size) : (listed.push b).getD i d = listed.getD i d := by
  simp [Array.getElem?_push, h, Nat.ne_of_lt h]
theorem push_set {listed : Array Bool} {b : Bool} {i : Nat} (h : i < listed.size) : (listed.push b).setIfInBounds i true = (listed.setIfInBounds i true).push b := by
  apply Array.ext_getElem?
  intro k
  simp only [Array.getElem?_setIfInBounds, Array.getElem?_push, Array.size_setIfInBounds, Array.size_push]
  by_cases h1 : i = k
  · subst h1; simp [h, Nat.ne_of_lt h, Nat.lt_succ_of_lt h]
  · simp [h1]
theorem ready_low {l : List Oper} {o : Oper} (hp : LastP md l o) {listed : Array Bool} (hs : listed.size = l.length) {i : Nat} (hi : i < l.length) : i ∈ Region.ready md (l ++ [o]).toArray (listed.push false) ↔ i ∈ Region.ready md l.toArray listed := by
  rw [mem_ready, mem_ready, get_low hi, getD_push_lt (by omega)]
  constructor
  · rintro ⟨h0, x, hx, h⟩
    refine ⟨h0, x, hx, fun e he hb => ?_⟩
    have := hp.low i x (by simpa using hx) e he hb
    rw [← h e he hb, getD_push_lt (by omega)]
  · rintro ⟨h0, x, hx, h⟩
    refine ⟨h0, x, hx, fun e he hb => ?_⟩
    have := hp.low i x (by simpa using hx) e he hb
    rw [← h e he hb, getD_push_lt (by omega)]
theorem ready_last {l : List Oper} {o : Oper} (hp : LastP md l o) {listed : Array Bool} (hs : listed.size = l.length) : l.length ∈ Region.ready md (l ++ [o]).toArray (listed.push false) ↔ ∀ i, i < l.length → listed.getD i false = true := by
  rw [mem_ready, get_last]
  constructor
  · rintro ⟨-, x, hx, h⟩ i hi
    cases hx
    obtain ⟨e, he, hb, rfl⟩ := hp.last i hi
    rw [← h e he hb, getD_push_lt (by omega)]
  · intro h
    refine ⟨by simp [← hs], o, rfl, fun e he hb => ?_⟩
    have := hp.lowO e he hb
    rw [getD_push_lt (by omega)]; exact h _ this
theorem ready_done {l : List Oper} {o : Oper} {listed : Array Bool} (hs : listed.size = l.length) (h : ∀ i, i < l.length → listed.getD i false = true) : Region.ready md (l ++ [o]).toArray ((listed.push false).setIfInBounds l.length true) = [] := by
  rw [List.eq_nil_iff_forall_not_mem]
  intro j hj
  rw [mem_ready] at hj
  obtain ⟨h0, x, hx, -⟩ := hj
  have hjl : j < l.length + 1 := by
    have := (Array.getElem?_eq_some_iff.1 hx).1
    simpa using this
  by_cases e : j = l.length
  · subst e
    simp [← hs] at h0
  · rw [getD_set_ne true (by omega), getD_push_lt (by omega)] at h0
    have := h j (by omega)
    have hjs : j < listed.size := by omega
    simp [hjs] at h0 this
    rw [h0] at this; cases this
theorem wpAny_nil {ops : Array Oper} {fuel : Nat} {listed : Array Bool} {a : Act} {w : World} (hr : Region.ready md ops listed = []) (h : Q .normal a w) : wpAny P md ops Q fuel listed a w := by
  cases fuel with
  | zero => exact ⟨hr, h⟩
  | succ f => exact ⟨fun _ => h, fun i hi => by rw [hr] at hi; cases hi⟩
theorem wpAny_last {l : List Oper} {o : Oper} (hp : LastP md l o) : ∀ (fuel : Nat) (listed : Array Bool) (a : Act) (w : World), listed.size = l.length →
    wpAny P md l.toArray (lastQ P o Q) fuel listed a w → wpAny P md (l ++ [o]).toArray Q (fuel + 1) (listed.push false) a w := by
  intro fuel
  have hfin : ∀ (f : Nat) (listed : Array Bool) (a : Act) (w : World), listed.size = l.length → (∀ i, i < l.length → listed.getD i false = true) → lastQ P o Q .normal a w → wpAny P md (l ++ [o]).toArray Q (f + 1) (listed.push false) a w := by
    intro f listed a w hs hall hq
    refine ⟨fun hr => ?_, fun i hi => ?_⟩
    · have := (ready_last hp hs).2 hall
      rw [hr] at this; cases this
    · have hil : i = l.length := by
        rcases Nat.lt_or_ge i l.length with h | h
        · exfalso
          rw [mem_ready] at hi
          have h0 := hi.1
          rw [getD_push_lt (by omega)] at h0
          have h1 := hall i h
          have his : i < listed.size := by omega
          simp [his] at h0 h1
          rw [h0] at h1; cases h1
        · rw [mem_ready] at hi
          obtain ⟨-, x, hx, -⟩ := hi
          have := (Array.getElem?_eq_some_iff.1 hx).1
          simp at this; omega
      subst hil
      unfold wpOp
      rw [get_last]
      have hw := wanted_free (hp.free o (by simp)) (yielded (l ++ [o]).toArray a.tmps)
      simp only [hw, if_true]
      exact .inl (Oper.wp_mono (fun a w h => wpAny_nil (ready_done hs hall) h) hq)
  induction fuel with
  | zero =>
    intro listed a w hs h
    exact hfin 0 listed a w hs (ready_all hp hs h.1) h.2
  | succ f ih =>
    intro listed a w hs h
    by_cases hr : Region.ready md l.toArray listed = []
    · exact hfin (f + 1) listed a w hs (ready_all hp hs hr) (h.1 hr)
    · refine ⟨fun hn => ?_, fun i hi => ?_⟩
      · exfalso
        obtain ⟨i, hi⟩ := List.exists_mem_of_ne_nil _ hr
        have hil : i < l.length := by
          rw [mem_ready] at hi
          obtain ⟨-, x, hx, -⟩ := hi
          have := (Array.getElem?_eq_some_iff.1 hx).1
          simpa using this
        have := (ready_low hp hs hil).2 hi
        rw [hn] at this; cases this
      · have hil : i < l.length := by
          rcases Nat.lt_or_ge i l.length with h1 | h1
          · exact h1
          · exfalso
            have hil : i = l.length := by
              rw [mem_ready] at hi
              obtain ⟨-, x, hx, -⟩ := hi
              have := (Array.getElem?_eq_some_iff.1 hx).1
              simp at this; omega
            subst hil
            have hall := (ready_last hp hs).1 hi
            apply hr
            rw [List.eq_nil_iff_forall_not_mem]
            intro j hj
            rw [mem_ready] at hj
            obtain ⟨h0, x, hx, -⟩ := hj
            have hjl := (Array.getElem?_eq_some_iff.1 hx).1
            simp at hjl
            have h1 := hall j hjl
            have hjs : j < listed.size := by omega
            simp [hjs] at h0 h1
            rw [h0] at h1; cases h1
        have hop := h.2 i ((ready_low hp hs hil).1 hi)
        unfold wpOp at hop ⊢
        rw [get_low hil]
        have ho : l.toArray[i]? = some l[i] := by simp [hil]
        rw [ho] at hop ⊢
        have hg := hp.free l[i] (by simp)
        simp only [wanted_free hg, if_true] at hop ⊢
        have conv : ∀ a w, wpAny P md l.toArray (lastQ P o Q) f (listed.setIfInBounds i true) a w → wpAny P md (l ++ [o]).toArray Q (f + 1) ((listed.push false).setIfInBounds i true) a w := fun a w hk => by
          rw [push_set (by omega)]
          exact ih _ a w (by simp [hs]) hk
        rcases hop with hop | ⟨h1, h2⟩
        · exact .inl (wp_lastQ conv hop)
        · exact .inr ⟨h1, h2⟩
theorem wp_region_last {id : Nat} {a : Act} {w : World} {l : List Oper} {o : Oper} (hm : P.follows .mixedOrders = true) (hB : lastB .any l o = true)
    (h : wpAny P .any l.toArray (lastQ P o Q) l.length (Array.replicate l.length false) a w.drew) : (Code.region id (l ++ [o]).toArray true).wp P Q a w := by
  refine wp_region_any hm ?_
  have := wpAny_last (lastB_spec hB) l.length (Array.replicate l.length false) a w.drew (by simp) h
  have e : (Array.replicate l.length false).push false = Array.replicate (l ++ [o]).toArray.size false := by
    rw [← Array.replicate_succ]; simp
  rw [e] at this
  simpa using this
theorem wp_toLast {o x : Oper} {a : Act} {w : World} {K K' : Act → World → Prop} (h : ∀ a w, K a w → K' a w) (hh : x.wp P a w K Q) : x.wp P a w K' (lastQ P o Q) := by
  unfold Oper.wp at *
  generalize (execOp a.eval x).run P w = r at *
  cases r with
  | ok n w' =>
    cases n with
    | value v => exact h _ _ hh
    | skip => exact h _ _ hh
    | defer d => exact h _ _ hh
    | enter f args => exact Calls.mono hh (fun e w'' he => by
        cases e with
        | returned v => exact h _ _ he
        | panicked c => exact he
        | outgrown => exact he)
    | row r args => exact Rows.mono hh (fun _ _ he => h _ _ he)
    | _ => exact hh
  | halt x w' => cases x <;> exact hh
/-- Operations that yield the same in every world that meets S, and leave it be. -/
def headH (P : Program) (S : World → Prop) (L : Act → Prop) : List Oper → Act → Prop
  | [], a => L a
  | o :: r, a => ∃ v, (∀ w, S w → (execOp a.eval o).run P w = .ok (.value v) w) ∧ headH P S L r (a.put o.dst v)
/-- Operations in a row, S behind each but the last. -/
def tailH (P : Program) (S : World → Prop) (Q : Exit → Act → World → Prop) : List Oper → Act → World → Prop
  | [], a, w => Q .normal a w
  | [o], a, w => ∀ K : Act → World → Prop, (∀ a' w', Q .normal a' w' → K a' w') → o.wp P a w K Q
  | o :: o2 :: r, a, w => ∀ K : Act → World → Prop, (∀ a' w', S w' → tailH P S Q (o2 :: r) a' w' → K a' w') → o.wp P a w K Q
theorem wpAnyH_seq {ops : Array Oper} {S : World → Prop} {o : Oper} : ∀ (l : List Oper) (k : Nat) (listed : Array Bool) (a : Act) (w : World), (∀ j, l[j]? = ops[k + j]?) → (∀ x ∈ l, x.guard = none) →
    Region.seqB md ops l.length k listed = true → tailH P S Q (l ++ [o]) a w → wpAnyH P md ops (lastQ P o Q) S l.length listed a w
  | [], _, _, a, w, _, _, hB, h => ⟨by simpa [Region.seqB] using hB, h _ (fun a w h => h)⟩
  | x :: l, k, listed, a, w, hl, hg, hB, h => by
    have h0 : ops[k]? = some x := by simpa using (hl 0).symm
    simp only [List.length_cons, Region.seqB, Bool.and_eq_true, decide_eq_true_eq] at hB
    refine ⟨fun h1 => (by rw [hB.1] at h1; cases h1), fun i hi => ?_⟩
    rw [hB.1] at hi
    have hik : i = k := by simpa using hi
    subst hik
    have hh : x.wp P a w (fun a' w' => S w' ∧ tailH P S Q (l ++ [o]) a' w') Q := by
      cases l with
      | nil => exact h _ (fun a w hS h => ⟨hS, h⟩)
      | cons y r => exact h _ (fun a w hS h => ⟨hS, h⟩)
    unfold wpOp
    rw [h0]
    simp only [wanted_free (hg x (by simp)), if_true]
    exact .inl (wp_toLast (fun a' w' hk => ⟨hk.1, wpAnyH_seq l (i + 1) _ a' w' (fun j => by have := hl (j + 1); simpa [Nat.add_assoc, Nat.add_comm 1 j] using this) (fun y hy => hg y (by simp [hy])) hB.2 hk.2⟩) hh)
theorem wpAnyH_lex {ops : Array Oper} {S : World → Prop} {g n : Nat} {w : World} (hS : S w) (hsel : Region.noSelect ops = true) (hQ : ∀ c (a : Act) d v w, Q (.panic c) (a.put d v) w → Q (.panic c) a w) {L : Act → Prop}
    (hL : ∀ listed a, Region.seqB md ops g n listed = true → L a → wpAnyH P md ops Q S g listed a w) :
    ∀ (l : List Oper) (k : Nat) (listed : Array Bool) (a : Act), (∀ j, j < l.length → l[j]? = ops[k + j]?) → k + l.length = n → (∀ x ∈ l, x.guard = none) →
    Region.lexHead md ops g l.length k listed = true → headH P S L l a → wpAnyH P md ops Q S (l.length + g) listed a w
  | [], k, listed, a, _, hk, _, hB, h => by
    have : k = n := by simpa using hk
    subst this
    rw [List.length_nil, Nat.zero_add]
    exact hL listed a (by simpa [Region.lexHead] using hB) h
  | o :: l, k, listed, a, hl, hk, hg, hB, h => by
    have h0 : ops[k]? = some o := by simpa using (hl 0 (by simp)).symm
    simp only [List.length_cons, Region.lexHead, Bool.and_eq_true] at hB
    obtain ⟨⟨hr, hf⟩, hB'⟩ := hB
    have hr' : k ∈ Region.ready md ops listed := by simpa using hr
    obtain ⟨v, hy, hK⟩ := h
    have ih := wpAnyH_lex hS hsel hQ hL l (k + 1) (listed.setIfInBounds k true) (a.put o.dst v) (fun j hj => by have := hl (j + 1) (by simp; omega); simpa [Nat.add_assoc, Nat.add_comm 1 j] using this)
      (by simp only [List.length_cons] at hk; omega) (fun y hy => hg y (by simp [hy])) hB' hK
    rw [List.length_cons, show l.length + 1 + g = (l.length + g) + 1 by omega]
    exact wpAnyH_first h0 (Region.noSelect_spec hsel) (fun c a w h => hQ c a _ _ w h) (l.length + g) listed a w (Region.free_spec h0 hf) hr' (.inl ⟨wanted_free (hg o (by simp)) _, hy⟩) hS ih
/-- n operations that only read; m - n that keep S, in a row; a last one. -/
def fieldB (L : List Oper) (n m : Nat) : Bool :=
  match L.drop m with
  | [o] => lastB .any (L.take m) o && Region.noSelect (L.take m).toArray && decide (n ≤ m) && decide (m < L.length) && Region.lexHead .any (L.take m).toArray (m - n) n 0 (Array.replicate m false)
  | _ => false
theorem wp_region_field {id : Nat} {a : Act} {w : World} {L : List Oper} (n m : Nat) (S : World → Prop) (hm : P.follows .mixedOrders = true) (hB : fieldB L n m = true)
    (hS : S w.drew) (h : headH P S (fun a' => tailH P S (NoPanic Q) (L.drop n) a' w.drew) (L.take n) a) : (Code.region id L.toArray true).wp P Q a w := by
  refine wp_region_noPanic ?_
  have hQ : ∀ c (a : Act) d v w, NoPanic Q (.panic c) (a.put d v) w → NoPanic Q (.panic c) a w := fun _ _ _ _ _ h => h
  generalize NoPanic Q = Q at *
  unfold fieldB at hB
  split at hB
  · rename_i o ho
    simp only [Bool.and_eq_true, decide_eq_true_eq] at hB
    obtain ⟨⟨⟨⟨h1, h2⟩, h3⟩, h4⟩, h5⟩ := hB
    have hLL : L = L.take m ++ [o] := by rw [← ho, List.take_append_drop]
    have hlen : (L.take m).length = m := by rw [List.length_take]; omega
    have hp := lastB_spec h1
    have hgo : L.drop n = (L.take m).drop n ++ [o] := by
      conv => lhs; rw [hLL]
      rw [List.drop_append_of_le_length (by omega)]
    have htn : L.take n = (L.take m).take n := by rw [List.take_take, Nat.min_eq_left h3]
    have hfree : ∀ x ∈ L.take m, x.guard = none := fun x hx => hp.free x (by simp [hx])
    rw [hgo, htn] at h
    rw [hLL]
    refine wp_region_last hm h1 (wpAny_of_held (S := S) _ _ _ _ ?_)
    have hd : ((L.take m).drop n).length = m - n := by rw [List.length_drop, hlen]
    have ht : ((L.take m).take n).length = n := by rw [List.length_take, hlen]; omega
    have := wpAnyH_lex (md := .any) (ops := (L.take m).toArray) (g := m - n) (n := n) (w := w.drew) (Q := lastQ P o Q) hS h2 (fun c a d v w h => hQ c a d v w h)
      (fun listed a' hs hL => by
        have := wpAnyH_seq (P := P) (md := .any) (ops := (L.take m).toArray) (S := S) (Q := Q) (o := o) ((L.take m).drop n) n listed a' w.drew (fun j => by simp [List.getElem?_drop]) (fun x hx => hfree x (List.mem_of_mem_drop hx)) (by rw [hd]; exact hs) hL
        rwa [hd] at this)
      ((L.take m).take n) 0 (Array.replicate m false) a (fun j hj => by rw [ht] at hj; simp [List.getElem?_take, hj]) (by rw [ht]; omega) (fun x hx => hfree x (List.mem_of_mem_take hx)) (by rw [ht]; exact h5) h
    rw [ht, show n + (m - n) = m by omega] at this
    rw [hlen]; exact this
  · cases hB
theorem headH_nil {S : World → Prop} {L : Act → Prop} {a : Act} (h : L a) : headH P S L [] a := h
theorem tailH_step {S : World → Prop} {o o2 : Oper} {r : List Oper} {a : Act} {w : World} (h : ∀ K : Act → World → Prop, (∀ a' w', S w' → tailH P S Q (o2 :: r) a' w' → K a' w') → o.wp P a w K Q) : tailH P S Q (o :: o2 :: r) a w := h
theorem tailH_last {S : World → Prop} {o : Oper} {a : Act} {w : World} (h : ∀ K : Act → World → Prop, (∀ a' w', Q .normal a' w' → K a' w') → o.wp P a w K Q) : tailH P S Q [o] a w := h
theorem headH_step {S : World → Prop} {L : Act → Prop} {o : Oper} {r : List Oper} {a : Act} (v : Value) (h : ∀ w, S w → (execOp a.eval o).run P w = .ok (.value v) w) (hr : headH P S L r (a.put o.dst v)) : headH P S L (o :: r) a := ⟨v, h, hr⟩
end
end Go.Proofs.Ytkcgkfhfogdihaa
/- Walks of the statements' own small functions: Longs, great, longs, of, Log and the logs of the examples. -/
namespace Go.Proofs.Ytkcgkfhfogdihaa
open Go.RowKit
theorem take_all_eq {xs ys : List Int} (h : xs.length = ys.length) (hn : ∀ i, i < xs.length → nth xs i = nth ys i) : xs = ys := by
  apply List.ext_getElem h
  intro i h1 h2
  rw [← nth_eq xs i h1, ← nth_eq ys i h2]; exact hn i h1
set_option maxRecDepth 100000 in
set_option maxHeartbeats 1000000 in
theorem longs_any (a : Option Addr) (cap : Nat) (xs : List Int) (b : Option Addr) (cap2 : Nat) (ys : List Int) (w : World) (hx : xs.length ≤ 1000000) (_hy : ys.length ≤ 1000000) (ha : Ints .i64 w a xs) (hb : Ints .i64 w b ys) :
    Calls Try.prog 21 #[.slice a xs.length cap, .slice b ys.length cap2] w fun e w' => e = .returned (.bool (decide (xs = ys))) ∧ Below w.heap.size w w' := by
  have HA := Lib.hid ha
  have HB := Lib.hid hb
  clear ha hb
  by_cases hl : xs.length = ys.length
  · have hl' : ((xs.length : Int) != (ys.length : Int)) = false := by simp [hl]
    have HL := Lib.hid hl
    clear hl
    go_enter Try.func21, Try.ntmps21
    go_wp2_with fail
    go_loopw [5] (fun i wi => ∃ j : Nat, j ≤ xs.length ∧ i = .int .i64 j ∧ Hid (∀ k, k < j → nth xs k = nth ys k) ∧ Drew w wi) (fun i _ => xs.length - (intOf i).toNat)
    case atStart => exact ⟨0, by omega, rfl, Lib.hid (fun k h => by omega), Drew.refl _⟩
    case round =>
      obtain ⟨j, hj, rfl, hr, hdr⟩ := hrel
      by_cases hlt : j < xs.length
      · have hlty : j < ys.length := by have := HL.out; omega
        obtain ⟨b1, o1, rfl, c1⟩ := (HA.out.drew hdr) j hlt
        obtain ⟨b2, o2, rfl, c2⟩ := (HB.out.drew hdr) j hlty
        have k1 : (j : Int) < ↑xs.length := by omega
        have k2 : (j : Int) < ↑ys.length := by omega
        have k3 : (0 : Int) ≤ ↑j := by omega
        cases he : (nth xs j != nth ys j) with
        | false =>
          have HE : Hid (nth xs j = nth ys j) := Lib.hid (by simpa using he)
          go_wp2_with fail
          go_quiet (fail)
          go_wp2_with fail
          go_roundw
          case rel => exact ⟨j + 1, by omega, by go_num, Lib.hid (fun k hk => by rcases Nat.lt_succ_iff_lt_or_eq.1 hk with h | rfl; exact hr.out k h; exact HE.out), hdr.drewN _⟩
          case measure => simp [intOf]; omega
        | true =>
          have HE : Hid (decide (xs = ys) = false) := Lib.hid (by
            rw [decide_eq_false_iff_not]; intro e; rw [e] at he; simp at he)
          go_wp2_with fail
          go_quiet (fail)
          go_wp2_with fail
          go_ret
          exact ⟨ret_bool (by rw [HE.out]), (hdr.drewN _).below _⟩
      · have HE : Hid (decide (xs = ys) = true) := Lib.hid (by
          rw [decide_eq_true_iff]; exact take_all_eq HL.out (fun i hi => hr.out i (by omega)))
        go_wp2_with fail
        go_ret
        exact ⟨ret_bool (by rw [HE.out]), hdr.below _⟩
  · have hl' : ((xs.length : Int) != (ys.length : Int)) = true := by rw [bne_iff_ne]; omega
    have HE : Hid (decide (xs = ys) = false) := Lib.hid (by rw [decide_eq_false_iff_not]; intro e; exact hl (by rw [e]))
    clear hl
    go_enter Try.func21, Try.ntmps21
    go_wp2_with fail
    go_ret
    exact ⟨ret_bool (by rw [HE.out]), Below.refl _ _⟩
set_option maxHeartbeats 400000 in
theorem great_any (a : Option Addr) (cap n : Nat) (deg : Int) (w : World) :
    Calls Try.prog 22 #[.agg #[.int .i64 deg, .slice a n cap]] w fun e w' => e = .returned (.bool (decide (20 < n))) ∧ Below w.heap.size w w' := by
  have HB := Lib.hid (Below.new w (.cells #[.int .i64 deg, .slice a n cap] 33))
  by_cases h : 20 < n
  · have h' : (20 : Int) < ↑n := by omega
    have HE : Hid (decide (20 < n) = true) := Lib.hid (by simpa using h)
    clear h
    go_enter Try.func22, Try.ntmps22
    go_wp2_with fail
    go_ret
    exact ⟨ret_bool (by rw [HE.out]; first | done | simp), HB.out⟩
  · have h' : (n : Int) ≤ 20 := by omega
    have HE : Hid (decide (20 < n) = false) := Lib.hid (by simp; omega)
    clear h
    go_enter Try.func22, Try.ntmps22
    go_wp2_with fail
    go_ret
    exact ⟨ret_bool (by rw [HE.out]; first | done | (simp; done) | (simp; omega)), HB.out⟩
theorem longsId_any (v : Value) (w : World) : Calls Try.prog 51 #[v] w fun e w' => e = .returned v ∧ w = w' := by
  go_enter Try.func51, Try.ntmps51
  go_wp2_with fail
  go_ret
  exact ⟨rfl, rfl⟩
theorem ofId_any (v : Value) (w : World) : Calls Try.prog 52 #[v] w fun e w' => e = .returned v ∧ w = w' := by
  go_enter Try.func52, Try.ntmps52
  go_wp2_with fail
  go_ret
  exact ⟨rfl, rfl⟩
/-- The sightings that some numbers make. -/
def pairs : List Int → List (Int × Int)
  | a :: b :: r => (a, b) :: pairs r
  | _ => []
def pairsTo (xs : List Int) (j : Nat) : List (Int × Int) := up (fun i r => r ++ [(nth xs (2 * i), nth xs (2 * i + 1))]) [] j
theorem pairsTo_length (xs : List Int) (j : Nat) : (pairsTo xs j).length = j := by
  induction j with
  | zero => rfl
  | succ j ih => show (pairsTo xs j ++ [_]).length = _; simp [ih]
/-- The worlds of Log's rounds. -/
structure LogI (w : World) (deg : Int) (xs : List Int) (v : Value) (j : Nat) (wi : World) : Prop where
  x0 : wi.cell? ⟨w.heap.size + 1, 0, none⟩ = some (.int .i64 deg)
  x1 : wi.cell? ⟨w.heap.size + 1, 1, none⟩ = some v
  fz : wi.frozen? ⟨w.heap.size + 1, 1, none⟩ = false
  z0 : wi.cell? ⟨w.heap.size, 0, none⟩ = some (.int .i64 0)
  z1 : wi.cell? ⟨w.heap.size, 1, none⟩ = some (.slice none 0 0)
  y0 : wi.frozen? ⟨w.heap.size, 0, none⟩ = false
  y1 : wi.frozen? ⟨w.heap.size, 1, none⟩ = false
  own : wi.ownsRow (w.heap.size + 2) 57 2 v j (flat (pairsTo xs j))
  bel : Below w.heap.size w wi
theorem LogI.step {w wi w1 w2 : World} {deg : Int} {xs : List Int} {v v2 : Value} {j : Nat} (h : LogI w deg xs v j wi) (hb : Below wi.heap.size wi w1) (hg : w1.grownBy w2 v.ownBlock)
    (ho : w2.ownsRow (w.heap.size + 2) 57 2 v2 (j + 1) (flat (pairsTo xs (j + 1)))) : LogI w deg xs v2 (j + 1) (w2.setCell ⟨w.heap.size + 1, 1, none⟩ v2) := by
  have ne : ∀ c, c < w.heap.size + 2 → some c ≠ v.ownBlock := fun c hc e => by have := (h.own.lt c e.symm).1; omega
  have l1 := World.block_lt_of_cell? _ _ h.x1
  simp only at l1
  have sz := h.bel.size
  have c : ∀ {a : Addr} {u : Value}, a.block < w.heap.size + 2 → wi.cell? a = some u → w2.cell? a = some u := fun ha hu => hg.cell (cell_on hb hu) (ne _ ha)
  have f : ∀ {a : Addr}, a.block < w.heap.size + 2 → w2.frozen? a = wi.frozen? a := fun {a} ha => by
    rw [← hb.frozen (p := a) (by omega)]
    exact World.frozen?_of_block (hg.block _ (by have := hb.size; omega) (ne _ ha))
  exact ⟨by rw [World.cell?_setCell_other _ _ _ _ (by simp)]; exact c (by simp) h.x0, World.cell?_setCell_same _ _ _ (c (by simp) h.x1), by rw [World.frozen?_setCell, f (by simp)]; exact h.fz,
    by rw [World.cell?_setCell_other _ _ _ _ (by simp)]; exact c (by simp) h.z0, by rw [World.cell?_setCell_other _ _ _ _ (by simp)]; exact c (by simp) h.z1,
    by rw [World.frozen?_setCell, f (by simp)]; exact h.y0, by rw [World.frozen?_setCell, f (by simp)]; exact h.y1,
    ownsRow_setCell_below ho (by simp) _, (((h.bel.trans (hb.mono sz)).grown hg (by have := hb.size; omega) (fun k e => by have := (h.own.lt k e).1; omega))).setCell (p := ⟨w.heap.size + 1, 1, none⟩) (by simp) _⟩
theorem frozen_grown {w w' : World} {row : Option Nat} (hg : w.grownBy w' row) {a : Addr} (hlt : a.block < w.heap.size) (hne : some a.block ≠ row) (h : w.frozen? a = false) : w'.frozen? a = false := by
  rw [World.frozen?_of_block (hg.block _ hlt hne)]; exact h
theorem frozen_al {w : World} {a : Addr} (h : w.frozen? a = false) (hlt : a.block < w.heap.size) (o : Obj) : (w.alloc o).frozen? a = false := by
  rw [(Below.new w o).frozen hlt]; exact h
theorem frozen_alD {w : World} {a : Addr} (h : w.frozen? a = false) (hlt : a.block < w.heap.size) (o : Obj) : (w.alloc o).drew.frozen? a = false := frozen_al h hlt o
theorem pairsTo_succ (xs : List Int) (j : Nat) : pairsTo xs (j + 1) = pairsTo xs j ++ [(nth xs (2 * j), nth xs (2 * j + 1))] := rfl
set_option maxRecDepth 100000 in
set_option maxHeartbeats 2000000 in
theorem log_any (deg : Int) (b : Option Addr) (cap2 : Nat) (xs : List Int) (w : World) (hx : xs.length ≤ 1000) (hb : Ints .i64 w b xs) :
    Calls Try.prog 54 #[.int .i64 deg, .slice b xs.length cap2] w fun e w' => ∃ v, e = .returned (.agg #[.int .i64 deg, v]) ∧ w'.ownsRow w.heap.size 57 2 v (xs.length / 2) (flat (pairsTo xs (xs.length / 2))) ∧ Below w.heap.size w w' := by
  have HB := Lib.hid hb
  have hb0 := (Below.new w (.cells #[.int .i64 0, .slice none 0 0] 33)).alloc (by simp) (.cells #[.int .i64 deg, .slice none 0 0] 33)
  have HI := Lib.hid (show LogI w deg xs (.slice none 0 0) 0 ((w.alloc (.cells #[.int .i64 0, .slice none 0 0] 33)).alloc (.cells #[.int .i64 deg, .slice none 0 0] 33)) from
    ⟨by simp, by simp, by simp, by simp, by simp, by simp, by simp, World.ownsRow_nil _ _ _ _, hb0⟩)
  clear hb hb0
  go_enter Try.func54, Try.ntmps54
  go_wp2_with fail
  go_loopw [6] (fun i wi => ∃ j v, j ≤ xs.length / 2 ∧ i = .int .i64 ((2 * j : Nat) : Int) ∧ Hid (LogI w deg xs v j wi)) (fun i _ => xs.length - (intOf i).toNat)
  case atStart => exact ⟨0, _, by omega, rfl, HI⟩
  case round =>
    obtain ⟨j, v, hj, rfl, HI1⟩ := hrel
    generalize hm : 2 * j = m
    have k1 : IntKind.i64.wrap ((m : Int) + 1) = (m : Int) + 1 := IntWalk.i64_in _ (by omega)
    by_cases hlt : m + 1 < xs.length
    · have hltI : (m : Int) + 1 < ↑xs.length := by omega
      have k2 : (m : Int) < ↑xs.length := by omega
      have k3 : (0 : Int) ≤ ↑m := by omega
      have k4 : (0 : Int) ≤ (m : Int) + 1 := by omega
      have k5 : ((m : Int) + 1).toNat = m + 1 := by omega
      obtain ⟨b1, o1, rfl, c1⟩ := (HB.out.below HI1.out.bel) m (by omega)
      have c2 := (HB.out.below HI1.out.bel).cellAt (m + 1) (by omega)
      have hx1 := HI1.out.x1
      have HS : Hid (pairsTo xs (j + 1) = pairsTo xs j ++ [(nth xs m, nth xs (m + 1))]) := Lib.hid (by rw [pairsTo_succ, hm])
      have hown := HI1.out.own
      have hn : j + 1 ≤ 2000000 := by omega
      have HM := Lib.hid hm
      have hsz := HI1.out.bel.size
      have hlt1 := World.block_lt_of_cell? _ _ HI1.out.x1
      simp only at hlt1
      clear hm
      go_wp2_with fail
      have ne1 : some (w.heap.size + 1) ≠ v.ownBlock := fun e => by have := (hown.lt _ e.symm).1; omega
      have hbl : b1 < w.heap.size := by obtain ⟨b', o', e, h⟩ := HB.out.at (by omega); cases e; exact h
      have ne2 : some b1 ≠ v.ownBlock := fun e => by have := (hown.lt _ e.symm).1; omega
      have hfz := HI1.out.fz
      generalize hx0 : nth xs m = a0 at *
      generalize hx1' : nth xs (m + 1) = a1 at *
      refine wp_region_field 12 15 (fun w' => w'.cell? ⟨w.heap.size + 1, 1, none⟩ = some v ∧ w'.cell? ⟨b1, o1 + m, none⟩ = some (.int .i64 a0) ∧ w'.cell? ⟨b1, o1 + (m + 1), none⟩ = some (.int .i64 a1)) (by kernel_rfl) (by kernel_rfl) ⟨hx1, c1, c2⟩ ?_
      simp only [List.take_succ_cons, List.take_zero, List.drop_succ_cons, List.drop_zero]
      iterate 12 (refine headH_step _ (fun w' hS' => by (obtain ⟨s1, s2, s3⟩ := hS'; simp [execOp, go_sem, *]; try rfl)) ?_)
      refine headH_nil ?_
      change tailH _ _ _ _ _ wr.drew
      refine tailH_step (fun K hK => ?_)
      go_simp
      obtain ⟨W1, hW1⟩ : ∃ W1, W1 = (wr.alloc (.cells #[.int .i64 a0, .int .i64 a1] 57)).drew := ⟨_, rfl⟩
      rw [← hW1]
      have hb1 : Below wr.heap.size wr W1 := by rw [hW1]; exact (Below.new wr _).drew
      have hnews : ∀ j u, [Value.int .i64 a0, .int .i64 a1][j]? = some u → W1.cell? ((⟨wr.heap.size, 0, none⟩ : Addr).add j) = some u := by rw [hW1]; exact news_new wr #[.int .i64 a0, .int .i64 a1] 57
      have hown1 : W1.ownsRow (w.heap.size + 2) 57 2 v j (flat (pairsTo xs j)) := owns_below hown hb1
      have x1 := cell_on hb1 hx1
      have x2 := cell_on hb1 c1
      have x3 := cell_on hb1 c2
      have x4 : W1.frozen? ⟨w.heap.size + 1, 1, none⟩ = false := by rw [hb1.frozen (p := ⟨w.heap.size + 1, 1, none⟩) hlt1]; exact hfz
      have hsz1 := hb1.size
      clear hW1
      refine hK _ _ ⟨x1, x2, x3⟩ ?_
      clear hK K hx1 c1 c2 hfz
      refine tailH_step (fun K hK => ?_)
      refine wpApp T31 (.tmp 17) (.tmp 28) rfl (w.heap.size + 2) v j (flat (pairsTo xs j)) [.int .i64 a0, .int .i64 a1] 1 1 ⟨wr.heap.size, 0, none⟩ rfl hown1 rfl rfl hnews (by simp [Value.oneCell']) hn (by omega) (fun v2 w2 hown2 hg2 hL2 => ?_)
      have y1 := hg2.cell x1 ne1
      have y2 := hg2.cell x2 ne2
      have y3 := hg2.cell x3 ne2
      have y4 := frozen_grown hg2 (a := ⟨w.heap.size + 1, 1, none⟩) (by have := hb1.size; show w.heap.size + 1 < _; omega) ne1 x4
      rw [← flat_snoc, ← HS.out] at hown2
      have HI2 := Lib.hid (HI1.out.step hb1 hg2 hown2)
      obtain ⟨-, a2, c2, rfl, -⟩ := Sigs.of_ownsRow hown2
      refine hK _ _ ⟨y1, y2, y3⟩ ?_
      clear hK K x1 x2 x3 x4 hown1 hnews hown hown2
      refine tailH_step (fun K hK => ?_)
      go_simp
      refine hK _ _ ⟨y1, y2, y3⟩ ?_
      clear hK K y2 y3
      refine tailH_last (fun K hK => ?_)
      go_simp
      refine hK _ _ (NoPanic.normal ?_)
      clear hK K y1 y4
      go_wp2_with fail
      go_roundw
      case rel => exact ⟨j + 1, _, by have := HM.out; omega, by have := HM.out; go_num, HI2⟩
      case measure => have := HM.out; simp [intOf]; omega
    · have HM := Lib.hid hm
      clear hm
      obtain ⟨-, a3, c3, rfl, -⟩ := Sigs.of_ownsRow HI1.out.own
      have h1 := HI1.out.x0
      have h2 := HI1.out.x1
      have h3 := HI1.out.z0
      have h4 := HI1.out.z1
      have h5 := HI1.out.y0
      have h6 := HI1.out.y1
      have hlt' : (xs.length : Int) ≤ (m : Int) + 1 := by omega
      clear hlt
      go_wp2_with fail
      have hj2 : j = xs.length / 2 := by have := HM.out; omega
      subst hj2
      have e0 : ((wr.setCell ⟨w.heap.size, 0, none⟩ (.int .i64 deg)).setCell ⟨w.heap.size, 1, none⟩ (.slice a3 (xs.length / 2) c3)).cell? ⟨w.heap.size, 0, none⟩ = some (.int .i64 deg) := by
        rw [World.cell?_setCell_other _ _ _ _ (by simp)]; exact World.cell?_setCell_same _ _ _ h3
      have e1 : ((wr.setCell ⟨w.heap.size, 0, none⟩ (.int .i64 deg)).setCell ⟨w.heap.size, 1, none⟩ (.slice a3 (xs.length / 2) c3)).cell? ⟨w.heap.size, 1, none⟩ = some (.slice a3 (xs.length / 2) c3) :=
        World.cell?_setCell_same _ _ _ ((World.cell?_setCell_other _ _ _ _ (by simp)).trans h4)
      have own := ownsRow_setCell_below (ownsRow_setCell_below HI1.out.own (a := ⟨w.heap.size, 0, none⟩) (by simp) (.int .i64 deg)) (a := ⟨w.heap.size, 1, none⟩) (by simp) (.slice a3 (xs.length / 2) c3)
      have bel := (HI1.out.bel.setCell (p := ⟨w.heap.size, 0, none⟩) (by simp) (.int .i64 deg)).setCell (p := ⟨w.heap.size, 1, none⟩) (by simp) (.slice a3 (xs.length / 2) c3)
      generalize ((wr.setCell ⟨w.heap.size, 0, none⟩ (.int .i64 deg)).setCell ⟨w.heap.size, 1, none⟩ (.slice a3 (xs.length / 2) c3)) = W at *
      exact bodyPost_ret (v := .agg #[.int .i64 deg, .slice a3 (xs.length / 2) c3]) (by simp [results, Try.results54, go_sem, e0, e1]) rfl ⟨_, rfl, owns_mono own (by omega), bel⟩
end Go.Proofs.Ytkcgkfhfogdihaa
/- Walks of the program's functions on paths: within, numbers, checkPath, ways, place, At. -/
namespace Go.Proofs.Ytkcgkfhfogdihaa
open Go.RowKit
namespace C
/-- An index was found just if not all passed. -/
def IdxP (n : Int) (b : Bool) : Prop := 0 ≤ n ↔ ¬ b = true
def inB (lo hi n : Int) : Bool := decide (lo ≤ n ∧ n ≤ hi)
end C
/-- The closure of within. -/
def withinF (b1 b2 : Nat) : Value := .func (.func 80) #[] #[.pointer (some ⟨b1, 0, none⟩), .pointer (some ⟨b2, 0, none⟩)]

set_option maxHeartbeats 400000 in
theorem within1_any (lo hi n : Int) (b1 b2 : Nat) (w : World) (h1 : w.cell? ⟨b1, 0, none⟩ = some (.int .i64 lo)) (h2 : w.cell? ⟨b2, 0, none⟩ = some (.int .i64 hi)) :
    Calls Try.prog 80 #[.int .i64 n, .pointer (some ⟨b1, 0, none⟩), .pointer (some ⟨b2, 0, none⟩)] w fun e w' => e = .returned (.bool (!C.inB lo hi n)) ∧ w = w' := by
  by_cases ha : n < lo
  · have HF : Hid ((!C.inB lo hi n) = true) := Lib.hid (by simp [C.inB]; omega)
    go_enter Try.func80, Try.ntmps80
    go_wp2_with fail
    go_ret
    exact ⟨ret_bool (by rw [HF.out]), rfl⟩
  · by_cases hb : hi < n
    · have HF : Hid ((!C.inB lo hi n) = true) := Lib.hid (by simp [C.inB]; omega)
      have ha' : lo ≤ n := by omega
      clear ha
      go_enter Try.func80, Try.ntmps80
      go_wp2_with fail
      go_ret
      exact ⟨ret_bool (by rw [HF.out]; first | done | (simp; done) | (simp; omega)), rfl⟩
    · have HF : Hid ((!C.inB lo hi n) = false) := Lib.hid (by simp [C.inB]; omega)
      have ha' : lo ≤ n := by omega
      have hb' : n ≤ hi := by omega
      clear ha hb
      go_enter Try.func80, Try.ntmps80
      go_wp2_with fail
      go_ret
      exact ⟨ret_bool (by rw [HF.out]; first | done | (simp; done) | (simp; omega)), rfl⟩

set_option maxRecDepth 100000 in
set_option maxHeartbeats 400000 in
theorem index1_any (a : Option Addr) (cap : Nat) (zs : List Int) (lo hi : Int) (b1 b2 : Nat) (w : World) (hl : zs.length ≤ 1000000) (ha : Ints .i64 w a zs) (h1 : w.cell? ⟨b1, 0, none⟩ = some (.int .i64 lo)) (h2 : w.cell? ⟨b2, 0, none⟩ = some (.int .i64 hi)) :
    Calls Try.prog 89 #[.slice a zs.length cap, .func (.func 80) #[] #[.pointer (some ⟨b1, 0, none⟩), .pointer (some ⟨b2, 0, none⟩)]] w fun e w' => ∃ n : Int, e = .returned (.int .i64 n) ∧ C.IdxP n (zs.all (C.inB lo hi)) ∧ w = w' := by
  have HA := Lib.hid ha; clear ha
  have HC := Lib.hid (fun n => within1_any lo hi n b1 b2 w h1 h2)
  clear h1 h2
  go_enter Try.func89, Try.ntmps89
  go_wp2_with fail
  go_loop [5, 8] (fun _ i => ∃ j : Nat, j ≤ zs.length ∧ i = .int .i64 j ∧ Hid ((zs.take j).all (C.inB lo hi) = true)) (fun _ i => zs.length - (intOf i).toNat)
  case atStart => exact ⟨0, by omega, rfl, Lib.hid (by simp)⟩
  case round =>
    obtain ⟨j, hj, rfl, hr⟩ := hrel
    by_cases hlt : j < zs.length
    · obtain ⟨b, off, rfl, hc⟩ := HA.out j hlt
      cases hin : C.inB lo hi (nth zs j) with
      | true =>
        have HC1 := Lib.hid (HC.out (nth zs j))
        rw [hin] at HC1
        have HI := Lib.hid hin
        clear hin
        go_wp2_with fail
        refine HC1.out.mono ?_
        rintro e w' ⟨rfl, rfl⟩
        go_wp2_with fail
        go_round
        case rel => exact ⟨j + 1, by omega, by go_num, Lib.hid (R.all_take hlt hr.out HI.out)⟩
        case measure => simp [intOf]; omega
      | false =>
        have HC1 := Lib.hid (HC.out (nth zs j))
        rw [hin] at HC1
        have HI := Lib.hid hin
        clear hin
        go_wp2_with fail
        refine HC1.out.mono ?_
        rintro e w' ⟨rfl, rfl⟩
        go_wp2_with fail
        go_ret
        exact ⟨_, rfl, ⟨fun _ => by rw [R.all_false hlt HI.out]; simp, fun _ => by omega⟩, rfl⟩
    · go_wp2_with fail
      go_ret
      exact ⟨_, rfl, ⟨fun h => by omega, fun h => by have := hr.out; rw [List.take_of_length_le (by omega)] at this; exact absurd this h⟩, rfl⟩

set_option maxRecDepth 100000 in
set_option maxHeartbeats 400000 in
theorem within_any (a : Option Addr) (cap : Nat) (zs : List Int) (lo hi : Int) (w : World) (hl : zs.length ≤ 1000000) (ha : Ints .i64 w a zs) :
    Calls Try.prog 66 #[.int .i64 lo, .int .i64 hi, .slice a zs.length cap] w fun e w' => e = .returned (.bool (zs.all (C.inB lo hi))) ∧ Below w.heap.size w w' := by
  have HA := Lib.hid ((ha.alloc (.cells #[.int .i64 lo] 2)).alloc (.cells #[.int .i64 hi] 2)); clear ha
  have HB := Lib.hid ((Below.new w (.cells #[.int .i64 lo] 2)).alloc (by simp) (.cells #[.int .i64 hi] 2))
  go_enter Try.func66, Try.ntmps66
  go_wp2_with fail
  have hC79 : ∀ W, W = ((w.alloc (.cells #[.int .i64 lo] 2)).alloc (.cells #[.int .i64 hi] 2)) → Calls Try.prog 79 #[.slice a zs.length cap, .func (.func 80) #[] #[.pointer (some ⟨w.heap.size, 0, none⟩), .pointer (some ⟨w.heap.size + 1, 0, none⟩)]] W fun e w' => e = .returned (.bool (!zs.all (C.inB lo hi))) ∧ W = w' := by
    intro W hW
    have HC := Lib.hid (index1_any a cap zs lo hi w.heap.size (w.heap.size + 1) W hl (by rw [hW]; exact HA.out) (by rw [hW]; simp) (by rw [hW]; simp))
    clear hW
    go_enter Try.func79, Try.ntmps79
    go_wp2_with fail
    refine HC.out.mono ?_
    rintro e w' ⟨n, rfl, HN, rfl⟩
    by_cases hz : 0 ≤ n
    · go_wp2_with fail
      go_ret
      exact ⟨ret_bool (by have := HN.1 hz; rw [Bool.not_eq_true] at this; rw [this]; simp), rfl⟩
    · go_wp2_with fail
      go_ret
      exact ⟨ret_bool (by have : zs.all (C.inB lo hi) = true := Classical.byContradiction fun h => by have := HN.2 h; omega
                          rw [this]; simp; omega), rfl⟩
  have HC := Lib.hid (hC79 _ rfl)
  clear hC79
  refine HC.out.mono ?_
  rintro e w' ⟨rfl, rfl⟩
  go_wp2_with fail
  go_ret
  exact ⟨ret_bool (by simp), HB.out⟩

theorem all_num (zs : List Int) : zs.all (C.inB (-1099511627776) 1099511627776) = zs.all R.numOk := rfl

set_option maxHeartbeats 400000 in
theorem numbers_any (a : Option Addr) (cap : Nat) (zs : List Int) (w : World) (hl : zs.length ≤ 1000000) (ha : Ints .i64 w a zs) :
    Calls Try.prog 62 #[.slice a zs.length cap] w fun e w' => e = .returned (.bool (zs.all R.numOk)) ∧ Below w.heap.size w w' := by
  have HC := Lib.hid (within_any a cap zs (-1099511627776) 1099511627776 w hl ha)
  clear ha
  go_enter Try.func62, Try.ntmps62
  go_wp2_with fail
  refine HC.out.mono ?_
  rintro e w' ⟨rfl, hb⟩
  go_wp2_with fail
  go_ret
  exact ⟨ret_bool (by rw [all_num]), hb⟩

theorem ints_one {w : World} {H : Nat} {x : Int} (h : w.cell? ⟨H, 0, none⟩ = some (.int .i64 x)) : Ints .i64 w (some ⟨H, 0, none⟩) [x] := by
  intro i hi
  have : i = 0 := by simp at hi; omega
  subst this
  exact ⟨H, 0, rfl, by simpa [nth] using h⟩

namespace C
/-- The error of a path, or that of a day. -/
def checkPath (zs : List Int) (d : Int) : Int := if R.isPath zs = 0 then (if d < 0 ∨ 60 < d then 2 else 0) else R.isPath zs
end C
set_option maxRecDepth 100000 in
set_option maxHeartbeats 1000000 in
theorem checkPath_any (a : Option Addr) (cap : Nat) (zs : List Int) (d : Int) (w : World) (hl : zs.length ≤ 1000000) (ha : Ints .i64 w a zs) :
    Calls Try.prog 55 #[.slice a zs.length cap, .int .i64 d] w fun e w' => e = .returned (.int .i64 (C.checkPath zs d)) ∧ Below w.heap.size w w' := by
  have HA := Lib.hid ha; clear ha
  have HC1 := Lib.hid (fun W (hW : Ints .i64 W (some ⟨w.heap.size, 0, none⟩) [(zs.length : Int)]) => within_any (some ⟨w.heap.size, 0, none⟩) 1 [(zs.length : Int)] 1 4 W (by simp) hW)
  have HB1 := Lib.hid (Below.new w (.cells #[.int .i64 (zs.length : Int)] 2))
  simp only [List.length_singleton, List.all_cons, List.all_nil, Bool.and_true] at HC1
  have HI1 := Lib.hid (ints_one (cell_new1 w (.int .i64 (zs.length : Int)) 2))
  by_cases h14 : 1 ≤ zs.length ∧ zs.length ≤ 4
  · have hin : C.inB 1 4 (zs.length : Int) = true := by simp [C.inB]; omega
    rw [hin] at HC1
    clear hin
    have HC2 := Lib.hid (fun W hW => numbers_any a cap zs W hl hW)
    cases hn : zs.all R.numOk with
    | false =>
      have HF : Hid (C.checkPath zs d = 3) := Lib.hid (by
        have : R.isPath zs = 3 := by unfold R.isPath; rw [if_neg (by omega), hn]; rfl
        unfold C.checkPath; rw [this]; rfl)
      rw [hn] at HC2
      clear hn h14
      go_enter Try.func55, Try.ntmps55
      go_wp2_with fail
      refine (HC1.out _ HI1.out).mono ?_
      rintro e w1 ⟨rfl, hb1⟩
      have HBa := Lib.hid (HB1.out.trans (hb1.mono (by simp)))
      have hsz := HBa.out.size
      clear hb1
      go_wp2_with fail
      refine (HC2.out _ (HA.out.below HBa.out)).mono ?_
      rintro e w2 ⟨rfl, hb2⟩
      go_wp2_with fail
      go_ret
      exact ⟨ret_int (by rw [HF.out]), HBa.out.trans (hb2.mono hsz)⟩
    | true =>
      rw [hn] at HC2
      have hp0 : R.isPath zs = 0 := by unfold R.isPath; rw [if_neg (by omega), hn]; rfl
      have HC3 := Lib.hid (fun W H (hW : Ints .i64 W (some ⟨H, 0, none⟩) [d]) => within_any (some ⟨H, 0, none⟩) 1 [d] 0 60 W (by simp) hW)
      simp only [List.length_singleton, List.all_cons, List.all_nil, Bool.and_true] at HC3
      have HF : Hid (C.checkPath zs d = if d < 0 ∨ 60 < d then 2 else 0) := Lib.hid (by unfold C.checkPath; rw [if_pos hp0])
      clear hn h14 hp0
      cases hd : C.inB 0 60 d with
      | true =>
        rw [hd] at HC3
        have HD := Lib.hid hd
        clear hd
        go_enter Try.func55, Try.ntmps55
        go_wp2_with fail
        refine (HC1.out _ HI1.out).mono ?_
        rintro e w1 ⟨rfl, hb1⟩
        have HBa := Lib.hid (HB1.out.trans (hb1.mono (by simp)))
        have hsz := HBa.out.size
        clear hb1
        go_wp2_with fail
        refine (HC2.out _ (HA.out.below HBa.out)).mono ?_
        rintro e w2 ⟨rfl, hb2⟩
        have HBb := Lib.hid (HBa.out.trans (hb2.mono hsz))
        have hsz2 := HBb.out.size
        clear hb2
        go_wp2_with fail
        refine (HC3.out _ _ (ints_one (cell_new1 w2 (.int .i64 d) 2))).mono ?_
        rintro e w3 ⟨rfl, hb3⟩
        go_wp2_with fail
        go_ret
        exact ⟨ret_int (by rw [HF.out, if_neg (by have := HD.out; simp [C.inB] at this; omega)]), HBb.out.trans (((Below.new w2 _).trans (hb3.mono (by simp))).mono hsz2)⟩
      | false =>
        rw [hd] at HC3
        have HD := Lib.hid hd
        clear hd
        go_enter Try.func55, Try.ntmps55
        go_wp2_with fail
        refine (HC1.out _ HI1.out).mono ?_
        rintro e w1 ⟨rfl, hb1⟩
        have HBa := Lib.hid (HB1.out.trans (hb1.mono (by simp)))
        have hsz := HBa.out.size
        clear hb1
        go_wp2_with fail
        refine (HC2.out _ (HA.out.below HBa.out)).mono ?_
        rintro e w2 ⟨rfl, hb2⟩
        have HBb := Lib.hid (HBa.out.trans (hb2.mono hsz))
        have hsz2 := HBb.out.size
        clear hb2
        go_wp2_with fail
        refine (HC3.out _ _ (ints_one (cell_new1 w2 (.int .i64 d) 2))).mono ?_
        rintro e w3 ⟨rfl, hb3⟩
        go_wp2_with fail
        go_ret
        exact ⟨ret_int (by rw [HF.out, if_pos (by have := HD.out; simp [C.inB] at this; omega)]), HBb.out.trans (((Below.new w2 _).trans (hb3.mono (by simp))).mono hsz2)⟩
  · have hin : C.inB 1 4 (zs.length : Int) = false := by simp [C.inB]; omega
    rw [hin] at HC1
    have HF : Hid (C.checkPath zs d = 6) := Lib.hid (by
      have : R.isPath zs = 6 := by unfold R.isPath; rw [if_pos (by omega)]
      unfold C.checkPath; rw [this]; rfl)
    clear hin h14
    go_enter Try.func55, Try.ntmps55
    go_wp2_with fail
    refine (HC1.out _ HI1.out).mono ?_
    rintro e w1 ⟨rfl, hb1⟩
    go_wp2_with fail
    go_ret
    exact ⟨ret_int (by rw [HF.out]), HB1.out.trans (hb1.mono (by simp))⟩

set_option maxRecDepth 100000 in
set_option maxHeartbeats 400000 in
theorem cways_any (n : Int) (w : World) (h0 : 0 ≤ n) (h1 : n ≤ 60) :
    Calls Try.prog 76 #[.int .i64 n] w fun e w' => e = .returned (.agg #[.int .i64 (R.ways n 0), .int .i64 (R.ways n 1), .int .i64 (R.ways n 2), .int .i64 (R.ways n 3)]) ∧ Below w.heap.size w w' := by
  obtain ⟨m, rfl⟩ := Int.eq_ofNat_of_zero_le h0
  obtain ⟨w0, w1, w2, w3⟩ := R.ways_forms m (by omega)
  have b2 := R.ways_bd h0 (show (m : Int) ≤ 200 by omega) (show 2 ≤ 3 by omega)
  have b3 := R.ways_bd h0 (show (m : Int) ≤ 200 by omega) (show 3 ≤ 3 by omega)
  have c1 : 0 ≤ (m : Int) * ((m : Int) - 1) := by omega
  have c2 : (m : Int) * ((m : Int) - 1) ≤ 10000000 := by omega
  have c3 : 0 ≤ (m : Int) * ((m : Int) - 1) * ((m : Int) - 2) := by omega
  have c4 : (m : Int) * ((m : Int) - 1) * ((m : Int) - 2) ≤ 10000000 := by omega
  have HW0 := Lib.hid w0
  have HW1 := Lib.hid w1
  have HW2 := Lib.hid (show R.ways m 2 = (m : Int) * ((m : Int) - 1) / 2 by omega)
  have HW3 := Lib.hid (show R.ways m 3 = (m : Int) * ((m : Int) - 1) * ((m : Int) - 2) / 6 by omega)
  rw [HW0.out, HW1.out, HW2.out, HW3.out]
  clear w0 w1 w2 w3 b2 b3
  go_enter Try.func76, Try.ntmps76
  go_wp2_with fail
  refine bodyPost_ret (v := .agg #[.int .i64 1, .int .i64 m, .int .i64 ((m : Int) * ((m : Int) - 1) / 2), .int .i64 ((m : Int) * ((m : Int) - 1) * ((m : Int) - 2) / 6)]) (by simp [results, Try.results76, go_sem]) rfl ⟨rfl, ?_⟩
  go_grown
end Go.Proofs.Ytkcgkfhfogdihaa
/- Walks of the program's place, At, Clone, Later. -/
namespace Go.Proofs.Ytkcgkfhfogdihaa
open Go.RowKit
theorem at_check (zs : List Int) (d : Int) : R.at' zs d = if C.checkPath zs d = 0 then (R.atD zs d, 0) else (0, C.checkPath zs d) := by
  unfold R.at' C.checkPath
  by_cases h : R.isPath zs = 0
  · rw [if_pos h, if_pos h]
    by_cases h2 : d < 0 ∨ 60 < d
    · rw [if_pos h2, if_pos h2]; rfl
    · rw [if_neg h2, if_neg h2]; rfl
  · rw [if_neg h, if_neg h, if_neg h]
theorem later_check (zs : List Int) (d : Int) : R.later zs d = if C.checkPath zs d = 0 then (R.laterOf zs d, 0) else ([], C.checkPath zs d) := by
  unfold R.later C.checkPath
  by_cases h : R.isPath zs = 0
  · rw [if_pos h, if_pos h]
    by_cases h2 : d < 0 ∨ 60 < d
    · rw [if_pos h2, if_pos h2]; rfl
    · rw [if_neg h2, if_neg h2]; rfl
  · rw [if_neg h, if_neg h, if_neg h]
theorem check_zero {zs : List Int} {d : Int} (hp : C.checkPath zs d = 0) : R.isPath zs = 0 ∧ 0 ≤ d ∧ d ≤ 60 := by
  unfold C.checkPath at hp
  split at hp
  · rename_i h1; split at hp
    · simp at hp
    · exact ⟨h1, by omega, by omega⟩
  · contradiction
set_option maxRecDepth 100000 in
set_option maxHeartbeats 1000000 in
theorem cplace_any (a : Option Addr) (cap : Nat) (zs : List Int) (d : Int) (w : World) (hl : zs.length ≤ 4) (h0 : 0 ≤ d) (h1 : d ≤ 60) (hz : zs.all R.numOk = true) (ha : Ints .i64 w a zs) :
    Calls Try.prog 56 #[.slice a zs.length cap, .int .i64 d] w fun e w' => e = .returned (.int .i64 (R.atD zs d)) ∧ Below w.heap.size w w' := by
  have HA := Lib.hid ha; clear ha
  have HB := Lib.hid (R.atD_bd hz hl h0 (by omega)); clear hz
  go_enter Try.func56, Try.ntmps56
  go_wp2_with fail
  refine (cways_any d w h0 h1).mono ?_
  rintro e w1 ⟨rfl, hb1⟩
  have hsz := hb1.size
  have HA1 := Lib.hid (HA.out.below hb1)
  go_wp2_with fail
  have hbel : Below w.heap.size w (w1.alloc (.cells #[.int .i64 (R.ways d 0), .int .i64 (R.ways d 1), .int .i64 (R.ways d 2), .int .i64 (R.ways d 3)] 76)) := hb1.alloc (by omega) _
  have HA2 := Lib.hid (HA1.out.alloc (.cells #[.int .i64 (R.ways d 0), .int .i64 (R.ways d 1), .int .i64 (R.ways d 2), .int .i64 (R.ways d 3)] 76))
  have hx : ∀ k, k < 4 → (w1.alloc (.cells #[.int .i64 (R.ways d 0), .int .i64 (R.ways d 1), .int .i64 (R.ways d 2), .int .i64 (R.ways d 3)] 76)).cell? ⟨w1.heap.size, k, none⟩ = some (.int .i64 (R.ways d k)) := by
    intro k hk
    have : k = 0 ∨ k = 1 ∨ k = 2 ∨ k = 3 := by omega
    rcases this with rfl | rfl | rfl | rfl <;> simp
  generalize (w1.alloc (.cells #[.int .i64 (R.ways d 0), .int .i64 (R.ways d 1), .int .i64 (R.ways d 2), .int .i64 (R.ways d 3)] 76)) = w2 at *
  have HX := Lib.hid hx
  clear hx
  go_loop [6, 7, 8, 13] (fun o _ _ i => ∃ j : Nat, j ≤ zs.length ∧ i = .int .i64 j ∧ o = .int .i64 (wrap64 (R.atFrom zs d j))) (fun _ _ _ i => zs.length - (intOf i).toNat)
  case atStart => exact ⟨0, by omega, rfl, by rw [show R.atFrom zs d 0 = 0 from rfl, wrap64_id (by omega)]⟩
  case round =>
    obtain ⟨j, hj, rfl, rfl⟩ := hrel
    by_cases hlt : j < zs.length
    · obtain ⟨b, off, rfl, hc⟩ := HA2.out j hlt
      have hx := HX.out j (by omega)
      have k0 : (j : Int) < 4 := by omega
      go_wp2_with fail
      go_round
      case rel => exact ⟨j + 1, by omega, by go_num, by rw [wrap64_add_l, wrap64_add_r]; rfl⟩
      case measure => simp [intOf]; omega
    · go_wp2_with fail
      go_ret
      exact ⟨ret_int (by rw [show j = zs.length by omega]; have := HB.out; unfold R.big at this; exact wrap64_id (by unfold R.atD at this; omega)), hbel⟩

set_option maxRecDepth 100000 in
set_option maxHeartbeats 1000000 in
theorem cAt_any (a : Option Addr) (cap : Nat) (zs : List Int) (d : Int) (w : World) (hl : zs.length ≤ 1000000) (ha : Ints .i64 w a zs) :
    Calls Try.prog 17 #[.slice a zs.length cap, .int .i64 d] w fun e w' => e = .returned (.tuple #[.int .i64 (R.at' zs d).1, .int .i64 (R.at' zs d).2]) ∧ Below w.heap.size w w' := by
  have HA := Lib.hid ha; clear ha
  have HC := Lib.hid (checkPath_any a cap zs d w hl HA.out)
  by_cases hp : C.checkPath zs d = 0
  · rw [hp] at HC
    have h := check_zero hp
    have HP := Lib.hid (isPath_zero h.1)
    have HF : Hid (R.at' zs d = (R.atD zs d, 0)) := by unfold R.at'; rw [if_pos h.1, if_neg (by omega)]; trivial
    obtain ⟨-, h0, h1⟩ := h
    clear hp
    go_enter Try.func17, Try.ntmps17
    go_wp2_with fail
    refine HC.out.mono ?_
    rintro e w1 ⟨rfl, hb1⟩
    go_wp2_with fail
    refine (cplace_any a cap zs d _ HP.out.2.1 h0 h1 HP.out.2.2 (HA.out.below hb1)).mono ?_
    rintro e w2 ⟨rfl, hb2⟩
    go_wp2_with fail
    go_ret2
    exact ⟨by rw [HF.out]; first | done | rfl, hb1.trans (hb2.mono hb1.size)⟩
  · have HF : Hid (R.at' zs d = (0, C.checkPath zs d)) := by
      rw [at_check, if_neg hp]; trivial
    have hp' : (C.checkPath zs d != 0) = true := by rw [bne_iff_ne]; exact hp
    clear hp
    go_enter Try.func17, Try.ntmps17
    go_wp2_with fail
    refine HC.out.mono ?_
    rintro e w1 ⟨rfl, hb1⟩
    go_wp2_with fail
    go_ret2
    exact ⟨by rw [HF.out]; first | done | rfl, hb1⟩
end Go.Proofs.Ytkcgkfhfogdihaa
/- Walks of slices.Clone and of the program's Later. -/
namespace Go.Proofs.Ytkcgkfhfogdihaa
open Go.RowKit
theorem addr_add (b off j : Nat) : (⟨b, off, none⟩ : Addr).add j = ⟨b, off + j, none⟩ := by
  unfold Addr.add; split <;> simp_all
theorem Ints.news {k : IntKind} {w : World} {ad : Addr} {zs : List Int} (h : Ints k w (some ad) zs) : ∀ j u, (zs.map (Value.int k))[j]? = some u → w.cell? (ad.add j) = some u := by
  intro j u hj
  rw [List.getElem?_map] at hj
  cases hz : zs[j]? with
  | none => rw [hz] at hj; simp at hj
  | some z =>
    rw [hz] at hj
    simp at hj
    subst hj
    have hlt : j < zs.length := (List.getElem?_eq_some_iff.1 hz).1
    obtain ⟨b, off, e, hc⟩ := h j hlt
    cases e
    rw [addr_add, hc, nth_eq zs j hlt, (List.getElem?_eq_some_iff.1 hz).2]
theorem one_ints (k : IntKind) (zs : List Int) : ∀ u ∈ zs.map (Value.int k), u.oneCell' = true := by
  intro u hu
  obtain ⟨z, -, rfl⟩ := List.mem_map.1 hu
  rfl

set_option maxRecDepth 100000 in
set_option maxHeartbeats 1000000 in
theorem clone_any (a : Option Addr) (cap : Nat) (zs : List Int) (w : World) (hl : zs.length ≤ 1000000) (ha : Ints .i64 w a zs) :
    Calls Try.prog 57 #[.slice a zs.length cap] w fun e w' => ∃ v, e = .returned v ∧ w'.ownsRow w.heap.size 2 1 v zs.length (zs.map (.int .i64)) ∧ Below w.heap.size w w' := by
  cases a with
  | none =>
    have hz : zs = [] := by
      cases zs with
      | nil => rfl
      | cons x r => obtain ⟨b, off, e, _⟩ := ha 0 (by simp); cases e
    subst hz
    have hn := fun W => Lib.run_eql_slice_nil (P := Try.prog) W 22 2 none 0 cap 0 0 Try.underlying22
    go_enter Try.func57, Try.ntmps57
    go_wp2_with fail
    go_ret
    exact ⟨_, rfl, World.ownsRow_nil _ _ _ _, Below.refl _ _⟩
  | some ad =>
    have hn := fun W => Lib.run_eql_slice_nil (P := Try.prog) W 22 2 (some ad) zs.length cap 0 0 Try.underlying22
    have HN := Lib.hid (Ints.news (ha.alloc (.cells #[] 2)))
    have hn1 : 0 + zs.length ≤ 2000000 := by omega
    go_enter Try.func57, Try.ntmps57
    go_wp2_with (at_builtin; refine listApp T22 rfl (.tmp 5) (.tmp 6) rfl w.heap.size _ 0 [] (zs.map (.int .i64)) zs.length cap ad rfl (World.ownsRow_made w #[] 0 (Nat.le_refl _) (by unfold maxLen; omega) (by simp)) rfl (by simp) HN.out (one_ints _ _) hn1 (by simp) ?_; intro v1 w1 hown1 hg1 hL1)
    go_ret
    exact ⟨_, rfl, by simpa using hown1, (Below.new w (.cells #[] 2)).grown hg1 (by simp) (fun k e => by have e' : some w.heap.size = some k := e; cases e'; omega)⟩

namespace C
/-- One day later: each number and the next one; the first j. -/
def dayTo (zs : List Int) (j : Nat) : List Int := up (fun k l => l.set k (nth l k + nth l (k + 1))) zs j
def day (zs : List Int) : List Int := dayTo zs (zs.length - 1)
def days (zs : List Int) (n : Nat) : List Int := up (fun _ l => day l) zs n
theorem dayTo_length (zs : List Int) (j : Nat) : (dayTo zs j).length = zs.length := by
  induction j with
  | zero => rfl
  | succ j ih => show ((dayTo zs j).set _ _).length = _; rw [List.length_set, ih]
theorem days_length (zs : List Int) (n : Nat) : (days zs n).length = zs.length := by
  induction n with
  | zero => rfl
  | succ n ih => show (dayTo (days zs n) _).length = _; rw [dayTo_length, ih]
end C
end Go.Proofs.Ytkcgkfhfogdihaa
/- Plain Lean: a path seen from a later day, by steps and by differences. -/
namespace Go.Proofs.Ytkcgkfhfogdihaa.C
open Go.RowKit Go.Proofs.Ytkcgkfhfogdihaa
theorem laterOf_zero {zs : List Int} (h : zs.length ≤ 4) : R.laterOf zs 0 = zs := by
  have := R.diffs_places h
  unfold R.laterOf
  rw [R.tab_congr (g := fun k => R.atD zs k) (fun k _ => by simp)]
  exact this
theorem laterOf_succ {zs : List Int} (h : zs.length ≤ 4) (n : Nat) (hn : n ≤ 100) : R.laterOf zs ((n + 1 : Nat) : Int) = day (R.laterOf zs n) := by
  have p : ∀ k : Nat, k ≤ 4 → 6 * R.atD zs (n + k) = R.poly zs (n + k) := fun k hk => R.atD_poly h (by omega) (by omega)
  have q0 := p 0 (by omega); have q1 := p 1 (by omega); have q2 := p 2 (by omega); have q3 := p 3 (by omega); have q4 := p 4 (by omega)
  have e0 : (n : Int) + (0 : Nat) = n := by simp
  have e1 : ((n + 1 : Nat) : Int) + (0 : Nat) = (n : Int) + (1 : Nat) := by omega
  have e2 : ((n + 1 : Nat) : Int) + (1 : Nat) = (n : Int) + (2 : Nat) := by omega
  have e3 : ((n + 1 : Nat) : Int) + (2 : Nat) = (n : Int) + (3 : Nat) := by omega
  have e4 : ((n + 1 : Nat) : Int) + (3 : Nat) = (n : Int) + (4 : Nat) := by omega
  generalize hf : (fun k : Nat => R.atD zs ((n : Int) + k)) = f
  have f0 : R.atD zs ((n : Int) + (0 : Nat)) = f 0 := by rw [← hf]
  have f1 : R.atD zs ((n : Int) + (1 : Nat)) = f 1 := by rw [← hf]
  have f2 : R.atD zs ((n : Int) + (2 : Nat)) = f 2 := by rw [← hf]
  have f3 : R.atD zs ((n : Int) + (3 : Nat)) = f 3 := by rw [← hf]
  have f4 : R.atD zs ((n : Int) + (4 : Nat)) = f 4 := by rw [← hf]
  rw [f0] at q0; rw [f1] at q1; rw [f2] at q2; rw [f3] at q3; rw [f4] at q4
  have l1 : R.laterOf zs ((n + 1 : Nat) : Int) = R.diffs (R.tab (fun k => f (k + 1)) zs.length) := by
    unfold R.laterOf
    rw [R.tab_congr (g := fun k => f (k + 1)) (fun k hk => by rw [← hf]; show R.atD zs _ = R.atD zs _; congr 1; omega)]
  have l0 : R.laterOf zs n = R.diffs (R.tab f zs.length) := by unfold R.laterOf; rw [← hf]
  rw [l1, l0]
  clear l1 l0 hf p f0 f1 f2 f3 f4 e0 e1 e2 e3 e4
  rcases R.list4 h with rfl | ⟨a, rfl⟩ | ⟨a, b, rfl⟩ | ⟨a, b, c, rfl⟩ | ⟨a, b, c, d, rfl⟩
  · rfl
  · simp [R.poly, nth] at q0 q1
    simp [R.diffs, R.diffsF, R.tab, up, day, dayTo]; omega
  · simp [R.poly, nth] at q0 q1 q2
    simp [R.diffs, R.diffsF, R.steps, R.tab, up, day, dayTo, nth]; grind
  · simp [R.poly, nth] at q0 q1 q2 q3
    simp [R.diffs, R.diffsF, R.steps, R.tab, up, day, dayTo, nth]; grind
  · simp [R.poly, nth] at q0 q1 q2 q3 q4
    simp [R.diffs, R.diffsF, R.steps, R.tab, up, day, dayTo, nth]; grind
theorem days_later {zs : List Int} (h : zs.length ≤ 4) : ∀ n : Nat, n ≤ 100 → days zs n = R.laterOf zs n := by
  intro n
  induction n with
  | zero => intro _; rw [show ((0 : Nat) : Int) = 0 from rfl, laterOf_zero h]; rfl
  | succ n ih =>
    intro hn
    show day (days zs n) = _
    rw [ih (by omega), laterOf_succ h n (by omega)]
end Go.Proofs.Ytkcgkfhfogdihaa.C
/- Walk of the program's Later. -/
namespace Go.Proofs.Ytkcgkfhfogdihaa
open Go.RowKit
set_option maxRecDepth 100000 in
set_option maxHeartbeats 1000000 in
theorem cLater_any (a : Option Addr) (cap : Nat) (zs : List Int) (d : Int) (w : World) (hl : zs.length ≤ 1000000) (ha : Ints .i64 w a zs) :
    Calls Try.prog 19 #[.slice a zs.length cap, .int .i64 d] w fun e w' => ∃ v, e = .returned (.tuple #[v, .int .i64 (R.later zs d).2]) ∧ w'.ownsRow w.heap.size 2 1 v (R.later zs d).1.length ((R.later zs d).1.map (.int .i64)) ∧ Below w.heap.size w w' := by
  have HA := Lib.hid ha; clear ha
  have HC := Lib.hid (checkPath_any a cap zs d w hl HA.out)
  by_cases hp : C.checkPath zs d = 0
  · rw [hp] at HC
    have h := check_zero hp
    have HP := Lib.hid (isPath_zero h.1)
    have HF : Hid (R.later zs d = (R.laterOf zs d, 0)) := by rw [later_check, if_pos hp]; trivial
    obtain ⟨-, h0, h1⟩ := h
    obtain ⟨n, rfl⟩ := Int.eq_ofNat_of_zero_le h0
    clear hp
    go_enter Try.func19, Try.ntmps19
    go_wp2_with fail
    refine HC.out.mono ?_
    rintro e w1 ⟨rfl, hb1⟩
    go_wp2_with fail
    refine (clone_any a cap zs _ hl (HA.out.below hb1)).mono ?_
    rintro e w2 ⟨v, rfl, hown, hb2⟩
    go_wp2_with fail
    obtain ⟨hl1, hl4, hnum⟩ := HP.out
    have HNum := Lib.hid hnum
    clear hnum
    obtain ⟨g, cap2, rfl⟩ : ∃ g cap2, v = .slice (some ⟨g, 0, none⟩) zs.length cap2 := by
      rcases hown.2 with ⟨_, h⟩ | ⟨g, cap2, cur, h, _⟩
      · omega
      · exact ⟨g, cap2, h⟩
    have hcap : zs.length ≤ cap2 := by
      rcases hown.2 with ⟨h, _⟩ | ⟨g', cap', cur, h, _, _, h2, _⟩
      · cases h
      · cases h; exact h2
    have hbb := hb1.trans (hb2.mono hb1.size)
    have hown' : w2.ownsRow w.heap.size 2 1 (.slice (some ⟨g, 0, none⟩) zs.length cap2) zs.length ((C.days zs 0).map fun z => Value.int .i64 (wrap64 z)) := by
      have : (C.days zs 0).map (fun z => Value.int .i64 (wrap64 z)) = zs.map (.int .i64) := by
        refine List.map_congr_left fun z hz => ?_
        have := R.numOk_iff.1 ((List.all_eq_true.1 HNum.out) z hz)
        rw [wrap64_id (by omega)]
      rw [this]; exact owns_mono hown hb1.size
    have HG := Lib.hid (show w.heap.size ≤ g from Nat.le_trans hb1.size (hown.lt g rfl).1)
    clear hown
    go_loopw [8, 18, 19, 20, 21, 22, 23] (fun _ i _ _ _ _ _ wi => ∃ k : Nat, k ≤ n ∧ i = .int .i64 k ∧ wi.ownsRow w.heap.size 2 1 (.slice (some ⟨g, 0, none⟩) zs.length cap2) zs.length ((C.days zs k).map fun z => Value.int .i64 (wrap64 z)) ∧ Below w.heap.size w wi) (fun _ i _ _ _ _ _ _ => n - (intOf i).toNat)
    case atStart => exact ⟨0, Nat.zero_le _, rfl, hown', hbb⟩
    case round =>
      obtain ⟨k, hk, rfl, hownk, hbelk⟩ := hrel
      by_cases hlt : k < n
      · have hz1 : zs.length - 1 ≤ 4 := by omega
        have hlen := C.days_length zs k
        have hcc : cap2 = 1 ∨ 1 < cap2 := by omega
        have hS1 : ∀ j, zs.length - 1 ≤ j → j ≤ zs.length - 1 → Hid (C.days zs (k + 1) = C.dayTo (C.days zs k) j) := fun j h1 h2 => Lib.hid (by
          have : j = (C.days zs k).length - 1 := by rw [hlen]; omega
          rw [this]; rfl)
        have HS1 := Lib.hid hS1
        clear hS1
        rcases hcc with rfl | hcc
        · have hz2 : ¬ (0 : Int) < ((zs.length - 1 : Nat) : Int) := by omega
          go_wp2_with fail
          obtain ⟨W1, rfl⟩ : ∃ W1, W1 = wr := ⟨_, rfl⟩
          go_loopw [8, 23] (fun _ i wi => i = .int .i64 0 ∧ wi = W1) (fun _ i _ => 0)
          case atStart => exact ⟨rfl, rfl⟩
          case round =>
            obtain ⟨rfl, rfl⟩ := hrel
            go_wp2_with fail
            go_roundw
            case rel => exact ⟨k + 1, by omega, by go_num, by rw [((HS1.out 0 (by omega) (by omega)).out)]; exact hownk, hbelk⟩
            case measure => simp [intOf]; omega
        · go_wp2_with fail
          obtain ⟨W1, rfl⟩ : ∃ W1, W1 = wr := ⟨_, rfl⟩
          go_loopw [8, 23] (fun _ i wi => ∃ j : Nat, j ≤ zs.length - 1 ∧ i = .int .i64 j ∧ wi.ownsRow w.heap.size 2 1 (.slice (some ⟨g, 0, none⟩) zs.length cap2) zs.length ((C.dayTo (C.days zs k) j).map fun z => Value.int .i64 (wrap64 z)) ∧ Below w.heap.size w wi) (fun _ i _ => zs.length - 1 - (intOf i).toNat)
          case atStart => exact ⟨0, Nat.zero_le _, rfl, hownk, hbelk⟩
          case round =>
            obtain ⟨j, hj, rfl, hownj, hbelj⟩ := hrel
            by_cases hltj : j < zs.length - 1
            · have hlj := C.dayTo_length (C.days zs k) j
              have e1 := hownj.cellAt j (by omega)
              have e2 := hownj.cellAt (j + 1) (by omega)
              have f1 := hownj.frozenAt j
              rw [List.getElem?_map, List.getElem?_eq_getElem (by omega)] at e1 e2
              simp only [Option.map_some] at e1 e2
              rw [← nth_eq _ _ (by omega)] at e1 e2
              have hst := (hownj.stored j (.int .i64 (wrap64 (nth (C.dayTo (C.days zs k) j) j + nth (C.dayTo (C.days zs k) j) (j + 1)))))
              have hS : Hid (C.dayTo (C.days zs k) (j + 1) = (C.dayTo (C.days zs k) j).set j (nth (C.dayTo (C.days zs k) j) j + nth (C.dayTo (C.days zs k) j) (j + 1))) := rfl
              clear hlen hlj
              generalize nth (C.dayTo (C.days zs k) j) j = z1 at *
              generalize nth (C.dayTo (C.days zs k) j) (j + 1) = z2 at *
              have HSt := Lib.hid hst
              clear hst
              have k1 : IntKind.i64.wrap (↑j + 1) = (↑j : Int) + 1 := IntWalk.i64_in _ (by omega)
              have k2 : (0 : Int) ≤ ↑j + 1 := by omega
              have k3 : (↑j : Int) + 1 < ↑zs.length := by omega
              have k4 : (↑j : Int) < ↑zs.length := by omega
              have k5 : ((↑j : Int) + 1).toNat = j + 1 := by omega
              have k6 : (0 : Int) ≤ ↑j := by omega
              go_wp2_with fail
              go_still_tail 11, (by kernel_rfl)
              change wpList _ _ _ _ _ wr.drew
              obtain ⟨w3, hw3⟩ : ∃ w3, wr.drew = w3 := ⟨_, rfl⟩
              have e1' : w3.cell? ⟨g, j, none⟩ = some (.int .i64 (wrap64 z1)) := by rw [← hw3]; exact e1
              have f1' : w3.frozen? ⟨g, j, none⟩ = false := by rw [← hw3]; exact f1
              have HSt' : Hid ((w3.setCell ⟨g, j, none⟩ (.int .i64 (wrap64 (z1 + z2)))).ownsRow w.heap.size 2 1 (.slice (some ⟨g, 0, none⟩) zs.length cap2) zs.length (((C.dayTo (C.days zs k) j).map fun z => Value.int .i64 (wrap64 z)).set j (.int .i64 (wrap64 (z1 + z2))))) := by rw [← hw3]; exact HSt.out.1
              have hb3 : Below w.heap.size w w3 := by rw [← hw3]; exact hbelj.drew
              rw [hw3]
              clear hw3 e1 e2 f1 HSt
              have hwz : wrap64 (wrap64 z1 + wrap64 z2) = wrap64 (z1 + z2) := by rw [wrap64_add_l, wrap64_add_r]
              go_wp2_with fail
              go_roundw
              case rel => exact ⟨j + 1, by omega, by go_num, by rw [hS.out, List.map_set]; exact HSt'.out, hb3.setCell HG.out _⟩
              case measure => simp [intOf]; omega
            · have HSk := Lib.hid ((HS1.out j (by omega) (by omega)).out)
              go_wp2_with fail
              go_roundw
              case rel => exact ⟨k + 1, by omega, by go_num, by rw [HSk.out]; exact hownj, hbelj⟩
              case measure => simp [intOf]; omega
      · have hkn : k = n := by omega
        subst hkn
        have HD : Hid ((C.days zs k).map (fun z => Value.int .i64 (wrap64 z)) = (R.laterOf zs k).map (.int .i64)) := Lib.hid (by
          rw [C.days_later hl4 k (by omega)]
          refine List.map_congr_left fun z hz => ?_
          obtain ⟨i, hi, rfl⟩ := List.getElem_of_mem hz
          have hlt : (R.laterOf zs k).length = zs.length := by unfold R.laterOf; rw [R.diffs_length, R.tab_length]
          have hb := R.diffs_bd (B := R.big) (l := R.tab (fun i => R.atD zs ((k : Int) + i)) zs.length) (by rw [R.tab_length]; exact hl4) (R.diffs_tab_bd fun i hi => R.atD_bd HNum.out hl4 (by omega) (by omega)) i (by exact hi)
          rw [nth_eq _ i (by exact hi)] at hb
          have e : (R.diffs (R.tab (fun i => R.atD zs ((k : Int) + i)) zs.length))[i] = (R.laterOf zs k)[i] := rfl
          rw [e] at hb
          rw [wrap64_id (by unfold R.big at hb; omega)])
        have HLn : Hid ((R.laterOf zs k).length = zs.length) := Lib.hid (by unfold R.laterOf; rw [R.diffs_length, R.tab_length])
        go_wp2_with fail
        go_ret2
        exact ⟨_, by rw [HF.out]; first | done | rfl, by rw [HF.out]; simp only [HLn.out]; rw [← HD.out]; exact hownk, hbelk⟩
  · have HF : Hid (R.later zs d = ([], C.checkPath zs d)) := by rw [later_check, if_neg hp]; trivial
    have hp' : (C.checkPath zs d != 0) = true := by rw [bne_iff_ne]; exact hp
    clear hp
    go_enter Try.func19, Try.ntmps19
    go_wp2_with fail
    refine HC.out.mono ?_
    rintro e w1 ⟨rfl, hb1⟩
    go_wp2_with fail
    go_ret2
    exact ⟨_, by rw [HF.out]; first | done | rfl, by rw [HF.out]; exact World.ownsRow_nil _ _ _ _, hb1⟩
end Go.Proofs.Ytkcgkfhfogdihaa
/- Walks of the program's CheckLog and open. -/
namespace Go.Proofs.Ytkcgkfhfogdihaa
open Go.RowKit
theorem inB_false {lo hi n : Int} (h : C.inB lo hi n = false) : n < lo ∨ hi < n := by
  unfold C.inB at h; rw [decide_eq_false_iff_not] at h; omega
theorem inB_true {lo hi n : Int} (h : C.inB lo hi n = true) : lo ≤ n ∧ n ≤ hi := by
  unfold C.inB at h; rw [decide_eq_true_eq] at h; exact h
set_option maxRecDepth 100000 in
set_option maxHeartbeats 1000000 in
theorem odd_any (d p : Int) (w : World) :
    Calls Try.prog 65 #[.agg #[.int .i64 d, .int .i64 p]] w fun e w' => e = .returned (.bool (!decide (R.FitS d p))) ∧ Below w.heap.size w w' := by
  have HB0 := Lib.hid (Below.new w (.cells #[.int .i64 d, .int .i64 p] 57))
  have HC := Lib.hid (fun W H lo hi x (hW : Ints .i64 W (some ⟨H, 0, none⟩) [x]) => within_any (some ⟨H, 0, none⟩) 1 [x] lo hi W (by simp) hW)
  simp only [List.length_singleton, List.all_cons, List.all_nil, Bool.and_true] at HC
  cases h1 : C.inB 0 60 d with
  | false =>
    have HF : Hid ((!decide (R.FitS d p)) = true) := Lib.hid (by have := inB_false h1; rw [decide_eq_false (by unfold R.FitS; omega)]; rfl)
    have HC1 := Lib.hid (fun W H hW => HC.out W H 0 60 d hW)
    rw [h1] at HC1
    clear h1
    go_enter Try.func65, Try.ntmps65
    go_wp2_with fail
    refine (HC1.out _ (w.heap.size + 1) (ints_one (by simp))).mono ?_
    rintro e w1 ⟨rfl, hb1⟩
    go_wp2_with fail
    go_ret
    exact ⟨ret_bool (by rw [HF.out]), HB0.out.trans (((Below.new _ _).trans (hb1.mono (by simp))).mono (by simp))⟩
  | true =>
    have HC1 := Lib.hid (fun W H hW => HC.out W H 0 60 d hW)
    have HC2 := Lib.hid (fun W H hW => HC.out W H (-100000) 100000 p hW)
    rw [h1] at HC1
    have HX := Lib.hid (by simp : (w.alloc (.cells #[.int .i64 d, .int .i64 p] 57)).cell? ⟨w.heap.size, 1, none⟩ = some (.int .i64 p))
    cases h2 : C.inB (-100000) 100000 p with
    | false =>
      have HF : Hid ((!decide (R.FitS d p)) = true) := Lib.hid (by have := inB_false h2; rw [decide_eq_false (by unfold R.FitS; omega)]; rfl)
      rw [h2] at HC2
      clear h1 h2
      go_enter Try.func65, Try.ntmps65
      go_wp2_with fail
      refine (HC1.out _ (w.heap.size + 1) (ints_one (by simp))).mono ?_
      rintro e w1 ⟨rfl, hb1⟩
      have hb : Below (w.alloc (.cells #[.int .i64 d, .int .i64 p] 57)).heap.size (w.alloc (.cells #[.int .i64 d, .int .i64 p] 57)) w1 := (Below.new _ _).trans (hb1.mono (by simp))
      have hx := cell_on hb HX.out
      have HBB := Lib.hid (HB0.out.trans (hb.mono (by simp)))
      have hsz := HBB.out.size
      clear hb1 hb
      go_wp2_with fail
      refine (HC2.out _ w1.heap.size (ints_one (by simp))).mono ?_
      rintro e w2 ⟨rfl, hb2⟩
      go_wp2_with fail
      go_ret
      exact ⟨ret_bool (by rw [HF.out]), HBB.out.trans (((Below.new _ _).trans (hb2.mono (by simp))).mono hsz)⟩
    | true =>
      have HF : Hid ((!decide (R.FitS d p)) = false) := Lib.hid (by have := inB_true h1; have := inB_true h2; rw [decide_eq_true (by unfold R.FitS; omega)]; rfl)
      rw [h2] at HC2
      clear h1 h2
      go_enter Try.func65, Try.ntmps65
      go_wp2_with fail
      refine (HC1.out _ (w.heap.size + 1) (ints_one (by simp))).mono ?_
      rintro e w1 ⟨rfl, hb1⟩
      have hb : Below (w.alloc (.cells #[.int .i64 d, .int .i64 p] 57)).heap.size (w.alloc (.cells #[.int .i64 d, .int .i64 p] 57)) w1 := (Below.new _ _).trans (hb1.mono (by simp))
      have hx := cell_on hb HX.out
      have HBB := Lib.hid (HB0.out.trans (hb.mono (by simp)))
      have hsz := HBB.out.size
      clear hb1 hb
      go_wp2_with fail
      refine (HC2.out _ w1.heap.size (ints_one (by simp))).mono ?_
      rintro e w2 ⟨rfl, hb2⟩
      go_wp2_with fail
      go_ret
      exact ⟨ret_bool (by rw [HF.out]), HBB.out.trans (((Below.new _ _).trans (hb2.mono (by simp))).mono hsz)⟩

set_option maxRecDepth 100000 in
set_option maxHeartbeats 1000000 in
theorem index2_any (a : Option Addr) (cap : Nat) (l : List (Int × Int)) (w : World) (hl : l.length ≤ 1000000) (ha : Sigs w a l) :
    Calls Try.prog 81 #[.slice a l.length cap, .func (.func 65) #[] #[]] w fun e w' => ∃ n : Int, e = .returned (.int .i64 n) ∧ C.IdxP n (decide (R.Fit l)) ∧ Below w.heap.size w w' := by
  have HA := Lib.hid ha; clear ha
  go_enter Try.func81, Try.ntmps81
  go_wp2_with fail
  go_loopw [5, 8] (fun _ i wr => ∃ j : Nat, j ≤ l.length ∧ i = .int .i64 j ∧ Hid (∀ i, i < j → R.FitS (dayN l i) (plcN l i)) ∧ Below w.heap.size w wr) (fun _ i _ => l.length - (intOf i).toNat)
  case atStart => exact ⟨0, by omega, rfl, Lib.hid (fun i h => by omega), Below.refl _ _⟩
  case round =>
    obtain ⟨j, hj, rfl, hr, hb⟩ := hrel
    have hbs := hb.size
    by_cases hlt : j < l.length
    · obtain ⟨b, off, rfl, hc1, hc2⟩ := (HA.out.below hb) j hlt
      have HC := Lib.hid (fun W => odd_any (dayN l j) (plcN l j) W)
      by_cases hin : R.FitS (dayN l j) (plcN l j)
      · rw [decide_eq_true hin] at HC
        have HI := Lib.hid hin
        clear hin
        go_wp2_with fail
        refine (HC.out _).mono ?_
        rintro e w1 ⟨rfl, hb1⟩
        go_wp2_with fail
        go_roundw
        case rel => exact ⟨j + 1, by omega, by go_num, Lib.hid (fun i hi => by
          by_cases h : i = j
          · subst h; exact HI.out
          · exact hr.out i (by omega)), hb.trans (hb1.mono hbs)⟩
        case measure => simp [intOf]; omega
      · rw [decide_eq_false hin] at HC
        have HI := Lib.hid hin
        clear hin
        go_wp2_with fail
        refine (HC.out _).mono ?_
        rintro e w1 ⟨rfl, hb1⟩
        go_wp2_with fail
        go_ret
        exact ⟨_, rfl, ⟨fun _ => by rw [decide_eq_true_eq]; exact fun h => HI.out (h j hlt), fun _ => by omega⟩, hb.trans (hb1.mono hbs)⟩
    · have HFit : Hid (R.Fit l) := Lib.hid (fun i hi => hr.out i (by omega))
      go_wp2_with fail
      go_ret
      exact ⟨_, rfl, ⟨fun h => by omega, fun h => absurd (decide_eq_true HFit.out) h⟩, hb⟩

set_option maxRecDepth 100000 in
set_option maxHeartbeats 1000000 in
theorem contains2_any (a : Option Addr) (cap : Nat) (l : List (Int × Int)) (w : World) (hl : l.length ≤ 1000000) (ha : Sigs w a l) :
    Calls Try.prog 67 #[.slice a l.length cap, .func (.func 65) #[] #[]] w fun e w' => e = .returned (.bool (!decide (R.Fit l))) ∧ Below w.heap.size w w' := by
  have HC := Lib.hid (index2_any a cap l w hl ha)
  clear ha
  go_enter Try.func67, Try.ntmps67
  go_wp2_with fail
  refine HC.out.mono ?_
  rintro e w' ⟨n, rfl, HN, hb⟩
  by_cases hz : 0 ≤ n
  · go_wp2_with fail
    go_ret
    exact ⟨ret_bool (by have := HN.1 hz; rw [Bool.not_eq_true] at this; rw [this]; simp; done), hb⟩
  · go_wp2_with fail
    go_ret
    exact ⟨ret_bool (by have : decide (R.Fit l) = true := Classical.byContradiction fun h => by have := HN.2 h; omega
                        rw [this]; simp; omega), hb⟩
end Go.Proofs.Ytkcgkfhfogdihaa
/- Walks of the program's CheckLog and open, itself. -/
namespace Go.Proofs.Ytkcgkfhfogdihaa
open Go.RowKit
theorem inc_of {l : List (Int × Int)} (h : ∀ i, i < l.length → (0 < i → dayN l (i - 1) < dayN l i)) : R.Inc l := fun i hi => by
  have := h (i + 1) (by omega) (by omega); simpa using this
def C.lastD (l : List (Int × Int)) (j : Nat) : Int := if j = 0 then -1 else dayN l (j - 1)
set_option maxRecDepth 100000 in
set_option maxHeartbeats 2000000 in
theorem cCheckLog_any (a : Option Addr) (cap : Nat) (deg : Int) (l : List (Int × Int)) (w : World) (hl : l.length ≤ 1000000) (ha : Sigs w a l) :
    Calls Try.prog 27 #[.agg #[.int .i64 deg, .slice a l.length cap]] w fun e w' => e = .returned (.int .i64 (R.checkLog deg l)) ∧ Below w.heap.size w w' := by
  have hb0 := Lib.hid (Below.new w (.cells #[.int .i64 deg, .slice a l.length cap] 33))
  have HL0 := Lib.hid (Logged.new ha deg cap 33)
  have HC := Lib.hid (fun W H lo hi x (hW : Ints .i64 W (some ⟨H, 0, none⟩) [x]) => within_any (some ⟨H, 0, none⟩) 1 [x] lo hi W (by simp) hW)
  simp only [List.length_singleton, List.all_cons, List.all_nil, Bool.and_true] at HC
  clear ha
  cases h1 : C.inB 0 3 deg with
  | false =>
    have HF : Hid (R.checkLog deg l = 2) := Lib.hid (by have := inB_false h1; unfold R.checkLog; rw [if_pos (by omega)])
    have HC1 := Lib.hid (fun W H hW => HC.out W H 0 3 deg hW)
    rw [h1] at HC1
    clear h1
    go_enter Try.func27, Try.ntmps27
    go_wp2_with fail
    refine (HC1.out _ (w.heap.size + 1) (ints_one (by simp))).mono ?_
    rintro e w1 ⟨rfl, hb1⟩
    go_wp2_with fail
    go_ret
    exact ⟨ret_int (by rw [HF.out]), hb0.out.trans (((Below.new _ _).trans (hb1.mono (by simp))).mono (by simp))⟩
  | true =>
    have HC1 := Lib.hid (fun W H hW => HC.out W H 0 3 deg hW)
    rw [h1] at HC1
    have hdd := inB_true h1
    clear h1
    by_cases h12 : 12 < l.length
    · have HF : Hid (R.checkLog deg l = 6) := Lib.hid (by unfold R.checkLog; rw [if_neg (by omega), if_pos h12])
      obtain ⟨hd0, hd3⟩ := hdd
      go_enter Try.func27, Try.ntmps27
      go_wp2_with fail
      refine (HC1.out _ (w.heap.size + 1) (ints_one (by simp))).mono ?_
      rintro e w1 ⟨rfl, hb1⟩
      have hbb : Below (w.alloc (.cells #[.int .i64 deg, .slice a l.length cap] 33)).heap.size (w.alloc (.cells #[.int .i64 deg, .slice a l.length cap] 33)) w1 := (Below.new _ _).trans (hb1.mono (by simp))
      have hx2 := (HL0.out.on hbb).x2
      go_wp2_with fail
      go_ret
      exact ⟨ret_int (by rw [HF.out]), hb0.out.trans (hbb.mono (by simp))⟩
    · by_cases hf : R.Fit l
      · have HCC := Lib.hid (fun W hW => contains2_any a cap l W hl hW)
        rw [decide_eq_true hf] at HCC
        have HFit := Lib.hid hf
        obtain ⟨hd0, hd3⟩ := hdd
        clear hf
        go_enter Try.func27, Try.ntmps27
        go_wp2_with fail
        refine (HC1.out _ (w.heap.size + 1) (ints_one (by simp))).mono ?_
        rintro e w1 ⟨rfl, hb1⟩
        have hbb : Below (w.alloc (.cells #[.int .i64 deg, .slice a l.length cap] 33)).heap.size (w.alloc (.cells #[.int .i64 deg, .slice a l.length cap] 33)) w1 := (Below.new _ _).trans (hb1.mono (by simp))
        have HL1 := Lib.hid (HL0.out.on hbb)
        have HBB := Lib.hid (hb0.out.trans (hbb.mono (by simp)))
        have hsz := HBB.out.size
        have hx2 := HL1.out.x2
        clear hb1 hbb
        go_wp2_with fail
        refine (HCC.out _ HL1.out.sig).mono ?_
        rintro e w2 ⟨rfl, hb2⟩
        have HL2 := Lib.hid (HL1.out.on hb2)
        have HB2 := Lib.hid (HBB.out.trans (hb2.mono hsz))
        have hsz2 := HB2.out.size
        clear hb2 hx2
        have hx2 := HL2.out.x2
        go_wp2_with fail
        clear hx2
        go_loopw [4, 6, 26] (fun last _ i wr => ∃ j : Nat, j ≤ l.length ∧ i = .int .i64 j ∧ last = .int .i64 (C.lastD l j) ∧ Hid (∀ i, i < j → (0 < i → dayN l (i - 1) < dayN l i)) ∧ Below w2.heap.size w2 wr) (fun _ _ i _ => l.length - (intOf i).toNat)
        case atStart => exact ⟨0, by omega, rfl, rfl, Lib.hid (fun i h => by omega), Below.refl _ _⟩
        case round =>
          obtain ⟨j, hj, rfl, rfl, HP, hb⟩ := hrel
          have hbs := hb.size
          by_cases hlt : j < l.length
          · obtain ⟨b, off, rfl, hc1, hc2⟩ := (HL2.out.on hb).sig j hlt
            have hfj := HFit.out j hlt
            have HPre : ∃ p : Int, Hid (C.lastD l j = p) := ⟨_, rfl⟩
            obtain ⟨p, HPre⟩ := HPre
            rw [HPre.out]
            have HNext : Hid (C.lastD l (j + 1) = dayN l j) := Lib.hid (by unfold C.lastD; rw [if_neg (by omega)]; simp)
            by_cases hle : dayN l j ≤ p
            · have HF : Hid (R.checkLog deg l = 16) := Lib.hid (by
                have hp := HPre.out
                unfold C.lastD at hp
                unfold R.FitS at hfj
                have hj0 : j ≠ 0 := fun h => by rw [if_pos h] at hp; omega
                rw [if_neg hj0] at hp
                unfold R.checkLog; rw [if_neg (by omega), if_neg (by omega), if_neg (not_not_intro HFit.out), if_pos (fun h => by have := h (j - 1) (by omega); rw [show j - 1 + 1 = j by omega] at this; omega)])
              clear hfj
              go_wp2_with fail
              go_ret
              exact ⟨ret_int (by rw [HF.out]), HB2.out.trans ((hb.alloc hbs _).mono hsz2)⟩
            · have HP1 : Hid (∀ i, i < j + 1 → (0 < i → dayN l (i - 1) < dayN l i)) := Lib.hid (fun i hi hi0 => by
                by_cases e : i = j
                · subst e; have hp := HPre.out; unfold C.lastD at hp; rw [if_neg (by omega)] at hp; omega
                · exact HP.out i (by omega) hi0)
              have hle' : p < dayN l j := by omega
              clear hfj hle
              go_wp2_with fail
              go_roundw
              case rel => exact ⟨j + 1, by omega, by go_num, by rw [HNext.out], HP1, hb.alloc hbs _⟩
              case measure => simp [intOf]; omega
          · have HF : Hid (R.checkLog deg l = 0) := Lib.hid (R.Valid.zero ⟨hd0, hd3, by omega, HFit.out, inc_of (fun i hi => HP.out i (by omega))⟩)
            go_wp2_with fail
            go_ret
            exact ⟨ret_int (by rw [HF.out]), HB2.out.trans (hb.mono hsz2)⟩
      · have HF : Hid (R.checkLog deg l = 3) := Lib.hid (by unfold R.checkLog; rw [if_neg (by omega), if_neg h12, if_pos hf])
        have HCC := Lib.hid (fun W hW => contains2_any a cap l W hl hW)
        rw [decide_eq_false hf] at HCC
        obtain ⟨hd0, hd3⟩ := hdd
        clear hf
        go_enter Try.func27, Try.ntmps27
        go_wp2_with fail
        refine (HC1.out _ (w.heap.size + 1) (ints_one (by simp))).mono ?_
        rintro e w1 ⟨rfl, hb1⟩
        have hbb : Below (w.alloc (.cells #[.int .i64 deg, .slice a l.length cap] 33)).heap.size (w.alloc (.cells #[.int .i64 deg, .slice a l.length cap] 33)) w1 := (Below.new _ _).trans (hb1.mono (by simp))
        have HL1 := Lib.hid (HL0.out.on hbb)
        have HBB := Lib.hid (hb0.out.trans (hbb.mono (by simp)))
        have hsz := HBB.out.size
        have hx2 := HL1.out.x2
        clear hb1 hbb
        go_wp2_with fail
        refine (HCC.out _ HL1.out.sig).mono ?_
        rintro e w2 ⟨rfl, hb2⟩
        go_wp2_with fail
        go_ret
        exact ⟨ret_int (by rw [HF.out]), HBB.out.trans (hb2.mono hsz)⟩

set_option maxRecDepth 100000 in
set_option maxHeartbeats 1000000 in
theorem open_ok (a : Option Addr) (cap : Nat) (deg : Int) (l : List (Int × Int)) (w : World) (hl : l.length ≤ 1000000) (ha : Sigs w a l) (hc : R.checkLog deg l = 0) :
    Calls Try.prog 58 #[.agg #[.int .i64 deg, .slice a l.length cap]] w fun e w' => ∃ B, e = .returned (.tuple #[.pointer (some ⟨B, 0, none⟩), .int .i64 0]) ∧ Logged w' B deg a cap l ∧ Below w.heap.size w w' := by
  have hb0 := Lib.hid (Below.new w (.cells #[.int .i64 deg, .slice a l.length cap] 33))
  have HL0 := Lib.hid (Logged.new ha deg cap 33)
  have HC := Lib.hid (fun W hW => cCheckLog_any a cap deg l W hl hW)
  rw [hc] at HC
  clear ha hc
  go_enter Try.func58, Try.ntmps58
  go_wp2_with fail
  refine (HC.out _ HL0.out.sig).mono ?_
  rintro e w1 ⟨rfl, hb1⟩
  have HL1 := Lib.hid (HL0.out.on hb1)
  have HBel := Lib.hid (hb0.out.trans (hb1.mono (by simp)))
  have hx1 := HL1.out.x1
  have hx2 := HL1.out.x2
  have hsz := HBel.out.size
  clear hb1
  go_wp2_with fail
  go_ret2
  exact ⟨_, rfl, Logged.new HL1.out.sig deg cap 97, HBel.out.alloc hsz _⟩
set_option maxRecDepth 100000 in
set_option maxHeartbeats 1000000 in
theorem open_err (a : Option Addr) (cap : Nat) (deg : Int) (l : List (Int × Int)) (w : World) (hl : l.length ≤ 1000000) (ha : Sigs w a l) (hc : R.checkLog deg l ≠ 0) :
    Calls Try.prog 58 #[.agg #[.int .i64 deg, .slice a l.length cap]] w fun e w' => e = .returned (.tuple #[.pointer none, .int .i64 (R.checkLog deg l)]) ∧ Below w.heap.size w w' := by
  have hb0 := Lib.hid (Below.new w (.cells #[.int .i64 deg, .slice a l.length cap] 33))
  have HL0 := Lib.hid (Logged.new ha deg cap 33)
  have HC := Lib.hid (fun W hW => cCheckLog_any a cap deg l W hl hW)
  have hc' : (R.checkLog deg l != 0) = true := by rw [bne_iff_ne]; exact hc
  clear ha hc
  go_enter Try.func58, Try.ntmps58
  go_wp2_with fail
  refine (HC.out _ HL0.out.sig).mono ?_
  rintro e w1 ⟨rfl, hb1⟩
  go_wp2_with fail
  go_ret2
  exact ⟨rfl, hb0.out.trans (hb1.mono (by simp))⟩
end Go.Proofs.Ytkcgkfhfogdihaa
/- Walk of slices.Delete at a row of the call's own: one element is left out. -/
namespace Go.Proofs.Ytkcgkfhfogdihaa
open Go.RowKit
/-- The first k elements of a row are a row. -/
theorem owns_take {w : World} {base : Nat} {e : TypeId} {size : Nat} {g n cap : Nat} {xs : List Value} (h : w.ownsRow base e size (.slice (some ⟨g, 0, none⟩) n cap) n xs) (k : Nat) (hk : k ≤ n) : w.ownsRow base e size (.slice (some ⟨g, 0, none⟩) k cap) k (xs.take (k * size)) := by
  have hl := h.1
  rcases h.2 with ⟨h', _⟩ | ⟨g', cap', cur, h', hb, hg, hnc, hcm, hcs, ht⟩
  · simp at h'
  · simp only [Value.slice.injEq, Option.some.injEq, Addr.mk.injEq, and_true, true_and] at h'
    obtain ⟨rfl, rfl⟩ := h'
    have hle : k * size ≤ n * size := Nat.mul_le_mul_right _ hk
    refine ⟨by rw [List.length_take]; omega, .inr ⟨g, cap, cur, rfl, hb, hg, by omega, hcm, hcs, ?_⟩⟩
    rw [← ht, List.take_take, Nat.min_eq_left hle]
theorem owns_cap {w : World} {base : Nat} {e : TypeId} {size : Nat} {g n cap : Nat} {xs : List Value} (h : w.ownsRow base e size (.slice (some ⟨g, 0, none⟩) n cap) n xs) : n ≤ cap ∧ cap ≤ maxLen := by
  rcases h.2 with ⟨h', _⟩ | ⟨g', cap', cur, h', hb, hg, hnc, hcm, hcs, ht⟩
  · simp at h'
  · simp only [Value.slice.injEq, Option.some.injEq, Addr.mk.injEq, and_true, true_and] at h'
    obtain ⟨rfl, rfl⟩ := h'
    exact ⟨hnc, hcm⟩
/-- A cell of a row, beyond its length too. -/
theorem owns_there {w : World} {base : Nat} {e : TypeId} {g n cap : Nat} {xs : List Value} (h : w.ownsRow base e 1 (.slice (some ⟨g, 0, none⟩) n cap) n xs) (j : Nat) (hj : j < cap) : ∃ u, w.cell? ⟨g, j, none⟩ = some u := by
  rcases h.2 with ⟨h', _⟩ | ⟨g', cap', cur, h', hb, hg, hnc, hcm, hcs, ht⟩
  · simp at h'
  · simp only [Value.slice.injEq, Option.some.injEq, Addr.mk.injEq, and_true, true_and] at h'
    obtain ⟨rfl, rfl⟩ := h'
    refine ⟨cur[j]'(by omega), ?_⟩
    rw [cell_of_row w g j cur e (0, 0) hg]
    simp only [hcs, Nat.mul_one, hj, getElem?_pos]
set_option maxRecDepth 100000 in
set_option maxHeartbeats 1000000 in
theorem delete_any (g cap k base : Nat) (zs : List Int) (w : World) (hn : zs.length ≤ 1000000) (hk : k < zs.length) (hown : w.ownsRow base 2 1 (.slice (some ⟨g, 0, none⟩) zs.length cap) zs.length (zs.map (.int .i64))) :
    Calls Try.prog 88 #[.slice (some ⟨g, 0, none⟩) zs.length cap, .int .i64 k, .int .i64 (k + 1 : Nat)] w fun e w' => e = .returned (.slice (some ⟨g, 0, none⟩) (zs.length - 1) cap) ∧ w'.ownsRow base 2 1 (.slice (some ⟨g, 0, none⟩) (zs.length - 1) cap) (zs.length - 1) ((zs.eraseIdx k).map (.int .i64)) ∧ w.grownBy w' (some g) := by
  have hcap := owns_cap hown
  have HO := Lib.hid hown
  have h63 : maxLen = 9223372036854775807 := rfl
  obtain ⟨hc1, hc2⟩ := hcap
  rw [h63] at hc2
  clear hown h63
  go_enter Try.func88, Try.ntmps88
  go_wp2_with fail
  have k1 : (0 : Int) ≤ ↑k := by omega
  have k2 : (k : Int) ≤ ↑cap := by omega
  have k3 : (k : Int) + 1 ≤ ↑zs.length := by omega
  have k4 : (0 : Int) ≤ ↑k + 1 := by omega
  have k5 : ((k : Int) + 1).toNat = k + 1 := by omega
  have k6 : (zs.length : Int) ≤ ↑cap := by omega
  go_still_tail 6, (by kernel_rfl)
  have hi0 := info_parts T22.hi
  obtain ⟨i0, hi, -, hz1, -⟩ := hi0
  have hown0 := HO.out
  have hpre : (World.ownsRow w.drew base 2 1 (.slice (some ⟨g, 0, none⟩) k cap) k ((zs.map (.int .i64)).take (k * 1))) := owns_take hown0 k (by omega)
  have hcells : ∀ t, t < zs.length → w.cell? ⟨g, 0 + t, none⟩ = some (.int .i64 (zs.getD t 0)) := fun t ht => by
    have := hown0.cellAt t (by omega)
    rw [Nat.zero_add, this]; simp [ht]
  have hlen : ((zs.drop (k + 1)).map (Value.int .i64)).length = (zs.length - (k + 1)) * 1 := by simp
  refine wpList_append_fits_any w.drew rfl (.tmp 22) (.tmp 25) 22 rfl base 2 i0 1 Try.underlying22 hi hz1 g k cap _ rfl hpre _ _ _ ((zs.drop (k + 1)).map (.int .i64)) rfl hlen ?_ (cells_from (w := w) (b := g) (o := 0) (k := .i64) (A := zs) rfl (by omega) hcells (by intro h; first | rfl | simp [h])) (one_ints _ _) (by omega) ?_
  · split <;> intro h <;> cases h
  intro w2 hown2 hg2
  have hE : (zs.map (Value.int .i64)).take (k * 1) ++ (zs.drop (k + 1)).map (Value.int .i64) = (zs.eraseIdx k).map (Value.int .i64) := by
    rw [List.eraseIdx_eq_take_drop_succ, List.map_append, Nat.mul_one, List.map_take]
  have hL : k + (zs.length - (k + 1)) = zs.length - 1 := by omega
  rw [hE, hL] at hown2
  rw [hL]
  have HO2 := Lib.hid hown2
  have HG2 := Lib.hid hg2
  clear hE hL hpre hcells hlen hown2 hg2 hown0 hi hz1
  have hm' : ∃ m, zs.length = m + 1 := ⟨zs.length - 1, by omega⟩
  obtain ⟨m, hm⟩ := hm'
  have hm1 : zs.length - 1 = m := by omega
  rw [hm1] at HO2
  have HM := Lib.hid hm1
  have HR : Hid ((w2.setCells g m [.int .i64 0]).ownsRow base 2 1 (.slice (some ⟨g, 0, none⟩) m cap) m ((zs.eraseIdx k).map (.int .i64)) ∧ w.grownBy (w2.setCells g m [.int .i64 0]) (some g)) := Lib.hid (by
    obtain ⟨h1, h2⟩ := HO2.out.stored m (.int .i64 0)
    rw [List.set_eq_of_length_le (by have := HO2.out.1; omega)] at h1
    have h3 : w.grownBy w2 (some g) := ⟨HG2.out.os, HG2.out.tape, HG2.out.output, HG2.out.size, HG2.out.block⟩
    exact ⟨h1, h3.trans h2⟩)
  rw [hm1]
  rw [hm] at hc1 k6 hn k3 ⊢
  clear HO hm hm1 hk
  obtain ⟨u, hu⟩ := owns_there HO2.out m (by omega)
  have hf := HO2.out.frozenAt m
  have hu1 : ∀ j, j < 1 → (w2.cell? ⟨g, m + j, none⟩).isSome = true := fun j hj => by
    obtain rfl : j = 0 := by omega
    rw [Nat.add_zero, hu]; rfl
  have hf1 : ∀ j, j < 1 → w2.frozen? ⟨g, m + j, none⟩ = false := fun j hj => by
    obtain rfl : j = 0 := by omega
    exact hf
  have hcl := fun ty => Lib.run_clear_slice (P := Try.prog) w2 22 2 ty (.int .i64 0) Try.underlying22 Try.zeroValue2 rfl rfl g m 1 (cap - m) (by omega) hu1 hf1
  have k7 : ¬ cap = m := by omega
  have k8 : m + 1 - m = 1 := by omega
  have k9 : (m : Int) ≤ ↑cap := by omega
  clear hu1 hf1 hu hf hc2
  go_wp2_with fail
  all_goals
    try subst h
    go_ret
    exact ⟨by rw [HM.out]; first | done | rfl, by rw [HM.out]; exact HR.out.1, HR.out.2⟩
end Go.Proofs.Ytkcgkfhfogdihaa
/- Determinants by the first row, and Cramer's rule for at most four sightings: the path through them, if there is one. -/
namespace Go.Proofs.Ytkcgkfhfogdihaa
open Go.RowKit
namespace C
def sgn (k : Nat) : Int := if k % 2 = 0 then 1 else -1
def row (t : List (List Int)) (i : Nat) : List Int := t.getD i []
theorem row_left (t : List (List Int)) (r : List Int) (i : Nat) (h : i < t.length) : row (t ++ [r]) i = row t i := by simp [row, List.getElem?_append_left h]
theorem row_right (t : List (List Int)) (r : List Int) : row (t ++ [r]) t.length = r := by simp [row]
/-- The determinant of a table, by its first row. -/
def D : Nat → List (List Int) → Int
  | 0, _ => 1
  | _ + 1, [] => 1
  | n + 1, r :: rs => up (fun k s => s + sgn k * nth r k * D n (rs.map fun q => q.eraseIdx k)) 0 r.length
/-- The sum of its first j terms. -/
def Dto (n : Nat) (r : List Int) (rs : List (List Int)) (j : Nat) : Int := up (fun k s => s + sgn k * nth r k * D n (rs.map fun q => q.eraseIdx k)) 0 j
theorem D_cons (n : Nat) (r : List Int) (rs : List (List Int)) : D (n + 1) (r :: rs) = Dto n r rs r.length := rfl
theorem D1 (a : Int) : D 1 [[a]] = a := by simp [D, up, sgn, nth]
theorem D2 (a b c d : Int) : D 2 [[a, b], [c, d]] = a * d - b * c := by
  simp [D, up, sgn, nth, List.eraseIdx]; grind
theorem D3 (a1 a2 a3 b1 b2 b3 c1 c2 c3 : Int) : D 3 [[a1, a2, a3], [b1, b2, b3], [c1, c2, c3]] = a1 * (b2 * c3 - b3 * c2) - a2 * (b1 * c3 - b3 * c1) + a3 * (b1 * c2 - b2 * c1) := by
  simp [D, up, sgn, nth, List.eraseIdx]; grind
theorem D4 (a1 a2 a3 a4 b1 b2 b3 b4 c1 c2 c3 c4 d1 d2 d3 d4 : Int) : D 4 [[a1, a2, a3, a4], [b1, b2, b3, b4], [c1, c2, c3, c4], [d1, d2, d3, d4]] =
    a1 * (b2*(c3*d4-c4*d3) - b3*(c2*d4-c4*d2) + b4*(c2*d3-c3*d2)) - a2 * (b1*(c3*d4-c4*d3) - b3*(c1*d4-c4*d1) + b4*(c1*d3-c3*d1)) + a3 * (b1*(c2*d4-c4*d2) - b2*(c1*d4-c4*d1) + b4*(c1*d2-c2*d1)) - a4 * (b1*(c2*d3-c3*d2) - b2*(c1*d3-c3*d1) + b3*(c1*d2-c2*d1)) := by
  simp [D, up, sgn, nth, List.eraseIdx]; grind
/-- The row of a sighting's day; that with a place for its number k; tables of the first j. -/
def wrow (l : List (Int × Int)) (m i : Nat) : List Int := tabL (fun k => R.ways (dayN l i) k) m
where tabL (f : Nat → Int) (n : Nat) : List Int := R.tab f n
def matTo (l : List (Int × Int)) (m j : Nat) : List (List Int) := up (fun i t => t ++ [wrow l m i]) [] j
def withTo (l : List (Int × Int)) (m k j : Nat) : List (List Int) := up (fun i t => t ++ [(wrow l m i).set k (plcN l i)]) [] j
def all (l : List (Int × Int)) : Int := D l.length (matTo l l.length l.length)
def one (l : List (Int × Int)) (k : Nat) : Int := D l.length (withTo l l.length k l.length)
/-- The numbers found so far; none: one of them is no whole number. -/
def outTo (l : List (Int × Int)) (j : Nat) : Option (List Int) := up (fun k r => match r with | none => none | some out => if (one l k).tmod (all l) = 0 then some (out ++ [(one l k).tdiv (all l)]) else none) (some []) j
def out (l : List (Int × Int)) : Option (List Int) := outTo l l.length
theorem wrow_length (l : List (Int × Int)) (m i : Nat) : (wrow l m i).length = m := R.tab_length _ _
theorem matTo_length (l : List (Int × Int)) (m j : Nat) : (matTo l m j).length = j := by
  induction j with
  | zero => rfl
  | succ j ih => show (matTo l m j ++ [_]).length = _; simp [ih]
theorem withTo_length (l : List (Int × Int)) (m k j : Nat) : (withTo l m k j).length = j := by
  induction j with
  | zero => rfl
  | succ j ih => show (withTo l m k j ++ [_]).length = _; simp [ih]
theorem matTo_row (l : List (Int × Int)) (m j i : Nat) (h : i < j) : row (matTo l m j) i = wrow l m i := by
  induction j with
  | zero => omega
  | succ j ih =>
    show row (matTo l m j ++ [wrow l m j]) i = _
    by_cases hi : i < j
    · rw [row_left _ _ _ (by rw [matTo_length]; exact hi)]; exact ih hi
    · have : i = j := by omega
      subst this
      have e := row_right (matTo l m i) (wrow l m i)
      rw [matTo_length] at e; exact e
theorem withTo_row (l : List (Int × Int)) (m k j i : Nat) (h : i < j) : row (withTo l m k j) i = (wrow l m i).set k (plcN l i) := by
  induction j with
  | zero => omega
  | succ j ih =>
    show row (withTo l m k j ++ [(wrow l m j).set k (plcN l j)]) i = _
    by_cases hi : i < j
    · rw [row_left _ _ _ (by rw [withTo_length]; exact hi)]; exact ih hi
    · have : i = j := by omega
      subst this
      have e := row_right (withTo l m k i) ((wrow l m i).set k (plcN l i))
      rw [withTo_length] at e; exact e
/-- The ways of a day at which they are reckoned. -/
theorem ways4 {x : Int} (h0 : 0 ≤ x) (h1 : x ≤ 60) : R.ways x 0 = 1 ∧ R.ways x 1 = x ∧ 2 * R.ways x 2 = x * (x - 1) ∧ 6 * R.ways x 3 = x * (x - 1) * (x - 2) := by
  obtain ⟨m, rfl⟩ := Int.eq_ofNat_of_zero_le h0
  exact R.ways_forms m (by omega)
theorem ways_le : ∀ n : Nat, n < 61 → R.ways n 0 = 1 ∧ 0 ≤ R.ways n 1 ∧ R.ways n 1 ≤ 60 ∧ 0 ≤ R.ways n 2 ∧ R.ways n 2 ≤ 1770 ∧ 0 ≤ R.ways n 3 ∧ R.ways n 3 ≤ 34220 := by decide +kernel
end C
end Go.Proofs.Ytkcgkfhfogdihaa
/- Walk of the program's determinant. -/
namespace Go.Proofs.Ytkcgkfhfogdihaa
open Go.RowKit
/-- A table of integers, row by row, at the address a. -/
def Tab (w : World) (a : Option Addr) (t : List (List Int)) : Prop :=
  ∀ i, i < t.length → ∃ b off ra rcap, a = some ⟨b, off, none⟩ ∧ w.cell? ⟨b, off + i, none⟩ = some (.slice ra (C.row t i).length rcap) ∧ Ints .i64 w ra (C.row t i)
theorem Tab.below {w w' : World} {a : Option Addr} {t : List (List Int)} (h : Tab w a t) (hb : Below w.heap.size w w') : Tab w' a t := fun i hi => by
  obtain ⟨b, off, ra, rcap, e, hc, hr⟩ := h i hi
  exact ⟨b, off, ra, rcap, e, cell_on hb hc, hr.below hb⟩
/-- A table of the call's own: rows of its own, in a row of its own. -/
def TabO (w : World) (base : Nat) (v : Value) (t : List (List Int)) (vals : List Value) : Prop :=
  w.ownsRow base 22 1 v t.length vals ∧ ∀ i, i < t.length → ∃ g rcap, vals[i]? = some (.slice (some ⟨g, 0, none⟩) (C.row t i).length rcap) ∧
    w.ownsRow base 2 1 (.slice (some ⟨g, 0, none⟩) (C.row t i).length rcap) (C.row t i).length ((C.row t i).map (.int .i64)) ∧ v.ownBlock ≠ some g
theorem TabO.nil (w : World) (base : Nat) : TabO w base (.slice none 0 0) [] [] := ⟨World.ownsRow_nil _ _ _ _, fun i h => by simp at h⟩
theorem TabO.below {w w' : World} {base : Nat} {v : Value} {t : List (List Int)} {vals : List Value} (h : TabO w base v t vals) (hb : Below w.heap.size w w') : TabO w' base v t vals :=
  ⟨owns_below h.1 hb, fun i hi => by obtain ⟨g, rcap, e, ho, hn⟩ := h.2 i hi; exact ⟨g, rcap, e, owns_below ho hb, hn⟩⟩
theorem TabO.tab {w : World} {base : Nat} {v : Value} {t : List (List Int)} {vals : List Value} (h : TabO w base v t vals) : ∃ a cap, v = .slice a t.length cap ∧ t.length ≤ cap ∧ Tab w a t := by
  obtain ⟨hown, hin⟩ := h
  rcases hown.2 with ⟨rfl, h0⟩ | ⟨g, cap, cur, rfl, hb, hg, hn, hm, hs, ht⟩
  · exact ⟨none, 0, by rw [h0], by omega, fun i hi => by omega⟩
  · refine ⟨_, cap, rfl, hn, fun i hi => ?_⟩
    obtain ⟨gr, rcap, e, ho, -⟩ := hin i hi
    refine ⟨g, 0, some ⟨gr, 0, none⟩, rcap, rfl, ?_, fun j hj => ⟨gr, 0, rfl, ?_⟩⟩
    · have := hown.cellAt i (by omega)
      rw [Nat.zero_add, this, e]
    · have := ho.cellAt j (by omega)
      rw [Nat.zero_add, this]; simp [nth, hj]
/-- One row more. -/
theorem TabO.app {w w' : World} {base : Nat} {v v' : Value} {t : List (List Int)} {vals : List Value} {g rcap : Nat} {r : List Int} (h : TabO w base v t vals)
    (hr : w.ownsRow base 2 1 (.slice (some ⟨g, 0, none⟩) r.length rcap) r.length (r.map (.int .i64))) (hne : v.ownBlock ≠ some g)
    (hown : w'.ownsRow base 22 1 v' (t.length + 1) (vals ++ [.slice (some ⟨g, 0, none⟩) r.length rcap])) (hg : w.grownBy w' v.ownBlock) (hl : Lies v v' w.heap.size) : TabO w' base v' (t ++ [r]) (vals ++ [.slice (some ⟨g, 0, none⟩) r.length rcap]) := by
  have hvl := h.1.1
  have off : ∀ g', g' < w.heap.size → v.ownBlock ≠ some g' → v'.ownBlock ≠ some g' := fun g' h1 h2 h3 => by
    rcases hl with hl | hl
    · exact h2 (hl ▸ h3)
    · rw [h3] at hl; cases hl; omega
  refine ⟨by simpa using hown, fun i hi => ?_⟩
  by_cases h1 : i < t.length
  · obtain ⟨g', rcap', e, ho, hn⟩ := h.2 i h1
    rw [C.row_left _ _ _ h1]
    exact ⟨g', rcap', by rw [List.getElem?_append_left (by omega)]; exact e, ho.kept hg (.inr (fun e => hn e.symm)), off g' (ho.lt g' rfl).2 hn⟩
  · have : i = t.length := by simp at hi; omega
    subst this
    rw [C.row_right]
    exact ⟨g, rcap, by rw [List.getElem?_append_right (by omega), hvl]; simp, hr.kept hg (.inr (fun e => hne e.symm)), off g (hr.lt g rfl).2 hne⟩
namespace C
theorem sgn_succ (k : Nat) : sgn (k + 1) = -sgn k := by unfold sgn; split <;> split <;> omega
theorem sgn_cases (k : Nat) : sgn k = 1 ∨ sgn k = -1 := by unfold sgn; split <;> simp
theorem Dto_succ (n : Nat) (r : List Int) (rs : List (List Int)) (j : Nat) : Dto n r rs (j + 1) = Dto n r rs j + sgn j * nth r j * D n (rs.map fun q => q.eraseIdx j) := rfl
/-- The rows without their element k: the first j. -/
def rest (rs : List (List Int)) (k j : Nat) : List (List Int) := up (fun i t => t ++ [(row rs i).eraseIdx k]) [] j
theorem rest_length (rs : List (List Int)) (k j : Nat) : (rest rs k j).length = j := by
  induction j with
  | zero => rfl
  | succ j ih => show (rest rs k j ++ [_]).length = _; simp [ih]
theorem rest_all (rs : List (List Int)) (k : Nat) : ∀ j, j ≤ rs.length → rest rs k j = (rs.take j).map fun q => q.eraseIdx k := by
  intro j
  induction j with
  | zero => intro _; rfl
  | succ j ih =>
    intro hj
    show rest rs k j ++ [(row rs j).eraseIdx k] = _
    rw [ih (by omega), List.take_succ_eq_append_getElem (by omega), List.map_append]
    simp [row, show j < rs.length by omega]
theorem row_succ (r : List Int) (rs : List (List Int)) (i : Nat) : row (r :: rs) (i + 1) = row rs i := rfl
end C
set_option maxRecDepth 100000 in
set_option maxHeartbeats 2000000 in
theorem det_any : ∀ (n : Nat) (a : Option Addr) (cap : Nat) (t : List (List Int)) (w : World) (_ : n ≤ 4) (_ : t.length = n) (_ : n ≤ cap) (_ : ∀ i, i < n → (C.row t i).length = n) (_ : Tab w a t),
    Calls Try.prog 77 #[.slice a n cap] w fun e w' => e = .returned (.int .i64 (wrap64 (C.D n t))) ∧ Below w.heap.size w w' := by
  intro n
  induction n with
  | zero =>
    intro a cap t w _ ht _ _ _
    go_enter Try.func77, Try.ntmps77
    go_wp2_with fail
    go_ret
    exact ⟨ret_int (wrap64_id (by show _ ∧ _; decide)).symm, Below.refl _ _⟩
  | succ n ih =>
    intro a cap t w hn4 ht hcap hrow hT
    cases t with
    | nil => simp at ht
    | cons r rs =>
    have hrs : rs.length = n := by simpa using ht
    have hr : r.length = n + 1 := hrow 0 (by omega)
    have HT := Lib.hid hT
    have HR := Lib.hid (fun i (hi : i < n) => (hrow (i + 1) (by omega) : (C.row rs i).length = n + 1))
    have HRS := Lib.hid hrs
    have HRL := Lib.hid hr
    have IH := Lib.hid ih
    obtain ⟨b, off, ra, rcap, rfl, hc0, hi0⟩ := hT 0 (by simp)
    have e0 : (C.row (r :: rs) 0) = r := rfl
    rw [e0, Nat.add_zero] at hc0
    rw [e0] at hi0
    rw [hr] at hc0
    have HI0 := Lib.hid hi0
    clear ih hT hrow hrs hr ht e0 hi0
    rw [C.D_cons, HRL.out]
    have hz1 : ((n : Int) + 1 == 0) = false := by simp; omega
    go_enter Try.func77, Try.ntmps77
    go_wp2_with fail
    go_loopw [3, 4, 17] (fun sum sg i wr => ∃ k : Nat, k ≤ n + 1 ∧ i = .int .i64 k ∧ sum = .int .i64 (wrap64 (C.Dto n r rs k)) ∧ sg = .int .i64 (C.sgn k) ∧ Below w.heap.size w wr) (fun _ _ i _ => n + 1 - (intOf i).toNat)
    case atStart => exact ⟨0, by omega, rfl, by rw [show C.Dto n r rs 0 = 0 from rfl, wrap64_id (by decide)], rfl, Below.refl _ _⟩
    case round =>
      obtain ⟨k, hk, rfl, rfl, rfl, hb⟩ := hrel
      have hbs := hb.size
      by_cases hlt : k < n + 1
      · obtain ⟨b1, off1, rfl, hx⟩ := (HI0.out.below hb) k (by rw [HRL.out]; exact hlt)
        have hc0' := cell_on hb hc0
        have hltI : (k : Int) < ↑n + 1 := by omega
        have HSg : Hid (wrap64 (-C.sgn k) = C.sgn (k + 1)) := Lib.hid (by rw [C.sgn_succ]; rcases C.sgn_cases k with h | h <;> rw [h] <;> exact wrap64_id (by decide))
        have HD : Hid (C.Dto n r rs (k + 1) = C.Dto n r rs k + C.sgn k * nth r k * C.D n (rs.map fun q => q.eraseIdx k)) := Lib.hid (C.Dto_succ _ _ _ _)
        cases hx0 : (nth r k != 0) with
        | false =>
          have HN : Hid (wrap64 (C.Dto n r rs (k + 1)) = wrap64 (C.Dto n r rs k)) := Lib.hid (by
            rw [HD.out]; have : nth r k = 0 := by simpa using hx0
            rw [this]; simp)
          go_wp2_with fail
          go_roundw
          case rel => exact ⟨k + 1, by omega, by go_num, by rw [HN.out], by rw [HSg.out], hb⟩
          case measure => simp [intOf]; omega
        | true =>
          by_cases hcc : cap = 1
          · have hn0 : n = 0 := by omega
            subst hcc
            have hcall : Calls Try.prog 77 #[.slice none 0 0] wr fun e w' => e = .returned (.int .i64 (wrap64 (C.D n []))) ∧ Below wr.heap.size wr w' := by
              have IH' := IH
              have e := hn0
              subst e
              exact IH'.out none 0 [] wr (by omega) rfl (by omega) (fun i hi => by omega) (fun i hi => by simp at hi)
            have hall : (rs.map fun q => q.eraseIdx k) = [] := by
              have : rs = [] := List.eq_nil_of_length_eq_zero (by rw [HRS.out]; exact hn0)
              rw [this]; rfl
            have HCall := Lib.hid hcall
            have hn1 : ¬ (0 : Int) < ↑n := by omega
            have HN0 := Lib.hid hn0
            clear hn0
            have HN : Hid (wrap64 (wrap64 (C.Dto n r rs k) + wrap64 (wrap64 (C.sgn k * nth r k) * wrap64 (C.D n []))) = wrap64 (C.Dto n r rs (k + 1))) := Lib.hid (by
              rw [HD.out, hall, wrap64_mul_l, wrap64_mul_r, wrap64_add_r, wrap64_add_l])
            clear hcall hall
            go_wp2_with fail
            obtain ⟨W1, rfl⟩ : ∃ W1, W1 = wr := ⟨_, rfl⟩
            go_loopw [7, 27] (fun v i wi => i = .int .i64 0 ∧ v = .slice none 0 0 ∧ wi = W1) (fun _ i _ => 0)
            case atStart => exact ⟨rfl, rfl, rfl⟩
            case round =>
              obtain ⟨rfl, rfl, rfl⟩ := hrel
              have HB2 := Lib.hid hb
              have hb2s := hb.size
              go_wp2_with fail
              refine HCall.out.mono ?_
              rintro e w1 ⟨rfl, hb1⟩
              go_wp2_with fail
              go_roundw
              case rel => exact ⟨k + 1, by omega, by go_num, by rw [HN.out], by rw [HSg.out], HB2.out.trans (hb1.mono hb2s)⟩
              case measure => simp [intOf]; omega
          · go_wp2_with fail
            obtain ⟨W1, rfl⟩ : ∃ W1, W1 = wr := ⟨_, rfl⟩
            go_loopw [7, 27] (fun v i wi => ∃ (j : Nat) (vals : List Value), j ≤ n ∧ i = .int .i64 j ∧ TabO wi w.heap.size v (C.rest rs k j) vals ∧ Below w.heap.size w wi) (fun _ i _ => n - (intOf i).toNat)
            case atStart => exact ⟨0, [], Nat.zero_le _, rfl, TabO.nil _ _, hb⟩
            case round =>
              obtain ⟨j, vals, hj, rfl, hrows, hb2⟩ := hrel
              by_cases hltj : j < n
              · obtain ⟨b', off', ra, rcap2, he, hcj, hij⟩ := (HT.out.below hb2) (j + 1) (by simp [HRS.out, hltj])
                obtain ⟨rfl, rfl⟩ : b = b' ∧ off = off' := by cases he; exact ⟨rfl, rfl⟩
                have hql := HR.out j hltj
                rw [C.row_succ] at hcj hij hql
                have hq : ∃ q, Hid (C.row rs j = q) := ⟨_, rfl⟩
                obtain ⟨q, HQ⟩ := hq
                rw [HQ.out] at hcj hij hql
                have hcl := clone_any ra rcap2 q wr (by omega) hij
                rw [hql] at hcl hcj
                have hcj2 : wr.cell? ⟨b, off + 1 + j, none⟩ = some (.slice ra (n + 1) rcap2) := by rw [show off + 1 + j = off + (j + 1) by omega]; exact hcj
                have HCl := Lib.hid hcl
                have HQL := Lib.hid hql
                have HRows := Lib.hid hrows
                clear hcl hql hrows hcj he hij
                go_wp2_with fail
                refine HCl.out.mono ?_
                rintro e w1 ⟨v1, rfl, hown1, hb1⟩
                obtain ⟨g, cap2, rfl⟩ : ∃ g cap2, v1 = .slice (some ⟨g, 0, none⟩) (n + 1) cap2 := by
                  rcases hown1.2 with ⟨_, h⟩ | ⟨g, cap2, cur, h, _⟩
                  · omega
                  · exact ⟨g, cap2, h⟩
                have hdel := delete_any g cap2 k wr.heap.size q w1 (by rw [HQL.out]; omega) (by rw [HQL.out]; omega) (by rw [HQL.out]; exact hown1)
                rw [HQL.out, Int.natCast_succ, Nat.add_sub_cancel] at hdel
                have HDel := Lib.hid hdel
                have hgl := hown1.lt g rfl
                clear hdel
                go_wp2_with fail
                refine HDel.out.mono ?_
                rintro e w2 ⟨rfl, hown2, hg2⟩
                have hb12 : Below wr.heap.size wr w2 := hb1.grown hg2 hb1.size (fun k e => by cases e; exact hgl.1)
                have hq2 : (q.eraseIdx k).length = n := by rw [List.length_eraseIdx, HQL.out]; simp; omega
                have HR2 := Lib.hid (HRows.out.below hb12)
                have hb3 := hb2.trans (hb12.mono hb2.size)
                have hne : u7.ownBlock ≠ some g := fun e => by have := (HRows.out.1.lt g e).2; omega
                have HO2 := Lib.hid (owns_mono hown2 hb2.size)
                have hwl : w.heap.size ≤ w2.heap.size := hb3.size
                have hown0 : w2.ownsRow w.heap.size 22 1 u7 j vals := by have := HR2.out.1; rw [C.rest_length] at this; exact this
                have HOwn := Lib.hid hown0
                have hjn : j + 1 ≤ 2000000 := by omega
                clear hown0
                clear HRows HDel hown2 hg2 hgl hown1 hb1 hb12
                go_wp2_with (at_builtin; refine listApp T101 rfl (.tmp 31) (.tmp 38) rfl w.heap.size u7 j vals [.slice (some ⟨g, 0, none⟩) n cap2] 1 1 ⟨w2.heap.size, 0, none⟩ rfl (HOwn.out.alloc _) rfl rfl (news_new _ _ _) (by simp [Value.oneCell']) hjn (by simp; omega) ?_; intro v1 w3 hown3 hg3 hL3)
                have hrow := TabO.app (HR2.out.below (Below.new w2 _)) (g := g) (rcap := cap2) (r := q.eraseIdx k) (by rw [hq2]; exact HO2.out.alloc _) hne (by rw [C.rest_length, hq2]; exact hown3) hg3 hL3
                have hb4 : Below w.heap.size w w3 := (hb3.alloc hwl _).grown hg3 (by simp; omega) (fun k e => (HOwn.out.lt k e).1)
                go_roundw
                case rel => exact ⟨j + 1, _, by omega, by go_num, by rw [show C.rest rs k (j + 1) = C.rest rs k j ++ [q.eraseIdx k] by rw [← HQ.out]; rfl]; exact hrow, hb4⟩
                case measure => simp [intOf]; omega
              · have hjn : j = n := by omega
                subst hjn
                obtain ⟨a2, cap2, rfl, hcap2, htab⟩ := hrows.tab
                have hlen := C.rest_length rs k j
                have hall : C.rest rs k j = rs.map fun q => q.eraseIdx k := by
                  rw [C.rest_all rs k j (by rw [HRS.out]; exact Nat.le_refl _), List.take_of_length_le (by rw [HRS.out]; exact Nat.le_refl _)]
                rw [hlen] at hcap2
                have hcall := IH.out a2 cap2 (C.rest rs k j) wr (by omega) hlen hcap2 (fun i hi => by
                  have h1 := HR.out i hi
                  rw [C.row_succ] at h1
                  rw [hall]
                  have : C.row (rs.map fun q => q.eraseIdx k) i = (C.row rs i).eraseIdx k := by simp [C.row, show i < rs.length by rw [HRS.out]; exact hi]
                  rw [this, List.length_eraseIdx, h1]; simp; omega) htab
                rw [hall] at hcall
                have HCall := Lib.hid hcall
                have HN : Hid (wrap64 (wrap64 (C.Dto j r rs k) + wrap64 (wrap64 (C.sgn k * nth r k) * wrap64 (C.D j (rs.map fun q => q.eraseIdx k)))) = wrap64 (C.Dto j r rs (k + 1))) := Lib.hid (by
                  rw [HD.out, wrap64_mul_l, wrap64_mul_r, wrap64_add_r, wrap64_add_l])
                have HB2 := Lib.hid hb2
                have hb2s := hb2.size
                rw [hlen]
                clear hcall hall hrows htab hlen hb2
                go_wp2_with fail
                refine HCall.out.mono ?_
                rintro e w1 ⟨rfl, hb1⟩
                go_wp2_with fail
                go_roundw
                case rel => exact ⟨k + 1, by omega, by go_num, by rw [HN.out], by rw [HSg.out], HB2.out.trans (hb1.mono hb2s)⟩
                case measure => simp [intOf]; omega
      · have HE : Hid (k = n + 1) := Lib.hid (by omega)
        go_wp2_with fail
        go_ret
        exact ⟨ret_int (by rw [HE.out]), hb⟩
end Go.Proofs.Ytkcgkfhfogdihaa
/- Cramer's rule for at most four sightings: the path through them, if there is one, is the reference's. -/
namespace Go.Proofs.Ytkcgkfhfogdihaa
open Go.RowKit
namespace C
open R
theorem Abs.sgn {x A : Int} (h : Abs x A) (k : Nat) : Abs (sgn k * x) A := by
  rcases sgn_cases' k with e | e <;> rw [e] <;> unfold Abs at h ⊢ <;> omega
where sgn_cases' (k : Nat) : C.sgn k = 1 ∨ C.sgn k = -1 := by unfold C.sgn; split <;> simp
theorem Abs.add {x y A B : Int} (h : Abs x A) (k : Abs y B) : Abs (x + y) (A + B) := by unfold Abs at *; omega
/-- What a determinant is at most, by its columns. -/
def P : Nat → List Int → Int
  | 0, _ => 1
  | n + 1, bs => up (fun k s => s + nth bs k * P n (bs.eraseIdx k)) 0 bs.length
def Pto (n : Nat) (bs : List Int) (j : Nat) : Int := up (fun k s => s + nth bs k * P n (bs.eraseIdx k)) 0 j
theorem nth_erase (q : List Int) (k i : Nat) : nth (q.eraseIdx k) i = nth q (if i < k then i else i + 1) := by
  unfold nth
  simp only [List.getD_eq_getElem?_getD, List.getElem?_eraseIdx]
  split <;> rfl
theorem D_bd : ∀ (n : Nat) (t : List (List Int)) (bs : List Int), t.length = n → bs.length = n → (∀ r ∈ t, r.length = n ∧ ∀ k, k < n → Abs (nth r k) (nth bs k)) → Abs (D n t) (P n bs)
  | 0, _, _, _, _, _ => by show Abs 1 1; unfold Abs; decide
  | n + 1, [], _, h, _, _ => by simp at h
  | n + 1, r :: rs, bs, ht, hb, hr => by
    have hr0 := hr r (by simp)
    show Abs (Dto n r rs r.length) (Pto n bs bs.length)
    rw [hr0.1, hb]
    have main : ∀ j, j ≤ n + 1 → Abs (Dto n r rs j) (Pto n bs j) := by
      intro j
      induction j with
      | zero => intro _; show Abs 0 0; unfold Abs; decide
      | succ j ih =>
        intro hj
        have h1 := D_bd n (rs.map fun q => q.eraseIdx j) (bs.eraseIdx j) (by simpa using ht) (by rw [List.length_eraseIdx, hb]; simp; omega) (fun q hq => by
          obtain ⟨q', hq', rfl⟩ := List.mem_map.1 hq
          have h2 := hr q' (by simp [hq'])
          refine ⟨by rw [List.length_eraseIdx, h2.1]; simp; omega, fun k hk => ?_⟩
          rw [nth_erase, nth_erase]
          exact h2.2 _ (by split <;> omega))
        have h2 := hr0.2 j (by omega)
        have h3 : Abs (C.sgn j * nth r j * D n (rs.map fun q => q.eraseIdx j)) (nth bs j * P n (bs.eraseIdx j)) := by
          rw [Int.mul_assoc]; exact C.Abs.sgn (h2.mul h1) j
        exact C.Abs.add (ih (by omega)) h3
    exact main (n + 1) (Nat.le_refl _)
/-- The columns' bounds; with that of a place for the number k. -/
def wb (m : Nat) : List Int := [1, 60, 1770, 34220].take m
theorem P_all : ∀ m : Nat, m < 5 → P m (wb m) ≤ 1000000000000 := by decide +kernel
theorem P_one : ∀ m : Nat, m < 5 → ∀ k : Nat, k < m → P m ((wb m).set k 100000) ≤ 10000000000000000 := by decide +kernel
theorem wb_length : ∀ m : Nat, m < 5 → (wb m).length = m := by decide
theorem wrow_nth (l : List (Int × Int)) (m i k : Nat) (h : k < m) : nth (wrow l m i) k = R.ways (dayN l i) k := R.tab_nth _ _ _ h
theorem wrow_bd {l : List (Int × Int)} (h : R.Piece l) {i : Nat} (hi : i < l.length) {m : Nat} (hm : m < 5) {k : Nat} (hk : k < m) : Abs (nth (wrow l m i) k) (nth (wb m) k) := by
  rw [wrow_nth _ _ _ _ hk]
  have hf := h.fit i hi
  unfold R.FitS at hf
  have hN : ∃ n : Nat, dayN l i = n := ⟨(dayN l i).toNat, by omega⟩
  obtain ⟨n, hn⟩ := hN
  rw [hn]
  obtain ⟨w0, w1, w2, w3, w4, w5, w6⟩ := ways_le n (by omega)
  have hwb : nth (wb m) k = nth [1, 60, 1770, 34220] k := by unfold wb nth; simp [hk]
  rw [hwb]
  have : k = 0 ∨ k = 1 ∨ k = 2 ∨ k = 3 := by omega
  rcases this with rfl | rfl | rfl | rfl <;> simp [nth, Abs] <;> omega
theorem mem_row {t : List (List Int)} {r : List Int} (h : r ∈ t) : ∃ i, i < t.length ∧ r = row t i := by
  obtain ⟨i, hi, rfl⟩ := List.getElem_of_mem h
  exact ⟨i, hi, by simp [row, hi]⟩
theorem all_bd {l : List (Int × Int)} (h : R.Piece l) : Abs (all l) 1000000000000 := by
  have hl := h.len
  refine (D_bd l.length _ (wb l.length) (matTo_length _ _ _) (wb_length _ (by omega)) fun r hr => ?_).mono (P_all _ (by omega))
  obtain ⟨i, hi, rfl⟩ := mem_row hr
  rw [matTo_length] at hi
  rw [matTo_row _ _ _ _ hi]
  exact ⟨wrow_length _ _ _, fun k hk => wrow_bd h hi (by omega) hk⟩
theorem nth_set (q : List Int) (k : Nat) (x : Int) (i : Nat) (hi : i < q.length) : nth (q.set k x) i = if i = k then x else nth q i := by
  unfold nth; simp only [List.getD_eq_getElem?_getD, List.getElem?_set]
  by_cases e : k = i
  · subst e; simp [hi]
  · simp [e, Ne.symm e]
theorem one_bd {l : List (Int × Int)} (h : R.Piece l) {k : Nat} (hk : k < l.length) : Abs (one l k) 10000000000000000 := by
  have hl := h.len
  refine (D_bd l.length _ ((wb l.length).set k 100000) (withTo_length _ _ _ _) (by rw [List.length_set]; exact wb_length _ (by omega)) fun r hr => ?_).mono (P_one _ (by omega) k hk)
  obtain ⟨i, hi, rfl⟩ := mem_row hr
  rw [withTo_length] at hi
  rw [withTo_row _ _ _ _ _ hi]
  refine ⟨by rw [List.length_set]; exact wrow_length _ _ _, fun j hj => ?_⟩
  rw [nth_set _ _ _ _ (by rw [wrow_length]; exact hj), nth_set _ _ _ _ (by rw [wb_length _ (by omega)]; exact hj)]
  have hf := h.fit i hi
  unfold R.FitS at hf
  split
  · unfold Abs; omega
  · exact wrow_bd h hi (by omega) hj
theorem ways0 (x : Int) : R.ways x 0 = 1 := rfl
/-- The numbers of a path through the sightings, by determinants. -/
theorem cram {l : List (Int × Int)} (h : l.length ≤ 4) {q : List Int} (hq : q.length = l.length) (hl : ∀ i, i < l.length → R.atD q (dayN l i) = plcN l i) : ∀ k, k < l.length → one l k = all l * nth q k := by
  match l, q, h, hq with
  | [], _, _, _ => intro k hk; simp at hk
  | [(d, p)], [x], _, _ =>
    have e1 := hl 0 (by simp)
    simp [R.atD, R.atFrom, up, nth, dayN, plcN, ways0] at e1
    intro k hk
    have : k = 0 := by simp at hk; omega
    subst this
    simp [one, all, withTo, matTo, wrow, wrow.tabL, R.tab, up, nth, dayN, plcN, ways0, D1, e1]
  | [(d, p), (d1, p1)], [x, y], _, _ =>
    have e1 := hl 0 (by simp); have e2 := hl 1 (by simp)
    simp [R.atD, R.atFrom, up, nth, dayN, plcN, ways0] at e1 e2
    intro k hk
    have : k = 0 ∨ k = 1 := by simp at hk; omega
    rcases this with rfl | rfl <;>
    · simp [one, all, withTo, matTo, wrow, wrow.tabL, R.tab, up, nth, dayN, plcN, ways0, D2]
      grind
  | [(d, p), (d1, p1), (d2, p2)], [x, y, z], _, _ =>
    have e1 := hl 0 (by simp); have e2 := hl 1 (by simp); have e3 := hl 2 (by simp)
    simp [R.atD, R.atFrom, up, nth, dayN, plcN, ways0] at e1 e2 e3
    intro k hk
    have : k = 0 ∨ k = 1 ∨ k = 2 := by simp at hk; omega
    rcases this with rfl | rfl | rfl <;>
    · simp [one, all, withTo, matTo, wrow, wrow.tabL, R.tab, up, nth, dayN, plcN, ways0, D3]
      subst e1 e2 e3
      grind
  | [(d, p), (d1, p1), (d2, p2), (d3, p3)], [x, y, z, t], _, _ =>
    have e1 := hl 0 (by simp); have e2 := hl 1 (by simp); have e3 := hl 2 (by simp); have e4 := hl 3 (by simp)
    simp [R.atD, R.atFrom, up, nth, dayN, plcN, ways0] at e1 e2 e3 e4
    intro k hk
    have : k = 0 ∨ k = 1 ∨ k = 2 ∨ k = 3 := by simp at hk; omega
    rcases this with rfl | rfl | rfl | rfl <;>
    · simp [one, all, withTo, matTo, wrow, wrow.tabL, R.tab, up, nth, dayN, plcN, ways0, D4]
      subst e1 e2 e3 e4
      grind
theorem marc4 (a2 a3 a4 b2 b3 b4 c2 c3 c4 d2 d3 d4 p1 p2 p3 p4 : Int) :
    D 4 [[p1, a2, a3, a4], [p2, b2, b3, b4], [p3, c2, c3, c4], [p4, d2, d3, d4]] + a2 * D 4 [[1, p1, a3, a4], [1, p2, b3, b4], [1, p3, c3, c4], [1, p4, d3, d4]] + a3 * D 4 [[1, a2, p1, a4], [1, b2, p2, b4], [1, c2, p3, c4], [1, d2, p4, d4]] + a4 * D 4 [[1, a2, a3, p1], [1, b2, b3, p2], [1, c2, c3, p3], [1, d2, d3, p4]] = D 4 [[1, a2, a3, a4], [1, b2, b3, b4], [1, c2, c3, c4], [1, d2, d3, d4]] * p1 ∧
    D 4 [[p1, a2, a3, a4], [p2, b2, b3, b4], [p3, c2, c3, c4], [p4, d2, d3, d4]] + b2 * D 4 [[1, p1, a3, a4], [1, p2, b3, b4], [1, p3, c3, c4], [1, p4, d3, d4]] + b3 * D 4 [[1, a2, p1, a4], [1, b2, p2, b4], [1, c2, p3, c4], [1, d2, p4, d4]] + b4 * D 4 [[1, a2, a3, p1], [1, b2, b3, p2], [1, c2, c3, p3], [1, d2, d3, p4]] = D 4 [[1, a2, a3, a4], [1, b2, b3, b4], [1, c2, c3, c4], [1, d2, d3, d4]] * p2 ∧
    D 4 [[p1, a2, a3, a4], [p2, b2, b3, b4], [p3, c2, c3, c4], [p4, d2, d3, d4]] + c2 * D 4 [[1, p1, a3, a4], [1, p2, b3, b4], [1, p3, c3, c4], [1, p4, d3, d4]] + c3 * D 4 [[1, a2, p1, a4], [1, b2, p2, b4], [1, c2, p3, c4], [1, d2, p4, d4]] + c4 * D 4 [[1, a2, a3, p1], [1, b2, b3, p2], [1, c2, c3, p3], [1, d2, d3, p4]] = D 4 [[1, a2, a3, a4], [1, b2, b3, b4], [1, c2, c3, c4], [1, d2, d3, d4]] * p3 ∧
    D 4 [[p1, a2, a3, a4], [p2, b2, b3, b4], [p3, c2, c3, c4], [p4, d2, d3, d4]] + d2 * D 4 [[1, p1, a3, a4], [1, p2, b3, b4], [1, p3, c3, c4], [1, p4, d3, d4]] + d3 * D 4 [[1, a2, p1, a4], [1, b2, p2, b4], [1, c2, p3, c4], [1, d2, p4, d4]] + d4 * D 4 [[1, a2, a3, p1], [1, b2, b3, p2], [1, c2, c3, p3], [1, d2, d3, p4]] = D 4 [[1, a2, a3, a4], [1, b2, b3, b4], [1, c2, c3, c4], [1, d2, d3, d4]] * p4 := by
  simp only [D4]
  refine ⟨?_, ?_, ?_, ?_⟩ <;> grind
/-- What the determinants say of the places. -/
theorem marc {l : List (Int × Int)} (h : l.length ≤ 4) {q : List Int} (hq : q.length = l.length) (ho : ∀ k, k < l.length → one l k = all l * nth q k) : ∀ i, i < l.length → all l * R.atD q (dayN l i) = all l * plcN l i := by
  match l, q, h, hq with
  | [], _, _, _ => intro k hk; simp at hk
  | [(d, p)], [x], _, _ =>
    have e1 := ho 0 (by simp)
    intro k hk
    have : k = 0 := by simp at hk; omega
    subst this
    simp [R.atD, R.atFrom, one, all, withTo, matTo, wrow, wrow.tabL, R.tab, up, nth, dayN, plcN, ways0, D1] at e1 ⊢
    omega
  | [(d, p), (d1, p1)], [x, y], _, _ =>
    have e1 := ho 0 (by simp); have e2 := ho 1 (by simp)
    intro k hk
    have : k = 0 ∨ k = 1 := by simp at hk; omega
    rcases this with rfl | rfl <;>
    · simp [R.atD, R.atFrom, one, all, withTo, matTo, wrow, wrow.tabL, R.tab, up, nth, dayN, plcN, ways0, D2] at e1 e2 ⊢
      grind
  | [(d, p), (d1, p1), (d2, p2)], [x, y, z], _, _ =>
    have e1 := ho 0 (by simp); have e2 := ho 1 (by simp); have e3 := ho 2 (by simp)
    intro k hk
    have : k = 0 ∨ k = 1 ∨ k = 2 := by simp at hk; omega
    rcases this with rfl | rfl | rfl <;>
    · simp [R.atD, R.atFrom, one, all, withTo, matTo, wrow, wrow.tabL, R.tab, up, nth, dayN, plcN, ways0, D3] at e1 e2 e3 ⊢
      generalize R.ways d 1 = a2 at *
      grind
  | [(d, p), (d1, p1), (d2, p2), (d3, p3)], [x, y, z, t], _, _ =>
    have e1 := ho 0 (by simp); have e2 := ho 1 (by simp); have e3 := ho 2 (by simp); have e4 := ho 3 (by simp)
    intro k hk
    have : k = 0 ∨ k = 1 ∨ k = 2 ∨ k = 3 := by simp at hk; omega
    obtain ⟨i0, i1, i2, i3⟩ := marc4 (R.ways d 1) (R.ways d 2) (R.ways d 3) (R.ways d1 1) (R.ways d1 2) (R.ways d1 3) (R.ways d2 1) (R.ways d2 2) (R.ways d2 3) (R.ways d3 1) (R.ways d3 2) (R.ways d3 3) p p1 p2 p3
    simp [one, all, withTo, matTo, wrow, wrow.tabL, R.tab, up, nth, dayN, plcN, ways0] at e1 e2 e3 e4
    rw [e1, e2, e3, e4] at i0 i1 i2 i3
    rcases this with rfl | rfl | rfl | rfl <;>
    · simp [R.atD, R.atFrom, all, matTo, wrow, wrow.tabL, R.tab, up, nth, dayN, plcN, ways0]
      generalize D 4 [[1, R.ways d 1, R.ways d 2, R.ways d 3], [1, R.ways d1 1, R.ways d1 2, R.ways d1 3], [1, R.ways d2 1, R.ways d2 2, R.ways d2 3], [1, R.ways d3 1, R.ways d3 2, R.ways d3 3]] = DD at *
      clear e1 e2 e3 e4 ho h hq
      first
      | (rw [← i0]; clear i0 i1 i2 i3; grind)
      | (rw [← i1]; clear i0 i1 i2 i3; grind)
      | (rw [← i2]; clear i0 i1 i2 i3; grind)
      | (rw [← i3]; clear i0 i1 i2 i3; grind)
/-- The program's path through sightings is the reference's. -/
theorem outTo_some {l : List (Int × Int)} (j : Nat) : (∀ k, k < j → (one l k).tmod (all l) = 0) → outTo l j = some (R.tab (fun k => (one l k).tdiv (all l)) j) := by
  induction j with
  | zero => intro _; rfl
  | succ j ih =>
    intro h
    show (match outTo l j with | none => none | some out => if (one l j).tmod (all l) = 0 then some (out ++ [(one l j).tdiv (all l)]) else none) = _
    rw [ih (fun k hk => h k (by omega))]
    show (if (one l j).tmod (all l) = 0 then _ else _) = _
    rw [if_pos (h j (by omega))]
    rfl
theorem outTo_none {l : List (Int × Int)} (j k : Nat) (hk : k < j) (h : (one l k).tmod (all l) ≠ 0) : outTo l j = none := by
  induction j with
  | zero => omega
  | succ j ih =>
    show (match outTo l j with | none => none | some out => if (one l j).tmod (all l) = 0 then some (out ++ [(one l j).tdiv (all l)]) else none) = _
    by_cases e : k = j
    · subst e
      cases outTo l k with
      | none => rfl
      | some o => show (if (one l k).tmod (all l) = 0 then _ else _) = _; rw [if_neg h]
    · rw [ih (by omega)]
theorem scale4 (a2 a3 a4 b2 b3 b4 c2 c3 c4 d2 d3 d4 : Int) : 12 * D 4 [[1, a2, a3, a4], [1, b2, b3, b4], [1, c2, c3, c4], [1, d2, d3, d4]] = D 4 [[1, a2, 2 * a3, 6 * a4], [1, b2, 2 * b3, 6 * b4], [1, c2, 2 * c3, 6 * c4], [1, d2, 2 * d3, 6 * d4]] := by
  simp only [D4]; grind
theorem all_pos {l : List (Int × Int)} (h : R.Piece l) : 0 < all l := by
  have hA := h.all_pos
  have hf := h.fit
  have hl := h.len
  have hw : ∀ i, i < l.length → R.ways (dayN l i) 1 = dayN l i ∧ 2 * R.ways (dayN l i) 2 = dayN l i * (dayN l i - 1) ∧ 6 * R.ways (dayN l i) 3 = dayN l i * (dayN l i - 1) * (dayN l i - 2) := fun i hi => by
    have := hf i hi
    unfold R.FitS at this
    exact (ways4 this.1 this.2.1).2
  match l, hl with
  | [], _ => decide
  | [(d, p)], _ => simp [all, matTo, wrow, wrow.tabL, R.tab, up, ways0, D1]
  | [(d, p), (d1, p1)], _ =>
    have w1 := hw 0 (by simp); have w2 := hw 1 (by simp)
    simp [dayN] at w1 w2
    simp [all, matTo, wrow, wrow.tabL, R.tab, up, dayN, ways0, D2, R.allP, R.allTo, R.allIn] at hA ⊢
    omega
  | [(d, p), (d1, p1), (d2, p2)], _ =>
    have w1 := hw 0 (by simp); have w2 := hw 1 (by simp); have w3 := hw 2 (by simp)
    simp [dayN] at w1 w2 w3
    have e : 2 * all [(d, p), (d1, p1), (d2, p2)] = R.allP [(d, p), (d1, p1), (d2, p2)] := by
      simp [all, matTo, wrow, wrow.tabL, R.tab, up, dayN, ways0, D3, R.allP, R.allTo, R.allIn]
      rw [w1.1, w2.1, w3.1]
      grind
    omega
  | [(d, p), (d1, p1), (d2, p2), (d3, p3)], _ =>
    have w1 := hw 0 (by simp); have w2 := hw 1 (by simp); have w3 := hw 2 (by simp); have w4 := hw 3 (by simp)
    simp [dayN] at w1 w2 w3 w4
    have e : 12 * all [(d, p), (d1, p1), (d2, p2), (d3, p3)] = R.allP [(d, p), (d1, p1), (d2, p2), (d3, p3)] := by
      simp [all, matTo, wrow, wrow.tabL, R.tab, up, dayN, ways0, R.allP, R.allTo, R.allIn]
      rw [scale4, w1.1, w2.1, w3.1, w4.1, w1.2.1, w1.2.2, w2.2.1, w2.2.2, w3.2.1, w3.2.2, w4.2.1, w4.2.2, D4]
      clear w1 w2 w3 w4 hw hf hA h
      grind
    omega
theorem out_pass {l : List (Int × Int)} (h : R.Piece l) : out l = R.pass l := by
  have hA := all_pos h
  by_cases hm : ∀ k, k < l.length → (one l k).tmod (all l) = 0
  · have e := outTo_some l.length hm
    have hq : (R.tab (fun k => (one l k).tdiv (all l)) l.length).length = l.length := R.tab_length _ _
    have ho : ∀ k, k < l.length → one l k = all l * nth (R.tab (fun k => (one l k).tdiv (all l)) l.length) k := fun k hk => by
      rw [R.tab_nth _ _ _ hk]
      exact (Int.mul_tdiv_cancel_of_dvd (Int.dvd_of_tmod_eq_zero (hm k hk))).symm
    rw [show out l = _ from e]
    refine (h.pass_of_path hq fun i hi => ?_).symm
    exact Int.eq_of_mul_eq_mul_left (by omega) (marc h.len hq ho i hi)
  · have hm' : ∃ k, k < l.length ∧ (one l k).tmod (all l) ≠ 0 := by
      refine Classical.byContradiction fun hc => hm fun k hk => Classical.byContradiction fun h2 => hc ⟨k, hk, h2⟩
    obtain ⟨k, hk, hn⟩ := hm'
    rw [show out l = _ from outTo_none l.length k hk hn]
    cases hp : R.pass l with
    | none => rfl
    | some q =>
      obtain ⟨h1, h2, -⟩ := h.pass_some hp
      have := cram h.len h1 h2 k hk
      rw [this] at hn
      exact absurd (Int.mul_tmod_right _ _) hn
end C
end Go.Proofs.Ytkcgkfhfogdihaa
