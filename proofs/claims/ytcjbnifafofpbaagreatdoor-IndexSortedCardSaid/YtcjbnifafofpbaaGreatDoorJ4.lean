/- One text of Last, LastG, StepA, LastH, LastK. -/
import Derived.Test.YtcjbnifafofpbaaGreatDoorJ3
import Derived.OrdersHeld
/- A region that draws its order, and whose last operation waits for all others: the others in whatever order, then that one. -/
namespace Go.Proofs.YtcjbnifafofpbaaGreatDoor
open Go
section
variable {P : Program} {md : Region.Mode} {Q : Exit → Act → World → Prop}
/-- The last operation's post, behind the others. -/
def lastQ (P : Program) (o : Oper) (Q : Exit → Act → World → Prop) : Exit → Act → World → Prop
  | .normal, a, w => o.wp P a w (fun a w => Q .normal a w) Q
  | e, a, w => Q e a w
theorem wp_lastQ {o x : Oper} {a : Act} {w : World} {K K' : Act → World → Prop} (h : ∀ a w, K a w → K' a w) (hh : x.wp P a w K (lastQ P o Q)) : x.wp P a w K' Q := by
  unfold Oper.wp at *
  generalize (execOp a.eval x).run P w = r at *
  cases r with
  | ok n w' =>
    cases n with
    | value v => exact h _ _ hh
    | skip => exact h _ _ hh
    | defer d => exact h _ _ hh
    | enter f args => exact Calls.mono hh (fun e w'' he => by
        cases e with
        | returned v => exact h _ _ he
        | panicked c => exact he
        | outgrown => exact he)
    | row r args => exact Rows.mono hh (fun _ _ he => h _ _ he)
    | _ => exact hh
  | halt x w' => cases x <;> exact hh
/-- x waits for i. -/
def coversB (md : Region.Mode) (x : Oper) (i : Nat) : Bool := x.after.any fun e => Region.binds md e && e.on == i
/-- x, at the place b, waits for all below n0, and for the one ahead of it if that is not below n0. -/
def covB (md : Region.Mode) (x : Oper) (b n0 : Nat) : Bool := (List.range (min n0 b)).all (fun i => coversB md x i) && (decide (b ≤ n0) || coversB md x (b - 1))
/-- All wait for those ahead of them only; from n0 on each waits for all below n0 and for the one ahead of it; no guard. -/
def lastB (md : Region.Mode) (l : List Oper) (o : Oper) (n0 : Nat) : Bool :=
  (l ++ [o]).all (fun x => x.guard.isNone) && (List.range l.length).all (fun j => ((l[j]?).map fun x => x.after.all fun e => !Region.binds md e || decide (e.on < j)).getD true)
    && (List.range l.length).all (fun j => ((l[j]?).map fun x => decide (j < n0) || covB md x j n0).getD true) && covB md o l.length n0 && o.after.all (fun e => !Region.binds md e || decide (e.on < l.length))
structure LastP (md : Region.Mode) (l : List Oper) (o : Oper) (n0 : Nat) : Prop where
  free : ∀ x, x ∈ l ++ [o] → x.guard = none
  low : ∀ j x, l[j]? = some x → ∀ e ∈ x.after, Region.binds md e = true → e.on < j
  chain : ∀ j x, l[j]? = some x → n0 ≤ j → (∀ i, i < n0 → ∃ e ∈ x.after, Region.binds md e = true ∧ e.on = i) ∧ (n0 < j → ∃ e ∈ x.after, Region.binds md e = true ∧ e.on = j - 1)
  last : (∀ i, i < n0 → i < l.length → ∃ e ∈ o.after, Region.binds md e = true ∧ e.on = i) ∧ (n0 < l.length → ∃ e ∈ o.after, Region.binds md e = true ∧ e.on = l.length - 1)
  lowO : ∀ e ∈ o.after, Region.binds md e = true → e.on < l.length
theorem coversB_spec {x : Oper} {i : Nat} (h : coversB md x i = true) : ∃ e ∈ x.after, Region.binds md e = true ∧ e.on = i := by
  unfold coversB at h
  obtain ⟨e, he, hh⟩ := Array.any_eq_true'.1 h
  simp only [Bool.and_eq_true, beq_iff_eq] at hh
  exact ⟨e, he, hh.1, hh.2⟩
theorem covB_spec {x : Oper} {b n0 : Nat} (h : covB md x b n0 = true) : (∀ i, i < n0 → i < b → ∃ e ∈ x.after, Region.binds md e = true ∧ e.on = i) ∧ (n0 < b → ∃ e ∈ x.after, Region.binds md e = true ∧ e.on = b - 1) := by
  unfold covB at h
  simp only [Bool.and_eq_true, Bool.or_eq_true, decide_eq_true_eq] at h
  obtain ⟨h1, h2⟩ := h
  refine ⟨fun i hi hb => coversB_spec (List.all_eq_true.1 h1 i (List.mem_range.2 (by omega))), fun hb => ?_⟩
  rcases h2 with h2 | h2
  · omega
  · exact coversB_spec h2
theorem getD_in' {listed : Array Bool} {i : Nat} (h : listed.getD i false = true) : i < listed.size := by
  rcases Nat.lt_or_ge i listed.size with h1 | h1
  · exact h1
  · have h2 : ¬ i < listed.size := by omega
    simp [h2] at h
theorem lastB_spec {l : List Oper} {o : Oper} {n0 : Nat} (h : lastB md l o n0 = true) : LastP md l o n0 := by
  unfold lastB at h
  simp only [Bool.and_eq_true] at h
  obtain ⟨⟨⟨⟨h1, h2⟩, h3⟩, h5⟩, h4⟩ := h
  refine ⟨fun x hx => ?_, fun j x hj e he hb => ?_, fun j x hj hn => ?_, covB_spec h5, fun e he hb => ?_⟩
  · have := List.all_eq_true.1 h1 x hx
    exact Option.isNone_iff_eq_none.1 this
  · have hjl : j < l.length := (List.getElem?_eq_some_iff.1 hj).1
    have := List.all_eq_true.1 h2 j (List.mem_range.2 hjl)
    rw [hj] at this
    simp only [Option.map_some, Option.getD_some, Array.all_eq_true_iff_forall_mem, Bool.or_eq_true, Bool.not_eq_true', decide_eq_true_eq] at this
    rcases this e he with h | h
    · rw [hb] at h; cases h
    · exact h
  · have hjl : j < l.length := (List.getElem?_eq_some_iff.1 hj).1
    have := List.all_eq_true.1 h3 j (List.mem_range.2 hjl)
    rw [hj] at this
    simp only [Option.map_some, Option.getD_some, Bool.or_eq_true, decide_eq_true_eq] at this
    rcases this with h | h
    · omega
    · obtain ⟨g1, g2⟩ := covB_spec h
      exact ⟨fun i hi => g1 i hi (by omega), g2⟩
  · simp only [Array.all_eq_true_iff_forall_mem, Bool.or_eq_true, Bool.not_eq_true', decide_eq_true_eq] at h4
    rcases h4 e he with h | h
    · rw [hb] at h; cases h
    · exact h
/-- What is listed, has those listed for which it waits. -/
def Closed (md : Region.Mode) (l : List Oper) (listed : Array Bool) : Prop := ∀ j x, l[j]? = some x → listed.getD j false = true → ∀ e ∈ x.after, Region.binds md e = true → listed.getD e.on false = true
theorem Closed.set {l : List Oper} {listed : Array Bool} (h : Closed md l listed) {i : Nat} (hi : i ∈ Region.ready md l.toArray listed) : Closed md l (listed.setIfInBounds i true) := by
  intro j x hx hj e he hb
  have key : listed.getD e.on false = true := by
    by_cases e1 : j = i
    · subst e1
      rw [mem_ready] at hi
      obtain ⟨-, y, hy, hh⟩ := hi
      have : y = x := by
        have h1 : l.toArray[j]? = some x := by simpa using hx
        rw [h1] at hy; exact (Option.some.inj hy).symm
      subst this
      have := hh e he hb
      first | exact this | (simpa using this)
    · rw [getD_set_ne false (by omega)] at hj
      exact h j x hx hj e he hb
  by_cases e2 : e.on = i
  · rw [e2] at key ⊢
    have hin := getD_in' key
    simp [hin]
  · rw [getD_set_ne false (by omega)]; exact key
theorem wanted_free {o : Oper} (h : o.guard = none) (y : Nat → Option Bool) : Region.wanted o y = true := by simp [Region.wanted, h]
theorem ready_all {l : List Oper} {o : Oper} {n0 : Nat} (hp : LastP md l o n0) {listed : Array Bool} (hs : listed.size = l.length) (hr : Region.ready md l.toArray listed = []) : ∀ i, i < l.length → listed.getD i false = true := by
  intro i
  induction i using Nat.strongRecOn with
  | ind i ih =>
    intro hi
    cases hl : listed.getD i false with
    | true => rfl
    | false =>
      exfalso
      have hm : i ∈ Region.ready md l.toArray listed := by
        rw [mem_ready]
        have ho : l.toArray[i]? = some l[i] := by simp [hi]
        refine ⟨?_, l[i], ho, fun e he hb => ?_⟩
        · have : i < listed.size := by omega
          simp [this] at hl ⊢; exact hl
        · have := hp.low i l[i] (by simp [hi]) e he hb
          exact ih e.on this (by omega)
      rw [hr] at hm; cases hm
theorem get_low {l : List Oper} {o : Oper} {i : Nat} (hi : i < l.length) : (l ++ [o]).toArray[i]? = l.toArray[i]? := by simp [List.getElem?_append_left hi]
theorem get_last (l : List Oper) (o : Oper) : (l ++ [o]).toArray[l.length]? = some o := by simp
theorem getD_push_lt {listed : Array Bool} {b d : Bool} {i : Nat} (h : i < listed.size) : (listed.push b).getD i d = listed.getD i d := by
  simp [Array.getElem?_push, h, Nat.ne_of_lt h]
theorem push_set {listed : Array Bool} {b : Bool} {i : Nat} (h : i < listed.size) : (listed.push b).setIfInBounds i true = (listed.setIfInBounds i true).push b := by
  apply Array.ext_getElem?
  intro k
  simp only [Array.getElem?_setIfInBounds, Array.getElem?_push, Array.size_setIfInBounds, Array.size_push]
  by_cases h1 : i = k
  · subst h1; simp [h, Nat.ne_of_lt h, Nat.lt_succ_of_lt h]
  · simp [h1]
theorem ready_low {l : List Oper} {o : Oper} {n0 : Nat} (hp : LastP md l o n0) {listed : Array Bool} (hs : listed.size = l.length) {i : Nat} (hi : i < l.length) : i ∈ Region.ready md (l ++ [o]).toArray (listed.push false) ↔ i ∈ Region.ready md l.toArray listed := by
  rw [mem_ready, mem_ready, get_low hi, getD_push_lt (by omega)]
  constructor
  · rintro ⟨h0, x, hx, h⟩
    refine ⟨h0, x, hx, fun e he hb => ?_⟩
    have := hp.low i x (by simpa using hx) e he hb
    rw [← h e he hb, getD_push_lt (by omega)]
  · rintro ⟨h0, x, hx, h⟩
    refine ⟨h0, x, hx, fun e he hb => ?_⟩
    have := hp.low i x (by simpa using hx) e he hb
    rw [← h e he hb, getD_push_lt (by omega)]
theorem ready_last {l : List Oper} {o : Oper} {n0 : Nat} (hp : LastP md l o n0) {listed : Array Bool} (hs : listed.size = l.length) : (∀ i, i < l.length → listed.getD i false = true) → l.length ∈ Region.ready md (l ++ [o]).toArray (listed.push false) := by
  intro h
  rw [mem_ready, get_last]
  refine ⟨by simp [← hs], o, rfl, fun e he hb => ?_⟩
  have := hp.lowO e he hb
  rw [getD_push_lt (by omega)]; exact h _ this
theorem ready_all2 {l : List Oper} {o : Oper} {n0 : Nat} (hp : LastP md l o n0) {listed : Array Bool} (hs : listed.size = l.length) (hc : Closed md l listed) (hr : l.length ∈ Region.ready md (l ++ [o]).toArray (listed.push false)) : ∀ i, i < l.length → listed.getD i false = true := by
  rw [mem_ready, get_last] at hr
  obtain ⟨-, x, hx, h⟩ := hr
  cases hx
  have low : ∀ i, i < n0 → i < l.length → listed.getD i false = true := fun i hi hl => by
    obtain ⟨e, he, hb, rfl⟩ := hp.last.1 i hi hl
    rw [← h e he hb, getD_push_lt (by omega)]
  have top : ∀ d i, i + d + 1 = l.length → n0 ≤ i → listed.getD i false = true := by
    intro d
    induction d with
    | zero =>
      intro i hi hn
      obtain ⟨e, he, hb, h1⟩ := hp.last.2 (by omega)
      have h2 : e.on = i := by omega
      rw [← h2, ← h e he hb, getD_push_lt (by omega)]
    | succ d ih =>
      intro i hi hn
      have h1 := ih (i + 1) (by omega) (by omega)
      obtain ⟨e, he, hb, h2⟩ := (hp.chain (i + 1) l[i + 1] (by simp) (by omega)).2 (by omega)
      have h3 := hc (i + 1) l[i + 1] (by simp) h1 e he hb
      rw [h2] at h3
      simpa using h3
  intro i hi
  rcases Nat.lt_or_ge i n0 with h1 | h1
  · exact low i h1 hi
  · exact top (l.length - i - 1) i (by omega) h1
theorem ready_done {l : List Oper} {o : Oper} {listed : Array Bool} (hs : listed.size = l.length) (h : ∀ i, i < l.length → listed.getD i false = true) : Region.ready md (l ++ [o]).toArray ((listed.push false).setIfInBounds l.length true) = [] := by
  rw [List.eq_nil_iff_forall_not_mem]
  intro j hj
  rw [mem_ready] at hj
  obtain ⟨h0, x, hx, -⟩ := hj
  have hjl : j < l.length + 1 := by
    have := (Array.getElem?_eq_some_iff.1 hx).1
    simpa using this
  by_cases e : j = l.length
  · subst e
    simp [← hs] at h0
  · rw [getD_set_ne true (by omega), getD_push_lt (by omega)] at h0
    have := h j (by omega)
    have hjs : j < listed.size := by omega
    simp [hjs] at h0 this
    rw [h0] at this; cases this
theorem wpAny_nil {ops : Array Oper} {fuel : Nat} {listed : Array Bool} {a : Act} {w : World} (hr : Region.ready md ops listed = []) (h : Q .normal a w) : wpAny P md ops Q fuel listed a w := by
  cases fuel with
  | zero => exact ⟨hr, h⟩
  | succ f => exact ⟨fun _ => h, fun i hi => by rw [hr] at hi; cases hi⟩
theorem wpAny_last {l : List Oper} {o : Oper} {n0 : Nat} (hp : LastP md l o n0) : ∀ (fuel : Nat) (listed : Array Bool) (a : Act) (w : World), listed.size = l.length → Closed md l listed →
    wpAny P md l.toArray (lastQ P o Q) fuel listed a w → wpAny P md (l ++ [o]).toArray Q (fuel + 1) (listed.push false) a w := by
  intro fuel
  have hfin : ∀ (f : Nat) (listed : Array Bool) (a : Act) (w : World), listed.size = l.length → (∀ i, i < l.length → listed.getD i false = true) → lastQ P o Q .normal a w → wpAny P md (l ++ [o]).toArray Q (f + 1) (listed.push false) a w := by
    intro f listed a w hs hall hq
    refine ⟨fun hr => ?_, fun i hi => ?_⟩
    · have := (ready_last hp hs) hall
      rw [hr] at this; cases this
    · have hil : i = l.length := by
        rcases Nat.lt_or_ge i l.length with h | h
        · exfalso
          rw [mem_ready] at hi
          have h0 := hi.1
          rw [getD_push_lt (by omega)] at h0
          have h1 := hall i h
          have his : i < listed.size := by omega
          simp [his] at h0 h1
          rw [h0] at h1; cases h1
        · rw [mem_ready] at hi
          obtain ⟨-, x, hx, -⟩ := hi
          have := (Array.getElem?_eq_some_iff.1 hx).1
          simp at this; omega
      subst hil
      unfold wpOp
      rw [get_last]
      have hw := wanted_free (hp.free o (by simp)) (yielded (l ++ [o]).toArray a.tmps)
      simp only [hw, if_true]
      exact .inl (Oper.wp_mono (fun a w h => wpAny_nil (ready_done hs hall) h) hq)
  induction fuel with
  | zero =>
    intro listed a w hs hcl h
    exact hfin 0 listed a w hs (ready_all hp hs h.1) h.2
  | succ f ih =>
    intro listed a w hs hcl h
    by_cases hr : Region.ready md l.toArray listed = []
    · exact hfin (f + 1) listed a w hs (ready_all hp hs hr) (h.1 hr)
    · refine ⟨fun hn => ?_, fun i hi => ?_⟩
      · exfalso
        obtain ⟨i, hi⟩ := List.exists_mem_of_ne_nil _ hr
        have hil : i < l.length := by
          rw [mem_ready] at hi
          obtain ⟨-, x, hx, -⟩ := hi
          have := (Array.getElem?_eq_some_iff.1 hx).1
          simpa using this
        have := (ready_low hp hs hil).2 hi
        rw [hn] at this; cases this
      · have hil : i < l.length := by
          rcases Nat.lt_or_ge i l.length with h1 | h1
          · exact h1
          · exfalso
            have hil : i = l.length := by
              rw [mem_ready] at hi
              obtain ⟨-, x, hx, -⟩ := hi
              have := (Array.getElem?_eq_some_iff.1 hx).1
              simp at this; omega
            subst hil
            have hall := ready_all2 hp hs hcl hi
            apply hr
            rw [List.eq_nil_iff_forall_not_mem]
            intro j hj
            rw [mem_ready] at hj
            obtain ⟨h0, x, hx, -⟩ := hj
            have hjl := (Array.getElem?_eq_some_iff.1 hx).1
            simp at hjl
            have h1 := hall j hjl
            have hjs : j < listed.size := by omega
            simp [hjs] at h0 h1
            rw [h0] at h1; cases h1
        have hop := h.2 i ((ready_low hp hs hil).1 hi)
        unfold wpOp at hop ⊢
        rw [get_low hil]
        have ho : l.toArray[i]? = some l[i] := by simp [hil]
        rw [ho] at hop ⊢
        have hg := hp.free l[i] (by simp)
        simp only [wanted_free hg, if_true] at hop ⊢
        have conv : ∀ a w, wpAny P md l.toArray (lastQ P o Q) f (listed.setIfInBounds i true) a w → wpAny P md (l ++ [o]).toArray Q (f + 1) ((listed.push false).setIfInBounds i true) a w := fun a w hk => by
          rw [push_set (by omega)]
          exact ih _ a w (by simp [hs]) (hcl.set ((ready_low hp hs hil).1 hi)) hk
        rcases hop with hop | ⟨h1, h2⟩
        · exact .inl (wp_lastQ conv hop)
        · exact .inr ⟨h1, h2⟩
theorem wp_region_last {id : Nat} {a : Act} {w : World} {l : List Oper} {o : Oper} {n0 : Nat} (hm : P.follows .mixedOrders = true) (hB : lastB .any l o n0 = true)
    (h : wpAny P .any l.toArray (lastQ P o Q) l.length (Array.replicate l.length false) a w.drew) : (Code.region id (l ++ [o]).toArray true).wp P Q a w := by
  refine wp_region_any hm ?_
  have := wpAny_last (lastB_spec hB) l.length (Array.replicate l.length false) a w.drew (by simp) (fun j x hx hj => by rw [getD_replicate_false] at hj; cases hj) h
  have e : (Array.replicate l.length false).push false = Array.replicate (l ++ [o]).toArray.size false := by
    rw [← Array.replicate_succ]; simp
  rw [e] at this
  simpa using this
theorem wp_toLast {o x : Oper} {a : Act} {w : World} {K K' : Act → World → Prop} (h : ∀ a w, K a w → K' a w) (hh : x.wp P a w K Q) : x.wp P a w K' (lastQ P o Q) := by
  unfold Oper.wp at *
  generalize (execOp a.eval x).run P w = r at *
  cases r with
  | ok n w' =>
    cases n with
    | value v => exact h _ _ hh
    | skip => exact h _ _ hh
    | defer d => exact h _ _ hh
    | enter f args => exact Calls.mono hh (fun e w'' he => by
        cases e with
        | returned v => exact h _ _ he
        | panicked c => exact he
        | outgrown => exact he)
    | row r args => exact Rows.mono hh (fun _ _ he => h _ _ he)
    | _ => exact hh
  | halt x w' => cases x <;> exact hh
/-- Operations that yield the same in every world that meets S, and leave it be. -/
def headH (P : Program) (S : World → Prop) (L : Act → Prop) : List Oper → Act → Prop
  | [], a => L a
  | o :: r, a => ∃ v, (∀ w, S w → (execOp a.eval o).run P w = .ok (.value v) w) ∧ headH P S L r (a.put o.dst v)
/-- Operations in a row, S behind each but the last. -/
def tailH (P : Program) (S : World → Prop) (Q : Exit → Act → World → Prop) : List Oper → Act → World → Prop
  | [], a, w => Q .normal a w
  | [o], a, w => ∀ K : Act → World → Prop, (∀ a' w', Q .normal a' w' → K a' w') → o.wp P a w K Q
  | o :: o2 :: r, a, w => ∀ K : Act → World → Prop, (∀ a' w', S w' → tailH P S Q (o2 :: r) a' w' → K a' w') → o.wp P a w K Q
theorem wpAnyH_seq {ops : Array Oper} {S : World → Prop} {o : Oper} : ∀ (l : List Oper) (k : Nat) (listed : Array Bool) (a : Act) (w : World), (∀ j, l[j]? = ops[k + j]?) → (∀ x ∈ l, x.guard = none) →
    Region.seqB md ops l.length k listed = true → tailH P S Q (l ++ [o]) a w → wpAnyH P md ops (lastQ P o Q) S l.length listed a w
  | [], _, _, a, w, _, _, hB, h => ⟨by simpa [Region.seqB] using hB, h _ (fun a w h => h)⟩
  | x :: l, k, listed, a, w, hl, hg, hB, h => by
    have h0 : ops[k]? = some x := by simpa using (hl 0).symm
    simp only [List.length_cons, Region.seqB, Bool.and_eq_true, decide_eq_true_eq] at hB
    refine ⟨fun h1 => (by rw [hB.1] at h1; cases h1), fun i hi => ?_⟩
    rw [hB.1] at hi
    have hik : i = k := by simpa using hi
    subst hik
    have hh : x.wp P a w (fun a' w' => S w' ∧ tailH P S Q (l ++ [o]) a' w') Q := by
      cases l with
      | nil => exact h _ (fun a w hS h => ⟨hS, h⟩)
      | cons y r => exact h _ (fun a w hS h => ⟨hS, h⟩)
    unfold wpOp
    rw [h0]
    simp only [wanted_free (hg x (by simp)), if_true]
    exact .inl (wp_toLast (fun a' w' hk => ⟨hk.1, wpAnyH_seq l (i + 1) _ a' w' (fun j => by have := hl (j + 1); simpa [Nat.add_assoc, Nat.add_comm 1 j] using this) (fun y hy => hg y (by simp [hy])) hB.2 hk.2⟩) hh)
theorem wpAnyH_lex {ops : Array Oper} {S : World → Prop} {g n : Nat} {w : World} (hS : S w) (hsel : Region.noSelect ops = true) (hQ : ∀ c (a : Act) d v w, Q (.panic c) (a.put d v) w → Q (.panic c) a w) {L : Act → Prop}
    (hL : ∀ listed a, Region.seqB md ops g n listed = true → L a → wpAnyH P md ops Q S g listed a w) :
    ∀ (l : List Oper) (k : Nat) (listed : Array Bool) (a : Act), (∀ j, j < l.length → l[j]? = ops[k + j]?) → k + l.length = n → (∀ x ∈ l, x.guard = none) →
    Region.lexHead md ops g l.length k listed = true → headH P S L l a → wpAnyH P md ops Q S (l.length + g) listed a w
  | [], k, listed, a, _, hk, _, hB, h => by
    have : k = n := by simpa using hk
    subst this
    rw [List.length_nil, Nat.zero_add]
    exact hL listed a (by simpa [Region.lexHead] using hB) h
  | o :: l, k, listed, a, hl, hk, hg, hB, h => by
    have h0 : ops[k]? = some o := by simpa using (hl 0 (by simp)).symm
    simp only [List.length_cons, Region.lexHead, Bool.and_eq_true] at hB
    obtain ⟨⟨hr, hf⟩, hB'⟩ := hB
    have hr' : k ∈ Region.ready md ops listed := by simpa using hr
    obtain ⟨v, hy, hK⟩ := h
    have ih := wpAnyH_lex hS hsel hQ hL l (k + 1) (listed.setIfInBounds k true) (a.put o.dst v) (fun j hj => by have := hl (j + 1) (by simp; omega); simpa [Nat.add_assoc, Nat.add_comm 1 j] using this)
      (by simp only [List.length_cons] at hk; omega) (fun y hy => hg y (by simp [hy])) hB' hK
    rw [List.length_cons, show l.length + 1 + g = (l.length + g) + 1 by omega]
    exact wpAnyH_first h0 (Region.noSelect_spec hsel) (fun c a w h => hQ c a _ _ w h) (l.length + g) listed a w (Region.free_spec h0 hf) hr' (.inl ⟨wanted_free (hg o (by simp)) _, hy⟩) hS ih
/-- n operations that only read; m - n that keep S, in a row; a last one. -/
def fieldB (L : List Oper) (n m n0 : Nat) : Bool :=
  match L.drop m with
  | [o] => lastB .any (L.take m) o n0 && Region.noSelect (L.take m).toArray && decide (n ≤ m) && decide (m < L.length) && Region.lexHead .any (L.take m).toArray (m - n) n 0 (Array.replicate m false)
  | _ => false
theorem wp_region_field {id : Nat} {a : Act} {w : World} {L : List Oper} (n m n0 : Nat) (S : World → Prop) (hm : P.follows .mixedOrders = true) (hB : fieldB L n m n0 = true)
    (hS : S w.drew) (h : headH P S (fun a' => tailH P S (NoPanic Q) (L.drop n) a' w.drew) (L.take n) a) : (Code.region id L.toArray true).wp P Q a w := by
  refine wp_region_noPanic ?_
  have hQ : ∀ c (a : Act) d v w, NoPanic Q (.panic c) (a.put d v) w → NoPanic Q (.panic c) a w := fun _ _ _ _ _ h => h
  generalize NoPanic Q = Q at *
  unfold fieldB at hB
  split at hB
  · rename_i o ho
    simp only [Bool.and_eq_true, decide_eq_true_eq] at hB
    obtain ⟨⟨⟨⟨h1, h2⟩, h3⟩, h4⟩, h5⟩ := hB
    have hLL : L = L.take m ++ [o] := by rw [← ho, List.take_append_drop]
    have hlen : (L.take m).length = m := by rw [List.length_take]; omega
    have hp := lastB_spec h1
    have hgo : L.drop n = (L.take m).drop n ++ [o] := by
      conv => lhs; rw [hLL]
      rw [List.drop_append_of_le_length (by omega)]
    have htn : L.take n = (L.take m).take n := by rw [List.take_take, Nat.min_eq_left h3]
    have hfree : ∀ x ∈ L.take m, x.guard = none := fun x hx => hp.free x (by simp [hx])
    rw [hgo, htn] at h
    rw [hLL]
    refine wp_region_last hm h1 (wpAny_of_held (S := S) _ _ _ _ ?_)
    have hd : ((L.take m).drop n).length = m - n := by rw [List.length_drop, hlen]
    have ht : ((L.take m).take n).length = n := by rw [List.length_take, hlen]; omega
    have := wpAnyH_lex (md := .any) (ops := (L.take m).toArray) (g := m - n) (n := n) (w := w.drew) (Q := lastQ P o Q) hS h2 (fun c a d v w h => hQ c a d v w h)
      (fun listed a' hs hL => by
        have := wpAnyH_seq (P := P) (md := .any) (ops := (L.take m).toArray) (S := S) (Q := Q) (o := o) ((L.take m).drop n) n listed a' w.drew (fun j => by simp [List.getElem?_drop]) (fun x hx => hfree x (List.mem_of_mem_drop hx)) (by rw [hd]; exact hs) hL
        rwa [hd] at this)
      ((L.take m).take n) 0 (Array.replicate m false) a (fun j hj => by rw [ht] at hj; simp [List.getElem?_take, hj]) (by rw [ht]; omega) (fun x hx => hfree x (List.mem_of_mem_take hx)) (by rw [ht]; exact h5) h
    rw [ht, show n + (m - n) = m by omega] at this
    rw [hlen]; exact this
  · cases hB
theorem headH_nil {S : World → Prop} {L : Act → Prop} {a : Act} (h : L a) : headH P S L [] a := h
theorem tailH_step {S : World → Prop} {o o2 : Oper} {r : List Oper} {a : Act} {w : World} (h : ∀ K : Act → World → Prop, (∀ a' w', S w' → tailH P S Q (o2 :: r) a' w' → K a' w') → o.wp P a w K Q) : tailH P S Q (o :: o2 :: r) a w := h
theorem tailH_last {S : World → Prop} {o : Oper} {a : Act} {w : World} (h : ∀ K : Act → World → Prop, (∀ a' w', Q .normal a' w' → K a' w') → o.wp P a w K Q) : tailH P S Q [o] a w := h
theorem headH_step {S : World → Prop} {L : Act → Prop} {o : Oper} {r : List Oper} {a : Act} (v : Value) (h : ∀ w, S w → (execOp a.eval o).run P w = .ok (.value v) w) (hr : headH P S L r (a.put o.dst v)) : headH P S L (o :: r) a := ⟨v, h, hr⟩
end
end Go.Proofs.YtcjbnifafofpbaaGreatDoor
/- A region that draws its order and only adds to the world: each operation gives a value that is right, and stays right as the world grows. -/
namespace Go.Proofs.YtcjbnifafofpbaaGreatDoor
open Go Go.RowKit
section
variable {P : Program} {Q : Exit → Act → World → Prop}
/-- One more has come up. -/
def updB (B : Nat → Bool) (i : Nat) : Nat → Bool := fun j => if j = i then true else B j
theorem wpAny_inv {ops : Array Oper} {md : Region.Mode} (I : (Nat → Bool) → Act → World → Prop) (hg : ∀ (i : Nat) (o : Oper), ops[i]? = some o → o.guard = none)
    (hstep : ∀ (i : Nat) (o : Oper) (B : Nat → Bool) (a : Act) (w : World), ops[i]? = some o → B i = false → (∀ e ∈ o.after, Region.binds md e = true → B e.on = true) → I B a w → o.wp P a w (fun a' w' => I (updB B i) a' w') Q)
    (hend : ∀ listed a w, listed.size = ops.size → Region.ready md ops listed = [] → I (fun j => listed.getD j false) a w → Q .normal a w) :
    ∀ (fuel : Nat) (listed : Array Bool) (a : Act) (w : World), listed.size = ops.size → listed.toList.countP (fun b => !b) ≤ fuel → I (fun j => listed.getD j false) a w → wpAny P md ops Q fuel listed a w := by
  intro fuel
  induction fuel with
  | zero =>
    intro listed a w hs hc hI
    have hr : Region.ready md ops listed = [] := by
      rw [List.eq_nil_iff_forall_not_mem]
      intro j hj
      obtain ⟨h0, x, hx, -⟩ := mem_ready.1 hj
      have hjl := (Array.getElem?_eq_some_iff.1 hx).1
      have hjs : j < listed.size := by omega
      have h1 : listed[j] = false := by simpa [hjs] using h0
      have : 0 < listed.toList.countP (fun b => !b) := List.countP_pos_iff.2 ⟨false, by rw [← h1]; simp, rfl⟩
      omega
    exact ⟨hr, hend listed a w hs hr hI⟩
  | succ f ih =>
    intro listed a w hs hc hI
    refine ⟨fun hr => hend listed a w hs hr hI, fun i hi => ?_⟩
    obtain ⟨h0, o, ho, hdep⟩ := mem_ready.1 hi
    have hil := (Array.getElem?_eq_some_iff.1 ho).1
    have his : i < listed.size := by omega
    have h1 : listed[i] = false := by simpa [his] using h0
    have hB : listed.getD i false = false := by simpa [his] using h1
    unfold wpOp
    rw [ho]
    simp only [wanted_free (hg i o ho), if_true]
    refine .inl (Oper.wp_mono (fun a' w' hk => ?_) (hstep i o (fun j => listed.getD j false) a w ho hB hdep hI))
    have e : updB (fun j => listed.getD j false) i = fun j => (listed.setIfInBounds i true).getD j false := by
      funext j
      unfold updB
      by_cases hj : j = i
      · subst hj; simp [his]
      · rw [if_neg hj]
        have hj' : ¬ i = j := fun h => hj h.symm
        simp [hj']
    rw [e] at hk
    refine ih _ a' w' (by simp [hs]) ?_ hk
    rw [Array.toList_setIfInBounds, List.countP_set (by simpa using his)]
    simp only [Bool.not_true, Bool.false_eq_true, if_false]
    have h2 : listed.toList[i]'(by simpa using his) = false := by simpa using h1
    rw [h2]
    have : 0 < listed.toList.countP (fun b => !b) := List.countP_pos_iff.2 ⟨false, by rw [← h1]; simp, rfl⟩
    simp only [Bool.not_false, if_true]
    omega
/-- The same but for some slots. -/
structure Agr (sl : List Nat) (a0 a : Act) : Prop where
  defers : a.defers = a0.defers
  size : a.tmps.size = a0.tmps.size
  tmps : ∀ k, k ∉ sl → a.tmps[k]? = a0.tmps[k]?
theorem Agr.refl (sl : List Nat) (a : Act) : Agr sl a a := ⟨rfl, rfl, fun _ _ => rfl⟩
theorem Agr.put {sl : List Nat} {a0 a : Act} (h : Agr sl a0 a) {k : Nat} (hk : k ∈ sl) (v : Value) : Agr sl a0 (a.put (some k) v) := by
  refine ⟨h.defers, by simp [Act.put, h.size], fun j hj => ?_⟩
  have hne : k ≠ j := fun e => hj (e ▸ hk)
  simp only [Act.put, Array.getElem?_setIfInBounds, hne, if_false]
  exact h.tmps j hj
theorem Agr.eval {sl : List Nat} {a0 a : Act} (h : Agr sl a0 a) {k : Nat} (hk : k ∉ sl) : a.eval (.tmp k) = a0.eval (.tmp k) := by
  show a.tmps.getD k undef = a0.tmps.getD k undef
  rw [Array.getD_eq_getD_getElem?, Array.getD_eq_getD_getElem?, h.tmps k hk]
theorem eval_put_ne (a : Act) {k j : Nat} (v : Value) (h : j ≠ k) : (a.put (some k) v).eval (.tmp j) = a.eval (.tmp j) := by
  show (a.tmps.setIfInBounds k v).getD j undef = a.tmps.getD j undef
  have h' : ¬ k = j := fun e => h e.symm
  rw [Array.getD_eq_getD_getElem?, Array.getD_eq_getD_getElem?, Array.getElem?_setIfInBounds, if_neg h']
theorem eval_put_same (a : Act) {k : Nat} (v : Value) (h : k < a.tmps.size) : (a.put (some k) v).eval (.tmp k) = v := by
  show (a.tmps.setIfInBounds k v).getD k undef = v
  rw [Array.getD_eq_getD_getElem?, Array.getElem?_setIfInBounds, if_pos rfl, if_pos h]; rfl
/-- The frame, some slots filled. -/
def putAll (a : Act) : List Nat → List Value → Act
  | k :: ks, v :: vs => putAll (a.put (some k) v) ks vs
  | _, _ => a
theorem putAll_size : ∀ (ks : List Nat) (vs : List Value) (a : Act), (putAll a ks vs).tmps.size = a.tmps.size
  | [], _, _ => rfl
  | _ :: _, [], _ => rfl
  | k :: ks, v :: vs, a => by show (putAll (a.put (some k) v) ks vs).tmps.size = _; rw [putAll_size ks vs]; simp [Act.put]
theorem putAll_defers : ∀ (ks : List Nat) (vs : List Value) (a : Act), (putAll a ks vs).defers = a.defers
  | [], _, _ => rfl
  | _ :: _, [], _ => rfl
  | k :: ks, v :: vs, a => by show (putAll (a.put (some k) v) ks vs).defers = _; rw [putAll_defers ks vs]; rfl
theorem putAll_out : ∀ (ks : List Nat) (vs : List Value) (a : Act) (j : Nat), j ∉ ks → (putAll a ks vs).tmps[j]? = a.tmps[j]?
  | [], _, _, _, _ => rfl
  | _ :: _, [], _, _, _ => rfl
  | k :: ks, v :: vs, a, j, h => by
    show (putAll (a.put (some k) v) ks vs).tmps[j]? = _
    rw [putAll_out ks vs _ j (fun hm => h (List.mem_cons_of_mem _ hm))]
    have hne : k ≠ j := fun e => h (by rw [e]; exact List.mem_cons_self)
    simp [Act.put, hne]
theorem putAll_in : ∀ (ks : List Nat) (vs : List Value) (a : Act) (i : Nat), ks.Nodup → ks.length = vs.length → (∀ k ∈ ks, k < a.tmps.size) → ∀ (hi : i < ks.length), (putAll a ks vs).tmps[ks[i]]? = vs[i]?
  | [], _, _, _, _, _, _, hi => by simp at hi
  | _ :: _, [], _, _, _, h, _, _ => by simp at h
  | k :: ks, v :: vs, a, i, hn, hl, hs, hi => by
    rw [List.nodup_cons] at hn
    cases i with
    | zero =>
      show (putAll (a.put (some k) v) ks vs).tmps[k]? = _
      rw [putAll_out ks vs _ k hn.1]
      have := hs k (by simp)
      simp [Act.put, this]
    | succ i => exact putAll_in ks vs (a.put (some k) v) i hn.2 (by simpa using hl) (fun j hj => by simp [Act.put]; exact hs j (List.mem_cons_of_mem _ hj)) (by simpa using hi)
theorem Agr.back {ks : List Nat} {a0 a : Act} (h : Agr ks a0 a) (hn : ks.Nodup) (hs : ∀ k ∈ ks, k < a0.tmps.size) : a = putAll a0 ks (ks.map fun k => a.eval (.tmp k)) := by
  have ht : a.tmps = (putAll a0 ks (ks.map fun k => a.eval (.tmp k))).tmps := by
    apply Array.ext_getElem?
    intro j
    by_cases hj : j ∈ ks
    · obtain ⟨i, hi, rfl⟩ := List.getElem_of_mem hj
      rw [putAll_in ks _ a0 i hn (by simp) hs hi]
      have hlt : ks[i] < a.tmps.size := by rw [h.size]; exact hs _ hj
      simp only [List.getElem?_map, List.getElem?_eq_getElem hi, Option.map_some]
      show a.tmps[ks[i]]? = some (a.tmps.getD ks[i] undef)
      rw [Array.getD_eq_getD_getElem?]
      simp [hlt]
    · rw [putAll_out ks _ a0 j hj]; exact h.tmps j hj
  have hd := h.defers
  rw [← putAll_defers ks (ks.map fun k => a.eval (.tmp k)) a0] at hd
  generalize putAll a0 ks (ks.map fun k => a.eval (.tmp k)) = b at *
  cases a; cases b
  simp only at ht hd
  rw [ht, hd]
/-- What is known of the value of an operation. -/
abbrev Known := Value → World → Prop
def Rat (R : List Known) (i : Nat) : Known := R.getD i (fun _ _ => True)
theorem nodup_inj : ∀ {l : List Nat}, l.Nodup → ∀ {i j : Nat} (hi : i < l.length) (hj : j < l.length), l[i] = l[j] → i = j
  | [], _, _, _, hi, _, _ => by simp at hi
  | x :: l, h, i, j, hi, hj, e => by
    rw [List.nodup_cons] at h
    cases i with
    | zero =>
      cases j with
      | zero => rfl
      | succ j => exact absurd (show x ∈ l by have e2 : x = l[j]'(by simpa using hj) := (by simpa using e); rw [e2]; exact List.getElem_mem _) h.1
    | succ i =>
      cases j with
      | zero => exact absurd (show x ∈ l by have e2 : l[i]'(by simpa using hi) = x := (by simpa using e); rw [← e2]; exact List.getElem_mem _) h.1
      | succ j => rw [nodup_inj h.2 (i := i) (j := j) (by simpa using hi) (by simpa using hj) (by simpa using e)]
/-- All operations write a slot of their own, unguarded, and wait for those ahead of them only. -/
def growB (L : List Oper) (ks : List Nat) : Bool :=
  decide (L.length = ks.length) && decide ks.Nodup && L.all (fun o => o.guard.isNone) &&
    (List.range L.length).all (fun j => match L[j]?, ks[j]? with | some x, some k => decide (x.dst = some k) && x.after.all (fun e => !Region.binds .any e || decide (e.on < j)) | _, _ => false)
/-- An operation, wherever it comes up. -/
def StepG (P : Program) (Q : Exit → Act → World → Prop) (R : List Known) (ks : List Nat) (a : Act) (w : World) (i : Nat) (o : Oper) : Prop :=
  ∀ a' w', Agr ks a a' → Below w.heap.size w w' → (∀ j, j ∈ (o.after.toList.filter (fun e => Region.binds .any e)).map (fun e => e.on) → Rat R j (a'.eval (.tmp (ks.getD j 0))) w') →
    ∀ K : Act → World → Prop, (∀ v w'', Below w'.heap.size w' w'' → Rat R i v w'' → K (a'.put o.dst v) w'') → o.wp P a' w' K Q
def StepsG (P : Program) (Q : Exit → Act → World → Prop) (R : List Known) (ks : List Nat) (a : Act) (w : World) : List Oper → Nat → Prop
  | [], _ => True
  | o :: l, i => StepG P Q R ks a w i o ∧ StepsG P Q R ks a w l (i + 1)
def StableAll : List Known → Prop
  | [] => True
  | r :: l => (∀ v w w', r v w → Below w.heap.size w w' → r v w') ∧ StableAll l
theorem StableAll.at : ∀ {R : List Known}, StableAll R → ∀ i v w w', Rat R i v w → Below w.heap.size w w' → Rat R i v w'
  | [], _, i, v, w, w', _, _ => by simp [Rat]
  | r :: l, h, 0, v, w, w', hr, hb => h.1 v w w' hr hb
  | r :: l, h, i + 1, v, w, w', hr, hb => StableAll.at (R := l) h.2 i v w w' hr hb
theorem StepsG.at {R : List Known} {ks : List Nat} {a : Act} {w : World} : ∀ {l : List Oper} {k : Nat}, StepsG P Q R ks a w l k → ∀ i o, l[i]? = some o → StepG P Q R ks a w (k + i) o
  | [], _, _, i, o, h => by simp at h
  | x :: l, k, h, 0, o, ho => by simp at ho; subst ho; exact h.1
  | x :: l, k, h, i + 1, o, ho => by
    have := StepsG.at (l := l) (k := k + 1) h.2 i o (by simpa using ho)
    rw [show k + (i + 1) = k + 1 + i by omega]; exact this
theorem growB_spec {L : List Oper} {ks : List Nat} (h : growB L ks = true) : L.length = ks.length ∧ ks.Nodup ∧ (∀ o ∈ L, o.guard = none) ∧ ∀ j o, L[j]? = some o → ∃ hj : j < ks.length, o.dst = some ks[j] ∧ ∀ e ∈ o.after, Region.binds .any e = true → e.on < j := by
  unfold growB at h
  simp only [Bool.and_eq_true, decide_eq_true_eq] at h
  obtain ⟨⟨⟨h1, h2⟩, h3⟩, h4⟩ := h
  refine ⟨h1, h2, fun o ho => Option.isNone_iff_eq_none.1 (List.all_eq_true.1 h3 o ho), fun j o ho => ?_⟩
  have hj : j < L.length := (List.getElem?_eq_some_iff.1 ho).1
  have := List.all_eq_true.1 h4 j (List.mem_range.2 hj)
  have hk : ks[j]? = some (ks[j]'(by omega)) := List.getElem?_eq_getElem (by omega)
  rw [ho, hk] at this
  simp only [Bool.and_eq_true, decide_eq_true_eq, Array.all_eq_true_iff_forall_mem, Bool.or_eq_true, Bool.not_eq_true'] at this
  refine ⟨by omega, this.1, fun e he hb => ?_⟩
  rcases this.2 e he with h | h
  · rw [hb] at h; cases h
  · exact h
theorem all_listed {L : List Oper} {ks : List Nat} (h : growB L ks = true) {listed : Array Bool} (hs : listed.size = L.length) (hr : Region.ready .any L.toArray listed = []) : ∀ i, i < L.length → listed.getD i false = true := by
  obtain ⟨-, -, -, h4⟩ := growB_spec h
  intro i
  induction i using Nat.strongRecOn with
  | ind i ih =>
    intro hi
    cases hl : listed.getD i false with
    | true => rfl
    | false =>
      exfalso
      have ho : L[i]? = some L[i] := List.getElem?_eq_getElem hi
      have hm : i ∈ Region.ready .any L.toArray listed := by
        rw [mem_ready]
        refine ⟨?_, L[i], by simp, fun e he hb => ?_⟩
        · have his : i < listed.size := by omega
          simpa [his] using hl
        · obtain ⟨-, -, h5⟩ := h4 i _ ho
          exact ih e.on (h5 e he hb) (by have := h5 e he hb; omega)
      rw [hr] at hm; cases hm
theorem wp_region_grow {id : Nat} {a : Act} {w : World} {L : List Oper} (ks : List Nat) (R : List Known) (hm : P.follows .mixedOrders = true) (hB : growB L ks = true) (hsz : ks.all (fun k => decide (k < a.tmps.size)) = true) (hst : StableAll R)
    (hstep : StepsG P Q R ks a w L 0)
    (hend : ∀ vs w', vs.length = ks.length → (∀ i, i < L.length → Rat R i (vs.getD i undef) w') → Below w.heap.size w w' → Q .normal (putAll a ks vs) w') : (Code.region id L.toArray true).wp P Q a w := by
  obtain ⟨h1, h2, h3, h4⟩ := growB_spec hB
  have hsz' : ∀ k ∈ ks, k < a.tmps.size := fun k hk => by have := List.all_eq_true.1 hsz k hk; simpa using this
  refine wp_region_any hm ?_
  refine wpAny_inv (fun B a' w' => Agr ks a a' ∧ Below w.heap.size w w' ∧ ∀ i, B i = true → i < L.length → Rat R i (a'.eval (.tmp (ks.getD i 0))) w') (fun i o ho => h3 o (List.mem_of_getElem? (i := i) (by simpa using ho))) ?_ ?_ _ _ _ _ (by simp) ?_ ⟨Agr.refl _ _, ?_, ?_⟩
  · rintro i o B a' w' ho hBi hd ⟨hA, hb, hR⟩
    have ho' : L[i]? = some o := by simpa using ho
    obtain ⟨hj, hdst, hlow⟩ := h4 i o ho'
    have hil : i < L.length := by omega
    have hS := StepsG.at hstep i o ho'
    rw [Nat.zero_add] at hS
    refine hS a' w' hA hb (fun j hj' => ?_) _ (fun v w'' hb2 hv => ?_)
    · obtain ⟨e, he, rfl⟩ := List.mem_map.1 hj'
      rw [List.mem_filter] at he
      exact hR e.on (hd e (by simpa using he.1) he.2) (by have := hlow e (by simpa using he.1) he.2; omega)
    · rw [hdst]
      refine ⟨hA.put (List.getElem_mem hj) v, hb.trans (hb2.mono hb.size), fun j hBj hjl => ?_⟩
      by_cases e : j = i
      · subst e
        have : ks.getD j 0 = ks[j] := by simp [hj]
        rw [this, eval_put_same a' v (by rw [hA.size]; exact hsz' _ (List.getElem_mem hj))]
        exact hv
      · have hjk : j < ks.length := by omega
        have hne : ks.getD j 0 ≠ ks[i] := by
          have : ks.getD j 0 = ks[j] := by simp [hjk]
          rw [this]
          exact fun e2 => e (nodup_inj h2 hjk hj e2)
        rw [eval_put_ne a' v hne]
        have hBj' : B j = true := by unfold updB at hBj; rwa [if_neg e] at hBj
        exact hst.at j _ _ _ (hR j hBj' hjl) hb2
  · rintro listed a' w' hs hr ⟨hA, hb, hR⟩
    have hall := all_listed hB (by simpa using hs) hr
    rw [hA.back h2 hsz']
    refine hend _ w' (by simp) (fun i hi => ?_) hb
    have hik : i < ks.length := by omega
    have := hR i (hall i hi) hi
    have e1 : ks.getD i 0 = ks[i] := by simp [hik]
    have e2 : (ks.map fun k => a'.eval (.tmp k)).getD i undef = a'.eval (.tmp ks[i]) := by simp [hik]
    rw [e2, ← e1]; exact this
  · rw [Array.toList_replicate]
    exact Nat.le_trans List.countP_le_length (by simp)
  · exact (Below.refl _ w).drew
  · intro i hi
    simp only [Array.getD_eq_getD_getElem?, Array.getElem?_replicate] at hi
    split at hi <;> simp at hi
/-- The values of the slots come one behind the other. -/
def EndsG (w' : World) (Qn : Act → Prop) : List Nat → List Known → Act → Prop
  | k :: ks, r :: rs, a => ∀ v, r v w' → EndsG w' Qn ks rs (a.put (some k) v)
  | _, _, a => Qn a
theorem EndsG.all {w' : World} {Qn : Act → Prop} : ∀ {ks : List Nat} {R : List Known} {a : Act} {vs : List Value}, EndsG w' Qn ks R a → vs.length = ks.length → R.length = ks.length → (∀ i, i < ks.length → Rat R i (vs.getD i undef) w') → Qn (putAll a ks vs)
  | [], _, _, vs, h, _, _, _ => by cases vs <;> exact h
  | _ :: _, [], _, _, _, _, h, _ => by simp at h
  | _ :: _, _ :: _, _, [], _, h, _, _ => by simp at h
  | k :: ks, r :: rs, a, v :: vs, h, hl, hr, hall => by
    refine EndsG.all (ks := ks) (R := rs) (a := a.put (some k) v) (vs := vs) (h v (hall 0 (by simp))) (by simpa using hl) (by simpa using hr) (fun i hi => ?_)
    exact hall (i + 1) (by simpa using hi)
theorem wp_region_grows {id : Nat} {a : Act} {w : World} {L : List Oper} (ks : List Nat) (R : List Known) (hm : P.follows .mixedOrders = true) (hB : growB L ks = true) (hsz : ks.all (fun k => decide (k < a.tmps.size)) = true) (hl : R.length = ks.length) (hst : StableAll R)
    (hstep : StepsG P Q R ks a w L 0)
    (hend : ∀ w', Below w.heap.size w w' → EndsG w' (fun a => Q .normal a w') ks R a) : (Code.region id L.toArray true).wp P Q a w :=
  wp_region_grow ks R hm hB hsz hst hstep fun vs w' h1 h2 h3 => (hend w' h3).all h1 hl (fun i hi => h2 i (by have := (growB_spec hB).1; omega))
theorem op_value {o : Oper} {a : Act} {w w' : World} {v : Value} {K : Act → World → Prop} (h : (execOp a.eval o).run P w = .ok (.value v) w') (hK : K (a.put o.dst v) w') : o.wp P a w K Q := by
  unfold Oper.wp; rw [h]; exact hK
theorem op_call {o : Oper} {a : Act} {w : World} {K : Act → World → Prop} {f : FuncId} {ops : Array Operand} {ts : Array TypeId} {args : Array Value} (ho : o.op = .call { callee := .value (.func f), args := ops, argTypes := ts })
    (eg : ∀ args w, (callFunc f args).run P w = .ok (.enter f args) w) (hargs : ops.map a.eval = args) {R : Ending → World → Prop} (h : Calls P f args w R) (hR : ∀ e w', R e w' → ∃ v, e = .returned v ∧ K (a.put o.dst v) w') : o.wp P a w K Q := by
  have hr : (execOp a.eval o).run P w = .ok (.enter f args) w := by
    unfold execOp
    rw [ho]
    simp only [resolve, invoke, hargs]
    simp [go_sem, Act.eval, eg]
  unfold Oper.wp
  rw [hr]
  refine Calls.mono h (fun e w' he => ?_)
  obtain ⟨v, rfl, hK⟩ := hR e w' he
  exact hK
theorem tmp_of {a : Act} {k : Nat} {v : Value} (h : a.eval (.tmp k) = v) : a.tmps[k]?.getD undef = v := by rw [← Array.getD_eq_getD_getElem?]; exact h
end
end Go.Proofs.YtcjbnifafofpbaaGreatDoor
/- Steps of regions that only add to the world: moves, known values. -/
namespace Go.Proofs.YtcjbnifafofpbaaGreatDoor
open Go.RowKit
/-- The value is known. -/
def KEq (v0 : Value) : Known := fun v _ => v = v0
theorem KEq.st (v0 : Value) : ∀ v w w', KEq v0 v w → Below w.heap.size w w' → KEq v0 v w' := fun _ _ _ h _ => h
section
variable {Q : Exit → Act → World → Prop} {R : List Known} {ks : List Nat} {a : Act} {w : World} {i : Nat} {dst : Option Tmp} {ty : TypeId} {pos : String} {after : Array Edge}
set_option maxRecDepth 20000 in
theorem step_assign {j q : Nat} {v0 : Value} (hq : ks.getD j 0 = q) (hj : j ∈ (after.toList.filter (fun e => Region.binds .any e)).map (fun e => e.on)) (hRj : Rat R j = KEq v0) (hR : Rat R i = KEq v0) :
    StepG Tryz.prog Q R ks a w i ⟨dst, .assign (.tmp q), ty, pos, after, none⟩ := by
  intro a' w' hA hb hd K hK
  have e : a'.eval (.tmp q) = v0 := by have := hd j hj; rw [hRj, hq] at this; exact this
  have e' := tmp_of e
  refine op_value (w' := w') (v := v0) (by simp [execOp, go_sem, e']) (hK _ _ (Below.refl _ _) (by rw [hR]; rfl))
set_option maxRecDepth 20000 in
theorem step_move {j q : Nat} {v0 : Value} (hq : ks.getD j 0 = q) (hj : j ∈ (after.toList.filter (fun e => Region.binds .any e)).map (fun e => e.on)) (hRj : Rat R j = KEq v0) (hR : Rat R i = KEq v0) :
    StepG Tryz.prog Q R ks a w i ⟨dst, .move (.tmp q), ty, pos, after, none⟩ := by
  intro a' w' hA hb hd K hK
  have e : a'.eval (.tmp q) = v0 := by have := hd j hj; rw [hRj, hq] at this; exact this
  have e' := tmp_of e
  refine op_value (w' := w') (v := v0) (by simp [execOp, go_sem, e']) (hK _ _ (Below.refl _ _) (by rw [hR]; rfl))
set_option maxRecDepth 20000 in
theorem step_moveOut {q : Nat} {v0 : Value} (hq : q ∉ ks) (he : a.eval (.tmp q) = v0) (hR : Rat R i = KEq v0) :
    StepG Tryz.prog Q R ks a w i ⟨dst, .move (.tmp q), ty, pos, after, none⟩ := by
  intro a' w' hA hb hd K hK
  have e' := tmp_of ((hA.eval hq).trans he)
  refine op_value (w' := w') (v := v0) (by simp [execOp, go_sem, e']) (hK _ _ (Below.refl _ _) (by rw [hR]; rfl))
set_option maxRecDepth 20000 in
theorem step_extract {j q k : Nat} {vs : Array Value} {v0 : Value} (hq : ks.getD j 0 = q) (hj : j ∈ (after.toList.filter (fun e => Region.binds .any e)).map (fun e => e.on)) (hRj : Rat R j = KEq (.tuple vs)) (hv : vs[k]? = some v0) (hR : Rat R i = KEq v0) :
    StepG Tryz.prog Q R ks a w i ⟨dst, .extract (.tmp q) k, ty, pos, after, none⟩ := by
  intro a' w' hA hb hd K hK
  have e : a'.eval (.tmp q) = .tuple vs := by have := hd j hj; rw [hRj, hq] at this; exact this
  have e' := tmp_of e
  refine op_value (w' := w') (v := v0) (by simp [execOp, go_sem, e', hv]) (hK _ _ (Below.refl _ _) (by rw [hR]; rfl))
/-- An operation whose value follows from one known value. -/
theorem step_by1 {o : Oper} {j q : Nat} {v0 v1 : Value} (hq : ks.getD j 0 = q) (hj : j ∈ (o.after.toList.filter (fun e => Region.binds .any e)).map (fun e => e.on)) (hRj : Rat R j = KEq v0) (hR : Rat R i = KEq v1)
    (hrun : ∀ (a' : Act) (w' : World), a'.tmps[q]?.getD undef = v0 → Below w.heap.size w w' → (execOp a'.eval o).run Tryz.prog w' = .ok (.value v1) w') : StepG Tryz.prog Q R ks a w i o := by
  intro a' w' hA hb hd K hK
  have e : a'.eval (.tmp q) = v0 := by have := hd j hj; rw [hRj, hq] at this; exact this
  exact op_value (hrun a' w' (tmp_of e) hb) (hK _ _ (Below.refl _ _) (by rw [hR]; rfl))
theorem step_by2 {o : Oper} {j1 j2 q1 q2 : Nat} {v1 v2 v3 : Value} (hq1 : ks.getD j1 0 = q1) (hj1 : j1 ∈ (o.after.toList.filter (fun e => Region.binds .any e)).map (fun e => e.on)) (hR1 : Rat R j1 = KEq v1)
    (hq2 : ks.getD j2 0 = q2) (hj2 : j2 ∈ (o.after.toList.filter (fun e => Region.binds .any e)).map (fun e => e.on)) (hR2 : Rat R j2 = KEq v2) (hR : Rat R i = KEq v3)
    (hrun : ∀ (a' : Act) (w' : World), a'.tmps[q1]?.getD undef = v1 → a'.tmps[q2]?.getD undef = v2 → Below w.heap.size w w' → (execOp a'.eval o).run Tryz.prog w' = .ok (.value v3) w') : StepG Tryz.prog Q R ks a w i o := by
  intro a' w' hA hb hd K hK
  have e1 : a'.eval (.tmp q1) = v1 := by have := hd j1 hj1; rw [hR1, hq1] at this; exact this
  have e2 : a'.eval (.tmp q2) = v2 := by have := hd j2 hj2; rw [hR2, hq2] at this; exact this
  exact op_value (hrun a' w' (tmp_of e1) (tmp_of e2) hb) (hK _ _ (Below.refl _ _) (by rw [hR]; rfl))
end
end Go.Proofs.YtcjbnifafofpbaaGreatDoor
/- A region that draws its order, only adds to the world, and ends in one store that waits for all others. -/
namespace Go.Proofs.YtcjbnifafofpbaaGreatDoor
open Go Go.RowKit
section
variable {P : Program} {Q : Exit → Act → World → Prop}
def growstB (L : List Oper) (n : Nat) (ks : List Nat) : Bool :=
  growB (L.take n) ks && decide (L.length = n + 1) && match L[n]? with
    | some o => o.guard.isNone && (List.range n).all (fun j => o.after.any (fun e => Region.binds .any e && decide (e.on = j))) && o.after.all (fun e => !Region.binds .any e || decide (e.on < n))
    | none => false
theorem all_listed2 {L : List Oper} (h4 : ∀ j o, L[j]? = some o → ∀ e ∈ o.after, Region.binds .any e = true → e.on < j) {listed : Array Bool} (hs : listed.size = L.length) (hr : Region.ready .any L.toArray listed = []) : ∀ i, i < L.length → listed.getD i false = true := by
  intro i
  induction i using Nat.strongRecOn with
  | ind i ih =>
    intro hi
    cases hl : listed.getD i false with
    | true => rfl
    | false =>
      exfalso
      have ho : L[i]? = some L[i] := List.getElem?_eq_getElem hi
      have hm : i ∈ Region.ready .any L.toArray listed := by
        rw [mem_ready]
        refine ⟨?_, L[i], by simp, fun e he hb => ?_⟩
        · have his : i < listed.size := by omega
          simpa [his] using hl
        · have h5 := h4 i _ ho e he hb
          exact ih e.on h5 (by omega)
      rw [hr] at hm; cases hm
theorem wp_region_growst {id : Nat} {a : Act} {w : World} {L : List Oper} (n : Nat) (ks : List Nat) (R : List Known) (hm : P.follows .mixedOrders = true) (hB : growstB L n ks = true) (hsz : ks.all (fun k => decide (k < a.tmps.size)) = true) (hl : R.length = ks.length) (hst : StableAll R)
    (hstep : StepsG P Q R ks a w (L.take n) 0)
    (hend : ∀ w', Below w.heap.size w w' → EndsG w' (fun a' => ∀ o, L[n]? = some o → o.wp P a' w' (fun a'' w'' => Q .normal a'' w'') Q) ks R a) : (Code.region id L.toArray true).wp P Q a w := by
  unfold growstB at hB
  simp only [Bool.and_eq_true, decide_eq_true_eq] at hB
  obtain ⟨⟨hG, hLn⟩, hO⟩ := hB
  obtain ⟨h1, h2, h3, h4⟩ := growB_spec hG
  have hnk : ks.length = n := by rw [← h1, List.length_take]; omega
  have hsz' : ∀ k ∈ ks, k < a.tmps.size := fun k hk => by have := List.all_eq_true.1 hsz k hk; simpa using this
  have hon : L[n]? = some (L[n]'(by omega)) := List.getElem?_eq_getElem (by omega)
  obtain ⟨o', ho'⟩ : ∃ o', o' = L[n]'(by omega) := ⟨_, rfl⟩
  rw [← ho'] at hon
  clear ho'
  rw [hon] at hO
  simp only [Bool.and_eq_true, Option.isNone_iff_eq_none] at hO
  obtain ⟨⟨hg0, hall0⟩, hlow0⟩ := hO
  have htk : ∀ i, i < n → (L.take n)[i]? = L[i]? := fun i hi => by rw [List.getElem?_take, if_pos hi]
  refine wp_region_any hm ?_
  refine wpAny_inv (fun B a' w' => (B n = true → (∀ i, i < n → B i = true) ∧ Q .normal a' w') ∧ (B n = false → Agr ks a a' ∧ Below w.heap.size w w' ∧ ∀ i, B i = true → i < n → Rat R i (a'.eval (.tmp (ks.getD i 0))) w')) ?_ ?_ ?_ _ _ _ _ (by simp) ?_ ⟨?_, ?_⟩
  · intro i o ho
    have ho2 : L[i]? = some o := by simpa using ho
    by_cases hi : i < n
    · exact h3 o (List.mem_of_getElem? (i := i) (by rw [htk i hi]; exact ho2))
    · have hil := (List.getElem?_eq_some_iff.1 ho2).1
      have : i = n := by omega
      subst this
      rw [hon] at ho2; cases ho2; exact hg0
  · rintro i o B a' w' ho hBi hd ⟨hQ, hI⟩
    have ho2 : L[i]? = some o := by simpa using ho
    by_cases hi : i < n
    · have hBn : B n = false := by
        cases hb : B n with
        | false => rfl
        | true => have := (hQ hb).1 i hi; rw [hBi] at this; cases this
      obtain ⟨hA, hb, hR⟩ := hI hBn
      have ho3 : (L.take n)[i]? = some o := by rw [htk i hi]; exact ho2
      obtain ⟨hj, hdst, hlow⟩ := h4 i o ho3
      have hS := StepsG.at hstep i o ho3
      rw [Nat.zero_add] at hS
      refine hS a' w' hA hb (fun j hj' => ?_) _ (fun v w'' hb2 hv => ?_)
      · obtain ⟨e, he, rfl⟩ := List.mem_map.1 hj'
        rw [List.mem_filter] at he
        exact hR e.on (hd e (by simpa using he.1) he.2) (by have := hlow e (by simpa using he.1) he.2; omega)
      · rw [hdst]
        have hun : updB B i n = false := by unfold updB; rw [if_neg (by omega)]; exact hBn
        refine ⟨fun h => (by rw [hun] at h; cases h), fun _ => ⟨hA.put (List.getElem_mem hj) v, hb.trans (hb2.mono hb.size), fun j hBj hjl => ?_⟩⟩
        by_cases e : j = i
        · subst e
          have : ks.getD j 0 = ks[j] := by simp [hj]
          rw [this, eval_put_same a' v (by rw [hA.size]; exact hsz' _ (List.getElem_mem hj))]
          exact hv
        · have hjk : j < ks.length := by omega
          have hne : ks.getD j 0 ≠ ks[i] := by
            have : ks.getD j 0 = ks[j] := by simp [hjk]
            rw [this]
            exact fun e2 => e (nodup_inj h2 hjk hj e2)
          rw [eval_put_ne a' v hne]
          have hBj' : B j = true := by unfold updB at hBj; rwa [if_neg e] at hBj
          exact hst.at j _ _ _ (hR j hBj' hjl) hb2
    · have hil := (List.getElem?_eq_some_iff.1 ho2).1
      have : i = n := by omega
      subst this
      rw [hon] at ho2; cases ho2
      obtain ⟨hA, hb, hR⟩ := hI hBi
      have hall : ∀ j, j < i → B j = true := fun j hj => by
        have := List.all_eq_true.1 hall0 j (List.mem_range.2 hj)
        rw [Array.any_eq_true] at this
        obtain ⟨k, hk, hk2⟩ := this
        simp only [Bool.and_eq_true, decide_eq_true_eq] at hk2
        have := hd _ (Array.getElem_mem hk) hk2.1
        rw [hk2.2] at this; exact this
      have hX := (hend w' hb).all (vs := ks.map fun k => a'.eval (.tmp k)) (by simp) hl (fun j hj => by
        have hjn : j < i := by omega
        have := hR j (hall j hjn) hjn
        have e1 : ks.getD j 0 = ks[j] := by simp [hj]
        have e2 : (ks.map fun k => a'.eval (.tmp k)).getD j undef = a'.eval (.tmp ks[j]) := by simp [hj]
        rw [e2, ← e1]; exact this)
      rw [← hA.back h2 hsz'] at hX
      refine Oper.wp_mono (fun a'' w'' hq => ?_) (hX _ hon)
      have hun : updB B i i = true := by unfold updB; rw [if_pos rfl]
      refine ⟨fun _ => ⟨fun j hj => ?_, hq⟩, fun h => (by rw [hun] at h; cases h)⟩
      unfold updB; rw [if_neg (by omega)]; exact hall j hj
  · rintro listed a' w' hs hr ⟨hQ, -⟩
    have hall := all_listed2 (L := L) (fun j o ho e he hb => ?_) (by simpa using hs) hr
    · exact (hQ (hall n (by omega))).2
    · by_cases hj : j < n
      · obtain ⟨_, _, hlow⟩ := h4 j o (by rw [htk j hj]; exact ho)
        exact hlow e he hb
      · have hil := (List.getElem?_eq_some_iff.1 ho).1
        have : j = n := by omega
        subst this
        rw [hon] at ho; cases ho
        have := Array.all_eq_true_iff_forall_mem.1 hlow0 e he
        rw [hb] at this; simpa using this
  · rw [Array.toList_replicate]
    exact Nat.le_trans List.countP_le_length (by simp)
  · intro h
    simp only [Array.getD_eq_getD_getElem?, Array.getElem?_replicate] at h
    split at h <;> simp at h
  · intro _
    refine ⟨Agr.refl _ _, (Below.refl _ w).drew, fun i hi => ?_⟩
    simp only [Array.getD_eq_getD_getElem?, Array.getElem?_replicate] at hi
    split at hi <;> simp at hi
end
end Go.Proofs.YtcjbnifafofpbaaGreatDoor
/- A region that draws its order, only adds to the world at first, and ends in operations one behind another, each of which waits for all ahead of it. -/
namespace Go.Proofs.YtcjbnifafofpbaaGreatDoor
open Go Go.RowKit
section
variable {P : Program} {Q : Exit → Act → World → Prop}
def dirB (L : List Oper) (i j : Nat) : Bool := match L[i]? with
  | some o => o.after.any (fun e => Region.binds .any e && decide (e.on = j))
  | none => false
/-- An operation waits for another one, itself or by those that it waits for. -/
def clB (L : List Oper) : Nat → Nat → Nat → Bool
  | 0, i, j => dirB L i j
  | f + 1, i, j => dirB L i j || match L[i]? with
    | some o => o.after.any (fun e => Region.binds .any e && clB L f e.on j)
    | none => false
theorem dirB_spec {L : List Oper} {i j : Nat} (h : dirB L i j = true) : ∃ o, L[i]? = some o ∧ ∃ e ∈ o.after, Region.binds .any e = true ∧ e.on = j := by
  unfold dirB at h
  cases ho : L[i]? with
  | none => rw [ho] at h; cases h
  | some o =>
    rw [ho] at h
    dsimp only at h
    rw [Array.any_eq_true] at h
    obtain ⟨k, hk, hk2⟩ := h
    simp only [Bool.and_eq_true, decide_eq_true_eq] at hk2
    exact ⟨o, rfl, _, Array.getElem_mem hk, hk2.1, hk2.2⟩
theorem clB_spec {L : List Oper} {B : Nat → Bool} (hc : ∀ i o, L[i]? = some o → B i = true → ∀ e ∈ o.after, Region.binds .any e = true → B e.on = true) :
    ∀ (f i j : Nat), clB L f i j = true → (∀ o, L[i]? = some o → ∀ e ∈ o.after, Region.binds .any e = true → B e.on = true) → B j = true := by
  intro f
  induction f with
  | zero =>
    intro i j h hi
    obtain ⟨o, ho, e, he, hb, rfl⟩ := dirB_spec h
    exact hi o ho e he hb
  | succ f ih =>
    intro i j h hi
    simp only [clB, Bool.or_eq_true] at h
    rcases h with h | h
    · obtain ⟨o, ho, e, he, hb, rfl⟩ := dirB_spec h
      exact hi o ho e he hb
    · split at h
      · rename_i o ho
        rw [Array.any_eq_true] at h
        obtain ⟨k, hk, hk2⟩ := h
        simp only [Bool.and_eq_true] at hk2
        exact ih _ _ hk2.2 (fun o' ho' => hc _ o' ho' (hi o ho _ (Array.getElem_mem hk) hk2.1))
      · cases h
def rowB (L : List Oper) (n : Nat) : Bool :=
  (List.range (L.length - n)).all fun i => match L[n + i]? with
    | some o => o.guard.isNone && (List.range (n + i)).all (fun j => clB L 5 (n + i) j) && o.after.all (fun e => !Region.binds .any e || decide (e.on < n + i))
    | none => false
/-- Operations one behind another. -/
def RowWp (P : Program) (Q : Exit → Act → World → Prop) : List Oper → Act → World → Prop
  | [], a, w => Q .normal a w
  | o :: r, a, w => o.wp P a w (fun a' w' => RowWp P Q r a' w') Q
theorem rowB_at {L : List Oper} {n : Nat} (h : rowB L n = true) {i : Nat} {o : Oper} (hi : n ≤ i) (ho : L[i]? = some o) : o.guard = none ∧ (∀ j, j < i → clB L 5 i j = true) ∧ (∀ e ∈ o.after, Region.binds .any e = true → e.on < i) := by
  unfold rowB at h
  have hil := (List.getElem?_eq_some_iff.1 ho).1
  have := List.all_eq_true.1 h (i - n) (List.mem_range.2 (by omega))
  rw [show n + (i - n) = i by omega, ho] at this
  simp only [Bool.and_eq_true, Option.isNone_iff_eq_none] at this
  obtain ⟨⟨hg, h1⟩, h2⟩ := this
  refine ⟨hg, fun j hj => ?_, fun e he hb => ?_⟩
  · have := List.all_eq_true.1 h1 j (List.mem_range.2 hj)
    exact this
  · have := Array.all_eq_true_iff_forall_mem.1 h2 e he
    rw [hb] at this; simpa using this
theorem wp_region_growrow {id : Nat} {a : Act} {w : World} {L : List Oper} (n : Nat) (ks : List Nat) (R : List Known) (hm : P.follows .mixedOrders = true) (hG : growB (L.take n) ks = true) (hn0 : decide (n < L.length) = true) (hT : rowB L n = true) (hsz : ks.all (fun k => decide (k < a.tmps.size)) = true) (hl : R.length = ks.length) (hst : StableAll R)
    (hstep : StepsG P Q R ks a w (L.take n) 0)
    (hend : ∀ w', Below w.heap.size w w' → EndsG w' (fun a' => RowWp P Q (L.drop n) a' w') ks R a) : (Code.region id L.toArray true).wp P Q a w := by
  have hn := of_decide_eq_true hn0
  obtain ⟨h1, h2, h3, h4⟩ := growB_spec hG
  have hnk : ks.length = n := by rw [← h1, List.length_take]; omega
  have hsz' : ∀ k ∈ ks, k < a.tmps.size := fun k hk => by have := List.all_eq_true.1 hsz k hk; simpa using this
  have htk : ∀ i, i < n → (L.take n)[i]? = L[i]? := fun i hi => by rw [List.getElem?_take, if_pos hi]
  refine wp_region_any hm ?_
  refine wpAny_inv (fun B a' w' => (∀ i o, L[i]? = some o → B i = true → ∀ e ∈ o.after, Region.binds .any e = true → B e.on = true) ∧ ∃ m, (∀ j, n ≤ j → j < L.length → (B j = true ↔ j < n + m)) ∧ (m = 0 → Agr ks a a' ∧ Below w.heap.size w w' ∧ ∀ i, B i = true → i < n → Rat R i (a'.eval (.tmp (ks.getD i 0))) w') ∧ (0 < m → (∀ i, i < n → B i = true) ∧ RowWp P Q (L.drop (n + m)) a' w')) ?_ ?_ ?_ _ _ _ _ (by simp) ?_ ⟨?_, 0, ?_, ?_, ?_⟩
  · intro i o ho
    have ho2 : L[i]? = some o := by simpa using ho
    by_cases hi : i < n
    · exact h3 o (List.mem_of_getElem? (i := i) (by rw [htk i hi]; exact ho2))
    · exact (rowB_at hT (by omega) ho2).1
  · rintro i o B a' w' ho hBi hd ⟨hC, m, hB, hI, hQ⟩
    have ho2 : L[i]? = some o := by simpa using ho
    have hil := (List.getElem?_eq_some_iff.1 ho2).1
    have hC2 : ∀ i' o', L[i']? = some o' → updB B i i' = true → ∀ e ∈ o'.after, Region.binds .any e = true → updB B i e.on = true := by
      intro i' o' ho' hB' e he hb
      have up : B e.on = true → updB B i e.on = true := fun h => by unfold updB; rw [h, ite_self]
      by_cases hii : i' = i
      · subst hii
        rw [ho2] at ho'; cases ho'
        exact up (hd e he hb)
      · unfold updB at hB'; rw [if_neg hii] at hB'
        exact up (hC i' o' ho' hB' e he hb)
    by_cases hi : i < n
    · have hm0 : m = 0 := by
        cases m with
        | zero => rfl
        | succ m => have := (hQ (by omega)).1 i hi; rw [hBi] at this; cases this
      subst hm0
      obtain ⟨hA, hb, hR⟩ := hI rfl
      have ho3 : (L.take n)[i]? = some o := by rw [htk i hi]; exact ho2
      obtain ⟨hj, hdst, hlow⟩ := h4 i o ho3
      have hS := StepsG.at hstep i o ho3
      rw [Nat.zero_add] at hS
      refine hS a' w' hA hb (fun j hj' => ?_) _ (fun v w'' hb2 hv => ?_)
      · obtain ⟨e, he, rfl⟩ := List.mem_map.1 hj'
        rw [List.mem_filter] at he
        exact hR e.on (hd e (by simpa using he.1) he.2) (by have := hlow e (by simpa using he.1) he.2; omega)
      · rw [hdst]
        refine ⟨hC2, 0, fun j hj1 hj2 => ?_, fun _ => ⟨hA.put (List.getElem_mem hj) v, hb.trans (hb2.mono hb.size), fun j hBj hjl => ?_⟩, fun h => absurd h (by omega)⟩
        · unfold updB; rw [if_neg (by omega)]; exact hB j hj1 hj2
        · by_cases e : j = i
          · subst e
            have : ks.getD j 0 = ks[j] := by simp [hj]
            rw [this, eval_put_same a' v (by rw [hA.size]; exact hsz' _ (List.getElem_mem hj))]
            exact hv
          · have hjk : j < ks.length := by omega
            have hne : ks.getD j 0 ≠ ks[i] := by
              have : ks.getD j 0 = ks[j] := by simp [hjk]
              rw [this]
              exact fun e2 => e (nodup_inj h2 hjk hj e2)
            rw [eval_put_ne a' v hne]
            have hBj' : B j = true := by unfold updB at hBj; rwa [if_neg e] at hBj
            exact hst.at j _ _ _ (hR j hBj' hjl) hb2
    · obtain ⟨hg0, hall0, hlow0⟩ := rowB_at hT (by omega) ho2
      have hall : ∀ j, j < i → B j = true := fun j hj => clB_spec hC 5 i j (hall0 j hj) (fun o' ho' => by rw [ho2] at ho'; cases ho'; exact hd)
      have him : i = n + m := by
        have h6 : ¬ i < n + m := fun h => by have := (hB i (by omega) hil).2 h; rw [hBi] at this; cases this
        by_cases h7 : n + m < i
        · have := (hB (n + m) (by omega) (by omega)).1 (hall _ h7)
          omega
        · omega
      subst him
      have hRow : RowWp P Q (L.drop (n + m)) a' w' := by
        by_cases hm0 : m = 0
        · subst hm0
          obtain ⟨hA, hb, hR⟩ := hI rfl
          have hX := (hend w' hb).all (vs := ks.map fun k => a'.eval (.tmp k)) (by simp) hl (fun j hj => by
            have hjn : j < n := by omega
            have := hR j (hall j (by omega)) hjn
            have e1 : ks.getD j 0 = ks[j] := by simp [hj]
            have e2 : (ks.map fun k => a'.eval (.tmp k)).getD j undef = a'.eval (.tmp ks[j]) := by simp [hj]
            rw [e2, ← e1]; exact this)
          rw [← hA.back h2 hsz'] at hX
          exact hX
        · exact (hQ (by omega)).2
      have hdrop : L.drop (n + m) = o :: L.drop (n + m + 1) := by
        have : L[n + m]'hil = o := by rw [List.getElem?_eq_getElem hil] at ho2; exact Option.some.inj ho2
        rw [← this]; exact List.drop_eq_getElem_cons hil
      rw [hdrop] at hRow
      refine Oper.wp_mono (fun a'' w'' hq => ?_) hRow
      refine ⟨hC2, m + 1, fun j hj1 hj2 => ?_, fun h => absurd h (by omega), fun _ => ⟨fun j hj => ?_, hq⟩⟩
      · unfold updB
        by_cases e : j = n + m
        · rw [if_pos e]; simp; omega
        · rw [if_neg e, hB j hj1 hj2]; omega
      · unfold updB; rw [if_neg (by omega)]; exact hall j (by omega)
  · rintro listed a' w' hs hr ⟨-, m, hB, -, hQ⟩
    have hall := all_listed2 (L := L) (fun j o ho e he hb => ?_) (by simpa using hs) hr
    · have hlast := (hB (L.length - 1) (by omega) (by omega)).1 (hall _ (by omega))
      have := (hQ (by omega)).2
      rw [List.drop_eq_nil_of_le (by omega)] at this
      exact this
    · by_cases hj : j < n
      · obtain ⟨_, _, hlow⟩ := h4 j o (by rw [htk j hj]; exact ho)
        exact hlow e he hb
      · exact (rowB_at hT (by omega) ho).2.2 e he hb
  · rw [Array.toList_replicate]
    exact Nat.le_trans List.countP_le_length (by simp)
  · intro i o _ h
    simp only [Array.getD_eq_getD_getElem?, Array.getElem?_replicate] at h
    split at h <;> simp at h
  · intro j hj hjl
    simp [hjl]; omega
  · intro _
    refine ⟨Agr.refl _ _, (Below.refl _ w).drew, fun i hi => ?_⟩
    simp only [Array.getD_eq_getD_getElem?, Array.getElem?_replicate] at hi
    split at hi <;> simp at hi
  · intro h; exact absurd h (by omega)
end
end Go.Proofs.YtcjbnifafofpbaaGreatDoor
