/- One text of Last, ComN. -/
import Derived.Test.YtpkffjcmoghaaaaJ10
import Derived.OrdersHeld
/- A region that draws its order, and whose last operation waits for all others: the others in whatever order, then that one. -/
namespace Go.Proofs.Ytpkffjcmoghaaaa
open Go
section
variable {P : Program} {md : Region.Mode} {Q : Exit → Act → World → Prop}
/-- The last operation's post, behind the others. -/
def lastQ (P : Program) (o : Oper) (Q : Exit → Act → World → Prop) : Exit → Act → World → Prop
  | .normal, a, w => o.wp P a w (fun a w => Q .normal a w) Q
  | e, a, w => Q e a w
theorem wp_lastQ {o x : Oper} {a : Act} {w : World} {K K' : Act → World → Prop} (h : ∀ a w, K a w → K' a w) (hh : x.wp P a w K (lastQ P o Q)) : x.wp P a w K' Q := by
  unfold Oper.wp at *
  generalize (execOp a.eval x).run P w = r at *
  cases r with
  | ok n w' =>
    cases n with
    | value v => exact h _ _ hh
    | skip => exact h _ _ hh
    | defer d => exact h _ _ hh
    | enter f args => exact Calls.mono hh (fun e w'' he => by
        cases e with
        | returned v => exact h _ _ he
        | panicked c => exact he
        | outgrown => exact he)
    | row r args => exact Rows.mono hh (fun _ _ he => h _ _ he)
    | _ => exact hh
  | halt x w' => cases x <;> exact hh
/-- x waits for i. -/
def coversB (md : Region.Mode) (x : Oper) (i : Nat) : Bool := x.after.any fun e => Region.binds md e && e.on == i
/-- x, at the place b, waits for all below n0, and for the one ahead of it if that is not below n0. -/
def covB (md : Region.Mode) (x : Oper) (b n0 : Nat) : Bool := (List.range (min n0 b)).all (fun i => coversB md x i) && (decide (b ≤ n0) || coversB md x (b - 1))
/-- All wait for those ahead of them only; from n0 on each waits for all below n0 and for the one ahead of it; no guard. -/
def lastB (md : Region.Mode) (l : List Oper) (o : Oper) (n0 : Nat) : Bool :=
  (l ++ [o]).all (fun x => x.guard.isNone) && (List.range l.length).all (fun j => ((l[j]?).map fun x => x.after.all fun e => !Region.binds md e || decide (e.on < j)).getD true)
    && (List.range l.length).all (fun j => ((l[j]?).map fun x => decide (j < n0) || covB md x j n0).getD true) && covB md o l.length n0 && o.after.all (fun e => !Region.binds md e || decide (e.on < l.length))
structure LastP (md : Region.Mode) (l : List Oper) (o : Oper) (n0 : Nat) : Prop where
  free : ∀ x, x ∈ l ++ [o] → x.guard = none
  low : ∀ j x, l[j]? = some x → ∀ e ∈ x.after, Region.binds md e = true → e.on < j
  chain : ∀ j x, l[j]? = some x → n0 ≤ j → (∀ i, i < n0 → ∃ e ∈ x.after, Region.binds md e = true ∧ e.on = i) ∧ (n0 < j → ∃ e ∈ x.after, Region.binds md e = true ∧ e.on = j - 1)
  last : (∀ i, i < n0 → i < l.length → ∃ e ∈ o.after, Region.binds md e = true ∧ e.on = i) ∧ (n0 < l.length → ∃ e ∈ o.after, Region.binds md e = true ∧ e.on = l.length - 1)
  lowO : ∀ e ∈ o.after, Region.binds md e = true → e.on < l.length
theorem coversB_spec {x : Oper} {i : Nat} (h : coversB md x i = true) : ∃ e ∈ x.after, Region.binds md e = true ∧ e.on = i := by
  unfold coversB at h
  obtain ⟨e, he, hh⟩ := Array.any_eq_true'.1 h
  simp only [Bool.and_eq_true, beq_iff_eq] at hh
  exact ⟨e, he, hh.1, hh.2⟩
theorem covB_spec {x : Oper} {b n0 : Nat} (h : covB md x b n0 = true) : (∀ i, i < n0 → i < b → ∃ e ∈ x.after, Region.binds md e = true ∧ e.on = i) ∧ (n0 < b → ∃ e ∈ x.after, Region.binds md e = true ∧ e.on = b - 1) := by
  unfold covB at h
  simp only [Bool.and_eq_true, Bool.or_eq_true, decide_eq_true_eq] at h
  obtain ⟨h1, h2⟩ := h
  refine ⟨fun i hi hb => coversB_spec (List.all_eq_true.1 h1 i (List.mem_range.2 (by omega))), fun hb => ?_⟩
  rcases h2 with h2 | h2
  · omega
  · exact coversB_spec h2
theorem getD_in' {listed : Array Bool} {i : Nat} (h : listed.getD i false = true) : i < listed.size := by
  rcases Nat.lt_or_ge i listed.size with h1 | h1
  · exact h1
  · have h2 : ¬ i < listed.size := by omega
    simp [h2] at h
theorem lastB_spec {l : List Oper} {o : Oper} {n0 : Nat} (h : lastB md l o n0 = true) : LastP md l o n0 := by
  unfold lastB at h
  simp only [Bool.and_eq_true] at h
  obtain ⟨⟨⟨⟨h1, h2⟩, h3⟩, h5⟩, h4⟩ := h
  refine ⟨fun x hx => ?_, fun j x hj e he hb => ?_, fun j x hj hn => ?_, covB_spec h5, fun e he hb => ?_⟩
  · have := List.all_eq_true.1 h1 x hx
    exact Option.isNone_iff_eq_none.1 this
  · have hjl : j < l.length := (List.getElem?_eq_some_iff.1 hj).1
    have := List.all_eq_true.1 h2 j (List.mem_range.2 hjl)
    rw [hj] at this
    simp only [Option.map_some, Option.getD_some, Array.all_eq_true_iff_forall_mem, Bool.or_eq_true, Bool.not_eq_true', decide_eq_true_eq] at this
    rcases this e he with h | h
    · rw [hb] at h; cases h
    · exact h
  · have hjl : j < l.length := (List.getElem?_eq_some_iff.1 hj).1
    have := List.all_eq_true.1 h3 j (List.mem_range.2 hjl)
    rw [hj] at this
    simp only [Option.map_some, Option.getD_some, Bool.or_eq_true, decide_eq_true_eq] at this
    rcases this with h | h
    · omega
    · obtain ⟨g1, g2⟩ := covB_spec h
      exact ⟨fun i hi => g1 i hi (by omega), g2⟩
  · simp only [Array.all_eq_true_iff_forall_mem, Bool.or_eq_true, Bool.not_eq_true', decide_eq_true_eq] at h4
    rcases h4 e he with h | h
    · rw [hb] at h; cases h
    · exact h
/-- What is listed, has those listed for which it waits. -/
def Closed (md : Region.Mode) (l : List Oper) (listed : Array Bool) : Prop := ∀ j x, l[j]? = some x → listed.getD j false = true → ∀ e ∈ x.after, Region.binds md e = true → listed.getD e.on false = true
theorem Closed.set {l : List Oper} {listed : Array Bool} (h : Closed md l listed) {i : Nat} (hi : i ∈ Region.ready md l.toArray listed) : Closed md l (listed.setIfInBounds i true) := by
  intro j x hx hj e he hb
  have key : listed.getD e.on false = true := by
    by_cases e1 : j = i
    · subst e1
      rw [mem_ready] at hi
      obtain ⟨-, y, hy, hh⟩ := hi
      have : y = x := by
        have h1 : l.toArray[j]? = some x := by simpa using hx
        rw [h1] at hy; exact (Option.some.inj hy).symm
      subst this
      have := hh e he hb
      first | exact this | (simpa using this)
    · rw [getD_set_ne false (by omega)] at hj
      exact h j x hx hj e he hb
  by_cases e2 : e.on = i
  · rw [e2] at key ⊢
    have hin := getD_in' key
    simp [hin]
  · rw [getD_set_ne false (by omega)]; exact key
theorem wanted_free {o : Oper} (h : o.guard = none) (y : Nat → Option Bool) : Region.wanted o y = true := by simp [Region.wanted, h]
theorem ready_all {l : List Oper} {o : Oper} {n0 : Nat} (hp : LastP md l o n0) {listed : Array Bool} (hs : listed.size = l.length) (hr : Region.ready md l.toArray listed = []) : ∀ i, i < l.length → listed.getD i false = true := by
  intro i
  induction i using Nat.strongRecOn with
  | ind i ih =>
    intro hi
    cases hl : listed.getD i false with
    | true => rfl
    | false =>
      exfalso
      have hm : i ∈ Region.ready md l.toArray listed := by
        rw [mem_ready]
        have ho : l.toArray[i]? = some l[i] := by simp [hi]
        refine ⟨?_, l[i], ho, fun e he hb => ?_⟩
        · have : i < listed.size := by omega
          simp [this] at hl ⊢; exact hl
        · have := hp.low i l[i] (by simp [hi]) e he hb
          exact ih e.on this (by omega)
      rw [hr] at hm; cases hm
theorem get_low {l : List Oper} {o : Oper} {i : Nat} (hi : i < l.length) : (l ++ [o]).toArray[i]? = l.toArray[i]? := by simp [List.getElem?_append_left hi]
theorem get_last (l : List Oper) (o : Oper) : (l ++ [o]).toArray[l.length]? = some o := by simp
theorem getD_push_lt {listed : Array Bool} {b d : Bool} {i : Nat} (h : i < listed.size) : (listed.push b).getD i d = listed.getD i d := by
  simp [Array.getElem?_push, h, Nat.ne_of_lt h]
theorem push_set {listed : Array Bool} {b : Bool} {i : Nat} (h : i < listed.size) : (listed.push b).setIfInBounds i true = (listed.setIfInBounds i true).push b := by
  apply Array.ext_getElem?
  intro k
  simp only [Array.getElem?_setIfInBounds, Array.getElem?_push, Array.size_setIfInBounds, Array.size_push]
  by_cases h1 : i = k
  · subst h1; simp [h, Nat.ne_of_lt h, Nat.lt_succ_of_lt h]
  · simp [h1]
theorem ready_low {l : List Oper} {o : Oper} {n0 : Nat} (hp : LastP md l o n0) {listed : Array Bool} (hs : listed.size = l.length) {i : Nat} (hi : i < l.length) : i ∈ Region.ready md (l ++ [o]).toArray (listed.push false) ↔ i ∈ Region.ready md l.toArray listed := by
  rw [mem_ready, mem_ready, get_low hi, getD_push_lt (by omega)]
  constructor
  · rintro ⟨h0, x, hx, h⟩
    refine ⟨h0, x, hx, fun e he hb => ?_⟩
    have := hp.low i x (by simpa using hx) e he hb
    rw [← h e he hb, getD_push_lt (by omega)]
  · rintro ⟨h0, x, hx, h⟩
    refine ⟨h0, x, hx, fun e he hb => ?_⟩
    have := hp.low i x (by simpa using hx) e he hb
    rw [← h e he hb, getD_push_lt (by omega)]
theorem ready_last {l : List Oper} {o : Oper} {n0 : Nat} (hp : LastP md l o n0) {listed : Array Bool} (hs : listed.size = l.length) : (∀ i, i < l.length → listed.getD i false = true) → l.length ∈ Region.ready md (l ++ [o]).toArray (listed.push false) := by
  intro h
  rw [mem_ready, get_last]
  refine ⟨by simp [← hs], o, rfl, fun e he hb => ?_⟩
  have := hp.lowO e he hb
  rw [getD_push_lt (by omega)]; exact h _ this
theorem ready_all2 {l : List Oper} {o : Oper} {n0 : Nat} (hp : LastP md l o n0) {listed : Array Bool} (hs : listed.size = l.length) (hc : Closed md l listed) (hr : l.length ∈ Region.ready md (l ++ [o]).toArray (listed.push false)) : ∀ i, i < l.length → listed.getD i false = true := by
  rw [mem_ready, get_last] at hr
  obtain ⟨-, x, hx, h⟩ := hr
  cases hx
  have low : ∀ i, i < n0 → i < l.length → listed.getD i false = true := fun i hi hl => by
    obtain ⟨e, he, hb, rfl⟩ := hp.last.1 i hi hl
    rw [← h e he hb, getD_push_lt (by omega)]
  have top : ∀ d i, i + d + 1 = l.length → n0 ≤ i → listed.getD i false = true := by
    intro d
    induction d with
    | zero =>
      intro i hi hn
      obtain ⟨e, he, hb, h1⟩ := hp.last.2 (by omega)
      have h2 : e.on = i := by omega
      rw [← h2, ← h e he hb, getD_push_lt (by omega)]
    | succ d ih =>
      intro i hi hn
      have h1 := ih (i + 1) (by omega) (by omega)
      obtain ⟨e, he, hb, h2⟩ := (hp.chain (i + 1) l[i + 1] (by simp) (by omega)).2 (by omega)
      have h3 := hc (i + 1) l[i + 1] (by simp) h1 e he hb
      rw [h2] at h3
      simpa using h3
  intro i hi
  rcases Nat.lt_or_ge i n0 with h1 | h1
  · exact low i h1 hi
  · exact top (l.length - i - 1) i (by omega) h1
theorem ready_done {l : List Oper} {o : Oper} {listed : Array Bool} (hs : listed.size = l.length) (h : ∀ i, i < l.length → listed.getD i false = true) : Region.ready md (l ++ [o]).toArray ((listed.push false).setIfInBounds l.length true) = [] := by
  rw [List.eq_nil_iff_forall_not_mem]
  intro j hj
  rw [mem_ready] at hj
  obtain ⟨h0, x, hx, -⟩ := hj
  have hjl : j < l.length + 1 := by
    have := (Array.getElem?_eq_some_iff.1 hx).1
    simpa using this
  by_cases e : j = l.length
  · subst e
    simp [← hs] at h0
  · rw [getD_set_ne true (by omega), getD_push_lt (by omega)] at h0
    have := h j (by omega)
    have hjs : j < listed.size := by omega
    simp [hjs] at h0 this
    rw [h0] at this; cases this
theorem wpAny_nil {ops : Array Oper} {fuel : Nat} {listed : Array Bool} {a : Act} {w : World} (hr : Region.ready md ops listed = []) (h : Q .normal a w) : wpAny P md ops Q fuel listed a w := by
  cases fuel with
  | zero => exact ⟨hr, h⟩
  | succ f => exact ⟨fun _ => h, fun i hi => by rw [hr] at hi; cases hi⟩
theorem wpAny_last {l : List Oper} {o : Oper} {n0 : Nat} (hp : LastP md l o n0) : ∀ (fuel : Nat) (listed : Array Bool) (a : Act) (w : World), listed.size = l.length → Closed md l listed →
    wpAny P md l.toArray (lastQ P o Q) fuel listed a w → wpAny P md (l ++ [o]).toArray Q (fuel + 1) (listed.push false) a w := by
  intro fuel
  have hfin : ∀ (f : Nat) (listed : Array Bool) (a : Act) (w : World), listed.size = l.length → (∀ i, i < l.length → listed.getD i false = true) → lastQ P o Q .normal a w → wpAny P md (l ++ [o]).toArray Q (f + 1) (listed.push false) a w := by
    intro f listed a w hs hall hq
    refine ⟨fun hr => ?_, fun i hi => ?_⟩
    · have := (ready_last hp hs) hall
      rw [hr] at this; cases this
    · have hil : i = l.length := by
        rcases Nat.lt_or_ge i l.length with h | h
        · exfalso
          rw [mem_ready] at hi
          have h0 := hi.1
          rw [getD_push_lt (by omega)] at h0
          have h1 := hall i h
          have his : i < listed.size := by omega
          simp [his] at h0 h1
          rw [h0] at h1; cases h1
        · rw [mem_ready] at hi
          obtain ⟨-, x, hx, -⟩ := hi
          have := (Array.getElem?_eq_some_iff.1 hx).1
          simp at this; omega
      subst hil
      unfold wpOp
      rw [get_last]
      have hw := wanted_free (hp.free o (by simp)) (yielded (l ++ [o]).toArray a.tmps)
      simp only [hw, if_true]
      exact .inl (Oper.wp_mono (fun a w h => wpAny_nil (ready_done hs hall) h) hq)
  induction fuel with
  | zero =>
    intro listed a w hs hcl h
    exact hfin 0 listed a w hs (ready_all hp hs h.1) h.2
  | succ f ih =>
    intro listed a w hs hcl h
    by_cases hr : Region.ready md l.toArray listed = []
    · exact hfin (f + 1) listed a w hs (ready_all hp hs hr) (h.1 hr)
    · refine ⟨fun hn => ?_, fun i hi => ?_⟩
      · exfalso
        obtain ⟨i, hi⟩ := List.exists_mem_of_ne_nil _ hr
        have hil : i < l.length := by
          rw [mem_ready] at hi
          obtain ⟨-, x, hx, -⟩ := hi
          have := (Array.getElem?_eq_some_iff.1 hx).1
          simpa using this
        have := (ready_low hp hs hil).2 hi
        rw [hn] at this; cases this
      · have hil : i < l.length := by
          rcases Nat.lt_or_ge i l.length with h1 | h1
          · exact h1
          · exfalso
            have hil : i = l.length := by
              rw [mem_ready] at hi
              obtain ⟨-, x, hx, -⟩ := hi
              have := (Array.getElem?_eq_some_iff.1 hx).1
              simp at this; omega
            subst hil
            have hall := ready_all2 hp hs hcl hi
            apply hr
            rw [List.eq_nil_iff_forall_not_mem]
            intro j hj
            rw [mem_ready] at hj
            obtain ⟨h0, x, hx, -⟩ := hj
            have hjl := (Array.getElem?_eq_some_iff.1 hx).1
            simp at hjl
            have h1 := hall j hjl
            have hjs : j < listed.size := by omega
            simp [hjs] at h0 h1
            rw [h0] at h1; cases h1
        have hop := h.2 i ((ready_low hp hs hil).1 hi)
        unfold wpOp at hop ⊢
        rw [get_low hil]
        have ho : l.toArray[i]? = some l[i] := by simp [hil]
        rw [ho] at hop ⊢
        have hg := hp.free l[i] (by simp)
        simp only [wanted_free hg, if_true] at hop ⊢
        have conv : ∀ a w, wpAny P md l.toArray (lastQ P o Q) f (listed.setIfInBounds i true) a w → wpAny P md (l ++ [o]).toArray Q (f + 1) ((listed.push false).setIfInBounds i true) a w := fun a w hk => by
          rw [push_set (by omega)]
          exact ih _ a w (by simp [hs]) (hcl.set ((ready_low hp hs hil).1 hi)) hk
        rcases hop with hop | ⟨h1, h2⟩
        · exact .inl (wp_lastQ conv hop)
        · exact .inr ⟨h1, h2⟩
theorem wp_region_last {id : Nat} {a : Act} {w : World} {l : List Oper} {o : Oper} {n0 : Nat} (hm : P.follows .mixedOrders = true) (hB : lastB .any l o n0 = true)
    (h : wpAny P .any l.toArray (lastQ P o Q) l.length (Array.replicate l.length false) a w.drew) : (Code.region id (l ++ [o]).toArray true).wp P Q a w := by
  refine wp_region_any hm ?_
  have := wpAny_last (lastB_spec hB) l.length (Array.replicate l.length false) a w.drew (by simp) (fun j x hx hj => by rw [getD_replicate_false] at hj; cases hj) h
  have e : (Array.replicate l.length false).push false = Array.replicate (l ++ [o]).toArray.size false := by
    rw [← Array.replicate_succ]; simp
  rw [e] at this
  simpa using this
theorem wp_toLast {o x : Oper} {a : Act} {w : World} {K K' : Act → World → Prop} (h : ∀ a w, K a w → K' a w) (hh : x.wp P a w K Q) : x.wp P a w K' (lastQ P o Q) := by
  unfold Oper.wp at *
  generalize (execOp a.eval x).run P w = r at *
  cases r with
  | ok n w' =>
    cases n with
    | value v => exact h _ _ hh
    | skip => exact h _ _ hh
    | defer d => exact h _ _ hh
    | enter f args => exact Calls.mono hh (fun e w'' he => by
        cases e with
        | returned v => exact h _ _ he
        | panicked c => exact he
        | outgrown => exact he)
    | row r args => exact Rows.mono hh (fun _ _ he => h _ _ he)
    | _ => exact hh
  | halt x w' => cases x <;> exact hh
/-- Operations that yield the same in every world that meets S, and leave it be. -/
def headH (P : Program) (S : World → Prop) (L : Act → Prop) : List Oper → Act → Prop
  | [], a => L a
  | o :: r, a => ∃ v, (∀ w, S w → (execOp a.eval o).run P w = .ok (.value v) w) ∧ headH P S L r (a.put o.dst v)
/-- Operations in a row, S behind each but the last. -/
def tailH (P : Program) (S : World → Prop) (Q : Exit → Act → World → Prop) : List Oper → Act → World → Prop
  | [], a, w => Q .normal a w
  | [o], a, w => ∀ K : Act → World → Prop, (∀ a' w', Q .normal a' w' → K a' w') → o.wp P a w K Q
  | o :: o2 :: r, a, w => ∀ K : Act → World → Prop, (∀ a' w', S w' → tailH P S Q (o2 :: r) a' w' → K a' w') → o.wp P a w K Q
theorem wpAnyH_seq {ops : Array Oper} {S : World → Prop} {o : Oper} : ∀ (l : List Oper) (k : Nat) (listed : Array Bool) (a : Act) (w : World), (∀ j, l[j]? = ops[k + j]?) → (∀ x ∈ l, x.guard = none) →
    Region.seqB md ops l.length k listed = true → tailH P S Q (l ++ [o]) a w → wpAnyH P md ops (lastQ P o Q) S l.length listed a w
  | [], _, _, a, w, _, _, hB, h => ⟨by simpa [Region.seqB] using hB, h _ (fun a w h => h)⟩
  | x :: l, k, listed, a, w, hl, hg, hB, h => by
    have h0 : ops[k]? = some x := by simpa using (hl 0).symm
    simp only [List.length_cons, Region.seqB, Bool.and_eq_true, decide_eq_true_eq] at hB
    refine ⟨fun h1 => (by rw [hB.1] at h1; cases h1), fun i hi => ?_⟩
    rw [hB.1] at hi
    have hik : i = k := by simpa using hi
    subst hik
    have hh : x.wp P a w (fun a' w' => S w' ∧ tailH P S Q (l ++ [o]) a' w') Q := by
      cases l with
      | nil => exact h _ (fun a w hS h => ⟨hS, h⟩)
      | cons y r => exact h _ (fun a w hS h => ⟨hS, h⟩)
    unfold wpOp
    rw [h0]
    simp only [wanted_free (hg x (by simp)), if_true]
    exact .inl (wp_toLast (fun a' w' hk => ⟨hk.1, wpAnyH_seq l (i + 1) _ a' w' (fun j => by have := hl (j + 1); simpa [Nat.add_assoc, Nat.add_comm 1 j] using this) (fun y hy => hg y (by simp [hy])) hB.2 hk.2⟩) hh)
theorem wpAnyH_lex {ops : Array Oper} {S : World → Prop} {g n : Nat} {w : World} (hS : S w) (hsel : Region.noSelect ops = true) (hQ : ∀ c (a : Act) d v w, Q (.panic c) (a.put d v) w → Q (.panic c) a w) {L : Act → Prop}
    (hL : ∀ listed a, Region.seqB md ops g n listed = true → L a → wpAnyH P md ops Q S g listed a w) :
    ∀ (l : List Oper) (k : Nat) (listed : Array Bool) (a : Act), (∀ j, j < l.length → l[j]? = ops[k + j]?) → k + l.length = n → (∀ x ∈ l, x.guard = none) →
    Region.lexHead md ops g l.length k listed = true → headH P S L l a → wpAnyH P md ops Q S (l.length + g) listed a w
  | [], k, listed, a, _, hk, _, hB, h => by
    have : k = n := by simpa using hk
    subst this
    rw [List.length_nil, Nat.zero_add]
    exact hL listed a (by simpa [Region.lexHead] using hB) h
  | o :: l, k, listed, a, hl, hk, hg, hB, h => by
    have h0 : ops[k]? = some o := by simpa using (hl 0 (by simp)).symm
    simp only [List.length_cons, Region.lexHead, Bool.and_eq_true] at hB
    obtain ⟨⟨hr, hf⟩, hB'⟩ := hB
    have hr' : k ∈ Region.ready md ops listed := by simpa using hr
    obtain ⟨v, hy, hK⟩ := h
    have ih := wpAnyH_lex hS hsel hQ hL l (k + 1) (listed.setIfInBounds k true) (a.put o.dst v) (fun j hj => by have := hl (j + 1) (by simp; omega); simpa [Nat.add_assoc, Nat.add_comm 1 j] using this)
      (by simp only [List.length_cons] at hk; omega) (fun y hy => hg y (by simp [hy])) hB' hK
    rw [List.length_cons, show l.length + 1 + g = (l.length + g) + 1 by omega]
    exact wpAnyH_first h0 (Region.noSelect_spec hsel) (fun c a w h => hQ c a _ _ w h) (l.length + g) listed a w (Region.free_spec h0 hf) hr' (.inl ⟨wanted_free (hg o (by simp)) _, hy⟩) hS ih
/-- n operations that only read; m - n that keep S, in a row; a last one. -/
def fieldB (L : List Oper) (n m n0 : Nat) : Bool :=
  match L.drop m with
  | [o] => lastB .any (L.take m) o n0 && Region.noSelect (L.take m).toArray && decide (n ≤ m) && decide (m < L.length) && Region.lexHead .any (L.take m).toArray (m - n) n 0 (Array.replicate m false)
  | _ => false
theorem wp_region_field {id : Nat} {a : Act} {w : World} {L : List Oper} (n m n0 : Nat) (S : World → Prop) (hm : P.follows .mixedOrders = true) (hB : fieldB L n m n0 = true)
    (hS : S w.drew) (h : headH P S (fun a' => tailH P S (NoPanic Q) (L.drop n) a' w.drew) (L.take n) a) : (Code.region id L.toArray true).wp P Q a w := by
  refine wp_region_noPanic ?_
  have hQ : ∀ c (a : Act) d v w, NoPanic Q (.panic c) (a.put d v) w → NoPanic Q (.panic c) a w := fun _ _ _ _ _ h => h
  generalize NoPanic Q = Q at *
  unfold fieldB at hB
  split at hB
  · rename_i o ho
    simp only [Bool.and_eq_true, decide_eq_true_eq] at hB
    obtain ⟨⟨⟨⟨h1, h2⟩, h3⟩, h4⟩, h5⟩ := hB
    have hLL : L = L.take m ++ [o] := by rw [← ho, List.take_append_drop]
    have hlen : (L.take m).length = m := by rw [List.length_take]; omega
    have hp := lastB_spec h1
    have hgo : L.drop n = (L.take m).drop n ++ [o] := by
      conv => lhs; rw [hLL]
      rw [List.drop_append_of_le_length (by omega)]
    have htn : L.take n = (L.take m).take n := by rw [List.take_take, Nat.min_eq_left h3]
    have hfree : ∀ x ∈ L.take m, x.guard = none := fun x hx => hp.free x (by simp [hx])
    rw [hgo, htn] at h
    rw [hLL]
    refine wp_region_last hm h1 (wpAny_of_held (S := S) _ _ _ _ ?_)
    have hd : ((L.take m).drop n).length = m - n := by rw [List.length_drop, hlen]
    have ht : ((L.take m).take n).length = n := by rw [List.length_take, hlen]; omega
    have := wpAnyH_lex (md := .any) (ops := (L.take m).toArray) (g := m - n) (n := n) (w := w.drew) (Q := lastQ P o Q) hS h2 (fun c a d v w h => hQ c a d v w h)
      (fun listed a' hs hL => by
        have := wpAnyH_seq (P := P) (md := .any) (ops := (L.take m).toArray) (S := S) (Q := Q) (o := o) ((L.take m).drop n) n listed a' w.drew (fun j => by simp [List.getElem?_drop]) (fun x hx => hfree x (List.mem_of_mem_drop hx)) (by rw [hd]; exact hs) hL
        rwa [hd] at this)
      ((L.take m).take n) 0 (Array.replicate m false) a (fun j hj => by rw [ht] at hj; simp [List.getElem?_take, hj]) (by rw [ht]; omega) (fun x hx => hfree x (List.mem_of_mem_take hx)) (by rw [ht]; exact h5) h
    rw [ht, show n + (m - n) = m by omega] at this
    rw [hlen]; exact this
  · cases hB
theorem headH_nil {S : World → Prop} {L : Act → Prop} {a : Act} (h : L a) : headH P S L [] a := h
theorem tailH_step {S : World → Prop} {o o2 : Oper} {r : List Oper} {a : Act} {w : World} (h : ∀ K : Act → World → Prop, (∀ a' w', S w' → tailH P S Q (o2 :: r) a' w' → K a' w') → o.wp P a w K Q) : tailH P S Q (o :: o2 :: r) a w := h
theorem tailH_last {S : World → Prop} {o : Oper} {a : Act} {w : World} (h : ∀ K : Act → World → Prop, (∀ a' w', Q .normal a' w' → K a' w') → o.wp P a w K Q) : tailH P S Q [o] a w := h
theorem headH_step {S : World → Prop} {L : Act → Prop} {o : Oper} {r : List Oper} {a : Act} (v : Value) (h : ∀ w, S w → (execOp a.eval o).run P w = .ok (.value v) w) (hr : headH P S L r (a.put o.dst v)) : headH P S L (o :: r) a := ⟨v, h, hr⟩
end
end Go.Proofs.Ytpkffjcmoghaaaa
/- Walks of the program's functions: some. -/
namespace Go.Proofs.Ytpkffjcmoghaaaa
open Go.RowKit
structure SomeI (w0 : World) (C B : Nat) (p L : Int) (a : Option Addr) (cap : Nat) (S : List P.Star) (T : List P.Star) (v : Value) (w : World) : Prop where
  job : Job w B p L a cap S
  cel : Cells w C [.int .i64 p, .int .i64 L, v]
  row : w.ownsRow (C + 1) 59 3 v T.length (flatS T)
  bel : Below C w0 w
theorem SomeI.on {w0 : World} {C B : Nat} {p L : Int} {a : Option Addr} {cap : Nat} {S T : List P.Star} {v : Value} {w w' : World} (h : SomeI w0 C B p L a cap S T v w) (hb : Below w.heap.size w w') : SomeI w0 C B p L a cap S T v w' :=
  ⟨h.job.on hb, h.cel.on hb, owns_below h.row hb, h.bel.trans (hb.mono (Nat.le_of_lt h.cel.lt))⟩
set_option maxRecDepth 20000 in
set_option maxHeartbeats 4000000 in
theorem someP_any (B : Nat) (p L : Int) (a : Option Addr) (cap : Nat) (S : List P.Star) (ai : Option Addr) (ci : Nat) (I : List Nat) (w : World) (hl : S.length ≤ 1000000) (hlI : I.length ≤ 1000000) (h : Job w B p L a cap S) (hI : Ints .i64 w ai (intsN I)) (hlt : ∀ i ∈ I, i < S.length) :
    Calls Try.prog 66 #[.pointer (some ⟨B, 0, none⟩), .slice ai I.length ci] w fun e w' => ∃ C a' cap', e = .returned (.pointer (some ⟨C, 0, none⟩)) ∧ Job w' C p L a' cap' (P.sel S I) ∧ w.heap.size ≤ C ∧ Below w.heap.size w w' := by
  have x1 := h.x1
  have x2 := h.x2
  have hbB := h.lt
  have hbn : Below w.heap.size w ((w.alloc (.cells #[.int .i64 p, .int .i64 L, .slice none 0 0] 77)).drew) := (Below.new w _).drew
  have hsz0 : True := trivial
  have HI0 := Lib.hid (show SomeI w w.heap.size B p L a cap S (P.sel S (I.take 0)) (.slice none 0 0) ((w.alloc (.cells #[.int .i64 p, .int .i64 L, .slice none 0 0] 77)).drew) from
    ⟨h.on hbn, (Cells.new w #[.int .i64 p, .int .i64 L, .slice none 0 0] 77).on ((Below.refl _ _).drew), World.ownsRow_nil _ _ _ _, hbn⟩)
  have HA0 := Lib.hid h.st.lt
  have HIn := Lib.hid hI
  have HLt := Lib.hid hlt
  clear h hI hbn hlt
  go_enter Try.func66, Try.ntmps66
  go_wp2_with fail
  go_still_tail 12, (by kernel_rfl)
  change wpList _ _ _ _ _ w.drew
  go_wp2_with fail
  generalize (w.alloc (.cells #[.int .i64 p, .int .i64 L, .slice none 0 0] 77)).drew = W1 at *
  obtain ⟨C, hC⟩ : ∃ C, w.heap.size = C := ⟨_, rfl⟩
  rw [hC] at HI0 HA0 hbB ⊢
  have HCe := Lib.hid hC
  clear hC x1 x2 hsz0
  go_loopw [7, 23] (fun _ i wr => ∃ (j : Nat) (v : Value), j ≤ I.length ∧ i = .int .i64 j ∧ Hid (SomeI w C B p L a cap S (P.sel S (I.take j)) v wr)) (fun _ i _ => I.length - (intOf i).toNat)
  case atStart => exact ⟨0, _, by omega, rfl, HI0⟩
  case round =>
    clear HI0
    obtain ⟨j, v, hj, rfl, HI⟩ := hrel
    by_cases hlt : j < I.length
    · have hij : I[j] < S.length := HLt.out _ (List.getElem_mem hlt)
      obtain ⟨bi, oi, rfl, -⟩ := HIn.out j (by rw [intsN_length]; exact hlt)
      have hci := cell_on (by rw [HCe.out]; exact HI.out.bel) (HIn.out.cellAt j (by rw [intsN_length]; exact hlt))
      have hni : nth (intsN I) j = ((I[j] : Nat) : Int) := by simp [nth, intsN, hlt]
      rw [hni] at hci
      have hTk : P.sel S (I.take (j + 1)) = P.sel S (I.take j) ++ [P.star S I[j]] := by rw [List.take_succ_eq_append_getElem hlt, sel_snoc]
      have HTk := Lib.hid hTk
      have hTl : (P.sel S (I.take j)).length = j := by simp [P.sel, List.length_take]; omega
      have HTl := Lib.hid hTl
      clear hni hTk hTl
      generalize I[j] = m at *
      generalize P.sel S (I.take j) = T at *
      have hI3 : (j : Int) < (I.length : Int) := by omega
      obtain ⟨sb, soff, hae, s1, s2, s3⟩ := HI.out.job.st m hij
      have hsb : sb < C := HA0.out (by omega) sb soff hae
      subst hae
      have y2 := HI.out.cel.cel 2 _ rfl
      have x3 := HI.out.job.x3
      have k1 : (0 : Int) ≤ (m : Int) := by omega
      have k2 : (m : Int) < (S.length : Int) := by omega
      go_wp2_with fail
      clear hci
      refine wp_region_field 14 19 16 (fun w' => w'.cell? ⟨C, 2, none⟩ = some v ∧ w'.cell? ⟨B, 2, none⟩ = some (.slice (some ⟨sb, soff, none⟩) S.length cap) ∧ w'.cell? ⟨sb, soff + m * 3, none⟩ = some (.int .i64 (P.star S m).1) ∧ w'.cell? ⟨sb, soff + m * 3 + 1, none⟩ = some (.int .i64 (P.star S m).2.1) ∧ w'.cell? ⟨sb, soff + m * 3 + 2, none⟩ = some (.int .i64 (P.star S m).2.2)) (by kernel_rfl) (by kernel_rfl) ⟨y2, x3, s1, s2, s3⟩ ?_
      simp only [List.take_succ_cons, List.take_zero, List.drop_succ_cons, List.drop_zero]
      iterate 14 (refine headH_step _ (fun w' hS' => by (obtain ⟨g1, g2, g3, g4, g5⟩ := hS'; simp [execOp, go_sem, *]; try rfl)) ?_)
      refine headH_nil ?_
      change tailH _ _ _ _ _ wr.drew
      refine tailH_step (fun K hK => ?_)
      go_simp
      obtain ⟨W1, hW1⟩ : ∃ W1, W1 = (wr.alloc (.cells #[.int .i64 (P.star S m).1, .int .i64 (P.star S m).2.1, .int .i64 (P.star S m).2.2] 59)).drew := ⟨_, rfl⟩
      rw [← hW1]
      have hb1 : Below wr.heap.size wr W1 := by rw [hW1]; exact (Below.new wr _).drew
      have hnews : ∀ j u, (encS (P.star S m))[j]? = some u → W1.cell? ((⟨wr.heap.size, 0, none⟩ : Addr).add j) = some u := by rw [hW1]; exact news_new wr #[.int .i64 (P.star S m).1, .int .i64 (P.star S m).2.1, .int .i64 (P.star S m).2.2] 59
      have hI1 := HI.out.on hb1
      have hsC := HI.out.cel.lt
      have hsz1 := hb1.size
      have hJ2 : ∀ w2, W1.grownBy w2 v.ownBlock → Job w2 B p L (some ⟨sb, soff, none⟩) cap S := fun w2 hg => hI1.job.kept hg (fun e => by have := (hI1.row.lt _ e).1; omega) (fun _ b off e e2 => by cases e; have := (hI1.row.lt _ e2).1; omega)
      have hC2 : ∀ w2, W1.grownBy w2 v.ownBlock → Cells w2 C [.int .i64 p, .int .i64 L, v] := fun w2 hg => hI1.cel.grown hg (fun e => by have := (hI1.row.lt _ e.symm).1; omega)
      have hB2 : ∀ w2, W1.grownBy w2 v.ownBlock → Below C w w2 := fun w2 hg => hI1.bel.grown hg (by omega) (fun g e => by have := (hI1.row.lt _ e).1; omega)
      have hrow1 := hI1.row
      have hS1 : ∀ w2, Job w2 B p L (some ⟨sb, soff, none⟩) cap S → Cells w2 C [.int .i64 p, .int .i64 L, v] → w2.cell? ⟨C, 2, none⟩ = some v ∧ w2.cell? ⟨B, 2, none⟩ = some (.slice (some ⟨sb, soff, none⟩) S.length cap) ∧ w2.cell? ⟨sb, soff + m * 3, none⟩ = some (.int .i64 (P.star S m).1) ∧ w2.cell? ⟨sb, soff + m * 3 + 1, none⟩ = some (.int .i64 (P.star S m).2.1) ∧ w2.cell? ⟨sb, soff + m * 3 + 2, none⟩ = some (.int .i64 (P.star S m).2.2) := fun w2 h1 h2 => by
        obtain ⟨b', o', e, g1, g2, g3⟩ := h1.st m hij
        cases e
        exact ⟨h2.cel 2 _ rfl, h1.x3, g1, g2, g3⟩
      have hTn : T.length + 1 ≤ 2000000 := by rw [HTl.out]; omega
      clear hW1
      refine hK _ _ (hS1 _ hI1.job hI1.cel) ?_
      clear hK K y2 x3 s1 s2 s3
      refine tailH_step (fun K hK => ?_)
      refine wpApp T22 (.tmp 32) (.tmp 41) rfl (C + 1) v T.length (flatS T) (encS (P.star S m)) 1 1 ⟨wr.heap.size, 0, none⟩ rfl hrow1 rfl rfl hnews (by simp [encS, Value.oneCell']) hTn (by omega) (fun v2 w2 hown2 hg2 hL2 => ?_)
      rw [← flatS_snoc] at hown2
      obtain ⟨-, a2, c2, rfl, -, -⟩ := owns_stars hown2
      have HJ2 := Lib.hid (hJ2 w2 hg2)
      have HC2 := Lib.hid (hC2 w2 hg2)
      have HB2 := Lib.hid (hB2 w2 hg2)
      have HR2 := Lib.hid hown2
      have HS2 := Lib.hid (hS1 w2 HJ2.out HC2.out)
      have hv2 : (Value.slice a2 (T.length + 1) c2).ownBlock ≠ some C := fun e => by have := (hown2.lt _ e).1; omega
      refine hK _ _ HS2.out ?_
      clear hK K hJ2 hC2 hB2 hI1 hnews hrow1 hown2 hg2 hL2 hb1 hS1 HI
      refine tailH_step (fun K hK => ?_)
      go_simp
      refine hK _ _ HS2.out ?_
      clear hK K
      refine tailH_step (fun K hK => ?_)
      go_simp
      refine hK _ _ HS2.out ?_
      clear hK K
      refine tailH_step (fun K hK => ?_)
      go_simp
      refine hK _ _ HS2.out ?_
      clear hK K
      have z2 := HC2.out.cel 2 _ rfl
      have f2 := HC2.out.fr 2
      refine tailH_last (fun K hK => ?_)
      go_simp
      refine hK _ _ (NoPanic.normal ?_)
      clear hK K z2 f2
      have hn : SomeI w C B p L (some ⟨sb, soff, none⟩) cap S (T ++ [P.star S m]) (.slice a2 (T.length + 1) c2) (w2.setCell ⟨C, 2, none⟩ (.slice a2 (T.length + 1) c2)) :=
        ⟨HJ2.out.setAside C 2 _ (by omega) (fun b off e => by cases e; omega), HC2.out.set 2 _ (by simp), by
          rw [List.length_append, List.length_singleton]; exact owns_setOther HR2.out C 2 _ hv2, HB2.out.setCell (p := ⟨C, 2, none⟩) (Nat.le_refl _) _⟩
      have HN := Lib.hid hn
      clear hn hv2
      go_wp2_with fail
      go_roundw
      case rel => exact ⟨j + 1, _, by omega, by go_num, by rw [HTk.out]; exact HN⟩
      case measure => simp [intOf]; omega
    · have hnI : ¬ (j : Int) < (I.length : Int) := by omega
      have hT : I.take j = I := List.take_of_length_le (by omega)
      rw [hT] at HI
      clear hT
      obtain ⟨hlv, a', c', rfl, hst, hcap⟩ := owns_stars HI.out.row
      have hst' := Lib.hid hst
      clear hst hlv
      go_wp2_with fail
      go_ret
      exact ⟨C, rfl, ⟨a', c', Cells.job HI.out.cel hst'.out⟩, by rw [HCe.out]; exact Nat.le_refl _, by rw [HCe.out]; exact HI.out.bel⟩
end Go.Proofs.Ytpkffjcmoghaaaa
