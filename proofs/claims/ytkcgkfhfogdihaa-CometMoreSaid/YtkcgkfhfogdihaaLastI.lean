/- A region that draws its order, by an invariant: each operation keeps it, whatever has come up before. -/
import Derived.Test.YtkcgkfhfogdihaaJ16
namespace Go.Proofs.Ytkcgkfhfogdihaa
open Go
/-- One more has come up. -/
def upd (B : Nat → Bool) (i : Nat) : Nat → Bool := fun j => if j = i then true else B j
section
variable {P : Program} {md : Region.Mode} {Q : Exit → Act → World → Prop}
theorem wpAny_inv {ops : Array Oper} (I : (Nat → Bool) → Act → World → Prop) (hg : ∀ (i : Nat) (o : Oper), ops[i]? = some o → o.guard = none)
    (hstep : ∀ (i : Nat) (o : Oper) (B : Nat → Bool) (a : Act) (w : World), ops[i]? = some o → B i = false → (∀ e ∈ o.after, Region.binds md e = true → B e.on = true) → I B a w → o.wp P a w (fun a' w' => I (upd B i) a' w') Q)
    (hend : ∀ listed a w, listed.size = ops.size → Region.ready md ops listed = [] → I (fun j => listed.getD j false) a w → Q .normal a w) :
    ∀ (fuel : Nat) (listed : Array Bool) (a : Act) (w : World), listed.size = ops.size → listed.toList.countP (fun b => !b) ≤ fuel → I (fun j => listed.getD j false) a w → wpAny P md ops Q fuel listed a w := by
  intro fuel
  induction fuel with
  | zero =>
    intro listed a w hs hc hI
    have hr : Region.ready md ops listed = [] := by
      rw [List.eq_nil_iff_forall_not_mem]
      intro j hj
      obtain ⟨h0, x, hx, -⟩ := mem_ready.1 hj
      have hjl := (Array.getElem?_eq_some_iff.1 hx).1
      have hjs : j < listed.size := by omega
      have h1 : listed[j] = false := by simpa [hjs] using h0
      have : 0 < listed.toList.countP (fun b => !b) := List.countP_pos_iff.2 ⟨false, by rw [← h1]; simp, rfl⟩
      omega
    exact ⟨hr, hend listed a w hs hr hI⟩
  | succ f ih =>
    intro listed a w hs hc hI
    refine ⟨fun hr => hend listed a w hs hr hI, fun i hi => ?_⟩
    obtain ⟨h0, o, ho, hdep⟩ := mem_ready.1 hi
    have hil := (Array.getElem?_eq_some_iff.1 ho).1
    have his : i < listed.size := by omega
    have h1 : listed[i] = false := by simpa [his] using h0
    have hB : listed.getD i false = false := by simpa [his] using h1
    unfold wpOp
    rw [ho]
    simp only [wanted_free (hg i o ho), if_true]
    refine .inl (Oper.wp_mono (fun a' w' hk => ?_) (hstep i o (fun j => listed.getD j false) a w ho hB hdep hI))
    have e : upd (fun j => listed.getD j false) i = fun j => (listed.setIfInBounds i true).getD j false := by
      funext j
      unfold upd
      by_cases hj : j = i
      · subst hj; simp [his]
      · rw [if_neg hj]
        have hj' : ¬ i = j := fun h => hj h.symm
        simp [hj']
    rw [e] at hk
    refine ih _ a' w' (by simp [hs]) ?_ hk
    rw [Array.toList_setIfInBounds, List.countP_set (by simpa using his)]
    simp only [Bool.not_true, Bool.false_eq_true, if_false]
    have h2 : listed.toList[i]'(by simpa using his) = false := by simpa using h1
    rw [h2]
    have : 0 < listed.toList.countP (fun b => !b) := List.countP_pos_iff.2 ⟨false, by rw [← h1]; simp, rfl⟩
    simp only [Bool.not_false, if_true]
    omega
def invB (L : List Oper) (m : Nat) : Bool :=
  match L.drop m with
  | [o] => lastB .any (L.take m) o && decide (m ≤ L.length)
  | _ => false
/-- A region whose last operation waits for all others, by an invariant of the others. -/
theorem wp_region_inv {id : Nat} {a : Act} {w : World} {L : List Oper} (m : Nat) (I : (Nat → Bool) → Act → World → Prop) (hm : P.follows .mixedOrders = true) (hB : invB L m = true)
    (h0 : I (fun _ => false) a w.drew)
    (hstep : ∀ (i : Nat) (o : Oper) (B : Nat → Bool) (a : Act) (w : World), (L.take m)[i]? = some o → B i = false → (∀ e ∈ o.after, Region.binds .any e = true → B e.on = true) → I B a w → ∀ K : Act → World → Prop, (∀ a' w', I (upd B i) a' w' → K a' w') → o.wp P a w K (NoPanic Q))
    (hend : ∀ (B : Nat → Bool) (a : Act) (w : World), (∀ i, i < m → B i = true) → I B a w → ∀ o : Oper, L.drop m = [o] → ∀ K : Act → World → Prop, (∀ a' w', NoPanic Q .normal a' w' → K a' w') → o.wp P a w K (NoPanic Q)) : (Code.region id L.toArray true).wp P Q a w := by
  refine wp_region_noPanic ?_
  generalize NoPanic Q = Q at *
  unfold invB at hB
  split at hB
  · rename_i o ho
    simp only [Bool.and_eq_true, decide_eq_true_eq] at hB
    obtain ⟨h1, h2⟩ := hB
    have hLL : L = L.take m ++ [o] := by rw [← ho, List.take_append_drop]
    have hlen : (L.take m).length = m := by rw [List.length_take]; omega
    have hp := lastB_spec h1
    have hfree : ∀ x ∈ L.take m, x.guard = none := fun x hx => hp.free x (by simp [hx])
    rw [hLL]
    refine wp_region_last hm h1 ?_
    refine wpAny_inv (Q := lastQ P o Q) I (fun i x hx => hfree x (by have := List.mem_of_getElem? (l := L.take m) (i := i) (by simpa using hx); exact this)) (fun i x B a w hx hBi hd hI => ?_) (fun listed a w hs hr hI => ?_) _ _ _ _ (by simp) ?_ ?_
    · exact wp_toLast (fun _ _ h => h) (hstep i x B a w (by simpa using hx) hBi hd hI _ (fun _ _ h => h))
    · have hs' : listed.size = (L.take m).length := by simpa using hs
      have hall := ready_all hp hs' hr
      exact hend _ a w (fun i hi => hall i (by omega)) hI o ho _ (fun _ _ h => h)
    · rw [Array.toList_replicate]
      exact Nat.le_trans List.countP_le_length (by simp)
    · have e : (fun j => (Array.replicate (L.take m).length false).getD j false) = fun _ => false := by
        funext j
        simp only [Array.getD_eq_getD_getElem?, Array.getElem?_replicate]
        split <;> rfl
      rw [e]; exact h0
  · cases hB
theorem op_value {o : Oper} {a : Act} {w w' : World} {v : Value} {K : Act → World → Prop} (h : (execOp a.eval o).run P w = .ok (.value v) w') (hK : K (a.put o.dst v) w') : o.wp P a w K Q := by
  unfold Oper.wp; rw [h]; exact hK
end
/-- The same but for some slots. -/
structure Agr (sl : List Nat) (a0 a : Act) : Prop where
  defers : a.defers = a0.defers
  size : a.tmps.size = a0.tmps.size
  tmps : ∀ k, k ∉ sl → a.tmps[k]? = a0.tmps[k]?
theorem Agr.refl (sl : List Nat) (a : Act) : Agr sl a a := ⟨rfl, rfl, fun _ _ => rfl⟩
theorem Agr.put {sl : List Nat} {a0 a : Act} (h : Agr sl a0 a) {k : Nat} (hk : k ∈ sl) (v : Value) : Agr sl a0 (a.put (some k) v) := by
  refine ⟨h.defers, by simp [Act.put, h.size], fun j hj => ?_⟩
  have hne : k ≠ j := fun e => hj (e ▸ hk)
  simp only [Act.put, Array.getElem?_setIfInBounds, hne, if_false]
  exact h.tmps j hj
theorem Agr.eval {sl : List Nat} {a0 a : Act} (h : Agr sl a0 a) {k : Nat} (hk : k ∉ sl) : a.eval (.tmp k) = a0.eval (.tmp k) := by
  show a.tmps.getD k undef = a0.tmps.getD k undef
  rw [Array.getD_eq_getD_getElem?, Array.getD_eq_getD_getElem?, h.tmps k hk]
theorem eval_put_ne (a : Act) {k j : Nat} (v : Value) (h : j ≠ k) : (a.put (some k) v).eval (.tmp j) = a.eval (.tmp j) := by
  show (a.tmps.setIfInBounds k v).getD j undef = a.tmps.getD j undef
  have h' : ¬ k = j := fun e => h e.symm
  rw [Array.getD_eq_getD_getElem?, Array.getD_eq_getD_getElem?, Array.getElem?_setIfInBounds, if_neg h']
theorem eval_put_same (a : Act) {k : Nat} (v : Value) (h : k < a.tmps.size) : (a.put (some k) v).eval (.tmp k) = v := by
  show (a.tmps.setIfInBounds k v).getD k undef = v
  rw [Array.getD_eq_getD_getElem?, Array.getElem?_setIfInBounds, if_pos rfl, if_pos h]; rfl
/-- The frame, from that with which the region was entered. -/
def fills (a0 a : Act) : List Nat → Act
  | [] => a0
  | k :: r => (fills a0 a r).put (some k) (a.eval (.tmp k))
theorem fills_size (a0 a : Act) : ∀ sl, (fills a0 a sl).tmps.size = a0.tmps.size
  | [] => rfl
  | k :: r => by simp [fills, Act.put, fills_size a0 a r]
theorem fills_defers (a0 a : Act) : ∀ sl, (fills a0 a sl).defers = a0.defers
  | [] => rfl
  | k :: r => by simp [fills, Act.put, fills_defers a0 a r]
theorem fills_get (a0 a : Act) (hs : a.tmps.size = a0.tmps.size) : ∀ sl k, k < a0.tmps.size → (fills a0 a sl).tmps[k]? = if k ∈ sl then a.tmps[k]? else a0.tmps[k]?
  | [], k, _ => by simp [fills]
  | j :: r, k, hk => by
    have ih := fills_get a0 a hs r k hk
    simp only [fills, Act.put, Array.getElem?_setIfInBounds, fills_size]
    by_cases e : j = k
    · subst e
      rw [if_pos rfl, if_pos hk, if_pos (by simp)]
      show some (a.tmps.getD j undef) = _
      rw [Array.getD_eq_getD_getElem?]
      have : j < a.tmps.size := by omega
      simp [this]
    · rw [if_neg e, ih]
      have e' : ¬ k = j := fun h => e h.symm
      simp [e']
theorem Agr.back {sl : List Nat} {a0 a : Act} (h : Agr sl a0 a) : a = fills a0 a sl := by
  have ht : a.tmps = (fills a0 a sl).tmps := by
    apply Array.ext_getElem?
    intro k
    by_cases hk : k < a0.tmps.size
    · rw [fills_get a0 a h.size sl k hk]
      split
      · rfl
      · rename_i hn; exact h.tmps k hn
    · rw [Array.getElem?_eq_none (by rw [h.size]; omega), Array.getElem?_eq_none (by rw [fills_size]; omega)]
  have hd : a.defers = (fills a0 a sl).defers := by rw [fills_defers]; exact h.defers
  cases a with
  | mk t df =>
    cases hf : fills a0 ⟨t, df⟩ sl with
    | mk t2 d2 =>
      rw [hf] at ht hd
      simp only at ht hd
      rw [ht, hd]
end Go.Proofs.Ytkcgkfhfogdihaa
