/- One text of ComM. -/
import Derived.Test.YtcjbnifafofpbaaGreatDoorJ14
import Derived.DeepKeys4
import Derived.Maps.OwnSet
import Derived.Maps.StringElems
import Derived.Maps.RangeWalk
/- Walks of the program's functions: the state of a word; the map of kept words. -/
namespace Go.Proofs.YtcjbnifafofpbaaGreatDoor
open Go.RowKit Go.Lib Go.Sort
open Go.Maps (Keyed)
set_option maxRecDepth 20000 in
set_option maxHeartbeats 1000000 in
theorem state_any (B : Nat) (a : Option Addr) (cap : Nat) (l : List X.W) (u : X.W) (w : World) (hl : l.length ≤ 1000) (hr : ∀ s ∈ l, s.length ≤ 1000) (hc : w.cell? ⟨B, 0, none⟩ = some (.slice a l.length cap)) (hs : Strs w a l) :
    Calls Tryz.prog 112 #[.pointer (some ⟨B, 0, none⟩), sv u] w fun e w' => e = .returned (.agg #[.bool (decide (u ∈ l)), .string ⟨(X.cat (X.ends l u)).toArray⟩]) ∧ RowKit.Below w.heap.size w w' := by
  obtain ⟨W, hW⟩ : ∃ W, w.alloc (.cells #[.bool false, .string ⟨#[]⟩] 119) = W := ⟨_, rfl⟩
  have hb0 : RowKit.Below w.heap.size w W := by rw [← hW]; exact Below.new _ _
  have hcl : Cells W w.heap.size [.bool false, .string ⟨#[]⟩] := by rw [← hW]; exact Cells.new w #[.bool false, .string ⟨#[]⟩] 119
  have hc0 := cell_on hb0 hc
  have hs0 := hs.below hb0
  have c1 : ∀ d os, Calls Tryz.prog 79 #[.slice a l.length cap, sv u] (grow (redrawn W d) os) fun e w' => e = .returned (.bool (decide (u ∈ l))) ∧ ∃ p : Regrown, w' = grow (redrawn W p.d) p.os := fun d os =>
    Calls.regrown_of ((contains_any a cap l u _ (by omega) (hs0.below (below_regrown W d os))).mono (fun e w' ⟨h1, h2⟩ => ⟨h1, by rw [← h2]; exact RowKit.Below.refl _ _⟩))
  have c2 : ∀ d os, Calls Tryz.prog 78 #[.agg #[.slice a l.length cap], sv u] (grow (redrawn W d) os) fun e w' => e = .returned (.string ⟨(X.cat (X.ends l u)).toArray⟩) ∧ ∃ p : Regrown, w' = grow (redrawn W p.d) p.os := fun d os =>
    Calls.regrown_of (form_any a cap l u _ hl hr (hs0.below (below_regrown W d os)))
  have r0 := cell_regrown hc0
  have HB0 := Lib.hid hb0
  have HCl := Lib.hid hcl
  have HW := Lib.hid hW
  clear hb0 hcl hc hs hs0 hc0 hr
  generalize decide (u ∈ l) = D1 at *
  generalize X.cat (X.ends l u) = D2 at *
  go_enter Tryz.func112, Tryz.ntmps112
  go_wp2_with fail
  clear hW
  refine wp_region_quiet_tail (C := fun w' => ∃ p : Regrown, w' = grow (redrawn W p.d) p.os) 14 (by kernel_rfl) (by kernel_rfl) ⟨⟨W.drawn + 1, #[]⟩, by rw [grow_empty]; rfl⟩ ?_
  simp only [List.take_succ_cons, List.take_zero, List.drop_succ_cons, List.drop_zero]
  repeat (quiet_step (fail))
  quiet_step ((go_at_call 79; exact c1 _ _))
  repeat (quiet_step (fail))
  quiet_step ((go_at_call 78; exact c2 _ _))
  repeat (quiet_step (fail))
  refine wpQuiet_nil ?_
  intro W6' hw'
  obtain ⟨⟨dq, osq⟩, hw''⟩ := hw'
  obtain ⟨W6, rfl⟩ : ∃ W6, W6 = W6' := ⟨_, rfl⟩
  have hb6 : RowKit.Below W.heap.size W W6 := by rw [hw'']; exact below_regrown W dq osq
  have hc6 := HCl.out.on hb6
  have HB6 := Lib.hid (HB0.out.trans (hb6.mono HB0.out.size))
  have z0 := hc6.cel 0 _ rfl
  have z1 := hc6.cel 1 _ rfl
  have f0 := hc6.fr 0
  have f1 := hc6.fr 1
  have HC6 := Lib.hid hc6
  clear hw'' hb6 hc6 c1 c2 r0
  go_wp2_with fail
  have hc7 := (HC6.out.set 0 (.bool D1) (by simp)).set 1 (.string ⟨D2.toArray⟩) (by simp)
  have k0 := hc7.cel 0 _ rfl
  have k1 := hc7.cel 1 _ rfl
  have hb7 := (HB6.out.setCell (p := ⟨w.heap.size, 0, none⟩) (Nat.le_refl _) (.bool D1)).setCell (p := ⟨w.heap.size, 1, none⟩) (Nat.le_refl _) (.string ⟨D2.toArray⟩)
  exact bodyPost_ret (v := .agg #[.bool D1, .string ⟨D2.toArray⟩]) (by simp [results, Tryz.results112, go_sem, k0, k1]) rfl ⟨rfl, hb7⟩
theorem law119 : Keyed Tryz.prog 119 := Keyed.of_law (deep_law_laid (by kernel_rfl) (m := 2) (by omega) (of_decide_eq_true (by kernel_rfl)) (by kernel_rfl) (by rw [Tryz.underlying119]))
/-- A state, as a key. -/
abbrev keyV (b : Bool) (s : X.W) : Value := .agg #[.bool b, .string ⟨s.toArray⟩]
theorem cells119 : Tryz.prog.cellsOf 119 = 2 := by kernel_rfl
theorem cells4 : Tryz.prog.cellsOf 4 = 1 := by kernel_rfl
theorem cells9 : Tryz.prog.cellsOf 9 = 1 := by kernel_rfl
theorem key119 (b : Bool) (s : X.W) (hs : s.length ≤ 2000000) : ∃ kl, keyOf Tryz.prog 119 (keyV b s) = some kl := by
  have hk : Tryz.prog.keyType 119 = true := by kernel_rfl
  have hsz : (ByteArray.mk s.toArray).size ≤ maxLen := by show (bs s).size ≤ maxLen; rw [bs_size]; unfold maxLen; omega
  have hl : Tryz.prog.keyLits 190 119 [.bool b, .string ⟨s.toArray⟩] = some [.bool b, .string s] := by
    have h4 : Tryz.prog.keyLits 189 4 [.bool b] = some [.bool b] := by unfold Program.keyLits; rw [Tryz.underlying4]
    have h9 : Tryz.prog.keyLits 189 9 [.string ⟨s.toArray⟩] = some [.string s] := by unfold Program.keyLits; rw [Tryz.underlying9]; simp [hsz]
    unfold Program.keyLits
    rw [Tryz.underlying119]
    simp [cells119, cells4, cells9, h4, h9]
  unfold keyOf
  rw [Tryz.underlying119]
  simp [Value.formed, Tryz.underlying119, hk, cells119]
  show ∃ x a, Tryz.prog.keyLits 190 119 [.bool b, .string ⟨s.toArray⟩] = some a ∧ _
  exact ⟨_, _, hl, rfl⟩
/-- The key of a state. -/
noncomputable def kOf (b : Bool) (s : X.W) : Lit := (keyOf Tryz.prog 119 (keyV b s)).getD (.bool false)
theorem kOf_eq {b : Bool} {s : X.W} (hs : s.length ≤ 2000000) : keyOf Tryz.prog 119 (keyV b s) = some (kOf b s) := by
  obtain ⟨k, hk⟩ := key119 b s hs
  unfold kOf; rw [hk]; rfl
theorem kOf_inj {b b' : Bool} {s s' : X.W} (hs : s.length ≤ 2000000) (hs' : s'.length ≤ 2000000) (h : kOf b s = kOf b' s') : s = s' := by
  have h1 := kOf_eq (b := b) hs
  have h2 := kOf_eq (b := b') hs'
  rw [h] at h1
  have := law119.inj h1 h2
  simp only [Value.agg.injEq] at this
  have h3 := congrArg (fun q : Array Value => q[1]?) this
  simp at h3
  exact h3
/-- The key of a word. -/
noncomputable def kw (l : List X.W) (u : X.W) : Lit := kOf (decide (u ∈ l)) (X.cat (X.ends l u))
/-- A list whose words are few, short, and of letters. -/
structure Fine (l : List X.W) : Prop where
  few : l.length ≤ 1000
  short : ∀ s ∈ l, s.length ≤ 1000
  lett : ∀ s ∈ l, X.letters s = true
theorem cat_bd {l : List X.W} (h : Fine l) (u : X.W) : (X.cat (X.ends l u)).length ≤ 2000000 := by
  have h1 := cat_len (p := X.ends l u) (fun e he => by have := h.short _ (X.mem_ends.1 he); rw [List.length_append] at this; omega)
  have h2 := Nat.le_trans (ends_len_le l u) h.few
  omega
theorem kw_eq {l : List X.W} (h : Fine l) (u : X.W) : keyOf Tryz.prog 119 (keyV (decide (u ∈ l)) (X.cat (X.ends l u))) = some (kw l u) := kOf_eq (cat_bd h u)
theorem kw_iff {l : List X.W} (h : Fine l) {u v : X.W} : kw l u = kw l v ↔ X.ends l u = X.ends l v := by
  constructor
  · intro e; exact (X.cat_ends h.lett).1 (kOf_inj (cat_bd h u) (cat_bd h v) e)
  · intro e
    have hm : (u ∈ l) ↔ (v ∈ l) := by rw [X.mem_by_ends, X.mem_by_ends (w := v), e]
    unfold kw
    rw [e, decide_eq_decide.2 hm]
/-- The map holds some words, each by its own state. -/
structure MapIs (l m : List X.W) (D : DataW Unit) : Prop where
  isMap : Maps.IsMap D
  at_ : ∀ v ∈ m, ∀ z, D.atKey (kw l v) z = .lit (.string v)
  has : ∀ v ∈ m, Maps.has D (kw l v) = true
  only : ∀ k, Maps.has D k = true → ∃ v ∈ m, kw l v = k
theorem MapIs.empty (l : List X.W) : MapIs l [] (.map []) := ⟨Maps.isMap_empty, fun v h => (by cases h), fun v h => (by cases h), fun k h => (by cases h)⟩
set_option maxRecDepth 20000 in
theorem MapIs.put {l m : List X.W} {D : DataW Unit} (hl : Fine l) (h : MapIs l m D) (u : X.W) : MapIs l (u :: m.filter (fun x => X.ends l x != X.ends l u)) ((D.del (kw l u)).put (kw l u) (.lit (.string u))) := by
  have hk : WideAt.IsKeyLit (kw l u) := law119.key (kw_eq hl u)
  have hD := h.isMap.del (kw l u)
  refine ⟨hD.put _ _, fun v hv z => ?_, fun v hv => ?_, fun k hk2 => ?_⟩
  · rcases List.mem_cons.1 hv with rfl | hv
    · exact Maps.atKey_put_same hD hk _ _
    · obtain ⟨hv, hne⟩ := List.mem_filter.1 hv
      have hne : kw l v ≠ kw l u := fun e => by rw [kw_iff hl] at e; simp [e] at hne
      rw [Maps.atKey_put_other hne, Maps.atKey_del_other hne]
      exact h.at_ v hv z
  · rcases List.mem_cons.1 hv with rfl | hv
    · exact Maps.has_put_same hD hk _
    · obtain ⟨hv, hne⟩ := List.mem_filter.1 hv
      have hne : kw l v ≠ kw l u := fun e => by rw [kw_iff hl] at e; simp [e] at hne
      rw [Maps.has_put_other hne, Maps.has_del_other hne]
      exact h.has v hv
  · by_cases e : k = kw l u
    · exact ⟨u, by simp, e.symm⟩
    · rw [Maps.has_put_other e, Maps.has_del_other e] at hk2
      obtain ⟨v, hv, rfl⟩ := h.only k hk2
      refine ⟨v, List.mem_cons_of_mem _ (List.mem_filter.2 ⟨hv, ?_⟩), rfl⟩
      rw [bne_iff_ne]
      intro e2
      exact e ((kw_iff hl).2 e2)
theorem plain9 {v : Value} {x : X.W} {ps : List MemPlace} (h : plainElem (H := Unit) Tryz.prog 9 v = some (.lit (.string x), ps)) : v = sv x := by
  obtain ⟨s, rfl, hz, -⟩ := plainElem_string_inv Tryz.underlying9 h
  simp only [Prod.mk.injEq, DataW.lit.injEq, Lit.string.injEq] at hz
  rw [hz.1]
theorem plain9_mk {x : X.W} (hx : x.length ≤ 1000000) : plainElem (H := Unit) Tryz.prog 9 (sv x) = some (.lit (.string x), []) := by
  have := plainElem_string (H := Unit) Tryz.underlying9 (s := bs x) (by rw [bs_size]; unfold maxLen; omega)
  rw [show (bs x).data.toList = x from bs_list x] at this
  exact this
/-- What is kept. -/
structure KM (l pre m : List X.W) (mb n : Nat) (D : DataW Unit) (w : World) : Prop where
  own : w.ownsMap Tryz.prog 119 (plainElem Tryz.prog 9) mb n D
  is_ : MapIs l m D
  kept : X.Kept2 l pre m
  bd : n ≤ pre.length
attribute [local go_sem] bytesLess_lt
set_option maxRecDepth 20000 in
set_option maxHeartbeats 4000000 in
theorem keep_any (c1 c2 B mb n : Nat) (a : Option Addr) (cap : Nat) (l pre m : List X.W) (D : DataW Unit) (u : X.W) (w : World) (hl : Fine l) (hu : u.length ≤ 1000) (hp : pre.length ≤ 2000000) (h1 : w.cell? ⟨c1, 0, none⟩ = some (.pointer (some ⟨B, 0, none⟩))) (h2 : w.cell? ⟨c2, 0, none⟩ = some (.map (some mb)))
    (hc : w.cell? ⟨B, 0, none⟩ = some (.slice a l.length cap)) (hs : Strs w a l) (hm : KM l pre m mb n D w) :
    Calls Tryz.prog 111 #[sv u, .pointer (some ⟨c1, 0, none⟩), .pointer (some ⟨c2, 0, none⟩)] w fun e w' => e = .returned (.tuple #[]) ∧ (∃ m' n' D', KM l (pre ++ [u]) m' mb n' D' w') ∧ w.grownBy w' (some mb) := by
  have HSt := Lib.hid (state_any B a cap l u w hl.few hl.short hc hs)
  have hkey := kw_eq hl u
  have HKey := Lib.hid hkey
  have HM := Lib.hid hm
  have HFi := Lib.hid hl
  have H2 := Lib.hid h2
  clear hc hs hkey
  have HHas : ∃ b, Maps.has D (kw l u) = b := ⟨_, rfl⟩
  obtain ⟨bh, hbh⟩ := HHas
  have HHb := Lib.hid hbh
  have hnm : n < maxLen := by have := hm.bd; unfold maxLen; omega
  have HPl := Lib.hid (plain9_mk (x := u) (by omega))
  have HBd : Hid (n + 1 ≤ (pre ++ [u]).length) := Lib.hid (by rw [List.length_append, List.length_singleton]; have := hm.bd; omega)
  have HIs := Lib.hid (hm.is_.put hl u)
  have hmb := World.ownsMap.lt hm.own
  have hc2 := World.block_lt_of_cell? w _ h2
  have hne2 : c2 ≠ mb := by
    intro e
    obtain ⟨es, clock, hb, -⟩ := hm.own
    rw [← e] at hb
    unfold World.cell? at h2
    simp only at h2
    rw [hb] at h2
    cases h2
  have HNe2 := Lib.hid hne2
  have HMb := Lib.hid hmb
  generalize hD1 : decide (u ∈ l) = D1 at *
  generalize hD2 : X.cat (X.ends l u) = D2 at *
  clear hD1 hD2 hl hm
  cases bh with
  | false =>
    have HKe : Hid (X.Kept2 l (pre ++ [u]) (u :: m.filter (fun x => X.ends l x != X.ends l u))) := Lib.hid (HM.out.kept.put (fun v hv he => by
      have h3 := HM.out.is_.has v hv
      rw [(kw_iff HFi.out).2 he, HHb.out] at h3; cases h3) (fun x => by rw [List.mem_cons, List.mem_filter, bne_iff_ne]))
    clear hbh
    go_enter Tryz.func111, Tryz.ntmps111
    go_wp2_with fail
    refine HSt.out.mono ?_
    rintro e w1 ⟨rfl, hb1⟩
    have hg1 := grownBy_of_below hb1 none
    have x2 := cell_on (Below.new w1 (.cells #[.bool D1, .string ⟨D2.toArray⟩] 119)) (cell_on hb1 H2.out)
    have HCn := Lib.hid (Cells.new w1 #[.bool D1, .string ⟨D2.toArray⟩] 119)
    have HNe0 : Hid (some w1.heap.size ≠ some mb) := Lib.hid (fun e => by
      have e2 : w1.heap.size = mb := by injection e
      have e3 := HMb.out; have e4 := hb1.size; omega)
    have hown1 := (HM.out.own.kept hg1 (by simp)).alloc (.cells #[.bool D1, .string ⟨D2.toArray⟩] 119)
    have HO1 := Lib.hid hown1
    have HG1 := Lib.hid (hg1.andThen (World.grownBy_alloc w1 (.cells #[.bool D1, .string ⟨D2.toArray⟩] 119) none) (by simp))
    have HB1 := Lib.hid hb1
    have HX2 := Lib.hid x2
    clear hb1 hg1 hown1
    go_wp2_with (first | (at_lookup; refine wpList_lookup_own_ok _ rfl _ _ 117 rfl 119 9 law119 Tryz.underlying117 (plainElem Tryz.prog 9) (Tryz.zeroValue9 _) (.lit (.string [])) [] (plain9_mk (x := []) (by simp)) mb n D rfl HO1.out (keyV D1 D2) (kw l u) rfl HKey.out ?_; intro v ps hv; rw [HHb.out]; generalize hvv : v = vv; clear hv hvv) | (at_delete; refine wpList_delete_own _ rfl _ _ 117 119 rfl 9 law119 Tryz.underlying117 (plainElem Tryz.prog 9) mb n D rfl HO1.out (keyV D1 D2) (kw l u) rfl HKey.out ?_; intro w3 hown3 hturn3; have hg3 := hturn3.grown; have HO3 := Lib.hid hown3; have HG3 := Lib.hid hg3; have y2 := hg3.cell HX2.out (fun e => HNe2.out (by injection e)); have y0 := hg3.cell (HCn.out.cel 0 _ rfl) HNe0.out; have y1 := hg3.cell (HCn.out.cel 1 _ rfl) HNe0.out; clear hown3 hturn3 hg3) | (at_mapUpdate; refine wpList_mapUpdate_own _ rfl _ _ _ 117 rfl 119 9 law119 Tryz.underlying117 (plainElem Tryz.prog 9) mb n (D.del (kw l u)) rfl HO3.out hnm (keyV D1 D2) (sv u) (kw l u) rfl rfl HKey.out (.lit (.string u)) [] HPl.out ?_; intro w4 hown4 hg4; have HO4 := Lib.hid hown4; have HG4 := Lib.hid hg4; clear hown4 hg4))
    go_end0
    exact ⟨rfl, ⟨_, _, _, HO4.out, HIs.out, HKe.out, HBd.out⟩, ((HG1.out.but (some mb)).andThen HG3.out (fun j e => .inr e)).andThen HG4.out (fun j e => .inr e)⟩
  | true =>
    obtain ⟨v0, hv0, he0⟩ := HM.out.is_.only _ hbh
    have hat := HM.out.is_.at_ v0 hv0 (.lit (.string []))
    rw [he0] at hat
    have HAt := Lib.hid hat
    have he : X.ends l v0 = X.ends l u := (kw_iff HFi.out).1 he0
    have ht1 := bs_tl u
    have ht2 := bs_tl v0
    clear hbh hat he0
    cases hlt : X.lt u v0 with
    | true =>
      have HKe : Hid (X.Kept2 l (pre ++ [u]) (u :: m.filter (fun x => X.ends l x != X.ends l u))) := Lib.hid (HM.out.kept.put (fun v hv he2 => by
        have e : v = v0 := HM.out.kept.uniq hv hv0 (by rw [he2, he])
        rw [e]; exact hlt) (fun x => by rw [List.mem_cons, List.mem_filter, bne_iff_ne]))
      clear he hv0
      go_enter Tryz.func111, Tryz.ntmps111
      go_wp2_with fail
      refine HSt.out.mono ?_
      rintro e w1 ⟨rfl, hb1⟩
      have hg1 := grownBy_of_below hb1 none
      have x2 := cell_on (Below.new w1 (.cells #[.bool D1, .string ⟨D2.toArray⟩] 119)) (cell_on hb1 H2.out)
      have HCn := Lib.hid (Cells.new w1 #[.bool D1, .string ⟨D2.toArray⟩] 119)
      have HNe0 : Hid (some w1.heap.size ≠ some mb) := Lib.hid (fun e => by
      have e2 : w1.heap.size = mb := by injection e
      have e3 := HMb.out; have e4 := hb1.size; omega)
      have hown1 := (HM.out.own.kept hg1 (by simp)).alloc (.cells #[.bool D1, .string ⟨D2.toArray⟩] 119)
      have HO1 := Lib.hid hown1
      have HG1 := Lib.hid (hg1.andThen (World.grownBy_alloc w1 (.cells #[.bool D1, .string ⟨D2.toArray⟩] 119) none) (by simp))
      have HB1 := Lib.hid hb1
      have HX2 := Lib.hid x2
      clear hb1 hg1 hown1
      go_wp2_with (first | (at_lookup; refine wpList_lookup_own_ok _ rfl _ _ 117 rfl 119 9 law119 Tryz.underlying117 (plainElem Tryz.prog 9) (Tryz.zeroValue9 _) (.lit (.string [])) [] (plain9_mk (x := []) (by simp)) mb n D rfl HO1.out (keyV D1 D2) (kw l u) rfl HKey.out ?_; intro v ps hv; have hvv : v = sv v0 := plain9 (by rw [HAt.out] at hv; exact hv); rw [HHb.out, hvv]; clear hv hvv) | (at_delete; refine wpList_delete_own _ rfl _ _ 117 119 rfl 9 law119 Tryz.underlying117 (plainElem Tryz.prog 9) mb n D rfl HO1.out (keyV D1 D2) (kw l u) rfl HKey.out ?_; intro w3 hown3 hturn3; have hg3 := hturn3.grown; have HO3 := Lib.hid hown3; have HG3 := Lib.hid hg3; have y2 := hg3.cell HX2.out (fun e => HNe2.out (by injection e)); have y0 := hg3.cell (HCn.out.cel 0 _ rfl) HNe0.out; have y1 := hg3.cell (HCn.out.cel 1 _ rfl) HNe0.out; clear hown3 hturn3 hg3) | (at_mapUpdate; refine wpList_mapUpdate_own _ rfl _ _ _ 117 rfl 119 9 law119 Tryz.underlying117 (plainElem Tryz.prog 9) mb n (D.del (kw l u)) rfl HO3.out hnm (keyV D1 D2) (sv u) (kw l u) rfl rfl HKey.out (.lit (.string u)) [] HPl.out ?_; intro w4 hown4 hg4; have HO4 := Lib.hid hown4; have HG4 := Lib.hid hg4; clear hown4 hg4))
      go_end0
      exact ⟨rfl, ⟨_, _, _, HO4.out, HIs.out, HKe.out, HBd.out⟩, ((HG1.out.but (some mb)).andThen HG3.out (fun j e => .inr e)).andThen HG4.out (fun j e => .inr e)⟩
    | false =>
      have HKe : Hid (X.Kept2 l (pre ++ [u]) m) := Lib.hid (HM.out.kept.skip hv0 he hlt)
      clear he hv0
      go_enter Tryz.func111, Tryz.ntmps111
      go_wp2_with fail
      refine HSt.out.mono ?_
      rintro e w1 ⟨rfl, hb1⟩
      have hg1 := grownBy_of_below hb1 none
      have x2 := cell_on (Below.new w1 (.cells #[.bool D1, .string ⟨D2.toArray⟩] 119)) (cell_on hb1 H2.out)
      have HCn := Lib.hid (Cells.new w1 #[.bool D1, .string ⟨D2.toArray⟩] 119)
      have HNe0 : Hid (some w1.heap.size ≠ some mb) := Lib.hid (fun e => by
      have e2 : w1.heap.size = mb := by injection e
      have e3 := HMb.out; have e4 := hb1.size; omega)
      have hown1 := (HM.out.own.kept hg1 (by simp)).alloc (.cells #[.bool D1, .string ⟨D2.toArray⟩] 119)
      have HO1 := Lib.hid hown1
      have HG1 := Lib.hid (hg1.andThen (World.grownBy_alloc w1 (.cells #[.bool D1, .string ⟨D2.toArray⟩] 119) none) (by simp))
      have HB1 := Lib.hid hb1
      have HX2 := Lib.hid x2
      clear hb1 hg1 hown1
      go_wp2_with (at_lookup; refine wpList_lookup_own_ok _ rfl _ _ 117 rfl 119 9 law119 Tryz.underlying117 (plainElem Tryz.prog 9) (Tryz.zeroValue9 _) (.lit (.string [])) [] (plain9_mk (x := []) (by simp)) mb n D rfl HO1.out (keyV D1 D2) (kw l u) rfl HKey.out ?_; intro v ps hv; have hvv : v = sv v0 := plain9 (by rw [HAt.out] at hv; exact hv); rw [HHb.out, hvv]; clear hv hvv)
      go_end0
      exact ⟨rfl, ⟨m, n, D, HO1.out, HM.out.is_, HKe.out, by have := HBd.out; omega⟩, HG1.out.but (some mb)⟩
end Go.Proofs.YtcjbnifafofpbaaGreatDoor
