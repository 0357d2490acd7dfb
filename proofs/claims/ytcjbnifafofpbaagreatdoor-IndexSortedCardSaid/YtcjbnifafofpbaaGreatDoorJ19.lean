/- One text of ComS, ComT, ComU, XM, ComV, ComW. -/
import Derived.Test.YtcjbnifafofpbaaGreatDoorJ18
import Derived.LoopN
/- The words of the program's apart. -/
namespace Go.Proofs.YtcjbnifafofpbaaGreatDoor
open Go.RowKit Go.Lib Go.Sort
theorem EF.grown {Bx By : Nat} {a : Option Addr} {cap : Nat} {l : List X.W} {u : X.W} {W W' : World} {row : Option Nat} (h : EF Bx By a cap l u W) (hg : W.grownBy W' row) (hx : some Bx ≠ row) (hy : some By ≠ row) (hab : ∀ b off, a = some ⟨b, off, none⟩ → 0 < l.length → some b ≠ row) : EF Bx By a cap l u W' :=
  ⟨hg.cell h.x hx, hg.cell h.y hy, fun i hi => by obtain ⟨b, off, e, c⟩ := h.s i hi; exact ⟨b, off, e, hg.cell c (hab b off e (by omega))⟩⟩
/-- A row of the call's own lies in a block of cells. -/
theorem owns_cells {w : World} {base : Nat} {e : TypeId} {size : Nat} {v : Value} {n : Nat} {xs : List Value} (h : w.ownsRow base e size v n xs) : ∀ g, v.ownBlock = some g → ∃ o, w.heap[g]? = some o ∧ o.isCells = true := by
  intro g hg
  rcases h.2 with ⟨rfl, -⟩ | ⟨g', cap, cur, rfl, -, hg', -⟩
  · cases hg
  · injection hg with hg; subst hg; exact ⟨_, hg', rfl⟩
/-- 'append' onto a row of the call's own, in a round. -/
theorem listAppIn {F : Fence} {nf : Nat} {t e : TypeId} {z : Value} {size bytes : Nat} (R : RowT t e z size bytes) {ops : Array Oper} {rest : List Oper} {o : Oper} {a : Act} {W : World} {Q : Exit → Act → World → Prop} (hgd : o.guard = none) (s x : Operand)
    (ho : o.op = .call { callee := .builtin .append, args := #[s, x], argTypes := #[t, t] }) (base : Nat) (v : Value) (n : Nat) (xs : List Value) (news : List Value) (m c : Nat) (ad : Addr) (hs : a.eval s = v)
    (hown : W.ownsRow base e size v n xs) (hx : a.eval x = .slice (some ad) m c) (hl : news.length = m * size) (hnews : ∀ j u, news[j]? = some u → W.cell? (ad.add j) = some u) (h1 : ∀ u ∈ news, u.oneCell' = true) (hn : n + m ≤ 2000000) (hbase : base ≤ W.heap.size)
    (h : ∀ v' w', w'.ownsRow base e size v' (n + m) (xs ++ news) → W.grownBy w' v.ownBlock → Lies v v' W.heap.size → wpListIn F nf Tryz.prog ops Q rest (a.put o.dst v') w') :
    wpListIn F nf Tryz.prog ops Q (o :: rest) a W := by
  obtain ⟨i0, hi, hz0, hz1, hz2⟩ := info_parts R.hi
  have hb := R.hs.2
  have hbytes : (n + m) * bytes ≤ 140737488355328 := Nat.le_trans (Nat.mul_le_mul hn hb) (by decide)
  obtain ⟨v', w', hr, h2, h3, _, h5⟩ := run_append_own_at (P := Tryz.prog) W base t o.type e i0 z size bytes R.ht hi hz0 hz1 hz2 R.hz R.hs.1 v n xs hown ad m c news hl hnews h1 (by unfold maxLen; omega) hbytes hbase
  refine wpListIn_plain hgd fun K hK' => ?_
  unfold Oper.wpIn
  refine ⟨?_, ?_⟩
  · simp [Oper.about, ho, resolve, Target.leads, Sem.run_pure]
  · rw [Oper.semAt_plain F _ _ (by rw [ho]; intro c hc'; cases hc')]
    simp [execOp, ho, resolve, invoke, builtin, hs, hx, hr, Result.andThen]
    exact hK' _ _ (h v' w' h2 h3 h5)
/-- What apart keeps between its rounds. -/
structure Ap (w : World) (B pb Bx By : Nat) (u v p0 p1 : X.W) (ds : List Nat) (xs : List X.W) (W : World) : Prop where
  ptr : Boxed W w.heap.size 63 (.pointer (some ⟨B, 0, none⟩))
  sl : Cells W (w.heap.size + 2) [sv u, sv v, sv v, sv u]
  pr : Cells W pb [sv p0, sv p1]
  row : ∃ r, Boxed W (w.heap.size + 1) 22 r ∧ W.ownsRow (w.heap.size + 3) 9 1 r xs.length (xs.map sv) ∧ (∀ g, r.ownBlock = some g → g ≠ pb ∧ g ≠ Bx ∧ g ≠ By)
  bel : RowKit.Below w.heap.size w W
  lb : w.heap.size + 3 ≤ W.heap.size
  df : ∀ D ∈ ds, W.heap[D]? = some (.deferred (some []))
  xy : Bx < W.heap.size ∧ By < W.heap.size
section
variable {w : World} {B pb Bx By : Nat} {u v p0 p1 : X.W} {ds : List Nat} {xs : List X.W} {W W' : World}
theorem Ap.others (h : Ap w B pb Bx By u v p0 p1 ds xs W) {row : Option Nat} {N : Nat} (hN : w.heap.size ≤ N) (hD : ∀ D ∈ ds, D < N) (hg : W.grownBy W' row) (hr : ∀ k, row = some k → N ≤ k ∧ ∃ o, W.heap[k]? = some o ∧ o.isCells = false) : Ap w B pb Bx By u v p0 p1 ds xs W' := by
  have nc : ∀ {k : Nat} {c : Array Value} {t : TypeId} {fz : Nat × Nat}, W.heap[k]? = some (.cells c t fz) → some k ≠ row := fun hk e => by
    obtain ⟨-, o, ho, hc⟩ := hr _ e.symm
    rw [hk] at ho; cases ho; cases hc
  have ncB : ∀ {k : Nat} {L : List Value}, Cells W k L → 0 < L.length → some k ≠ row := fun {k L} hc hl e => by
    obtain ⟨-, o, ho, hcl⟩ := hr _ e.symm
    have h1 := hc.cel 0 _ (List.getElem?_eq_getElem hl)
    unfold World.cell? at h1
    simp only [ho] at h1
    cases o <;> simp_all [Obj.isCells]
  obtain ⟨r, h1, h2, h3⟩ := h.row
  refine ⟨h.ptr.kept hg (nc h.ptr), h.sl.grown hg (ncB h.sl (by simp)), h.pr.grown hg (ncB h.pr (by simp)), ⟨r, h1.kept hg (nc h1), h2.kept hg ?_, h3⟩, h.bel.grown hg h.bel.size (fun k e => Nat.le_trans hN (hr k e).1), Nat.le_trans h.lb hg.size, fun D hd => ?_, Nat.lt_of_lt_of_le h.xy.1 hg.size, Nat.lt_of_lt_of_le h.xy.2 hg.size⟩
  · cases hrb : r.ownBlock with
    | none => exact .inl rfl
    | some g =>
      refine .inr (fun e => ?_)
      obtain ⟨o, ho, hc⟩ := owns_cells h2 g hrb
      obtain ⟨-, o', ho', hc'⟩ := hr _ e.symm
      rw [ho] at ho'; cases ho'; rw [hc] at hc'; cases hc'
  · have hd1 := h.df D hd
    refine (hg.block D (Array.getElem?_eq_some_iff.1 hd1).1 (fun e => ?_)).trans hd1
    have := (hr _ e.symm).1
    have := hD D hd
    omega
theorem Ap.alloc (h : Ap w B pb Bx By u v p0 p1 ds xs W) (o : Obj) : Ap w B pb Bx By u v p0 p1 ds xs (W.alloc o) := by
  obtain ⟨r, h1, h2, h3⟩ := h.row
  have hb := Below.new W o
  exact ⟨h.ptr.alloc o, h.sl.on hb, h.pr.on hb, ⟨r, h1.alloc o, owns_below h2 hb, h3⟩, h.bel.trans (hb.mono h.bel.size), Nat.le_trans h.lb hb.size, fun D hd => (hb.block D (Array.getElem?_eq_some_iff.1 (h.df D hd)).1).trans (h.df D hd), Nat.lt_of_lt_of_le h.xy.1 hb.size, Nat.lt_of_lt_of_le h.xy.2 hb.size⟩
theorem Ap.push (h : Ap w B pb Bx By u v p0 p1 ds xs W) {r r' : Value} {e : X.W} (hb : Boxed W (w.heap.size + 1) 22 r) (ho : W.ownsRow (w.heap.size + 3) 9 1 r xs.length (xs.map sv)) (hn : ∀ g, r.ownBlock = some g → g ≠ pb ∧ g ≠ Bx ∧ g ≠ By)
    (hown : W'.ownsRow (w.heap.size + 3) 9 1 r' (xs.length + 1) (xs.map sv ++ [sv e])) (hg : W.grownBy W' r.ownBlock) (hl : Lies r r' W.heap.size) (h1 : w.heap.size + 3 ≤ pb) :
    Ap w B pb Bx By u v p0 p1 ds (xs ++ [e]) (W'.setCell ⟨w.heap.size + 1, 0, none⟩ r') := by
  have hpl := h.pr.lt
  have hxy := h.xy
  have hlt : ∀ g, r.ownBlock = some g → w.heap.size + 3 ≤ g := fun g e => (ho.lt g e).1
  have hlt' : ∀ g, r'.ownBlock = some g → w.heap.size + 3 ≤ g := fun g e => (hown.lt g e).1
  have n0 : ∀ k, k < w.heap.size + 3 → some k ≠ r.ownBlock := fun k hk e => by have := hlt k e.symm; omega
  refine ⟨Boxed.setOther (h.ptr.kept hg (n0 _ (by omega))) (by omega), (h.sl.grown hg (n0 _ (by omega))).setOther _ _ (by omega), (h.pr.grown hg (fun e => (hn _ e.symm).1 rfl)).setOther _ _ (by omega), ⟨r', Boxed.set _ (hb.kept hg (n0 _ (by omega))), ?_, ?_⟩, (h.bel.grown hg h.bel.size (fun k e => by have := hlt k e; omega)).setCell (p := ⟨w.heap.size + 1, 0, none⟩) (by show w.heap.size ≤ w.heap.size + 1; omega) _, by rw [World.size_setCell]; exact Nat.le_trans h.lb hg.size, fun D hd => ?_, by rw [World.size_setCell]; exact ⟨Nat.lt_of_lt_of_le hxy.1 hg.size, Nat.lt_of_lt_of_le hxy.2 hg.size⟩⟩
  · rw [List.length_append, List.map_append]
    exact owns_setOther hown _ _ _ (fun e => by have := hlt' _ e; omega)
  · intro g hg'
    rcases hl with hl | hl
    · exact hn g (by rw [← hl]; exact hg')
    · rw [hl] at hg'; injection hg' with hg'; subst hg'; exact ⟨by omega, by omega, by omega⟩
  · have hd1 := h.df D hd
    have hd2 : W'.heap[D]? = some (.deferred (some [])) := (hg.block D (Array.getElem?_eq_some_iff.1 hd1).1 (fun e => by
      obtain ⟨o, ho', hc⟩ := owns_cells ho D e.symm
      rw [hd1] at ho'; cases ho'; cases hc)).trans hd1
    refine (Below.heap_setCell W' _ _ D (fun e => ?_)).trans hd2
    have hb' := hb.kept hg (n0 (w.heap.size + 1) (by omega))
    simp only at e
    rw [e] at hd2
    rw [show W'.heap[w.heap.size + 1]? = _ from hb'] at hd2
    cases hd2
theorem Ap.below (h : Ap w B pb Bx By u v p0 p1 ds xs W) (hb : RowKit.Below W.heap.size W W') : Ap w B pb Bx By u v p0 p1 ds xs W' := by
  obtain ⟨r, h1, h2, h3⟩ := h.row
  exact ⟨Boxed.on h.ptr hb, h.sl.on hb, h.pr.on hb, ⟨r, Boxed.on h1 hb, owns_below h2 hb, h3⟩, h.bel.trans (hb.mono h.bel.size), Nat.le_trans h.lb hb.size, fun D hd => (hb.block D (Array.getElem?_eq_some_iff.1 (h.df D hd)).1).trans (h.df D hd), Nat.lt_of_lt_of_le h.xy.1 hb.size, Nat.lt_of_lt_of_le h.xy.2 hb.size⟩
/-- New blocks are none of the row's. -/
theorem Ap.bxy {W0 : World} {Bx' By' : Nat} (h : Ap w B pb Bx' By' u v p0 p1 ds xs W) (h0 : Ap w B pb Bx' By' u v p0 p1 ds xs W0) (hb : RowKit.Below W0.heap.size W0 W) (hx : W0.heap.size ≤ Bx) (hy : W0.heap.size ≤ By) (hxy : Bx < W.heap.size ∧ By < W.heap.size) : Ap w B pb Bx By u v p0 p1 ds xs W := by
  obtain ⟨r, h1, h2, h3⟩ := h0.row
  exact ⟨h.ptr, h.sl, h.pr, ⟨r, Boxed.on h1 hb, owns_below h2 hb, fun g hg => ⟨(h3 g hg).1, by have := (h2.lt g hg).2; omega, by have := (h2.lt g hg).2; omega⟩⟩, h.bel, h.lb, h.df, hxy⟩
theorem Ap.addD (h : Ap w B pb Bx By u v p0 p1 ds xs W) {D : Nat} (hd : W.heap[D]? = some (.deferred (some []))) : Ap w B pb Bx By u v p0 p1 (D :: ds) xs W :=
  ⟨h.ptr, h.sl, h.pr, h.row, h.bel, h.lb, fun E he => by rcases List.mem_cons.1 he with rfl | he; exact hd; exact h.df E he, h.xy⟩
theorem Ap.pair (h : Ap w B pb Bx By u v p0 p1 ds xs W) (q0 q1 : X.W) : Ap w B W.heap.size Bx By u v q0 q1 ds xs (W.alloc (.cells #[sv q0, sv q1] 107)) := by
  have h' := h.alloc (.cells #[sv q0, sv q1] 107)
  obtain ⟨r, h1, h2, h3⟩ := h.row
  have hb := Below.new W (.cells #[sv q0, sv q1] 107)
  exact ⟨h'.ptr, h'.sl, Cells.new W #[sv q0, sv q1] 107, ⟨r, Boxed.on h1 hb, owns_below h2 hb, fun g hg => ⟨by have := (h2.lt g hg).2; omega, (h3 g hg).2⟩⟩, h'.bel, h'.lb, h'.df, h'.xy⟩
theorem Ap.start (w : World) (B : Nat) (u v : X.W) : Ap w B (w.heap.size + 1 + 1 + 1) (w.heap.size + 1 + 1 + 1) (w.heap.size + 1 + 1 + 1) u v u v [] [] ((((w.alloc (.cells #[.pointer (some ⟨B, 0, none⟩)] 63)).alloc (.cells #[.slice none 0 0] 22)).alloc (.cells #[sv u, sv v, sv v, sv u] 107)).alloc (.cells #[sv u, sv v] 107)) := by
  obtain ⟨w1, h1⟩ : ∃ w1, w.alloc (.cells #[.pointer (some ⟨B, 0, none⟩)] 63) = w1 := ⟨_, rfl⟩
  obtain ⟨w2, h2⟩ : ∃ w2, w1.alloc (.cells #[.slice none 0 0] 22) = w2 := ⟨_, rfl⟩
  obtain ⟨w3, h3⟩ : ∃ w3, w2.alloc (.cells #[sv u, sv v, sv v, sv u] 107) = w3 := ⟨_, rfl⟩
  have b1 : RowKit.Below w.heap.size w w1 := by rw [← h1]; exact Below.new _ _
  have b2 : RowKit.Below w1.heap.size w1 w2 := by rw [← h2]; exact Below.new _ _
  have b3 : RowKit.Below w2.heap.size w2 w3 := by rw [← h3]; exact Below.new _ _
  have b4 := Below.new w3 (.cells #[sv u, sv v] 107)
  have s1 : w1.heap.size = w.heap.size + 1 := by rw [← h1]; simp
  have s2 : w2.heap.size = w.heap.size + 1 + 1 := by rw [← h2]; simp [s1]
  have s3 : w3.heap.size = w.heap.size + 1 + 1 + 1 := by rw [← h3]; simp [s2]
  rw [h1, h2, h3]
  have x1 : Boxed w1 w.heap.size 63 (.pointer (some ⟨B, 0, none⟩)) := by rw [← h1]; exact Boxed.new w 63 _
  have x2 : Boxed w2 (w.heap.size + 1) 22 (.slice none 0 0) := by rw [← h2, ← s1]; exact Boxed.new w1 22 _
  have x3 : Cells w3 (w.heap.size + 2) [sv u, sv v, sv v, sv u] := by rw [← h3, show w.heap.size + 2 = w2.heap.size by omega]; exact Cells.new w2 _ 107
  have x4 := Cells.new w3 #[sv u, sv v] 107
  rw [s3] at x4
  exact ⟨Boxed.on (Boxed.on (Boxed.on x1 b2) b3) b4, x3.on b4, x4, ⟨_, Boxed.on (Boxed.on x2 b3) b4, World.ownsRow_nil _ _ _ _, fun g hg => by cases hg⟩, ((b1.trans (b2.mono b1.size)).trans (b3.mono (by omega))).trans (b4.mono (by omega)), by simp; omega, fun D hd => (by cases hd), by simp; omega⟩
end
theorem kothers_below {W W' : World} (h : RowKit.Below W.heap.size W W') : KeepsOthers W W' := ⟨h.size, fun k _ hk _ => (h.block k (Array.getElem?_eq_some_iff.1 hk).1).trans hk⟩
/-- The endings that are none of the other word's. -/
def keptE (l : List X.W) (p1 : X.W) (q : List X.W) : List X.W := q.filter (fun e => !decide (p1 ++ e ∈ l))
theorem keptE_eq (l : List X.W) (p0 p1 : X.W) : keptE l p1 (X.ends l p0) = (X.ends l p0).filter (fun e => !(X.ends l p1).contains e) := by
  unfold keptE
  congr 1
  funext e
  congr 1
  rw [Bool.eq_iff_iff, decide_eq_true_iff, List.contains_iff_mem, X.mem_ends]
theorem keptE_snoc (l : List X.W) (p1 : X.W) (q : List X.W) (e : X.W) : keptE l p1 (q ++ [e]) = if p1 ++ e ∈ l then keptE l p1 q else keptE l p1 q ++ [e] := by
  unfold keptE
  rw [List.filter_append]
  split
  · rename_i h; simp [h]
  · rename_i h; simp [h]
theorem keptE_len (l : List X.W) (p1 : X.W) (q : List X.W) : (keptE l p1 q).length ≤ q.length := List.length_filter_le _ _
end Go.Proofs.YtcjbnifafofpbaaGreatDoor
/- Walks of the program's functions: apart. Printed by tools/apartgen.py. -/
namespace Go.Proofs.YtcjbnifafofpbaaGreatDoor
open Go.RowKit Go.Lib Go.Sort
attribute [local go_sem] Oper.semAt_some
set_option maxRecDepth 20000 in
set_option maxHeartbeats 8000000 in
theorem apartP_any (B : Nat) (a : Option Addr) (cap : Nat) (l : List X.W) (u v : X.W) (w : World) (hl : Fine l) (hu : u.length ≤ 1000000) (hv : v.length ≤ 1000000) (h0 : w.cell? ⟨B, 0, none⟩ = some (.slice a l.length cap)) (hs : Strs w a l) :
    Calls Tryz.prog 76 #[.pointer (some ⟨B, 0, none⟩), sv u, sv v] w fun e w' => ∃ (L : List X.W) (a2 : Option Addr) (c2 : Nat), e = .returned (.slice a2 L.length c2) ∧ L.Perm (X.apart l u v) ∧ L.Pairwise (fun a b => ¬ ltK (fun u => (u.length : Int)) b a) ∧ Strs w' a2 L ∧ RowKit.Below w.heap.size w w' := by
  have HFi := Lib.hid hl
  have HSt := Lib.hid hs
  have HC := Lib.hid h0
  have hbl := World.block_lt_of_cell? w _ h0
  simp only at hbl
  have HBl := Lib.hid hbl
  have HUv := Lib.hid (And.intro hu hv)
  have HLen : Hid (∀ (p : X.W), ∀ e ∈ X.ends l p, e.length ≤ 1000) := Lib.hid (fun p e he => by
    have := hl.short _ (X.mem_ends.1 he)
    rw [List.length_append] at this; omega)
  have HNl : Hid (∀ p : X.W, (X.ends l p).length ≤ 1000) := Lib.hid (fun p => Nat.le_trans (ends_len_le l p) hl.few)
  have HLe : Hid (∀ (k : Nat) (p0 p1 : X.W) (q xs : List X.W), q.length ≤ (X.ends l p0).length → xs.length ≤ 1000 → (xs ++ keptE l p1 q).length ≤ 2000) := Lib.hid (fun k p0 p1 q xs h1 h2 => by
    have h3 := keptE_len l p1 q
    have h4 := HNl.out p0
    rw [List.length_append]; omega)
  have HAb : Hid (∀ b off, a = some ⟨b, off, none⟩ → 0 < l.length → b < w.heap.size) := Lib.hid (fun b off e h => by
    obtain ⟨b', off', e', c⟩ := hs 0 h
    rw [e] at e'; cases e'
    exact World.block_lt_of_cell? w _ c)
  clear hl hs h0 hbl hu hv
  refine (callsIn_wide (n := 3)).1 ?_
  refine callsIn_of_wp_marks Tryz.func76 rfl trivial ?_ rfl
  simp only [Tryz.ntmps76, List.size_toArray, List.length_cons, List.length_nil, Nat.reduceAdd, Nat.reduceSub, Array.replicate_succ, Array.replicate_zero, List.push_toArray, List.append_toArray, List.nil_append, List.cons_append]
  refine wpIn_wide.2 ?_
  go_wp2_with fail
  refine wp_loop_rounds 3 ?_
  rw [rounds_succ]
  go_wp2_with fail
  obtain ⟨w1, hw1⟩ : ∃ w1, ((((w.alloc (.cells #[.pointer (some ⟨B, 0, none⟩)] 63)).alloc (.cells #[.slice none 0 0] 22)).alloc (.cells #[sv u, sv v, sv v, sv u] 107)).alloc (.cells #[sv u, sv v] 107)) = w1 := ⟨_, rfl⟩
  obtain ⟨pb0, hpb0⟩ : ∃ pb0, w.heap.size + 1 + 1 + 1 = pb0 := ⟨_, rfl⟩
  have hA1 : Ap w B pb0 pb0 pb0 u v u v [] [] w1 := by rw [← hw1, ← hpb0]; exact Ap.start w B u v
  have HA0 := Lib.hid hA1
  have HC0 := Lib.hid ((hA1.bel.cell (p := ⟨B, 0, none⟩) HBl.out).trans HC.out)
  have hpb00 : w.heap.size + 3 ≤ pb0 := by omega
  rw [hw1, hpb0]
  clear hw1 hpb0 hA1
  have z0 := cell_regrown HA0.out.ptr.cell
  have z1 := cell_regrown (HA0.out.pr.cel 0 _ rfl)
  have z2 := cell_regrown HC0.out
  refine wp_region_quiet_tail (C := fun w' => ∃ p : Regrown, w' = grow (redrawn w1 p.d) p.os) 6 (by kernel_rfl) (by kernel_rfl) ⟨⟨_, #[]⟩, by rw [grow_empty]; rfl⟩ ?_
  simp only [List.take_succ_cons, List.take_zero, List.drop_succ_cons, List.drop_zero]
  repeat (quiet_step (fail))
  refine wpQuiet_nil ?_
  intro W6' hw'
  obtain ⟨⟨dq, osq⟩, hw''⟩ := hw'
  obtain ⟨W6, rfl⟩ : ∃ W6, W6 = W6' := ⟨_, rfl⟩
  have hb6 : RowKit.Below w1.heap.size w1 W6 := by rw [hw'']; exact below_regrown w1 dq osq
  have HA6 := Lib.hid (HA0.out.below hb6)
  have HS6 := Lib.hid (HSt.out.below HA6.out.bel)
  have HC6 := Lib.hid (cell_on hb6 HC0.out)
  clear hw'' hb6 z0 z1 z2
  go_wp2_with fail
  refine (endingsP_any a cap l u W6).mono ?_
  rintro e w7 ⟨rfl, hw7⟩
  have hEF : EF W6.heap.size (W6.heap.size + 1) a cap l u w7 := by rw [hw7]; exact EF.new HS6.out
  have hpb6 : pb0 < W6.heap.size := HA6.out.pr.lt
  have hb7 : RowKit.Below W6.heap.size W6 w7 := by rw [hw7]; exact (Below.new _ _).alloc (by simp) _
  have hA7 := (HA6.out.below hb7).bxy (Bx := W6.heap.size) (By := W6.heap.size + 1) HA6.out hb7 (Nat.le_refl _) (Nat.le_succ _) (by rw [hw7]; simp only [World.size_alloc]; omega)
  have hs7 : w7.heap.size = W6.heap.size + 1 + 1 := by rw [hw7]; simp
  have HA7 := Lib.hid hA7
  have HC7 := Lib.hid (cell_on hb7 HC6.out)
  have HEF := Lib.hid hEF
  have hlb6 := HA6.out.lb
  have hdl : ∀ D ∈ [], D < w7.heap.size := fun D hd => (Array.getElem?_eq_some_iff.1 (HA7.out.df D hd)).1
  have HDl := Lib.hid hdl
  clear hw7 hEF hb7 hA7 hdl HA0 HC0
  generalize W6.heap.size = bx at *
  go_wp2_with fail
  refine (wpIn_wide (n := 3)).1 ?_
  refine wpIn_rangeFunc_ownF (F := Fence.wide) (n := 3) rfl (by omega) (gf := 124) (lb := #[.pointer (some ⟨bx, 0, none⟩), .pointer (some ⟨bx + 1, 0, none⟩)]) rfl trivial (enters_of Tryz.func124 (by kernel_rfl) rfl)
    (ends_seq 2 (by omega) bx (bx + 1) a cap l u w7 (by have := HFi.out.few; omega) HEF.out) (fun h k x => k (h x)) (fun W k o o' _ hk ho _ he => he.put o' hk ho) (Below.refl _ _) (fun _ => rfl)
    (fun pre W => Ap w B pb0 bx (bx + 1) u v u v [] (keptE l v (raw pre)) W)
    (fun _ _ _ => False) ?hI0 (fun c s X Y row h hg hr => h) (by rw [show raw ([] : List (Ew l u)) = [] from rfl, show keptE l v [] = [] from rfl]; (try rw [List.append_nil]); exact HA7.out)
    (fun x => { tmps := #[.pointer (some ⟨B, 0, none⟩), sv u, sv v, .pointer (some ⟨w.heap.size, 0, none⟩), undef, undef, .slice none 0 0, .pointer (some ⟨w.heap.size + 1, 0, none⟩), undef, .pointer (some ⟨pb0, 0, none⟩), sv x.1, sv u, sv v, .agg #[sv u, sv v], sv v, sv u, .agg #[sv v, sv u], .slice (some ⟨w.heap.size + 2, 0, none⟩) 2 2, .int .i64 2, .int .i64 0, .bool true, .pointer (some ⟨w.heap.size + 2, 0, none⟩), .agg #[sv u, sv v], .pointer (some ⟨B, 0, none⟩), .pointer (some ⟨B, 0, none⟩), .pointer (some ⟨B, 0, none⟩), .agg #[.slice a l.length cap], .pointer (some ⟨pb0, 0, none⟩), sv u, .func (.func 124) #[] #[.pointer (some ⟨bx, 0, none⟩), .pointer (some ⟨bx + 1, 0, none⟩)], sv x.1, undef, undef, undef, undef, undef, undef, undef, undef, undef, undef, undef, undef, undef, undef, undef, undef, undef, undef, undef], defers := [] })
    ?assign0 ?body0 ?done0 ?stop0
  case hI0 =>
    exact fun s X Y row h hg hr => h.others (N := w7.heap.size) (by omega) HDl.out hg (fun k e => hr k e)
  case assign0 =>
    intro ll x W K hK
    gi_wp2
    exact hK
  case body0 =>
    rintro ll pre x W hA hlen
    have hx := HLen.out u _ x.2
    have hmem := keptE_snoc l v (raw pre) x.1
    rw [← raw_snoc] at hmem
    have hln : (keptE l v (raw pre)).length ≤ 2000 := by
      simpa using HLe.out 0 u v (raw pre) ([]) (by rw [raw_len]; exact Nat.le_of_lt hlen) (by first | exact Nat.zero_le _ | exact Nat.le_trans (keptE_len _ _ _) (HNl.out _))
    have hCt := fun W' (hd : RowKit.Below w.heap.size w W') => contains_any a cap l (v ++ x.1) W' (by have := HFi.out.few; omega) (HSt.out.below hd)
    have hadd1 : (ByteArray.mk v.toArray) ++ (ByteArray.mk x.1.toArray) = ⟨(v ++ x.1).toArray⟩ := ByteArray.mk_append_mk v x.1
    have hsz1 : ¬ 9223372036854775807 < v.length + x.1.length := by have := HUv.out; omega
    have HM := Lib.hid hmem
    have HCt := Lib.hid hCt
    have HA := Lib.hid hA
    have HC0 : Hid (W.cell? ⟨B, 0, none⟩ = some (.slice a l.length cap)) := Lib.hid ((hA.bel.cell (p := ⟨B, 0, none⟩) HBl.out).trans HC.out)
    have z0 := cell_regrown HA.out.ptr.cell
    have z1 := cell_regrown (HA.out.pr.cel 1 _ rfl)
    have z2 := cell_regrown HC0.out
    have c1 : ∀ dd os, Calls Tryz.prog 79 #[.slice a l.length cap, sv (v ++ x.1)] (grow (redrawn W dd) os) fun e w'' => e = .returned (.bool (decide (v ++ x.1 ∈ l))) ∧ ∃ p : Regrown, w'' = grow (redrawn W p.d) p.os := fun dd os =>
      (HCt.out _ (hA.bel.trans ((below_regrown W dd os).mono hA.bel.size))).mono fun e w'' ⟨h1, h2⟩ => ⟨h1, ⟨dd, os⟩, h2.symm⟩
    obtain ⟨xe, hxe⟩ := x
    simp only at *
    have HDec : Hid (decide (v ++ xe ∈ l) = true ↔ v ++ xe ∈ l) := Lib.hid decide_eq_true_iff
    clear hmem hCt hA hs7 HCt
    have HG1 : Hid (v ++ xe ∈ l → keptE l v (raw (pre ++ [⟨xe, hxe⟩])) = keptE l v (raw pre)) := Lib.hid (fun h => by rw [HM.out, if_pos h])
    have HG2 : Hid (¬ v ++ xe ∈ l → keptE l v (raw (pre ++ [⟨xe, hxe⟩])) = (keptE l v (raw pre)) ++ [xe]) := Lib.hid (fun h => by rw [HM.out, if_neg h]; first | done | simp)
    clear HM
    generalize keptE l v (raw pre) = KK at *
    generalize decide (v ++ xe ∈ l) = D1 at *
    refine wpIn_block ?_
    refine wpIn_seq_k fun K1 hK1 => ?_
    refine wpIn_region_quiet_tail (l₀ := ll) (C := fun w' => ∃ p : Regrown, w' = grow (redrawn W p.d) p.os) 10 (by kernel_rfl) (by kernel_rfl) (by kernel_rfl) ⟨⟨_, #[]⟩, by rw [grow_empty]; rfl⟩ ?_
    simp only [List.take_succ_cons, List.take_zero, List.drop_succ_cons, List.drop_zero]
    repeat (quiet_step (fail))
    quiet_step ((go_at_call 79; exact c1 _ _))
    refine wpQuiet_nil ?_
    intro W8' hw'
    obtain ⟨⟨dq, osq⟩, hw''⟩ := hw'
    obtain ⟨W8, rfl⟩ : ∃ W8, W8 = W8' := ⟨_, rfl⟩
    have hb8 : RowKit.Below W.heap.size W W8 := by rw [hw'']; exact below_regrown W dq osq
    have HA8 := Lib.hid (HA.out.below hb8)
    have HK8 := Lib.hid (kothers_below hb8)
    have HE8 : Hid (EF bx (bx + 1) a cap l u W → EF bx (bx + 1) a cap l u W8) := Lib.hid (fun he => he.below hb8)
    clear hw'' hb8 c1 z0 z1 z2
    cases D1 with
    | true =>
      have HG := Lib.hid (HG1.out (HDec.out.1 rfl))
      have HA8b : Ap w B pb0 bx (bx + 1) u v u v [] (keptE l v (raw (pre ++ [⟨xe, hxe⟩]))) W8 := by rw [HG.out]; exact HA8.out
      gi_wp2
      exact ⟨HK8.out, HE8.out, HA8b⟩
    | false =>
      have HG := Lib.hid (HG2.out (fun h => by have := HDec.out.2 h; cases this))
      have HA9 := Lib.hid (HA8.out.alloc (.cells #[sv xe] 9))
      have HK9 := Lib.hid (HK8.out.trans (KeepsOthers.alloc W8 (.cells #[sv xe] 9)))
      have HE9 : Hid (EF bx (bx + 1) a cap l u W → EF bx (bx + 1) a cap l u (W8.alloc (.cells #[sv xe] 9))) := Lib.hid (fun he => (HE8.out he).below (Below.new _ _))
      obtain ⟨r, hr1, hr2, hr3⟩ := HA9.out.row
      have HR1 := Lib.hid hr1
      have HR2 := Lib.hid hr2
      have HR3 := Lib.hid hr3
      have y7 := (HA8.out.row).choose_spec.1
      obtain ⟨r0, hq1, hq2, hq3⟩ := HA8.out.row
      have hrr : r0 = r := by
        have h1 := (hq1.alloc (.cells #[sv xe] 9)).cell
        rw [hr1.cell] at h1; injection h1 with h1; exact h1.symm
      subst hrr
      have c7 := hq1.cell
      have f7 := hq1.frozen
      have hnw := news_new W8 #[sv xe] 9
      have hlb9 := HA9.out.lb
      have hpb9 : pb0 < (W8.alloc (.cells #[sv xe] 9)).heap.size := HA9.out.pr.lt
      have hw89 : W8.heap.size + 1 = (W8.alloc (.cells #[sv xe] 9)).heap.size := by simp
      clear hq1 hq2 hq3 hr1 hr2 hr3 y7
      have HMp : Hid (∀ (W : World) (r : Value) (n : Nat), W.ownsRow (w.heap.size + 3) 9 1 r n (KK.map sv ++ [sv xe]) → W.ownsRow (w.heap.size + 3) 9 1 r n ((KK ++ [xe]).map sv)) := Lib.hid (fun _ _ _ h => by rw [List.map_append]; exact h)
      have HNe7 : Hid (some (w.heap.size + 1) ≠ r0.ownBlock) := Lib.hid (fun e => by have := (HR2.out.lt _ e.symm).1; omega)
      gi_wp2_with (gi_at_builtin; refine listAppIn T22 rfl (.tmp 42) (.tmp 44) rfl (w.heap.size + 3) r0 _ _ [sv xe] 1 1 ⟨W8.heap.size, 0, none⟩ rfl HR2.out rfl rfl hnw (by simp [Value.oneCell']) (by omega) hlb9 ?_; intro r' w9 hown9 hg9 hL9; obtain ⟨-, a9, c9, rfl, -, -⟩ := Strs.of_ownsRow (HMp.out _ _ _ hown9); have hb9 := HR1.out.kept hg9 HNe7.out; have zc9 := hb9.cell; have zf9 := hb9.frozen)
      have HAf : Ap w B pb0 bx (bx + 1) u v u v [] (keptE l v (raw (pre ++ [⟨xe, hxe⟩]))) (w9.setCell ⟨w.heap.size + 1, 0, none⟩ (.slice a9 (KK.length + 1) c9)) := by
        rw [HG.out]
        exact HA9.out.push HR1.out HR2.out HR3.out hown9 hg9 hL9 (by omega)
      have HKf : KeepsOthers W (w9.setCell ⟨w.heap.size + 1, 0, none⟩ (.slice a9 (KK.length + 1) c9)) := (HK9.out.trans (KeepsOthers.of_grownBy hg9 (fun j o e ho => by
        obtain ⟨o', ho', hc'⟩ := owns_cells HR2.out j e
        rw [ho] at ho'; cases ho'; exact hc'))).trans (KeepsOthers.setCell _ _ _)
      have HEf : EF bx (bx + 1) a cap l u W → EF bx (bx + 1) a cap l u (w9.setCell ⟨w.heap.size + 1, 0, none⟩ (.slice a9 (KK.length + 1) c9)) := fun he =>
        ((HE9.out he).grown hg9 (fun e => (HR3.out _ e.symm).2.1 rfl) (fun e => (HR3.out _ e.symm).2.2 rfl) (fun b off e h e2 => by
          have h1 := (HR2.out.lt _ e2.symm).1
          have h2 := HAb.out b off e h
          omega)).aside _ _ _ (by omega) (by omega) (fun b off e h => by have := HAb.out b off e h; omega)
      exact ⟨HKf, HEf, HAf⟩
  case done0 =>
    rintro D0 xs W hD hS hA hdf
    rw [hS] at hA
    have hD0w : w.heap.size ≤ D0 := by omega
    clear HA7 HEF HDl HS6 HC6 HC7 HA6
    have hA2 := hA.addD hdf
    have y0 := hA.sl.cel 2 _ rfl
    have y1 := hA.sl.cel 3 _ rfl
    have HA2 := Lib.hid hA2
    clear hA hA2 hdf hS
    go_wp2_with fail
    rw [rounds_succ]
    go_wp2_with fail
    obtain ⟨w5, hw5⟩ : ∃ w5, W.alloc (.cells #[sv v, sv u] 107) = w5 := ⟨_, rfl⟩
    obtain ⟨pb1, hpb1⟩ : ∃ pb1, W.heap.size = pb1 := ⟨_, rfl⟩
    have hA3 : Ap w B pb1 bx (bx + 1) u v v u [D0] (keptE l v (X.ends l u)) w5 := by rw [← hw5, ← hpb1]; exact HA2.out.pair v u
    have HA1 := Lib.hid hA3
    have HC1 := Lib.hid ((hA3.bel.cell (p := ⟨B, 0, none⟩) HBl.out).trans HC.out)
    have hpb10 : w.heap.size + 3 ≤ pb1 := by have := HA2.out.lb; omega
    rw [hw5, hpb1]
    clear hw5 hpb1 hA3 HA2 y0 y1
    have z0 := cell_regrown HA1.out.ptr.cell
    have z1 := cell_regrown (HA1.out.pr.cel 0 _ rfl)
    have z2 := cell_regrown HC1.out
    refine wp_region_quiet_tail (C := fun w' => ∃ p : Regrown, w' = grow (redrawn w5 p.d) p.os) 6 (by kernel_rfl) (by kernel_rfl) ⟨⟨_, #[]⟩, by rw [grow_empty]; rfl⟩ ?_
    simp only [List.take_succ_cons, List.take_zero, List.drop_succ_cons, List.drop_zero]
    repeat (quiet_step (fail))
    refine wpQuiet_nil ?_
    intro W6' hw'
    obtain ⟨⟨dq, osq⟩, hw''⟩ := hw'
    obtain ⟨W6, rfl⟩ : ∃ W6, W6 = W6' := ⟨_, rfl⟩
    have hb6 : RowKit.Below w5.heap.size w5 W6 := by rw [hw'']; exact below_regrown w5 dq osq
    have HA6 := Lib.hid (HA1.out.below hb6)
    have HS6 := Lib.hid (HSt.out.below HA6.out.bel)
    have HC6 := Lib.hid (cell_on hb6 HC1.out)
    clear hw'' hb6 z0 z1 z2
    go_wp2_with fail
    refine (endingsP_any a cap l v W6).mono ?_
    rintro e w7 ⟨rfl, hw7⟩
    have hEF : EF W6.heap.size (W6.heap.size + 1) a cap l v w7 := by rw [hw7]; exact EF.new HS6.out
    have hpb6 : pb1 < W6.heap.size := HA6.out.pr.lt
    have hb7 : RowKit.Below W6.heap.size W6 w7 := by rw [hw7]; exact (Below.new _ _).alloc (by simp) _
    have hA7 := (HA6.out.below hb7).bxy (Bx := W6.heap.size) (By := W6.heap.size + 1) HA6.out hb7 (Nat.le_refl _) (Nat.le_succ _) (by rw [hw7]; simp only [World.size_alloc]; omega)
    have hs7 : w7.heap.size = W6.heap.size + 1 + 1 := by rw [hw7]; simp
    have HA7 := Lib.hid hA7
    have HC7 := Lib.hid (cell_on hb7 HC6.out)
    have HEF := Lib.hid hEF
    have hlb6 := HA6.out.lb
    have hdl : ∀ D ∈ [D0], D < w7.heap.size := fun D hd => (Array.getElem?_eq_some_iff.1 (HA7.out.df D hd)).1
    have HDl := Lib.hid hdl
    clear hw7 hEF hb7 hA7 hdl HA1 HC1
    generalize W6.heap.size = bx at *
    go_wp2_with fail
    refine (wpIn_wide (n := 3)).1 ?_
    refine wpIn_rangeFunc_ownF (F := Fence.wide) (n := 3) rfl (by omega) (gf := 124) (lb := #[.pointer (some ⟨bx, 0, none⟩), .pointer (some ⟨bx + 1, 0, none⟩)]) rfl trivial (enters_of Tryz.func124 (by kernel_rfl) rfl)
      (ends_seq 2 (by omega) bx (bx + 1) a cap l v w7 (by have := HFi.out.few; omega) HEF.out) (fun h k x => k (h x)) (fun W k o o' _ hk ho _ he => he.put o' hk ho) (Below.refl _ _) (fun _ => rfl)
      (fun pre W => Ap w B pb1 bx (bx + 1) u v v u [D0] (keptE l v (X.ends l u) ++ keptE l u (raw pre)) W)
      (fun _ _ _ => False) ?hI1 (fun c s X Y row h hg hr => h) (by rw [show raw ([] : List (Ew l v)) = [] from rfl, show keptE l u [] = [] from rfl]; (try rw [List.append_nil]); exact HA7.out)
      (fun x => { tmps := #[.pointer (some ⟨B, 0, none⟩), sv u, sv v, .pointer (some ⟨w.heap.size, 0, none⟩), undef, undef, .slice none 0 0, .pointer (some ⟨w.heap.size + 1, 0, none⟩), undef, .pointer (some ⟨pb1, 0, none⟩), sv x.1, sv u, sv v, .agg #[sv u, sv v], sv v, sv u, .agg #[sv v, sv u], .slice (some ⟨w.heap.size + 2, 0, none⟩) 2 2, .int .i64 2, .int .i64 1, .bool true, .pointer (some ⟨w.heap.size + 2, 2, none⟩), .agg #[sv v, sv u], .pointer (some ⟨B, 0, none⟩), .pointer (some ⟨B, 0, none⟩), .pointer (some ⟨B, 0, none⟩), .agg #[.slice a l.length cap], .pointer (some ⟨pb1, 0, none⟩), sv v, .func (.func 124) #[] #[.pointer (some ⟨bx, 0, none⟩), .pointer (some ⟨bx + 1, 0, none⟩)], sv x.1, undef, undef, undef, undef, undef, undef, undef, undef, undef, undef, undef, undef, undef, undef, undef, .int .i64 1, undef, undef, undef], defers := [] })
      ?assign1 ?body1 ?done1 ?stop1
    case hI1 =>
      exact fun s X Y row h hg hr => h.others (N := w7.heap.size) (by omega) HDl.out hg (fun k e => hr k e)
    case assign1 =>
      intro ll x W K hK
      gi_wp2
      exact hK
    case body1 =>
      rintro ll pre x W hA hlen
      have hx := HLen.out v _ x.2
      have hmem := keptE_snoc l u (raw pre) x.1
      rw [← raw_snoc] at hmem
      have hln : (keptE l v (X.ends l u) ++ keptE l u (raw pre)).length ≤ 2000 := by
        simpa using HLe.out 1 v u (raw pre) ((keptE l v (X.ends l u))) (by rw [raw_len]; exact Nat.le_of_lt hlen) (by first | exact Nat.zero_le _ | exact Nat.le_trans (keptE_len _ _ _) (HNl.out _))
      have hCt := fun W' (hd : RowKit.Below w.heap.size w W') => contains_any a cap l (u ++ x.1) W' (by have := HFi.out.few; omega) (HSt.out.below hd)
      have hadd1 : (ByteArray.mk u.toArray) ++ (ByteArray.mk x.1.toArray) = ⟨(u ++ x.1).toArray⟩ := ByteArray.mk_append_mk u x.1
      have hsz1 : ¬ 9223372036854775807 < u.length + x.1.length := by have := HUv.out; omega
      have HM := Lib.hid hmem
      have HCt := Lib.hid hCt
      have HA := Lib.hid hA
      have HC0 : Hid (W.cell? ⟨B, 0, none⟩ = some (.slice a l.length cap)) := Lib.hid ((hA.bel.cell (p := ⟨B, 0, none⟩) HBl.out).trans HC.out)
      have z0 := cell_regrown HA.out.ptr.cell
      have z1 := cell_regrown (HA.out.pr.cel 1 _ rfl)
      have z2 := cell_regrown HC0.out
      have c1 : ∀ dd os, Calls Tryz.prog 79 #[.slice a l.length cap, sv (u ++ x.1)] (grow (redrawn W dd) os) fun e w'' => e = .returned (.bool (decide (u ++ x.1 ∈ l))) ∧ ∃ p : Regrown, w'' = grow (redrawn W p.d) p.os := fun dd os =>
        (HCt.out _ (hA.bel.trans ((below_regrown W dd os).mono hA.bel.size))).mono fun e w'' ⟨h1, h2⟩ => ⟨h1, ⟨dd, os⟩, h2.symm⟩
      obtain ⟨xe, hxe⟩ := x
      simp only at *
      have HDec : Hid (decide (u ++ xe ∈ l) = true ↔ u ++ xe ∈ l) := Lib.hid decide_eq_true_iff
      clear hmem hCt hA hs7 HCt
      have HG1 : Hid (u ++ xe ∈ l → keptE l v (X.ends l u) ++ keptE l u (raw (pre ++ [⟨xe, hxe⟩])) = keptE l v (X.ends l u) ++ keptE l u (raw pre)) := Lib.hid (fun h => by rw [HM.out, if_pos h])
      have HG2 : Hid (¬ u ++ xe ∈ l → keptE l v (X.ends l u) ++ keptE l u (raw (pre ++ [⟨xe, hxe⟩])) = (keptE l v (X.ends l u) ++ keptE l u (raw pre)) ++ [xe]) := Lib.hid (fun h => by rw [HM.out, if_neg h]; first | done | simp)
      clear HM
      generalize keptE l v (X.ends l u) ++ keptE l u (raw pre) = KK at *
      generalize decide (u ++ xe ∈ l) = D1 at *
      refine wpIn_block ?_
      refine wpIn_seq_k fun K1 hK1 => ?_
      refine wpIn_region_quiet_tail (l₀ := ll) (C := fun w' => ∃ p : Regrown, w' = grow (redrawn W p.d) p.os) 10 (by kernel_rfl) (by kernel_rfl) (by kernel_rfl) ⟨⟨_, #[]⟩, by rw [grow_empty]; rfl⟩ ?_
      simp only [List.take_succ_cons, List.take_zero, List.drop_succ_cons, List.drop_zero]
      repeat (quiet_step (fail))
      quiet_step ((go_at_call 79; exact c1 _ _))
      refine wpQuiet_nil ?_
      intro W8' hw'
      obtain ⟨⟨dq, osq⟩, hw''⟩ := hw'
      obtain ⟨W8, rfl⟩ : ∃ W8, W8 = W8' := ⟨_, rfl⟩
      have hb8 : RowKit.Below W.heap.size W W8 := by rw [hw'']; exact below_regrown W dq osq
      have HA8 := Lib.hid (HA.out.below hb8)
      have HK8 := Lib.hid (kothers_below hb8)
      have HE8 : Hid (EF bx (bx + 1) a cap l v W → EF bx (bx + 1) a cap l v W8) := Lib.hid (fun he => he.below hb8)
      clear hw'' hb8 c1 z0 z1 z2
      cases D1 with
      | true =>
        have HG := Lib.hid (HG1.out (HDec.out.1 rfl))
        have HA8b : Ap w B pb1 bx (bx + 1) u v v u [D0] (keptE l v (X.ends l u) ++ keptE l u (raw (pre ++ [⟨xe, hxe⟩]))) W8 := by rw [HG.out]; exact HA8.out
        gi_wp2
        exact ⟨HK8.out, HE8.out, HA8b⟩
      | false =>
        have HG := Lib.hid (HG2.out (fun h => by have := HDec.out.2 h; cases this))
        have HA9 := Lib.hid (HA8.out.alloc (.cells #[sv xe] 9))
        have HK9 := Lib.hid (HK8.out.trans (KeepsOthers.alloc W8 (.cells #[sv xe] 9)))
        have HE9 : Hid (EF bx (bx + 1) a cap l v W → EF bx (bx + 1) a cap l v (W8.alloc (.cells #[sv xe] 9))) := Lib.hid (fun he => (HE8.out he).below (Below.new _ _))
        obtain ⟨r, hr1, hr2, hr3⟩ := HA9.out.row
        have HR1 := Lib.hid hr1
        have HR2 := Lib.hid hr2
        have HR3 := Lib.hid hr3
        have y7 := (HA8.out.row).choose_spec.1
        obtain ⟨r0, hq1, hq2, hq3⟩ := HA8.out.row
        have hrr : r0 = r := by
          have h1 := (hq1.alloc (.cells #[sv xe] 9)).cell
          rw [hr1.cell] at h1; injection h1 with h1; exact h1.symm
        subst hrr
        have c7 := hq1.cell
        have f7 := hq1.frozen
        have hnw := news_new W8 #[sv xe] 9
        have hlb9 := HA9.out.lb
        have hpb9 : pb1 < (W8.alloc (.cells #[sv xe] 9)).heap.size := HA9.out.pr.lt
        have hw89 : W8.heap.size + 1 = (W8.alloc (.cells #[sv xe] 9)).heap.size := by simp
        clear hq1 hq2 hq3 hr1 hr2 hr3 y7
        have HMp : Hid (∀ (W : World) (r : Value) (n : Nat), W.ownsRow (w.heap.size + 3) 9 1 r n (KK.map sv ++ [sv xe]) → W.ownsRow (w.heap.size + 3) 9 1 r n ((KK ++ [xe]).map sv)) := Lib.hid (fun _ _ _ h => by rw [List.map_append]; exact h)
        have HNe7 : Hid (some (w.heap.size + 1) ≠ r0.ownBlock) := Lib.hid (fun e => by have := (HR2.out.lt _ e.symm).1; omega)
        gi_wp2_with (gi_at_builtin; refine listAppIn T22 rfl (.tmp 42) (.tmp 44) rfl (w.heap.size + 3) r0 _ _ [sv xe] 1 1 ⟨W8.heap.size, 0, none⟩ rfl HR2.out rfl rfl hnw (by simp [Value.oneCell']) (by omega) hlb9 ?_; intro r' w9 hown9 hg9 hL9; obtain ⟨-, a9, c9, rfl, -, -⟩ := Strs.of_ownsRow (HMp.out _ _ _ hown9); have hb9 := HR1.out.kept hg9 HNe7.out; have zc9 := hb9.cell; have zf9 := hb9.frozen)
        have HAf : Ap w B pb1 bx (bx + 1) u v v u [D0] (keptE l v (X.ends l u) ++ keptE l u (raw (pre ++ [⟨xe, hxe⟩]))) (w9.setCell ⟨w.heap.size + 1, 0, none⟩ (.slice a9 (KK.length + 1) c9)) := by
          rw [HG.out]
          exact HA9.out.push HR1.out HR2.out HR3.out hown9 hg9 hL9 (by omega)
        have HKf : KeepsOthers W (w9.setCell ⟨w.heap.size + 1, 0, none⟩ (.slice a9 (KK.length + 1) c9)) := (HK9.out.trans (KeepsOthers.of_grownBy hg9 (fun j o e ho => by
          obtain ⟨o', ho', hc'⟩ := owns_cells HR2.out j e
          rw [ho] at ho'; cases ho'; exact hc'))).trans (KeepsOthers.setCell _ _ _)
        have HEf : EF bx (bx + 1) a cap l v W → EF bx (bx + 1) a cap l v (w9.setCell ⟨w.heap.size + 1, 0, none⟩ (.slice a9 (KK.length + 1) c9)) := fun he =>
          ((HE9.out he).grown hg9 (fun e => (HR3.out _ e.symm).2.1 rfl) (fun e => (HR3.out _ e.symm).2.2 rfl) (fun b off e h e2 => by
            have h1 := (HR2.out.lt _ e2.symm).1
            have h2 := HAb.out b off e h
            omega)).aside _ _ _ (by omega) (by omega) (fun b off e h => by have := HAb.out b off e h; omega)
        exact ⟨HKf, HEf, HAf⟩
    case done1 =>
      rintro D1 xs W hD hS hA hdf
      rw [hS] at hA
      have hD01 : D0 < D1 := by have := HDl.out D0 (by simp); omega
      have hD1w : w.heap.size ≤ D1 := by omega
      clear HA7 HEF HDl HS6 HC6 HC7 HA6
      have HA2 := Lib.hid (hA.addD hdf)
      obtain ⟨r, hr1, hr2, hr3⟩ := hA.row
      have z0 := hr1.cell
      have HR1 := Lib.hid hr1
      have HR2 := Lib.hid hr2
      have HAp : Hid (X.apart l u v = keptE l v (X.ends l u) ++ keptE l u (X.ends l v)) := Lib.hid (by unfold X.apart; rw [keptE_eq, keptE_eq])
      have hol : (keptE l v (X.ends l u) ++ keptE l u (X.ends l v)).length ≤ 1000000 := by
        have h1 := keptE_len l v (X.ends l u)
        have h2 := keptE_len l u (X.ends l v)
        have h3 := HNl.out u
        have h4 := HNl.out v
        rw [List.length_append]; omega
      have hox : ∀ x ∈ keptE l v (X.ends l u) ++ keptE l u (X.ends l v), x.length ≤ 1000 := fun x hx => by
        rcases List.mem_append.1 hx with h | h
        · exact HLen.out u x (List.mem_filter.1 h).1
        · exact HLen.out v x (List.mem_filter.1 h).1
      have HHx := Lib.hid hox
      have eg : ∀ args w, (callFunc 105 args).run Tryz.prog w = .ok (.enter 105 args) w := enters_of Tryz.func105 (by kernel_rfl) rfl
      have HEg := Lib.hid eg
      clear hA hdf hS hr1 hr2 hr3 hox eg
      generalize keptE l v (X.ends l u) ++ keptE l u (X.ends l v) = KK at *
      go_wp2_with fail
      rw [rounds_succ]
      go_wp2_with fail
      rcases Row.of_own HR2.out with ⟨rfl, rfl⟩ | ⟨g, cap3, rfl, hrow, hrg⟩
      · refine (lay_slices_SortFunc_none none 0 _ W).mono ?_
        rintro e w9 ⟨rfl, rfl⟩
        go_wp2_with fail
        have hd1 := HA2.out.df D1 (by simp)
        have hd0 := (World.putObj_heap_other (o := .deferred none) (show D0 ≠ D1 by omega)).trans (HA2.out.df D0 (by simp))
        refine ⟨by simp, .inl ⟨_, _, rfl, run_takeDeferred hd1, ?_⟩⟩
        refine ⟨by simp, .inl ⟨_, _, rfl, run_takeDeferred hd0, ?_⟩⟩
        refine ⟨.slice none 0 0, by simp [results, Tryz.results76, go_sem], [], none, 0, rfl, by rw [HAp.out], List.Pairwise.nil, Strs.nil _ _, (HA2.out.bel.grown (grownBy_putObj' _ D1 _) HA2.out.bel.size (fun k e => by cases e; omega)).grown (grownBy_putObj' _ D0 _) (Nat.le_trans HA2.out.bel.size (grownBy_putObj' _ D1 _).size) (fun k e => by cases e; omega)⟩
      · refine (sortK_all (fun u => (u.length : Int)) 105 #[] g cap3 KK W hol HHx.out hrow (B := w.heap.size + 3) hrg HEg.out (fun x y W' _ => cmpLen_any x y W')).mono ?_
        rintro e w9 ⟨rfl, L, hp, hpw, hrow9, hb9, hoth⟩
        have z9 := (hb9.cell (p := ⟨w.heap.size + 1, 0, none⟩) (by show w.heap.size + 1 < w.heap.size + 3; omega)).trans z0
        have HP := Lib.hid hp
        have HPw := Lib.hid hpw
        have HR9 := Lib.hid hrow9
        have hne : ∀ D, W.heap[D]? = some (.deferred (some [])) → D ≠ g := fun D hd e => by
          obtain ⟨o, ho, hc⟩ := owns_cells HR2.out g rfl
          rw [← e, hd] at ho; cases ho; cases hc
        have hw1 := HA2.out.df D1 (by simp)
        have hw0 := HA2.out.df D0 (by simp)
        have n1 := hne _ hw1
        have n0 := hne _ hw0
        have hd1 := (hoth D1 n1 (Array.getElem?_eq_some_iff.1 hw1).1).trans hw1
        have hd0' := (hoth D0 n0 (Array.getElem?_eq_some_iff.1 hw0).1).trans hw0
        have hbF := HA2.out.bel.trans (hb9.mono (by omega))
        have HD1 := Lib.hid hd1
        have HD0 := Lib.hid hd0'
        have HBf := Lib.hid hbF
        clear hp hpw hrow9 hb9 hoth hne hw1 hw0 hd1 hd0' hbF z0
        go_wp2_with fail
        have hd0 := (World.putObj_heap_other (o := .deferred none) (show D0 ≠ D1 by omega)).trans HD0.out
        refine ⟨by simp, .inl ⟨_, _, rfl, run_takeDeferred HD1.out, ?_⟩⟩
        refine ⟨by simp, .inl ⟨_, _, rfl, run_takeDeferred hd0, ?_⟩⟩
        refine ⟨.slice (some ⟨g, 0, none⟩) KK.length cap3, by simp [results, Tryz.results76, go_sem], L, some ⟨g, 0, none⟩, cap3, by rw [HP.out.length_eq], by rw [HAp.out]; exact HP.out, HPw.out, fun i hi => ?_, (HBf.out.grown (grownBy_putObj' _ D1 _) HBf.out.size (fun k e => by cases e; omega)).grown (grownBy_putObj' _ D0 _) (Nat.le_trans HBf.out.size (grownBy_putObj' _ D1 _).size) (fun k e => by cases e; omega)⟩
        obtain ⟨b, off, e, c⟩ := HR9.out.strs i hi
        cases e
        exact ⟨_, _, rfl, (grownBy_putObj' _ D0 _).cell ((grownBy_putObj' _ D1 _).cell c (fun e => by injection e with e; exact n1 e.symm)) (fun e => by injection e with e; exact n0 e.symm)⟩
    case stop1 =>
      rintro D c pre W hD - h
      exact h.elim
  case stop0 =>
    rintro D c pre W hD - h
    exact h.elim
end Go.Proofs.YtcjbnifafofpbaaGreatDoor
/- Walks of the program's functions: Tell; first, states' closure. -/
namespace Go.Proofs.YtcjbnifafofpbaaGreatDoor
open Go.RowKit Go.Lib Go.Sort
theorem wordsE_two (x y : X.W) : X.wordsE [x, y] = if X.wordE x ≠ 0 then X.wordE x else X.wordE y := by
  rw [show X.wordsE [x, y] = if X.wordE x = 0 then X.wordsE [y] else X.wordE x from rfl, wordsE_one]
  by_cases h : X.wordE x = 0
  · rw [if_pos h, if_neg (not_not_intro h)]
  · rw [if_neg h, if_pos h]
theorem tellE_bad {l : List X.W} {x y : X.W} (h : openE l [x, y] ≠ 0) : X.tellE l x y = ([], openE l [x, y]) := by
  unfold X.tellE openE at *
  by_cases hp : X.listE l = 0
  · rw [if_neg (not_not_intro hp), wordsE_two] at h
    rw [if_neg (not_not_intro hp), if_neg (not_not_intro hp), wordsE_two]
    by_cases hx : X.wordE x = 0
    · rw [if_neg (not_not_intro hx)] at h
      rw [if_neg (not_not_intro hx), if_neg (not_not_intro hx), if_pos h]
    · rw [if_pos hx, if_pos hx]
  · rw [if_pos hp, if_pos hp]
theorem tellE_good {l : List X.W} {x y : X.W} (h : openE l [x, y] = 0) : X.tellE l x y = (match X.least (X.apart l x y) with | none => ([], 5) | some e => (e, 0)) := by
  obtain ⟨hL, hw⟩ := openE_iff.1 h
  rw [wordsE_two] at hw
  by_cases hx : X.wordE x = 0
  · rw [if_neg (not_not_intro hx)] at hw
    exact X.tellE_ok hL hx hw
  · rw [if_pos hx] at hw; exact absurd hw hx
theorem least_sorted {l L : List X.W} (hp : L.Perm l) (hs : L.Pairwise (fun a b => ¬ ltK (fun u => (u.length : Int)) b a)) : X.least l = L.head? := by
  rw [← X.least_head (q := L) (hs.imp (fun {a b} h => ?_))]
  · exact X.least_same (fun x => hp.mem_iff.symm)
  · unfold ltK at h
    unfold X.less
    rw [Bool.eq_false_iff]
    intro h2
    rw [Bool.or_eq_true, Bool.and_eq_true, decide_eq_true_iff, decide_eq_true_iff] at h2
    rcases h2 with h2 | ⟨h2, h3⟩
    · exact h (.inl (by simp only; omega))
    · exact h (.inr ⟨by simp only; omega, h3⟩)
set_option maxRecDepth 20000 in
set_option maxHeartbeats 2000000 in
theorem tellM_any (a : Option Addr) (cap : Nat) (l : List X.W) (u v : X.W) (w : World) (hl : l.length ≤ 1000000) (hrl : Rooms l) (hu : u.length ≤ 1000000) (hv : v.length ≤ 1000000) (ha : Strs w a l) :
    Calls Tryz.prog 33 #[.slice a l.length cap, sv u, sv v] w fun e w' => OutWE w w' e (X.tellE l u v) := by
  have hx1 : Rooms [u, v] := fun t ht => by
    rcases List.mem_cons.1 ht with rfl | ht
    · omega
    · rw [List.mem_singleton.1 ht]; omega
  have hs1 : Strs (w.alloc (.cells #[sv u, sv v] 9)) (some ⟨w.heap.size, 0, none⟩) [u, v] := fun i hi => ⟨w.heap.size, 0, rfl, by
    have hc := (Cells.new w #[sv u, sv v] 9).cel
    have h2 : i = 0 ∨ i = 1 := by simp at hi; omega
    rcases h2 with rfl | rfl
    · exact hc 0 _ rfl
    · exact hc 1 _ rfl⟩
  have HB0 := Lib.hid (Below.new w (.cells #[sv u, sv v] 9))
  by_cases h : openE l [u, v] = 0
  case neg =>
    have HO := Lib.hid (open_err a cap l (some ⟨w.heap.size, 0, none⟩) 2 [u, v] (w.alloc (.cells #[sv u, sv v] 9)) hl (by simp) hrl hx1 (ha.alloc _) hs1 h)
    have HE := Lib.hid (tellE_bad h)
    have hn := ne_bool h
    generalize openE l [u, v] = q at *
    clear h ha hs1 hx1
    go_enter Tryz.func33, Tryz.ntmps33
    go_wp2_with fail
    refine HO.out.mono ?_
    rintro e w1 ⟨rfl, hb1⟩
    go_wp2_with fail
    go_ret2
    rw [HE.out]
    exact ⟨rfl, HB0.out.trans (hb1.mono HB0.out.size)⟩
  have HO := Lib.hid (open_ok a cap l (some ⟨w.heap.size, 0, none⟩) 2 [u, v] (w.alloc (.cells #[sv u, sv v] 9)) (by simp) hx1 (ha.alloc _) hs1 h)
  have HE := Lib.hid (tellE_good h)
  have HFi := Lib.hid (List_.fine (openE_iff.1 h).1)
  have HA := Lib.hid ha
  clear h ha hs1 hx1 hrl
  go_enter Tryz.func33, Tryz.ntmps33
  go_wp2_with fail
  refine HO.out.mono ?_
  rintro e w1 ⟨B, rfl, -, ⟨cs, n, a2, c2, -, -, -, hcel, -⟩, hb1⟩
  have HB1 := Lib.hid (HB0.out.trans (hb1.mono HB0.out.size))
  have hP := apartP_any B a cap l u v w1 HFi.out hu hv (hcel.cel 0 _ rfl) (HA.out.below HB1.out)
  have HP := Lib.hid hP
  clear hb1 hcel hP
  go_wp2_with fail
  refine HP.out.mono ?_
  rintro e w2 ⟨L, a3, c3, rfl, hp, hs, hst, hb2⟩
  have HLs := Lib.hid (least_sorted hp hs)
  have HB2 := Lib.hid (HB1.out.trans (hb2.mono HB1.out.size))
  have hLl : L.length ≤ 1000000 := by
    rw [hp.length_eq]
    unfold X.apart
    rw [List.length_append]
    have h1 := List.length_filter_le (fun e => !(X.ends l v).contains e) (X.ends l u)
    have h2 := List.length_filter_le (fun e => !(X.ends l u).contains e) (X.ends l v)
    have h3 := ends_len_le l u
    have h4 := ends_len_le l v
    have h5 := HFi.out.few
    omega
  have HSt := Lib.hid hst
  clear hp hs hb2 hst
  cases L with
  | nil =>
    go_wp2_with fail
    go_ret2
    rw [HE.out, HLs.out]
    exact ⟨rfl, HB2.out⟩
  | cons x r =>
    have hx0 : ¬ ((x :: r : List X.W).length : Int) = 0 := by rw [List.length_cons]; omega
    have hx1 : (0 : Int) < ((x :: r : List X.W).length : Int) := by rw [List.length_cons]; omega
    obtain ⟨b, off, rfl, c⟩ := HSt.out 0 (by simp)
    have c0 : w2.cell? ⟨b, off, none⟩ = some (sv x) := c
    have HN : Hid ((x :: r).head? = some x) := Lib.hid rfl
    generalize hL : (x :: r : List X.W) = L at *
    clear hL c
    go_wp2_with fail
    go_ret2
    rw [HE.out, HLs.out, HN.out]
    exact ⟨rfl, HB2.out⟩
end Go.Proofs.YtcjbnifafofpbaaGreatDoor
/- Plain Lean: the states of an automaton, letter by letter. -/
namespace X
theorem abc_len : abc.length = 26 := by decide +kernel
theorem abc_take {k : Nat} (h : k < 26) : abc.take (k + 1) = abc.take k ++ [UInt8.ofNat (97 + k)] := by
  rw [List.take_succ_eq_append_getElem (by rw [abc_len]; exact h)]
  simp [abc]
/-- The letters of a state among the first k of the alphabet, and its ways by these. -/
def outsTo (l : List W) (w : W) (k : Nat) : W := (abc.take k).filter (fun c => ends l (w ++ [c]) != [])
def nextTo (l : List W) (w : W) (k : Nat) : List Int := (outsTo l w k).map (fun c => (idx l (ends l (w ++ [c])) : Int))
theorem outsTo_zero (l : List W) (w : W) : outsTo l w 0 = [] := rfl
theorem nextTo_zero (l : List W) (w : W) : nextTo l w 0 = [] := rfl
theorem outsTo_skip {l : List W} {w : W} {k : Nat} (h : k < 26) (e : ends l (w ++ [UInt8.ofNat (97 + k)]) = []) : outsTo l w (k + 1) = outsTo l w k := by
  unfold outsTo
  rw [abc_take h, List.filter_append]
  generalize UInt8.ofNat (97 + k) = c at *
  simp [e]
theorem outsTo_take {l : List W} {w : W} {k : Nat} (h : k < 26) (e : ends l (w ++ [UInt8.ofNat (97 + k)]) ≠ []) : outsTo l w (k + 1) = outsTo l w k ++ [UInt8.ofNat (97 + k)] := by
  unfold outsTo
  rw [abc_take h, List.filter_append]
  generalize UInt8.ofNat (97 + k) = c at *
  simp [e]
theorem nextTo_skip {l : List W} {w : W} {k : Nat} (h : k < 26) (e : ends l (w ++ [UInt8.ofNat (97 + k)]) = []) : nextTo l w (k + 1) = nextTo l w k := by
  unfold nextTo; rw [outsTo_skip h e]
theorem nextTo_take {l : List W} {w : W} {k : Nat} (h : k < 26) (e : ends l (w ++ [UInt8.ofNat (97 + k)]) ≠ []) : nextTo l w (k + 1) = nextTo l w k ++ [(idx l (ends l (w ++ [UInt8.ofNat (97 + k)])) : Int)] := by
  unfold nextTo; rw [outsTo_take h e, List.map_append]; rfl
theorem outsTo_all (l : List W) (w : W) : outsTo l w 26 = outs l w := by
  unfold outsTo outs; rw [List.take_of_length_le (by rw [abc_len]; omega)]
theorem outsTo_len (l : List W) (w : W) (k : Nat) : (outsTo l w k).length ≤ k := by
  unfold outsTo
  have h1 := List.length_filter_le (fun c => ends l (w ++ [c]) != []) (abc.take k)
  have h2 := List.length_take_le k abc
  omega
theorem nextTo_len (l : List W) (w : W) (k : Nat) : (nextTo l w k).length = (outsTo l w k).length := by unfold nextTo; rw [List.length_map]
/-- A state so far. -/
theorem state_all (l : List W) (w : W) : state l w = ⟨if w ∈ l then 1 else 0, outsTo l w 26, nextTo l w 26⟩ := by
  unfold state nextTo; rw [outsTo_all]
/-- The first word with the endings of a word that begins names. -/
theorem idx_hit {l : List W} (hl : List_ l) {u : W} (h : ends l u ≠ []) : idx l (ends l u) < (tops l).length ∧ cat (ends l ((tops l).getD (idx l (ends l u)) [])) = cat (ends l u) ∧
    ∀ k, k < idx l (ends l u) → cat (ends l ((tops l).getD k [])) ≠ cat (ends l u) := by
  obtain ⟨h1, h2⟩ := idx_spec hl (scan_ends h)
  refine ⟨h1, by unfold top at h2; rw [h2], fun k hk he => ?_⟩
  have he2 := (cat_ends hl.lett).1 he
  have := List.not_of_lt_findIdx (show k < (tops l).findIdx (fun v => ends l v == ends l u) from hk)
  have hk2 : k < (tops l).length := by omega
  rw [List.getD_eq_getElem?_getD, List.getElem?_eq_getElem hk2] at he2
  simp at he2
  simp [he2] at this
theorem build_take (l : List W) {i : Nat} (h : i < (tops l).length) : ((tops l).take (i + 1)).map (state l) = ((tops l).take i).map (state l) ++ [state l ((tops l).getD i [])] := by
  rw [List.take_succ_eq_append_getElem h, List.map_append, List.getD_eq_getElem?_getD, List.getElem?_eq_getElem h]; rfl
end X
/- Walks of the program's functions: first; states' closure. -/
namespace Go.Proofs.YtcjbnifafofpbaaGreatDoor
open Go.RowKit Go.Lib Go.Sort
set_option maxRecDepth 20000 in
/-- first: where the first hit is known. -/
theorem first_hit (f : Nat) (cb : Array Value) (q : X.W → Bool) (b : Option Addr) (cap : Nat) (S : List X.W) (j : Nat) (w : World) (hl : S.length ≤ 1000000) (hb : Strs w b S) (hj : j < S.length) (hq1 : q (wat S j) = true) (hq0 : ∀ k, k < j → q (wat S k) = false)
    (eg : ∀ args w, (callFunc f args).run Tryz.prog w = .ok (.enter f args) w)
    (hq : ∀ s W, s ∈ S → RowKit.Below w.heap.size w W → Calls Tryz.prog f (#[sv s] ++ cb) W fun e w' => e = .returned (.bool (q s)) ∧ RowKit.Below W.heap.size W w') :
    Calls Tryz.prog 90 #[.slice b S.length cap, .func (.func f) #[] cb] w fun e w' => e = .returned (.int .i64 (j : Int)) ∧ RowKit.Below w.heap.size w w' := by
  have HA := Lib.hid hb; clear hb
  have HQ := Lib.hid hq; clear hq
  have HQ1 := Lib.hid hq1
  have HQ0 := Lib.hid hq0
  clear hq1 hq0
  go_enter Tryz.func90, Tryz.ntmps90
  go_wp2_with fail
  go_loopw [5, 6, 9] (fun _ _ i wr => ∃ k : Nat, k ≤ j ∧ i = .int .i64 k ∧ Hid (RowKit.Below w.heap.size w wr)) (fun _ _ i _ => j - (RowKit.intOf i).toNat)
  case atStart => exact ⟨0, by omega, rfl, Lib.hid (RowKit.Below.refl _ _)⟩
  case round =>
    obtain ⟨k, hk, rfl, HB⟩ := hrel
    have hkl : k < S.length := by omega
    have hkI : (k : Int) < (S.length : Int) := by omega
    obtain ⟨b1, off1, rfl, c1⟩ := (HA.out.below HB.out) k hkl
    have HC := HQ.out (wat S k) wr (wat_mem hkl) HB.out
    by_cases hkj : k = j
    · subst hkj
      rw [HQ1.out] at HC
      have HC := Lib.hid HC
      go_wp2_with fail
      refine HC.out.mono ?_
      rintro e w' ⟨rfl, hb⟩
      go_wp2_with fail
      go_ret
      exact ⟨rfl, HB.out.trans (hb.mono HB.out.size)⟩
    · rw [HQ0.out k (by omega)] at HC
      have HC := Lib.hid HC
      go_wp2_with fail
      refine HC.out.mono ?_
      rintro e w' ⟨rfl, hb⟩
      have HB2 := Lib.hid (HB.out.trans (hb.mono HB.out.size))
      clear hb
      go_wp2_with fail
      go_roundw
      case rel => exact ⟨k + 1, by omega, by go_num, HB2⟩
      case measure => simp [RowKit.intOf]; omega
section
variable {Q : Exit → Act → World → Prop} {R : List Known} {ks : List Nat} {a : Act} {w : World} {i : Nat}
/-- An operation whose value follows from a slot that the region leaves alone. -/
theorem step_out {o : Oper} {q : Nat} {v0 v1 : Value} (hq : q ∉ ks) (he : a.eval (.tmp q) = v0) (hR : Rat R i = KEq v1)
    (hrun : ∀ (a' : Act) (w' : World), a'.tmps[q]?.getD undef = v0 → RowKit.Below w.heap.size w w' → (execOp a'.eval o).run Tryz.prog w' = .ok (.value v1) w') : StepG Tryz.prog Q R ks a w i o := by
  intro a' w' hA hb hd K hK
  have e : a'.eval (.tmp q) = v0 := (hA.eval hq).trans he
  exact op_value (hrun a' w' (tmp_of e) hb) (hK _ _ (RowKit.Below.refl _ _) (by rw [hR]; rfl))
theorem step_out2 {o : Oper} {q p : Nat} {v0 v2 v1 : Value} (hq : q ∉ ks) (he : a.eval (.tmp q) = v0) (hp : p ∉ ks) (hf : a.eval (.tmp p) = v2) (hR : Rat R i = KEq v1)
    (hrun : ∀ (a' : Act) (w' : World), a'.tmps[q]?.getD undef = v0 → a'.tmps[p]?.getD undef = v2 → RowKit.Below w.heap.size w w' → (execOp a'.eval o).run Tryz.prog w' = .ok (.value v1) w') : StepG Tryz.prog Q R ks a w i o := by
  intro a' w' hA hb hd K hK
  have e : a'.eval (.tmp q) = v0 := (hA.eval hq).trans he
  have e2 : a'.eval (.tmp p) = v2 := (hA.eval hp).trans hf
  exact op_value (hrun a' w' (tmp_of e) (tmp_of e2) hb) (hK _ _ (RowKit.Below.refl _ _) (by rw [hR]; rfl))
set_option maxRecDepth 20000 in
/-- A call of two known values, whose value is known. -/
theorem step_call2 {dst : Option Tmp} {ty : TypeId} {pos : String} {after : Array Edge} {f : FuncId} {ats : Array TypeId} {j1 j2 q1 q2 : Nat} {v1 v2 v3 : Value} (hq1 : ks.getD j1 0 = q1) (hj1 : j1 ∈ (after.toList.filter (fun e => Region.binds .any e)).map (fun e => e.on)) (hR1 : Rat R j1 = KEq v1)
    (hq2 : ks.getD j2 0 = q2) (hj2 : j2 ∈ (after.toList.filter (fun e => Region.binds .any e)).map (fun e => e.on)) (hR2 : Rat R j2 = KEq v2) (hR : Rat R i = KEq v3)
    (eg : ∀ args w, (callFunc f args).run Tryz.prog w = .ok (.enter f args) w) (hC : ∀ w', RowKit.Below w.heap.size w w' → Calls Tryz.prog f #[v1, v2] w' fun e w'' => e = .returned v3 ∧ RowKit.Below w'.heap.size w' w'') :
    StepG Tryz.prog Q R ks a w i ⟨dst, .call { callee := .value (.func f), args := #[.tmp q1, .tmp q2], argTypes := ats }, ty, pos, after, none⟩ := by
  intro a' w' hA hb hd K hK
  have e1 : a'.eval (.tmp q1) = v1 := by have := hd j1 hj1; rw [hR1, hq1] at this; exact this
  have e2 : a'.eval (.tmp q2) = v2 := by have := hd j2 hj2; rw [hR2, hq2] at this; exact this
  refine op_call rfl eg (args := #[v1, v2]) (by simp [← e1, ← e2]) (hC w' hb) (fun e' w'' ⟨h1, h2⟩ => ⟨_, h1, ?_⟩)
  exact hK _ _ h2 (by rw [hR]; rfl)
/-- A slice of numbers that is made of a known value. -/
def KSl (n : Nat) (l : List Int) : Known := fun v w => ∃ g, v = .slice (some ⟨g, 0, none⟩) n n ∧ Ints .i64 w (some ⟨g, 0, none⟩) l
theorem KSl.st (n : Nat) (l : List Int) : ∀ v w w', KSl n l v w → RowKit.Below w.heap.size w w' → KSl n l v w' := fun _ _ _ ⟨g, e, h⟩ hb => ⟨g, e, h.below hb⟩
theorem ints_new (w : World) (c : Array Value) (t : TypeId) (l : List Int) (hc : c.toList = l.map (Value.int .i64)) : Ints .i64 (w.alloc (.cells c t)) (some ⟨w.heap.size, 0, none⟩) l := by
  intro i hi
  refine ⟨_, _, rfl, ?_⟩
  have := news_new w c t i (.int .i64 (nth l i)) (by rw [hc]; simp [nth, hi])
  rw [addr_add] at this; exact this
theorem step_new {o : Oper} {j q : Nat} {v0 : Value} {n : Nat} {l : List Int} {c : Array Value} {t : TypeId} (hq : ks.getD j 0 = q) (hj : j ∈ (o.after.toList.filter (fun e => Region.binds .any e)).map (fun e => e.on)) (hRj : Rat R j = KEq v0) (hc : c.toList = l.map (Value.int .i64))
    (hrun : ∀ (a' : Act) (w' : World), a'.tmps[q]?.getD undef = v0 → (execOp a'.eval o).run Tryz.prog w' = .ok (.value (.slice (some ⟨w'.heap.size, 0, none⟩) n n)) (w'.alloc (.cells c t))) (hR : Rat R i = KSl n l) : StepG Tryz.prog Q R ks a w i o := by
  intro a' w' hA hb hd K hK
  have e : a'.eval (.tmp q) = v0 := by have := hd j hj; rw [hRj, hq] at this; exact this
  exact op_value (hrun a' w' (tmp_of e)) (hK _ _ (Below.new _ _) (by rw [hR]; exact ⟨_, rfl, ints_new w' c t l hc⟩))
end
set_option maxRecDepth 20000 in
set_option maxHeartbeats 1000000 in
/-- states' closure: whether a word has the form that is asked. -/
theorem statesC_any (c1 c2 B : Nat) (a : Option Addr) (cap : Nat) (l : List X.W) (u : X.W) (f : X.W) (w : World) (hl : l.length ≤ 1000) (hr : ∀ s ∈ l, s.length ≤ 1000) (h1 : w.cell? ⟨c1, 0, none⟩ = some (.pointer (some ⟨B, 0, none⟩))) (h0 : w.cell? ⟨B, 0, none⟩ = some (.slice a l.length cap))
    (h2 : w.cell? ⟨c2, 0, none⟩ = some (sv f)) (hs : Strs w a l) :
    Calls Tryz.prog 91 #[sv u, .pointer (some ⟨c1, 0, none⟩), .pointer (some ⟨c2, 0, none⟩)] w fun e w' => e = .returned (.bool (X.cat (X.ends l u) == f)) ∧ RowKit.Below w.heap.size w w' := by
  have HF := Lib.hid (fun W hb => form_any a cap l u W hl hr (hs.below hb))
  have H1 := Lib.hid h1
  have H0 := Lib.hid h0
  have H2 := Lib.hid h2
  clear h1 h0 h2 hs hr
  generalize X.cat (X.ends l u) = g at *
  go_enter Tryz.func91, Tryz.ntmps91
  go_wp2_with fail
  refine wp_region_grows [5, 6, 7, 8, 9, 10, 11, 12, 4] [KEq (.pointer (some ⟨B, 0, none⟩)), KEq (.pointer (some ⟨B, 0, none⟩)), KEq (.pointer (some ⟨B, 0, none⟩)), KEq (.agg #[.slice a l.length cap]), KEq (sv u), KEq (sv g), KEq (sv f), KEq (.bool (g == f)), KEq (.bool (g == f))] (by kernel_rfl) (by kernel_rfl) (by kernel_rfl) rfl
    ⟨KEq.st _, KEq.st _, KEq.st _, KEq.st _, KEq.st _, KEq.st _, KEq.st _, KEq.st _, KEq.st _, trivial⟩
    ⟨step_out (q := 1) (by decide) rfl rfl (fun a' w' e hb => by have x := cell_on hb H1.out; simp [execOp, go_sem, e, x]), step_by1 (j := 0) (q := 5) rfl (by decide +kernel) rfl rfl (fun a' w' e hb => by simp [execOp, go_sem, e]), step_by1 (j := 1) (q := 6) rfl (by decide +kernel) rfl rfl (fun a' w' e hb => by simp [execOp, go_sem, e]),
      step_by1 (j := 2) (q := 7) rfl (by decide +kernel) rfl rfl (fun a' w' e hb => by have x := cell_on hb H0.out; simp [execOp, go_sem, e, x]), step_moveOut (q := 0) (by decide) rfl rfl, step_call2 (j1 := 3) (j2 := 4) rfl (by decide +kernel) rfl rfl (by decide +kernel) rfl rfl (enters_of Tryz.func78 (by kernel_rfl) rfl) (fun w' hb => HF.out w' hb),
      step_out (q := 2) (by decide) rfl rfl (fun a' w' e hb => by have x := cell_on hb H2.out; simp [execOp, go_sem, e, x]), step_by2 (j1 := 5) (j2 := 6) (q1 := 10) (q2 := 11) rfl (by decide +kernel) rfl rfl (by decide +kernel) rfl rfl (fun a' w' e1 e2 hb => by simp [execOp, go_sem, e1, e2]),
      step_by1 (j := 7) (q := 12) rfl (by decide +kernel) rfl rfl (fun a' w' e hb => by simp [execOp, go_sem, e]), trivial⟩ ?_
  rintro w1 hb _ rfl _ rfl _ rfl _ rfl _ rfl _ rfl _ rfl _ rfl _ rfl
  simp only [EndsG]
  go_simp
  go_wp2_with fail
  go_ret
  exact ⟨rfl, hb⟩
end Go.Proofs.YtcjbnifafofpbaaGreatDoor
/- Words for states: the rows of an automaton that is being made. -/
namespace Go.Proofs.YtcjbnifafofpbaaGreatDoor
open Go.RowKit Go.Lib Go.Sort
theorem T25 : RowT 25 58 (.agg #[.int .i64 0, .string ByteArray.empty, .slice none 0 0]) 3 48 := ⟨Tryz.underlying25, by kernel_rfl, rfl, by decide⟩
/-- A state, and where its ways lie. -/
abbrev Q3 := X.St × Option Addr × Nat
abbrev cellsQ (p : Q3) : List Value := [.int .i64 p.1.ends, sv p.1.letters, .slice p.2.1 p.1.next.length p.2.2]
def rowOf (q : List Q3) : List Value := q.flatMap cellsQ
theorem rowOf_nil : rowOf [] = [] := rfl
theorem rowOf_snoc (q : List Q3) (p : Q3) : rowOf (q ++ [p]) = rowOf q ++ cellsQ p := by unfold rowOf; rw [List.flatMap_append]; simp
theorem rowOf_len (q : List Q3) : (rowOf q).length = q.length * 3 := by
  unfold rowOf
  induction q with
  | nil => rfl
  | cons p q ih => rw [List.flatMap_cons, List.length_append, ih, List.length_cons]; simp; omega
theorem rowOf_at : ∀ (q : List Q3) (i k : Nat) (p : Q3), q[i]? = some p → k < 3 → (rowOf q)[i * 3 + k]? = (cellsQ p)[k]?
  | [], i, k, p, h, _ => by simp at h
  | r :: q, 0, k, p, h, hk => by
    simp only [List.getElem?_cons_zero, Option.some.injEq] at h
    subst h
    unfold rowOf
    rw [List.flatMap_cons, List.getElem?_append_left (by simp [cellsQ]; omega)]
    simp
  | r :: q, i + 1, k, p, h, hk => by
    have h' : q[i]? = some p := by simpa using h
    have ih := rowOf_at q i k p h' hk
    unfold rowOf at *
    rw [List.flatMap_cons, List.getElem?_append_right (by simp [cellsQ]; omega)]
    rw [← ih]
    congr 1
    simp [cellsQ]; omega
/-- The rows so far, and their ways. -/
structure Outs (base : Nat) (w : World) (o : Value) (q : List Q3) : Prop where
  row : w.ownsRow base 58 3 o q.length (rowOf q)
  nx : ∀ p ∈ q, Ints .i64 w p.2.1 p.1.next ∧ Off w o p.2.1
theorem Outs.nil (base : Nat) (w : World) : Outs base w (.slice none 0 0) [] := ⟨World.ownsRow_nil _ _ _ _, fun p h => by cases h⟩
theorem Outs.below {base : Nat} {w w' : World} {o : Value} {q : List Q3} (h : Outs base w o q) (hb : RowKit.Below w.heap.size w w') : Outs base w' o q :=
  ⟨owns_below h.row hb, fun p hp => ⟨(h.nx p hp).1.below hb, (h.nx p hp).2.below hb.size⟩⟩
theorem Outs.app {base : Nat} {w w' : World} {o o' : Value} {q : List Q3} {p : Q3} (h : Outs base w o q) (hr : w'.ownsRow base 58 3 o' (q.length + 1) (rowOf q ++ cellsQ p)) (hg : w.grownBy w' o.ownBlock) (hl : Lies o o' w.heap.size) (hp : Ints .i64 w p.2.1 p.1.next) (hf : Off w o p.2.1) :
    Outs base w' o' (q ++ [p]) := by
  refine ⟨by rw [List.length_append, rowOf_snoc]; exact hr, fun r hr2 => ?_⟩
  rcases List.mem_append.1 hr2 with h2 | h2
  · exact ⟨(h.nx r h2).1.grown hg (h.nx r h2).2, (h.nx r h2).2.app hg hl⟩
  · rw [List.mem_singleton.1 h2]
    exact ⟨hp.grown hg hf, hf.app hg hl⟩
theorem Outs.sts {base : Nat} {w : World} {o : Value} {q : List Q3} (h : Outs base w o q) : ∃ a c, o = .slice a q.length c ∧ Sts w a (q.map (·.1)) ∧ (q.length ≤ c ∧ (a = none → c = 0)) := by
  rcases h.row.2 with ⟨rfl, hn⟩ | ⟨g, cap, cur, rfl, hb, hg, hn, hm, hs, ht⟩
  · have hq : q = [] := List.eq_nil_of_length_eq_zero hn
    subst hq
    exact ⟨none, 0, rfl, fun i hi => by simp at hi, Nat.le_refl _, fun _ => rfl⟩
  · refine ⟨_, cap, rfl, fun i hi => ?_, hn, fun h => by cases h⟩
    rw [List.length_map] at hi
    have hat : X.at_ (q.map (·.1)) i = (q[i]'hi).1 := by unfold X.at_; simp [hi]
    have hp : q[i]? = some (q[i]'hi) := List.getElem?_eq_getElem hi
    have hmem := List.getElem_mem hi
    have c (k : Nat) (u : Value) (hk : k < 3) (hu : (cellsQ (q[i]'hi))[k]? = some u) : w.cell? ⟨g, i * 3 + k, none⟩ = some u := by
      have := h.row.cells (g := g) rfl (i * 3 + k) u (by rw [rowOf_at q i k _ hp hk]; exact hu)
      rw [addr_add, Nat.zero_add] at this
      exact this
    rw [hat]
    exact ⟨g, 0, rfl, by rw [Nat.zero_add]; exact c 0 _ (by omega) rfl, by rw [Nat.zero_add]; exact c 1 _ (by omega) rfl, _, _, by rw [Nat.zero_add]; exact c 2 _ (by omega) rfl, (h.nx _ hmem).1⟩
/-- What a letter's code is converted to. -/
theorem enc_letter {k : Nat} (h : k < 26) : Utf8.encode (97 + (k : Int)) = ⟨#[UInt8.ofNat (97 + k)]⟩ := by
  have : ∀ k : Fin 26, Utf8.encode (97 + ((k : Nat) : Int)) = ⟨#[UInt8.ofNat (97 + (k : Nat))]⟩ := by decide +kernel
  exact this ⟨k, h⟩
theorem conv_rune (n : Int) (h : 0 ≤ n) (h2 : n < 256) (W : World) : (convert 5 21 (.int .u8 n)).run Tryz.prog W = .ok (.int .i32 n) W := by
  have hw : IntKind.i32.wrap n = n := IntWalk.i32_in _ (by omega)
  unfold convert
  simp [Sem.run_bind, run_underlying Tryz.underlying5, run_underlying Tryz.underlying21, Conv.intToInt, hw, go_sem]
theorem conv_str (n : Int) (W : World) : (convert 21 9 (.int .i32 n)).run Tryz.prog W = .ok (.string (Utf8.encode n)) W := by
  unfold convert
  simp [Sem.run_bind, run_underlying Tryz.underlying21, run_underlying Tryz.underlying9, Conv.intToString, go_sem]
end Go.Proofs.YtcjbnifafofpbaaGreatDoor
