/- One text of ComP, MathF, MathG, MathH, LawV, ComR, ComS. -/
import Derived.Test.YtkcgkfhfogdihaaJ12
import Derived.WalkMore
/- Walk of the program's best. -/
namespace Go.Proofs.Ytkcgkfhfogdihaa
open Go.RowKit Go.Shelf Go.Maps
attribute [local go_sem] Oper.semAt_some
/-- The paths that some sets lead to. -/
def pathsOf (l : List (Int × Int)) (xs : List SetAt) : List (List Int) := xs.filterMap fun x => C.out (R.sel l x.ss)
theorem owns_map_below {H : Type} {P : Program} {k : TypeId} {R : Value → Option (DataW H × List MemPlace)} {w w' : World} {b n : Nat} {D : DataW H} (h : w.ownsMap P k R b n D) (hb : Below w.heap.size w w') : w'.ownsMap P k R b n D :=
  h.kept (grownBy_of_below hb none) (by simp)
/-- What holds between two rounds of the loop over all sets. -/
structure BestI (w : World) (b1 bm b3 b4 B m : Nat) (l : List (Int × Int)) (pre : List SetAt) (W : World) : Prop where
  map_ : ∃ D, W.ownsMap Try.prog 114 (plainElem (H := Unit) Try.prog 3) bm pre.length D ∧ Good l m D (pathsOf l pre)
  c1 : W.cell? ⟨b1, 0, none⟩ = some (.pointer (some ⟨B, 0, none⟩))
  c3 : W.cell? ⟨b3, 0, none⟩ = some (.map (some bm))
  c4 : W.cell? ⟨b4, 0, none⟩ = some (.int .i64 (C.mostOf l (pathsOf l pre)))
  f4 : W.frozen? ⟨b4, 0, none⟩ = false
  bel : Below b1 w W
theorem BestI.own {w : World} {b1 bm b3 b4 B m N : Nat} {l : List (Int × Int)} (h1 : b1 ≤ N) (hm : bm < N) (hw : b1 ≤ w.heap.size) : OwnFrom N (BestI w b1 bm b3 b4 B m l) := fun s X Y row h hg hr => by
  obtain ⟨⟨D, ho, hgd⟩, c1, c3, c4, f4, hb⟩ := h
  refine ⟨⟨D, ho.kept hg (fun e => ?_), hgd⟩, cell_kept c1 hg (fun r e => (hr r e).2), cell_kept c3 hg (fun r e => (hr r e).2), cell_kept c4 hg (fun r e => (hr r e).2), (frozen_kept c4 hg (fun r e => (hr r e).2)).trans f4, ?_⟩
  · have := (hr bm e.symm).1; omega
  · exact hb.grown hg (by have := hb.size; omega) (fun k e => by have := (hr k e).1; omega)
theorem SxS.own {n d N : Nat} : OwnFrom N (SxS n d) := fun x X Y row h hg hr => by
  obtain ⟨hi, ho, hl⟩ := h
  refine ⟨fun i hi' => ?_, ho, hl⟩
  obtain ⟨b, off, e, hc⟩ := hi i hi'
  exact ⟨b, off, e, cell_kept hc hg (fun r e => (hr r e).2)⟩
theorem KpS.turn {n₀ n₁ N : Nat} (h0 : n₀ ≤ N) (W : World) (k : Nat) (o o' : Obj) (hk : N ≤ k) (ho : W.heap[k]? = some o) (hc : o.isCells = false) : KpS n₀ n₁ W (W.putObj k o') := by
  have hlt := (Array.getElem?_eq_some_iff.1 ho).1
  refine ⟨(Below.refl n₀ W).grown (grownBy_putObj' W k o') (by omega) (fun j e => by cases e; omega), ⟨(grownBy_putObj' W k o').size, fun j o2 _ hj hc2 => ?_⟩⟩
  have hne : j ≠ k := fun e => by subst e; rw [ho] at hj; cases hj; rw [hc] at hc2; cases hc2
  exact (World.putObj_heap_other hne).trans hj
theorem BestI.skip {w W W' : World} {b1 bm b3 b4 B m : Nat} {l : List (Int × Int)} {pre : List SetAt} {x : SetAt} (h : BestI w b1 bm b3 b4 B m l pre W) (hb : Below W.heap.size W W') (hw : b1 ≤ w.heap.size) (hp : pathsOf l (pre ++ [x]) = pathsOf l pre) : BestI w b1 bm b3 b4 B m l (pre ++ [x]) W' := by
  obtain ⟨⟨D, ho, hgd⟩, c1, c3, c4, f4, hbl⟩ := h
  refine ⟨⟨D, (owns_map_below ho hb).mono (by simp), by rw [hp]; exact hgd⟩, cell_on hb c1, cell_on hb c3, by rw [hp]; exact cell_on hb c4, (hb.frozen (p := ⟨b4, 0, none⟩) (World.block_lt_of_cell? _ _ c4)).trans f4, hbl.trans (hb.mono (by have := hbl.size; omega))⟩
theorem KeepsFrom.of_below {N : Nat} {W W' : World} (h : Below W.heap.size W W') : KeepsFrom N W W' := ⟨h.size, fun k _ _ hk _ => (h.block k (Array.getElem?_eq_some_iff.1 hk).1).trans hk⟩
/-- What the loops over the map leave as it is. -/
structure Keep2 (w : World) (b1 b3 b4 bm Dd : Nat) (M : Nat) (wr : World) : Prop where
  c3 : wr.cell? ⟨b3, 0, none⟩ = some (.map (some bm))
  c4 : wr.cell? ⟨b4, 0, none⟩ = some (.int .i64 M)
  df : wr.heap[Dd]? = some (.deferred (some []))
  bel : Below b1 w wr
theorem Keep2.grown {w wr wr' : World} {b1 b3 b4 bm Dd M : Nat} {row : Option Nat} (h : Keep2 w b1 b3 b4 bm Dd M wr) (hg : wr.grownBy wr' row) (hr : ∀ j, row = some j → j ≠ b3 ∧ j ≠ b4 ∧ j ≠ Dd ∧ b1 ≤ j) (hw : b1 ≤ w.heap.size) : Keep2 w b1 b3 b4 bm Dd M wr' :=
  ⟨hg.cell h.c3 (fun e => (hr b3 e.symm).1 rfl), hg.cell h.c4 (fun e => (hr b4 e.symm).2.1 rfl), (hg.block Dd (Array.getElem?_eq_some_iff.1 h.df).1 (fun e => (hr Dd e.symm).2.2.1 rfl)).trans h.df, h.bel.grown hg (by have := h.bel.size; omega) (fun k e => (hr k e).2.2.2)⟩
theorem flatT_one (qs : List (List Int)) : ∀ u ∈ flatT qs, u.oneCell' = true := by
  intro u hu
  obtain ⟨q, -, h⟩ := List.mem_flatMap.1 hu
  simp only [C.encT, List.mem_cons, List.not_mem_nil, or_false] at h
  rcases h with rfl | rfl | rfl | rfl <;> rfl
namespace C
theorem mostOf_ge (l : List (Int × Int)) {Qs : List (List Int)} {q : List Int} (h : q ∈ Qs) : onL l q ≤ mostOf l Qs := by
  have mono : ∀ (Qs : List (List Int)) (m : Nat), m ≤ Qs.foldl (fun m q => max m (onL l q)) m := by
    intro Qs
    induction Qs with
    | nil => intro m; exact Nat.le_refl _
    | cons q r ih => intro m; exact Nat.le_trans (Nat.le_max_left _ _) (ih _)
  have main : ∀ (Qs : List (List Int)) (m : Nat), q ∈ Qs → onL l q ≤ Qs.foldl (fun m q => max m (onL l q)) m := by
    intro Qs
    induction Qs with
    | nil => intro m h; simp at h
    | cons p r ih =>
      intro m h
      rcases List.mem_cons.1 h with e | h
      · subst e; exact Nat.le_trans (Nat.le_max_right _ _) (mono r _)
      · exact ih _ h
  exact main Qs 0 h
/-- A path through as many sightings as determine one. -/
def Found (l : List (Int × Int)) (d : Nat) (q : List Int) : Prop := ∃ ss, R.Ord l.length ss ∧ ss.length = d + 1 ∧ R.pass (R.sel l ss) = some q
/-- All best paths, each once. -/
def Best (l : List (Int × Int)) (d : Nat) (qs : List (List Int)) : Prop := qs.Nodup ∧ ∃ Qs, (∀ q, q ∈ Qs ↔ Found l d q) ∧ ∀ q, q ∈ qs ↔ q ∈ Qs ∧ onL l q = mostOf l Qs
end C
theorem pathsOf_found {l : List (Int × Int)} {d : Nat} {xs : List SetAt} (hv : R.Valid (d : Int) l) (hd3 : d ≤ 3) (h : C.AllK l.length d [] xs) : ∀ q, q ∈ pathsOf l xs ↔ C.Found l d q := fun q => by
  unfold pathsOf
  rw [List.mem_filterMap]
  constructor
  · rintro ⟨x, hx, e⟩
    obtain ⟨h1, h2⟩ := h.1 x hx
    exact ⟨x.ss, h1, h2, by rw [← C.out_pass (R.sel_piece hv.fit hv.inc h1 (by omega))]; exact e⟩
  · rintro ⟨ss, h1, h2, e⟩
    obtain ⟨x, hx, rfl⟩ := h.2 ss h1 h2 rfl
    exact ⟨x, hx, by rw [C.out_pass (R.sel_piece hv.fit hv.inc h1 (by omega))]; exact e⟩
set_option maxRecDepth 100000 in
set_option maxHeartbeats 2000000 in
theorem cbest_any (B d : Nat) (a : Option Addr) (cap : Nat) (l : List (Int × Int)) (w : World) (hL : Logged w B (d : Int) a cap l) (hv : R.Valid (d : Int) l) :
    Calls Try.prog 72 #[.pointer (some ⟨B, 0, none⟩)] w fun e w' => ∃ qs a2 cap2, e = .returned (.slice a2 qs.length cap2) ∧ Tracks w' a2 qs ∧ C.Best l d qs ∧ Below w.heap.size w w' := by
  have hmm := @run_makeMap Try.prog
  have hd3 : d ≤ 3 := by have := hv.d3; omega
  refine (callsIn_wide (n := 3)).1 ?_
  refine callsIn_of_wp_marks Try.func72 rfl trivial ?_ rfl
  simp only [Try.ntmps72, List.size_toArray, List.length_cons, List.length_nil, Nat.reduceAdd, Nat.reduceSub, Array.replicate_succ, Array.replicate_zero, List.push_toArray, List.append_toArray, List.nil_append, List.cons_append]
  refine wpIn_wide.2 ?_
  go_wp2_with fail
  refine wp_scope_straight ?_
  go_wp2_with fail
  refine wp_label ?_
  have hN : ∃ W3, (((w.alloc (.cells #[.pointer (some ⟨B, 0, none⟩)] 72)).alloc (.map #[] 0)).alloc (.cells #[.map (some (w.heap.size + 1))] 109)).alloc (.cells #[.int .i64 0] 3) = W3 := ⟨_, rfl⟩
  obtain ⟨W3, hW3⟩ := hN
  have hsz3 : W3.heap.size = w.heap.size + 4 := by rw [← hW3]; simp
  have hb3 : Below w.heap.size w W3 := by rw [← hW3]; exact (((Below.new w _).alloc (by simp) _).alloc (by simp; omega) _).alloc (by simp; omega) _
  have hown3 : W3.ownsMap Try.prog 114 (plainElem (H := Unit) Try.prog 3) (w.heap.size + 1) 0 (.map []) := by
    rw [← hW3]
    have h := World.ownsMap_made (H := Unit) (w.alloc (.cells #[.pointer (some ⟨B, 0, none⟩)] 72)) Try.prog 114 (plainElem Try.prog 3)
    rw [World.size_alloc] at h
    exact (h.alloc _).alloc _
  have hc1 : W3.cell? ⟨w.heap.size, 0, none⟩ = some (.pointer (some ⟨B, 0, none⟩)) := by
    rw [← hW3]; exact cell_on (Below.new _ _) (cell_on (Below.new _ _) (cell_on (Below.new _ _) (cell_new1 w _ _)))
  have hc3 : W3.cell? ⟨w.heap.size + 1 + 1, 0, none⟩ = some (.map (some (w.heap.size + 1))) := by
    rw [← hW3]
    have := cell_new1 ((w.alloc (.cells #[.pointer (some ⟨B, 0, none⟩)] 72)).alloc (.map #[] 0)) (.map (some (w.heap.size + 1))) 109
    rw [World.size_alloc, World.size_alloc] at this
    exact cell_on (Below.new _ _) this
  have hc4 : W3.cell? ⟨w.heap.size + 1 + 1 + 1, 0, none⟩ = some (.int .i64 0) := by
    rw [← hW3]
    have := cell_new1 (((w.alloc (.cells #[.pointer (some ⟨B, 0, none⟩)] 72)).alloc (.map #[] 0)).alloc (.cells #[.map (some (w.heap.size + 1))] 109)) (.int .i64 0) 3
    rw [World.size_alloc, World.size_alloc, World.size_alloc] at this
    exact this
  have hf4 : W3.frozen? ⟨w.heap.size + 1 + 1 + 1, 0, none⟩ = false := by
    rw [← hW3]
    have fr : ∀ (W : World) (v : Value) (t : TypeId), (W.alloc (.cells #[v] t)).frozen? ⟨W.heap.size, 0, none⟩ = false := by intro W v t; simp
    have := fr (((w.alloc (.cells #[.pointer (some ⟨B, 0, none⟩)] 72)).alloc (.map #[] 0)).alloc (.cells #[.map (some (w.heap.size + 1))] 109)) (.int .i64 0) 3
    rw [World.size_alloc, World.size_alloc, World.size_alloc] at this
    exact this
  rw [hW3]
  clear hW3
  have hM4 : ∃ x, w.heap.size + 1 + 1 + 1 = x := ⟨_, rfl⟩
  obtain ⟨b4, hb4⟩ := hM4
  have hM3 : ∃ x, w.heap.size + 1 + 1 = x := ⟨_, rfl⟩
  obtain ⟨b3, hb3'⟩ := hM3
  have hM2 : ∃ x, w.heap.size + 1 = x := ⟨_, rfl⟩
  obtain ⟨bm, hbm⟩ := hM2
  have hM1 : ∃ x, w.heap.size = x := ⟨_, rfl⟩
  obtain ⟨b1, hb1'⟩ := hM1
  rw [hb4] at hc4 hf4 ⊢
  rw [hb3'] at hc3 ⊢
  rw [hbm] at hc3 hown3 ⊢
  rw [hb1'] at hc1 hsz3 ⊢
  have hord : b1 < bm ∧ bm < b3 ∧ b3 < b4 ∧ W3.heap.size = b4 + 1 := by omega
  have hBb : B < b1 := by have := hL.lt; omega
  have HL3 := Lib.hid (hL.on hb3)
  have HB3 := Lib.hid hb3
  clear hb4 hb3' hbm hsz3 hb3
  go_wp2_with (go_at_call 83; refine (sets_any B W3).mono ?_; rintro e w4 ⟨rfl, hw4⟩)
  have hbx : w4.cell? ⟨b4 + 1, 0, none⟩ = some (.pointer (some ⟨B, 0, none⟩)) := by rw [hw4, ← hord.2.2.2]; exact cell_new1 _ _ _
  have hsz4 : w4.heap.size = b4 + 2 := by rw [hw4, World.size_alloc, hord.2.2.2]
  have hb34 : Below W3.heap.size W3 w4 := by rw [hw4]; exact Below.new _ _
  have hI0 : BestI w b1 bm b3 b4 B (d + 1) l [] w4 :=
    ⟨⟨.map [], owns_map_below hown3 hb34, Good.start l (d + 1)⟩, cell_on hb34 hc1, cell_on hb34 hc3, cell_on hb34 hc4, (hb34.frozen (p := ⟨b4, 0, none⟩) (by show b4 < _; omega)).trans hf4, by rw [← hb1']; exact HB3.out.trans (hb34.mono HB3.out.size)⟩
  have HL4 := Lib.hid (HL3.out.on hb34)
  have HI0 := Lib.hid hI0
  rw [← hw4]
  clear hw4 hown3 hc1 hc3 hc4 hf4 hb34 hI0 HL3 HB3 hmm
  refine (wpIn_wide (n := 3)).1 ?_
  refine wpIn_rangeX (F := Fence.wide) (n := 3) rfl (by omega) (gf := 90) (lb := #[.pointer (some ⟨b4 + 1, 0, none⟩)]) rfl trivial (enters_of Try.func90 (by kernel_rfl) rfl)
    (sets1_seq Fence.wide rfl 2 trivial trivial rfl (b4 + 1) b1 (b4 + 2) B d a l.length cap hv.len hd3 hBb w4 (by omega) (by omega) hbx HL4.out.x1 HL4.out.x2)
    (fun h k => h.trans k) (fun W k o o' hk ho hc _ => KpS.turn (N := w4.heap.size) (by omega) W k o o' hk ho hc) (Below.refl _ _) (fun _ => rfl)
    (BestI w b1 bm b3 b4 B (d + 1) l) (BestI.own (by omega) (by omega) (by omega)) SxS.own HI0.out
    (fun x => { tmps := #[.pointer (some ⟨B, 0, none⟩), .pointer (some ⟨b1, 0, none⟩), .slice none 0 0, .pointer (some ⟨b3, 0, none⟩), .pointer (some ⟨b4, 0, none⟩), .slice x.a x.ss.length x.cap, undef, undef, undef, undef, undef, undef, .map (some bm), .pointer (some ⟨B, 0, none⟩), .func (.func 90) #[] #[.pointer (some ⟨b4 + 1, 0, none⟩)], .slice x.a x.ss.length x.cap, undef, undef, undef, undef, undef, undef, undef, undef, undef, undef, undef, undef, undef, undef, undef, undef, undef, undef, undef, undef, undef, undef, undef, undef, undef, undef, undef, undef, undef, undef, undef, undef, undef, undef, undef, undef, undef, undef, undef, undef, undef, undef, undef, undef, undef, undef, undef, undef, undef, undef, undef, undef, undef, undef, undef, undef], defers := [] }) ?assign ?body ?done
  case assign =>
    intro l0 x W K hK
    gi_wp2
    exact hK
  case body =>
    rintro l0 pre ⟨xa, xcap, ss⟩ W hi ⟨hxi, hxo, hxl⟩ hlen
    dsimp only at hxi hxo hxl ⊢
    obtain ⟨⟨D, hown, hgood⟩, c1, c3, c4, f4, hbel⟩ := hi
    have HLW := Lib.hid (show Logged W B (d : Int) a cap l from by
      have := hL.on (hb1' ▸ hbel)
      exact this)
    have hth := through_any B d a cap l xa xcap ss W HLW.out hv hxi hxo (by omega) (by omega)
    have hpth := R.sel_piece hv.fit hv.inc hxo (by omega)
    have hpass := C.out_pass hpth
    have hln : (R.sel l ss).length = d + 1 := by rw [← hxl]; exact R.selTo_length _ _ _
    have hstep : pathsOf l (pre ++ [⟨xa, xcap, ss⟩]) = pathsOf l pre ++ (match C.out (R.sel l ss) with | none => [] | some q => [q]) := by
      unfold pathsOf
      rw [List.filterMap_append]
      congr 1
      show List.filterMap _ [_] = _
      rw [List.filterMap_cons, List.filterMap_nil]
      cases C.out (R.sel l ss) <;> rfl
    rw [hxl] at hth
    have HI := Lib.hid (show BestI w b1 bm b3 b4 B (d + 1) l pre W from ⟨⟨D, hown, hgood⟩, c1, c3, c4, f4, hbel⟩)
    have HX := Lib.hid hxl
    clear hxl hown hgood
    cases ho : C.out (R.sel l ss) with
    | none =>
      rw [ho] at hth hstep
      have HTh : Hid (Calls Try.prog 59 #[.pointer (some ⟨B, 0, none⟩), .slice xa (d + 1) xcap] W fun e w' => e = .returned (.tuple #[.agg #[.int .i64 0, .int .i64 0, .int .i64 0, .int .i64 0], .bool false]) ∧ Below W.heap.size W w') := Lib.hid hth
      have HSt : Hid (pathsOf l (pre ++ [⟨xa, xcap, ss⟩]) = pathsOf l pre) := Lib.hid (by rw [hstep]; simp)
      clear hth hstep hpth hpass hxi hxo
      rw [HX.out]
      gi_wp2_with (refine ⟨trivial, ?_⟩; gi_at_call 59; refine (CallsIn.inRound l0 (callsIn_wide.2 HTh.out)).mono ?_; rintro e w1 ⟨rfl, hb1⟩)
      have hb2 := hb1.alloc hb1.size (.cells #[.int .i64 0, .int .i64 0, .int .i64 0, .int .i64 0] 76)
      exact ⟨KeepsFrom.of_below hb2, KpS.of_below hb2 (by have := hbel.size; omega), HI.out.skip hb2 (by omega) HSt.out⟩
    | some q =>
      rw [ho] at hth hstep hpass
      obtain ⟨hq1, hq2, hq3⟩ := hpth.pass_some hpass.symm
      rw [hln] at hq1
      have HTh : Hid (Calls Try.prog 59 #[.pointer (some ⟨B, 0, none⟩), .slice xa (d + 1) xcap] W fun e w' => e = .returned (.tuple #[.agg #[.int .i64 (nth q 0), .int .i64 (nth q 1), .int .i64 (nth q 2), .int .i64 (nth q 3)], .bool true]) ∧ Below W.heap.size W w') := Lib.hid hth
      have HSt : Hid (pathsOf l (pre ++ [⟨xa, xcap, ss⟩]) = pathsOf l pre ++ [q]) := Lib.hid hstep
      have HOk := Lib.hid (show PathOk (d + 1) q from ⟨hq3, hq1⟩)
      clear hth hstep hpth hpass hxi hxo hq1 hq2 hq3 ho
      rw [HX.out]
      refine wpIn_block ?_
      refine wpIn_seq_k fun K1 hK1 => ?_
      gi_wp2_with (refine ⟨trivial, ?_⟩; gi_at_call 59; refine (CallsIn.inRound l0 (callsIn_wide.2 HTh.out)).mono ?_; rintro e w1 ⟨rfl, hb1⟩)
      have hb2 := hb1.alloc hb1.size (.cells #[.int .i64 (nth q 0), .int .i64 (nth q 1), .int .i64 (nth q 2), .int .i64 (nth q 3)] 76)
      have hq4 := track_cells (w := w1.alloc (.cells #[.int .i64 (nth q 0), .int .i64 (nth q 1), .int .i64 (nth q 2), .int .i64 (nth q 3)] 76)) (H := w1.heap.size) (q := q) (by simp) (by simp) (by simp) (by simp)
      have hN5 : ∃ W5, w1.alloc (.cells #[.int .i64 (nth q 0), .int .i64 (nth q 1), .int .i64 (nth q 2), .int .i64 (nth q 3)] 76) = W5 := ⟨_, rfl⟩
      obtain ⟨W5, hW5⟩ := hN5
      have hNH : ∃ H, w1.heap.size = H := ⟨_, rfl⟩
      obtain ⟨H, hH⟩ := hNH
      rw [hW5] at hb2 hq4 ⊢
      rw [hH] at hq4 ⊢
      have hHW : W.heap.size ≤ H := by have := hb1.size; omega
      clear hW5 hH hb1
      have HB5 := Lib.hid hb2
      have HQ5 := Lib.hid hq4
      have cOn : ∀ dd os, Calls Try.prog 63 #[.pointer (some ⟨B, 0, none⟩), .agg #[.int .i64 (nth q 0), .int .i64 (nth q 1), .int .i64 (nth q 2), .int .i64 (nth q 3)]] (Go.Sort.grow (redrawn W5 dd) os) fun e w'' => e = .returned (.int .i64 (C.onL l q)) ∧ ∃ p : Regrown, w'' = Go.Sort.grow (redrawn W5 p.d) p.os := fun dd os =>
        Calls.regrown_of (con_any B d a cap l q _ ((HLW.out.on hb2).on (below_regrown W5 dd os)) hv (by rw [HOk.out.2]; omega) HOk.out.1)
      have r1 := cell_regrown (cell_on hb2 c1)
      have r3 := cell_regrown (cell_on hb2 c3)
      have q0 := cell_regrown (hq4 0 (by omega))
      have q1 := cell_regrown (hq4 1 (by omega))
      have q2 := cell_regrown (hq4 2 (by omega))
      have q3 := cell_regrown (hq4 3 (by omega))
      clear hb2 hq4 c1 c3 c4 f4
      refine wpIn_region_quiet_tail (l₀ := l0) (C := fun w' => ∃ p : Regrown, w' = Go.Sort.grow (redrawn W5 p.d) p.os) 6 (by kernel_rfl) (by kernel_rfl) (by kernel_rfl) ⟨⟨_, #[]⟩, by rw [Go.Sort.grow_empty]; rfl⟩ ?_
      simp only [List.take_succ_cons, List.take_zero, List.drop_succ_cons, List.drop_zero]
      repeat (quiet_step (exact cOn _ _))
      refine wpQuiet_nil ?_
      intro W6' hw'
      obtain ⟨⟨dq, osq⟩, hw''⟩ := hw'
      have hb6 : Below W5.heap.size W5 W6' := by rw [hw'']; exact below_regrown W5 dq osq
      clear hw'' r1 r3 q0 q1 q2 q3 cOn
      obtain ⟨W6, rfl⟩ : ∃ W6, W6 = W6' := ⟨_, rfl⟩
      have HB6 := Lib.hid (HB5.out.trans (hb6.mono HB5.out.size))
      obtain ⟨⟨D, hown, hgood⟩, c1, c3, c4, f4, hbel2⟩ := HI.out
      have hown6 := owns_map_below hown HB6.out
      have hroom : pre.length < maxLen := by
        have : 12 ^ (d + 1) ≤ 12 ^ 4 := Nat.pow_le_pow_right (by omega) (by omega)
        have e4 : 12 ^ 4 = 20736 := by decide
        unfold maxLen; omega
      have hwf : (Lit.int .i64 (C.onL l q : Int)).wf = true := WalkArith.wf_i64 (by have := C.onL_le l q; have := hv.len; omega)
      refine wpListIn_mapUpdate_own _ rfl _ _ _ 109 rfl 114 3 K114 Try.underlying109 (plainElem (H := Unit) Try.prog 3) bm pre.length D rfl hown6 hroom (trackV q) (.int .i64 (C.onL l q)) (klT q) rfl rfl (klT_key HOk.out.1) (.lit (.int .i64 (C.onL l q))) [] (plainElem_int Try.underlying3 hwf) ?_
      intro w7 hown7 hg7
      have hgood7 := hgood.step (by omega) HOk.out
      have k1 := (hg7.cell (cell_on HB6.out c1) (by simp; omega))
      have k3 := (hg7.cell (cell_on HB6.out c3) (by simp; omega))
      have k4 := (hg7.cell (cell_on HB6.out c4) (by simp; omega))
      have hbmlt := hown.lt
      have hc4lt : b4 < W.heap.size := World.block_lt_of_cell? _ _ c4
      have f7 : w7.frozen? ⟨b4, 0, none⟩ = false := by
        have e1 : w7.frozen? ⟨b4, 0, none⟩ = W6.frozen? ⟨b4, 0, none⟩ := World.frozen?_of_block (hg7.block b4 (by have := HB6.out.size; omega) (by intro e; cases e; omega))
        exact e1.trans ((HB6.out.frozen (p := ⟨b4, 0, none⟩) hc4lt).trans f4)
      have hq7 : ∀ k, k < 4 → w7.cell? ⟨H, k, none⟩ = some (.int .i64 (nth q k)) := fun k hk => hg7.cell (cell_on hb6 (HQ5.out k hk)) (by simp; omega)
      have hlk : ∀ dd os, (Instr.lookup 109 (.map (some bm)) (.agg #[.int .i64 (nth q 0), .int .i64 (nth q 1), .int .i64 (nth q 2), .int .i64 (nth q 3)]) false).run Try.prog (Go.Sort.grow (redrawn w7 dd) os) = .ok (.int .i64 (C.onL l q)) (Go.Sort.grow (redrawn w7 dd) os) := fun dd os => by
        obtain ⟨c, hrun, hat, -⟩ := (owns_map_below hown7 (below_regrown w7 dd os)).lookup_int K114 Try.underlying109 Try.underlying3 (Try.zeroValue3 _) (klT_key HOk.out.1)
        have := hgood7.at_ q (by simp) (.lit (.int .i64 0))
        rw [this] at hat
        simp only [DataW.lit.injEq, Lit.int.injEq, true_and] at hat
        rw [← hat] at hrun
        exact hrun
      have HF7 := Lib.hid f7
      have HK : Hid (KeepsFrom w4.heap.size W w7 ∧ KpS b1 (b4 + 2) W w7) := Lib.hid ⟨(KeepsFrom.of_below HB6.out).trans (KeepsFrom.of_grownBy hg7 (fun j e => by cases e; omega)),
        (KpS.of_below HB6.out (by have := hbel2.size; omega)).trans ⟨(Below.refl b1 W6).grown hg7 (by have := HB6.out.size; have := hbel2.size; omega) (fun j e => by cases e; omega), KeepsCells.of_grownBy hg7 (fun j e => by cases e; omega)⟩⟩
      have HO7 := Lib.hid hown7
      have HG7 := Lib.hid hgood7
      have HK1 := Lib.hid k1
      have HK3 := Lib.hid k3
      have HBel := Lib.hid hbel2
      have r3 := cell_regrown k3
      have r4 := cell_regrown k4
      have q0 := cell_regrown (hq7 0 (by omega))
      have q1 := cell_regrown (hq7 1 (by omega))
      have q2 := cell_regrown (hq7 2 (by omega))
      have q3 := cell_regrown (hq7 3 (by omega))
      have hsz7 : W.heap.size ≤ w7.heap.size := Nat.le_trans HB6.out.size hg7.size
      have HK4 := Lib.hid k4
      clear hg7 k1 k3 k4 f7 hq7 hown7 hgood7 hwf hroom hown6 hown hgood c1 c3 c4 f4 hbel2 hb6
      gi_wp2
      refine wpIn_region_quiet_tail (l₀ := l0) (C := fun w' => ∃ p : Regrown, w' = Go.Sort.grow (redrawn w7 p.d) p.os) 5 (by kernel_rfl) (by kernel_rfl) (by kernel_rfl) ⟨⟨_, #[]⟩, by rw [Go.Sort.grow_empty]; rfl⟩ ?_
      simp only [List.take_succ_cons, List.take_zero, List.drop_succ_cons, List.drop_zero]
      repeat (quiet_step (fail))
      refine wpQuiet_nil ?_
      intro W8' hw'
      obtain ⟨⟨dq2, osq2⟩, hw''⟩ := hw'
      have hb8 : Below w7.heap.size w7 W8' := by rw [hw'']; exact below_regrown w7 dq2 osq2
      clear hw'' r3 r4 q0 q1 q2 q3 hlk
      obtain ⟨W8, rfl⟩ : ∃ W8, W8 = W8' := ⟨_, rfl⟩
      have k4 := cell_on hb8 HK4.out
      have f8 := (hb8.frozen (p := ⟨b4, 0, none⟩) (World.block_lt_of_cell? _ _ HK4.out)).trans HF7.out
      have hgr := greatest_any (some ⟨W8.heap.size, 0, none⟩) 2 [(C.mostOf l (pathsOf l pre) : Int), (C.onL l q : Int)] (W8.alloc (.cells #[.int .i64 (C.mostOf l (pathsOf l pre) : Int), .int .i64 (C.onL l q : Int)] 3)) (by simp) (by
        intro i hi
        have : i = 0 ∨ i = 1 := by simp at hi; omega
        refine ⟨W8.heap.size, 0, rfl, ?_⟩
        rcases this with rfl | rfl <;> simp [nth])
      have hgv : C.great [(C.mostOf l (pathsOf l pre) : Int), (C.onL l q : Int)] 2 = (C.mostOf l (pathsOf l pre ++ [q]) : Int) := by
        rw [C.mostOf_snoc]
        show max (max 0 _) _ = _
        simp only [nth, List.getD_eq_getElem?_getD]
        simp
        omega
      simp only [List.length_cons, List.length_nil, Nat.zero_add, Nat.reduceAdd] at hgr
      rw [hgv] at hgr
      have HGr := Lib.hid hgr
      have HB8 := Lib.hid hb8
      have HK4' := Lib.hid k4
      have HF8 := Lib.hid f8
      clear hgr hgv hb8 k4 f8
      gi_wp2_with (refine ⟨trivial, ?_⟩; gi_at_call 84; refine (CallsIn.inRound l0 (callsIn_wide.2 HGr.out)).mono ?_; clear HGr; rintro e w9 ⟨rfl, hw9⟩; obtain ⟨k4, f9, hb9⟩ : w9.cell? ⟨b4, 0, none⟩ = some (.int .i64 (C.mostOf l (pathsOf l pre))) ∧ w9.frozen? ⟨b4, 0, none⟩ = false ∧ Below W8.heap.size W8 w9 := (by
        rw [← hw9]
        exact ⟨cell_on (Below.new W8 _) HK4'.out, ((Below.new W8 _).frozen (p := ⟨b4, 0, none⟩) (World.block_lt_of_cell? _ _ HK4'.out)).trans HF8.out, Below.new W8 _⟩); clear hw9)
      have hb79 : Below w7.heap.size w7 w9 := HB8.out.trans (hb9.mono HB8.out.size)
      have hput := grownBy_setCell' w9 b4 (.int .i64 (C.mostOf l (pathsOf l pre ++ [q]) : Int))
      have hs9 := hb79.size
      have hbs := HBel.out.size
      refine ⟨?_, ?_, ?_⟩
      · exact HK.out.1.trans ((KeepsFrom.of_below hb79).trans (KeepsFrom.of_grownBy hput (fun j e => by cases e; omega)))
      · refine HK.out.2.trans ((KpS.of_below hb79 (by omega)).trans ⟨(Below.refl b1 w9).grown hput (by omega) (fun j e => by cases e; omega), KeepsCells.of_grownBy hput (fun j e => by cases e; omega)⟩)
      · have hbl : Below b1 w (w9.setCell ⟨b4, 0, none⟩ (.int .i64 (C.mostOf l (pathsOf l pre ++ [q]) : Int))) := ((HBel.out.trans HK.out.2.1).trans (hb79.mono (by omega))).grown hput (by have := HBel.out.size; omega) (fun j e => by cases e; omega)
        refine ⟨⟨_, ?_, by rw [HSt.out]; exact HG7.out⟩, ?_, ?_, ?_, ?_, hbl⟩
        · rw [List.length_append, List.length_singleton]
          exact (owns_map_below HO7.out hb79).kept hput (by simp; omega)
        · exact hput.cell (cell_on hb79 HK1.out) (by simp; omega)
        · exact hput.cell (cell_on hb79 HK3.out) (by simp; omega)
        · rw [HSt.out]; exact World.cell?_setCell_same' _ _ _ (by rw [k4]; rfl)
        · rw [World.frozen?_setCell]; exact f9
  case done =>
    rintro Dd xs W hDd ⟨hxn, hall⟩ hi hdf
    obtain ⟨⟨D, hown, hgood⟩, c1, c3, c4, f4, hbel⟩ := hi
    have HFo := Lib.hid (pathsOf_found hv hd3 hall)
    have hM := C.mostOf_le l (pathsOf l xs)
    have h12 := hv.len
    have HOkq := Lib.hid hgood.ok
    have HSt := Lib.hid (Strike.start (M := C.mostOf l (pathsOf l xs)) hgood)
    have hxlen : xs.length < maxLen := by
      have e4 : 12 ^ 4 = 20736 := by decide
      have : 12 ^ (d + 1) ≤ 12 ^ 4 := Nat.pow_le_pow_right (by omega) (by omega)
      unfold maxLen; omega
    clear hall hgood f4
    generalize pathsOf l xs = Qs at *
    simp only [Exit.inBlock, Exit.then]
    go_wp2_with (at_range; refine wpList_range_own _ rfl _ 109 rfl 114 3 K114 Try.underlying109 _ bm xs.length D rfl hown ?_; intro w0 hrg0 hg0 hs0)
    have hDW : Dd < W.heap.size := (Array.getElem?_eq_some_iff.1 hdf).1
    have hbmW : bm < W.heap.size := hown.lt
    have hM0 : ∃ M, C.mostOf l Qs = M := ⟨_, rfl⟩
    have hge := fun q (hq : q ∈ Qs) => C.mostOf_ge l hq
    obtain ⟨M, hMM⟩ := hM0
    rw [hMM] at c4 hM HSt hge
    have HMM := Lib.hid hMM
    have HGe := Lib.hid hge
    have hK0 : Keep2 w b1 b3 b4 bm Dd M w0 := (show Keep2 w b1 b3 b4 bm Dd M W from ⟨c3, c4, hdf, hbel⟩).grown hg0 (fun j e => by cases e) (by omega)
    clear hMM hge c1 c3 c4 hdf hbel hown hg0 hs0
    go_frame
    go_loopw [9] (fun _ wr => ∃ D' left cnt, wr.ranges Try.prog 114 (plainElem (H := Unit) Try.prog 3) bm W.heap.size xs.length D' left cnt ∧ Hid (Strike l M Qs D' left) ∧ Keep2 w b1 b3 b4 bm Dd M wr) (fun _ wr => wr.rangeLeft bm W.heap.size)
    case atStart => exact ⟨_, _, _, hrg0, HSt, hK0⟩
    case round =>
      clear hK0 hrg0 HSt
      obtain ⟨D', left, cnt, hrg, HS, hK⟩ := hrel
      have c3 := hK.c3
      have hAt : ∀ q ∈ Qs, left (klT q) = true → ∀ z, D'.atKey (klT q) z = .lit (.int .i64 (C.onL l q)) := fun q hq hl z => HS.out.at_ q hq ((HS.out.has _).2 ⟨q, hq, rfl, .inl hl⟩) z
      have HAt := Lib.hid hAt
      have HK2 := Lib.hid hK
      clear hAt hK
      go_wp2_with (at_next; refine wpNextT rfl _ rfl l Qs bm W.heap.size xs.length D' left cnt rfl hrg (fun q hq => (HOkq.out q hq).1) HS.out.sub HAt.out ?_ ?_)
      · intro _ hl0
        have hown' := hrg.owns
        have HCo := Lib.hid (Coll.start HS.out hl0)
        have hAt2 : ∀ q ∈ Qs, Maps.has D' (klT q) = true → ∀ z, D'.atKey (klT q) z = .lit (.int .i64 (C.onL l q)) := HS.out.at_
        have hsz2 : Maps.size D' ≤ xs.length := by
          obtain ⟨es, clock, hb, F, hs, rfl⟩ := hown'
          simpa [Maps.size, length_sorted] using hs
        have HAt2 := Lib.hid hAt2
        have HSub2 := Lib.hid (show ∀ kl, Maps.has D' kl = true → ∃ q ∈ Qs, klT q = kl from fun kl hk => by obtain ⟨q, hq, e, -⟩ := (HS.out.has kl).1 hk; exact ⟨q, hq, e⟩)
        have hbmr : bm < wr.heap.size := hown'.lt
        have hDdr : Dd < wr.heap.size := (Array.getElem?_eq_some_iff.1 HK2.out.df).1
        clear hAt2 hl0 hrg
        go_wp2_with (at_range; refine wpList_range_own _ rfl _ 109 rfl 114 3 K114 Try.underlying109 _ bm xs.length D' rfl hown' ?_; intro w1 hrg1 hg1 hs1)
        have hK1 := HK2.out.grown hg1 (fun j e => by cases e) (by omega)
        have HK1 := Lib.hid hK1
        have hr : ∃ r, wr.heap.size = r := ⟨_, rfl⟩
        obtain ⟨r, hr⟩ := hr
        rw [hr] at hrg1 hs1 hbmr hDdr ⊢
        have hw1 : w1.heap.size = r + 1 := hs1
        clear hK1 hs1 hg1 hown' c3
        go_frame
        go_loopw [10, 11] (fun v _ wi => ∃ left cnt qs, wi.ranges Try.prog 114 (plainElem (H := Unit) Try.prog 3) bm r xs.length D' left cnt ∧ Hid (Coll l M Qs left qs ∧ (∀ kl, left kl = true → Maps.has D' kl = true) ∧ qs.length + cnt ≤ xs.length) ∧ Keep2 w b1 b3 b4 bm Dd M wi ∧ wi.ownsRow (r + 1) 76 4 v qs.length (flatT qs) ∧ r + 1 ≤ wi.heap.size) (fun _ _ wi => wi.rangeLeft bm r)
        case atStart => exact ⟨_, _, [], hrg1, Lib.hid ⟨HCo.out, fun kl h => h, by simpa using hsz2⟩, HK1.out, World.ownsRow_nil _ _ _ _, by omega⟩
        case round =>
          clear hrg1 HCo HK1 hw1
          obtain ⟨left2, cnt2, qs, hrg2, HCo, hK, hrow, hsz⟩ := hrel
          have HRow := Lib.hid hrow
          have HK3 := Lib.hid hK
          clear hrow hK
          go_wp2_with (at_next; refine wpNextT rfl _ rfl l Qs bm r xs.length D' left2 cnt2 rfl hrg2 (fun q hq => (HOkq.out q hq).1) (fun kl hk => HSub2.out kl (HCo.out.2.1 kl hk)) (fun q hq hl => HAt2.out q hq (HCo.out.2.1 _ hl)) ?_ ?_)
          · intro _ hl0
            have HDn := Lib.hid (HCo.out.1.done hl0)
            have hnn : qs.length ≤ 1000000 := by
              have e4 : 12 ^ 4 = 20736 := by decide
              have : 12 ^ (d + 1) ≤ 12 ^ 4 := Nat.pow_le_pow_right (by omega) (by omega)
              have := HCo.out.2.2
              omega
            have hsort := csort_any u10 qs.length qs (r + 1) wr HRow.out hnn hsz
            have HSort := Lib.hid hsort
            clear hsort hrg2
            go_wp2_with fail
            refine HSort.out.mono ?_
            rintro e w5 ⟨rfl, qs', a5, cap5, rfl, hperm, htr, hbl⟩
            have hdf5 : w5.heap[Dd]? = some (.deferred (some [])) := (hbl.block Dd (by omega)).trans HK3.out.df
            have hbel5 : Below b1 w w5 := HK3.out.bel.trans (hbl.mono (by omega))
            go_wp2_with fail
            change bodyPostM Fence.wide 3 Try.prog Try.f72 _ Exit.ret _ w5
            refine ⟨by simp, .inl ⟨_, _, rfl, run_takeDeferred hdf5, ?_⟩⟩
            refine ⟨_, results_tmp rfl _ _ _, qs', a5, cap5, by rw [hperm.length_eq]; rfl, fun i hi => ?_, ⟨hperm.nodup_iff.2 HDn.out.1, Qs, HFo.out, fun q => by rw [hperm.mem_iff, HDn.out.2 q, HMM.out]⟩, ?_⟩
            · obtain ⟨b, off, e, hc⟩ := htr i hi
              exact ⟨b, off, e, fun c hc4 => cell_kept (hc c hc4) (grownBy_putObj' w5 Dd (.deferred none)) (fun r e => by cases e; exact ⟨_, hdf5, rfl⟩)⟩
            · rw [hb1']
              exact hbel5.grown (grownBy_putObj' w5 Dd (.deferred none)) (by have := hbel5.size; omega) (fun j e => by cases e; omega)
          · intro q hq hlq w2 cnt3 hrg3 hlt hg3 hs3 hen
            clear hs3
            have hrlt := hrg3.lt
            have hsz3 : r + 1 ≤ w2.heap.size := by omega
            have hrow2 : w2.ownsRow (r + 1) 76 4 u10 qs.length (flatT qs) := HRow.out.kept hg3 (.inr (fun e => by have := (HRow.out.lt r e).1; omega))
            have hK4 := HK3.out.grown hg3 (fun j e => by cases e; omega) (by omega)
            have HCo2 := fun (qs' : List (List Int)) (hp : qs'.Perm (q :: qs)) => HCo.out.1.more HOkq.out (by omega) hq hlq hp
            have hrow3 := hrow2.alloc (.cells #[.int .i64 (nth q 0), .int .i64 (nth q 1), .int .i64 (nth q 2), .int .i64 (nth q 3)] 114)
            have hK5 := hK4.grown (World.grownBy_alloc w2 (.cells #[.int .i64 (nth q 0), .int .i64 (nth q 1), .int .i64 (nth q 2), .int .i64 (nth q 3)] 114) none) (fun j e => by cases e) (by omega)
            have hrg4 := hrg3.alloc (.cells #[.int .i64 (nth q 0), .int .i64 (nth q 1), .int .i64 (nth q 2), .int .i64 (nth q 3)] 114)
            have hq4 := track_cells (w := w2.alloc (.cells #[.int .i64 (nth q 0), .int .i64 (nth q 1), .int .i64 (nth q 2), .int .i64 (nth q 3)] 114)) (H := w2.heap.size) (q := q) (by simp) (by simp) (by simp) (by simp)
            have hcount := HCo.out.2.2
            have hsub2 : ∀ kl, (left2 kl && !kl.sameKey (klT q)) = true → Maps.has D' kl = true := fun kl hk => HCo.out.2.1 kl (by revert hk; cases left2 kl <;> simp)
            have hn2 : qs.length + 1 ≤ 2000000 := by
              have e4 : 12 ^ 4 = 20736 := by decide
              have : 12 ^ (d + 1) ≤ 12 ^ 4 := Nat.pow_le_pow_right (by omega) (by omega)
              omega
            have hg76 := Try.eqGuardType76
            have hnews := news_new (w2.alloc (.cells #[.int .i64 (nth q 0), .int .i64 (nth q 1), .int .i64 (nth q 2), .int .i64 (nth q 3)] 114)) #[.int .i64 (nth q 0), .int .i64 (nth q 1), .int .i64 (nth q 2), .int .i64 (nth q 3)] 76
            rw [World.size_alloc] at hnews
            have HNews := Lib.hid hnews
            clear hnews
            have HRow3 := Lib.hid hrow3
            have HK5 := Lib.hid hK5
            have HRg4 := Lib.hid hrg4
            have HQ4 := Lib.hid hq4
            have HSub := Lib.hid hsub2
            have HMore := Lib.hid HCo2
            clear hrow2 hrow3 hK4 hK5 hrg3 hrg4 hq4 hg3 hsub2 HCo2
            cases hz : (nth q 0 == 0 && (nth q 1 == 0 && (nth q 2 == 0 && nth q 3 == 0))) with
            | false =>
              have hEq : ∀ W, (binOp .eql 76 (.agg #[.int .i64 (nth q 0), .int .i64 (nth q 1), .int .i64 (nth q 2), .int .i64 (nth q 3)]) (.agg #[.int .i64 0, .int .i64 0, .int .i64 0, .int .i64 0])).run Try.prog W = .ok (.bool false) W := fun W => by rw [eq_zero, hz]
              clear hz
              go_wp2_with (at_builtin; refine listApp T87 rfl (.tmp 64) (.tmp 67) rfl (r + 1) u10 qs.length (flatT qs) (C.encT q) 1 1 ⟨w2.heap.size + 1, 0, none⟩ rfl (HRow3.out.alloc _) rfl rfl HNews.out (by simp [C.encT, Value.oneCell']) hn2 (by simp; omega) ?_; intro v1 w4 hown4 hg4 hL4)
              have hgall : (w2.alloc (.cells #[.int .i64 (nth q 0), .int .i64 (nth q 1), .int .i64 (nth q 2), .int .i64 (nth q 3)] 114)).grownBy w4 u10.ownBlock := (World.grownBy_alloc (w2.alloc (.cells #[.int .i64 (nth q 0), .int .i64 (nth q 1), .int .i64 (nth q 2), .int .i64 (nth q 3)] 114)) (.cells #[.int .i64 (nth q 0), .int .i64 (nth q 1), .int .i64 (nth q 2), .int .i64 (nth q 3)] 76) u10.ownBlock).trans hg4
              have hne : ∀ j, u10.ownBlock = some j → r + 1 ≤ j := fun j e => (HRow.out.lt j e).1
              have hrgN := HRg4.out.kept hgall (fun e => by have := hne bm e.symm; omega) (fun e => by have := hne r e.symm; omega)
              have hKN := HK5.out.grown hgall (fun j e => by have := hne j e; have := (Array.getElem?_eq_some_iff.1 HK5.out.df).1; have := World.block_lt_of_cell? _ _ HK3.out.c3; have := World.block_lt_of_cell? _ _ HK3.out.c4; refine ⟨?_, ?_, ?_, ?_⟩ <;> omega) (by omega)
              go_roundw
              case rel => exact ⟨_, cnt3, qs ++ [q], hrgN, Lib.hid ⟨HMore.out _ (List.perm_append_comm), HSub.out, by rw [List.length_append, List.length_singleton]; omega⟩, hKN, by rw [List.length_append, List.length_singleton, flatT_snoc]; exact hown4, by have := hgall.size; simp at this; omega⟩
              case measure => rw [hrgN.left_eq, hrg2.left_eq]; exact hlt
            | true =>
              have hEq : ∀ W, (binOp .eql 76 (.agg #[.int .i64 (nth q 0), .int .i64 (nth q 1), .int .i64 (nth q 2), .int .i64 (nth q 3)]) (.agg #[.int .i64 0, .int .i64 0, .int .i64 0, .int .i64 0])).run Try.prog W = .ok (.bool true) W := fun W => by rw [eq_zero, hz]
              clear hz
              have hlit : ((w2.alloc (.cells #[.int .i64 (nth q 0), .int .i64 (nth q 1), .int .i64 (nth q 2), .int .i64 (nth q 3)] 114)).alloc (.cells #[.int .i64 (nth q 0), .int .i64 (nth q 1), .int .i64 (nth q 2), .int .i64 (nth q 3)] 76)).ownsRow (r + 1) 76 4 (.slice (some ⟨w2.heap.size + 1, 0, none⟩) 1 1) 1 (C.encT q) := by
                have := World.ownsRow_lit (w2.alloc (.cells #[.int .i64 (nth q 0), .int .i64 (nth q 1), .int .i64 (nth q 2), .int .i64 (nth q 3)] 114)) (base := r + 1) (e := 76) (size := 4) #[.int .i64 (nth q 0), .int .i64 (nth q 1), .int .i64 (nth q 2), .int .i64 (nth q 3)] 1 (by rw [World.size_alloc]; omega) (by unfold maxLen; omega) rfl
                rw [World.size_alloc] at this
                exact this
              have HLit := Lib.hid hlit
              have hrow5 := HRow3.out.alloc (.cells #[.int .i64 (nth q 0), .int .i64 (nth q 1), .int .i64 (nth q 2), .int .i64 (nth q 3)] 76)
              have hnn : 1 + qs.length ≤ 2000000 := by omega
              have hone : ∀ u ∈ flatT qs, u.oneCell' = true := flatT_one qs
              have fin : ∀ v1 w4, w4.ownsRow (r + 1) 76 4 v1 (1 + qs.length) (C.encT q ++ flatT qs) → ((w2.alloc (.cells #[.int .i64 (nth q 0), .int .i64 (nth q 1), .int .i64 (nth q 2), .int .i64 (nth q 3)] 114)).alloc (.cells #[.int .i64 (nth q 0), .int .i64 (nth q 1), .int .i64 (nth q 2), .int .i64 (nth q 3)] 76)).grownBy w4 (some (w2.heap.size + 1)) →
                  (w4.ranges Try.prog 114 (plainElem (H := Unit) Try.prog 3) bm r xs.length D' (fun z => left2 z && !z.sameKey (klT q)) cnt3 ∧ Keep2 w b1 b3 b4 bm Dd M w4 ∧ w4.ownsRow (r + 1) 76 4 v1 (q :: qs).length (flatT (q :: qs)) ∧ r + 1 ≤ w4.heap.size) := fun v1 w4 ho hg => by
                have hgall : (w2.alloc (.cells #[.int .i64 (nth q 0), .int .i64 (nth q 1), .int .i64 (nth q 2), .int .i64 (nth q 3)] 114)).grownBy w4 (some (w2.heap.size + 1)) := (World.grownBy_alloc (w2.alloc (.cells #[.int .i64 (nth q 0), .int .i64 (nth q 1), .int .i64 (nth q 2), .int .i64 (nth q 3)] 114)) (.cells #[.int .i64 (nth q 0), .int .i64 (nth q 1), .int .i64 (nth q 2), .int .i64 (nth q 3)] 76) (some (w2.heap.size + 1))).trans hg
                have l1 := World.block_lt_of_cell? _ _ HK3.out.c3
                have l2 := World.block_lt_of_cell? _ _ HK3.out.c4
                have l3 := (Array.getElem?_eq_some_iff.1 HK5.out.df).1
                have l4 := World.block_lt_of_cell? _ _ HK5.out.c3
                have l5 := World.block_lt_of_cell? _ _ HK5.out.c4
                have l6 := HK3.out.bel.size
                rw [World.size_alloc] at l3 l4 l5
                refine ⟨HRg4.out.kept hgall (by simp; omega) (by simp; omega), HK5.out.grown hgall (fun j e => by cases e; refine ⟨?_, ?_, ?_, ?_⟩ <;> (simp at l1 l2 l3 l4 l5; omega)) (by omega), ?_, by have := hgall.size; simp at this; omega⟩
                rw [List.length_cons, Nat.add_comm qs.length 1]
                exact ho
              have HFin := Lib.hid fin
              have HMo := Lib.hid (HMore.out (q :: qs) (List.Perm.refl _))
              clear fin hlit
              rcases hrow5.2 with ⟨hv0, h0⟩ | ⟨g, capv, cur, hv0, _, _, _, _, _, _⟩
              · have hq0 : qs = [] := List.eq_nil_of_length_eq_zero h0
                subst hv0
                have hi0 := info_parts T87.hi
                obtain ⟨i0, hi, -, hz1, -⟩ := hi0
                clear hrow5 h0
                go_wp2_with (at_builtin; refine wpList_append_fits_any ((w2.alloc (.cells #[.int .i64 (nth q 0), .int .i64 (nth q 1), .int .i64 (nth q 2), .int .i64 (nth q 3)] 114)).alloc (.cells #[.int .i64 (nth q 0), .int .i64 (nth q 1), .int .i64 (nth q 2), .int .i64 (nth q 3)] 76)) rfl (.tmp 61) (.tmp 62) 87 rfl (r + 1) 76 i0 4 Try.underlying87 hi hz1 (w2.heap.size + 1) 1 1 (C.encT q) rfl HLit.out none 0 0 [] rfl rfl (fun _ => ⟨rfl, rfl⟩) (fun ad h => by cases h) (by simp) (by omega) ?_; intro w4 hown4 hg4)
                have hf := HFin.out _ w4 (by rw [hq0]; exact hown4) hg4
                go_roundw
                case rel => exact ⟨_, cnt3, q :: qs, hf.1, Lib.hid ⟨HMo.out, HSub.out, by rw [List.length_cons]; omega⟩, hf.2.1, hf.2.2.1, hf.2.2.2⟩
                case measure => rw [hf.1.left_eq, hrg2.left_eq]; exact hlt
              · subst hv0
                have hcells : ∀ j u, (flatT qs)[j]? = some u → ((w2.alloc (.cells #[.int .i64 (nth q 0), .int .i64 (nth q 1), .int .i64 (nth q 2), .int .i64 (nth q 3)] 114)).alloc (.cells #[.int .i64 (nth q 0), .int .i64 (nth q 1), .int .i64 (nth q 2), .int .i64 (nth q 3)] 76)).cell? ((⟨g, 0, none⟩ : Addr).add j) = some u := fun j u hj => by
                  rw [addr_add, Nat.zero_add, hrow5.cellAt j (by have := (List.getElem?_eq_some_iff.1 hj).1; rw [flatT_length] at this; exact this)]
                  exact hj
                have HCells := Lib.hid hcells
                clear hcells hrow5
                go_wp2_with (at_builtin; refine listApp T87 rfl (.tmp 61) (.tmp 62) rfl (r + 1) (.slice (some ⟨w2.heap.size + 1, 0, none⟩) 1 1) 1 (C.encT q) (flatT qs) qs.length capv ⟨g, 0, none⟩ rfl HLit.out rfl (flatT_length qs) HCells.out hone hnn (by simp; omega) ?_; intro v1 w4 hown4 hg4 hL4)
                have hf := HFin.out v1 w4 hown4 hg4
                go_roundw
                case rel => exact ⟨_, cnt3, q :: qs, hf.1, Lib.hid ⟨HMo.out, HSub.out, by rw [List.length_cons]; omega⟩, hf.2.1, hf.2.2.1, hf.2.2.2⟩
                case measure => rw [hf.1.left_eq, hrg2.left_eq]; exact hlt
      · intro q hq hlq w1 cnt1 hrg1 hlt hg1 hs1 hen
        have hqM := HGe.out q hq
        have hK1 := HK2.out.grown hg1 (fun j e => by cases e; omega) (by omega)
        have c4 := hK1.c4
        have HK1 := Lib.hid hK1
        clear hK1 hs1
        have hlt1 : W.heap.size ≤ w1.heap.size := by have := hrg1.lt; omega
        have HRg1 := Lib.hid hrg1
        have c3a := cell_on (Below.new w1 (.cells #[.int .i64 (nth q 0), .int .i64 (nth q 1), .int .i64 (nth q 2), .int .i64 (nth q 3)] 114)) HK1.out.c3
        have c4a := cell_on (Below.new w1 (.cells #[.int .i64 (nth q 0), .int .i64 (nth q 1), .int .i64 (nth q 2), .int .i64 (nth q 3)] 114)) HK1.out.c4
        have hrg2 := hrg1.alloc (.cells #[.int .i64 (nth q 0), .int .i64 (nth q 1), .int .i64 (nth q 2), .int .i64 (nth q 3)] 114)
        have hK2 := HK1.out.grown (World.grownBy_alloc w1 (.cells #[.int .i64 (nth q 0), .int .i64 (nth q 1), .int .i64 (nth q 2), .int .i64 (nth q 3)] 114) none) (fun j e => by cases e) (by omega)
        have HK2b := Lib.hid hK2
        clear hrg1 c4 hK2
        by_cases hm : C.onL l q = M
        · have hmI : ¬ (C.onL l q : Int) < ↑M := by omega
          have HP := Lib.hid (HS.out.pass HOkq.out hq hm)
          have HRg2 := Lib.hid hrg2
          clear hm hqM hrg2
          go_wp2_with fail
          go_roundw
          case rel => exact ⟨D', _, cnt1, HRg2.out, HP, HK2b.out⟩
          case measure => rw [HRg2.out.left_eq, hrg.left_eq]; exact hlt
        · have hmI : (C.onL l q : Int) < ↑M := by omega
          have HP := Lib.hid (HS.out.struck HOkq.out (by omega) hq hm)
          clear hm hqM
          go_wp2_with (at_delete; refine wpList_delete_ranges _ rfl _ _ 109 114 rfl 3 K114 Try.underlying109 (plainElem (H := Unit) Try.prog 3) bm W.heap.size xs.length D' _ cnt1 rfl hrg2 (trackV q) (klT q) rfl (klT_key (HOkq.out q hq).1) ?_; intro w2 cnt2 hrg3 hle hturn; go_frame)
          have HK3 := HK2b.out.grown hturn.grown (fun j e => by cases e; omega) (by omega)
          rw [strike_twice] at hrg3
          go_roundw
          case rel => exact ⟨_, _, cnt2, hrg3, HP, HK3⟩
          case measure => rw [hrg3.left_eq, hrg.left_eq]; omega
end Go.Proofs.Ytkcgkfhfogdihaa
/- The program's best paths are the reference's. -/
namespace Go.Proofs.Ytkcgkfhfogdihaa
open Go.RowKit
namespace C
open R
def sigOf (l : List (Int × Int)) (i : Int) : Int × Int := (dayN l i.toNat, plcN l i.toNat)
theorem sel_map (l : List (Int × Int)) (ss : List Int) : R.sel l ss = ss.map (sigOf l) := by
  have key : ∀ j, j ≤ ss.length → R.selTo l ss j = (ss.take j).map (sigOf l) := by
    intro j
    induction j with
    | zero => intro _; rfl
    | succ j ih =>
      intro hj
      show R.selTo l ss j ++ [_] = _
      rw [ih (by omega), take_succ_nth ss j (by omega), List.map_append]; rfl
  have := key ss.length (Nat.le_refl _)
  rw [List.take_length] at this; exact this
/-- The numbers of the bits that are 1, of the first j. -/
def idx (b j : Nat) : List Int := up (fun i r => if b / 2 ^ i % 2 = 1 then r ++ [(i : Int)] else r) [] j
theorem idx_succ (b j : Nat) : idx b (j + 1) = if b / 2 ^ j % 2 = 1 then idx b j ++ [(j : Int)] else idx b j := rfl
theorem pickTo_map (l : List (Int × Int)) (b j : Nat) : R.pickTo l b j = (idx b j).map (sigOf l) := by
  induction j with
  | zero => rfl
  | succ j ih =>
    rw [idx_succ]
    show (if b / 2 ^ j % 2 = 1 then R.pickTo l b j ++ [_] else R.pickTo l b j) = _
    rw [ih]
    split
    · rw [List.map_append]; rfl
    · rfl
theorem pick_sel (l : List (Int × Int)) (b : Nat) : R.pick l b = R.sel l (idx b l.length) := by rw [sel_map]; exact pickTo_map l b l.length
theorem ord_mono {n n' : Nat} {ss : List Int} (h : R.Ord n ss) (hn : n ≤ n') : R.Ord n' ss := fun i hi => by have := h i hi; omega
theorem idx_ord (b j : Nat) : R.Ord j (idx b j) := by
  induction j with
  | zero => intro i hi; simp [idx, up] at hi
  | succ j ih =>
    rw [idx_succ]
    split
    · exact ord_snoc (ord_mono ih (by omega)) (by omega) (frm_le ih)
    · exact ord_mono ih (by omega)
theorem idx_length (b j : Nat) : (idx b j).length = R.sizeTo b j := by
  have := congrArg List.length (pickTo_map [] b j)
  rw [R.pickTo_length, List.length_map] at this
  exact this.symm
theorem low_bit (b k j : Nat) (h : j < k) : (b + 2 ^ k) / 2 ^ j % 2 = b / 2 ^ j % 2 := by
  have e : 2 ^ k = 2 ^ j * (2 * 2 ^ (k - j - 1)) := by
    rw [show 2 * 2 ^ (k - j - 1) = 2 ^ (k - j) by rw [show k - j = (k - j - 1) + 1 by omega, Nat.pow_succ, Nat.mul_comm]; simp, ← Nat.pow_add]
    congr 1; omega
  rw [e, Nat.add_mul_div_left _ _ (Nat.two_pow_pos j)]
  omega
theorem idx_low (b k : Nat) : ∀ j, j ≤ k → idx (b + 2 ^ k) j = idx b j := by
  intro j
  induction j with
  | zero => intro _; rfl
  | succ j ih => intro hj; rw [idx_succ, idx_succ, ih (by omega), low_bit b k j (by omega)]
theorem ord_lt {n : Nat} {ss : List Int} (h : R.Ord n ss) {i j : Nat} (hij : i < j) (hj : j < ss.length) : nth ss i < nth ss j := by
  induction j with
  | zero => omega
  | succ j ih =>
    have h1 := (h (j + 1) hj).2.2 (by omega)
    simp only [Nat.add_sub_cancel] at h1
    by_cases e : i = j
    · subst e; exact h1
    · exact Int.lt_trans (ih (by omega) (by omega)) h1
theorem idx_surj : ∀ (n : Nat) (ss : List Int), R.Ord n ss → ∃ b, b < 2 ^ n ∧ idx b n = ss := by
  intro n
  induction n with
  | zero =>
    intro ss h
    cases ss with
    | nil => exact ⟨0, by decide, rfl⟩
    | cons x r => have := h 0 (by simp); omega
  | succ n ih =>
    intro ss h
    have low : R.Ord n ss → ∃ b, b < 2 ^ (n + 1) ∧ idx b (n + 1) = ss := fun h' => by
      obtain ⟨b, hb, e⟩ := ih ss h'
      refine ⟨b, by rw [Nat.pow_succ]; omega, ?_⟩
      rw [idx_succ, Nat.div_eq_of_lt hb, if_neg (by decide), e]
    rcases List.eq_nil_or_concat ss with rfl | ⟨init, x, rfl⟩
    · exact low (fun i hi => by simp at hi)
    · rw [List.concat_eq_append] at h low ⊢
      have hx := h init.length (by simp)
      rw [nth_snoc, if_neg (by omega), if_pos rfl] at hx
      have hlt : ∀ i, i < init.length → nth init i < x := fun i hi => by
        have := ord_lt h (i := i) (j := init.length) hi (by simp)
        rw [nth_snoc, nth_snoc, if_pos hi, if_neg (by omega), if_pos rfl] at this
        exact this
      by_cases e : x = (n : Int)
      · subst e
        obtain ⟨b, hb, e⟩ := ih init (fun i hi => by
          have h1 := h i (by simp; omega)
          rw [nth_snoc, if_pos hi] at h1
          have h2 := hlt i hi
          refine ⟨h1.1, h2, fun h0 => ?_⟩
          have := h1.2.2 h0
          rw [nth_snoc, if_pos (by omega)] at this
          exact this)
        refine ⟨b + 2 ^ n, by rw [Nat.pow_succ]; omega, ?_⟩
        rw [idx_succ, idx_low b n n (Nat.le_refl _), e, Nat.add_div_right _ (Nat.two_pow_pos n), Nat.div_eq_of_lt hb, if_pos (by decide)]
      · refine low (fun i hi => ?_)
        have h1 := h i hi
        refine ⟨h1.1, ?_, h1.2.2⟩
        rw [nth_snoc]
        split
        · have := hlt i (by assumption); omega
        · split <;> omega
theorem size_idx {l : List (Int × Int)} (h : l.length ≤ 12) {b : Nat} (hb : b < 2 ^ l.length) : R.size b = (idx b l.length).length := by
  rw [← R.size_pick h hb, pick_sel, sel_map, List.length_map]
theorem found_bits {l : List (Int × Int)} (h : l.length ≤ 12) (d : Nat) (q : List Int) : Found l d q ↔ ∃ b, b < 2 ^ l.length ∧ R.size b = d + 1 ∧ R.pass (R.pick l b) = some q := by
  constructor
  · rintro ⟨ss, ho, hl, hp⟩
    obtain ⟨b, hb, rfl⟩ := idx_surj l.length ss ho
    exact ⟨b, hb, by rw [size_idx h hb, hl], by rw [pick_sel]; exact hp⟩
  · rintro ⟨b, hb, hs, hp⟩
    exact ⟨idx b l.length, idx_ord b l.length, by rw [← size_idx h hb, hs], by rw [← pick_sel]; exact hp⟩
theorem pathsTo_mem (d : Nat) (l : List (Int × Int)) (n x : Nat) : x ∈ R.pathsTo (d : Int) l n ↔ ∃ b, b < n ∧ R.size b = d + 1 ∧ ∃ q, R.pass (R.pick l b) = some q ∧ R.on l q = x := by
  induction n with
  | zero => simp [R.pathsTo, up]
  | succ n ih =>
    have e : R.pathsTo (d : Int) l (n + 1) = R.pathStep (d : Int) l n (R.pathsTo (d : Int) l n) := rfl
    rw [e]
    have split_ : (∃ b, b < n + 1 ∧ R.size b = d + 1 ∧ ∃ q, R.pass (R.pick l b) = some q ∧ R.on l q = x) ↔ (x ∈ R.pathsTo (d : Int) l n ∨ (R.size n = d + 1 ∧ ∃ q, R.pass (R.pick l n) = some q ∧ R.on l q = x)) := by
      rw [ih]
      constructor
      · rintro ⟨b, hb, h1, h2⟩
        by_cases e : b = n
        · subst e; exact .inr ⟨h1, h2⟩
        · exact .inl ⟨b, by omega, h1, h2⟩
      · rintro (⟨b, hb, h1, h2⟩ | ⟨h1, h2⟩)
        · exact ⟨b, by omega, h1, h2⟩
        · exact ⟨n, by omega, h1, h2⟩
    rw [split_]
    unfold R.pathStep
    by_cases hs : R.size n = d + 1
    · rw [if_neg (by omega)]
      cases hp : R.pass (R.pick l n) with
      | none => simp
      | some p =>
        simp only []
        by_cases hm : R.on l p ∈ R.pathsTo (d : Int) l n
        · rw [if_pos hm]
          constructor
          · intro h; exact .inl h
          · rintro (h | ⟨_, q, e, rfl⟩)
            · exact h
            · cases e; exact hm
        · rw [if_neg hm, List.mem_append, List.mem_singleton]
          constructor
          · rintro (h | rfl)
            · exact .inl h
            · exact .inr ⟨hs, p, rfl, rfl⟩
          · rintro (h | ⟨_, q, e, rfl⟩)
            · exact .inl h
            · cases e; exact .inr rfl
    · rw [if_pos (by omega)]
      constructor
      · intro h; exact .inl h
      · rintro (h | ⟨h, _⟩)
        · exact h
        · exact absurd h hs
theorem pathsTo_nodup (deg : Int) (l : List (Int × Int)) (n : Nat) : (R.pathsTo deg l n).Nodup := by
  induction n with
  | zero => exact List.nodup_nil
  | succ n ih =>
    show (R.pathStep deg l n (R.pathsTo deg l n)).Nodup
    unfold R.pathStep
    split
    · exact ih
    · split
      · exact ih
      · split
        · exact ih
        · rename_i h
          rw [List.nodup_append]
          exact ⟨ih, by simp, fun a ha b hb => by rw [List.mem_singleton] at hb; subst hb; exact fun e => h (e ▸ ha)⟩
theorem paths_mem {d : Nat} {l : List (Int × Int)} (h : l.length ≤ 12) (x : Nat) : x ∈ R.paths (d : Int) l ↔ ∃ q, Found l d q ∧ R.on l q = x := by
  unfold R.paths
  rw [pathsTo_mem]
  constructor
  · rintro ⟨b, hb, hs, q, hq, e⟩; exact ⟨q, (found_bits h d q).2 ⟨b, hb, hs, hq⟩, e⟩
  · rintro ⟨q, hq, e⟩
    obtain ⟨b, hb, hs, hp⟩ := (found_bits h d q).1 hq
    exact ⟨b, hb, hs, q, hp, e⟩
theorem onTo_bit (l : List (Int × Int)) (q : List Int) : ∀ j k, k < j → (R.onTo l q j / 2 ^ k % 2 = 1 ↔ R.atD q (dayN l k) = plcN l k) := by
  intro j
  induction j with
  | zero => intro k h; omega
  | succ j ih =>
    intro k hk
    have hlt := R.onTo_lt l q j
    show (if R.atD q (dayN l j) = plcN l j then R.onTo l q j + 2 ^ j else R.onTo l q j) / 2 ^ k % 2 = 1 ↔ _
    by_cases e : k = j
    · subst e
      split
      · rename_i h; rw [Nat.add_div_right _ (Nat.two_pow_pos k), Nat.div_eq_of_lt hlt]; simp [h]
      · rename_i h; rw [Nat.div_eq_of_lt hlt]; simp [h]
    · split
      · rw [low_bit _ j k (by omega)]; exact ih k (by omega)
      · exact ih k (by omega)
theorem on_bit (l : List (Int × Int)) (q : List Int) (k : Nat) (hk : k < l.length) : R.on l q / 2 ^ k % 2 = 1 ↔ R.atD q (dayN l k) = plcN l k := onTo_bit l q l.length k hk
theorem Found.props {l : List (Int × Int)} {d : Nat} {q : List Int} (hv : R.Valid (d : Int) l) (h : Found l d q) : q.length = d + 1 ∧ q.all R.numOk = true := by
  obtain ⟨ss, ho, hl, hp⟩ := h
  have hd := hv.d3
  have hP := R.sel_piece hv.fit hv.inc ho (by omega)
  obtain ⟨h1, -, h3⟩ := hP.pass_some hp
  exact ⟨by rw [h1]; exact (R.selTo_length _ _ _).trans hl, h3⟩
/-- A path of as many numbers on which those lie that determine another one is that one. -/
theorem Found.unique {l : List (Int × Int)} {d : Nat} {p q : List Int} {ss : List Int} (hv : R.Valid (d : Int) l) (ho : R.Ord l.length ss) (hl : ss.length = d + 1) (hp : R.pass (R.sel l ss) = some p) (hq : q.length = d + 1)
    (h : ∀ i, i < ss.length → R.atD q (dayN l (nth ss i).toNat) = plcN l (nth ss i).toNat) : p = q := by
  have hd := hv.d3
  have hP := R.sel_piece hv.fit hv.inc ho (by omega)
  have hsl : (R.sel l ss).length = ss.length := R.selTo_length _ _ _
  have := hP.pass_of_path (q := q) (by rw [hsl, hl, hq]) (fun i hi => by
    rw [hsl] at hi
    have e := R.selTo_get l ss ss.length i hi
    show R.atD q (dayN (R.selTo l ss ss.length) i) = plcN (R.selTo l ss ss.length) i
    rw [e.1, e.2]; exact h i hi)
  rw [hp] at this
  exact Option.some.inj this
theorem Found.lies {l : List (Int × Int)} {d : Nat} {q : List Int} {ss : List Int} (hv : R.Valid (d : Int) l) (ho : R.Ord l.length ss) (hl : ss.length = d + 1) (hp : R.pass (R.sel l ss) = some q) : ∀ i, i < ss.length → R.atD q (dayN l (nth ss i).toNat) = plcN l (nth ss i).toNat := fun i hi => by
  have hd := hv.d3
  have hP := R.sel_piece hv.fit hv.inc ho (by omega)
  have hsl : (R.sel l ss).length = ss.length := R.selTo_length _ _ _
  have h2 := (hP.pass_some hp).2.1 i (by rw [hsl]; exact hi)
  have e := R.selTo_get l ss ss.length i hi
  have : R.atD q (dayN (R.selTo l ss ss.length) i) = plcN (R.selTo l ss ss.length) i := h2
  rw [e.1, e.2] at this; exact this
theorem on_inj {l : List (Int × Int)} {d : Nat} {p q : List Int} (hv : R.Valid (d : Int) l) (hp : Found l d p) (hq : Found l d q) (e : R.on l p = R.on l q) : p = q := by
  have hq1 := hq.props hv
  obtain ⟨ss, ho, hl, hps⟩ := hp
  refine Found.unique hv ho hl hps hq1.1 fun i hi => ?_
  have h1 := Found.lies hv ho hl hps i hi
  have hb := ho i hi
  have hlt : (nth ss i).toNat < l.length := by omega
  have := (on_bit l p _ hlt).2 h1
  rw [e] at this
  exact (on_bit l q _ hlt).1 this
theorem getD_mem {out : List Nat} {i : Nat} (h : i < out.length) : out.getD i 0 ∈ out := by simp [h]
theorem mostTo_ge (out : List Nat) : ∀ k, k ≤ out.length → ∀ i, i < k → R.size (out.getD i 0) ≤ R.mostTo out k := by
  intro k
  induction k with
  | zero => intro _ i hi; omega
  | succ k ih =>
    intro hk i hi
    show _ ≤ max (R.mostTo out k) (R.size (out.getD k 0))
    by_cases e : i = k
    · subst e; omega
    · have := ih (by omega) i (by omega); omega
theorem mostTo_eq (out : List Nat) : ∀ k, R.mostTo out k = 0 ∨ ∃ i, i < k ∧ R.size (out.getD i 0) = R.mostTo out k := by
  intro k
  induction k with
  | zero => exact .inl rfl
  | succ k ih =>
    have e : R.mostTo out (k + 1) = max (R.mostTo out k) (R.size (out.getD k 0)) := rfl
    rcases Nat.le_total (R.mostTo out k) (R.size (out.getD k 0)) with h | h
    · exact .inr ⟨k, by omega, by omega⟩
    · rcases ih with h0 | ⟨i, hi, h1⟩
      · exact .inr ⟨k, by omega, by omega⟩
      · exact .inr ⟨i, by omega, by omega⟩
theorem mostOf_eq (l : List (Int × Int)) (Qs : List (List Int)) : mostOf l Qs = 0 ∨ ∃ q ∈ Qs, onL l q = mostOf l Qs := by
  have key : ∀ (Qs : List (List Int)) (m : Nat), Qs.foldl (fun m q => max m (onL l q)) m = m ∨ ∃ q ∈ Qs, onL l q = Qs.foldl (fun m q => max m (onL l q)) m := by
    intro Qs
    induction Qs with
    | nil => intro m; exact .inl rfl
    | cons p r ih =>
      intro m
      show r.foldl _ (max m (onL l p)) = m ∨ _
      rcases ih (max m (onL l p)) with h | ⟨q, hq, h⟩
      · rcases Nat.le_total m (onL l p) with h2 | h2
        · exact .inr ⟨p, by simp, by show _ = r.foldl _ (max m (onL l p)); omega⟩
        · exact .inl (by omega)
      · exact .inr ⟨q, by simp [hq], h⟩
  exact key Qs 0
theorem bestTo_mem (out : List Nat) (m : Nat) : ∀ k, k ≤ out.length → ∀ x, x ∈ R.bestTo out m k ↔ x ∈ out.take k ∧ R.size x = m := by
  intro k
  induction k with
  | zero => intro _ x; simp [R.bestTo, up]
  | succ k ih =>
    intro hk x
    have e : R.bestTo out m (k + 1) = if R.size (out.getD k 0) = m then R.bestTo out m k ++ [out.getD k 0] else R.bestTo out m k := rfl
    have et : out.take (k + 1) = out.take k ++ [out.getD k 0] := by rw [List.take_succ_eq_append_getElem (by omega)]; simp [show k < out.length by omega]
    rw [e, et, List.mem_append, List.mem_singleton]
    split
    · rename_i h
      rw [List.mem_append, List.mem_singleton, ih (by omega)]
      constructor
      · rintro (⟨h1, h2⟩ | rfl)
        · exact ⟨.inl h1, h2⟩
        · exact ⟨.inr rfl, h⟩
      · rintro ⟨h1 | rfl, h2⟩
        · exact .inl ⟨h1, h2⟩
        · exact .inr rfl
    · rename_i h
      rw [ih (by omega)]
      constructor
      · rintro ⟨h1, h2⟩; exact ⟨.inl h1, h2⟩
      · rintro ⟨h1 | rfl, h2⟩
        · exact ⟨h1, h2⟩
        · exact absurd h2 h
theorem bestTo_nodup (out : List Nat) (hn : out.Nodup) (m : Nat) : ∀ k, k ≤ out.length → (R.bestTo out m k).Nodup := by
  intro k
  induction k with
  | zero => intro _; exact List.nodup_nil
  | succ k ih =>
    intro hk
    have e : R.bestTo out m (k + 1) = if R.size (out.getD k 0) = m then R.bestTo out m k ++ [out.getD k 0] else R.bestTo out m k := rfl
    rw [e]
    split
    · rw [List.nodup_append]
      refine ⟨ih (by omega), by simp, fun a ha b hb => ?_⟩
      rw [List.mem_singleton] at hb; subst hb
      have h1 := ((bestTo_mem out m k (by omega) a).1 ha).1
      intro e2
      have et : out.take (k + 1) = out.take k ++ [out.getD k 0] := by rw [List.take_succ_eq_append_getElem (by omega)]; simp [show k < out.length by omega]
      have h2 : (out.take (k + 1)).Nodup := hn.sublist (List.take_sublist _ _)
      rw [et, List.nodup_append] at h2
      exact h2.2.2 a h1 _ (by simp) e2
    · exact ih (by omega)
theorem best_mem' {d : Nat} {l : List (Int × Int)} (h : l.length ≤ 12) (x : Nat) : x ∈ R.best (d : Int) l ↔ (∃ q, Found l d q ∧ R.on l q = x) ∧ R.size x = R.most (d : Int) l := by
  unfold R.best
  rw [bestTo_mem _ _ _ (Nat.le_refl _), List.take_length, paths_mem h]
theorem most_is {d : Nat} {l : List (Int × Int)} (h : l.length ≤ 12) {Qs : List (List Int)} (hQ : ∀ q, q ∈ Qs ↔ Found l d q) : R.most (d : Int) l = mostOf l Qs := by
  have le1 : ∀ q ∈ Qs, onL l q ≤ R.most (d : Int) l := fun q hq => by
    have hx : R.on l q ∈ R.paths (d : Int) l := (paths_mem h _).2 ⟨q, (hQ q).1 hq, rfl⟩
    obtain ⟨i, hi, e⟩ := List.getElem_of_mem hx
    have := mostTo_ge (R.paths (d : Int) l) _ (Nat.le_refl _) i hi
    have eg : (R.paths (d : Int) l).getD i 0 = R.on l q := by rw [← e]; simp [hi]
    rw [eg, onL_size h] at this
    exact this
  have ge1 := fun q (hq : q ∈ Qs) => mostOf_ge l hq
  apply Nat.le_antisymm
  · rcases mostTo_eq (R.paths (d : Int) l) (R.paths (d : Int) l).length with h0 | ⟨i, hi, e⟩
    · show R.mostTo _ _ ≤ _; omega
    · obtain ⟨q, hq, e2⟩ := (paths_mem h _).1 (getD_mem hi)
      rw [← e2, onL_size h] at e
      have := ge1 q ((hQ q).2 hq)
      show R.mostTo _ _ ≤ _; omega
  · rcases mostOf_eq l Qs with h0 | ⟨q, hq, e⟩
    · omega
    · have := le1 q hq; omega
/-- What the program's list of best paths has to do with the reference's. -/
structure Same (l : List (Int × Int)) (d : Nat) (qs : List (List Int)) : Prop where
  nodup : qs.Nodup
  found : ∀ q ∈ qs, Found l d q
  most : ∀ q ∈ qs, onL l q = R.most (d : Int) l
  all : ∀ q, Found l d q → onL l q = R.most (d : Int) l → q ∈ qs
theorem Best.same {l : List (Int × Int)} {d : Nat} {qs : List (List Int)} (h : Best l d qs) (hv : R.Valid (d : Int) l) : Same l d qs := by
  obtain ⟨hn, Qs, hQ, hq⟩ := h
  have hm := most_is hv.len hQ
  exact ⟨hn, fun q h => (hQ q).1 ((hq q).1 h).1, fun q h => by rw [hm]; exact ((hq q).1 h).2, fun q h1 h2 => (hq q).2 ⟨(hQ q).2 h1, by rw [← hm]; exact h2⟩⟩
theorem Found.pos {l : List (Int × Int)} {d : Nat} {q : List Int} (hv : R.Valid (d : Int) l) (h : Found l d q) : 0 < onL l q := by
  obtain ⟨ss, ho, hl, hp⟩ := h
  have h1 := Found.lies hv ho hl hp 0 (by omega)
  have hb := ho 0 (by omega)
  have := (on_bit l q _ (by omega)).2 h1
  rw [← onL_size hv.len]
  refine Nat.pos_of_ne_zero fun e => ?_
  have hz : R.on l q ≠ 0 := fun e0 => by rw [e0] at this; simp at this
  have : ∀ j n, R.sizeTo n j = 0 → n / 2 ^ 0 < 2 ^ j → n = 0 := by
    intro j
    induction j with
    | zero => intro n _ h; simp at h; exact h
    | succ j ih =>
      intro n hs hlt
      have e2 : R.sizeTo n j + n / 2 ^ j % 2 = 0 := hs
      refine ih n (by omega) ?_
      simp only [Nat.pow_zero, Nat.div_one] at hlt ⊢
      rw [Nat.pow_succ] at hlt
      have h2 : n / 2 ^ j < 2 := Nat.div_lt_of_lt_mul hlt
      have h3 : n / 2 ^ j = 0 := by
        generalize n / 2 ^ j = y at *
        omega
      exact (Nat.div_eq_zero_iff.1 h3).resolve_left (by have := Nat.two_pow_pos j; omega)
  exact hz (this 12 (R.on l q) e (by have := R.on_lt l q hv.len; simpa using this))
theorem Same.nil {l : List (Int × Int)} {d : Nat} {qs : List (List Int)} (h : Same l d qs) (hv : R.Valid (d : Int) l) : qs = [] ↔ R.most (d : Int) l = 0 := by
  constructor
  · intro e
    rcases mostTo_eq (R.paths (d : Int) l) (R.paths (d : Int) l).length with h0 | ⟨i, hi, e2⟩
    · exact h0
    · obtain ⟨q, hq, e3⟩ := (paths_mem hv.len _).1 (getD_mem hi)
      rw [← e3, onL_size hv.len] at e2
      have := h.all q hq e2
      rw [e] at this; simp at this
  · intro e
    cases qs with
    | nil => rfl
    | cons q r =>
      have h1 := (h.found q (by simp)).pos hv
      have h2 := h.most q (by simp)
      omega
theorem Same.perm {l : List (Int × Int)} {d : Nat} {qs : List (List Int)} (h : Same l d qs) (hv : R.Valid (d : Int) l) : (qs.map (R.on l)).Perm (R.best (d : Int) l) := by
  refine (List.perm_ext_iff_of_nodup ?_ (bestTo_nodup _ (pathsTo_nodup _ _ _) _ _ (Nat.le_refl _))).2 fun x => ?_
  · have : ∀ qs : List (List Int), qs.Nodup → (∀ q ∈ qs, Found l d q) → (qs.map (R.on l)).Nodup := by
      intro qs
      induction qs with
      | nil => intro _ _; exact List.nodup_nil
      | cons q r ih =>
        intro hn hf
        rw [List.nodup_cons] at hn
        rw [List.map_cons, List.nodup_cons]
        refine ⟨fun hm => ?_, ih hn.2 fun p hp => hf p (by simp [hp])⟩
        obtain ⟨p, hp, e⟩ := List.mem_map.1 hm
        have := on_inj hv (hf p (by simp [hp])) (hf q (by simp)) e
        exact hn.1 (this ▸ hp)
    exact this qs h.nodup h.found
  · show x ∈ qs.map (R.on l) ↔ x ∈ R.best (d : Int) l
    rw [List.mem_map, best_mem' hv.len x]
    constructor
    · rintro ⟨q, hq, e⟩; exact ⟨⟨q, h.found q hq, e⟩, by rw [← e, onL_size hv.len]; exact h.most q hq⟩
    · rintro ⟨⟨q, hq, e⟩, hs⟩; exact ⟨q, h.all q hq (by rw [← onL_size hv.len, e]; exact hs), e⟩
theorem Same.count {l : List (Int × Int)} {d : Nat} {qs : List (List Int)} (h : Same l d qs) (hv : R.Valid (d : Int) l) : qs.length = (R.best (d : Int) l).length := by
  rw [← (h.perm hv).length_eq, List.length_map]
theorem wrongTo_zero (out : List Nat) (s : Nat) : ∀ k, k ≤ out.length → (R.wrongTo out s k = 0 ↔ ∀ x ∈ out.take k, x / 2 ^ s % 2 = 1) := by
  intro k
  induction k with
  | zero => intro _; simp [R.wrongTo, up]
  | succ k ih =>
    intro hk
    have et : out.take (k + 1) = out.take k ++ [out.getD k 0] := by rw [List.take_succ_eq_append_getElem (by omega)]; simp [show k < out.length by omega]
    have e : R.wrongTo out s (k + 1) = R.wrongTo out s k + (1 - out.getD k 0 / 2 ^ s % 2) := rfl
    rw [et, e]
    constructor
    · intro h x hx
      rcases List.mem_append.1 hx with h1 | h1
      · exact (ih (by omega)).1 (by omega) x h1
      · rw [List.mem_singleton] at h1; subst h1; omega
    · intro h
      have h1 := (ih (by omega)).2 fun x hx => h x (by simp [hx])
      have h2 := h (out.getD k 0) (by simp)
      omega
theorem wrongTo_full (out : List Nat) (s : Nat) : ∀ k, k ≤ out.length → (R.wrongTo out s k = k ↔ ∀ x ∈ out.take k, x / 2 ^ s % 2 = 0) := by
  intro k
  induction k with
  | zero => intro _; simp [R.wrongTo, up]
  | succ k ih =>
    intro hk
    have et : out.take (k + 1) = out.take k ++ [out.getD k 0] := by rw [List.take_succ_eq_append_getElem (by omega)]; simp [show k < out.length by omega]
    have e : R.wrongTo out s (k + 1) = R.wrongTo out s k + (1 - out.getD k 0 / 2 ^ s % 2) := rfl
    have hle := R.wrongTo_le out s k
    rw [et, e]
    constructor
    · intro h x hx
      rcases List.mem_append.1 hx with h1 | h1
      · exact (ih (by omega)).1 (by omega) x h1
      · rw [List.mem_singleton] at h1; subst h1; omega
    · intro h
      have h1 := (ih (by omega)).2 fun x hx => h x (by simp [hx])
      have h2 := h (out.getD k 0) (by simp)
      omega
theorem Same.wrong_zero {l : List (Int × Int)} {d : Nat} {qs : List (List Int)} (h : Same l d qs) (hv : R.Valid (d : Int) l) {s : Nat} (hs : s < l.length) : R.wrongs (d : Int) l s = 0 ↔ ∀ q ∈ qs, R.atD q (dayN l s) = plcN l s := by
  unfold R.wrongs
  rw [wrongTo_zero _ _ _ (Nat.le_refl _), List.take_length]
  constructor
  · intro h1 q hq; exact (on_bit l q s hs).1 (h1 _ ((h.perm hv).mem_iff.1 (List.mem_map_of_mem hq)))
  · intro h1 x hx
    obtain ⟨q, hq, rfl⟩ := List.mem_map.1 ((h.perm hv).mem_iff.2 hx)
    exact (on_bit l q s hs).2 (h1 q hq)
theorem Same.wrong_full {l : List (Int × Int)} {d : Nat} {qs : List (List Int)} (h : Same l d qs) (hv : R.Valid (d : Int) l) {s : Nat} (hs : s < l.length) : R.wrongs (d : Int) l s = (R.best (d : Int) l).length ↔ ∀ q ∈ qs, R.atD q (dayN l s) ≠ plcN l s := by
  unfold R.wrongs
  rw [wrongTo_full _ _ _ (Nat.le_refl _), List.take_length]
  constructor
  · intro h1 q hq e
    have := h1 _ ((h.perm hv).mem_iff.1 (List.mem_map_of_mem hq))
    rw [(on_bit l q s hs).2 e] at this; cases this
  · intro h1 x hx
    obtain ⟨q, hq, rfl⟩ := List.mem_map.1 ((h.perm hv).mem_iff.2 hx)
    exact (Nat.mod_two_eq_zero_or_one _).resolve_right fun e => h1 q hq ((on_bit l q s hs).1 e)
end C
end Go.Proofs.Ytkcgkfhfogdihaa
/- Sightings that lie on two paths; which paths a log has; the only path, as the reference finds it. -/
namespace Go.Proofs.Ytkcgkfhfogdihaa
namespace C
theorem bit_and (a b i : Nat) : (a &&& b) / 2 ^ i % 2 = 1 ↔ a / 2 ^ i % 2 = 1 ∧ b / 2 ^ i % 2 = 1 := by
  have := Nat.testBit_and a b i
  simp only [Nat.testBit_eq_decide_div_mod_eq] at this
  constructor
  · intro h; rw [decide_eq_true h] at this; simpa using this.symm
  · intro ⟨h1, h2⟩; rw [decide_eq_true h1, decide_eq_true h2] at this; simpa using this
theorem sizeTo_succ (n j : Nat) : R.sizeTo n (j + 1) = R.sizeTo n j + n / 2 ^ j % 2 := rfl
theorem sizeTo_and (a b j : Nat) : R.sizeTo a j + R.sizeTo b j ≤ R.sizeTo (a &&& b) j + j := by
  induction j with
  | zero => simp [R.sizeTo, up]
  | succ j ih =>
    simp only [sizeTo_succ]
    have h := bit_and a b j
    generalize (a &&& b) / 2 ^ j % 2 = x at *
    have ha : a / 2 ^ j % 2 < 2 := Nat.mod_lt _ (by decide)
    have hb : b / 2 ^ j % 2 < 2 := Nat.mod_lt _ (by decide)
    generalize a / 2 ^ j % 2 = y at *
    generalize b / 2 ^ j % 2 = z at *
    by_cases hx : x = 1
    · omega
    · have : ¬ (y = 1 ∧ z = 1) := fun e => hx (h.2 e)
      omega
theorem sizeTo_sub (a b j : Nat) (h : ∀ i, i < j → a / 2 ^ i % 2 = 1 → b / 2 ^ i % 2 = 1) : R.sizeTo a j ≤ R.sizeTo b j := by
  induction j with
  | zero => exact Nat.le_refl _
  | succ j ih =>
    simp only [sizeTo_succ]
    have h1 := ih (fun i hi => h i (by omega))
    have h2 := h j (by omega)
    have ha : a / 2 ^ j % 2 < 2 := Nat.mod_lt _ (by decide)
    by_cases e : a / 2 ^ j % 2 = 1
    · rw [h2 e, e]; omega
    · omega
theorem idx_bit (b j : Nat) : ∀ i, i < (idx b j).length → b / 2 ^ (nth (idx b j) i).toNat % 2 = 1 := by
  induction j with
  | zero => intro i hi; simp [idx, up] at hi
  | succ j ih =>
    intro i
    rw [idx_succ]
    split
    · rename_i h
      intro hi
      rw [nth_snoc]
      split
      · rename_i h2; exact ih i h2
      · simp at hi; rw [if_pos (by omega)]; simpa using h
    · exact ih i
theorem bit_idx (b j k : Nat) (hk : k < j) (h : b / 2 ^ k % 2 = 1) : ∃ i, i < (idx b j).length ∧ nth (idx b j) i = (k : Int) := by
  induction j with
  | zero => omega
  | succ j ih =>
    rw [idx_succ]
    by_cases e : k = j
    · subst e
      rw [if_pos h]
      exact ⟨(idx b k).length, by simp, by rw [nth_snoc, if_neg (by omega), if_pos rfl]⟩
    · obtain ⟨i, hi, e2⟩ := ih (by omega)
      split
      · exact ⟨i, by simp; omega, by rw [nth_snoc, if_pos hi]; exact e2⟩
      · exact ⟨i, hi, e2⟩
theorem ord_take {n : Nat} {ss : List Int} (h : R.Ord n ss) (k : Nat) : R.Ord n (ss.take k) := fun i hi => by
  rw [List.length_take] at hi
  have := h i (by omega)
  rw [nth_take _ _ _ (by omega), nth_take _ _ _ (by omega)]
  exact this
/-- How many sightings lie on both. -/
def both (l : List (Int × Int)) (p q : List Int) : Nat := R.size (R.on l p &&& R.on l q)
theorem size_n {l : List (Int × Int)} (h : l.length ≤ 12) {b : Nat} (hb : b < 2 ^ l.length) : R.size b = R.sizeTo b l.length := by rw [size_idx h hb, idx_length]
theorem and_lt {l : List (Int × Int)} (p q : List Int) : R.on l p &&& R.on l q < 2 ^ l.length := Nat.lt_of_le_of_lt Nat.and_le_left (R.onTo_lt l p l.length)
theorem both_n {l : List (Int × Int)} (h : l.length ≤ 12) (p q : List Int) : both l p q = R.sizeTo (R.on l p &&& R.on l q) l.length := size_n h (and_lt p q)
theorem onL_n {l : List (Int × Int)} (h : l.length ≤ 12) (q : List Int) : onL l q = R.sizeTo (R.on l q) l.length := by rw [← onL_size h]; exact size_n h (R.onTo_lt l q l.length)
theorem both_ge {l : List (Int × Int)} (h : l.length ≤ 12) (p q : List Int) : onL l p + onL l q ≤ both l p q + l.length := by
  rw [both_n h, onL_n h, onL_n h]; exact sizeTo_and _ _ _
theorem both_self {l : List (Int × Int)} (h : l.length ≤ 12) (q : List Int) : both l q q = onL l q := by
  unfold both; rw [Nat.and_self]; exact onL_size h q
theorem ex_ss {l : List (Int × Int)} (h : l.length ≤ 12) (p q : List Int) (m : Nat) (hm : m ≤ both l p q) :
    ∃ ss, R.Ord l.length ss ∧ ss.length = m ∧ ∀ i, i < ss.length → R.atD p (dayN l (nth ss i).toNat) = plcN l (nth ss i).toNat ∧ R.atD q (dayN l (nth ss i).toNat) = plcN l (nth ss i).toNat := by
  have ho := idx_ord (R.on l p &&& R.on l q) l.length
  have hn := idx_length (R.on l p &&& R.on l q) l.length
  have hb := idx_bit (R.on l p &&& R.on l q) l.length
  rw [both_n h] at hm
  refine ⟨(idx (R.on l p &&& R.on l q) l.length).take m, ord_take ho m, by rw [List.length_take]; omega, fun i hi => ?_⟩
  rw [List.length_take] at hi
  rw [nth_take _ _ _ (by omega)]
  have h1 := (bit_and _ _ _).1 (hb i (by omega))
  have h2 := ho i (by omega)
  exact ⟨(on_bit l p _ (by omega)).1 h1.1, (on_bit l q _ (by omega)).1 h1.2⟩
theorem pass_lies {l : List (Int × Int)} {d : Nat} {q ss : List Int} (hv : R.Valid (d : Int) l) (ho : R.Ord l.length ss) (hl : ss.length = d + 1) (hq : q.length = d + 1)
    (h : ∀ i, i < ss.length → R.atD q (dayN l (nth ss i).toNat) = plcN l (nth ss i).toNat) : R.pass (R.sel l ss) = some q := by
  have hd := hv.d3
  have hP := R.sel_piece hv.fit hv.inc ho (by omega)
  have hsl : (R.sel l ss).length = ss.length := R.selTo_length _ _ _
  exact hP.pass_of_path (q := q) (by rw [hsl, hl, hq]) (fun i hi => by
    rw [hsl] at hi
    have e := R.selTo_get l ss ss.length i hi
    show R.atD q (dayN (R.selTo l ss ss.length) i) = plcN (R.selTo l ss ss.length) i
    rw [e.1, e.2]; exact h i hi)
/-- Two paths of the degree that share more sightings than the degree are one. -/
theorem eq_of_both {l : List (Int × Int)} {d : Nat} {p q : List Int} (hv : R.Valid (d : Int) l) (hp : p.length = d + 1) (hq : q.length = d + 1) (h : d + 1 ≤ both l p q) : p = q := by
  obtain ⟨ss, ho, hl, hs⟩ := ex_ss hv.len p q (d + 1) h
  have h1 := pass_lies hv ho hl hp (fun i hi => (hs i hi).1)
  have h2 := pass_lies hv ho hl hq (fun i hi => (hs i hi).2)
  rw [h1] at h2; exact Option.some.inj h2
/-- A path of the log is a path of the degree on which more sightings lie than the degree. -/
theorem found_iff {l : List (Int × Int)} {d : Nat} {q : List Int} (hv : R.Valid (d : Int) l) : Found l d q ↔ q.length = d + 1 ∧ d + 1 ≤ onL l q := by
  constructor
  · intro h
    refine ⟨(h.props hv).1, ?_⟩
    obtain ⟨ss, ho, hl, hp⟩ := h
    have hlies := Found.lies hv ho hl hp
    obtain ⟨b, hb, rfl⟩ := idx_surj l.length ss ho
    rw [onL_n hv.len, ← hl, idx_length]
    refine sizeTo_sub _ _ _ fun i hi hbit => ?_
    obtain ⟨k, hk, e⟩ := bit_idx b l.length i hi hbit
    have := hlies k hk
    rw [e, Int.toNat_natCast] at this
    exact (on_bit l q i hi).2 this
  · rintro ⟨hq, h⟩
    obtain ⟨ss, ho, hl, hs⟩ := ex_ss hv.len q q (d + 1) (by rw [both_self hv.len]; exact h)
    exact ⟨ss, ho, hl, pass_lies hv ho hl hq (fun i hi => (hs i hi).1)⟩
theorem most_ge {l : List (Int × Int)} {d : Nat} {q : List Int} (hv : R.Valid (d : Int) l) (h : Found l d q) : onL l q ≤ R.most (d : Int) l := by
  have hm := (paths_mem hv.len (R.on l q)).2 ⟨q, h, rfl⟩
  obtain ⟨i, hi, e⟩ := List.mem_iff_getElem.1 hm
  have := mostTo_ge (R.paths (d : Int) l) _ (Nat.le_refl _) i hi
  rw [show (R.paths (d : Int) l).getD i 0 = R.on l q by simp [hi, e], onL_size hv.len] at this
  exact this
theorem most_ex {l : List (Int × Int)} {d : Nat} (hv : R.Valid (d : Int) l) : R.most (d : Int) l = 0 ∨ ∃ q, Found l d q ∧ onL l q = R.most (d : Int) l := by
  rcases mostTo_eq (R.paths (d : Int) l) (R.paths (d : Int) l).length with h | ⟨i, hi, e⟩
  · exact .inl h
  · obtain ⟨q, hq, e2⟩ := (paths_mem hv.len _).1 (getD_mem hi)
    exact .inr ⟨q, hq, by rw [← onL_size hv.len, e2]; exact e⟩
/-- The first sightings of a path are enough to find it again. -/
theorem firstTo_lies {l : List (Int × Int)} {deg : Int} {q : List Int} {b : Nat} (hb : b = R.on l q) : ∀ j, j ≤ l.length → (((R.firstTo deg l b j).length : Int) ≤ deg → (R.firstTo deg l b j).length = R.sizeTo b j) ∧ ∀ i, i < (R.firstTo deg l b j).length → R.atD q (dayN (R.firstTo deg l b j) i) = plcN (R.firstTo deg l b j) i := by
  intro j
  induction j with
  | zero => intro _; exact ⟨fun _ => rfl, fun i hi => by simp [R.firstTo, up] at hi⟩
  | succ j ih =>
    intro hj
    obtain ⟨h1, h2⟩ := ih (by omega)
    rw [R.firstTo_succ, sizeTo_succ]
    split
    · rename_i hc
      refine ⟨fun h => by rw [List.length_append, List.length_singleton, h1 hc.2, hc.1], fun i hi => ?_⟩
      rw [List.length_append, List.length_singleton] at hi
      by_cases e : i < (R.firstTo deg l b j).length
      · rw [(dayN_left _ _ _ i e).1, (dayN_left _ _ _ i e).2]; exact h2 i e
      · have : i = (R.firstTo deg l b j).length := by omega
        subst this
        rw [(dayN_right _ _ _).1, (dayN_right _ _ _).2]
        rw [hb] at hc
        exact (on_bit l q j (by omega)).1 hc.1
    · rename_i hc
      refine ⟨fun h => ?_, h2⟩
      have : ¬ b / 2 ^ j % 2 = 1 := fun e => hc ⟨e, h⟩
      have h3 : b / 2 ^ j % 2 < 2 := Nat.mod_lt _ (by decide)
      rw [h1 h]; omega
theorem first_path {l : List (Int × Int)} {d : Nat} {q : List Int} (hv : R.Valid (d : Int) l) (h : Found l d q) : R.pass (R.firstTo (d : Int) l (R.on l q) l.length) = some q := by
  obtain ⟨h1, h2⟩ := firstTo_lies (deg := (d : Int)) (q := q) (l := l) rfl l.length (Nat.le_refl _)
  have h3 := (R.firstTo_pre hv (R.on l q) l.length (Nat.le_refl _)).2
  have hq := (found_iff hv).1 h
  have hlen : (R.firstTo (d : Int) l (R.on l q) l.length).length = d + 1 := by
    by_cases e : ((R.firstTo (d : Int) l (R.on l q) l.length).length : Int) ≤ (d : Int)
    · have := h1 e; rw [← onL_n hv.len] at this; omega
    · omega
  exact (R.first_piece hv (R.on l q)).pass_of_path (by rw [hlen]; exact hq.1) h2
theorem hitTo_spec (out : List Nat) (p : Nat → Bool) : ∀ k, k ≤ out.length → (∀ x, R.hitTo out p k = some x → x ∈ out ∧ p x = true) ∧ (R.hitTo out p k = none → ∀ i, i < k → p (out.getD i 0) = false) := by
  intro k
  induction k with
  | zero => intro _; exact ⟨fun x h => by simp [R.hitTo, up] at h, fun _ i hi => by omega⟩
  | succ k ih =>
    intro hk
    obtain ⟨h1, h2⟩ := ih (by omega)
    rw [R.hitTo_succ]
    cases e : R.hitTo out p k with
    | some x => exact ⟨fun y h => h1 y (by rw [e]; exact h), fun h => by simp at h⟩
    | none =>
      have h2 := h2 e
      by_cases hp : p (out.getD k 0) = true
      · simp only [hp, if_true]
        exact ⟨fun y h => by cases h; exact ⟨getD_mem hk, hp⟩, fun h => by simp at h⟩
      · simp only [hp]
        refine ⟨fun y h => by simp at h, fun _ i hi => ?_⟩
        rcases Nat.lt_succ_iff_lt_or_eq.1 hi with h | rfl
        · exact h2 i h
        · simpa using hp
/-- What Only finds: none, if on no path few are wrong, else the one path. -/
theorem onlyR_none {l : List (Int × Int)} {d : Nat} {wrong : Int} (hv : R.Valid (d : Int) l) (h : ∀ q, Found l d q → (onL l q : Int) < (l.length : Int) - wrong) : R.onlyR (d : Int) l (R.onlyHit (d : Int) l wrong) = ([], 23) := by
  have hs := hitTo_spec (R.paths (d : Int) l) (fun b => decide ((l.length : Int) - wrong ≤ R.size b)) _ (Nat.le_refl _)
  unfold R.onlyHit
  cases e : R.hitTo (R.paths (d : Int) l) (fun b => decide ((l.length : Int) - wrong ≤ R.size b)) (R.paths (d : Int) l).length with
  | none => rfl
  | some x =>
    obtain ⟨hx, hp⟩ := hs.1 x e
    obtain ⟨q, hq, e2⟩ := (paths_mem hv.len x).1 hx
    have := h q hq
    simp only [decide_eq_true_eq] at hp
    rw [← e2, onL_size hv.len] at hp
    omega
theorem onlyR_some {l : List (Int × Int)} {d : Nat} {wrong : Int} {q : List Int} (hv : R.Valid (d : Int) l) (hn : (d : Int) + 1 + 2 * wrong ≤ l.length) (hq : Found l d q) (h : (l.length : Int) - wrong ≤ onL l q) : R.onlyR (d : Int) l (R.onlyHit (d : Int) l wrong) = (q, 0) := by
  have hs := hitTo_spec (R.paths (d : Int) l) (fun b => decide ((l.length : Int) - wrong ≤ R.size b)) _ (Nat.le_refl _)
  unfold R.onlyHit
  cases e : R.hitTo (R.paths (d : Int) l) (fun b => decide ((l.length : Int) - wrong ≤ R.size b)) (R.paths (d : Int) l).length with
  | none =>
    exfalso
    have hm := (paths_mem hv.len (R.on l q)).2 ⟨q, hq, rfl⟩
    obtain ⟨i, hi, e3⟩ := List.mem_iff_getElem.1 hm
    have h4 := hs.2 e i hi
    rw [show (R.paths (d : Int) l).getD i 0 = R.on l q by simp [hi, e3]] at h4
    simp only [decide_eq_false_iff_not] at h4
    rw [onL_size hv.len] at h4
    omega
  | some x =>
    obtain ⟨hx, hp⟩ := hs.1 x e
    obtain ⟨p, hpf, e2⟩ := (paths_mem hv.len x).1 hx
    simp only [decide_eq_true_eq] at hp
    rw [← e2, onL_size hv.len] at hp
    have hb := both_ge hv.len p q
    have hpq : p = q := eq_of_both hv (hpf.props hv).1 (hq.props hv).1 (by omega)
    subst hpq
    subst e2
    show ((R.pass (R.firstTo (d : Int) l (R.on l p) l.length)).getD [], (0 : Int)) = (p, 0)
    rw [first_path hv hpf]; rfl
end C
end Go.Proofs.Ytkcgkfhfogdihaa
/- Plain Lean: a path seen from another day, or turned; logs that have the same paths. -/
namespace Go.Proofs.Ytkcgkfhfogdihaa
namespace C
theorem even_mul (x : Int) : (x * (x - 1)) % 2 = 0 := by
  rcases Int.emod_two_eq x with h | h
  · obtain ⟨k, rfl⟩ : ∃ k, x = 2 * k := ⟨x / 2, by omega⟩
    rw [show 2 * k * (2 * k - 1) = 2 * (k * (2 * k - 1)) by grind]; omega
  · obtain ⟨k, rfl⟩ : ∃ k, x = 2 * k + 1 := ⟨x / 2, by omega⟩
    rw [show (2 * k + 1) * (2 * k + 1 - 1) = 2 * (k * (2 * k + 1)) by grind]; omega
theorem three_mul (x : Int) : ∃ K, x * (x - 1) * (x - 2) = 3 * K := by
  have h : x % 3 = 0 ∨ x % 3 = 1 ∨ x % 3 = 2 := by omega
  rcases h with h | h | h
  · obtain ⟨k, rfl⟩ : ∃ k, x = 3 * k := ⟨x / 3, by omega⟩
    exact ⟨k * (3 * k - 1) * (3 * k - 2), by grind⟩
  · obtain ⟨k, rfl⟩ : ∃ k, x = 3 * k + 1 := ⟨x / 3, by omega⟩
    exact ⟨(3 * k + 1) * k * (3 * k + 1 - 2), by grind⟩
  · obtain ⟨k, rfl⟩ : ∃ k, x = 3 * k + 2 := ⟨x / 3, by omega⟩
    exact ⟨(3 * k + 2) * (3 * k + 2 - 1) * k, by grind⟩
theorem waysI (x : Int) : R.ways x 0 = 1 ∧ R.ways x 1 = x ∧ 2 * R.ways x 2 = x * (x - 1) ∧ 6 * R.ways x 3 = x * (x - 1) * (x - 2) := by
  have e1 : R.ways x 1 = x := by simp [R.ways, up]
  have e2 : R.ways x 2 = (x * (x - 1)).tdiv 2 := by
    show (R.ways x 1 * (x - (1 : Nat))).tdiv ((1 : Nat) + 1) = _
    rw [e1]; rfl
  have h2 : 2 * R.ways x 2 = x * (x - 1) := by
    rw [e2]; exact Int.mul_tdiv_cancel' (Int.dvd_of_emod_eq_zero (even_mul x))
  have e3 : R.ways x 3 = (R.ways x 2 * (x - 2)).tdiv 3 := rfl
  refine ⟨rfl, e1, h2, ?_⟩
  obtain ⟨K, hK⟩ := three_mul x
  have h4 : 2 * (R.ways x 2 * (x - 2)) = 3 * K := by rw [← hK, ← h2]; grind
  have h5 : 3 * R.ways x 3 = R.ways x 2 * (x - 2) := by
    rw [e3]; exact Int.mul_tdiv_cancel' (Int.dvd_of_emod_eq_zero (by omega))
  rw [hK]; omega
theorem atD_polyI {q : List Int} (hq : q.length ≤ 4) (x : Int) : 6 * R.atD q x = R.poly q x := by
  obtain ⟨w0, w1, w2, w3⟩ := waysI x
  match q, hq with
  | [], _ => simp [R.atD, R.atFrom, up, R.poly, nth]
  | [a], _ => simp [R.atD, R.atFrom, up, R.poly, nth, w0]
  | [a, b], _ => simp [R.atD, R.atFrom, up, R.poly, nth, w0, w1]; grind
  | [a, b, c], _ => simp [R.atD, R.atFrom, up, R.poly, nth, w0, w1]; grind
  | [a, b, c, d], _ => simp [R.atD, R.atFrom, up, R.poly, nth, w0, w1]; grind
/-- The path whose place on the day i is that of q on the day s * i + c. -/
def seen (s c : Int) (q : List Int) : List Int := R.diffs (R.tab (fun i => R.atD q (s * i + c)) q.length)
theorem seen_length (s c : Int) (q : List Int) : (seen s c q).length = q.length := by unfold seen; rw [R.diffs_length, R.tab_length]
theorem seen_at {s : Int} (hs : s = 1 ∨ s = -1) (c : Int) {q : List Int} (hq : q.length ≤ 4) (t : Int) : R.atD (seen s c q) t = R.atD q (s * t + c) := by
  have h1 := atD_polyI (q := seen s c q) (by rw [seen_length]; exact hq) t
  have h2 := atD_polyI hq (s * t + c)
  suffices h : R.poly (seen s c q) t = R.poly q (s * t + c) by omega
  clear h1 h2
  have p : ∀ k : Int, 6 * R.atD q (s * k + c) = R.poly q (s * k + c) := fun k => atD_polyI hq _
  have q0 := p (0 : Nat); have q1 := p (1 : Nat); have q2 := p (2 : Nat); have q3 := p (3 : Nat)
  unfold seen
  generalize hf : (fun k : Nat => R.atD q (s * (k : Int) + c)) = f
  have f0 : R.atD q (s * ((0 : Nat) : Int) + c) = f 0 := by rw [← hf]
  have f1 : R.atD q (s * ((1 : Nat) : Int) + c) = f 1 := by rw [← hf]
  have f2 : R.atD q (s * ((2 : Nat) : Int) + c) = f 2 := by rw [← hf]
  have f3 : R.atD q (s * ((3 : Nat) : Int) + c) = f 3 := by rw [← hf]
  rw [f0] at q0; rw [f1] at q1; rw [f2] at q2; rw [f3] at q3
  clear hf p f0 f1 f2 f3
  rcases R.list4 hq with rfl | ⟨a, rfl⟩ | ⟨a, b, rfl⟩ | ⟨a, b, c, rfl⟩ | ⟨a, b, c, d, rfl⟩
  · simp [R.diffs, R.diffsF, R.tab, up, R.poly, nth]
  · simp [R.poly, nth] at q0
    simp [R.diffs, R.diffsF, R.tab, up, R.poly, nth]; omega
  · rcases hs with rfl | rfl <;>
    · simp [R.poly, nth] at q0 q1
      simp [R.diffs, R.diffsF, R.steps, R.tab, up, R.poly, nth]; grind
  · rcases hs with rfl | rfl <;>
    · simp [R.poly, nth] at q0 q1 q2
      simp [R.diffs, R.diffsF, R.steps, R.tab, up, R.poly, nth]; grind
  · rcases hs with rfl | rfl <;>
    · simp [R.poly, nth] at q0 q1 q2 q3
      simp [R.diffs, R.diffsF, R.steps, R.tab, up, R.poly, nth]; grind
theorem seen_seen {s : Int} (hs : s = 1 ∨ s = -1) (c c' : Int) (hc : s * c' + c = 0) {q : List Int} (hq : q.length ≤ 4) : seen s c' (seen s c q) = q := by
  have e : seen s c' (seen s c q) = R.diffs (R.tab (fun k => R.atD q k) q.length) := by
    show R.diffs (R.tab (fun i => R.atD (seen s c q) (s * i + c')) (seen s c q).length) = _
    rw [seen_length, R.tab_congr (g := fun k => R.atD q k) (fun k _ => by
      rw [seen_at hs c hq]
      congr 1
      rcases hs with rfl | rfl <;> omega)]
  rw [e]; exact R.diffs_places hq
theorem onN_count (l : List (Int × Int)) (q : List Int) (j : Nat) : onN l q j = (List.range j).countP (fun i => R.atD q (dayN l i) == plcN l i) := by
  induction j with
  | zero => rfl
  | succ j ih => rw [onN_succ, List.range_succ, List.countP_append, ih]; simp only [List.countP_cons, List.countP_nil]; split <;> simp_all
theorem onL_count (l : List (Int × Int)) (q : List Int) : onL l q = (List.range l.length).countP (fun i => R.atD q (dayN l i) == plcN l i) := onN_count l q l.length
/-- The logs l and x have the same paths, by F and G; the sighting i of l is the sighting f i of x. -/
structure Twin (d : Nat) (l x : List (Int × Int)) (F G : List Int → List Int) (f : Nat → Nat) : Prop where
  len : x.length = l.length
  lenF : ∀ q, q.length = d + 1 → (F q).length = d + 1
  lenG : ∀ q, q.length = d + 1 → (G q).length = d + 1
  FG : ∀ q, q.length = d + 1 → F (G q) = q
  GF : ∀ q, q.length = d + 1 → G (F q) = q
  perm : ((List.range l.length).map f).Perm (List.range l.length)
  lies : ∀ q, q.length = d + 1 → ∀ i, i < l.length → (R.atD (F q) (dayN l i) = plcN l i ↔ R.atD q (dayN x (f i)) = plcN x (f i))
theorem Twin.on {d : Nat} {l x : List (Int × Int)} {F G : List Int → List Int} {f : Nat → Nat} (h : Twin d l x F G f) {q : List Int} (hq : q.length = d + 1) : onL l (F q) = onL x q := by
  rw [onL_count, onL_count, h.len, ← List.Perm.countP_eq (fun i => R.atD q (dayN x i) == plcN x i) h.perm, List.countP_map]
  refine List.countP_congr fun i hi => ?_
  have := h.lies q hq i (List.mem_range.1 hi)
  simp only [beq_iff_eq, Function.comp]
  exact this
theorem Twin.found {d : Nat} {l x : List (Int × Int)} {F G : List Int → List Int} {f : Nat → Nat} (h : Twin d l x F G f) (hl : R.Valid (d : Int) l) (hx : R.Valid (d : Int) x) {q : List Int} (hq : q.length = d + 1) : Found l d (F q) ↔ Found x d q := by
  rw [found_iff hl, found_iff hx, h.on hq]
  exact ⟨fun e => ⟨hq, e.2⟩, fun e => ⟨h.lenF q hq, e.2⟩⟩
theorem Twin.most {d : Nat} {l x : List (Int × Int)} {F G : List Int → List Int} {f : Nat → Nat} (h : Twin d l x F G f) (hl : R.Valid (d : Int) l) (hx : R.Valid (d : Int) x) : R.most (d : Int) l = R.most (d : Int) x := by
  apply Nat.le_antisymm
  · rcases most_ex hl with e | ⟨q, hq, e⟩
    · omega
    · have hq1 := (hq.props hl).1
      have hg := h.lenG q hq1
      rw [← e, ← h.FG q hq1, h.on hg]
      refine most_ge hx ((h.found hl hx hg).1 ?_)
      rw [h.FG q hq1]; exact hq
  · rcases most_ex hx with e | ⟨q, hq, e⟩
    · omega
    · have hq1 := (hq.props hx).1
      rw [← e, ← h.on hq1]
      exact most_ge hl ((h.found hl hx hq1).2 hq)
theorem same_ex {l : List (Int × Int)} {d : Nat} (hv : R.Valid (d : Int) l) : ∃ qs, Same l d qs := by
  have hb : ∀ b : Nat, ∃ q : List Int, b ∈ R.best (d : Int) l → Found l d q ∧ R.on l q = b ∧ R.size b = R.most (d : Int) l := fun b => by
    by_cases h : b ∈ R.best (d : Int) l
    · obtain ⟨⟨q, h1, h2⟩, h3⟩ := (best_mem' hv.len b).1 h
      exact ⟨q, fun _ => ⟨h1, h2, h3⟩⟩
    · exact ⟨[], fun e => absurd e h⟩
  obtain ⟨g, hg⟩ := Classical.axiomOfChoice hb
  have hnd : (R.best (d : Int) l).Nodup := bestTo_nodup _ (pathsTo_nodup _ _ _) _ _ (Nat.le_refl _)
  refine ⟨(R.best (d : Int) l).map g, ?_, ?_, ?_, ?_⟩
  · rw [List.Nodup, List.pairwise_map]
    exact List.Pairwise.imp_of_mem (fun {a b} ha hb hne e => hne (by rw [← (hg a ha).2.1, ← (hg b hb).2.1, e])) hnd
  · intro q hq
    obtain ⟨b, hb, rfl⟩ := List.mem_map.1 hq
    exact (hg b hb).1
  · intro q hq
    obtain ⟨b, hb, rfl⟩ := List.mem_map.1 hq
    have := hg b hb
    rw [← onL_size hv.len, this.2.1]; exact this.2.2
  · intro q hq hm
    have hb : R.on l q ∈ R.best (d : Int) l := (best_mem' hv.len _).2 ⟨⟨q, hq, rfl⟩, by rw [onL_size hv.len]; exact hm⟩
    have := hg _ hb
    exact List.mem_map.2 ⟨_, hb, on_inj hv this.1 hq this.2.1⟩
theorem Twin.same {d : Nat} {l x : List (Int × Int)} {F G : List Int → List Int} {f : Nat → Nat} (h : Twin d l x F G f) (hl : R.Valid (d : Int) l) (hx : R.Valid (d : Int) x) {qs : List (List Int)} (hs : Same x d qs) : Same l d (qs.map F) := by
  have hlen : ∀ q ∈ qs, q.length = d + 1 := fun q hq => ((hs.found q hq).props hx).1
  refine ⟨?_, ?_, ?_, ?_⟩
  · rw [List.Nodup, List.pairwise_map]
    exact List.Pairwise.imp_of_mem (fun {a b} ha hb hne e => hne (by rw [← h.GF a (hlen a ha), ← h.GF b (hlen b hb), e])) hs.nodup
  · intro q hq
    obtain ⟨b, hb, rfl⟩ := List.mem_map.1 hq
    exact (h.found hl hx (hlen b hb)).2 (hs.found b hb)
  · intro q hq
    obtain ⟨b, hb, rfl⟩ := List.mem_map.1 hq
    rw [h.on (hlen b hb), h.most hl hx]; exact hs.most b hb
  · intro q hq hm
    have hq1 := (hq.props hl).1
    have hg := h.lenG q hq1
    have e := h.FG q hq1
    refine List.mem_map.2 ⟨G q, hs.all _ ((h.found hl hx hg).1 (by rw [e]; exact hq)) ?_, e⟩
    rw [← h.on hg, e, hm, h.most hl hx]
theorem Twin.count {d : Nat} {l x : List (Int × Int)} {F G : List Int → List Int} {f : Nat → Nat} (h : Twin d l x F G f) (hl : R.Valid (d : Int) l) (hx : R.Valid (d : Int) x) : (R.best (d : Int) l).length = (R.best (d : Int) x).length := by
  obtain ⟨qs, hs⟩ := same_ex hx
  rw [← hs.count hx, ← (h.same hl hx hs).count hl, List.length_map]
theorem Twin.mostE {d : Nat} {l x : List (Int × Int)} {F G : List Int → List Int} {f : Nat → Nat} (h : Twin d l x F G f) (hl : R.Valid (d : Int) l) (hx : R.Valid (d : Int) x) : R.mostE (d : Int) l = R.mostE (d : Int) x := by
  unfold R.mostE; rw [hl.zero, hx.zero, h.most hl hx]
theorem Twin.countE {d : Nat} {l x : List (Int × Int)} {F G : List Int → List Int} {f : Nat → Nat} (h : Twin d l x F G f) (hl : R.Valid (d : Int) l) (hx : R.Valid (d : Int) x) : R.countE (d : Int) l = R.countE (d : Int) x := by
  unfold R.countE; rw [hl.zero, hx.zero, h.most hl hx, h.count hl hx]
theorem kindE_valid {l : List (Int × Int)} {deg : Int} (hv : R.Valid deg l) {i : Nat} (hi : i < l.length) : R.kindE deg l i = if R.most deg l = 0 then (0, 23) else if R.wrongs deg l i = (R.best deg l).length then (2, 0) else (((min (R.wrongs deg l i) 1 : Nat) : Int), 0) := by
  unfold R.kindE
  rw [if_neg (not_not_intro hv.zero), if_neg (by omega), Int.toNat_natCast]
theorem Twin.kindE {d : Nat} {l x : List (Int × Int)} {F G : List Int → List Int} {f : Nat → Nat} (h : Twin d l x F G f) (hl : R.Valid (d : Int) l) (hx : R.Valid (d : Int) x) {i : Nat} (hi : i < l.length) : R.kindE (d : Int) l i = R.kindE (d : Int) x (f i) := by
  obtain ⟨qs, hs⟩ := same_ex hx
  have hs' := h.same hl hx hs
  have hlen : ∀ q ∈ qs, q.length = d + 1 := fun q hq => ((hs.found q hq).props hx).1
  have hfi : f i < l.length := List.mem_range.1 (h.perm.subset (List.mem_map.2 ⟨i, List.mem_range.2 hi, rfl⟩))
  have hfx : f i < x.length := by rw [h.len]; exact hfi
  have z : R.wrongs (d : Int) l i = 0 ↔ R.wrongs (d : Int) x (f i) = 0 := by
    rw [hs'.wrong_zero hl hi, hs.wrong_zero hx hfx]
    constructor
    · intro H q hq; exact (h.lies q (hlen q hq) i hi).1 (H _ (List.mem_map.2 ⟨q, hq, rfl⟩))
    · intro H q hq
      obtain ⟨b, hb, rfl⟩ := List.mem_map.1 hq
      exact (h.lies b (hlen b hb) i hi).2 (H b hb)
  have u : R.wrongs (d : Int) l i = (R.best (d : Int) l).length ↔ R.wrongs (d : Int) x (f i) = (R.best (d : Int) x).length := by
    rw [hs'.wrong_full hl hi, hs.wrong_full hx hfx]
    constructor
    · intro H q hq e; exact H _ (List.mem_map.2 ⟨q, hq, rfl⟩) ((h.lies q (hlen q hq) i hi).2 e)
    · intro H q hq e
      obtain ⟨b, hb, rfl⟩ := List.mem_map.1 hq
      exact H b hb ((h.lies b (hlen b hb) i hi).1 e)
  rw [kindE_valid hl hi, kindE_valid hx hfx, h.most hl hx]
  by_cases hm : R.most (d : Int) x = 0
  · rw [if_pos hm, if_pos hm]
  · rw [if_neg hm, if_neg hm]
    by_cases hu : R.wrongs (d : Int) x (f i) = (R.best (d : Int) x).length
    · rw [if_pos hu, if_pos (u.2 hu)]
    · rw [if_neg hu, if_neg (fun e => hu (u.1 e))]
      congr 2
      by_cases hz : R.wrongs (d : Int) x (f i) = 0
      · rw [hz, z.2 hz]
      · have : R.wrongs (d : Int) l i ≠ 0 := fun e => hz (z.1 e)
        omega
end C
end Go.Proofs.Ytkcgkfhfogdihaa
/- Plain Lean: what the examples are. -/
namespace Go.Proofs.Ytkcgkfhfogdihaa
def exL : List (Int × Int) := [(0, 1), (1, 3), (2, 5), (3, 8), (5, 11)]
def exM : List (Int × Int) := [(0, 0), (2, 1)]
def exQ : List (Int × Int) := [(0, 1), (1, 2), (2, 4), (3, 7), (4, 12)]
theorem v1 : R.at' [1, 1, 1] 4 = (11, 0) := by decide +kernel
theorem v2 : R.at' [1, 2] 61 = (0, 2) := by decide +kernel
theorem v3 : R.later [1, 1, 1] 2 = ([4, 3, 1], 0) := by decide +kernel
theorem v4 : R.through 1 exL [2, 3] = ([-1, 3], 0) := by decide +kernel
theorem v5 : R.through 1 exM [0, 1] = ([], 23) := by decide +kernel
theorem v6 : R.checkPath 1 exL [1, 2] = (4, 0) := by decide +kernel
theorem v7 : R.mostE 2 exQ = (4, 0) := by decide +kernel
theorem v8 : R.mostE 1 exM = (0, 23) := by decide +kernel
theorem v10 : R.countE 1 exL = (1, 0) := by decide +kernel
theorem v11 : R.kindE 1 exL 3 = (2, 0) := by decide +kernel
theorem v12 : R.onlyE 1 exL 1 = ([1, 2], 0) := by decide +kernel
theorem v13 : R.onlyE 1 exL 2 = ([], 13) := by decide +kernel
theorem v14 : R.onlyE 1 exL 0 = ([], 23) := by decide +kernel
theorem v15 : R.leastE 1 exL = (0, 23) := by decide +kernel
theorem w1 : R.later [1, 2] 3 = ([7, 2], 0) := by decide +kernel
theorem w2 : R.through 1 exL [0, 1] = ([1, 2], 0) := by decide +kernel
theorem w3 : R.through 1 exL [0, 1, 2] = ([], 15) := by decide +kernel
theorem w4 : R.checkPath 1 exL [-1, 3] = (2, 0) := by decide +kernel
theorem w5 : R.mostE 1 exL = (4, 0) := by decide +kernel
theorem w6 : R.kindE 1 exL 0 = (0, 0) := by decide +kernel
theorem w7 : R.leastE 2 (exQ.take 4) = (2, 0) := by decide +kernel
theorem w8 : R.leastE 1 exM = (0, 23) := by decide +kernel
theorem w9 : R.leastE 2 [] = (0, 0) := by decide +kernel
theorem exQ_valid : R.Valid ((2 : Nat) : Int) exQ := R.checkLog_zero (by decide +kernel)
theorem exQ_one : C.onL exQ [1, 1, 1] = 4 := by decide +kernel
theorem exQ_most : R.most ((2 : Nat) : Int) exQ = 4 := by decide +kernel
theorem v9 {p : List Int} (h : C.Found exQ 2 p) (hm : C.onL exQ p = R.most ((2 : Nat) : Int) exQ) : p = [1, 1, 1] := by
  have hb := C.both_ge exQ_valid.len p [1, 1, 1]
  rw [hm, exQ_most, exQ_one, show exQ.length = 5 from rfl] at hb
  exact C.eq_of_both exQ_valid (h.props exQ_valid).1 rfl (by show 2 + 1 ≤ _; omega)
end Go.Proofs.Ytkcgkfhfogdihaa
/- Walks of the program's tracked, Most, Count, Path. -/
namespace Go.Proofs.Ytkcgkfhfogdihaa
open Go.RowKit
set_option maxRecDepth 100000 in
set_option maxHeartbeats 1000000 in
theorem tracked_err (a : Option Addr) (cap : Nat) (deg : Int) (l : List (Int × Int)) (w : World) (hl : l.length ≤ 1000000) (ha : Sigs w a l) (hc : R.checkLog deg l ≠ 0) :
    Calls Try.prog 68 #[.agg #[.int .i64 deg, .slice a l.length cap]] w fun e w' => e = .returned (.tuple #[.pointer none, .slice none 0 0, .int .i64 (R.checkLog deg l)]) ∧ Below w.heap.size w w' := by
  have hb0 := Below.new w (.cells #[.int .i64 deg, .slice a l.length cap] 33)
  have HC := Lib.hid (open_err a cap deg l _ hl (ha.below hb0) hc)
  have HB := Lib.hid hb0
  have hc' : (R.checkLog deg l != 0) = true := by rw [bne_iff_ne]; exact hc
  clear ha hc hb0
  go_enter Try.func68, Try.ntmps68
  go_wp2_with fail
  refine HC.out.mono ?_
  rintro e w1 ⟨rfl, hb1⟩
  go_wp2_with fail
  refine bodyPost_ret (v := .tuple #[.pointer none, .slice none 0 0, .int .i64 (R.checkLog deg l)]) (by simp [results, Try.results68, go_sem]) rfl ⟨rfl, HB.out.trans (hb1.mono HB.out.size)⟩
set_option maxRecDepth 100000 in
set_option maxHeartbeats 1000000 in
theorem tracked_ok (a : Option Addr) (cap d : Nat) (l : List (Int × Int)) (w : World) (ha : Sigs w a l) (hv : R.Valid (d : Int) l) :
    Calls Try.prog 68 #[.agg #[.int .i64 (d : Int), .slice a l.length cap]] w fun e w' => Below w.heap.size w w' ∧ ∃ qs, C.Same l d qs ∧
      ((qs = [] ∧ e = .returned (.tuple #[.pointer none, .slice none 0 0, .int .i64 23])) ∨ (0 < qs.length ∧ ∃ B a2 cap2, e = .returned (.tuple #[.pointer (some ⟨B, 0, none⟩), .slice a2 qs.length cap2, .int .i64 0]) ∧ Logged w' B (d : Int) a cap l ∧ Tracks w' a2 qs)) := by
  have hb0 := Below.new w (.cells #[.int .i64 (d : Int), .slice a l.length cap] 33)
  have h12 := hv.len
  have HC := Lib.hid (open_ok a cap (d : Int) l _ (by omega) (ha.below hb0) hv.zero)
  have HB := Lib.hid hb0
  clear ha hb0
  go_enter Try.func68, Try.ntmps68
  go_wp2_with fail
  refine HC.out.mono ?_
  rintro e w1 ⟨B, rfl, hL1, hb1⟩
  have HL1 := Lib.hid hL1
  have HB1 := Lib.hid (HB.out.trans (hb1.mono HB.out.size))
  clear hb1 hL1
  go_wp2_with fail
  refine (cbest_any B d a cap l w1 HL1.out hv).mono ?_
  rintro e w2 ⟨qs, a2, cap2, rfl, htr, hbest, hb2⟩
  have HS := Lib.hid (hbest.same hv)
  have HL2 := Lib.hid (HL1.out.on hb2)
  have HB2 := Lib.hid (HB1.out.trans (hb2.mono HB1.out.size))
  have HTr := Lib.hid htr
  clear htr hbest hb2
  by_cases h0 : qs.length = 0
  · have HQ := Lib.hid (List.eq_nil_of_length_eq_zero h0)
    go_wp2_with fail
    refine bodyPost_ret (v := .tuple #[.pointer none, .slice none 0 0, .int .i64 23]) (by simp [results, Try.results68, go_sem]) rfl ⟨HB2.out, qs, HS.out, .inl ⟨HQ.out, rfl⟩⟩
  · have h0' : ((qs.length : Int) == 0) = false := by simp; intro e; exact h0 (by rw [e]; rfl)
    have hpos : 0 < qs.length := by omega
    clear h0
    go_wp2_with fail
    refine bodyPost_ret (v := .tuple #[.pointer (some ⟨B, 0, none⟩), .slice a2 qs.length cap2, .int .i64 0]) (by simp [results, Try.results68, go_sem]) rfl ⟨HB2.out, qs, HS.out, .inr ⟨hpos, B, a2, cap2, rfl, HL2.out, HTr.out⟩⟩
/-- A valid log's degree. -/
theorem R.Valid.nat {deg : Int} {l : List (Int × Int)} (h : R.Valid deg l) : ∃ d : Nat, deg = d := ⟨deg.toNat, by have := h.d0; omega⟩
set_option maxRecDepth 100000 in
set_option maxHeartbeats 1000000 in
theorem cMost_any (a : Option Addr) (cap : Nat) (deg : Int) (l : List (Int × Int)) (w : World) (hl : l.length ≤ 1000000) (ha : Sigs w a l) :
    Calls Try.prog 29 #[.agg #[.int .i64 deg, .slice a l.length cap]] w fun e w' => e = .returned (.tuple #[.int .i64 (R.mostE deg l).1, .int .i64 (R.mostE deg l).2]) ∧ Below w.heap.size w w' := by
  have hb0 := Below.new w (.cells #[.int .i64 deg, .slice a l.length cap] 33)
  have HB := Lib.hid hb0
  have HA := Lib.hid (ha.below hb0)
  clear ha hb0
  by_cases hc : R.checkLog deg l = 0
  · have hv := R.checkLog_zero hc
    obtain ⟨d, rfl⟩ := hv.nat
    have HV := Lib.hid hv
    have HF : Hid (R.mostE (d : Int) l = if R.most (d : Int) l = 0 then ((0 : Int), (23 : Int)) else (((R.most (d : Int) l : Nat) : Int), 0)) := Lib.hid (by unfold R.mostE; rw [if_neg (not_not_intro hc)])
    clear hv hc
    go_enter Try.func29, Try.ntmps29
    go_wp2_with fail
    refine (tracked_ok a cap d l _ HA.out HV.out).mono ?_
    rintro e w1 ⟨hb1, qs, hS, (⟨hq, rfl⟩ | ⟨hpos, B, a2, cap2, rfl, hL1, htr⟩)⟩
    · have HF0 : Hid (R.mostE (d : Int) l = (0, 23)) := Lib.hid (by rw [HF.out, if_pos ((hS.nil HV.out).1 hq)])
      clear hq hS
      go_wp2_with fail
      go_ret2
      exact ⟨by rw [HF0.out]; first | done | rfl, HB.out.trans (hb1.mono HB.out.size)⟩
    · have hq0 : C.row qs 0 ∈ qs := by simp [C.row, hpos]
      have hf := hS.found _ hq0
      have hp := hf.props HV.out
      have hd3 := HV.out.d3
      have hm := hS.most _ hq0
      have HF0 : Hid (R.mostE (d : Int) l = (((C.onL l (C.row qs 0) : Nat) : Int), 0)) := Lib.hid (by
        have hpos2 := hf.pos HV.out
        rw [HF.out, if_neg (by omega), hm])
      obtain ⟨b2, off2, rfl, hc4⟩ := htr 0 hpos
      have HCall := Lib.hid (con_any B (d : Int) a cap l (C.row qs 0) w1 hL1 HV.out (by rw [hp.1]; omega) hp.2)
      have HB1 := Lib.hid (HB.out.trans (hb1.mono HB.out.size))
      have q0 := hc4 0 (by omega)
      have q1 := hc4 1 (by omega)
      have q2 := hc4 2 (by omega)
      have q3 := hc4 3 (by omega)
      simp only [Nat.zero_mul, Nat.add_zero] at q0 q1 q2 q3
      have hposI : (0 : Int) < ↑qs.length := by omega
      unfold trackV at HCall
      have hsz := HB1.out.size
      clear hS hq0 hf hp hm htr hc4 hL1 hb1
      go_wp2_with fail
      refine HCall.out.mono ?_
      rintro e w2 ⟨rfl, hb2⟩
      go_wp2_with fail
      go_ret2
      exact ⟨by rw [HF0.out]; first | done | rfl, HB1.out.trans (hb2.mono hsz)⟩
  · have HF : Hid (R.mostE deg l = (0, R.checkLog deg l)) := Lib.hid (by unfold R.mostE; rw [if_pos hc])
    have hc' : (R.checkLog deg l != 0) = true := by rw [bne_iff_ne]; exact hc
    have HC := Lib.hid hc
    clear hc
    go_enter Try.func29, Try.ntmps29
    go_wp2_with fail
    refine (tracked_err a cap deg l _ hl HA.out HC.out).mono ?_
    rintro e w1 ⟨rfl, hb1⟩
    go_wp2_with fail
    go_ret2
    exact ⟨by rw [HF.out]; first | done | rfl, HB.out.trans (hb1.mono HB.out.size)⟩
namespace C
/-- What Path hands back: nothing with an error, else a best path. -/
def BestOne (deg : Int) (l : List (Int × Int)) (p : List Int) : Prop := ((R.mostE deg l).2 ≠ 0 ∧ p = []) ∨ ((R.mostE deg l).2 = 0 ∧ ∃ d : Nat, deg = d ∧ Found l d p ∧ onL l p = R.most (d : Int) l)
end C
set_option maxRecDepth 100000 in
set_option maxHeartbeats 1000000 in
theorem cCount_any (a : Option Addr) (cap : Nat) (deg : Int) (l : List (Int × Int)) (w : World) (hl : l.length ≤ 1000000) (ha : Sigs w a l) :
    Calls Try.prog 31 #[.agg #[.int .i64 deg, .slice a l.length cap]] w fun e w' => e = .returned (.tuple #[.int .i64 (R.countE deg l).1, .int .i64 (R.countE deg l).2]) ∧ Below w.heap.size w w' := by
  have hb0 := Below.new w (.cells #[.int .i64 deg, .slice a l.length cap] 33)
  have HB := Lib.hid hb0
  have HA := Lib.hid (ha.below hb0)
  clear ha hb0
  by_cases hc : R.checkLog deg l = 0
  · have hv := R.checkLog_zero hc
    obtain ⟨d, rfl⟩ := hv.nat
    have HV := Lib.hid hv
    have HF : Hid (R.countE (d : Int) l = if R.most (d : Int) l = 0 then ((0 : Int), (23 : Int)) else ((((R.best (d : Int) l).length : Nat) : Int), 0)) := Lib.hid (by unfold R.countE; rw [if_neg (not_not_intro hc)])
    clear hv hc
    go_enter Try.func31, Try.ntmps31
    go_wp2_with fail
    refine (tracked_ok a cap d l _ HA.out HV.out).mono ?_
    rintro e w1 ⟨hb1, qs, hS, (⟨hq, rfl⟩ | ⟨hpos, B, a2, cap2, rfl, hL1, htr⟩)⟩
    · have HF0 : Hid (R.countE (d : Int) l = (0, 23)) := Lib.hid (by rw [HF.out, if_pos ((hS.nil HV.out).1 hq)])
      clear hq hS
      go_wp2_with fail
      go_ret2
      exact ⟨by rw [HF0.out]; first | done | rfl, HB.out.trans (hb1.mono HB.out.size)⟩
    · have HF0 : Hid (R.countE (d : Int) l = ((qs.length : Int), 0)) := Lib.hid (by
        have hne : R.most (d : Int) l ≠ 0 := fun e => by have := (hS.nil HV.out).2 e; rw [this] at hpos; simp at hpos
        rw [HF.out, if_neg hne, hS.count HV.out])
      clear hS htr hL1
      go_wp2_with fail
      go_ret2
      exact ⟨by rw [HF0.out]; first | done | rfl, HB.out.trans (hb1.mono HB.out.size)⟩
  · have HF : Hid (R.countE deg l = (0, R.checkLog deg l)) := Lib.hid (by unfold R.countE; rw [if_pos hc])
    have hc' : (R.checkLog deg l != 0) = true := by rw [bne_iff_ne]; exact hc
    have HC := Lib.hid hc
    clear hc
    go_enter Try.func31, Try.ntmps31
    go_wp2_with fail
    refine (tracked_err a cap deg l _ hl HA.out HC.out).mono ?_
    rintro e w1 ⟨rfl, hb1⟩
    go_wp2_with fail
    go_ret2
    exact ⟨by rw [HF.out]; first | done | rfl, HB.out.trans (hb1.mono HB.out.size)⟩
set_option maxRecDepth 100000 in
set_option maxHeartbeats 1000000 in
theorem cPath_any (a : Option Addr) (cap : Nat) (deg : Int) (l : List (Int × Int)) (w : World) (hl : l.length ≤ 1000000) (ha : Sigs w a l) :
    Calls Try.prog 35 #[.agg #[.int .i64 deg, .slice a l.length cap]] w fun e w' => ∃ v p, e = .returned (.tuple #[v, .int .i64 (R.mostE deg l).2]) ∧ w'.ownsRow w.heap.size 2 1 v p.length (p.map (.int .i64)) ∧ C.BestOne deg l p ∧ Below w.heap.size w w' := by
  have hb0 := Below.new w (.cells #[.int .i64 deg, .slice a l.length cap] 33)
  have HB := Lib.hid hb0
  have HA := Lib.hid (ha.below hb0)
  clear ha hb0
  by_cases hc : R.checkLog deg l = 0
  · have hv := R.checkLog_zero hc
    obtain ⟨d, rfl⟩ := hv.nat
    have HV := Lib.hid hv
    have HF : Hid (R.mostE (d : Int) l = if R.most (d : Int) l = 0 then ((0 : Int), (23 : Int)) else (((R.most (d : Int) l : Nat) : Int), 0)) := Lib.hid (by unfold R.mostE; rw [if_neg (not_not_intro hc)])
    clear hv hc
    go_enter Try.func35, Try.ntmps35
    go_wp2_with fail
    refine (tracked_ok a cap d l _ HA.out HV.out).mono ?_
    rintro e w1 ⟨hb1, qs, hS, (⟨hq, rfl⟩ | ⟨hpos, B, a2, cap2, rfl, hL1, htr⟩)⟩
    · have HF0 : Hid (R.mostE (d : Int) l = (0, 23)) := Lib.hid (by rw [HF.out, if_pos ((hS.nil HV.out).1 hq)])
      have HBO := Lib.hid (show C.BestOne (d : Int) l [] from .inl ⟨by rw [HF0.out]; decide, rfl⟩)
      clear hq hS
      go_wp2_with fail
      go_ret2
      exact ⟨_, [], by rw [HF0.out]; first | done | rfl, World.ownsRow_nil _ _ _ _, HBO.out, HB.out.trans (hb1.mono HB.out.size)⟩
    · have hq0 : C.row qs 0 ∈ qs := by simp [C.row, hpos]
      have hf := hS.found _ hq0
      have hp := hf.props HV.out
      have hd3 := HV.out.d3
      have hm := hS.most _ hq0
      have HF0 : Hid (R.mostE (d : Int) l = (((C.onL l (C.row qs 0) : Nat) : Int), 0)) := Lib.hid (by
        have hpos2 := hf.pos HV.out
        rw [HF.out, if_neg (by omega), hm])
      have HBO := Lib.hid (show C.BestOne (d : Int) l (C.row qs 0) from .inr ⟨by rw [HF0.out], d, rfl, hf, hm⟩)
      obtain ⟨b2, off2, rfl, hc4⟩ := htr 0 hpos
      have HCall := Lib.hid (cnumbers_any B d a cap l (C.row qs 0) w1 hL1 (by omega) hp.1)
      have HB1 := Lib.hid (HB.out.trans (hb1.mono HB.out.size))
      have q0 := hc4 0 (by omega)
      have q1 := hc4 1 (by omega)
      have q2 := hc4 2 (by omega)
      have q3 := hc4 3 (by omega)
      simp only [Nat.zero_mul, Nat.add_zero] at q0 q1 q2 q3
      have hposI : (0 : Int) < ↑qs.length := by omega
      unfold trackV at HCall
      have hsz := HB1.out.size
      clear hS hq0 hf hp hm htr hc4 hL1 hb1
      go_wp2_with fail
      refine HCall.out.mono ?_
      rintro e w2 ⟨v, rfl, hown, hb2⟩
      go_wp2_with fail
      go_ret2
      exact ⟨_, C.row qs 0, by rw [HF0.out]; first | done | rfl, owns_mono hown hsz, HBO.out, HB1.out.trans (hb2.mono hsz)⟩
  · have HF : Hid (R.mostE deg l = (0, R.checkLog deg l)) := Lib.hid (by unfold R.mostE; rw [if_pos hc])
    have hc' : (R.checkLog deg l != 0) = true := by rw [bne_iff_ne]; exact hc
    have HC := Lib.hid hc
    clear hc
    go_enter Try.func35, Try.ntmps35
    go_wp2_with fail
    refine (tracked_err a cap deg l _ hl HA.out HC.out).mono ?_
    rintro e w1 ⟨rfl, hb1⟩
    go_wp2_with fail
    go_ret2
    exact ⟨_, [], by rw [HF.out]; first | done | rfl, World.ownsRow_nil _ _ _ _, .inl ⟨by rw [HF.out]; exact HC.out, rfl⟩, HB.out.trans (hb1.mono HB.out.size)⟩
end Go.Proofs.Ytkcgkfhfogdihaa
/- Walks of the program's Through and CheckPath. -/
namespace Go.Proofs.Ytkcgkfhfogdihaa
open Go.RowKit
namespace C
/-- The least number that the next sighting may have. -/
def nx (ss : List Int) (j : Nat) : Int := if j = 0 then 0 else nth ss (j - 1) + 1
theorem nx_succ (ss : List Int) (j : Nat) : nx ss (j + 1) = nth ss j + 1 := by unfold nx; rw [if_neg (by omega)]; simp
/-- The first j sightings of a list are right. -/
def OrdTo (n : Nat) (ss : List Int) (j : Nat) : Prop := ∀ i, i < j → 0 ≤ nth ss i ∧ nth ss i < n ∧ (0 < i → nth ss (i - 1) < nth ss i)
theorem OrdTo.step {n : Nat} {ss : List Int} {j : Nat} (h : OrdTo n ss j) (h1 : nx ss j ≤ nth ss j) (h2 : nth ss j < n) : OrdTo n ss (j + 1) := fun i hi => by
  by_cases e : i = j
  · subst e
    unfold nx at h1
    by_cases h0 : i = 0
    · subst h0; rw [if_pos rfl] at h1; exact ⟨h1, h2, fun h => by omega⟩
    · rw [if_neg h0] at h1
      have := (h (i - 1) (by omega)).1
      exact ⟨by omega, h2, fun _ => by omega⟩
  · exact h i (by omega)
theorem not_ord {n : Nat} {ss : List Int} {j : Nat} (hj : j < ss.length) (h : nth ss j < nx ss j ∨ (n : Int) ≤ nth ss j) : ¬ R.Ord n ss := fun ho => by
  have := ho j hj
  unfold nx at h
  split at h
  · omega
  · have := this.2.2 (by omega); omega
end C
set_option maxRecDepth 100000 in
set_option maxHeartbeats 2000000 in
theorem cThrough_any (a : Option Addr) (cap : Nat) (deg : Int) (l : List (Int × Int)) (b : Option Addr) (cap2 : Nat) (ss : List Int) (w : World) (hl : l.length ≤ 1000000) (hs : ss.length ≤ 1000000) (ha : Sigs w a l) (hb : Ints .i64 w b ss) :
    Calls Try.prog 23 #[.agg #[.int .i64 deg, .slice a l.length cap], .slice b ss.length cap2] w fun e w' => ∃ v, e = .returned (.tuple #[v, .int .i64 (R.through deg l ss).2]) ∧ w'.ownsRow w.heap.size 2 1 v (R.through deg l ss).1.length ((R.through deg l ss).1.map (.int .i64)) ∧ Below w.heap.size w w' := by
  have hb0 := Below.new w (.cells #[.int .i64 deg, .slice a l.length cap] 33)
  have HLb := Lib.hid (Logged.new ha deg cap 33)
  have HA := Lib.hid (ha.below hb0)
  have HS := Lib.hid (hb.below hb0)
  have HB := Lib.hid hb0
  clear ha hb hb0
  by_cases hc : R.checkLog deg l = 0
  · have hv := R.checkLog_zero hc
    obtain ⟨d, rfl⟩ := hv.nat
    have HV := Lib.hid hv
    have HCk := Lib.hid hc
    have h12 := hv.len
    have hd3 := hv.d3
    clear hv hc
    have HOp := Lib.hid (open_ok a cap (d : Int) l _ hl HA.out HCk.out)
    go_enter Try.func23, Try.ntmps23
    go_wp2_with fail
    refine HOp.out.mono ?_
    rintro e w1 ⟨B, rfl, hL1, hb1⟩
    have HL1 := Lib.hid hL1
    have HLb1 := Lib.hid (HLb.out.on hb1)
    have HS1 := Lib.hid (HS.out.below hb1)
    have HB1 := Lib.hid (HB.out.trans (hb1.mono HB.out.size))
    have hx1 := HLb1.out.x1
    clear hL1 hb1
    have k1 : IntKind.i64.wrap ((d : Int) + 1) = (d : Int) + 1 := IntWalk.i64_in _ (by omega)
    by_cases hq : ss.length = d + 1
    · have hq' : ((ss.length : Int) != (d : Int) + 1) = false := by simp [hq]
      have HQ := Lib.hid hq
      have hs4 : ss.length ≤ 4 := by omega
      have hs1 : 1 ≤ ss.length := by omega
      clear hq
      have HF : Hid (R.through (d : Int) l ss = if ¬ R.Ord l.length ss then (([], 2) : List Int × Int) else match R.pass (R.sel l ss) with | none => (([], 23) : List Int × Int) | some p => (p, 0)) := Lib.hid (by
        unfold R.through; rw [if_neg (not_not_intro HCk.out), if_neg (by have := HQ.out; omega)]; rfl)
      go_wp2_with fail
      clear hx1
      go_loopw [8, 31] (fun n i wi => ∃ j : Nat, j ≤ ss.length ∧ i = .int .i64 j ∧ n = .int .i64 (C.nx ss j) ∧ Hid (C.OrdTo l.length ss j) ∧ wi = w1) (fun _ i _ => ss.length - (intOf i).toNat)
      case atStart => exact ⟨0, Nat.zero_le _, rfl, rfl, Lib.hid (fun i h => by omega), rfl⟩
      case round =>
        obtain ⟨j, hj, rfl, rfl, HO, rfl⟩ := hrel
        by_cases hlt : j < ss.length
        · obtain ⟨bb, off, rfl, hcj⟩ := HS1.out j hlt
          have hltI : (j : Int) < ↑ss.length := by omega
          have hx2 := HLb1.out.x2
          have HNx := Lib.hid (C.nx_succ ss j)
          have hN : ∃ x, Hid (nth ss j = x) := ⟨_, rfl⟩
          obtain ⟨x, HX⟩ := hN
          have hN : ∃ n, Hid (C.nx ss j = n) := ⟨_, rfl⟩
          obtain ⟨n, HN⟩ := hN
          rw [HX.out] at hcj
          rw [HN.out]
          by_cases h1 : x < n
          · have HFe : Hid (R.through (d : Int) l ss = ([], 2)) := Lib.hid (by rw [HF.out, if_pos (C.not_ord hlt (.inl (by rw [HX.out, HN.out]; exact h1)))])
            go_wp2_with fail
            go_ret2
            exact ⟨_, by rw [HFe.out]; first | done | rfl, by rw [HFe.out]; exact World.ownsRow_nil _ _ _ _, HB1.out⟩
          · by_cases h2 : (l.length : Int) ≤ x
            · have HFe : Hid (R.through (d : Int) l ss = ([], 2)) := Lib.hid (by rw [HF.out, if_pos (C.not_ord hlt (.inr (by rw [HX.out]; exact h2)))])
              have h1' : n ≤ x := by omega
              clear h1
              go_wp2_with fail
              go_ret2
              exact ⟨_, by rw [HFe.out]; first | done | rfl, by rw [HFe.out]; exact World.ownsRow_nil _ _ _ _, HB1.out⟩
            · have HO1 := Lib.hid (HO.out.step (by rw [HX.out, HN.out]; omega) (by rw [HX.out]; omega))
              have hx0 : 0 ≤ x := by have := (HO1.out j (by omega)).1; rw [HX.out] at this; exact this
              have h1' : n ≤ x := by omega
              have h2' : x < ↑l.length := by omega
              have k2 : IntKind.i64.wrap (x + 1) = x + 1 := IntWalk.i64_in _ (by omega)
              clear h1 h2
              go_wp2_with fail
              go_roundw
              case rel => exact ⟨j + 1, by omega, by go_num, by rw [HNx.out, HX.out], Lib.hid HO1.out, by first | trivial | rfl⟩
              case measure => simp [intOf]; omega
        · have hO : R.Ord l.length ss := fun i hi => HO.out i (by omega)
          have hP := R.sel_piece HV.out.fit HV.out.inc hO hs4
          have hth := through_any B (d : Int) a cap l b cap2 ss wr HL1.out HV.out HS1.out hO hs1 hs4
          rw [C.out_pass hP] at hth
          have hF2 : R.through (d : Int) l ss = match R.pass (R.sel l ss) with | none => (([], 23) : List Int × Int) | some p => (p, 0) := by rw [HF.out, if_neg (not_not_intro hO)]
          cases hp : R.pass (R.sel l ss) with
          | none =>
            rw [hp] at hth hF2
            have HF2 : Hid (R.through (d : Int) l ss = ([], 23)) := Lib.hid hF2
            have HTh : Hid (Calls Try.prog 59 #[.pointer (some ⟨B, 0, none⟩), .slice b ss.length cap2] wr fun e w' => e = .returned (.tuple #[.agg #[.int .i64 0, .int .i64 0, .int .i64 0, .int .i64 0], .bool false]) ∧ Below wr.heap.size wr w') := Lib.hid hth
            have hs1' := HB1.out.size
            clear hth hF2 hp hO hP
            go_wp2_with fail
            refine HTh.out.mono ?_
            rintro e w2 ⟨rfl, hb2⟩
            go_wp2_with fail
            go_ret2
            exact ⟨_, by rw [HF2.out]; first | done | rfl, by rw [HF2.out]; exact World.ownsRow_nil _ _ _ _, (HB1.out.trans (hb2.mono hs1')).alloc (by have := hb2.size; omega) _⟩
          | some p =>
            rw [hp] at hth hF2
            have hpl : p.length = d + 1 := by rw [(hP.pass_some hp).1, ← HQ.out]; exact R.selTo_length _ _ _
            have HF2 : Hid (R.through (d : Int) l ss = (p, 0)) := Lib.hid hF2
            have HTh : Hid (Calls Try.prog 59 #[.pointer (some ⟨B, 0, none⟩), .slice b ss.length cap2] wr fun e w' => e = .returned (.tuple #[.agg #[.int .i64 (nth p 0), .int .i64 (nth p 1), .int .i64 (nth p 2), .int .i64 (nth p 3)], .bool true]) ∧ Below wr.heap.size wr w') := Lib.hid hth
            have HNum := Lib.hid (fun W hW => cnumbers_any B d a cap l p W hW (by omega) hpl)
            unfold trackV at HNum
            have hs1' := HB1.out.size
            clear hth hF2 hp hO hP hpl
            go_wp2_with fail
            refine HTh.out.mono ?_
            rintro e w2 ⟨rfl, hb2⟩
            have hb3 := hb2.alloc hb2.size (.cells #[.int .i64 (nth p 0), .int .i64 (nth p 1), .int .i64 (nth p 2), .int .i64 (nth p 3)] 76)
            have HL3 := Lib.hid (HL1.out.on hb3)
            have HB3 := Lib.hid (HB1.out.trans (hb3.mono hs1'))
            clear hb2 hb3
            go_wp2_with fail
            refine (HNum.out _ HL3.out).mono ?_
            rintro e w3 ⟨v, rfl, hown, hb4⟩
            go_wp2_with fail
            go_ret2
            exact ⟨_, by rw [HF2.out]; first | done | rfl, by rw [HF2.out]; exact owns_mono hown HB3.out.size, HB3.out.trans (hb4.mono HB3.out.size)⟩
    · have hq' : ((ss.length : Int) != (d : Int) + 1) = true := by rw [bne_iff_ne]; omega
      have HF : Hid (R.through (d : Int) l ss = ([], 15)) := Lib.hid (by unfold R.through; rw [if_neg (not_not_intro HCk.out), if_pos (by omega)])
      clear hq
      go_wp2_with fail
      go_ret2
      exact ⟨_, by rw [HF.out]; first | done | rfl, by rw [HF.out]; exact World.ownsRow_nil _ _ _ _, HB1.out⟩
  · have HF : Hid (R.through deg l ss = ([], R.checkLog deg l)) := Lib.hid (by unfold R.through; rw [if_pos hc])
    have hc' : (R.checkLog deg l != 0) = true := by rw [bne_iff_ne]; exact hc
    have HOp := Lib.hid (open_err a cap deg l _ hl HA.out hc)
    clear hc
    go_enter Try.func23, Try.ntmps23
    go_wp2_with fail
    refine HOp.out.mono ?_
    rintro e w1 ⟨rfl, hb1⟩
    go_wp2_with fail
    go_ret2
    exact ⟨_, by rw [HF.out]; first | done | rfl, by rw [HF.out]; exact World.ownsRow_nil _ _ _ _, HB.out.trans (hb1.mono HB.out.size)⟩
end Go.Proofs.Ytkcgkfhfogdihaa
