/- One text of ComQ, ComR. -/
import Derived.Test.YtcjbnifafofpbaaGreatDoorJ17
import Derived.Deep.MidRow
import Derived.Laws.CopyOwn
/- Walks of the program's functions: CheckApart, Apart. -/
namespace Go.Proofs.YtcjbnifafofpbaaGreatDoor
open Go.RowKit Go.Lib Go.Sort
theorem eqItems_ints (d : Nat) (w : World) (xs ys : List Int) (hx : xs.length = 26) (hy : ys.length = 26) : ∀ (is : List Nat), (∀ i ∈ is, i < 26) →
    ∃ r : Bool, (Op.eqItems (d + 1) 3 1 (xs.map (Value.int .i64)).toArray (ys.map (Value.int .i64)).toArray is).run Tryz.prog w = .ok r w ∧ (r = true ↔ ∀ i ∈ is, nth xs i = nth ys i)
  | [], _ => ⟨true, by simp [Op.eqItems], by simp⟩
  | i :: is, h => by
    obtain ⟨r, hr, hi⟩ := eqItems_ints d w xs ys hx hy is (fun j hj => h j (List.mem_cons_of_mem _ hj))
    have hlt := h i (by simp)
    have pk : Tryz.prog.plainKey 3 = true := by kernel_rfl
    have p1 : (Go.part 3 (xs.map (Value.int .i64)).toArray (i * 1)).run Tryz.prog w = .ok (.int .i64 (nth xs i)) w := run_part_plain w pk (by
      rw [Nat.mul_one]; simp [nth, show i < xs.length by omega])
    have p2 : (Go.part 3 (ys.map (Value.int .i64)).toArray (i * 1)).run Tryz.prog w = .ok (.int .i64 (nth ys i)) w := run_part_plain w pk (by
      rw [Nat.mul_one]; simp [nth, show i < ys.length by omega])
    have p3 : (Op.equalIn (d + 1) 3 (.int .i64 (nth xs i)) (.int .i64 (nth ys i))).run Tryz.prog w = .ok (nth xs i == nth ys i) w := run_equalIn_int w d 3 .i64 .i64 _ _ Tryz.underlying3
    by_cases he : nth xs i = nth ys i
    · refine ⟨r, ?_, ?_⟩
      · have e : (nth xs i == nth ys i) = true := by rw [he]; exact beq_self_eq_true _
        rw [e] at p3
        simp only [Op.eqItems, Sem.run_bind, p1, p2, p3, Result.andThen_ok, Bool.not_true, Bool.false_eq_true, if_false]
        exact hr
      · rw [hi]; simp [he]
    · refine ⟨false, ?_, by simp [he]⟩
      have e : (nth xs i == nth ys i) = false := by rw [beq_eq_false_iff_ne]; exact he
      rw [e] at p3
      simp only [Op.eqItems, Sem.run_bind, p1, p2, p3, Result.andThen_ok, Bool.not_false, if_true, Sem.run_pure]
theorem eql_ints (cs : List Int) (hc : cs.length = 26) : ∃ r : Bool, (∀ w, (Op.equalIn 10000 89 (.agg (cs.map (Value.int .i64)).toArray) (.agg #[.int .i64 0, .int .i64 0, .int .i64 0, .int .i64 0, .int .i64 0, .int .i64 0, .int .i64 0, .int .i64 0, .int .i64 0, .int .i64 0, .int .i64 0, .int .i64 0, .int .i64 0, .int .i64 0, .int .i64 0, .int .i64 0, .int .i64 0, .int .i64 0, .int .i64 0, .int .i64 0, .int .i64 0, .int .i64 0, .int .i64 0, .int .i64 0, .int .i64 0, .int .i64 0])).run Tryz.prog w = .ok r w) ∧ (r = true ↔ ∀ i, i < 26 → nth cs i = 0) := by
  have e : (#[.int .i64 0, .int .i64 0, .int .i64 0, .int .i64 0, .int .i64 0, .int .i64 0, .int .i64 0, .int .i64 0, .int .i64 0, .int .i64 0, .int .i64 0, .int .i64 0, .int .i64 0, .int .i64 0, .int .i64 0, .int .i64 0, .int .i64 0, .int .i64 0, .int .i64 0, .int .i64 0, .int .i64 0, .int .i64 0, .int .i64 0, .int .i64 0, .int .i64 0, .int .i64 0] : Array Value) = ((List.replicate 26 (0 : Int)).map (Value.int .i64)).toArray := rfl
  obtain ⟨i0, hi, -⟩ := info_parts T56.hi
  have hc3 : Tryz.prog.cellsOf 3 = 1 := by kernel_rfl
  refine ⟨(List.range 26).all (fun i => decide (nth cs i = 0)), fun w => ?_, by simp only [List.all_eq_true, List.mem_range, decide_eq_true_iff]⟩
  rw [e, run_equalIn_array w 9999 _ _ Tryz.underlying89 hi, hc3]
  obtain ⟨r, h1, h2⟩ := eqItems_ints 9998 w cs (List.replicate 26 0) hc rfl (List.range 26) (fun i hi => List.mem_range.1 hi)
  rw [h1]
  have e2 : r = (List.range 26).all (fun i => decide (nth cs i = 0)) := by
    rw [Bool.eq_iff_iff, h2]
    simp only [List.all_eq_true, List.mem_range, decide_eq_true_iff]
    constructor
    · intro h i hi; have := h i hi; rw [nth_zeros hi] at this; exact this
    · intro h i hi; rw [nth_zeros hi]; exact h i hi
  rw [e2]
set_option maxRecDepth 20000 in
set_option maxHeartbeats 4000000 in
theorem apartM_any (a : Option Addr) (cap : Nat) (l : List X.W) (w : World) (hl : l.length ≤ 1000000) (hrl : Rooms l) (ha : Strs w a l) :
    Calls Tryz.prog 37 #[.slice a l.length cap] w fun e w' => OutSE w w' e (X.apartE l) := by
  by_cases h : openE l [] = 0
  case neg =>
    have HO := Lib.hid (open_err a cap l none 0 [] w hl (by simp) hrl (fun _ h => by cases h) ha (Strs.nil _ _) h)
    have HE : Hid (X.apartE l = ([], openE l [])) := Lib.hid (by
      have e : openE l [] = X.listE l := by
        unfold openE
        split
        · rfl
        · rename_i h0; rw [Classical.not_not.1 h0]; rfl
      unfold X.apartE
      rw [e] at h ⊢
      rw [if_pos h])
    have hn := ne_bool h
    generalize openE l [] = q at *
    clear h ha
    go_enter Tryz.func37, Tryz.ntmps37
    go_wp2_with fail
    refine HO.out.mono ?_
    rintro e w1 ⟨rfl, hb1⟩
    go_wp2_with fail
    go_ret2
    rw [HE.out]
    exact ⟨none, 0, rfl, Strs.nil _ _, by simp, hb1⟩
  have HO := Lib.hid (open_ok a cap l none 0 [] w (by simp) (fun _ h => by cases h) ha (Strs.nil _ _) h)
  have hL := (openE_iff.1 h).1
  have HE : Hid (X.apartE l = if l = [] then ([], 0) else (X.tops l, 0)) := Lib.hid (by
    unfold X.apartE
    rw [if_neg (not_not_intro (X.listE_iff.2 hL))])
  have htl : (X.tops l).length ≤ 301 := by rw [X.tops_len hL]; exact X.scan_len hL
  have htp := X.tops_pos hL
  clear h ha hL
  go_enter Tryz.func37, Tryz.ntmps37
  go_wp2_with fail
  refine HO.out.mono ?_
  rintro e w1 ⟨B, rfl, hB, ⟨cs, n, a2, c2, hC, hn1, hn2, hcel, hst⟩, hb1⟩
  have HB1 := Lib.hid hb1
  obtain ⟨r, hr, hri⟩ := eql_ints cs hC.len
  have HRa : Hid (w1.rangeAt B 1 (cs.map (.int .i64))) := Lib.hid (fun j v hj => by
    have hj' : j < cs.length := by have := (List.getElem?_eq_some_iff.1 hj).1; simpa using this
    refine hcel.cel (1 + j) v ?_
    rw [show 1 + j = j + 1 by omega, List.getElem?_cons_succ, List.getElem?_append_left (by simpa using hj')]
    exact hj)
  have c27 : w1.cell? ⟨B, 27, none⟩ = some (.slice a2 (X.tops l).length c2) := hcel.cel 27 _ (by
    rw [show 27 = 26 + 1 by rfl, List.getElem?_cons_succ, List.getElem?_append_right (by simp [hC.len])]
    simp [hC.len])
  have hi89 : (Tryz.prog.info? 89).map (·.size) = some (cs.map (Value.int .i64)).length := by rw [List.length_map, hC.len]; kernel_rfl
  have HSt := Lib.hid hst
  have HC27 := Lib.hid c27
  have hrz : r = true ↔ l = [] := by
    rw [hri]
    constructor
    · intro h
      by_cases h0 : 0 < l.length
      · obtain ⟨i, h1, h2⟩ := hC.pos (hn1 h0)
        rw [h i h1] at h2; exact absurd h2 (by omega)
      · exact List.eq_nil_of_length_eq_zero (by omega)
    · rintro rfl i hi
      have := hC.bd i hi
      have h3 : n = 0 := by simpa using hn2
      omega
  have HRz := Lib.hid hrz
  generalize hX : (cs.map (Value.int .i64)).toArray = X at *
  have HLd : Hid (X = (cs.map (Value.int .i64)).toArray) := Lib.hid hX.symm
  have hTE : Hid (l ≠ [] → _root_.X.apartE l = (_root_.X.tops l, 0)) := Lib.hid (fun h => by rw [HE.out, if_neg h])
  clear hX hcel hst hb1 hC hn1 hn2 hri hrz
  cases r with
  | true =>
    have HE2 : Hid (_root_.X.apartE l = ([], 0)) := Lib.hid (by rw [HE.out, if_pos (HRz.out.1 rfl)])
    clear c27
    go_wp2_with (first | (refine wpList_load_mid rfl 89 (.tmp 17) rfl B 1 rfl (cs.map (.int .i64)) _ HRa.out Tryz.underlying89 rfl hi89 ?_; rw [← HLd.out]))
    go_ret2
    rw [HE2.out]
    exact ⟨none, 0, rfl, Strs.nil _ _, by simp, HB1.out⟩
  | false =>
    have HE2 : Hid (_root_.X.apartE l = (_root_.X.tops l, 0)) := Lib.hid (hTE.out (fun e => by have := HRz.out.2 e; cases this))
    generalize _root_.X.tops l = T at *
    obtain ⟨i0, hi, hz0, hz1, hz2⟩ := info_parts T22.hi
    have hby : i0.bytes * T.length ≤ 281474976710656 := by rw [hz2]; omega
    have h63 : T.length ≤ 9223372036854775807 := by omega
    have HIi : Hid (Tryz.prog.info? 9 = some i0 ∧ i0.zero = some (.string ByteArray.empty) ∧ i0.size = 1) := Lib.hid ⟨hi, hz0, hz1⟩
    have hG3 : (w1.alloc (.cells (madeCells #[.string ByteArray.empty] T.length) 9)).heap[w1.heap.size]? = some (.cells (madeCells #[.string ByteArray.empty] T.length).toList.toArray 9 (0, 0)) := by
      rw [Array.toArray_toList]; exact World.alloc_heap_new w1 _
    have HG3 := Lib.hid hG3
    have hszl : (madeCells #[Value.string ByteArray.empty] T.length).toList.length = T.length := by simp [madeCells]
    have HMin : Hid ((T.map sv).length = Nat.min T.length T.length) := Lib.hid (by rw [List.length_map]; exact (Nat.min_self _).symm)
    have HFit : Hid (0 + (T.map sv).length ≤ (madeCells #[Value.string ByteArray.empty] T.length).toList.length) := Lib.hid (by rw [List.length_map, hszl]; omega)
    have HS4 := Lib.hid (HSt.out.alloc (.cells (madeCells #[.string ByteArray.empty] T.length) 9))
    have HPos : Hid (0 < (T.map sv).length → ∃ ad, a2 = some ad ∧ ∀ j v, (T.map sv)[j]? = some v → (w1.alloc (.cells (madeCells #[.string ByteArray.empty] T.length) 9)).cell? (ad.add j) = some v) := Lib.hid (fun h => by
      obtain ⟨b0, off, rfl, -⟩ := HS4.out 0 (by omega)
      refine ⟨_, rfl, fun j v hj => ?_⟩
      have hj' : j < T.length := by have := (List.getElem?_eq_some_iff.1 hj).1; simpa using this
      rw [addr_add, HS4.out.cellAt j hj']
      rw [List.getElem?_map, List.getElem?_eq_getElem hj'] at hj
      rw [← hj, wat_eq T j hj']; rfl)
    have HOne : Hid (∀ v ∈ T.map sv, v.oneCell' = true) := Lib.hid (fun v hv => by obtain ⟨x, -, rfl⟩ := List.mem_map.1 hv; rfl)
    have HSp : Hid (splice (madeCells #[Value.string ByteArray.empty] T.length).toList 0 (T.map sv) = T.map sv) := Lib.hid (by
      unfold splice
      rw [List.take_zero, List.nil_append, List.drop_eq_nil_of_le (by rw [hszl, List.length_map]; omega), List.append_nil])
    have c28 := cell_on (Below.new w1 (.cells (madeCells #[.string ByteArray.empty] T.length) 9)) c27
    have HB3 := Lib.hid (HB1.out.trans ((Below.new w1 (.cells (madeCells #[.string ByteArray.empty] T.length) 9)).mono HB1.out.size))
    have HBz := HB1.out.size
    clear hi hz0 hz1 hz2 hG3 hszl HS4
    generalize hZ : (madeCells #[Value.string ByteArray.empty] T.length).toList = Z at *
    go_wp2_with (first | (refine wpList_load_mid rfl 89 (.tmp 17) rfl B 1 rfl (cs.map (.int .i64)) _ HRa.out Tryz.underlying89 rfl hi89 ?_; rw [← HLd.out]) | (at_make; refine wpList_make_row _ rfl _ _ 22 rfl 9 i0 (.string ByteArray.empty) Tryz.underlying22 HIi.out.1 HIi.out.2.1 HIi.out.2.2 rfl _ _ T.length rfl rfl hby h63 ?_) | (refine wpList_copy_splice rfl (.tmp 27) (.tmp 31) 22 22 rfl 9 Tryz.underlying22 (by kernel_rfl) (some ⟨w1.heap.size, 0, none⟩) a2 T.length T.length T.length c2 rfl rfl w1.heap.size 0 Z 9 HG3.out (T.map sv) HMin.out (fun h => ⟨rfl, HPos.out h⟩) HFit.out HOne.out w.heap.size w HB3.out HBz ?_; intro w4 hg4 hb4))
    go_ret2
    have hg5 := hg4.out
    rw [HSp.out] at hg5
    rw [HE2.out]
    refine ⟨some ⟨w1.heap.size, 0, none⟩, T.length, rfl, fun j hj => ⟨w1.heap.size, 0, rfl, ?_⟩, ⟨Nat.le_refl _, fun h => by cases h⟩, hb4⟩
    have hj' : j < T.length := hj
    simp [World.cell?, hg5, wat, hj']
end Go.Proofs.YtcjbnifafofpbaaGreatDoor
/- Walks of the program's functions: CheckApart. -/
namespace Go.Proofs.YtcjbnifafofpbaaGreatDoor
open Go.RowKit Go.Lib Go.Sort
/-- The forms of the words so far. -/
def formsTo (l ws : List X.W) (j : Nat) : List X.W := (ws.take j).map (fun v => X.cat (X.ends l v))
theorem formsTo_succ {l ws : List X.W} {j : Nat} (h : j < ws.length) : formsTo l ws (j + 1) = formsTo l ws j ++ [X.cat (X.ends l (wat ws j))] := by
  unfold formsTo; rw [take_succ_wat ws j h, List.map_append]; rfl
theorem formsTo_len (l ws : List X.W) (j : Nat) : (formsTo l ws j).length ≤ ws.length := by unfold formsTo; rw [List.length_map, List.length_take]; omega
def tellsAt (l ws : List X.W) (j : Nat) : Bool := X.tellsB l (ws.drop j) ((ws.take j).map (X.ends l))
theorem tellsAt_step {l ws : List X.W} {j : Nat} (h : j < ws.length) : tellsAt l ws j = if ((X.ends l (wat ws j)).isEmpty || ((ws.take j).map (X.ends l)).contains (X.ends l (wat ws j))) = true then false else tellsAt l ws (j + 1) := by
  have e1 : ws.drop j = wat ws j :: ws.drop (j + 1) := by rw [List.drop_eq_getElem_cons h, wat_eq ws j h]
  have e2 : (ws.take (j + 1)).map (X.ends l) = (ws.take j).map (X.ends l) ++ [X.ends l (wat ws j)] := by rw [take_succ_wat ws j h, List.map_append]; rfl
  show X.tellsB l (ws.drop j) _ = if _ then false else X.tellsB l (ws.drop (j + 1)) ((ws.take (j + 1)).map (X.ends l))
  rw [e1, e2]
  rfl
theorem tells_none {l ws : List X.W} {j : Nat} (h : j < ws.length) (he : X.ends l (wat ws j) = []) : tellsAt l ws j = false := by
  rw [tellsAt_step h, he]; simp
theorem tells_seen {l ws : List X.W} (hl : ∀ s ∈ l, X.letters s = true) {j : Nat} (h : j < ws.length) (he : X.cat (X.ends l (wat ws j)) ∈ formsTo l ws j) : tellsAt l ws j = false := by
  rw [tellsAt_step h, if_pos]
  obtain ⟨v, hv, e⟩ := List.mem_map.1 he
  rw [X.cat_ends hl] at e
  rw [Bool.or_eq_true]
  exact .inr (List.contains_iff_mem.2 (List.mem_map.2 ⟨v, hv, e⟩))
theorem tells_new {l ws : List X.W} (_hl : ∀ s ∈ l, X.letters s = true) {j : Nat} (h : j < ws.length) (h0 : X.ends l (wat ws j) ≠ []) (he : X.cat (X.ends l (wat ws j)) ∉ formsTo l ws j) : tellsAt l ws j = tellsAt l ws (j + 1) := by
  rw [tellsAt_step h, if_neg]
  rw [Bool.or_eq_true]
  rintro (h1 | h1)
  · exact h0 (List.isEmpty_iff.1 h1)
  · obtain ⟨v, hv, e⟩ := List.mem_map.1 (List.contains_iff_mem.1 h1)
    exact he (List.mem_map.2 ⟨v, hv, by rw [e]⟩)
theorem openE_nil (l : List X.W) : openE l [] = X.listE l := by
  unfold openE
  split
  · rfl
  · rename_i h0; rw [Classical.not_not.1 h0]; rfl
set_option maxRecDepth 20000 in
set_option maxHeartbeats 4000000 in
theorem checkApartM_any (a : Option Addr) (cap : Nat) (l : List X.W) (b : Option Addr) (cap2 : Nat) (ws : List X.W) (w : World) (hl : l.length ≤ 1000000) (hrl : Rooms l) (hw : ws.length ≤ 1000000) (hrw : Rooms ws) (ha : Strs w a l) (hb : Strs w b ws) :
    Calls Tryz.prog 35 #[.slice a l.length cap, .slice b ws.length cap2] w fun e w' => e = .returned (.tuple #[.int .i64 (X.checkApartE l ws).1, .int .i64 (X.checkApartE l ws).2]) ∧ RowKit.Below w.heap.size w w' := by
  by_cases h : openE l [] = 0
  case neg =>
    have HO := Lib.hid (open_err a cap l none 0 [] w hl (by simp) hrl (fun _ h => by cases h) ha (Strs.nil _ _) h)
    have HE : Hid (X.checkApartE l ws = (0, openE l [])) := Lib.hid (by
      rw [openE_nil] at h ⊢
      unfold X.checkApartE
      rw [if_pos h])
    have hn := ne_bool h
    generalize openE l [] = q at *
    clear h ha hb
    go_enter Tryz.func35, Tryz.ntmps35
    go_wp2_with fail
    refine HO.out.mono ?_
    rintro e w1 ⟨rfl, hb1⟩
    go_wp2_with fail
    go_ret2
    rw [HE.out]
    exact ⟨rfl, hb1⟩
  have HO := Lib.hid (open_ok a cap l none 0 [] w (by simp) (fun _ h => by cases h) ha (Strs.nil _ _) h)
  have hL := (openE_iff.1 h).1
  have HE : Hid (X.checkApartE l ws = if 301 < ws.length then (0, 6) else if X.wordsE ws ≠ 0 then (0, X.wordsE ws) else if tellsAt l ws 0 = true then ((ws.length : Int), 0) else (0, 25)) := Lib.hid (by
    unfold X.checkApartE
    rw [if_neg (not_not_intro (X.listE_iff.2 hL))]; rfl)
  have HWo := Lib.hid (fun W hd => checkWord_any b cap2 ws W hw hrw (hb.below hd))
  have HA := Lib.hid ha
  have HB := Lib.hid hb
  have HL := Lib.hid hL
  clear h ha hb hL
  by_cases hm : 301 < ws.length
  · have hmI : (301 : Int) < (ws.length : Int) := by omega
    have HF : Hid (X.checkApartE l ws = (0, 6)) := Lib.hid (by rw [HE.out, if_pos hm])
    go_enter Tryz.func35, Tryz.ntmps35
    go_wp2_with fail
    refine HO.out.mono ?_
    rintro e w1 ⟨B, rfl, -, -, hb1⟩
    go_wp2_with fail
    go_ret2
    rw [HF.out]
    exact ⟨rfl, hb1⟩
  have hmI : ¬ (301 : Int) < (ws.length : Int) := by omega
  by_cases hq : X.wordsE ws = 0
  case neg =>
    have HF : Hid (X.checkApartE l ws = (0, X.wordsE ws)) := Lib.hid (by rw [HE.out, if_neg hm, if_pos hq])
    have hn := ne_bool hq
    generalize X.wordsE ws = q at *
    clear hq
    go_enter Tryz.func35, Tryz.ntmps35
    go_wp2_with fail
    refine HO.out.mono ?_
    rintro e w1 ⟨B, rfl, -, -, hb1⟩
    have HB1 := Lib.hid hb1
    clear hb1
    go_wp2_with fail
    refine (HWo.out _ HB1.out).mono ?_
    rintro e w2 ⟨rfl, hb2⟩
    go_wp2_with fail
    go_ret2
    rw [HF.out]
    exact ⟨rfl, HB1.out.trans (hb2.mono HB1.out.size)⟩
  have HF : Hid (X.checkApartE l ws = if tellsAt l ws 0 = true then ((ws.length : Int), 0) else (0, 25)) := Lib.hid (by rw [HE.out, if_neg hm, if_neg (not_not_intro hq)])
  rw [hq] at HWo
  clear HE hq
  go_enter Tryz.func35, Tryz.ntmps35
  go_wp2_with fail
  refine HO.out.mono ?_
  rintro e w1 ⟨B, rfl, hB, ⟨cs, n, a2, c2, -, -, -, hcel, -⟩, hb1⟩
  have HB1 := Lib.hid hb1
  have h01 : w1.cell? ⟨B, 0, none⟩ = some (.slice a l.length cap) := hcel.cel 0 _ rfl
  clear hb1
  go_wp2_with fail
  refine (HWo.out _ HB1.out).mono ?_
  rintro e w2 ⟨rfl, hb2⟩
  have HB2 := Lib.hid (HB1.out.trans (hb2.mono HB1.out.size))
  have HC2 := Lib.hid (cell_on hb2 h01)
  clear hb2 hcel h01
  go_wp2_with fail
  go_loopw [9, 11, 12, 33] (fun o _ _ i wr => ∃ (j : Nat) (ad : Option Addr) (cp : Nat), j ≤ ws.length ∧ i = .int .i64 j ∧ o = .slice ad (formsTo l ws j).length cp ∧ Hid (ad = none → formsTo l ws j = [] ∧ cp = 0) ∧ (formsTo l ws j).length ≤ cp ∧ Hid (Strs wr ad (formsTo l ws j)) ∧ Hid (RowKit.Below w.heap.size w wr) ∧ Hid (tellsAt l ws 0 = tellsAt l ws j) ∧ Hid (wr.cell? ⟨B, 0, none⟩ = some (.slice a l.length cap))) (fun _ _ _ i _ => ws.length - (RowKit.intOf i).toNat)
  case atStart => exact ⟨0, none, 0, by omega, rfl, rfl, Lib.hid (fun _ => ⟨rfl, rfl⟩), by simp [formsTo], Lib.hid (Strs.nil _ _), HB2, Lib.hid rfl, HC2⟩
  case round =>
    clear HB2 HB1 HC2
    obtain ⟨j, ad, cp, hj, rfl, rfl, HAd, hcp, HS, HBb, HT, HC⟩ := hrel
    by_cases hlt : j < ws.length
    · have hltI : (j : Int) < (ws.length : Int) := by omega
      obtain ⟨b0, off, rfl, c1⟩ := (HB.out.below HBb.out) j hlt
      have hc0 := HC.out
      have HFo := Lib.hid (form_any a cap l (wat ws j) wr (by have := HL.out.many; omega) (fun s hs => by have := HL.out.long s hs; omega) (HA.out.below HBb.out))
      have HSu := Lib.hid (formsTo_succ (l := l) hlt)
      have hol : (formsTo l ws j).length ≤ 1000000 := Nat.le_trans (formsTo_len l ws j) hw
      by_cases he : X.ends l (wat ws j) = []
      · have HN := Lib.hid (tells_none hlt he)
        rw [he] at HFo
        generalize wat ws j = y at *
        clear he
        go_wp2_with fail
        refine HFo.out.mono ?_
        rintro e w3 ⟨rfl, hb3⟩
        go_wp2_with fail
        go_ret2
        rw [HF.out, HT.out, HN.out]
        exact ⟨rfl, HBb.out.trans (hb3.mono HBb.out.size)⟩
      · have HNe := Lib.hid he
        have hne : X.cat (X.ends l (wat ws j)) ≠ [] := fun e => he (X.cat_nil.1 e)
        have he0 : (X.cat (X.ends l (wat ws j))).isEmpty = false := by
          cases hc : X.cat (X.ends l (wat ws j)) with
          | nil => exact absurd hc hne
          | cons x r => rfl
        have he1 : (X.cat (X.ends l (wat ws j)) == []) = false := by rw [beq_eq_false_iff_ne]; exact hne
        by_cases hs : X.cat (X.ends l (wat ws j)) ∈ formsTo l ws j
        · have HN := Lib.hid (tells_seen HL.out.lett hlt hs)
          have hsd : decide (X.cat (X.ends l (wat ws j)) ∈ formsTo l ws j) = true := decide_eq_true hs
          have HCn := Lib.hid (fun W hd => contains_any ad cp (formsTo l ws j) (X.cat (X.ends l (wat ws j))) W hol (HS.out.below hd))
          rw [hsd] at HCn
          generalize X.cat (X.ends l (wat ws j)) = F at *
          generalize formsTo l ws j = O at *
          generalize wat ws j = y at *
          clear he hs hsd hne HSu HNe
          go_wp2_with fail
          refine HFo.out.mono ?_
          rintro e w3 ⟨rfl, hb3⟩
          have HB3 := Lib.hid hb3
          clear hb3
          go_wp2_with fail
          refine (HCn.out _ HB3.out).mono ?_
          rintro e w4 ⟨rfl, rfl⟩
          go_wp2_with fail
          go_ret2
          rw [HF.out, HT.out, HN.out]
          exact ⟨rfl, HBb.out.trans (HB3.out.mono HBb.out.size)⟩
        · have HN : Hid (tellsAt l ws 0 = tellsAt l ws (j + 1)) := Lib.hid (by rw [HT.out]; exact tells_new HL.out.lett hlt he hs)
          have hsd : decide (X.cat (X.ends l (wat ws j)) ∈ formsTo l ws j) = false := decide_eq_false hs
          have HCn := Lib.hid (fun W hd => contains_any ad cp (formsTo l ws j) (X.cat (X.ends l (wat ws j))) W hol (HS.out.below hd))
          rw [hsd] at HCn
          generalize hT : formsTo l ws (j + 1) = T at *
          generalize X.cat (X.ends l (wat ws j)) = F at *
          generalize formsTo l ws j = O at *
          generalize wat ws j = y at *
          clear he hs hsd hne HNe HT
          cases ad with
          | none =>
            obtain ⟨hO, rfl⟩ := HAd.out rfl
            subst hO
            go_wp2_with fail
            refine HFo.out.mono ?_
            rintro e w3 ⟨rfl, hb3⟩
            have HB3 := Lib.hid hb3
            have HC3 := Lib.hid (cell_on hb3 hc0)
            clear hb3
            go_wp2_with fail
            refine (HCn.out _ HB3.out).mono ?_
            rintro e w4 ⟨rfl, rfl⟩
            have HB4 := Lib.hid ((HBb.out.trans (HB3.out.mono HBb.out.size)).trans ((Below.new w3 (.cells #[sv F] 9)).mono (by have := HBb.out.size; have := HB3.out.size; omega)))
            have HC4 := Lib.hid (cell_on (Below.new w3 (.cells #[sv F] 9)) HC3.out)
            go_wp2_with (at_builtin; refine listGrowS rfl (.tmp 55) (.tmp 57) rfl none [] F 0 0 rfl rfl rfl (fun _ => rfl) (Strs.nil _ _) w3.heap.size rfl (cell_new1 _ _ _) (by simp) ?_; intro b8 c8 w8 hc8 hs8 hb8)
            have HB8 := Lib.hid (HB4.out.trans (hb8.mono HB4.out.size))
            have HS8 := Lib.hid hs8
            have HC8 := Lib.hid (cell_on hb8 HC4.out)
            clear hs8 hb8
            go_roundw
            case rel => exact ⟨j + 1, some b8, c8, by omega, by go_num, by rw [hT, HSu.out]; rfl, Lib.hid (fun e => by cases e), by rw [hT, HSu.out]; exact hc8, by rw [hT, HSu.out]; exact HS8, HB8, HN, HC8⟩
            case measure => simp [RowKit.intOf]; omega
          | some ad =>
            go_wp2_with fail
            refine HFo.out.mono ?_
            rintro e w3 ⟨rfl, hb3⟩
            have HB3 := Lib.hid hb3
            have HC3 := Lib.hid (cell_on hb3 hc0)
            clear hb3
            go_wp2_with fail
            refine (HCn.out _ HB3.out).mono ?_
            rintro e w4 ⟨rfl, rfl⟩
            have HB4 := Lib.hid ((HBb.out.trans (HB3.out.mono HBb.out.size)).trans ((Below.new w3 (.cells #[sv F] 9)).mono (by have := HBb.out.size; have := HB3.out.size; omega)))
            have HC4 := Lib.hid (cell_on (Below.new w3 (.cells #[sv F] 9)) HC3.out)
            have HS4 := Lib.hid ((HS.out.below HB3.out).alloc (.cells #[sv F] 9))
            go_wp2_with (at_builtin; refine listGrowS rfl (.tmp 55) (.tmp 57) rfl (some ad) O F O.length O.length rfl rfl rfl (fun e => by cases e) HS4.out w3.heap.size rfl (cell_new1 _ _ _) hol ?_; intro b8 c8 w8 hc8 hs8 hb8)
            have HB8 := Lib.hid (HB4.out.trans (hb8.mono HB4.out.size))
            have HS8 := Lib.hid hs8
            have HC8 := Lib.hid (cell_on hb8 HC4.out)
            clear hs8 hb8
            go_roundw
            case rel => exact ⟨j + 1, some b8, c8, by omega, by go_num, by rw [hT, HSu.out, List.length_append]; rfl, Lib.hid (fun e => by cases e), by rw [hT, HSu.out, List.length_append]; exact hc8, by rw [hT, HSu.out]; exact HS8, HB8, HN, HC8⟩
            case measure => simp [RowKit.intOf]; omega
    · have HG : Hid (X.checkApartE l ws = ((ws.length : Int), 0)) := Lib.hid (by
        rw [HF.out, HT.out, if_pos]
        unfold tellsAt; rw [List.drop_of_length_le (by omega)]; rfl)
      have hltI : ¬ (j : Int) < (ws.length : Int) := by omega
      go_wp2_with fail
      go_ret2
      rw [HG.out]
      exact ⟨rfl, HBb.out⟩
end Go.Proofs.YtcjbnifafofpbaaGreatDoor
