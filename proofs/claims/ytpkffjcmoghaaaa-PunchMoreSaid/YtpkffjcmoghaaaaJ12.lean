/- One text of ComO, ComP, ComQ, ComR, ComS, ComT, ComU. -/
import Derived.Test.YtpkffjcmoghaaaaJ11
import Derived.ArgAppend
/- Walks of the program's functions: choose. -/
namespace Go.Proofs.Ytpkffjcmoghaaaa
open Go.RowKit Go.Shelf
structure ChI (w0 : World) (b1 B : Nat) (p L : Int) (a : Option Addr) (cap : Nat) (S : List P.Star) (out : List Nat) (v : Value) (w : World) : Prop where
  held : Held w b1 B p L a cap S
  row : w.ownsRow b1 3 1 v out.length ((intsN out).map (.int .i64))
  bel : Below b1 w0 w
theorem ChI.on {w0 : World} {b1 B : Nat} {p L : Int} {a : Option Addr} {cap : Nat} {S : List P.Star} {out : List Nat} {v : Value} {w w' : World} (h : ChI w0 b1 B p L a cap S out v w) (hb : Below w.heap.size w w') (h1 : b1 ≤ w.heap.size) : ChI w0 b1 B p L a cap S out v w' :=
  ⟨h.held.on hb, owns_below h.row hb, h.bel.trans (hb.mono h1)⟩
theorem HL0 (S : List P.Star) : Hid (S.length = (P.orderW S).length) := Lib.hid (by rw [(P.orderW_perm S).length_eq, List.length_range])
set_option maxRecDepth 20000 in
set_option maxHeartbeats 4000000 in
theorem chooseP_any (B : Nat) (p L : Nat) (a : Option Addr) (cap : Nat) (S : List P.Star) (ag : Option Addr) (cg : Nat) (gv : List Nat) (wo : Int) (w : World) (h : Job w B (p : Int) (L : Int) a cap S) (hv : P.Valid p L S) (hg : OutP S.length gv) (hI : Ints .i64 w ag (intsN gv)) :
    Calls Try.prog 71 #[.pointer (some ⟨B, 0, none⟩), .slice ag gv.length cg, .int .i64 wo] w fun e w' => ∃ v, e = .returned v ∧ w'.ownsRow w.heap.size 3 1 v (P.chosen S p L gv wo).length ((intsN (P.chosen S p L gv wo)).map (.int .i64)) ∧ Below w.heap.size w w' := by
  have hn := hv.len
  have hbn := Below.new w (.cells #[.pointer (some ⟨B, 0, none⟩)] 72)
  have HH1 := Lib.hid (show Held (w.alloc (.cells #[.pointer (some ⟨B, 0, none⟩)] 72)) w.heap.size B p L a cap S from ⟨cell_new1 w _ 72, h.on hbn⟩)
  have HC := Lib.hid (cloneI_any ag cg (intsN gv) (w.alloc (.cells #[.pointer (some ⟨B, 0, none⟩)] 72)) (by rw [intsN_length]; have := hg.len; omega) (hI.alloc _))
  have HB1 := Lib.hid hbn
  have HA := Lib.hid (h.st.lt)
  have hlt := h.lt
  obtain ⟨i0, hi, hz0, hz1, hz2⟩ := info_parts T25.hi
  have hby : i0.bytes * S.length ≤ 281474976710656 := by rw [hz2]; omega
  have hmx : S.length ≤ maxLen := by unfold maxLen; omega
  have HIi := Lib.hid (And.intro hi (And.intro hz0 (And.intro hz1 hz2)))
  have hW1s : (w.alloc (.cells #[.pointer (some ⟨B, 0, none⟩)] 72)).heap.size = w.heap.size + 1 := by simp
  rw [intsN_length] at HC
  clear h hI hbn hz2
  go_enter Try.func71, Try.ntmps71
  go_wp2_with fail
  refine HC.out.mono ?_
  rintro e w2 ⟨v, rfl, hown2, hb2⟩
  have HI2 := Lib.hid (show ChI w w.heap.size B p L a cap S gv v w2 from ⟨HH1.out.on hb2, by exact owns_mono hown2 (by rw [hW1s]; omega), HB1.out.trans (hb2.mono (by rw [hW1s]; omega))⟩)
  have hsz2 : w.heap.size + 1 ≤ w2.heap.size := by have := hb2.size; omega
  clear hown2 hb2 HH1 HC HB1 hW1s
  obtain ⟨b1, hb1⟩ : ∃ b1, w.heap.size = b1 := ⟨_, rfl⟩
  rw [hb1] at HI2 HA hlt hsz2 ⊢
  have HB1 := Lib.hid hb1
  clear hb1
  have c1 := HI2.out.held.ptr
  have x3 := HI2.out.held.job.x3
  go_wp2_with (at_make; refine wpList_make_own _ rfl _ _ 25 rfl (b1 + 1) 3 i0 (.int .i64 0) 1 Try.underlying25 HIi.out.1 HIi.out.2.1 HIi.out.2.2.1 _ _ _ S.length rfl rfl (by omega) ?bytes ?maxLen ?base ?_)
  case bytes => exact hby
  case maxLen => exact hmx
  case base => exact hsz2
  intro w3 hrow hg3
  have hb3 : Below w2.heap.size w2 w3 := (Below.refl _ _).grown hg3 (Nat.le_refl _) (fun j e => by cases e)
  have HI3 := Lib.hid (HI2.out.on hb3 (by omega))
  have hs3 := hb3.size
  have c3 := HI3.out.held.ptr
  have y3 := HI3.out.held.job.x3
  have HVl : Hid (∀ g, v.ownBlock = some g → g < w2.heap.size) := Lib.hid (fun g e => (HI2.out.row.lt g e).2)
  obtain ⟨g0, hg0⟩ : ∃ g0, w2.heap.size = g0 := ⟨_, rfl⟩
  rw [hg0] at hrow hs3 HVl ⊢
  have hg0b : b1 + 1 ≤ g0 := by omega
  have HR3 : Hid (Row3 w3 (b1 + 1) g0 S.length (List.range 0)) := Lib.hid hrow
  clear hb3 hg3 hrow HI2 hsz2 hg0 c1 x3 hby hmx hi hz0 hz1
  have hsz3 : b1 + 1 ≤ w3.heap.size := by omega
  go_wp2_with fail
  go_loopw [8, 9, 28] (fun v8 _ i wr => ∃ (j g cap2 : Nat), j ≤ S.length ∧ i = .int .i64 j ∧ v8 = .slice (some ⟨g, 0, none⟩) j cap2 ∧ Hid (Row3 wr (b1 + 1) g cap2 (List.range j)) ∧ Hid (ChI w b1 B p L a cap S gv v wr) ∧ Hid (v.ownBlock ≠ some g) ∧ b1 + 1 ≤ wr.heap.size) (fun _ _ i _ => S.length - (intOf i).toNat)
  case atStart => exact ⟨0, g0, S.length, by omega, rfl, rfl, HR3, HI3, Lib.hid (fun e => by have := HVl.out _ e; omega), hsz3⟩
  case round =>
    clear HR3 HI3
    obtain ⟨j, g, cap2, hj, rfl, rfl, HO, HI, HNe, hsz⟩ := hrel
    by_cases hlt2 : j < S.length
    · have hI : (j : Int) < (S.length : Int) := by omega
      have hjo : j + 1 ≤ 2000000 := by omega
      have hO : wr.ownsRow (b1 + 1) 3 1 (.slice (some ⟨g, 0, none⟩) j cap2) j ((intsN (List.range j)).map (.int .i64)) := by
        have := HO.out
        unfold Row3 at this
        rw [List.length_range] at this
        exact this
      have hO5 := Lib.hid (hO.alloc (.cells #[.int .i64 (j : Int)] 3))
      have hnews := Lib.hid (news_new wr #[.int .i64 (j : Int)] 3)
      have hszW : b1 + 1 ≤ (wr.alloc (.cells #[.int .i64 (j : Int)] 3)).heap.size := by simp; omega
      have hgb := (hO.lt g rfl).1
      have hgl := (hO.lt g rfl).2
      clear hO
      go_wp2_with (at_builtin; refine listApp T25 rfl (.tmp 31) (.tmp 33) rfl (b1 + 1) (.slice (some ⟨g, 0, none⟩) j cap2) j ((intsN (List.range j)).map (.int .i64)) [.int .i64 (j : Int)] 1 1 ⟨wr.heap.size, 0, none⟩ rfl hO5.out rfl rfl hnews.out (by simp [Value.oneCell']) hjo hszW ?_; intro v8 w8 hown8 hg8 hL8)
      have hbn := Below.new wr (.cells #[.int .i64 (j : Int)] 3)
      obtain ⟨g', cap', rfl⟩ := owns_row3 hown8 hL8
      have hI1 := HI.out.on hbn (by omega)
      have hH8 := hI1.held.kept hg8 (by simp [Value.ownBlock]; omega) (by simp [Value.ownBlock]; omega) (fun hp b off e => by have := HA.out hp b off e; simp [Value.ownBlock]; omega)
      have hV8 := hI1.row.kept hg8 (.inr (fun e => HNe.out e))
      have hB8 := hI1.bel.grown hg8 (by simp; omega) (fun q e => by simp [Value.ownBlock] at e; omega)
      have hN8 : v.ownBlock ≠ some g' := fun e => by
        rcases hL8 with e2 | e2
        · simp only [Value.ownBlock, Option.some.injEq] at e2; exact HNe.out (by rw [e, e2])
        · simp only [Value.ownBlock, Option.some.injEq] at e2; have := (HI.out.row.lt _ e).2; simp at e2; omega
      have hs8 := hg8.size
      have hR8 : Row3 w8 (b1 + 1) g' cap' (List.range (j + 1)) := by
        unfold Row3
        rw [List.length_range, List.range_succ, intsN_snoc, List.map_append]
        exact hown8
      go_roundw
      case rel => exact ⟨j + 1, g', cap', by omega, by go_num, rfl, Lib.hid hR8, Lib.hid ⟨hH8, hV8, hB8⟩, Lib.hid hN8, by simp at hs8; omega⟩
      case measure => simp [intOf]; omega
    · have hI : ¬ (j : Int) < (S.length : Int) := by omega
      have hjn : j = S.length := by omega
      subst hjn
      have hgb : b1 + 1 ≤ g := HO.out.lt.1
      have HSort := Lib.hid (sortW_any b1 B (p : Int) (L : Int) a cap S g cap2 wr hn (Ord.of_row HO.out) HI.out.held (by omega) (by omega) (fun hp b off e => by have := HA.out hp b off e; omega))
      go_wp2_with fail
      refine HSort.out.mono ?_
      rintro e w4 ⟨rfl, hO4, hg4⟩
      have HI4 := Lib.hid (show ChI w b1 B p L a cap S gv v w4 from ⟨HI.out.held.kept hg4 (by simp; omega) (by simp; omega) (fun hp b off e => by have := HA.out hp b off e; simp; omega), HI.out.row.kept hg4 (.inr HNe.out), HI.out.bel.grown hg4 (by omega) (fun q e => by cases e; omega)⟩)
      have HO4 := Lib.hid hO4
      have hl0 := HL0 S
      clear HSort hO4 hg4 HO HI HNe hsz
      have hOl := (P.orderW_perm S).length_eq
      rw [List.length_range] at hOl
      have hOm : ∀ i ∈ P.orderW S, i < S.length := fun i hi => by simpa using (P.orderW_perm S).mem_iff.1 hi
      have HOm := Lib.hid hOm
      have HCh : Hid (P.chosen S p L gv wo = (P.orderW S).foldl (P.take1 S p L wo) gv) := Lib.hid rfl
      have HOk := Lib.hid hv.ok
      have hp5 := hv.p5
      have hL20 := hv.l20
      clear hOm
      generalize P.orderW S = O at *
      have HG := Lib.hid hg
      go_wp2_with fail
      go_loopw [7, 11, 12, 41] (fun v7 _ _ i wr => ∃ (k : Nat), k ≤ S.length ∧ i = .int .i64 k ∧ Hid (ChI w b1 B p L a cap S ((O.take k).foldl (P.take1 S p L wo) gv) v7 wr) ∧ Hid (Ord wr g cap2 O) ∧ Hid (OutP S.length ((O.take k).foldl (P.take1 S p L wo) gv))) (fun _ _ _ i _ => S.length - (intOf i).toNat)
      case atStart => exact ⟨0, by omega, rfl, HI4, HO4, HG⟩
      case round =>
        clear HI4 HO4 HG
        obtain ⟨k, hk, rfl, HI, HO, HG⟩ := hrel
        by_cases hlt3 : k < S.length
        · have hkO : k < O.length := by omega
          have hx := HOm.out O[k] (List.getElem_mem hkO)
          have hstep : (O.take (k + 1)).foldl (P.take1 S p L wo) gv = P.take1 S p L wo ((O.take k).foldl (P.take1 S p L wo) gv) O[k] := by
            rw [List.take_succ_eq_append_getElem hkO, List.foldl_append]; rfl
          have ck : wr.cell? ⟨g, k, none⟩ = some (.int .i64 ((O[k] : Nat) : Int)) := by
            have := HO.out.ints.cellAt k (by rw [intsN_length]; exact hkO)
            rw [Nat.zero_add] at this
            rw [this]; simp [nth, intsN, hkO]
          have HSt := Lib.hid hstep
          clear hstep
          generalize O[k] = x at *
          generalize (O.take k).foldl (P.take1 S p L wo) gv = out at *
          have hI3 : (k : Int) < (S.length : Int) := by omega
          have hsz4 : b1 < wr.heap.size := World.block_lt_of_cell? _ _ HI.out.held.ptr
          obtain ⟨-, a7, c7, rfl, hi7, hc7⟩ := Ints.of_ownsRow HI.out.row
          have HI7 := Lib.hid hi7
          by_cases hwo : (x : Int) = wo
          · have HE : Hid ((O.take (k + 1)).foldl (P.take1 S p L wo) gv = out) := Lib.hid (by rw [HSt.out]; unfold P.take1; rw [if_pos (.inl hwo)])
            subst hwo
            clear hi7 hc7
            go_wp2_with fail
            go_roundw
            case rel => exact ⟨k + 1, by omega, by go_num, by rw [HE.out]; exact HI, HO, by rw [HE.out]; exact HG⟩
            case measure => simp [intOf]; omega
          · have hwb : ((x : Int) == wo) = false := by simp [hwo]
            have HCt := Lib.hid (containsP_any a7 c7 (intsN out) (x : Int) wr (by rw [intsN_length]; have := HG.out.len; omega) hi7)
            rw [intsN_length] at HCt
            by_cases hin : x ∈ out
            · rw [decide_eq_true (mem_intsN.2 hin)] at HCt
              have HE : Hid ((O.take (k + 1)).foldl (P.take1 S p L wo) gv = out) := Lib.hid (by rw [HSt.out]; unfold P.take1; rw [if_pos (.inr hin)])
              clear hi7 hc7 hwo hin
              go_wp2_with fail
              refine HCt.out.mono ?_
              rintro e w5 ⟨rfl, rfl⟩
              go_wp2_with fail
              go_roundw
              case rel => exact ⟨k + 1, by omega, by go_num, by rw [HE.out]; exact HI, HO, by rw [HE.out]; exact HG⟩
              case measure => simp [intOf]; omega
            · rw [decide_eq_false (fun h => hin (mem_intsN.1 h))] at HCt
              have HG1 := Lib.hid (HG.out.snoc hx hin)
              have HSt2 : Hid ((O.take (k + 1)).foldl (P.take1 S p L wo) gv = if P.fitsB (P.sel S (out ++ [x])) p L then out ++ [x] else out) := Lib.hid (by rw [HSt.out]; unfold P.take1; rw [if_neg (by rintro (h | h); exact hwo h; exact hin h)])
              have hcI : (out.length : Int) ≤ (c7 : Int) := by have := hc7; omega
              have hq0 : (0 : Int) ≤ (out.length : Int) := by omega
              clear hi7 hc7 hwo hin HSt
              cases a7 with
              | none =>
                have h0 : out = [] ∧ c7 = 0 := by
                  have hr := HI.out.row.2
                  rcases hr with ⟨e, h0⟩ | ⟨g', cap', cur, e, -⟩
                  · simp only [Value.slice.injEq, true_and] at e
                    exact ⟨List.eq_nil_of_length_eq_zero h0, e.2⟩
                  · simp at e
                obtain ⟨rfl, rfl⟩ := h0
                go_wp2_with fail
                refine HCt.out.mono ?_
                rintro e w5 ⟨rfl, rfl⟩
                have hno : (none : Option Addr) = none → ([] : List Nat).length = 0 ∧ ([] : List Nat).length = 0 := (fun _ => ⟨rfl, rfl⟩)
                have hlo : ((intsN ([] : List Nat)).map (Value.int .i64)).length = ([] : List Nat).length * 1 := by simp [intsN]
                have hol : Hid (∀ b : Addr, (none : Option Addr) = some b → ∀ j u, ((intsN ([] : List Nat)).map (Value.int .i64))[j]? = some u → (wr.alloc (.cells #[.int .i64 (x : Int)] 3)).cell? (b.add j) = some u) := Lib.hid (by
                  intro b e j u hj
                  have hlt : j < (intsN ([] : List Nat)).length := by have := (List.getElem?_eq_some_iff.1 hj).1; simpa using this
                  obtain ⟨b', o', e2, c⟩ := (HI7.out.alloc (.cells #[.int .i64 (x : Int)] 3)) j hlt
                  rw [e] at e2; cases e2
                  rw [addr_add, c]
                  simp [hlt] at hj
                  rw [← hj, nth_eq _ j hlt])
                have hnw := Lib.hid (news_new wr #[.int .i64 (x : Int)] 3)
                have h1c : ∀ u ∈ [Value.int .i64 (x : Int)], u.oneCell' = true := by simp [Value.oneCell']
                have hfl : ([] : List Nat).length < ([] : List Nat).length + 1 := by omega
                have hol16 := HG.out.len
                have hmx2 : ([] : List Nat).length + 1 ≤ maxLen := by unfold maxLen; omega
                have hby2 : (([] : List Nat).length + 1) * 8 ≤ 140737488355328 := by omega
                have hI8 : ∀ (v8 : Value) (w8 : World), w8.ownsRow (wr.alloc (.cells #[.int .i64 (x : Int)] 3)).heap.size 3 1 v8 (([] : List Nat).length + 1) ((intsN ([] : List Nat)).map (.int .i64) ++ [.int .i64 (x : Int)]) → (wr.alloc (.cells #[.int .i64 (x : Int)] 3)).grownBy w8 none → ChI w b1 B p L a cap S ([] : List Nat) (.slice none ([] : List Nat).length 0) w8 ∧ Ord w8 g cap2 O ∧ ∃ a8 c8, v8 = .slice a8 (([] : List Nat) ++ [x]).length c8 ∧ w8.ownsRow b1 3 1 (.slice a8 (([] : List Nat) ++ [x]).length c8) (([] : List Nat) ++ [x]).length ((intsN (([] : List Nat) ++ [x])).map (.int .i64)) ∧ Ints .i64 w8 a8 (intsN (([] : List Nat) ++ [x])) := fun v8 w8 hw8 hg8 => by
                  have hb : Below wr.heap.size wr w8 := (Below.new wr (.cells #[.int .i64 (x : Int)] 3)).grown hg8 (by simp) (fun q e => by cases e)
                  have hw9 : w8.ownsRow b1 3 1 v8 (([] : List Nat) ++ [x]).length ((intsN (([] : List Nat) ++ [x])).map (.int .i64)) := by
                    rw [List.length_append, List.length_singleton, intsN_snoc, List.map_append]
                    exact owns_mono hw8 (by simp; omega)
                  obtain ⟨-, a8, c8, rfl, hi8, -⟩ := Ints.of_ownsRow hw9
                  exact ⟨HI.out.on hb (by omega), HO.out.below hb, a8, c8, rfl, hw9, hi8⟩
                have HI8 := Lib.hid hI8
                clear hI8
                go_wp2_with (at_builtin; refine listApp T25 rfl (.tmp 58) (.tmp 60) rfl (wr.alloc (.cells #[.int .i64 (x : Int)] 3)).heap.size (.slice none 0 0) 0 [] [.int .i64 (x : Int)] 1 1 ⟨wr.heap.size, 0, none⟩ rfl (World.ownsRow_nil _ _ _ _) rfl rfl hnw.out h1c (by decide) (Nat.le_refl _) ?_; intro v8 w8 hown8 hg8 _; obtain ⟨hc8, ho8, a8, c8, rfl, hr8, hi8⟩ := HI8.out _ _ hown8 hg8; have HC8 := Lib.hid hc8; have HO8 := Lib.hid ho8; have HR8 := Lib.hid hr8; have HJ8 := Lib.hid hi8; have p8 := hc8.held.ptr; clear hown8 hg8 hc8 ho8 hr8 hi8)
                have hl9 : (([] : List Nat) ++ [x]).length = ([] : List Nat).length + 1 := by simp
                have hall : ∀ i ∈ ([] : List Nat) ++ [x], i < S.length := fun i hi => by
                  rcases List.mem_append.1 hi with h | h
                  · exact HG.out.lt i h
                  · rw [List.mem_singleton] at h; omega
                have HSm := someP_any B (p : Int) (L : Int) a cap S a8 c8 (([] : List Nat) ++ [x]) w8 (by omega) (by rw [hl9]; omega) HC8.out.held.job HJ8.out hall
                rw [hl9] at HSm
                have HSo := Lib.hid HSm
                have HOks : Hid (P.Ok L (P.sel S (([] : List Nat) ++ [x]))) := Lib.hid (fun s hs => by
                  unfold P.sel at hs
                  obtain ⟨i, hi, rfl⟩ := List.mem_map.1 hs
                  exact HOk.out _ (P.star_mem (hall i hi)))
                have HFi := Lib.hid (fun W b' a' c' (hW : Job W b' (p : Int) (L : Int) a' c' (P.sel S (([] : List Nat) ++ [x]))) => fitsP_any b' p L a' c' (P.sel S (([] : List Nat) ++ [x])) W (by have : (P.sel S (([] : List Nat) ++ [x])).length = ([] : List Nat).length + 1 := (by simp [P.sel]); have := HG1.out.len; omega) hW (by omega) (by omega) HOks.out)
                have hszb : b1 < w8.heap.size := World.block_lt_of_cell? _ _ HC8.out.held.ptr
                clear HSm hall hno hlo h1c hfl hmx2 hby2
                refine HSo.out.mono ?_
                rintro e w9 ⟨Cb, a9, c9, rfl, hJ9, -, hb9⟩
                have HC9 := Lib.hid (HC8.out.on hb9 (by omega))
                have HO9 := Lib.hid (HO8.out.below hb9)
                have HR9 := Lib.hid (owns_below HR8.out hb9)
                have hsz9 := hb9.size
                have HF9 := Lib.hid (HFi.out w9 Cb a9 c9 hJ9)
                clear hJ9 hb9 HFi HSo
                cases hfb : P.fitsB (P.sel S (([] : List Nat) ++ [x])) p L with
                | true =>
                  rw [hfb] at HF9
                  have HE : Hid ((O.take (k + 1)).foldl (P.take1 S p L wo) gv = ([] : List Nat) ++ [x]) := Lib.hid (by rw [HSt2.out, hfb]; rfl)
                  clear hfb
                  go_wp2_with fail
                  refine HF9.out.mono ?_
                  rintro e wz ⟨rfl, hbz⟩
                  have hCz : ChI w b1 B p L a cap S (([] : List Nat) ++ [x]) (.slice a8 (([] : List Nat).length + 1) c8) wz := ⟨HC9.out.held.on hbz, by have := owns_below HR9.out hbz; rw [hl9] at this ⊢; exact this, HC9.out.bel.trans (hbz.mono (by omega))⟩
                  have HCz := Lib.hid hCz
                  have HOz := Lib.hid (HO9.out.below hbz)
                  clear hCz hbz
                  go_wp2_with fail
                  go_roundw
                  case rel => exact ⟨k + 1, by omega, by go_num, by rw [HE.out]; exact HCz, HOz, by rw [HE.out]; exact HG1⟩
                  case measure => simp [intOf]; omega
                | false =>
                  rw [hfb] at HF9
                  have HE : Hid ((O.take (k + 1)).foldl (P.take1 S p L wo) gv = ([] : List Nat)) := Lib.hid (by rw [HSt2.out, hfb]; rfl)
                  clear hfb
                  go_wp2_with fail
                  refine HF9.out.mono ?_
                  rintro e wz ⟨rfl, hbz⟩
                  have HCz := Lib.hid (HC9.out.on hbz (by omega))
                  have HOz := Lib.hid (HO9.out.below hbz)
                  clear hbz
                  go_wp2_with fail
                  go_roundw
                  case rel => exact ⟨k + 1, by omega, by go_num, by rw [HE.out]; exact HCz, HOz, by rw [HE.out]; exact HG⟩
                  case measure => simp [intOf]; omega
              | some ad =>
                go_wp2_with fail
                refine HCt.out.mono ?_
                rintro e w5 ⟨rfl, rfl⟩
                have hno : (some ad) = none → out.length = 0 ∧ out.length = 0 := (fun e => by cases e)
                have hlo : ((intsN out).map (Value.int .i64)).length = out.length * 1 := by simp [intsN]
                have hol : Hid (∀ b, (some ad) = some b → ∀ j u, ((intsN out).map (Value.int .i64))[j]? = some u → (wr.alloc (.cells #[.int .i64 (x : Int)] 3)).cell? (b.add j) = some u) := Lib.hid (by
                  intro b e j u hj
                  have hlt : j < (intsN out).length := by have := (List.getElem?_eq_some_iff.1 hj).1; simpa using this
                  obtain ⟨b', o', e2, c⟩ := (HI7.out.alloc (.cells #[.int .i64 (x : Int)] 3)) j hlt
                  rw [e] at e2; cases e2
                  rw [addr_add, c]
                  simp [hlt] at hj
                  rw [← hj, nth_eq _ j hlt])
                have hnw := Lib.hid (news_new wr #[.int .i64 (x : Int)] 3)
                have h1c : ∀ u ∈ [Value.int .i64 (x : Int)], u.oneCell' = true := by simp [Value.oneCell']
                have hfl : out.length < out.length + 1 := by omega
                have hol16 := HG.out.len
                have hmx2 : out.length + 1 ≤ maxLen := by unfold maxLen; omega
                have hby2 : (out.length + 1) * 8 ≤ 140737488355328 := by omega
                have hI8 : ∀ (v8 : Value) (w8 : World), w8.ownsRow (wr.alloc (.cells #[.int .i64 (x : Int)] 3)).heap.size 3 1 v8 (out.length + 1) ((intsN out).map (.int .i64) ++ [.int .i64 (x : Int)]) → (wr.alloc (.cells #[.int .i64 (x : Int)] 3)).grownBy w8 none → ChI w b1 B p L a cap S out (.slice (some ad) out.length c7) w8 ∧ Ord w8 g cap2 O ∧ ∃ a8 c8, v8 = .slice a8 (out ++ [x]).length c8 ∧ w8.ownsRow b1 3 1 (.slice a8 (out ++ [x]).length c8) (out ++ [x]).length ((intsN (out ++ [x])).map (.int .i64)) ∧ Ints .i64 w8 a8 (intsN (out ++ [x])) := fun v8 w8 hw8 hg8 => by
                  have hb : Below wr.heap.size wr w8 := (Below.new wr (.cells #[.int .i64 (x : Int)] 3)).grown hg8 (by simp) (fun q e => by cases e)
                  have hw9 : w8.ownsRow b1 3 1 v8 (out ++ [x]).length ((intsN (out ++ [x])).map (.int .i64)) := by
                    rw [List.length_append, List.length_singleton, intsN_snoc, List.map_append]
                    exact owns_mono hw8 (by simp; omega)
                  obtain ⟨-, a8, c8, rfl, hi8, -⟩ := Ints.of_ownsRow hw9
                  exact ⟨HI.out.on hb (by omega), HO.out.below hb, a8, c8, rfl, hw9, hi8⟩
                have HI8 := Lib.hid hI8
                clear hI8
                go_wp2_with (at_builtin; refine wpList_append_grows _ rfl (.tmp 58) (.tmp 60) 25 rfl 3 i0 (.int .i64 0) 1 8 Try.underlying25 HIi.out.1 HIi.out.2.1 HIi.out.2.2.1 HIi.out.2.2.2 rfl (by decide) (some ad) out.length out.length ((intsN out).map (.int .i64)) rfl hno hlo hol.out ⟨wr.heap.size, 0, none⟩ 1 1 [.int .i64 (x : Int)] rfl rfl hnw.out h1c hfl hmx2 hby2 ?_; intro v8 w8 hown8 hg8; obtain ⟨hc8, ho8, a8, c8, rfl, hr8, hi8⟩ := HI8.out _ _ hown8 hg8; have HC8 := Lib.hid hc8; have HO8 := Lib.hid ho8; have HR8 := Lib.hid hr8; have HJ8 := Lib.hid hi8; have p8 := hc8.held.ptr; clear hown8 hg8 hc8 ho8 hr8 hi8)
                have hl9 : (out ++ [x]).length = out.length + 1 := by simp
                have hall : ∀ i ∈ out ++ [x], i < S.length := fun i hi => by
                  rcases List.mem_append.1 hi with h | h
                  · exact HG.out.lt i h
                  · rw [List.mem_singleton] at h; omega
                have HSm := someP_any B (p : Int) (L : Int) a cap S a8 c8 (out ++ [x]) w8 (by omega) (by rw [hl9]; omega) HC8.out.held.job HJ8.out hall
                rw [hl9] at HSm
                have HSo := Lib.hid HSm
                have HOks : Hid (P.Ok L (P.sel S (out ++ [x]))) := Lib.hid (fun s hs => by
                  unfold P.sel at hs
                  obtain ⟨i, hi, rfl⟩ := List.mem_map.1 hs
                  exact HOk.out _ (P.star_mem (hall i hi)))
                have HFi := Lib.hid (fun W b' a' c' (hW : Job W b' (p : Int) (L : Int) a' c' (P.sel S (out ++ [x]))) => fitsP_any b' p L a' c' (P.sel S (out ++ [x])) W (by have : (P.sel S (out ++ [x])).length = out.length + 1 := (by simp [P.sel]); have := HG1.out.len; omega) hW (by omega) (by omega) HOks.out)
                have hszb : b1 < w8.heap.size := World.block_lt_of_cell? _ _ HC8.out.held.ptr
                clear HSm hall hno hlo h1c hfl hmx2 hby2
                refine HSo.out.mono ?_
                rintro e w9 ⟨Cb, a9, c9, rfl, hJ9, -, hb9⟩
                have HC9 := Lib.hid (HC8.out.on hb9 (by omega))
                have HO9 := Lib.hid (HO8.out.below hb9)
                have HR9 := Lib.hid (owns_below HR8.out hb9)
                have hsz9 := hb9.size
                have HF9 := Lib.hid (HFi.out w9 Cb a9 c9 hJ9)
                clear hJ9 hb9 HFi HSo
                cases hfb : P.fitsB (P.sel S (out ++ [x])) p L with
                | true =>
                  rw [hfb] at HF9
                  have HE : Hid ((O.take (k + 1)).foldl (P.take1 S p L wo) gv = out ++ [x]) := Lib.hid (by rw [HSt2.out, hfb]; rfl)
                  clear hfb
                  go_wp2_with fail
                  refine HF9.out.mono ?_
                  rintro e wz ⟨rfl, hbz⟩
                  have hCz : ChI w b1 B p L a cap S (out ++ [x]) (.slice a8 (out.length + 1) c8) wz := ⟨HC9.out.held.on hbz, by have := owns_below HR9.out hbz; rw [hl9] at this ⊢; exact this, HC9.out.bel.trans (hbz.mono (by omega))⟩
                  have HCz := Lib.hid hCz
                  have HOz := Lib.hid (HO9.out.below hbz)
                  clear hCz hbz
                  go_wp2_with fail
                  go_roundw
                  case rel => exact ⟨k + 1, by omega, by go_num, by rw [HE.out]; exact HCz, HOz, by rw [HE.out]; exact HG1⟩
                  case measure => simp [intOf]; omega
                | false =>
                  rw [hfb] at HF9
                  have HE : Hid ((O.take (k + 1)).foldl (P.take1 S p L wo) gv = out) := Lib.hid (by rw [HSt2.out, hfb]; rfl)
                  clear hfb
                  go_wp2_with fail
                  refine HF9.out.mono ?_
                  rintro e wz ⟨rfl, hbz⟩
                  have HCz := Lib.hid (HC9.out.on hbz (by omega))
                  have HOz := Lib.hid (HO9.out.below hbz)
                  clear hbz
                  go_wp2_with fail
                  go_roundw
                  case rel => exact ⟨k + 1, by omega, by go_num, by rw [HE.out]; exact HCz, HOz, by rw [HE.out]; exact HG⟩
                  case measure => simp [intOf]; omega
        · have hI3 : ¬ (k : Int) < (S.length : Int) := by omega
          have hT : O.take k = O := List.take_of_length_le (by omega)
          rw [hT] at HI
          clear hT
          go_wp2_with fail
          go_ret
          exact ⟨_, rfl, by rw [HB1.out, HCh.out]; exact HI.out.row, by rw [HB1.out]; exact HI.out.bel⟩
end Go.Proofs.Ytpkffjcmoghaaaa
/- Walks of the program's functions: Heaviest. -/
namespace Go.Proofs.Ytpkffjcmoghaaaa
open Go.RowKit
theorem openC_nil (p L : Int) (S : List P.Star) : openC p L S [] = P.checkJob p L S := by
  unfold openC
  by_cases h : P.checkJob p L S = 0
  · rw [if_neg (not_not_intro h), h]; rfl
  · rw [if_pos h]
set_option maxRecDepth 20000 in
set_option maxHeartbeats 2000000 in
theorem heaviest_any (a : Option Addr) (cap : Nat) (p L : Int) (S : List P.Star) (w : World) (hl : S.length ≤ 1000000) (ha : Stars w a S) :
    Calls Try.prog 38 #[jobV p L a S.length cap] w fun e w' => e = .returned (.tuple #[.int .i64 (P.heavyE p L S).1, .int .i64 (P.heavyE p L S).2]) ∧ Below w.heap.size w w' := by
  have HB0 := Lib.hid (Below.new w (.cells #[.int .i64 p, .int .i64 L, .slice a S.length cap] 24))
  have HO := Lib.hid (open_any a cap p L S none 0 [] _ hl (by simp) (ha.alloc (.cells #[.int .i64 p, .int .i64 L, .slice a S.length cap] 24)) (Ints.nil _ _ _))
  have HS0 := Lib.hid (ha.alloc (.cells #[.int .i64 p, .int .i64 L, .slice a S.length cap] 24))
  clear ha
  rw [openC_nil] at HO
  by_cases hc : P.checkJob p L S = 0
  · have hv := P.checkJob_iff.1 hc
    have HE := Lib.hid (heavyE_ok hc)
    rw [hc] at HO
    obtain ⟨pn, rfl⟩ := Int.eq_ofNat_of_zero_le (show 0 ≤ p by have := hv.p1; omega)
    obtain ⟨Ln, rfl⟩ := Int.eq_ofNat_of_zero_le (show 0 ≤ L by have := hv.l1; omega)
    have HV := Lib.hid hv
    clear hc hv
    go_enter Try.func38, Try.ntmps38
    go_wp2_with fail
    refine HO.out.mono ?_
    rintro e w1 ⟨hcase, hb1⟩
    rcases hcase with ⟨h, -⟩ | ⟨-, B, rfl, hcl, -⟩
    · exact absurd rfl h
    have HB1 := Lib.hid (HB0.out.trans (hb1.mono HB0.out.size))
    have HJ1 := Lib.hid (hcl.job (HS0.out.below hb1))
    clear hb1 hcl HO
    have HCh := Lib.hid (chooseP_any B pn Ln a cap S none 0 [] (-1) w1 HJ1.out HV.out ⟨fun j h => by simp at h, List.nodup_nil⟩ (Ints.nil _ _ _))
    go_wp2_with fail
    refine HCh.out.mono ?_
    rintro e w2 ⟨v2, rfl, hown2, hb2⟩
    have hOut := out_chosen (P.set_nil HV.out) (-1)
    obtain ⟨-, a2, c2, rfl, hi2, -⟩ := Ints.of_ownsRow hown2
    have hl16 := HV.out.len
    have HSo := Lib.hid (someP_any B (pn : Int) (Ln : Int) a cap S a2 c2 (P.chosen S pn Ln [] (-1)) w2 hl (by have := hOut.len; omega) (HJ1.out.on hb2) hi2 (fun i hi => hOut.lt i hi))
    have HB2 := Lib.hid (HB1.out.trans (hb2.mono HB1.out.size))
    clear hown2 hb2 hi2 HCh
    go_wp2_with fail
    refine HSo.out.mono ?_
    rintro e w3 ⟨C, a3, c3, rfl, hJ3, -, hb3⟩
    have HB3 := Lib.hid (HB2.out.trans (hb3.mono HB2.out.size))
    have HWe := Lib.hid (weightP_any C (pn : Int) (Ln : Int) a3 c3 (P.sel S (P.chosen S pn Ln [] (-1))) w3 (by have := hOut.len; simp [P.sel]; omega) (fun s hs => by
      unfold P.sel at hs
      obtain ⟨i, hi, rfl⟩ := List.mem_map.1 hs
      exact HV.out.wt _ (P.star_mem (hOut.lt i hi))) hJ3)
    clear hb3 hJ3 HSo hOut
    go_wp2_with fail
    refine HWe.out.mono ?_
    rintro e w4 ⟨rfl, hb4⟩
    have HB4 := Lib.hid (HB3.out.trans (hb4.mono HB3.out.size))
    clear hb4
    go_wp2_with fail
    go_ret2
    exact ⟨by rw [HE.out, wsum_sel]; rfl, HB4.out⟩
  · have HE := Lib.hid (heavyE_bad hc)
    have hc' := ne_bool hc
    generalize P.checkJob p L S = C at *
    go_enter Try.func38, Try.ntmps38
    go_wp2_with fail
    refine HO.out.mono ?_
    rintro e w1 ⟨hcase, hb1⟩
    rcases hcase with ⟨-, rfl⟩ | ⟨h, -⟩
    · have HB1 := Lib.hid (HB0.out.trans (hb1.mono HB0.out.size))
      clear hb1 HO
      go_wp2_with fail
      go_ret2
      exact ⟨by rw [HE.out]; rfl, HB1.out⟩
    · exact absurd h hc
end Go.Proofs.Ytpkffjcmoghaaaa
/- Walks of the program's functions: CheckStruck. -/
namespace Go.Proofs.Ytpkffjcmoghaaaa
open Go.RowKit
theorem intsN_idx {l : List Int} (h : ∀ x ∈ l, 0 ≤ x) : intsN (P.idx l) = l := by
  unfold intsN P.idx
  rw [List.map_map]
  conv => rhs; rw [← List.map_id l]
  exact List.map_congr_left fun x hx => by have := h x hx; show ((x.toNat : Nat) : Int) = x; omega
set_option maxRecDepth 20000 in
set_option maxHeartbeats 2000000 in
theorem checkStruck_any (a : Option Addr) (cap : Nat) (p L : Int) (S : List P.Star) (b : Option Addr) (cap2 : Nat) (l : List Int) (w : World) (hl : S.length ≤ 1000000) (hl2 : l.length ≤ 1000000) (ha : Stars w a S) (hb : Ints .i64 w b l) :
    Calls Try.prog 34 #[jobV p L a S.length cap, .slice b l.length cap2] w fun e w' => e = .returned (.tuple #[.int .i64 (P.struckE p L S l).1, .int .i64 (P.struckE p L S l).2]) ∧ Below w.heap.size w w' := by
  have HB0 := Lib.hid (Below.new w (.cells #[.int .i64 p, .int .i64 L, .slice a S.length cap] 24))
  have HO := Lib.hid (open_any a cap p L S none 0 [] _ hl (by simp) (ha.alloc (.cells #[.int .i64 p, .int .i64 L, .slice a S.length cap] 24)) (Ints.nil _ _ _))
  have HS0 := Lib.hid (ha.alloc (.cells #[.int .i64 p, .int .i64 L, .slice a S.length cap] 24))
  have HI0 := Lib.hid (hb.alloc (.cells #[.int .i64 p, .int .i64 L, .slice a S.length cap] 24))
  have HC0 := Lib.hid (Cells.new w #[.int .i64 p, .int .i64 L, .slice a S.length cap] 24)
  clear ha hb
  rw [openC_nil] at HO
  by_cases hc : P.checkJob p L S = 0
  · have hv := P.checkJob_iff.1 hc
    have HEl : Hid (P.isList l S.length = false → P.struckE p L S l = (0, 3)) := Lib.hid (struckE_list hc)
    have HEn : Hid (P.isList l S.length = true → P.fitsB (P.sel S (P.idx l)) p L = false → P.struckE p L S l = (0, 13)) := Lib.hid (struckE_no hc)
    have HEy : Hid (P.isList l S.length = true → P.fitsB (P.sel S (P.idx l)) p L = true → P.struckE p L S l = (P.weigh S (P.idx l), 0)) := Lib.hid (struckE_yes hc)
    rw [hc] at HO
    obtain ⟨pn, rfl⟩ := Int.eq_ofNat_of_zero_le (show 0 ≤ p by have := hv.p1; omega)
    obtain ⟨Ln, rfl⟩ := Int.eq_ofNat_of_zero_le (show 0 ≤ L by have := hv.l1; omega)
    have HV := Lib.hid hv
    clear hc hv
    go_enter Try.func34, Try.ntmps34
    go_wp2_with fail
    refine HO.out.mono ?_
    rintro e w1 ⟨hcase, hb1⟩
    rcases hcase with ⟨h, -⟩ | ⟨-, B, rfl, hcl, -⟩
    · exact absurd rfl h
    have HB1 := Lib.hid (HB0.out.trans (hb1.mono HB0.out.size))
    have HJ1 := Lib.hid (hcl.job (HS0.out.below hb1))
    have HI1 := Lib.hid (HI0.out.below hb1)
    have e2 := (HC0.out.on hb1).cel 2 _ rfl
    clear hb1 hcl HO HC0
    have HLi := Lib.hid (isListP_any b cap2 l (S.length : Int) w1 hl2 (by omega) HI1.out)
    cases hli : P.isList l S.length with
    | false =>
      have HE := Lib.hid (HEl.out hli)
      rw [hli] at HLi
      clear hli
      go_wp2_with fail
      refine HLi.out.mono ?_
      rintro e w2 ⟨rfl, hb2⟩
      have HB2 := Lib.hid (HB1.out.trans (hb2.mono HB1.out.size))
      clear hb2
      go_wp2_with fail
      go_ret2
      exact ⟨by rw [HE.out]; rfl, HB2.out⟩
    | true =>
      have hmem := isList_mem hli
      have hlen := isList_len hli
      have HEn2 := Lib.hid (HEn.out hli)
      have HEy2 := Lib.hid (HEy.out hli)
      have HIx := Lib.hid (intsN_idx (fun x hx => (hmem x hx).1))
      have HLt := Lib.hid (idx_lt hmem)
      have HLn : Hid ((P.idx l).length = l.length) := Lib.hid (idx_length l)
      have hl16 := HV.out.len
      have hll : l.length ≤ 16 := by omega
      rw [hli] at HLi
      clear hli hmem hlen
      go_wp2_with fail
      refine HLi.out.mono ?_
      rintro e w2 ⟨rfl, hb2⟩
      have HB2 := Lib.hid (HB1.out.trans (hb2.mono HB1.out.size))
      have hSm := someP_any B (pn : Int) (Ln : Int) a cap S b cap2 (P.idx l) w2 hl (by rw [HLn.out]; omega) (HJ1.out.on hb2) (by rw [HIx.out]; exact HI1.out.below hb2) HLt.out
      rw [HLn.out] at hSm
      have HSm := Lib.hid hSm
      clear hb2 hSm e2
      go_wp2_with fail
      refine HSm.out.mono ?_
      rintro e w3 ⟨C, a3, c3, rfl, hJ3, -, hb3⟩
      have HB3 := Lib.hid (HB2.out.trans (hb3.mono HB2.out.size))
      have HJ3 := Lib.hid hJ3
      have HFt := Lib.hid (fitsP_any C pn Ln a3 c3 (P.sel S (P.idx l)) w3 (by simp [P.sel, HLn.out]; omega) hJ3 (by have := HV.out.p5; omega) (by have := HV.out.l20; omega) (fun s hs => by
        unfold P.sel at hs
        obtain ⟨i, hi, rfl⟩ := List.mem_map.1 hs
        exact HV.out.ok _ (P.star_mem (HLt.out i hi))))
      clear hb3 hJ3 HSm
      cases hf : P.fitsB (P.sel S (P.idx l)) pn Ln with
      | false =>
        have HE := Lib.hid (HEn2.out hf)
        rw [hf] at HFt
        clear hf
        go_wp2_with fail
        refine HFt.out.mono ?_
        rintro e w4 ⟨rfl, hb4⟩
        have HB4 := Lib.hid (HB3.out.trans (hb4.mono HB3.out.size))
        clear hb4
        go_wp2_with fail
        go_ret2
        exact ⟨by rw [HE.out]; rfl, HB4.out⟩
      | true =>
        have HE := Lib.hid (HEy2.out hf)
        rw [hf] at HFt
        clear hf
        go_wp2_with fail
        refine HFt.out.mono ?_
        rintro e w4 ⟨rfl, hb4⟩
        have HB4 := Lib.hid (HB3.out.trans (hb4.mono HB3.out.size))
        have HWe := Lib.hid (weightP_any C (pn : Int) (Ln : Int) a3 c3 (P.sel S (P.idx l)) w4 (by simp [P.sel, HLn.out]; omega) (sel_wt HV.out HLt.out) (HJ3.out.on hb4))
        clear hb4
        go_wp2_with fail
        refine HWe.out.mono ?_
        rintro e w5 ⟨rfl, hb5⟩
        have HB5 := Lib.hid (HB4.out.trans (hb5.mono HB4.out.size))
        clear hb5
        go_wp2_with fail
        go_ret2
        exact ⟨by rw [HE.out, wsum_sel]; rfl, HB5.out⟩
  · have HE := Lib.hid (struckE_bad (l := l) hc)
    have hc' := ne_bool hc
    generalize P.checkJob p L S = C at *
    go_enter Try.func34, Try.ntmps34
    go_wp2_with fail
    refine HO.out.mono ?_
    rintro e w1 ⟨hcase, hb1⟩
    rcases hcase with ⟨-, rfl⟩ | ⟨h, -⟩
    · have HB1 := Lib.hid (HB0.out.trans (hb1.mono HB0.out.size))
      clear hb1 HO
      go_wp2_with fail
      go_ret2
      exact ⟨by rw [HE.out]; rfl, HB1.out⟩
    · exact absurd h hc
end Go.Proofs.Ytpkffjcmoghaaaa
/- Walks of the program's functions: the weight of a choice, in three calls; Kind. -/
namespace Go.Proofs.Ytpkffjcmoghaaaa
open Go.RowKit
theorem openC_one (p L : Int) (S : List P.Star) (i : Int) : openC p L S [i] = P.starred p L S i := by
  unfold openC P.starred
  by_cases h : P.checkJob p L S = 0
  · rw [if_neg (not_not_intro h), if_neg (not_not_intro h)]
    unfold withinB
    by_cases h2 : i < 0 ∨ (S.length : Int) ≤ i
    · have h3 : ¬ (0 ≤ i ∧ i ≤ (S.length : Int) - 1) := by omega
      rw [if_pos h2]; simp [h3]
    · have h3 : 0 ≤ i ∧ i ≤ (S.length : Int) - 1 := by omega
      rw [if_neg h2]; simp [h3]
  · rw [if_pos h, if_pos h]
/-- What choose gives, weighed: the three calls from whatever world. -/
structure Weighs (B : Nat) (pn Ln : Nat) (a : Option Addr) (cap : Nat) (S : List P.Star) (gv : List Nat) (wo : Int) : Prop where
  choose : ∀ W ag cg, Job W B (pn : Int) (Ln : Int) a cap S → Ints .i64 W ag (intsN gv) → Calls Try.prog 71 #[.pointer (some ⟨B, 0, none⟩), .slice ag gv.length cg, .int .i64 wo] W fun e w' => ∃ a2 c2, e = .returned (.slice a2 (P.chosen S pn Ln gv wo).length c2) ∧ Ints .i64 w' a2 (intsN (P.chosen S pn Ln gv wo)) ∧ Below W.heap.size W w'
  some_ : ∀ W a2 c2, Job W B (pn : Int) (Ln : Int) a cap S → Ints .i64 W a2 (intsN (P.chosen S pn Ln gv wo)) → Calls Try.prog 66 #[.pointer (some ⟨B, 0, none⟩), .slice a2 (P.chosen S pn Ln gv wo).length c2] W fun e w' => ∃ C a3 c3, e = .returned (.pointer (some ⟨C, 0, none⟩)) ∧ Job w' C (pn : Int) (Ln : Int) a3 c3 (P.sel S (P.chosen S pn Ln gv wo)) ∧ Below W.heap.size W w'
  weight : ∀ W C a3 c3, Job W C (pn : Int) (Ln : Int) a3 c3 (P.sel S (P.chosen S pn Ln gv wo)) → Calls Try.prog 67 #[.pointer (some ⟨C, 0, none⟩)] W fun e w' => e = .returned (.int .i64 (P.weigh S (P.chosen S pn Ln gv wo))) ∧ Below W.heap.size W w'
theorem weighs (B : Nat) {pn Ln : Nat} (a : Option Addr) (cap : Nat) {S : List P.Star} {gv : List Nat} (wo : Int) (hv : P.Valid pn Ln S) (hg : P.Set_ S pn Ln gv) : Weighs B pn Ln a cap S gv wo := by
  have hO := out_chosen hg wo
  have hl := hv.len
  have hlo := hO.len
  refine ⟨fun W ag cg hJ hI => ?_, fun W a2 c2 hJ hI => ?_, fun W C a3 c3 hJ => ?_⟩
  · refine (chooseP_any B pn Ln a cap S ag cg gv wo W hJ hv ⟨hg.inn, hg.nd⟩ hI).mono ?_
    rintro e w' ⟨v, rfl, hown, hb⟩
    obtain ⟨-, a2, c2, rfl, hi, -⟩ := Ints.of_ownsRow hown
    exact ⟨a2, c2, rfl, hi, hb⟩
  · refine (someP_any B (pn : Int) (Ln : Int) a cap S a2 c2 (P.chosen S pn Ln gv wo) W (by omega) (by omega) hJ hI hO.lt).mono ?_
    rintro e w' ⟨C, a3, c3, rfl, hJ3, -, hb⟩
    exact ⟨C, a3, c3, rfl, hJ3, hb⟩
  · have h := weightP_any C (pn : Int) (Ln : Int) a3 c3 (P.sel S (P.chosen S pn Ln gv wo)) W (by simp [P.sel]; omega) (sel_wt hv hO.lt) hJ
    rw [wsum_sel] at h
    exact h
set_option maxRecDepth 20000 in
set_option maxHeartbeats 2000000 in
theorem kind_any (a : Option Addr) (cap : Nat) (p L : Int) (S : List P.Star) (i : Int) (w : World) (hl : S.length ≤ 1000000) (ha : Stars w a S) :
    Calls Try.prog 40 #[jobV p L a S.length cap, .int .i64 i] w fun e w' => e = .returned (.tuple #[.int .i64 (P.kindE p L S i).1, .int .i64 (P.kindE p L S i).2]) ∧ Below w.heap.size w w' := by
  have hsz0 : w.heap.size ≤ (w.alloc (.cells #[.int .i64 p, .int .i64 L, .slice a S.length cap] 24)).heap.size := by simp
  have HB0 := Lib.hid ((Below.new w (.cells #[.int .i64 p, .int .i64 L, .slice a S.length cap] 24)).alloc hsz0 (.cells #[.int .i64 i] 3))
  have HS0 := Lib.hid ((ha.alloc (.cells #[.int .i64 p, .int .i64 L, .slice a S.length cap] 24)).alloc (.cells #[.int .i64 i] 3))
  have hi1 : Ints .i64 ((w.alloc (.cells #[.int .i64 p, .int .i64 L, .slice a S.length cap] 24)).alloc (.cells #[.int .i64 i] 3)) (some ⟨w.heap.size + 1, 0, none⟩) [i] := by
    intro j hj
    have : j = 0 := by simp at hj; omega
    subst this
    refine ⟨w.heap.size + 1, 0, rfl, ?_⟩
    have := cell_new1 (w.alloc (.cells #[.int .i64 p, .int .i64 L, .slice a S.length cap] 24)) (.int .i64 i) 3
    rw [World.size_alloc] at this
    simp [nth]
  have HO := Lib.hid (open_any a cap p L S (some ⟨w.heap.size + 1, 0, none⟩) 1 [i] _ hl (by simp) HS0.out hi1)
  clear ha hi1 hsz0
  rw [openC_one] at HO
  by_cases hc : P.starred p L S i = 0
  · obtain ⟨hv, hi0, hin⟩ := starred_zero hc
    have HE := Lib.hid (kindE_ok hc)
    rw [hc] at HO
    obtain ⟨pn, rfl⟩ := Int.eq_ofNat_of_zero_le (show 0 ≤ p by have := hv.p1; omega)
    obtain ⟨Ln, rfl⟩ := Int.eq_ofNat_of_zero_le (show 0 ≤ L by have := hv.l1; omega)
    obtain ⟨m, rfl⟩ := Int.eq_ofNat_of_zero_le hi0
    clear hc
    go_enter Try.func40, Try.ntmps40
    go_wp2_with fail
    refine HO.out.mono ?_
    rintro e w1 ⟨hcase, hb1⟩
    rcases hcase with ⟨h, -⟩ | ⟨-, B, rfl, hcl, -⟩
    · exact absurd rfl h
    have HB1 := Lib.hid (HB0.out.trans (hb1.mono HB0.out.size))
    have HJ1 := Lib.hid (hcl.job (HS0.out.below hb1))
    have HX := weighs B a cap (-1) hv (P.set_nil hv)
    have HY := weighs B a cap (m : Int) hv (P.set_nil hv)
    clear hb1 hcl HO HB0 HS0
    go_wp2_with fail
    refine (HX.choose _ none 0 HJ1.out (Ints.nil _ _ _)).mono ?_
    rintro e wa1 ⟨a2, c2, rfl, hi2, hb2⟩
    have HJa1 := Lib.hid (HJ1.out.on hb2)
    have HBa1 := Lib.hid (HB1.out.trans (hb2.mono HB1.out.size))
    have HIa1 := Lib.hid hi2
    clear hb2 hi2
    go_wp2_with fail
    refine (HX.some_ _ a2 c2 HJa1.out HIa1.out).mono ?_
    rintro e wb1 ⟨C3, a3, c3, rfl, hj3, hb3⟩
    have HJb1 := Lib.hid (HJa1.out.on hb3)
    have HBb1 := Lib.hid (HBa1.out.trans (hb3.mono HBa1.out.size))
    have HK1 := Lib.hid hj3
    clear hb3 hj3 HJa1 HBa1 HIa1
    go_wp2_with fail
    refine (HX.weight _ C3 a3 c3 HK1.out).mono ?_
    rintro e wc1 ⟨rfl, hb4⟩
    have HJ2 := Lib.hid (HJb1.out.on hb4)
    have HB2 := Lib.hid (HBb1.out.trans (hb4.mono HBb1.out.size))
    clear hb4 HJb1 HBb1 HK1
    go_wp2_with fail
    refine (HY.choose _ none 0 HJ2.out (Ints.nil _ _ _)).mono ?_
    rintro e wa2 ⟨a2, c2, rfl, hi2, hb2⟩
    have HJa2 := Lib.hid (HJ2.out.on hb2)
    have HBa2 := Lib.hid (HB2.out.trans (hb2.mono HB2.out.size))
    have HIa2 := Lib.hid hi2
    clear hb2 hi2
    go_wp2_with fail
    refine (HY.some_ _ a2 c2 HJa2.out HIa2.out).mono ?_
    rintro e wb2 ⟨C3, a3, c3, rfl, hj3, hb3⟩
    have HJb2 := Lib.hid (HJa2.out.on hb3)
    have HBb2 := Lib.hid (HBa2.out.trans (hb3.mono HBa2.out.size))
    have HK2 := Lib.hid hj3
    clear hb3 hj3 HJa2 HBa2 HIa2
    go_wp2_with fail
    refine (HY.weight _ C3 a3 c3 HK2.out).mono ?_
    rintro e wc2 ⟨rfl, hb4⟩
    have HJ3 := Lib.hid (HJb2.out.on hb4)
    have HB3 := Lib.hid (HBb2.out.trans (hb4.mono HBb2.out.size))
    clear hb4 HJb2 HBb2 HK2
    have hmS : m < S.length := by omega
    have HE2 : Hid (P.kindE pn Ln S (m : Int) = (if P.weigh S (P.chosen S pn Ln [] (m : Int)) < P.weigh S (P.chosen S pn Ln [] (-1)) then 2 else if P.weigh S (P.chosen S pn Ln [m] (-1)) = P.weigh S (P.chosen S pn Ln [] (-1)) then 1 else 0, 0)) := Lib.hid (by rw [HE.out]; rfl)
    by_cases h2 : P.weigh S (P.chosen S pn Ln [] (m : Int)) < P.weigh S (P.chosen S pn Ln [] (-1))
    · have HE3 : Hid (P.kindE pn Ln S (m : Int) = (2, 0)) := Lib.hid (by rw [HE2.out, if_pos h2])
      go_wp2_with fail
      go_ret2
      exact ⟨by rw [HE3.out]; rfl, HB3.out⟩
    · have HE3 : Hid (P.kindE pn Ln S (m : Int) = (if P.weigh S (P.chosen S pn Ln [m] (-1)) = P.weigh S (P.chosen S pn Ln [] (-1)) then 1 else 0, 0)) := Lib.hid (by rw [HE2.out, if_neg h2])
      have hbn := Below.new wc2 (.cells #[.int .i64 (m : Int)] 3)
      have HJ4 := Lib.hid (HJ3.out.on hbn)
      have HB4 := Lib.hid (HB3.out.trans (hbn.mono HB3.out.size))
      have HZ := weighs B a cap (-1) hv (P.set_one hv hmS)
      have hi4 : Ints .i64 (wc2.alloc (.cells #[.int .i64 (m : Int)] 3)) (some ⟨wc2.heap.size, 0, none⟩) (intsN [m]) := by
        intro j hj
        have : j = 0 := by simp [intsN] at hj; omega
        subst this
        exact ⟨wc2.heap.size, 0, rfl, by simp [nth, intsN]⟩
      clear hbn HX HY
      go_wp2_with fail
      refine (HZ.choose _ (some ⟨wc2.heap.size, 0, none⟩) 1 HJ4.out hi4).mono ?_
      rintro e wa4 ⟨a2, c2, rfl, hi2, hb2⟩
      have HJa4 := Lib.hid (HJ4.out.on hb2)
      have HBa4 := Lib.hid (HB4.out.trans (hb2.mono HB4.out.size))
      have HIa4 := Lib.hid hi2
      clear hb2 hi2 hi4
      go_wp2_with fail
      refine (HZ.some_ _ a2 c2 HJa4.out HIa4.out).mono ?_
      rintro e wb4 ⟨C3, a3, c3, rfl, hj3, hb3⟩
      have HBb4 := Lib.hid (HBa4.out.trans (hb3.mono HBa4.out.size))
      have HK4 := Lib.hid hj3
      clear hb3 hj3 HJa4 HBa4 HIa4
      go_wp2_with fail
      refine (HZ.weight _ C3 a3 c3 HK4.out).mono ?_
      rintro e wc4 ⟨rfl, hb4⟩
      have HB5 := Lib.hid (HBb4.out.trans (hb4.mono HBb4.out.size))
      clear hb4 HBb4 HK4
      by_cases h3 : P.weigh S (P.chosen S pn Ln [m] (-1)) = P.weigh S (P.chosen S pn Ln [] (-1))
      · have HE4 : Hid (P.kindE pn Ln S (m : Int) = (1, 0)) := Lib.hid (by rw [HE3.out, if_pos h3])
        have h3b : (P.weigh S (P.chosen S pn Ln [m] (-1)) == P.weigh S (P.chosen S pn Ln [] (-1))) = true := by simp [h3]
        clear h3
        generalize P.weigh S (P.chosen S pn Ln [m] (-1)) = X at *
        generalize P.weigh S (P.chosen S pn Ln [] (-1)) = Y at *
        go_wp2_with fail
        go_ret2
        exact ⟨by rw [HE4.out]; rfl, HB5.out⟩
      · have HE4 : Hid (P.kindE pn Ln S (m : Int) = (0, 0)) := Lib.hid (by rw [HE3.out, if_neg h3])
        have h3b : (P.weigh S (P.chosen S pn Ln [m] (-1)) == P.weigh S (P.chosen S pn Ln [] (-1))) = false := by simp [h3]
        clear h3
        generalize P.weigh S (P.chosen S pn Ln [m] (-1)) = X at *
        generalize P.weigh S (P.chosen S pn Ln [] (-1)) = Y at *
        go_wp2_with fail
        go_ret2
        exact ⟨by rw [HE4.out]; rfl, HB5.out⟩
  · have HE := Lib.hid (kindE_bad hc)
    have hc' := ne_bool hc
    generalize P.starred p L S i = C at *
    go_enter Try.func40, Try.ntmps40
    go_wp2_with fail
    refine HO.out.mono ?_
    rintro e w1 ⟨hcase, hb1⟩
    rcases hcase with ⟨-, rfl⟩ | ⟨h, -⟩
    · have HB1 := Lib.hid (HB0.out.trans (hb1.mono HB0.out.size))
      clear hb1 HO
      go_wp2_with fail
      go_ret2
      exact ⟨by rw [HE.out]; rfl, HB1.out⟩
    · exact absurd h hc
end Go.Proofs.Ytpkffjcmoghaaaa
/- Walks of the program's functions: Chosen. -/
namespace Go.Proofs.Ytpkffjcmoghaaaa
open Go.RowKit
theorem msort_eq {S : List P.Star} {I : List Nat} (hn : I.Nodup) (hi : ∀ i ∈ I, i < S.length) : (intsN I).mergeSort (fun x y => decide (x ≤ y)) = intsN (P.sorted S I) := by
  have h1 := List.pairwise_mergeSort (le := fun x y : Int => decide (x ≤ y)) (fun a b c h1 h2 => by simp at *; omega) (fun a b => by simp; omega) (intsN I)
  have h2 : (intsN (P.sorted S I)).Pairwise fun x y => decide (x ≤ y) = true := by
    unfold intsN
    rw [List.pairwise_map]
    exact (P.sorted_lt S I).imp fun h => by simp; omega
  have hp : ((intsN I).mergeSort (fun x y => decide (x ≤ y))).Perm (intsN (P.sorted S I)) := (List.mergeSort_perm _ _).trans ((P.sorted_perm hn hi).symm.map _)
  exact List.Perm.eq_of_pairwise (fun a b _ _ h1 h2 => by simp at h1 h2; omega) h1 h2 hp
/-- slices.Sort of a row of indexes of the call's own. -/
theorem sortI_any (g cap : Nat) (I : List Nat) (w : World) (S : List P.Star) (hO : Ord w g cap I) (hn : I.Nodup) (hi : ∀ i ∈ I, i < S.length) (hl : I.length ≤ 16) :
    Calls Try.prog 72 #[.slice (some ⟨g, 0, none⟩) I.length cap] w fun e w' => e = .returned (.tuple #[]) ∧ Ints .i64 w' (some ⟨g, 0, none⟩) (intsN (P.sorted S I)) ∧ w.grownBy w' (some g) := by
  have h := lay_slices_Sort_int g 0 cap (intsN I) w hO.holds hO.lt (by rw [intsN_length]; omega)
  rw [intsN_length, msort_eq hn hi] at h
  refine h.mono ?_
  rintro e w' ⟨rfl, n, os, rfl⟩
  have hlen : (intsN (P.sorted S I)).length = (intsN I).length := by rw [intsN_length, intsN_length, (P.sorted_perm hn hi).length_eq]
  have hH0 : Sort.Holds (Value.int .i64) (Sort.ahead w n) g 0 (intsN I).toArray := fun j hj => hO.holds j hj
  have hH := Sort.holds_putRow _ _ _ _ _ (intsN (P.sorted S I)).toArray hH0 (by simpa using hlen)
  have hgr := grownBy_putRow (Value.int .i64) w n g 0 (intsN (P.sorted S I)).toArray
  have hsz : g < (Go.Sort.putRow (Value.int .i64) (Sort.ahead w n) g 0 (intsN (P.sorted S I)).toArray).heap.size := Nat.lt_of_lt_of_le hO.lt hgr.size
  refine ⟨rfl, fun j hj => ⟨g, 0, rfl, ?_⟩, ?_⟩
  · have h1 := (hH j (by simpa using hj)).1
    have h2 : (Go.Sort.grow (Go.Sort.putRow (Value.int .i64) (Sort.ahead w n) g 0 (intsN (P.sorted S I)).toArray) os).cell? ⟨g, 0 + j, none⟩ = _ := (Go.Sort.cell?_grow _ _ _ hsz).trans h1
    rw [h2]; simp [nth, hj]
  · exact grownBy_sortWorld (Value.int .i64) w g 0 n _ os
end Go.Proofs.Ytpkffjcmoghaaaa
/- Walks of the program's functions: Chosen. -/
namespace Go.Proofs.Ytpkffjcmoghaaaa
open Go.RowKit
theorem Ints.news {k : IntKind} {w : World} {ad : Addr} {zs : List Int} (h : Ints k w (some ad) zs) : ∀ j u, (zs.map (Value.int k))[j]? = some u → w.cell? (ad.add j) = some u := by
  intro j u hj
  have hlt : j < zs.length := by have := (List.getElem?_eq_some_iff.1 hj).1; simpa using this
  obtain ⟨b, off, e, c⟩ := h j hlt
  cases e
  rw [addr_add, c]
  simp [hlt] at hj
  rw [← hj, nth_eq zs j hlt]
theorem fewestE_bad {p L : Int} {S : List P.Star} (h : P.checkJob p L S ≠ 0) : P.fewestE p L S = (0, P.checkJob p L S) := by unfold P.fewestE; rw [if_pos h]
theorem fewestE_ok {p L : Int} {S : List P.Star} (h : P.checkJob p L S = 0) : P.fewestE p L S = ((P.fewest S L : Int), 0) := by unfold P.fewestE; rw [if_neg (not_not_intro h)]
theorem alloc_new (w : World) (o : Obj) : (w.alloc o).heap[w.heap.size]? = some o := by show (w.heap.push o)[w.heap.size]? = some o; simp
/-- A list and a code were returned. -/
def GaveL (w w' : World) (e : Ending) (l : List Int) (c : Int) : Prop := ∃ a2 c2, e = .returned (.tuple #[.slice a2 l.length c2, .int .i64 c]) ∧ Ints .i64 w' a2 l ∧ Below w.heap.size w w'
theorem GaveL.of_owns {w w' : World} {base : Nat} {v : Value} {n : Nat} {l : List Int} {c : Int} (h : w'.ownsRow base 3 1 v n (l.map (.int .i64))) (hb : Below w.heap.size w w') : GaveL w w' (.returned (.tuple #[v, .int .i64 c])) l c := by
  obtain ⟨rfl, a2, c2, rfl, hi, -⟩ := Ints.of_ownsRow h
  exact ⟨a2, c2, rfl, hi, hb⟩
theorem refPlanG (a : Option Addr) (cap : Nat) (p L : Int) (S : List P.Star) (w : World) (hl : S.length ≤ 1000000) (ha : Stars w a S) :
    Calls Try.prog 24 #[jobV p L a S.length cap] w fun e w' => GaveL w w' e (P.planE p L S).1 (P.planE p L S).2 :=
  (refPlan_any a cap p L S w hl ha).mono fun e w' ⟨v, he, ho, hb⟩ => by subst he; exact GaveL.of_owns ho hb
theorem refTimesG (a : Option Addr) (cap : Nat) (p L : Int) (S : List P.Star) (i : Int) (w : World) (hl : S.length ≤ 1000000) (ha : Stars w a S) :
    Calls Try.prog 28 #[jobV p L a S.length cap, .int .i64 i] w fun e w' => GaveL w w' e (P.timesE p L S i).1 (P.timesE p L S i).2 :=
  (refTimes_any a cap p L S i w hl ha).mono fun e w' ⟨v, he, ho, hb⟩ => by subst he; exact GaveL.of_owns ho hb
theorem refChosenG (a : Option Addr) (cap : Nat) (p L : Int) (S : List P.Star) (w : World) (hl : S.length ≤ 1000000) (ha : Stars w a S) :
    Calls Try.prog 37 #[jobV p L a S.length cap] w fun e w' => GaveL w w' e (P.chosenE p L S).1 (P.chosenE p L S).2 :=
  (refChosen_any a cap p L S w hl ha).mono fun e w' ⟨v, he, ho, hb⟩ => by subst he; exact GaveL.of_owns ho hb
theorem len64_zero (w : World) : Calls Try.prog 108 #[.int .u64 0] w fun e w' => e = .returned (.int .i64 0) ∧ w = w' := by
  go_enter Try.func108, Try.ntmps108
  go_wp2_with fail
  go_ret
  exact ⟨by kernel_rfl, rfl⟩
theorem len_zero (w : World) : Calls Try.prog 88 #[.int .u64 0] w fun e w' => e = .returned (.int .i64 0) ∧ w = w' := by
  go_enter Try.func88, Try.ntmps88
  go_wp2_with fail
  refine (len64_zero w).mono ?_
  rintro e w' ⟨rfl, rfl⟩
  go_wp2_with fail
  go_ret
  exact ⟨rfl, rfl⟩
theorem insNone (p : Option Addr) (cap : Nat) (w : World) : Calls Try.prog 98 #[.slice p 0 cap, .int .i64 0, .int .i64 0] w fun e w' => e = .returned (.tuple #[]) ∧ w = w' := by
  go_enter Try.func98, Try.ntmps98
  go_wp2_with fail
  refine wp_loop_rounds 1 ?_
  rw [rounds_succ]
  go_wp2_with fail
  go_end0
  exact ⟨rfl, rfl⟩
theorem pdqNone (p : Option Addr) (cap : Nat) (w : World) : Calls Try.prog 87 #[.slice p 0 cap, .int .i64 0, .int .i64 0, .int .i64 0] w fun e w' => e = .returned (.tuple #[]) ∧ w = w' := by
  go_enter Try.func87, Try.ntmps87
  go_wp2_with fail
  refine wp_loop_rounds 1 ?_
  rw [rounds_succ]
  go_wp2_with fail
  refine (insNone p cap w).mono ?_
  rintro e w' ⟨rfl, rfl⟩
  go_wp2_with fail
  (try simp only [Exit.inBlock, Exit.then]); refine bodyPost_ret (results_none rfl _ _ _) rfl ?_
  exact ⟨rfl, rfl⟩
theorem sortNone (p : Option Addr) (cap : Nat) (w : World) : Calls Try.prog 72 #[.slice p 0 cap] w fun e w' => e = .returned (.tuple #[]) ∧ w = w' := by
  go_enter Try.func72, Try.ntmps72
  go_wp2_with fail
  refine (len_zero w).mono ?_
  rintro e w' ⟨rfl, rfl⟩
  go_wp2_with fail
  refine (pdqNone p cap w).mono ?_
  rintro e w' ⟨rfl, rfl⟩
  go_wp2_with fail
  go_end0
  exact ⟨rfl, rfl⟩
theorem sorted_nil (S : List P.Star) : P.sorted S [] = [] := by simp [P.sorted]
/-- slices.Sort of a row of the call's own, none at all too. -/
theorem sortAny {base : Nat} {v : Value} {I : List Nat} {w : World} (S : List P.Star) (hown : w.ownsRow base 3 1 v I.length ((intsN I).map (.int .i64))) (hn : I.Nodup) (hi : ∀ i ∈ I, i < S.length) (hl : I.length ≤ 16) (hB : base ≤ w.heap.size) :
    Calls Try.prog 72 #[v] w fun e w' => e = .returned (.tuple #[]) ∧ (∃ a2 c2, v = .slice a2 (P.sorted S I).length c2 ∧ Ints .i64 w' a2 (intsN (P.sorted S I))) ∧ Below base w w' := by
  have hown0 := hown
  rcases hown.2 with ⟨rfl, h0⟩ | ⟨g, cap, cur, rfl, hb, hg, hle, hm, hs, ht⟩
  · have hI : I = [] := List.eq_nil_of_length_eq_zero h0
    subst hI
    refine (sortNone none 0 w).mono ?_
    rintro e w' ⟨rfl, rfl⟩
    exact ⟨rfl, ⟨none, 0, by rw [sorted_nil]; rfl, by rw [sorted_nil]; exact Ints.nil _ _ _⟩, Below.refl _ _⟩
  · have hR : Row3 w base g cap I := hown0
    refine (sortI_any g cap I w S (Ord.of_row hR) hn hi hl).mono ?_
    rintro e w' ⟨rfl, hi', hgr⟩
    exact ⟨rfl, ⟨some ⟨g, 0, none⟩, cap, by rw [(P.sorted_perm hn hi).length_eq], hi'⟩, (Below.refl _ _).grown hgr hB (fun k e => by cases e; exact hb)⟩
set_option maxRecDepth 20000 in
set_option maxHeartbeats 2000000 in
theorem chosen_any (a : Option Addr) (cap : Nat) (p L : Int) (S : List P.Star) (w : World) (hl : S.length ≤ 1000000) (ha : Stars w a S) :
    Calls Try.prog 36 #[jobV p L a S.length cap] w fun e w' => GaveL w w' e (P.chosenE p L S).1 (P.chosenE p L S).2 := by
  have HB0 := Lib.hid (Below.new w (.cells #[.int .i64 p, .int .i64 L, .slice a S.length cap] 24))
  have HO := Lib.hid (open_any a cap p L S none 0 [] _ hl (by simp) (ha.alloc (.cells #[.int .i64 p, .int .i64 L, .slice a S.length cap] 24)) (Ints.nil _ _ _))
  have HS0 := Lib.hid (ha.alloc (.cells #[.int .i64 p, .int .i64 L, .slice a S.length cap] 24))
  clear ha
  rw [openC_nil] at HO
  by_cases hc : P.checkJob p L S = 0
  · have hv := P.checkJob_iff.1 hc
    have HE := Lib.hid (chosenE_ok hc)
    rw [hc] at HO
    obtain ⟨pn, rfl⟩ := Int.eq_ofNat_of_zero_le (show 0 ≤ p by have := hv.p1; omega)
    obtain ⟨Ln, rfl⟩ := Int.eq_ofNat_of_zero_le (show 0 ≤ L by have := hv.l1; omega)
    have HV := Lib.hid hv
    clear hc hv
    go_enter Try.func36, Try.ntmps36
    go_wp2_with fail
    refine HO.out.mono ?_
    rintro e w1 ⟨hcase, hb1⟩
    rcases hcase with ⟨h, -⟩ | ⟨-, B, rfl, hcl, -⟩
    · exact absurd rfl h
    have HB1 := Lib.hid (HB0.out.trans (hb1.mono HB0.out.size))
    have HJ1 := Lib.hid (hcl.job (HS0.out.below hb1))
    clear hb1 hcl HO
    have HCh := Lib.hid (chooseP_any B pn Ln a cap S none 0 [] (-1) w1 HJ1.out HV.out ⟨fun j h => by simp at h, List.nodup_nil⟩ (Ints.nil _ _ _))
    go_wp2_with fail
    refine HCh.out.mono ?_
    rintro e w2 ⟨v2, rfl, hown2, hb2⟩
    have hOut := out_chosen (P.set_nil HV.out) (-1)
    have hl16 := HV.out.len
    have HSo := Lib.hid (sortAny S hown2 hOut.nd hOut.lt (by have := hOut.len; omega) hb2.size)
    have HB2 := Lib.hid (HB1.out.trans (hb2.mono HB1.out.size))
    have HZ := Lib.hid hb2.size
    have HZ1 := Lib.hid HB1.out.size
    clear hown2 hb2 HCh hl16 hOut
    go_wp2_with fail
    refine HSo.out.mono ?_
    rintro e w3 ⟨rfl, ⟨a2, c2, rfl, hi3⟩, hb3⟩
    have HB3 := Lib.hid (HB2.out.trans (hb3.mono HZ1.out))
    have HI3 := Lib.hid hi3
    clear hb3 hi3 HSo
    go_wp2_with fail
    go_ret2
    refine ⟨a2, c2, ?_, ?_, HB3.out⟩
    · rw [HE.out]; show _ = Ending.returned (.tuple #[.slice a2 (intsN (P.sorted S (P.chosen S pn Ln [] (-1)))).length c2, .int .i64 0]); rw [intsN_length]; first | done | rfl
    · rw [HE.out]; exact HI3.out
  · have HE := Lib.hid (chosenE_bad hc)
    have hc' := ne_bool hc
    generalize P.checkJob p L S = C at *
    go_enter Try.func36, Try.ntmps36
    go_wp2_with fail
    refine HO.out.mono ?_
    rintro e w1 ⟨hcase, hb1⟩
    rcases hcase with ⟨-, rfl⟩ | ⟨h, -⟩
    · have HB1 := Lib.hid (HB0.out.trans (hb1.mono HB0.out.size))
      clear hb1 HO
      go_wp2_with fail
      go_ret2
      exact ⟨none, 0, by rw [HE.out]; rfl, by rw [HE.out]; exact Ints.nil _ _ _, HB1.out⟩
    · exact absurd h hc
end Go.Proofs.Ytpkffjcmoghaaaa
/- Walks of the program's functions: CheckWindow. -/
namespace Go.Proofs.Ytpkffjcmoghaaaa
open Go.RowKit
theorem windowE_bad {p L : Int} {S : List P.Star} {x y : Int} (h : P.checkJob p L S ≠ 0) : P.windowE p L S x y = (0, P.checkJob p L S) := by unfold P.windowE; rw [if_pos h]
theorem windowE_arg {p L : Int} {S : List P.Star} {x y : Int} (h : P.checkJob p L S = 0) (h2 : ¬ (0 ≤ x ∧ x ≤ y ∧ y < L)) : P.windowE p L S x y = (0, 2) := by unfold P.windowE; rw [if_neg (not_not_intro h), if_pos h2]
theorem windowE_sum {p L : Int} {S : List P.Star} {x y : Int} (h : P.checkJob p L S = 0) (h2 : 0 ≤ x ∧ x ≤ y ∧ y < L) (h3 : (P.cnt S x y : Int) ≤ p * (y - x + 1)) : P.windowE p L S x y = (0, 14) := by unfold P.windowE; rw [if_neg (not_not_intro h), if_neg (not_not_intro h2), if_pos h3]
theorem windowE_ok {p L : Int} {S : List P.Star} {x y : Int} (h : P.checkJob p L S = 0) (h2 : 0 ≤ x ∧ x ≤ y ∧ y < L) (h3 : ¬ (P.cnt S x y : Int) ≤ p * (y - x + 1)) : P.windowE p L S x y = ((P.cnt S x y : Int), 0) := by unfold P.windowE; rw [if_neg (not_not_intro h), if_neg (not_not_intro h2), if_neg h3]
theorem mul_bd {p d : Int} (h1 : 0 ≤ p) (h2 : p ≤ 5) (h3 : 0 ≤ d) (h4 : d ≤ 20) : 0 ≤ p * d ∧ p * d ≤ 100 := by
  refine ⟨Int.mul_nonneg h1 h3, ?_⟩
  have := Int.mul_le_mul h2 h4 h3 (by omega)
  omega
set_option maxRecDepth 20000 in
set_option maxHeartbeats 2000000 in
theorem checkWindow_any (a : Option Addr) (cap : Nat) (p L : Int) (S : List P.Star) (x y : Int) (w : World) (hl : S.length ≤ 1000000) (ha : Stars w a S) :
    Calls Try.prog 30 #[jobV p L a S.length cap, .int .i64 x, .int .i64 y] w fun e w' => e = .returned (.tuple #[.int .i64 (P.windowE p L S x y).1, .int .i64 (P.windowE p L S x y).2]) ∧ Below w.heap.size w w' := by
  have HB0 := Lib.hid (Below.new w (.cells #[.int .i64 p, .int .i64 L, .slice a S.length cap] 24))
  have HO := Lib.hid (open_any a cap p L S none 0 [] _ hl (by simp) (ha.alloc (.cells #[.int .i64 p, .int .i64 L, .slice a S.length cap] 24)) (Ints.nil _ _ _))
  have HS0 := Lib.hid (ha.alloc (.cells #[.int .i64 p, .int .i64 L, .slice a S.length cap] 24))
  have HC0 := Lib.hid (Cells.new w #[.int .i64 p, .int .i64 L, .slice a S.length cap] 24)
  clear ha
  rw [openC_nil] at HO
  by_cases hc : P.checkJob p L S = 0
  · have hv := P.checkJob_iff.1 hc
    have HZc := Lib.hid hc
    rw [hc] at HO
    have HV := Lib.hid hv
    have hL1 := hv.l1
    have hL20 := hv.l20
    have kL : IntKind.i64.wrap (L - 1) = L - 1 := IntWalk.i64_in _ (by omega)
    clear hc hv
    by_cases g1 : 0 ≤ x ∧ x ≤ y
    · by_cases g2 : x ≤ y ∧ y ≤ L - 1
      · have k1 := g1.1
        have k2 := g1.2
        go_enter Try.func30, Try.ntmps30
        go_wp2_with fail
        refine HO.out.mono ?_
        rintro e w1 ⟨hcase, hb1⟩
        rcases hcase with ⟨h, -⟩ | ⟨-, B, rfl, hcl, hge⟩
        · exact absurd rfl h
        have HB1 := Lib.hid (HB0.out.trans (hb1.mono HB0.out.size))
        have HJ1 := Lib.hid (hcl.job (HS0.out.below hb1))
        have HS1 := Lib.hid (HS0.out.below hb1)
        have HC1 := Lib.hid (HC0.out.on hb1)
        have HU1 := Lib.hid hcl
        have HGe := Lib.hid hge
        clear hb1 hcl HO HB0 HS0 HC0 hge
        have d1 := within_one 0 y x (w1.alloc (.cells #[.int .i64 x] 3)) w1.heap.size (cell_new1 _ _ _)
        rw [decide_eq_true g1] at d1
        have D1 := Lib.hid d1
        clear d1
        go_wp2_with fail
        refine D1.out.mono ?_
        rintro e w2 ⟨rfl, hb2⟩
        have hbn : Below w1.heap.size w1 w2 := ((Below.refl _ _).alloc (Nat.le_refl _) (.cells #[.int .i64 x] 3)).trans (hb2.mono (by simp))
        have HB2 := Lib.hid (HB1.out.trans (hbn.mono HB1.out.size))
        have HJ3 := Lib.hid (HJ1.out.on hbn)
        have HS4 := Lib.hid (HS1.out.below hbn)
        have HC5 := Lib.hid (HC1.out.on hbn)
        have HU6 := Lib.hid (HU1.out.on hbn)
        clear hb2 hbn D1
        have x7 := HC5.out.cel 1 _ rfl
        have g3 : 0 ≤ x ∧ x ≤ y ∧ y < L := ⟨k1, k2, by omega⟩
        have d2 := within_one x (L - 1) y (w2.alloc (.cells #[.int .i64 y] 3)) w2.heap.size (cell_new1 _ _ _)
        rw [decide_eq_true g2] at d2
        have D2 := Lib.hid d2
        clear d2 g1 g2
        go_wp2_with fail
        refine D2.out.mono ?_
        rintro e w3 ⟨rfl, hb2⟩
        have hbn : Below w2.heap.size w2 w3 := ((Below.refl _ _).alloc (Nat.le_refl _) (.cells #[.int .i64 y] 3)).trans (hb2.mono (by simp))
        have HB8 := Lib.hid (HB2.out.trans (hbn.mono HB2.out.size))
        have HJ9 := Lib.hid (HJ3.out.on hbn)
        have HS10 := Lib.hid (HS4.out.below hbn)
        have HC11 := Lib.hid (HC5.out.on hbn)
        have HU12 := Lib.hid (HU6.out.on hbn)
        clear x7
        clear hb2 hbn D2
        have HHas := Lib.hid (hasP_any B p L a cap S x y w3 hl HJ9.out)
        go_wp2_with fail
        refine (HHas.out).mono ?_
        rintro e w4 ⟨rfl, hb⟩
        have HB13 := Lib.hid (HB8.out.trans (hb.mono HB8.out.size))
        have HJ14 := Lib.hid (HJ9.out.on hb)
        have HS15 := Lib.hid (HS10.out.below hb)
        have HC16 := Lib.hid (HC11.out.on hb)
        have HU17 := Lib.hid (HU12.out.on hb)
        clear hb
        have hcn : P.cnt S x y ≤ 1000000 := Nat.le_trans (cnt_le _ _ _) hl
        have kd : IntKind.i64.wrap (y - x) = y - x := IntWalk.i64_in _ (by omega)
        have kd1 : IntKind.i64.wrap (y - x + 1) = y - x + 1 := IntWalk.i64_in _ (by omega)
        have kb := mul_bd (p := p) (d := y - x + 1) (by have := HV.out.p1; omega) HV.out.p5 (by omega) (by omega)
        have km : IntKind.i64.wrap (p * (y - x + 1)) = p * (y - x + 1) := IntWalk.i64_in _ (by omega)
        have HG3 := Lib.hid g3
        clear g3 HHas
        have x18 := HC16.out.cel 0 _ rfl
        by_cases g4 : (P.cnt S x y : Int) ≤ p * (y - x + 1)
        · have HE := Lib.hid (windowE_sum HZc.out HG3.out g4)
          generalize (P.cnt S x y : Int) = N at *
          go_wp2_with fail
          go_ret2
          exact ⟨by rw [HE.out]; rfl, HB13.out⟩
        · have HE := Lib.hid (windowE_ok HZc.out HG3.out g4)
          generalize (P.cnt S x y : Int) = N at *
          go_wp2_with fail
          go_ret2
          exact ⟨by rw [HE.out]; rfl, HB13.out⟩
      · have k1 := g1.1
        have k2 := g1.2
        have HE := Lib.hid (windowE_arg (p := p) (L := L) (S := S) (x := x) (y := y) HZc.out (fun h => g2 ⟨h.2.1, by omega⟩))
        go_enter Try.func30, Try.ntmps30
        go_wp2_with fail
        refine HO.out.mono ?_
        rintro e w1 ⟨hcase, hb1⟩
        rcases hcase with ⟨h, -⟩ | ⟨-, B, rfl, hcl, hge⟩
        · exact absurd rfl h
        have HB1 := Lib.hid (HB0.out.trans (hb1.mono HB0.out.size))
        have HJ1 := Lib.hid (hcl.job (HS0.out.below hb1))
        have HS1 := Lib.hid (HS0.out.below hb1)
        have HC1 := Lib.hid (HC0.out.on hb1)
        have HU1 := Lib.hid hcl
        have HGe := Lib.hid hge
        clear hb1 hcl HO HB0 HS0 HC0 hge
        have d1 := within_one 0 y x (w1.alloc (.cells #[.int .i64 x] 3)) w1.heap.size (cell_new1 _ _ _)
        rw [decide_eq_true g1] at d1
        have D1 := Lib.hid d1
        clear d1
        go_wp2_with fail
        refine D1.out.mono ?_
        rintro e w2 ⟨rfl, hb2⟩
        have hbn : Below w1.heap.size w1 w2 := ((Below.refl _ _).alloc (Nat.le_refl _) (.cells #[.int .i64 x] 3)).trans (hb2.mono (by simp))
        have HB2 := Lib.hid (HB1.out.trans (hbn.mono HB1.out.size))
        have HJ3 := Lib.hid (HJ1.out.on hbn)
        have HS4 := Lib.hid (HS1.out.below hbn)
        have HC5 := Lib.hid (HC1.out.on hbn)
        have HU6 := Lib.hid (HU1.out.on hbn)
        clear hb2 hbn D1
        have x7 := HC5.out.cel 1 _ rfl
        have d2 := within_one x (L - 1) y (w2.alloc (.cells #[.int .i64 y] 3)) w2.heap.size (cell_new1 _ _ _)
        rw [decide_eq_false g2] at d2
        have D2 := Lib.hid d2
        clear d2 g1 g2
        go_wp2_with fail
        refine D2.out.mono ?_
        rintro e w3 ⟨rfl, hb2⟩
        have hbn : Below w2.heap.size w2 w3 := ((Below.refl _ _).alloc (Nat.le_refl _) (.cells #[.int .i64 y] 3)).trans (hb2.mono (by simp))
        have HB8 := Lib.hid (HB2.out.trans (hbn.mono HB2.out.size))
        have HJ9 := Lib.hid (HJ3.out.on hbn)
        have HS10 := Lib.hid (HS4.out.below hbn)
        have HC11 := Lib.hid (HC5.out.on hbn)
        have HU12 := Lib.hid (HU6.out.on hbn)
        clear x7
        clear hb2 hbn D2
        go_wp2_with fail
        go_ret2
        exact ⟨by rw [HE.out]; rfl, HB8.out⟩
    · have HE := Lib.hid (windowE_arg (p := p) (L := L) (S := S) (x := x) (y := y) HZc.out (fun h => g1 ⟨h.1, h.2.1⟩))
      go_enter Try.func30, Try.ntmps30
      go_wp2_with fail
      refine HO.out.mono ?_
      rintro e w1 ⟨hcase, hb1⟩
      rcases hcase with ⟨h, -⟩ | ⟨-, B, rfl, hcl, hge⟩
      · exact absurd rfl h
      have HB1 := Lib.hid (HB0.out.trans (hb1.mono HB0.out.size))
      have HJ1 := Lib.hid (hcl.job (HS0.out.below hb1))
      have HS1 := Lib.hid (HS0.out.below hb1)
      have HC1 := Lib.hid (HC0.out.on hb1)
      have HU1 := Lib.hid hcl
      have HGe := Lib.hid hge
      clear hb1 hcl HO HB0 HS0 HC0 hge
      have HC22 := Lib.hid (Cells.on HC1.out (Below.new _ (.cells #[.int .i64 x] 3)))
      have d1 := within_one 0 y x (w1.alloc (.cells #[.int .i64 x] 3)) w1.heap.size (cell_new1 _ _ _)
      rw [decide_eq_false g1] at d1
      have D1 := Lib.hid d1
      clear d1
      go_wp2_with fail
      refine D1.out.mono ?_
      rintro e w2 ⟨rfl, hb2⟩
      have HB2 := Lib.hid ((HB1.out.alloc HB1.out.size (.cells #[.int .i64 x] 3)).trans (hb2.mono (by have := HB1.out.size; simp; omega)))
      clear hb2
      go_wp2_with fail
      go_ret2
      exact ⟨by rw [HE.out]; rfl, HB2.out⟩
  · have HE := Lib.hid (windowE_bad (x := x) (y := y) hc)
    have hc' := ne_bool hc
    generalize P.checkJob p L S = C at *
    go_enter Try.func30, Try.ntmps30
    go_wp2_with fail
    refine HO.out.mono ?_
    rintro e w1 ⟨hcase, hb1⟩
    rcases hcase with ⟨-, rfl⟩ | ⟨h, -⟩
    · have HB1 := Lib.hid (HB0.out.trans (hb1.mono HB0.out.size))
      clear hb1 HO
      go_wp2_with fail
      go_ret2
      exact ⟨by rw [HE.out]; rfl, HB1.out⟩
    · exact absurd h hc
end Go.Proofs.Ytpkffjcmoghaaaa
