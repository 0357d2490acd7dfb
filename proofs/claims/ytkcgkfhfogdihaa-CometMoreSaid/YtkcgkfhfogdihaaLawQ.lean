/- Walk of the statement CometMore. -/
import Derived.Test.YtkcgkfhfogdihaaLawU
namespace Go.Proofs.Ytkcgkfhfogdihaa
open Go.RowKit
theorem flat_append (l r : List (Int × Int)) : flat (l ++ r) = flat l ++ flat r := by simp [flat]
theorem flat_one (l : List (Int × Int)) : ∀ u ∈ flat l, u.oneCell' = true := by
  intro u hu
  simp only [flat, List.mem_flatMap] at hu
  obtain ⟨s, -, hu⟩ := hu
  simp at hu
  rcases hu with rfl | rfl <;> rfl
set_option maxRecDepth 100000 in
set_option maxHeartbeats 16000000 in
theorem more_walk (a : Option Addr) (cap : Nat) (deg : Int) (l : List (Int × Int)) (day : Int) (w : World) (hcap : l.length ≤ cap) (ha : Sigs w a l) (hu : (Lit.int .u8 day).wf = true) :
    Calls Try.prog 12 #[.agg #[.int .i64 deg, .slice a l.length cap], .int .u8 day] w fun e w' => e = .returned (.bool true) ∧ Below w.heap.size w w' := by
  have hb0 := Below.new w (.cells #[.int .i64 deg, .slice a l.length cap] 33)
  have HL := Lib.hid (Logged.new ha deg cap 33)
  have HB := Lib.hid hb0
  have HF := fine_any a cap deg l (w.alloc (.cells #[.int .i64 deg, .slice a l.length cap] 33)) (ha.below hb0)
  have hub := u8_bd hu
  clear ha hb0 hu
  by_cases hc : R.checkLog deg l = 0
  · have hv := R.checkLog_zero hc
    rw [decide_eq_true hc] at HF
    have HF := Lib.hid HF
    have HV := Lib.hid hv
    have h12 := hv.len
    have hl2 : l.length ≤ 1000000 := by omega
    obtain ⟨d, rfl⟩ := hv.nat
    have hd3 : d ≤ 3 := by have := hv.d3; omega
    clear hv hc
    by_cases hz : l.length = 0
    · have hzI : ((l.length : Int) == 0) = true := by rw [hz]; rfl
      clear hz
      go_enter Try.func12, Try.ntmps12
      go_wp2_with fail
      refine HF.out.mono ?_
      rintro e w1 ⟨rfl, hb1⟩
      have HB1 := Lib.hid (HB.out.trans (hb1.mono HB.out.size))
      have HL1 := Lib.hid (HL.out.on hb1)
      clear hb1
      have x1 := HL1.out.x1
      have x2 := HL1.out.x2
      go_wp2_with fail
      refine (works_any w1).mono ?_
      rintro e w2 ⟨rfl, hb2⟩
      go_wp2_with fail
      go_ret
      exact ⟨rfl, HB1.out.trans (hb2.mono HB1.out.size)⟩
    · have hzI : ((l.length : Int) == 0) = false := by simp; intro e; exact hz (by rw [e]; rfl)
      have hn : 0 < l.length := by omega
      clear hz
      go_enter Try.func12, Try.ntmps12
      go_wp2_with fail
      refine HF.out.mono ?_
      rintro e w1 ⟨rfl, hb1⟩
      have HB1 := Lib.hid (HB.out.trans (hb1.mono HB.out.size))
      have HL1 := Lib.hid (HL.out.on hb1)
      clear hb1
      have x1 := HL1.out.x1
      have x2 := HL1.out.x2
      obtain ⟨m, hm⟩ : ∃ m : Nat, m = l.length - 1 := ⟨_, rfl⟩
      have k1 : IntKind.i64.wrap ((l.length : Int) - 1) = (m : Int) := by rw [IntWalk.i64_in _ (by omega)]; omega
      have q1 : (0 : Int) ≤ (m : Int) := by omega
      have q2 : (m : Int) ≤ (cap : Int) := by omega
      have q3 : (m : Int) < (l.length : Int) := by omega
      have HM := Lib.hid hm
      clear hm
      go_wp2_with fail
      refine wp_region_field 8 9 (fun w' => w'.cell? ⟨w.heap.size, 0, none⟩ = some (.int .i64 (d : Int)) ∧ w'.cell? ⟨w.heap.size, 1, none⟩ = some (.slice a l.length cap)) (by kernel_rfl) (by kernel_rfl) ⟨x1, x2⟩ ?_
      simp only [List.take_succ_cons, List.take_zero, List.drop_succ_cons, List.drop_zero]
      iterate 8 (refine headH_step _ (fun w' hS' => by (obtain ⟨s1, s2⟩ := hS'; simp [execOp, go_sem, *]; try rfl)) ?_)
      refine headH_nil ?_
      change tailH _ _ _ _ _ w1.drew
      refine tailH_step (fun K hK => ?_)
      go_simp
      have hbn : Below w1.heap.size w1 (w1.alloc (.cells #[.int .i64 0, .slice none 0 0] 33)).drew := (Below.new w1 _).drew
      have z0 : ((w1.alloc (.cells #[.int .i64 0, .slice none 0 0] 33)).drew).cell? ⟨w1.heap.size, 0, none⟩ = some (.int .i64 0) := cell_top (w := w1) (c := #[.int .i64 0, .slice none 0 0]) (t := 33) rfl rfl
      have z1 : ((w1.alloc (.cells #[.int .i64 0, .slice none 0 0] 33)).drew).cell? ⟨w1.heap.size, 1, none⟩ = some (.slice none 0 0) := cell_top (w := w1) (c := #[.int .i64 0, .slice none 0 0]) (t := 33) rfl rfl
      have y0 : ((w1.alloc (.cells #[.int .i64 0, .slice none 0 0] 33)).drew).frozen? ⟨w1.heap.size, 0, none⟩ = false := by
        show (w1.alloc (.cells #[.int .i64 0, .slice none 0 0] 33)).frozen? _ = false
        simp
      have y1 : ((w1.alloc (.cells #[.int .i64 0, .slice none 0 0] 33)).drew).frozen? ⟨w1.heap.size, 1, none⟩ = false := by
        show (w1.alloc (.cells #[.int .i64 0, .slice none 0 0] 33)).frozen? _ = false
        simp
      generalize (w1.alloc (.cells #[.int .i64 0, .slice none 0 0] 33)).drew = W2 at *
      have hlt := HL1.out.lt
      have HL2 := HL1.out.on hbn
      refine hK _ _ ⟨HL2.x1, HL2.x2⟩ ?_
      clear hK K x1 x2
      refine tailH_last (fun K hK => ?_)
      go_simp
      refine hK _ _ (NoPanic.normal ?_)
      clear hK K
      have hne : w.heap.size ≠ w1.heap.size := by omega
      have hB3 : Below w1.heap.size w1 ((W2.setCell ⟨w1.heap.size, 0, none⟩ (.int .i64 (d : Int))).setCell ⟨w1.heap.size, 1, none⟩ (.slice a m cap)) := (hbn.setCell (p := ⟨w1.heap.size, 0, none⟩) (Nat.le_refl _) _).setCell (p := ⟨w1.heap.size, 1, none⟩) (Nat.le_refl _) _
      have e0 : ((W2.setCell ⟨w1.heap.size, 0, none⟩ (.int .i64 (d : Int))).setCell ⟨w1.heap.size, 1, none⟩ (.slice a m cap)).cell? ⟨w1.heap.size, 0, none⟩ = some (.int .i64 (d : Int)) := by
        rw [World.cell?_setCell_other _ _ _ _ (by simp)]; exact World.cell?_setCell_same _ _ _ z0
      have e1 : ((W2.setCell ⟨w1.heap.size, 0, none⟩ (.int .i64 (d : Int))).setCell ⟨w1.heap.size, 1, none⟩ (.slice a m cap)).cell? ⟨w1.heap.size, 1, none⟩ = some (.slice a m cap) :=
        World.cell?_setCell_same _ _ _ ((World.cell?_setCell_other _ _ _ _ (by simp)).trans z1)
      have HTk : Hid ((l.take m).length = m) := Lib.hid (by rw [List.length_take]; have := HM.out; omega)
      generalize ((W2.setCell ⟨w1.heap.size, 0, none⟩ (.int .i64 (d : Int))).setCell ⟨w1.heap.size, 1, none⟩ (.slice a m cap)) = W3 at *
      have HL3 := Lib.hid (HL1.out.on hB3)
      have HB3 := Lib.hid (HB1.out.trans (hB3.mono HB1.out.size))
      have HX3 : Hid (Logged W3 w1.heap.size (d : Int) a cap (l.take m)) := Lib.hid ⟨e0, by rw [HTk.out]; exact e1, HL3.out.sig.take m⟩
      clear z0 z1 y0 y1 hbn HL2 hB3 e0 e1 hlt hne
      have HVl := Lib.hid (C.take_valid HV.out m)
      have HLess := Lib.hid (fun h => C.most_less HV.out hn (by rw [← HM.out]; exact h))
      rw [← HM.out] at HLess
      have x1 := HL3.out.x1
      have x2 := HL3.out.x2
      have x3 := HX3.out.x1
      have x4 := HX3.out.x2
      rw [HTk.out] at x4
      have HC3 := Lib.hid (cMost_any a cap d l W3 hl2 HL3.out.sig)
      have HC4 := fun W h => cMost_any a cap d (l.take m) W (by rw [HTk.out]; omega) h
      rw [HTk.out] at HC4
      have HC4 := Lib.hid HC4
      go_wp2_with fail
      refine HC3.out.mono ?_
      rintro e w4 ⟨rfl, hb⟩
      have HB4 := Lib.hid (HB3.out.trans (hb.mono HB3.out.size))
      have HL4 := Lib.hid (HL3.out.on hb)
      have HX4 := Lib.hid (HX3.out.on hb)
      clear hb x1 x2 x3 x4
      have x1 := HL4.out.x1
      have x2 := HL4.out.x2
      have x3 := HX4.out.x1
      have x4 := HX4.out.x2
      rw [HTk.out] at x4
      go_wp2_with fail
      refine (HC4.out w4 HX4.out.sig).mono ?_
      rintro e w5 ⟨rfl, hb⟩
      have HB5 := Lib.hid (HB4.out.trans (hb.mono HB4.out.size))
      have HL5 := Lib.hid (HL4.out.on hb)
      clear hb x1 x2 x3 x4
      have x1 := HL5.out.x1
      have x2 := HL5.out.x2
      obtain ⟨ba, offa, rfl, hday, -⟩ := HL5.out.sig m (by have := HM.out; omega)
      have hfit := HV.out.fit m (by have := HM.out; omega)
      unfold R.FitS at hfit
      obtain ⟨f1, f2, -, -⟩ := hfit
      generalize hld : dayN l m = ld at *
      have HLd := Lib.hid hld
      clear hld
      by_cases hm0 : R.most (d : Int) l = 0
      · have hl0 : R.most (d : Int) (l.take m) = 0 := Classical.byContradiction fun h => (HLess.out h).1 hm0
        rw [mostE_zero HV.out hm0, mostE_zero HVl.out hl0]
        clear hm0 hl0
        go_wp2_with fail
        refine (works_any w5).mono ?_
        rintro e w6 ⟨rfl, hb⟩
        go_wp2_with fail
        go_ret
        exact ⟨rfl, HB5.out.trans (hb.mono HB5.out.size)⟩
      · have hmE := mostE_pos HV.out hm0
        have hmbd := C.most_bd HV.out hm0
        have hmle := C.most_le HV.out
        have HM0 := Lib.hid hm0
        have HPt := cPath_any (some ⟨ba, offa, none⟩) cap d l
        rw [hmE] at HPt
        have HPt := Lib.hid HPt
        have HMe : Hid ((R.mostE (d : Int) l).2 = 0) := Lib.hid (by rw [hmE])
        rw [hmE]
        clear hm0 hmE
        by_cases hl0 : R.most (d : Int) (l.take m) = 0
        · rw [mostE_zero HVl.out hl0]
          clear hl0
          have x1 := HL5.out.x1
          have x2 := HL5.out.x2
          by_cases h60 : 60 ≤ ld
          · go_wp2_with fail
            refine (works_any w5).mono ?_
            rintro e w6 ⟨rfl, hb⟩
            go_wp2_with fail
            go_ret
            exact ⟨rfl, HB5.out.trans (hb.mono HB5.out.size)⟩
          · have h60' : ld < 60 := by omega
            clear h60
            by_cases hn12 : 12 ≤ l.length
            · have hn12' : (12 : Int) ≤ (l.length : Int) := by omega
              clear hn12
              go_wp2_with fail
              refine (works_any w5).mono ?_
              rintro e w6 ⟨rfl, hb⟩
              go_wp2_with fail
              go_ret
              exact ⟨rfl, HB5.out.trans (hb.mono HB5.out.size)⟩
            · have hn12' : (l.length : Int) < 12 := by omega
              clear hn12
              go_wp2_with fail
              refine (HPt.out w5 hl2 HL5.out.sig).mono ?_
              rintro e w6 ⟨v6, p, rfl, hown6, hbo, hb⟩
              obtain ⟨-, AP, CP, rfl, hiP, -⟩ := Ints.of_ownsRow hown6
              have hff : C.Found l d p ∧ C.onL l p = R.most (d : Int) l := by
                rcases hbo with ⟨h, -⟩ | ⟨-, d', e, hf, hm⟩
                · exact absurd HMe.out h
                · have hdd : d' = d := by omega
                  subst hdd
                  exact ⟨hf, hm⟩
              have hpp := hff.1.props HV.out
              have HFf := Lib.hid hff
              have HPn := Lib.hid hpp.2
              have HPl := Lib.hid hpp.1
              have HB6 := Lib.hid (HB5.out.trans (hb.mono HB5.out.size))
              have HL6 := Lib.hid (HL5.out.on hb)
              have IP6 := Lib.hid hiP
              clear hown6 hbo hb hiP hff hpp x1 x2
              have x1 := HL6.out.x1
              have x2 := HL6.out.x2
              have HIs := isPath_any AP CP p w6 (by have := HPl.out; omega) IP6.out
              rw [isPath_ok (by have := HPl.out; omega) (by have := HPl.out; omega) HPn.out] at HIs
              have HIs := Lib.hid HIs
              obtain ⟨M, hM⟩ : ∃ M : Nat, M = (60 - ld).toNat := ⟨_, rfl⟩
              obtain ⟨r, hr, hr'⟩ := rem_nat hub.1 M (by omega)
              obtain ⟨D, hD⟩ : ∃ D : Int, D = ld + 1 + (r : Int) := ⟨_, rfl⟩
              have k3 : IntKind.i64.wrap (60 - ld) = (M : Int) := by rw [IntWalk.i64_in _ (by omega)]; omega
              have k4 : IntKind.i64.wrap (ld + 1) = ld + 1 := IntWalk.i64_in _ (by omega)
              have k5 : IntKind.i64.wrap day = day := IntWalk.i64_in _ (by omega)
              have k6 : IntKind.i64.wrap (r : Int) = (r : Int) := IntWalk.i64_in _ (by omega)
              have k7 : IntKind.i64.wrap (ld + 1 + (r : Int)) = D := by rw [IntWalk.i64_in _ (by omega), hD]
              have hMz : ¬ ((M : Int) = 0) := by omega
              have hD0 : 0 ≤ D := by omega
              have hD60 : D ≤ 60 := by omega
              have HAt := cAt_any AP CP p D w6 (by have := HPl.out; omega) IP6.out
              rw [at_ok (by have := HPl.out; omega) (by have := HPl.out; omega) HPn.out hD0 hD60] at HAt
              have HAt := Lib.hid HAt
              clear hM hD
              go_wp2_with fail
              refine HIs.out.mono ?_
              rintro e w7 ⟨rfl, rfl⟩
              go_wp2_with fail
              refine HAt.out.mono ?_
              rintro e w8 ⟨rfl, hb⟩
              have HB8 := Lib.hid (HB6.out.trans (hb.mono HB6.out.size))
              have HL8 := Lib.hid (HL6.out.on hb)
              have HOf := Lib.hid (atOf_any AP CP p D w8 (by have := HPl.out; omega) hD0 (by omega) HPn.out (IP6.out.below hb))
              clear hb x1 x2
              have x1 := HL8.out.x1
              have x2 := HL8.out.x2
              go_wp2_with fail
              refine HOf.out.mono ?_
              rintro e w9 ⟨rfl, hdr⟩
              have HB9 := Lib.hid (HB8.out.trans ((hdr.below w8.heap.size).mono HB8.out.size))
              have HL9 := Lib.hid (HL8.out.on (hdr.below _))
              clear hdr x1 x2
              have x1 := HL9.out.x1
              have x2 := HL9.out.x2
              have hyy : R.atD p D = R.atD p D := rfl
              generalize hyE : R.atD p D = yy at *
              have HY := Lib.hid hyE
              clear hyE hyy
              have hsz9 := HB9.out.size
              have hlt9 := HL9.out.lt
              go_wp2_with fail
              refine wp_region_from 13 (fun A0 => A0.eval (.tmp 2) = .pointer (some ⟨w.heap.size, 0, none⟩) ∧ A0.eval (.tmp 14) = .int .i64 D ∧ A0.eval (.tmp 15) = .int .i64 yy ∧ 147 ≤ A0.tmps.size) (fun A0 => IM A0 w9.drew w.heap.size (d : Int) D yy (.slice (some ⟨ba, offa, none⟩) l.length cap) l) ⟨rfl, rfl, rfl, by simp⟩ (by kernel_rfl) (by kernel_rfl) ?h0 ?hs ?he
              case h0 => exact fun A0 => ⟨Agr.refl _ _, ⟨(fun e => by cases e), (fun e => by cases e), (fun e => by cases e)⟩, undef, undef, undef, undef, undef, (fun _ _ e => by cases e), ⟨Below.refl _ _, (fun e => by cases e), (fun e => by cases e), (fun e => by cases e), (fun e => by cases e), (fun e => by cases e), (fun e => by cases e), (fun e => by cases e), (fun e => by cases e), (fun e => by cases e), (fun e => by cases e)⟩⟩
              case hs =>
                clear HM0 HPt HMe HIs HAt HOf HPn HPl HFf HLess HVl HC4 HC3 HF
                rintro A0 ⟨E2, E14, E15, ES⟩ i o B a w' ho hB hdep hI K hK
                have hi : i < 13 := by have := (List.getElem?_eq_some_iff.1 ho).1; simp at this; omega
                have y1 := cell_on hI.bel (w := w9.drew) (p := ⟨w.heap.size, 0, none⟩) x1
                have y2 := cell_on hI.bel (w := w9.drew) (p := ⟨w.heap.size, 1, none⟩) x2
                have g2 := (hI.agr.eval (k := 2) (by decide)).trans E2
                have g14 := (hI.agr.eval (k := 14) (by decide)).trans E14
                have g15 := (hI.agr.eval (k := 15) (by decide)).trans E15
                obtain rfl | rfl | rfl | rfl | rfl | rfl | rfl | rfl | rfl | rfl | rfl | rfl | rfl : i = 0 ∨ i = 1 ∨ i = 2 ∨ i = 3 ∨ i = 4 ∨ i = 5 ∨ i = 6 ∨ i = 7 ∨ i = 8 ∨ i = 9 ∨ i = 10 ∨ i = 11 ∨ i = 12 := by omega
                all_goals simp only [List.take_succ_cons, List.take_zero, List.getElem?_cons_succ, List.getElem?_cons_zero, Option.some.injEq] at ho
                all_goals subst ho
                · refine op_value (v := .pointer (some ⟨w.heap.size, 0, none⟩)) (w' := w') (by simp [execOp, go_sem, tmp_of g2]) (hK _ _ (hI.pure (by simp [tabM]) (by omega) (by omega) (by decide) (by omega)))
                · have e0 := hI.at (i := 0) (k := 135) (v := .pointer (some ⟨w.heap.size, 0, none⟩)) (by simp [tabM]) (hdep ⟨0, .data⟩ (by simp) rfl)
                  refine op_value (v := .int .i64 (d : Int)) (w' := w') (by simp [execOp, go_sem, tmp_of e0, y1]) (hK _ _ (hI.pure (by simp [tabM]) (by omega) (by omega) (by decide) (by omega)))
                · obtain ⟨hA, hP, X2, X5, X9, X10, X12, hH, hW⟩ := hI
                  have n5 : B 5 = false := by cases h : B 5; rfl; rw [hP.1 h] at hB; cases hB
                  have n10 : B 10 = false := by cases h : B 10; rfl; rw [(hP.2.1 h).1] at n5; cases n5
                  refine op_value (v := .slice (some ⟨w'.heap.size, 0, none⟩) 0 0) (w' := w'.alloc (.cells #[] 57)) (by simp [execOp, go_sem]) (hK _ _ ⟨hA.put (by decide) _, hP.upd 2 (by omega) (by omega) (by omega), _, X5, X9, X10, X12, (hH.turn2 hB _).put (tabM_ok ..) (by simp [tabM]) (by rw [hA.size]; omega), hW.step2 n10⟩)
                · refine op_value (v := .pointer (some ⟨w.heap.size, 1, none⟩)) (w' := w') (by simp [execOp, go_sem, tmp_of g2]) (hK _ _ (hI.pure (by simp [tabM]) (by omega) (by omega) (by decide) (by omega)))
                · have e0 := hI.at (i := 3) (k := 138) (v := .pointer (some ⟨w.heap.size, 1, none⟩)) (by simp [tabM]) (hdep ⟨3, .data⟩ (by simp) rfl)
                  refine op_value (v := .slice (some ⟨ba, offa, none⟩) l.length cap) (w' := w') (by simp [execOp, go_sem, tmp_of e0, y2]) (hK _ _ (hI.pure (by simp [tabM]) (by omega) (by omega) (by decide) (by omega)))
                · have e4 := hI.at (i := 4) (k := 139) (v := .slice (some ⟨ba, offa, none⟩) l.length cap) (by simp [tabM]) (hdep ⟨4, .data⟩ (by simp) rfl)
                  have hSg := (HL9.out.sig.below (w := w9.drew) hI.bel)
                  have b2 : B 2 = true := hdep ⟨2, .data⟩ (by simp) rfl
                  obtain ⟨hA, hP, X2, X5, X9, X10, X12, hH, hW⟩ := hI
                  have n10 : B 10 = false := by cases h : B 10; rfl; rw [(hP.2.1 h).1] at hB; cases hB
                  have e2 : a.eval (.tmp 137) = X2 := hH (2, 137, X2) (by simp [tabM]) b2
                  refine wpApp T31 (.tmp 137) (.tmp 139) rfl w9.drew.heap.size X2 0 [] (flat l) l.length cap ⟨ba, offa, none⟩ e2 (hW.o2 b2 hB) e4 (flat_length l) ?_ (flat_one l) (by omega) hW.bel.size (fun v w2 ho hg hL => hK _ _ ⟨hA.put (by decide) _, hP.upd 5 (fun _ => b2) (by omega) (by omega), X2, _, X9, X10, X12, (hH.turn5 hB _).put (tabM_ok ..) (by simp [tabM]) (by rw [hA.size]; omega), hW.step5 b2 hB n10 (by simpa using ho) hg hL⟩)
                  intro j u hj
                  have hlt : j < l.length * 2 := by have := (List.getElem?_eq_some_iff.1 hj).1; rwa [flat_length] at this
                  have ea : (⟨ba, offa, none⟩ : Addr).add j = ⟨ba, offa + j, none⟩ := by unfold Addr.add; split <;> simp_all
                  obtain ⟨f1', f2'⟩ := flat_get l (j / 2) (by omega)
                  obtain ⟨b', off', e', c1', c2'⟩ := hSg (j / 2) (by omega)
                  cases e'
                  rw [ea]
                  rcases (show j % 2 = 0 ∨ j % 2 = 1 by omega) with hm | hm
                  · have e : j / 2 * 2 = j := by omega
                    rw [e] at f1' c1'; rw [f1'] at hj; cases hj; exact c1'
                  · have e : j / 2 * 2 + 1 = j := by omega
                    rw [Nat.add_assoc] at c2'
                    rw [e] at f2' c2'; rw [f2'] at hj; cases hj; exact c2'
                · refine op_value (v := .int .i64 D) (w' := w') (by simp [execOp, go_sem, tmp_of g14]) (hK _ _ (hI.pure (by simp [tabM]) (by omega) (by omega) (by decide) (by omega)))
                · refine op_value (v := .int .i64 yy) (w' := w') (by simp [execOp, go_sem, tmp_of g15]) (hK _ _ (hI.pure (by simp [tabM]) (by omega) (by omega) (by decide) (by omega)))
                · have e6 := hI.at (i := 6) (k := 141) (v := .int .i64 D) (by simp [tabM]) (hdep ⟨6, .data⟩ (by simp) rfl)
                  have e7 := hI.at (i := 7) (k := 142) (v := .int .i64 yy) (by simp [tabM]) (hdep ⟨7, .data⟩ (by simp) rfl)
                  refine op_value (v := .agg #[.int .i64 D, .int .i64 yy]) (w' := w') (by simp [execOp, go_sem, tmp_of e6, tmp_of e7]) (hK _ _ (hI.pure (by simp [tabM]) (by omega) (by omega) (by decide) (by omega)))
                · have e8 := hI.at (i := 8) (k := 143) (v := .agg #[.int .i64 D, .int .i64 yy]) (by simp [tabM]) (hdep ⟨8, .data⟩ (by simp) rfl)
                  obtain ⟨hA, hP, X2, X5, X9, X10, X12, hH, hW⟩ := hI
                  have n10 : B 10 = false := by cases h : B 10; rfl; rw [(hP.2.1 h).2] at hB; cases hB
                  refine op_value (v := .slice (some ⟨w'.heap.size, 0, none⟩) 1 1) (w' := w'.alloc (.cells #[.int .i64 D, .int .i64 yy] 57)) (by simp [execOp, go_sem, tmp_of e8]) (hK _ _ ⟨hA.put (by decide) _, hP.upd 9 (by omega) (by omega) (by omega), X2, X5, _, X10, X12, (hH.turn9 hB _).put (tabM_ok ..) (by simp [tabM]) (by rw [hA.size]; omega), hW.step9 n10⟩)
                · have b5 : B 5 = true := hdep ⟨5, .data⟩ (by simp) rfl
                  have b9 : B 9 = true := hdep ⟨9, .data⟩ (by simp) rfl
                  obtain ⟨hA, hP, X2, X5, X9, X10, X12, hH, hW⟩ := hI
                  have n11 : B 11 = false := by cases h : B 11; rfl; rw [hP.2.2 h] at hB; cases hB
                  have e5 : a.eval (.tmp 140) = X5 := hH (5, 140, X5) (by simp [tabM]) b5
                  have e9 : a.eval (.tmp 144) = X9 := hH (9, 144, X9) (by simp [tabM]) b9
                  obtain ⟨h, rfl, c0, c1⟩ := hW.c9 b9 hB
                  refine wpApp T31 (.tmp 140) (.tmp 144) rfl w9.drew.heap.size X5 l.length (flat l) [.int .i64 D, .int .i64 yy] 1 1 ⟨h, 0, none⟩ e5 (hW.o5 b5 hB) e9 rfl ?_ (by simp [Value.oneCell']) (by omega) hW.bel.size (fun v w2 ho hg hL => hK _ _ ⟨hA.put (by decide) _, hP.upd 10 (by omega) (fun _ => ⟨b5, b9⟩) (by omega), X2, X5, _, _, X12, (hH.turn10 hB n11 _).put (tabM_ok ..) (by simp [tabM]) (by rw [hA.size]; omega), hW.step10 b5 hB ho hg hL⟩)
                  intro j u hj
                  have ea : (⟨h, 0, none⟩ : Addr).add j = ⟨h, j, none⟩ := by unfold Addr.add; split <;> simp_all
                  rw [ea]
                  rcases j with _ | _ | j
                  · cases hj; exact c0
                  · cases hj; exact c1
                  · simp at hj
                · have e1 := hI.at (i := 1) (k := 136) (v := .int .i64 (d : Int)) (by simp [tabM]) (hdep ⟨1, .data⟩ (by simp) rfl)
                  have b10 : B 10 = true := hdep ⟨10, .data⟩ (by simp) rfl
                  obtain ⟨hA, hP, X2, X5, X9, X10, X12, hH, hW⟩ := hI
                  have e10 : a.eval (.tmp 145) = X10 := hH (10, 145, X10) (by simp [tabM]) b10
                  have ho := hW.o10 b10
                  rw [← flat_snoc] at ho
                  obtain ⟨-, a10, c10, rfl, -, -⟩ := Sigs.of_ownsRow ho
                  refine op_value (v := .agg #[.int .i64 (d : Int), .slice a10 (l.length + 1) c10]) (w' := w') (by simp [execOp, go_sem, tmp_of e1, tmp_of e10]) (hK _ _ ⟨hA.put (by decide) _, hP.upd 11 (by omega) (by omega) (fun _ => b10), X2, X5, X9, _, X12, hH.put (tabM_ok ..) (by simp [tabM]) (by rw [hA.size]; omega), hW.same (by omega)⟩)
                · obtain ⟨hA, hP, X2, X5, X9, X10, X12, hH, hW⟩ := hI
                  refine op_value (v := .pointer (some ⟨w'.heap.size, 0, none⟩)) (w' := w'.alloc (.cells #[.int .i64 0, .slice none 0 0] 33)) (by simp [execOp, go_sem]) (hK _ _ ⟨hA.put (by decide) _, hP.upd 12 (by omega) (by omega) (by omega), X2, X5, X9, X10, _, (hH.turn12 hB _).put (tabM_ok ..) (by simp [tabM]) (by rw [hA.size]; omega), hW.step12⟩)
              case he =>
                intro B a w' hBall hI o ho K hK
                simp only [List.drop_succ_cons, List.drop_zero, List.cons.injEq, and_true] at ho
                subst ho
                obtain ⟨hA, hP, X2, X5, X9, X10, X12, hH, hW⟩ := hI
                have hown := hW.o10 (hBall 10 (by omega))
                rw [← flat_snoc] at hown
                obtain ⟨hnl, a10, c10, rfl, -, hc10⟩ := Sigs.of_ownsRow hown
                obtain ⟨q, rfl, z0, z1, y0, y1, hq⟩ := hW.c12 (hBall 12 (by omega))
                have hne10 := hW.s10q (hBall 10 (by omega)) (hBall 12 (by omega)) q rfl
                have e16 : a.eval (.tmp 16) = .pointer (some ⟨q, 0, none⟩) := hH (12, 16, _) (by simp [tabM]) (hBall 12 (by omega))
                have e135 : a.eval (.tmp 135) = .pointer (some ⟨w.heap.size, 0, none⟩) := hH (0, 135, _) (by simp [tabM]) (hBall 0 (by omega))
                have e136 : a.eval (.tmp 136) = .int .i64 (d : Int) := hH (1, 136, _) (by simp [tabM]) (hBall 1 (by omega))
                have e137 : a.eval (.tmp 137) = X2 := hH (2, 137, _) (by simp [tabM]) (hBall 2 (by omega))
                have e138 : a.eval (.tmp 138) = .pointer (some ⟨w.heap.size, 1, none⟩) := hH (3, 138, _) (by simp [tabM]) (hBall 3 (by omega))
                have e139 : a.eval (.tmp 139) = .slice (some ⟨ba, offa, none⟩) l.length cap := hH (4, 139, _) (by simp [tabM]) (hBall 4 (by omega))
                have e140 : a.eval (.tmp 140) = X5 := hH (5, 140, _) (by simp [tabM]) (hBall 5 (by omega))
                have e141 : a.eval (.tmp 141) = .int .i64 D := hH (6, 141, _) (by simp [tabM]) (hBall 6 (by omega))
                have e142 : a.eval (.tmp 142) = .int .i64 yy := hH (7, 142, _) (by simp [tabM]) (hBall 7 (by omega))
                have e143 : a.eval (.tmp 143) = .agg #[.int .i64 D, .int .i64 yy] := hH (8, 143, _) (by simp [tabM]) (hBall 8 (by omega))
                have e144 : a.eval (.tmp 144) = X9 := hH (9, 144, _) (by simp [tabM]) (hBall 9 (by omega))
                have e145 : a.eval (.tmp 145) = .slice a10 (l.length + 1) c10 := hH (10, 145, _) (by simp [tabM]) (hBall 10 (by omega))
                have e146 : a.eval (.tmp 146) = .agg #[.int .i64 (d : Int), .slice a10 (l.length + 1) c10] := hH (11, 146, _) (by simp [tabM]) (hBall 11 (by omega))
                refine op_skip (w' := (w'.setCell ⟨q, 0, none⟩ (.int .i64 (d : Int))).setCell ⟨q, 1, none⟩ (.slice a10 (l.length + 1) c10)) rfl (by simp [execOp, go_sem, tmp_of e16, tmp_of e146, z0, z1, y0, y1]) (hK _ _ (NoPanic.normal ?_))
                have hown2 := owns_setOther (owns_setOther hown q 0 (.int .i64 (d : Int)) hne10) q 1 (.slice a10 (l.length + 1) c10) hne10
                have hbel2 := (hW.bel.setCell (p := ⟨q, 0, none⟩) hq (.int .i64 (d : Int))).setCell (p := ⟨q, 1, none⟩) hq (.slice a10 (l.length + 1) c10)
                have k0 : ((w'.setCell ⟨q, 0, none⟩ (.int .i64 (d : Int))).setCell ⟨q, 1, none⟩ (.slice a10 (l.length + 1) c10)).cell? ⟨q, 0, none⟩ = some (.int .i64 (d : Int)) := by
                  rw [World.cell?_setCell_other _ _ _ _ (by simp)]; exact World.cell?_setCell_same _ _ _ z0
                have k1 : ((w'.setCell ⟨q, 0, none⟩ (.int .i64 (d : Int))).setCell ⟨q, 1, none⟩ (.slice a10 (l.length + 1) c10)).cell? ⟨q, 1, none⟩ = some (.slice a10 (l.length + 1) c10) :=
                  World.cell?_setCell_same _ _ _ ((World.cell?_setCell_other _ _ _ _ (by simp)).trans z1)
                generalize (w'.setCell ⟨q, 0, none⟩ (.int .i64 (d : Int))).setCell ⟨q, 1, none⟩ (.slice a10 (l.length + 1) c10) = W at *
                have hback := hA.back
                simp only [slM, fills, e16, e135, e136, e137, e138, e139, e140, e141, e142, e143, e144, e145, e146] at hback
                rw [hback]
                clear hback e16 e135 e136 e137 e138 e139 e140 e141 e142 e143 e144 e145 e146 z0 z1 y0 y1 hA hH hW hown hBall hK hP
                have HBW := Lib.hid (HB9.out.drew.trans (hbel2.mono HB9.out.size))
                obtain ⟨hnl2, a11, c11, e11, hSig, -⟩ := Sigs.of_ownsRow hown2
                cases e11
                have hll : (l ++ [(D, yy)]).length = l.length + 1 := by simp
                have HXW : Hid (Logged W q (d : Int) a10 c10 (l ++ [(D, yy)])) := Lib.hid ⟨k0, by rw [hll]; exact k1, hSig⟩
                have HFW := fine_any a10 c10 (d : Int) (l ++ [(D, yy)]) W hSig
                have HMW := fun V h => cMost_any a10 c10 (d : Int) (l ++ [(D, yy)]) V (by rw [hll]; omega) h
                rw [hll] at HFW HMW
                have HMW := Lib.hid HMW
                clear hown2 hbel2 hnl2 hSig hne10 hnl hc10 hq hll x1 x2
                by_cases hcm : R.checkLog (d : Int) (l ++ [(D, yy)]) = 0
                · rw [decide_eq_true hcm] at HFW
                  have HFW := Lib.hid HFW
                  have HMM := Lib.hid (C.most_more HV.out (R.checkLog_zero hcm) HFf.out.1 HFf.out.2 HY.out)
                  have hmE : R.mostE (d : Int) (l ++ [(D, yy)]) = ((R.most (d : Int) l : Int) + 1, 0) := by
                    rw [mostE_pos (R.checkLog_zero hcm) (by rw [HMM.out]; omega), HMM.out]; rfl
                  rw [hmE] at HMW
                  clear hmE hcm
                  have k9 : IntKind.i64.wrap ((R.most (d : Int) l : Int) + 1) = (R.most (d : Int) l : Int) + 1 := IntWalk.i64_in _ (by omega)
                  go_wp2_with fail
                  refine HFW.out.mono ?_
                  rintro e w10 ⟨rfl, hb⟩
                  have HB10 := Lib.hid (HBW.out.trans (hb.mono HBW.out.size))
                  have HX10 := Lib.hid (HXW.out.on hb)
                  clear hb k0 k1
                  have k0 := HX10.out.x1
                  have k1 := HX10.out.x2
                  rw [List.length_append] at k1
                  go_wp2_with fail
                  refine (HMW.out _ HX10.out.sig).mono ?_
                  rintro e w11 ⟨rfl, hb⟩
                  have HB11 := Lib.hid (HB10.out.trans (hb.mono HB10.out.size))
                  clear hb
                  go_wp2_with fail
                  refine (works_any w11).mono ?_
                  rintro e w12 ⟨rfl, hb⟩
                  go_wp2_with fail
                  go_ret
                  exact ⟨rfl, HB11.out.trans (hb.mono HB11.out.size)⟩
                · rw [decide_eq_false hcm] at HFW
                  have HFW := Lib.hid HFW
                  clear hcm
                  go_wp2_with fail
                  refine HFW.out.mono ?_
                  rintro e w10 ⟨rfl, hb⟩
                  have HB10 := Lib.hid (HBW.out.trans (hb.mono HBW.out.size))
                  clear hb
                  go_wp2_with fail
                  refine (works_any w10).mono ?_
                  rintro e w12 ⟨rfl, hb⟩
                  go_wp2_with fail
                  go_ret
                  exact ⟨rfl, HB10.out.trans (hb.mono HB10.out.size)⟩
        · have hle := HLess.out hl0
          have hlm := mostE_pos HVl.out hl0
          have hl1 : R.most (d : Int) (l.take m) ≤ 12 := by have := C.most_le HVl.out; rw [HTk.out] at this; have := HM.out; omega
          rw [hlm]
          clear hl0 hlm
          generalize R.most (d : Int) (l.take m) = bb at *
          have g1 : (bb : Int) ≤ (R.most (d : Int) l : Int) := by omega
          have g2 : (R.most (d : Int) l : Int) ≤ (bb : Int) + 1 := by omega
          have g3 : IntKind.i64.wrap ((bb : Int) + 1) = (bb : Int) + 1 := IntWalk.i64_in _ (by omega)
          clear hle
          have x1 := HL5.out.x1
          have x2 := HL5.out.x2
          by_cases h60 : 60 ≤ ld
          · go_wp2_with fail
            refine (works_any w5).mono ?_
            rintro e w6 ⟨rfl, hb⟩
            go_wp2_with fail
            go_ret
            exact ⟨rfl, HB5.out.trans (hb.mono HB5.out.size)⟩
          · have h60' : ld < 60 := by omega
            clear h60
            by_cases hn12 : 12 ≤ l.length
            · have hn12' : (12 : Int) ≤ (l.length : Int) := by omega
              clear hn12
              go_wp2_with fail
              refine (works_any w5).mono ?_
              rintro e w6 ⟨rfl, hb⟩
              go_wp2_with fail
              go_ret
              exact ⟨rfl, HB5.out.trans (hb.mono HB5.out.size)⟩
            · have hn12' : (l.length : Int) < 12 := by omega
              clear hn12
              go_wp2_with fail
              refine (HPt.out w5 hl2 HL5.out.sig).mono ?_
              rintro e w6 ⟨v6, p, rfl, hown6, hbo, hb⟩
              obtain ⟨-, AP, CP, rfl, hiP, -⟩ := Ints.of_ownsRow hown6
              have hff : C.Found l d p ∧ C.onL l p = R.most (d : Int) l := by
                rcases hbo with ⟨h, -⟩ | ⟨-, d', e, hf, hm⟩
                · exact absurd HMe.out h
                · have hdd : d' = d := by omega
                  subst hdd
                  exact ⟨hf, hm⟩
              have hpp := hff.1.props HV.out
              have HFf := Lib.hid hff
              have HPn := Lib.hid hpp.2
              have HPl := Lib.hid hpp.1
              have HB6 := Lib.hid (HB5.out.trans (hb.mono HB5.out.size))
              have HL6 := Lib.hid (HL5.out.on hb)
              have IP6 := Lib.hid hiP
              clear hown6 hbo hb hiP hff hpp x1 x2
              have x1 := HL6.out.x1
              have x2 := HL6.out.x2
              have HIs := isPath_any AP CP p w6 (by have := HPl.out; omega) IP6.out
              rw [isPath_ok (by have := HPl.out; omega) (by have := HPl.out; omega) HPn.out] at HIs
              have HIs := Lib.hid HIs
              obtain ⟨M, hM⟩ : ∃ M : Nat, M = (60 - ld).toNat := ⟨_, rfl⟩
              obtain ⟨r, hr, hr'⟩ := rem_nat hub.1 M (by omega)
              obtain ⟨D, hD⟩ : ∃ D : Int, D = ld + 1 + (r : Int) := ⟨_, rfl⟩
              have k3 : IntKind.i64.wrap (60 - ld) = (M : Int) := by rw [IntWalk.i64_in _ (by omega)]; omega
              have k4 : IntKind.i64.wrap (ld + 1) = ld + 1 := IntWalk.i64_in _ (by omega)
              have k5 : IntKind.i64.wrap day = day := IntWalk.i64_in _ (by omega)
              have k6 : IntKind.i64.wrap (r : Int) = (r : Int) := IntWalk.i64_in _ (by omega)
              have k7 : IntKind.i64.wrap (ld + 1 + (r : Int)) = D := by rw [IntWalk.i64_in _ (by omega), hD]
              have hMz : ¬ ((M : Int) = 0) := by omega
              have hD0 : 0 ≤ D := by omega
              have hD60 : D ≤ 60 := by omega
              have HAt := cAt_any AP CP p D w6 (by have := HPl.out; omega) IP6.out
              rw [at_ok (by have := HPl.out; omega) (by have := HPl.out; omega) HPn.out hD0 hD60] at HAt
              have HAt := Lib.hid HAt
              clear hM hD
              go_wp2_with fail
              refine HIs.out.mono ?_
              rintro e w7 ⟨rfl, rfl⟩
              go_wp2_with fail
              refine HAt.out.mono ?_
              rintro e w8 ⟨rfl, hb⟩
              have HB8 := Lib.hid (HB6.out.trans (hb.mono HB6.out.size))
              have HL8 := Lib.hid (HL6.out.on hb)
              have HOf := Lib.hid (atOf_any AP CP p D w8 (by have := HPl.out; omega) hD0 (by omega) HPn.out (IP6.out.below hb))
              clear hb x1 x2
              have x1 := HL8.out.x1
              have x2 := HL8.out.x2
              go_wp2_with fail
              refine HOf.out.mono ?_
              rintro e w9 ⟨rfl, hdr⟩
              have HB9 := Lib.hid (HB8.out.trans ((hdr.below w8.heap.size).mono HB8.out.size))
              have HL9 := Lib.hid (HL8.out.on (hdr.below _))
              clear hdr x1 x2
              have x1 := HL9.out.x1
              have x2 := HL9.out.x2
              have hyy : R.atD p D = R.atD p D := rfl
              generalize hyE : R.atD p D = yy at *
              have HY := Lib.hid hyE
              clear hyE hyy
              have hsz9 := HB9.out.size
              have hlt9 := HL9.out.lt
              go_wp2_with fail
              refine wp_region_from 13 (fun A0 => A0.eval (.tmp 2) = .pointer (some ⟨w.heap.size, 0, none⟩) ∧ A0.eval (.tmp 14) = .int .i64 D ∧ A0.eval (.tmp 15) = .int .i64 yy ∧ 147 ≤ A0.tmps.size) (fun A0 => IM A0 w9.drew w.heap.size (d : Int) D yy (.slice (some ⟨ba, offa, none⟩) l.length cap) l) ⟨rfl, rfl, rfl, by simp⟩ (by kernel_rfl) (by kernel_rfl) ?h0 ?hs ?he
              case h0 => exact fun A0 => ⟨Agr.refl _ _, ⟨(fun e => by cases e), (fun e => by cases e), (fun e => by cases e)⟩, undef, undef, undef, undef, undef, (fun _ _ e => by cases e), ⟨Below.refl _ _, (fun e => by cases e), (fun e => by cases e), (fun e => by cases e), (fun e => by cases e), (fun e => by cases e), (fun e => by cases e), (fun e => by cases e), (fun e => by cases e), (fun e => by cases e), (fun e => by cases e)⟩⟩
              case hs =>
                clear HM0 HPt HMe HIs HAt HOf HPn HPl HFf HLess HVl HC4 HC3 HF
                rintro A0 ⟨E2, E14, E15, ES⟩ i o B a w' ho hB hdep hI K hK
                have hi : i < 13 := by have := (List.getElem?_eq_some_iff.1 ho).1; simp at this; omega
                have y1 := cell_on hI.bel (w := w9.drew) (p := ⟨w.heap.size, 0, none⟩) x1
                have y2 := cell_on hI.bel (w := w9.drew) (p := ⟨w.heap.size, 1, none⟩) x2
                have g2 := (hI.agr.eval (k := 2) (by decide)).trans E2
                have g14 := (hI.agr.eval (k := 14) (by decide)).trans E14
                have g15 := (hI.agr.eval (k := 15) (by decide)).trans E15
                obtain rfl | rfl | rfl | rfl | rfl | rfl | rfl | rfl | rfl | rfl | rfl | rfl | rfl : i = 0 ∨ i = 1 ∨ i = 2 ∨ i = 3 ∨ i = 4 ∨ i = 5 ∨ i = 6 ∨ i = 7 ∨ i = 8 ∨ i = 9 ∨ i = 10 ∨ i = 11 ∨ i = 12 := by omega
                all_goals simp only [List.take_succ_cons, List.take_zero, List.getElem?_cons_succ, List.getElem?_cons_zero, Option.some.injEq] at ho
                all_goals subst ho
                · refine op_value (v := .pointer (some ⟨w.heap.size, 0, none⟩)) (w' := w') (by simp [execOp, go_sem, tmp_of g2]) (hK _ _ (hI.pure (by simp [tabM]) (by omega) (by omega) (by decide) (by omega)))
                · have e0 := hI.at (i := 0) (k := 135) (v := .pointer (some ⟨w.heap.size, 0, none⟩)) (by simp [tabM]) (hdep ⟨0, .data⟩ (by simp) rfl)
                  refine op_value (v := .int .i64 (d : Int)) (w' := w') (by simp [execOp, go_sem, tmp_of e0, y1]) (hK _ _ (hI.pure (by simp [tabM]) (by omega) (by omega) (by decide) (by omega)))
                · obtain ⟨hA, hP, X2, X5, X9, X10, X12, hH, hW⟩ := hI
                  have n5 : B 5 = false := by cases h : B 5; rfl; rw [hP.1 h] at hB; cases hB
                  have n10 : B 10 = false := by cases h : B 10; rfl; rw [(hP.2.1 h).1] at n5; cases n5
                  refine op_value (v := .slice (some ⟨w'.heap.size, 0, none⟩) 0 0) (w' := w'.alloc (.cells #[] 57)) (by simp [execOp, go_sem]) (hK _ _ ⟨hA.put (by decide) _, hP.upd 2 (by omega) (by omega) (by omega), _, X5, X9, X10, X12, (hH.turn2 hB _).put (tabM_ok ..) (by simp [tabM]) (by rw [hA.size]; omega), hW.step2 n10⟩)
                · refine op_value (v := .pointer (some ⟨w.heap.size, 1, none⟩)) (w' := w') (by simp [execOp, go_sem, tmp_of g2]) (hK _ _ (hI.pure (by simp [tabM]) (by omega) (by omega) (by decide) (by omega)))
                · have e0 := hI.at (i := 3) (k := 138) (v := .pointer (some ⟨w.heap.size, 1, none⟩)) (by simp [tabM]) (hdep ⟨3, .data⟩ (by simp) rfl)
                  refine op_value (v := .slice (some ⟨ba, offa, none⟩) l.length cap) (w' := w') (by simp [execOp, go_sem, tmp_of e0, y2]) (hK _ _ (hI.pure (by simp [tabM]) (by omega) (by omega) (by decide) (by omega)))
                · have e4 := hI.at (i := 4) (k := 139) (v := .slice (some ⟨ba, offa, none⟩) l.length cap) (by simp [tabM]) (hdep ⟨4, .data⟩ (by simp) rfl)
                  have hSg := (HL9.out.sig.below (w := w9.drew) hI.bel)
                  have b2 : B 2 = true := hdep ⟨2, .data⟩ (by simp) rfl
                  obtain ⟨hA, hP, X2, X5, X9, X10, X12, hH, hW⟩ := hI
                  have n10 : B 10 = false := by cases h : B 10; rfl; rw [(hP.2.1 h).1] at hB; cases hB
                  have e2 : a.eval (.tmp 137) = X2 := hH (2, 137, X2) (by simp [tabM]) b2
                  refine wpApp T31 (.tmp 137) (.tmp 139) rfl w9.drew.heap.size X2 0 [] (flat l) l.length cap ⟨ba, offa, none⟩ e2 (hW.o2 b2 hB) e4 (flat_length l) ?_ (flat_one l) (by omega) hW.bel.size (fun v w2 ho hg hL => hK _ _ ⟨hA.put (by decide) _, hP.upd 5 (fun _ => b2) (by omega) (by omega), X2, _, X9, X10, X12, (hH.turn5 hB _).put (tabM_ok ..) (by simp [tabM]) (by rw [hA.size]; omega), hW.step5 b2 hB n10 (by simpa using ho) hg hL⟩)
                  intro j u hj
                  have hlt : j < l.length * 2 := by have := (List.getElem?_eq_some_iff.1 hj).1; rwa [flat_length] at this
                  have ea : (⟨ba, offa, none⟩ : Addr).add j = ⟨ba, offa + j, none⟩ := by unfold Addr.add; split <;> simp_all
                  obtain ⟨f1', f2'⟩ := flat_get l (j / 2) (by omega)
                  obtain ⟨b', off', e', c1', c2'⟩ := hSg (j / 2) (by omega)
                  cases e'
                  rw [ea]
                  rcases (show j % 2 = 0 ∨ j % 2 = 1 by omega) with hm | hm
                  · have e : j / 2 * 2 = j := by omega
                    rw [e] at f1' c1'; rw [f1'] at hj; cases hj; exact c1'
                  · have e : j / 2 * 2 + 1 = j := by omega
                    rw [Nat.add_assoc] at c2'
                    rw [e] at f2' c2'; rw [f2'] at hj; cases hj; exact c2'
                · refine op_value (v := .int .i64 D) (w' := w') (by simp [execOp, go_sem, tmp_of g14]) (hK _ _ (hI.pure (by simp [tabM]) (by omega) (by omega) (by decide) (by omega)))
                · refine op_value (v := .int .i64 yy) (w' := w') (by simp [execOp, go_sem, tmp_of g15]) (hK _ _ (hI.pure (by simp [tabM]) (by omega) (by omega) (by decide) (by omega)))
                · have e6 := hI.at (i := 6) (k := 141) (v := .int .i64 D) (by simp [tabM]) (hdep ⟨6, .data⟩ (by simp) rfl)
                  have e7 := hI.at (i := 7) (k := 142) (v := .int .i64 yy) (by simp [tabM]) (hdep ⟨7, .data⟩ (by simp) rfl)
                  refine op_value (v := .agg #[.int .i64 D, .int .i64 yy]) (w' := w') (by simp [execOp, go_sem, tmp_of e6, tmp_of e7]) (hK _ _ (hI.pure (by simp [tabM]) (by omega) (by omega) (by decide) (by omega)))
                · have e8 := hI.at (i := 8) (k := 143) (v := .agg #[.int .i64 D, .int .i64 yy]) (by simp [tabM]) (hdep ⟨8, .data⟩ (by simp) rfl)
                  obtain ⟨hA, hP, X2, X5, X9, X10, X12, hH, hW⟩ := hI
                  have n10 : B 10 = false := by cases h : B 10; rfl; rw [(hP.2.1 h).2] at hB; cases hB
                  refine op_value (v := .slice (some ⟨w'.heap.size, 0, none⟩) 1 1) (w' := w'.alloc (.cells #[.int .i64 D, .int .i64 yy] 57)) (by simp [execOp, go_sem, tmp_of e8]) (hK _ _ ⟨hA.put (by decide) _, hP.upd 9 (by omega) (by omega) (by omega), X2, X5, _, X10, X12, (hH.turn9 hB _).put (tabM_ok ..) (by simp [tabM]) (by rw [hA.size]; omega), hW.step9 n10⟩)
                · have b5 : B 5 = true := hdep ⟨5, .data⟩ (by simp) rfl
                  have b9 : B 9 = true := hdep ⟨9, .data⟩ (by simp) rfl
                  obtain ⟨hA, hP, X2, X5, X9, X10, X12, hH, hW⟩ := hI
                  have n11 : B 11 = false := by cases h : B 11; rfl; rw [hP.2.2 h] at hB; cases hB
                  have e5 : a.eval (.tmp 140) = X5 := hH (5, 140, X5) (by simp [tabM]) b5
                  have e9 : a.eval (.tmp 144) = X9 := hH (9, 144, X9) (by simp [tabM]) b9
                  obtain ⟨h, rfl, c0, c1⟩ := hW.c9 b9 hB
                  refine wpApp T31 (.tmp 140) (.tmp 144) rfl w9.drew.heap.size X5 l.length (flat l) [.int .i64 D, .int .i64 yy] 1 1 ⟨h, 0, none⟩ e5 (hW.o5 b5 hB) e9 rfl ?_ (by simp [Value.oneCell']) (by omega) hW.bel.size (fun v w2 ho hg hL => hK _ _ ⟨hA.put (by decide) _, hP.upd 10 (by omega) (fun _ => ⟨b5, b9⟩) (by omega), X2, X5, _, _, X12, (hH.turn10 hB n11 _).put (tabM_ok ..) (by simp [tabM]) (by rw [hA.size]; omega), hW.step10 b5 hB ho hg hL⟩)
                  intro j u hj
                  have ea : (⟨h, 0, none⟩ : Addr).add j = ⟨h, j, none⟩ := by unfold Addr.add; split <;> simp_all
                  rw [ea]
                  rcases j with _ | _ | j
                  · cases hj; exact c0
                  · cases hj; exact c1
                  · simp at hj
                · have e1 := hI.at (i := 1) (k := 136) (v := .int .i64 (d : Int)) (by simp [tabM]) (hdep ⟨1, .data⟩ (by simp) rfl)
                  have b10 : B 10 = true := hdep ⟨10, .data⟩ (by simp) rfl
                  obtain ⟨hA, hP, X2, X5, X9, X10, X12, hH, hW⟩ := hI
                  have e10 : a.eval (.tmp 145) = X10 := hH (10, 145, X10) (by simp [tabM]) b10
                  have ho := hW.o10 b10
                  rw [← flat_snoc] at ho
                  obtain ⟨-, a10, c10, rfl, -, -⟩ := Sigs.of_ownsRow ho
                  refine op_value (v := .agg #[.int .i64 (d : Int), .slice a10 (l.length + 1) c10]) (w' := w') (by simp [execOp, go_sem, tmp_of e1, tmp_of e10]) (hK _ _ ⟨hA.put (by decide) _, hP.upd 11 (by omega) (by omega) (fun _ => b10), X2, X5, X9, _, X12, hH.put (tabM_ok ..) (by simp [tabM]) (by rw [hA.size]; omega), hW.same (by omega)⟩)
                · obtain ⟨hA, hP, X2, X5, X9, X10, X12, hH, hW⟩ := hI
                  refine op_value (v := .pointer (some ⟨w'.heap.size, 0, none⟩)) (w' := w'.alloc (.cells #[.int .i64 0, .slice none 0 0] 33)) (by simp [execOp, go_sem]) (hK _ _ ⟨hA.put (by decide) _, hP.upd 12 (by omega) (by omega) (by omega), X2, X5, X9, X10, _, (hH.turn12 hB _).put (tabM_ok ..) (by simp [tabM]) (by rw [hA.size]; omega), hW.step12⟩)
              case he =>
                intro B a w' hBall hI o ho K hK
                simp only [List.drop_succ_cons, List.drop_zero, List.cons.injEq, and_true] at ho
                subst ho
                obtain ⟨hA, hP, X2, X5, X9, X10, X12, hH, hW⟩ := hI
                have hown := hW.o10 (hBall 10 (by omega))
                rw [← flat_snoc] at hown
                obtain ⟨hnl, a10, c10, rfl, -, hc10⟩ := Sigs.of_ownsRow hown
                obtain ⟨q, rfl, z0, z1, y0, y1, hq⟩ := hW.c12 (hBall 12 (by omega))
                have hne10 := hW.s10q (hBall 10 (by omega)) (hBall 12 (by omega)) q rfl
                have e16 : a.eval (.tmp 16) = .pointer (some ⟨q, 0, none⟩) := hH (12, 16, _) (by simp [tabM]) (hBall 12 (by omega))
                have e135 : a.eval (.tmp 135) = .pointer (some ⟨w.heap.size, 0, none⟩) := hH (0, 135, _) (by simp [tabM]) (hBall 0 (by omega))
                have e136 : a.eval (.tmp 136) = .int .i64 (d : Int) := hH (1, 136, _) (by simp [tabM]) (hBall 1 (by omega))
                have e137 : a.eval (.tmp 137) = X2 := hH (2, 137, _) (by simp [tabM]) (hBall 2 (by omega))
                have e138 : a.eval (.tmp 138) = .pointer (some ⟨w.heap.size, 1, none⟩) := hH (3, 138, _) (by simp [tabM]) (hBall 3 (by omega))
                have e139 : a.eval (.tmp 139) = .slice (some ⟨ba, offa, none⟩) l.length cap := hH (4, 139, _) (by simp [tabM]) (hBall 4 (by omega))
                have e140 : a.eval (.tmp 140) = X5 := hH (5, 140, _) (by simp [tabM]) (hBall 5 (by omega))
                have e141 : a.eval (.tmp 141) = .int .i64 D := hH (6, 141, _) (by simp [tabM]) (hBall 6 (by omega))
                have e142 : a.eval (.tmp 142) = .int .i64 yy := hH (7, 142, _) (by simp [tabM]) (hBall 7 (by omega))
                have e143 : a.eval (.tmp 143) = .agg #[.int .i64 D, .int .i64 yy] := hH (8, 143, _) (by simp [tabM]) (hBall 8 (by omega))
                have e144 : a.eval (.tmp 144) = X9 := hH (9, 144, _) (by simp [tabM]) (hBall 9 (by omega))
                have e145 : a.eval (.tmp 145) = .slice a10 (l.length + 1) c10 := hH (10, 145, _) (by simp [tabM]) (hBall 10 (by omega))
                have e146 : a.eval (.tmp 146) = .agg #[.int .i64 (d : Int), .slice a10 (l.length + 1) c10] := hH (11, 146, _) (by simp [tabM]) (hBall 11 (by omega))
                refine op_skip (w' := (w'.setCell ⟨q, 0, none⟩ (.int .i64 (d : Int))).setCell ⟨q, 1, none⟩ (.slice a10 (l.length + 1) c10)) rfl (by simp [execOp, go_sem, tmp_of e16, tmp_of e146, z0, z1, y0, y1]) (hK _ _ (NoPanic.normal ?_))
                have hown2 := owns_setOther (owns_setOther hown q 0 (.int .i64 (d : Int)) hne10) q 1 (.slice a10 (l.length + 1) c10) hne10
                have hbel2 := (hW.bel.setCell (p := ⟨q, 0, none⟩) hq (.int .i64 (d : Int))).setCell (p := ⟨q, 1, none⟩) hq (.slice a10 (l.length + 1) c10)
                have k0 : ((w'.setCell ⟨q, 0, none⟩ (.int .i64 (d : Int))).setCell ⟨q, 1, none⟩ (.slice a10 (l.length + 1) c10)).cell? ⟨q, 0, none⟩ = some (.int .i64 (d : Int)) := by
                  rw [World.cell?_setCell_other _ _ _ _ (by simp)]; exact World.cell?_setCell_same _ _ _ z0
                have k1 : ((w'.setCell ⟨q, 0, none⟩ (.int .i64 (d : Int))).setCell ⟨q, 1, none⟩ (.slice a10 (l.length + 1) c10)).cell? ⟨q, 1, none⟩ = some (.slice a10 (l.length + 1) c10) :=
                  World.cell?_setCell_same _ _ _ ((World.cell?_setCell_other _ _ _ _ (by simp)).trans z1)
                generalize (w'.setCell ⟨q, 0, none⟩ (.int .i64 (d : Int))).setCell ⟨q, 1, none⟩ (.slice a10 (l.length + 1) c10) = W at *
                have hback := hA.back
                simp only [slM, fills, e16, e135, e136, e137, e138, e139, e140, e141, e142, e143, e144, e145, e146] at hback
                rw [hback]
                clear hback e16 e135 e136 e137 e138 e139 e140 e141 e142 e143 e144 e145 e146 z0 z1 y0 y1 hA hH hW hown hBall hK hP
                have HBW := Lib.hid (HB9.out.drew.trans (hbel2.mono HB9.out.size))
                obtain ⟨hnl2, a11, c11, e11, hSig, -⟩ := Sigs.of_ownsRow hown2
                cases e11
                have hll : (l ++ [(D, yy)]).length = l.length + 1 := by simp
                have HXW : Hid (Logged W q (d : Int) a10 c10 (l ++ [(D, yy)])) := Lib.hid ⟨k0, by rw [hll]; exact k1, hSig⟩
                have HFW := fine_any a10 c10 (d : Int) (l ++ [(D, yy)]) W hSig
                have HMW := fun V h => cMost_any a10 c10 (d : Int) (l ++ [(D, yy)]) V (by rw [hll]; omega) h
                rw [hll] at HFW HMW
                have HMW := Lib.hid HMW
                clear hown2 hbel2 hnl2 hSig hne10 hnl hc10 hq hll x1 x2
                by_cases hcm : R.checkLog (d : Int) (l ++ [(D, yy)]) = 0
                · rw [decide_eq_true hcm] at HFW
                  have HFW := Lib.hid HFW
                  have HMM := Lib.hid (C.most_more HV.out (R.checkLog_zero hcm) HFf.out.1 HFf.out.2 HY.out)
                  have hmE : R.mostE (d : Int) (l ++ [(D, yy)]) = ((R.most (d : Int) l : Int) + 1, 0) := by
                    rw [mostE_pos (R.checkLog_zero hcm) (by rw [HMM.out]; omega), HMM.out]; rfl
                  rw [hmE] at HMW
                  clear hmE hcm
                  have k9 : IntKind.i64.wrap ((R.most (d : Int) l : Int) + 1) = (R.most (d : Int) l : Int) + 1 := IntWalk.i64_in _ (by omega)
                  go_wp2_with fail
                  refine HFW.out.mono ?_
                  rintro e w10 ⟨rfl, hb⟩
                  have HB10 := Lib.hid (HBW.out.trans (hb.mono HBW.out.size))
                  have HX10 := Lib.hid (HXW.out.on hb)
                  clear hb k0 k1
                  have k0 := HX10.out.x1
                  have k1 := HX10.out.x2
                  rw [List.length_append] at k1
                  go_wp2_with fail
                  refine (HMW.out _ HX10.out.sig).mono ?_
                  rintro e w11 ⟨rfl, hb⟩
                  have HB11 := Lib.hid (HB10.out.trans (hb.mono HB10.out.size))
                  clear hb
                  go_wp2_with fail
                  refine (works_any w11).mono ?_
                  rintro e w12 ⟨rfl, hb⟩
                  go_wp2_with fail
                  go_ret
                  exact ⟨rfl, HB11.out.trans (hb.mono HB11.out.size)⟩
                · rw [decide_eq_false hcm] at HFW
                  have HFW := Lib.hid HFW
                  clear hcm
                  go_wp2_with fail
                  refine HFW.out.mono ?_
                  rintro e w10 ⟨rfl, hb⟩
                  have HB10 := Lib.hid (HBW.out.trans (hb.mono HBW.out.size))
                  clear hb
                  go_wp2_with fail
                  refine (works_any w10).mono ?_
                  rintro e w12 ⟨rfl, hb⟩
                  go_wp2_with fail
                  go_ret
                  exact ⟨rfl, HB10.out.trans (hb.mono HB10.out.size)⟩
  · rw [decide_eq_false hc] at HF
    have HF := Lib.hid HF
    clear hc
    go_enter Try.func12, Try.ntmps12
    go_wp2_with fail
    refine HF.out.mono ?_
    rintro e w1 ⟨rfl, hb1⟩
    have HB1 := Lib.hid (HB.out.trans (hb1.mono HB.out.size))
    clear hb1
    go_wp2_with fail
    refine (works_any w1).mono ?_
    rintro e w2 ⟨rfl, hb2⟩
    go_wp2_with fail
    go_ret
    exact ⟨rfl, HB1.out.trans (hb2.mono HB1.out.size)⟩
end Go.Proofs.Ytkcgkfhfogdihaa
