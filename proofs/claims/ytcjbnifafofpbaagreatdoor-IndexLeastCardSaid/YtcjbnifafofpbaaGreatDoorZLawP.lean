/- Walk of least, and of IndexLeast. -/
import Derived.Test.YtcjbnifafofpbaaGreatDoorJ24
namespace Go.Proofs.YtcjbnifafofpbaaGreatDoor
open Go.RowKit Go.Lib
set_option maxRecDepth 20000 in
set_option maxHeartbeats 8000000 in
theorem least_any (a0 : Option Addr) (cap0 : Nat) (l0 : List X.W) (w : World) (hL : X.List_ l0) (w0 : Strs w a0 l0) :
    Calls Tryz.prog 46 #[.slice a0 l0.length cap0] w fun e w' => e = .returned (.bool true) ∧ RowKit.Below w.heap.size w w' := by
  have HB0 := Lib.hid (RowKit.Below.refl w.heap.size w)
  have I0 := Lib.hid w0
  have e0 := hL.many
  have HR0 := Lib.hid (rooms_of (fun s hs => by have := hL.long s hs; omega : ∀ s ∈ l0, s.length ≤ 1000))
  have HL := Lib.hid hL
  have h0 := X.listE_iff.2 hL
  clear w0
  by_cases hz : l0 = []
  case pos =>
    have HA : Hid (X.apartE l0 = ([], 0)) := Lib.hid (by unfold X.apartE; rw [if_neg (not_not_intro h0), if_pos hz])
    have HC1 : Hid (X.checkApartE l0 [] = (0, 0)) := Lib.hid (by rw [hz]; exact X.apart_checks0)
    have hbl : (X.build l0).length = 1 := by rw [hz, X.build_nil]; rfl
    have hlI : ((l0.length : Int) == 0) = true := by rw [hz]; rfl
    have hb1 : (((X.build l0).length : Int) == 1) = true := by rw [hbl]; rfl
    clear hL h0 hz
    go_enter Tryz.func46, Tryz.ntmps46
    have hC := built_any a0 cap0 l0 w HL.out I0.out
    have HC := Lib.hid hC
    clear hC
    go_wp2_with fail
    refine HC.out.mono ?_
    rintro e w1 ⟨Ab, Cb, rfl, hi, -, hb⟩
    have HB0 := Lib.hid (HB0.out.trans (hb.mono HB0.out.size))
    have I01 := Lib.hid (I0.out.below hb)
    have Ib := Lib.hid hi
    clear hi
    clear hb HC
    have hC := apartM_any a0 cap0 l0 w1 (by omega) HR0.out I01.out
    rw [HA.out] at hC
    have HC := Lib.hid hC
    clear hC
    go_wp2_with fail
    refine HC.out.mono ?_
    intro e w2 hG
    obtain ⟨Ax, Cx, rfl, hi, hcx, hb⟩ := hG.lit (n := 0) rfl
    have HB2 := Lib.hid (HB0.out.trans (hb.mono HB0.out.size))
    have I03 := Lib.hid (I01.out.below hb)
    have Ix := Lib.hid hi
    have Kx := Lib.hid hcx
    clear hcx hi hG
    clear hb HC
    have hC := checkApartM_any a0 cap0 l0 Ax Cx [] w2 (by omega) HR0.out (by decide) (fun s hs => by cases hs) I03.out Ix.out
    rw [HC1.out] at hC
    have HC := Lib.hid hC
    clear hC
    go_wp2_with fail
    refine HC.out.mono ?_
    rintro e w3 ⟨rfl, hb⟩
    have HB4 := Lib.hid (HB2.out.trans (hb.mono HB2.out.size))
    have I05 := Lib.hid (I03.out.below hb)
    have Ix6 := Lib.hid (Ix.out.below hb)
    clear hb HC
    have hC := checkApart_any a0 cap0 l0 Ax Cx [] w3 (by omega) (by decide) HR0.out (fun s hs => by cases hs) I05.out Ix6.out
    rw [HC1.out] at hC
    have HC := Lib.hid hC
    clear hC
    go_wp2_with fail
    refine HC.out.mono ?_
    rintro e w4 ⟨rfl, hb⟩
    have HB7 := Lib.hid (HB4.out.trans (hb.mono HB4.out.size))
    have I08 := Lib.hid (I05.out.below hb)
    have Ix9 := Lib.hid (Ix6.out.below hb)
    clear hb HC
    go_wp2_with fail
    go_ret
    exact ⟨rfl, HB7.out⟩
  case neg =>
    have HA : Hid (X.apartE l0 = (X.tops l0, 0)) := Lib.hid (by unfold X.apartE; rw [if_neg (not_not_intro h0), if_neg hz])
    have HC1 := Lib.hid (X.apart_checks hL hz)
    have hbl : (X.build l0).length = (X.tops l0).length := X.build_len
    have hl0 : l0.length ≠ 0 := fun e => hz (List.eq_nil_of_length_eq_zero e)
    have hlI : ((l0.length : Int) == 0) = false := by simpa using hl0
    have hlP : (0 : Int) < (l0.length : Int) := by omega
    have HRt : Hid (Rooms (X.tops l0)) := Lib.hid (fun u hu => by have := (List_.fit hL).2.2 u hu; omega)
    have htl := (few_of hL).2
    rw [hbl] at htl
    have hbI : ((X.build l0).length : Int) = ((X.tops l0).length : Int) := by omega
    generalize X.tops l0 = T at *
    clear hL h0 hz hl0
    go_enter Tryz.func46, Tryz.ntmps46
    have hC := built_any a0 cap0 l0 w HL.out I0.out
    have HC := Lib.hid hC
    clear hC
    go_wp2_with fail
    refine HC.out.mono ?_
    rintro e w1 ⟨Ab, Cb, rfl, hi, -, hb⟩
    have HB10 := Lib.hid (HB0.out.trans (hb.mono HB0.out.size))
    have I011 := Lib.hid (I0.out.below hb)
    have Ib := Lib.hid hi
    clear hi
    clear hb HC
    have hC := apartM_any a0 cap0 l0 w1 (by omega) HR0.out I011.out
    rw [HA.out] at hC
    have HC := Lib.hid hC
    clear hC
    go_wp2_with fail
    refine HC.out.mono ?_
    intro e w2 hG
    obtain ⟨Ax, Cx, rfl, hi, hcx, hb⟩ := hG.lit (n := T.length) rfl
    have HB12 := Lib.hid (HB10.out.trans (hb.mono HB10.out.size))
    have I013 := Lib.hid (I011.out.below hb)
    have Ix := Lib.hid hi
    have Kx := Lib.hid hcx
    clear hcx hi hG
    clear hb HC
    have hC := checkApartM_any a0 cap0 l0 Ax Cx T w2 (by omega) HR0.out (by omega) HRt.out I013.out Ix.out
    rw [HC1.out] at hC
    have HC := Lib.hid hC
    clear hC
    go_wp2_with fail
    refine HC.out.mono ?_
    rintro e w3 ⟨rfl, hb⟩
    have HB14 := Lib.hid (HB12.out.trans (hb.mono HB12.out.size))
    have I015 := Lib.hid (I013.out.below hb)
    have Ix16 := Lib.hid (Ix.out.below hb)
    clear hb HC
    have hC := checkApart_any a0 cap0 l0 Ax Cx T w3 (by omega) (by omega) HR0.out HRt.out I015.out Ix16.out
    rw [HC1.out] at hC
    have HC := Lib.hid hC
    clear hC
    go_wp2_with fail
    refine HC.out.mono ?_
    rintro e w4 ⟨rfl, hb⟩
    have HB17 := Lib.hid (HB14.out.trans (hb.mono HB14.out.size))
    have I018 := Lib.hid (I015.out.below hb)
    have Ix19 := Lib.hid (Ix16.out.below hb)
    clear hb HC
    go_wp2_with fail
    go_ret
    exact ⟨rfl, HB17.out⟩
set_option maxRecDepth 20000 in
set_option maxHeartbeats 8000000 in
theorem least_walk (a0 : Option Addr) (cap0 : Nat) (l0 : List X.W) (a1 : Option Addr) (cap1 : Nat) (l1 : List X.St) (w : World) (z0 : a0 = none → cap0 = 0) (w0 : Strs w a0 l0) (w1 : Sts w a1 l1) :
    Calls Tryz.prog 7 #[.slice a0 l0.length cap0, .slice a1 l1.length cap1] w fun e w' => e = .returned (.bool true) ∧ RowKit.Below w.heap.size w w' := by
  have HB0 := Lib.hid (RowKit.Below.refl w.heap.size w)
  have I0 := Lib.hid w0
  have I1 := Lib.hid w1
  clear w0 w1 z0
  by_cases h0 : X.listE l0 = 0
  case pos =>
    have HD0 := Lib.hid (decide_eq_true h0)
    have HL := Lib.hid (X.listE_iff.1 h0)
    clear h0
    cases hg : wideB l1
    case true =>
      have HG := Lib.hid hg
      clear hg
      go_enter Tryz.func7, Tryz.ntmps7
      have hC := fine_any a0 cap0 l0 w I0.out
      rw [HD0.out] at hC
      have HC := Lib.hid hC
      clear hC
      go_wp2_with fail
      refine HC.out.mono ?_
      rintro e w1 ⟨rfl, hd⟩
      have hb := hd.below w.heap.size
      clear hd
      have hb := hb
      have HB20 := Lib.hid (HB0.out.trans (hb.mono HB0.out.size))
      have I021 := Lib.hid (I0.out.below hb)
      have I122 := Lib.hid (I1.out.below hb)
      clear hb HC
      have hC := least_any a0 cap0 l0 w1 HL.out I021.out
      have HC := Lib.hid hC
      clear hC
      go_wp2_with fail
      refine HC.out.mono ?_
      rintro e w2 ⟨rfl, hb⟩
      have HB23 := Lib.hid (HB20.out.trans (hb.mono HB20.out.size))
      have I024 := Lib.hid (I021.out.below hb)
      have I125 := Lib.hid (I122.out.below hb)
      clear hb HC
      have hC := wide_any a1 cap1 l1 w2 I125.out
      rw [HG.out] at hC
      have HC := Lib.hid hC
      clear hC
      go_wp2_with fail
      refine HC.out.mono ?_
      rintro e _ ⟨rfl, rfl⟩
      clear HC
      have HC := Lib.hid (works_any w2)
      go_wp2_with fail
      refine HC.out.mono ?_
      rintro e w3 ⟨rfl, hb⟩
      have HB26 := Lib.hid (HB23.out.trans (hb.mono HB23.out.size))
      have I027 := Lib.hid (I024.out.below hb)
      have I128 := Lib.hid (I125.out.below hb)
      clear hb HC
      go_wp2_with fail
      go_ret
      exact ⟨rfl, HB26.out⟩
    case false =>
      have HG := Lib.hid hg
      obtain ⟨e1, hf⟩ := wideB_false hg
      have HF := Lib.hid hf
      have HRS : Hid (RoomsS l1) := Lib.hid (fun x hx => by have := hf x hx; omega)
      clear hg hf
      by_cases h1 : X.statesE l1 = 0
      case pos =>
        have H1 := Lib.hid h1
        have HAu := Lib.hid (X.statesE_iff.1 h1)
        cases ho : X.overB l1
        case true =>
          have HN : Hid (X.namesE l1 = ([], 4)) := Lib.hid (by unfold X.namesE; rw [if_pos h1, if_pos ho])
          clear h1 ho
          go_enter Tryz.func7, Tryz.ntmps7
          have hC := fine_any a0 cap0 l0 w I0.out
          rw [HD0.out] at hC
          have HC := Lib.hid hC
          clear hC
          go_wp2_with fail
          refine HC.out.mono ?_
          rintro e w1 ⟨rfl, hd⟩
          have hb := hd.below w.heap.size
          clear hd
          have hb := hb
          have HB29 := Lib.hid (HB0.out.trans (hb.mono HB0.out.size))
          have I030 := Lib.hid (I0.out.below hb)
          have I131 := Lib.hid (I1.out.below hb)
          clear hb HC
          have hC := least_any a0 cap0 l0 w1 HL.out I030.out
          have HC := Lib.hid hC
          clear hC
          go_wp2_with fail
          refine HC.out.mono ?_
          rintro e w2 ⟨rfl, hb⟩
          have HB32 := Lib.hid (HB29.out.trans (hb.mono HB29.out.size))
          have I033 := Lib.hid (I030.out.below hb)
          have I134 := Lib.hid (I131.out.below hb)
          clear hb HC
          have hC := wide_any a1 cap1 l1 w2 I134.out
          rw [HG.out] at hC
          have HC := Lib.hid hC
          clear hC
          go_wp2_with fail
          refine HC.out.mono ?_
          rintro e _ ⟨rfl, rfl⟩
          clear HC
          have hC := checkStates_any a1 cap1 l1 w2 (by omega) HRS.out I134.out
          rw [H1.out] at hC
          have HC := Lib.hid hC
          clear hC
          go_wp2_with fail
          refine HC.out.mono ?_
          rintro e w3 ⟨rfl, hd⟩
          have hb := hd.below w2.heap.size
          clear hd
          have hb := hb
          have HB35 := Lib.hid (HB32.out.trans (hb.mono HB32.out.size))
          have I036 := Lib.hid (I033.out.below hb)
          have I137 := Lib.hid (I134.out.below hb)
          clear hb HC
          have hC := namesP_any a1 cap1 l1 w3 (by omega) HF.out I137.out
          rw [HN.out] at hC
          have HC := Lib.hid hC
          clear hC
          go_wp2_with fail
          refine HC.out.mono ?_
          intro e w4 hG
          obtain ⟨Am, Cm, rfl, hi, hcm, hb⟩ := hG.lit (n := 0) rfl
          have HB38 := Lib.hid (HB35.out.trans (hb.mono HB35.out.size))
          have I039 := Lib.hid (I036.out.below hb)
          have I140 := Lib.hid (I137.out.below hb)
          have Im := Lib.hid hi
          have Km := Lib.hid hcm
          clear hcm hi hG
          clear hb HC
          have HC := Lib.hid (works_any w4)
          go_wp2_with fail
          refine HC.out.mono ?_
          rintro e w5 ⟨rfl, hb⟩
          have HB41 := Lib.hid (HB38.out.trans (hb.mono HB38.out.size))
          have I042 := Lib.hid (I039.out.below hb)
          have I143 := Lib.hid (I140.out.below hb)
          have Im44 := Lib.hid (Im.out.below hb)
          clear hb HC
          go_wp2_with fail
          go_ret
          exact ⟨rfl, HB41.out⟩
        case false =>
          have HN : Hid (X.namesE l1 = (X.reads l1 0, 0)) := Lib.hid (by unfold X.namesE; rw [if_pos h1, if_neg (by rw [ho]; simp)])
          have hLm := X.over_list HAu.out ho
          have hap : (X.apartE (X.reads l1 0)).1.length ≤ l1.length ∧ (X.apartE (X.reads l1 0)).2 = 0 := by
            unfold X.apartE
            rw [if_neg (not_not_intro (X.listE_iff.2 hLm))]
            by_cases hz : X.reads l1 0 = []
            · rw [if_pos hz]; exact ⟨by simp, rfl⟩
            · rw [if_neg hz]; exact ⟨X.tops_least HAu.out hLm.up hLm.long hz rfl, rfl⟩
          obtain ⟨T, c, hT⟩ : ∃ T c, X.apartE (X.reads l1 0) = (T, c) := ⟨_, _, rfl⟩
          rw [hT] at hap
          obtain ⟨hTl, hc⟩ := hap
          have hTl : T.length ≤ l1.length := hTl
          have hc : c = 0 := hc
          subst hc
          have hTI : (T.length : Int) ≤ (l1.length : Int) := by omega
          have HT := Lib.hid hT
          have HLm := Lib.hid hLm
          have HDm := Lib.hid (decide_eq_true (X.listE_iff.2 hLm))
          have hml := hLm.many
          have HRm := Lib.hid (rooms_of (fun s hs => by have := hLm.long s hs; omega : ∀ s ∈ X.reads l1 0, s.length ≤ 1000))
          generalize X.reads l1 0 = M at *
          clear h1 ho hLm hT
          go_enter Tryz.func7, Tryz.ntmps7
          have hC := fine_any a0 cap0 l0 w I0.out
          rw [HD0.out] at hC
          have HC := Lib.hid hC
          clear hC
          go_wp2_with fail
          refine HC.out.mono ?_
          rintro e w1 ⟨rfl, hd⟩
          have hb := hd.below w.heap.size
          clear hd
          have hb := hb
          have HB45 := Lib.hid (HB0.out.trans (hb.mono HB0.out.size))
          have I046 := Lib.hid (I0.out.below hb)
          have I147 := Lib.hid (I1.out.below hb)
          clear hb HC
          have hC := least_any a0 cap0 l0 w1 HL.out I046.out
          have HC := Lib.hid hC
          clear hC
          go_wp2_with fail
          refine HC.out.mono ?_
          rintro e w2 ⟨rfl, hb⟩
          have HB48 := Lib.hid (HB45.out.trans (hb.mono HB45.out.size))
          have I049 := Lib.hid (I046.out.below hb)
          have I150 := Lib.hid (I147.out.below hb)
          clear hb HC
          have hC := wide_any a1 cap1 l1 w2 I150.out
          rw [HG.out] at hC
          have HC := Lib.hid hC
          clear hC
          go_wp2_with fail
          refine HC.out.mono ?_
          rintro e _ ⟨rfl, rfl⟩
          clear HC
          have hC := checkStates_any a1 cap1 l1 w2 (by omega) HRS.out I150.out
          rw [H1.out] at hC
          have HC := Lib.hid hC
          clear hC
          go_wp2_with fail
          refine HC.out.mono ?_
          rintro e w3 ⟨rfl, hd⟩
          have hb := hd.below w2.heap.size
          clear hd
          have hb := hb
          have HB51 := Lib.hid (HB48.out.trans (hb.mono HB48.out.size))
          have I052 := Lib.hid (I049.out.below hb)
          have I153 := Lib.hid (I150.out.below hb)
          clear hb HC
          have hC := namesP_any a1 cap1 l1 w3 (by omega) HF.out I153.out
          rw [HN.out] at hC
          have HC := Lib.hid hC
          clear hC
          go_wp2_with fail
          refine HC.out.mono ?_
          intro e w4 hG
          obtain ⟨Am, Cm, rfl, hi, hcm, hb⟩ := hG.lit (n := M.length) rfl
          have HB54 := Lib.hid (HB51.out.trans (hb.mono HB51.out.size))
          have I055 := Lib.hid (I052.out.below hb)
          have I156 := Lib.hid (I153.out.below hb)
          have Im := Lib.hid hi
          have Km := Lib.hid hcm
          clear hcm hi hG
          clear hb HC
          have hC := fine_any Am Cm M w4 Im.out
          rw [HDm.out] at hC
          have HC := Lib.hid hC
          clear hC
          go_wp2_with fail
          refine HC.out.mono ?_
          rintro e w5 ⟨rfl, hd⟩
          have hb := hd.below w4.heap.size
          clear hd
          have hb := hb
          have HB57 := Lib.hid (HB54.out.trans (hb.mono HB54.out.size))
          have I058 := Lib.hid (I055.out.below hb)
          have I159 := Lib.hid (I156.out.below hb)
          have Im60 := Lib.hid (Im.out.below hb)
          clear hb HC
          have hC := least_any Am Cm M w5 HLm.out Im60.out
          have HC := Lib.hid hC
          clear hC
          go_wp2_with fail
          refine HC.out.mono ?_
          rintro e w6 ⟨rfl, hb⟩
          have HB61 := Lib.hid (HB57.out.trans (hb.mono HB57.out.size))
          have I062 := Lib.hid (I058.out.below hb)
          have I163 := Lib.hid (I159.out.below hb)
          have Im64 := Lib.hid (Im60.out.below hb)
          clear hb HC
          have hC := apartM_any Am Cm M w6 (by omega) HRm.out Im64.out
          rw [HT.out] at hC
          have HC := Lib.hid hC
          clear hC
          go_wp2_with fail
          refine HC.out.mono ?_
          intro e w7 hG
          obtain ⟨Ax, Cx, rfl, hi, hcx, hb⟩ := hG.lit (n := T.length) rfl
          have HB65 := Lib.hid (HB61.out.trans (hb.mono HB61.out.size))
          have I066 := Lib.hid (I062.out.below hb)
          have I167 := Lib.hid (I163.out.below hb)
          have Im68 := Lib.hid (Im64.out.below hb)
          have Ix := Lib.hid hi
          have Kx := Lib.hid hcx
          clear hcx hi hG
          clear hb HC
          have HC := Lib.hid (works_any w7)
          go_wp2_with fail
          refine HC.out.mono ?_
          rintro e w8 ⟨rfl, hb⟩
          have HB69 := Lib.hid (HB65.out.trans (hb.mono HB65.out.size))
          have I070 := Lib.hid (I066.out.below hb)
          have I171 := Lib.hid (I167.out.below hb)
          have Im72 := Lib.hid (Im68.out.below hb)
          have Ix73 := Lib.hid (Ix.out.below hb)
          clear hb HC
          go_wp2_with fail
          go_ret
          exact ⟨rfl, HB69.out⟩
      case neg =>
        have kq : (X.statesE l1 != 0) = true := by simpa using h1
        go_enter Tryz.func7, Tryz.ntmps7
        have hC := fine_any a0 cap0 l0 w I0.out
        rw [HD0.out] at hC
        have HC := Lib.hid hC
        clear hC
        go_wp2_with fail
        refine HC.out.mono ?_
        rintro e w1 ⟨rfl, hd⟩
        have hb := hd.below w.heap.size
        clear hd
        have hb := hb
        have HB74 := Lib.hid (HB0.out.trans (hb.mono HB0.out.size))
        have I075 := Lib.hid (I0.out.below hb)
        have I176 := Lib.hid (I1.out.below hb)
        clear hb HC
        have hC := least_any a0 cap0 l0 w1 HL.out I075.out
        have HC := Lib.hid hC
        clear hC
        go_wp2_with fail
        refine HC.out.mono ?_
        rintro e w2 ⟨rfl, hb⟩
        have HB77 := Lib.hid (HB74.out.trans (hb.mono HB74.out.size))
        have I078 := Lib.hid (I075.out.below hb)
        have I179 := Lib.hid (I176.out.below hb)
        clear hb HC
        have hC := wide_any a1 cap1 l1 w2 I179.out
        rw [HG.out] at hC
        have HC := Lib.hid hC
        clear hC
        go_wp2_with fail
        refine HC.out.mono ?_
        rintro e _ ⟨rfl, rfl⟩
        clear HC
        have hC := checkStates_any a1 cap1 l1 w2 (by omega) HRS.out I179.out
        have HC := Lib.hid hC
        clear hC
        go_wp2_with fail
        refine HC.out.mono ?_
        rintro e w3 ⟨rfl, hd⟩
        have hb := hd.below w2.heap.size
        clear hd
        have hb := hb
        have HB80 := Lib.hid (HB77.out.trans (hb.mono HB77.out.size))
        have I081 := Lib.hid (I078.out.below hb)
        have I182 := Lib.hid (I179.out.below hb)
        clear hb HC
        have HC := Lib.hid (works_any w3)
        go_wp2_with fail
        refine HC.out.mono ?_
        rintro e w4 ⟨rfl, hb⟩
        have HB83 := Lib.hid (HB80.out.trans (hb.mono HB80.out.size))
        have I084 := Lib.hid (I081.out.below hb)
        have I185 := Lib.hid (I182.out.below hb)
        clear hb HC
        go_wp2_with fail
        go_ret
        exact ⟨rfl, HB83.out⟩
  case neg =>
    have HD0 := Lib.hid (decide_eq_false h0)
    clear h0
    cases hg : wideB l1
    case true =>
      have HG := Lib.hid hg
      clear hg
      go_enter Tryz.func7, Tryz.ntmps7
      have hC := fine_any a0 cap0 l0 w I0.out
      rw [HD0.out] at hC
      have HC := Lib.hid hC
      clear hC
      go_wp2_with fail
      refine HC.out.mono ?_
      rintro e w1 ⟨rfl, hd⟩
      have hb := hd.below w.heap.size
      clear hd
      have hb := hb
      have HB86 := Lib.hid (HB0.out.trans (hb.mono HB0.out.size))
      have I087 := Lib.hid (I0.out.below hb)
      have I188 := Lib.hid (I1.out.below hb)
      clear hb HC
      have hC := wide_any a1 cap1 l1 w1 I188.out
      rw [HG.out] at hC
      have HC := Lib.hid hC
      clear hC
      go_wp2_with fail
      refine HC.out.mono ?_
      rintro e _ ⟨rfl, rfl⟩
      clear HC
      have HC := Lib.hid (works_any w1)
      go_wp2_with fail
      refine HC.out.mono ?_
      rintro e w2 ⟨rfl, hb⟩
      have HB89 := Lib.hid (HB86.out.trans (hb.mono HB86.out.size))
      have I090 := Lib.hid (I087.out.below hb)
      have I191 := Lib.hid (I188.out.below hb)
      clear hb HC
      go_wp2_with fail
      go_ret
      exact ⟨rfl, HB89.out⟩
    case false =>
      have HG := Lib.hid hg
      obtain ⟨e1, hf⟩ := wideB_false hg
      have HF := Lib.hid hf
      have HRS : Hid (RoomsS l1) := Lib.hid (fun x hx => by have := hf x hx; omega)
      clear hg hf
      by_cases h1 : X.statesE l1 = 0
      case pos =>
        have H1 := Lib.hid h1
        have HAu := Lib.hid (X.statesE_iff.1 h1)
        cases ho : X.overB l1
        case true =>
          have HN : Hid (X.namesE l1 = ([], 4)) := Lib.hid (by unfold X.namesE; rw [if_pos h1, if_pos ho])
          clear h1 ho
          go_enter Tryz.func7, Tryz.ntmps7
          have hC := fine_any a0 cap0 l0 w I0.out
          rw [HD0.out] at hC
          have HC := Lib.hid hC
          clear hC
          go_wp2_with fail
          refine HC.out.mono ?_
          rintro e w1 ⟨rfl, hd⟩
          have hb := hd.below w.heap.size
          clear hd
          have hb := hb
          have HB92 := Lib.hid (HB0.out.trans (hb.mono HB0.out.size))
          have I093 := Lib.hid (I0.out.below hb)
          have I194 := Lib.hid (I1.out.below hb)
          clear hb HC
          have hC := wide_any a1 cap1 l1 w1 I194.out
          rw [HG.out] at hC
          have HC := Lib.hid hC
          clear hC
          go_wp2_with fail
          refine HC.out.mono ?_
          rintro e _ ⟨rfl, rfl⟩
          clear HC
          have hC := checkStates_any a1 cap1 l1 w1 (by omega) HRS.out I194.out
          rw [H1.out] at hC
          have HC := Lib.hid hC
          clear hC
          go_wp2_with fail
          refine HC.out.mono ?_
          rintro e w2 ⟨rfl, hd⟩
          have hb := hd.below w1.heap.size
          clear hd
          have hb := hb
          have HB95 := Lib.hid (HB92.out.trans (hb.mono HB92.out.size))
          have I096 := Lib.hid (I093.out.below hb)
          have I197 := Lib.hid (I194.out.below hb)
          clear hb HC
          have hC := namesP_any a1 cap1 l1 w2 (by omega) HF.out I197.out
          rw [HN.out] at hC
          have HC := Lib.hid hC
          clear hC
          go_wp2_with fail
          refine HC.out.mono ?_
          intro e w3 hG
          obtain ⟨Am, Cm, rfl, hi, hcm, hb⟩ := hG.lit (n := 0) rfl
          have HB98 := Lib.hid (HB95.out.trans (hb.mono HB95.out.size))
          have I099 := Lib.hid (I096.out.below hb)
          have I1100 := Lib.hid (I197.out.below hb)
          have Im := Lib.hid hi
          have Km := Lib.hid hcm
          clear hcm hi hG
          clear hb HC
          have HC := Lib.hid (works_any w3)
          go_wp2_with fail
          refine HC.out.mono ?_
          rintro e w4 ⟨rfl, hb⟩
          have HB101 := Lib.hid (HB98.out.trans (hb.mono HB98.out.size))
          have I0102 := Lib.hid (I099.out.below hb)
          have I1103 := Lib.hid (I1100.out.below hb)
          have Im104 := Lib.hid (Im.out.below hb)
          clear hb HC
          go_wp2_with fail
          go_ret
          exact ⟨rfl, HB101.out⟩
        case false =>
          have HN : Hid (X.namesE l1 = (X.reads l1 0, 0)) := Lib.hid (by unfold X.namesE; rw [if_pos h1, if_neg (by rw [ho]; simp)])
          have hLm := X.over_list HAu.out ho
          have hap : (X.apartE (X.reads l1 0)).1.length ≤ l1.length ∧ (X.apartE (X.reads l1 0)).2 = 0 := by
            unfold X.apartE
            rw [if_neg (not_not_intro (X.listE_iff.2 hLm))]
            by_cases hz : X.reads l1 0 = []
            · rw [if_pos hz]; exact ⟨by simp, rfl⟩
            · rw [if_neg hz]; exact ⟨X.tops_least HAu.out hLm.up hLm.long hz rfl, rfl⟩
          obtain ⟨T, c, hT⟩ : ∃ T c, X.apartE (X.reads l1 0) = (T, c) := ⟨_, _, rfl⟩
          rw [hT] at hap
          obtain ⟨hTl, hc⟩ := hap
          have hTl : T.length ≤ l1.length := hTl
          have hc : c = 0 := hc
          subst hc
          have hTI : (T.length : Int) ≤ (l1.length : Int) := by omega
          have HT := Lib.hid hT
          have HLm := Lib.hid hLm
          have HDm := Lib.hid (decide_eq_true (X.listE_iff.2 hLm))
          have hml := hLm.many
          have HRm := Lib.hid (rooms_of (fun s hs => by have := hLm.long s hs; omega : ∀ s ∈ X.reads l1 0, s.length ≤ 1000))
          generalize X.reads l1 0 = M at *
          clear h1 ho hLm hT
          go_enter Tryz.func7, Tryz.ntmps7
          have hC := fine_any a0 cap0 l0 w I0.out
          rw [HD0.out] at hC
          have HC := Lib.hid hC
          clear hC
          go_wp2_with fail
          refine HC.out.mono ?_
          rintro e w1 ⟨rfl, hd⟩
          have hb := hd.below w.heap.size
          clear hd
          have hb := hb
          have HB105 := Lib.hid (HB0.out.trans (hb.mono HB0.out.size))
          have I0106 := Lib.hid (I0.out.below hb)
          have I1107 := Lib.hid (I1.out.below hb)
          clear hb HC
          have hC := wide_any a1 cap1 l1 w1 I1107.out
          rw [HG.out] at hC
          have HC := Lib.hid hC
          clear hC
          go_wp2_with fail
          refine HC.out.mono ?_
          rintro e _ ⟨rfl, rfl⟩
          clear HC
          have hC := checkStates_any a1 cap1 l1 w1 (by omega) HRS.out I1107.out
          rw [H1.out] at hC
          have HC := Lib.hid hC
          clear hC
          go_wp2_with fail
          refine HC.out.mono ?_
          rintro e w2 ⟨rfl, hd⟩
          have hb := hd.below w1.heap.size
          clear hd
          have hb := hb
          have HB108 := Lib.hid (HB105.out.trans (hb.mono HB105.out.size))
          have I0109 := Lib.hid (I0106.out.below hb)
          have I1110 := Lib.hid (I1107.out.below hb)
          clear hb HC
          have hC := namesP_any a1 cap1 l1 w2 (by omega) HF.out I1110.out
          rw [HN.out] at hC
          have HC := Lib.hid hC
          clear hC
          go_wp2_with fail
          refine HC.out.mono ?_
          intro e w3 hG
          obtain ⟨Am, Cm, rfl, hi, hcm, hb⟩ := hG.lit (n := M.length) rfl
          have HB111 := Lib.hid (HB108.out.trans (hb.mono HB108.out.size))
          have I0112 := Lib.hid (I0109.out.below hb)
          have I1113 := Lib.hid (I1110.out.below hb)
          have Im := Lib.hid hi
          have Km := Lib.hid hcm
          clear hcm hi hG
          clear hb HC
          have hC := fine_any Am Cm M w3 Im.out
          rw [HDm.out] at hC
          have HC := Lib.hid hC
          clear hC
          go_wp2_with fail
          refine HC.out.mono ?_
          rintro e w4 ⟨rfl, hd⟩
          have hb := hd.below w3.heap.size
          clear hd
          have hb := hb
          have HB114 := Lib.hid (HB111.out.trans (hb.mono HB111.out.size))
          have I0115 := Lib.hid (I0112.out.below hb)
          have I1116 := Lib.hid (I1113.out.below hb)
          have Im117 := Lib.hid (Im.out.below hb)
          clear hb HC
          have hC := least_any Am Cm M w4 HLm.out Im117.out
          have HC := Lib.hid hC
          clear hC
          go_wp2_with fail
          refine HC.out.mono ?_
          rintro e w5 ⟨rfl, hb⟩
          have HB118 := Lib.hid (HB114.out.trans (hb.mono HB114.out.size))
          have I0119 := Lib.hid (I0115.out.below hb)
          have I1120 := Lib.hid (I1116.out.below hb)
          have Im121 := Lib.hid (Im117.out.below hb)
          clear hb HC
          have hC := apartM_any Am Cm M w5 (by omega) HRm.out Im121.out
          rw [HT.out] at hC
          have HC := Lib.hid hC
          clear hC
          go_wp2_with fail
          refine HC.out.mono ?_
          intro e w6 hG
          obtain ⟨Ax, Cx, rfl, hi, hcx, hb⟩ := hG.lit (n := T.length) rfl
          have HB122 := Lib.hid (HB118.out.trans (hb.mono HB118.out.size))
          have I0123 := Lib.hid (I0119.out.below hb)
          have I1124 := Lib.hid (I1120.out.below hb)
          have Im125 := Lib.hid (Im121.out.below hb)
          have Ix := Lib.hid hi
          have Kx := Lib.hid hcx
          clear hcx hi hG
          clear hb HC
          have HC := Lib.hid (works_any w6)
          go_wp2_with fail
          refine HC.out.mono ?_
          rintro e w7 ⟨rfl, hb⟩
          have HB126 := Lib.hid (HB122.out.trans (hb.mono HB122.out.size))
          have I0127 := Lib.hid (I0123.out.below hb)
          have I1128 := Lib.hid (I1124.out.below hb)
          have Im129 := Lib.hid (Im125.out.below hb)
          have Ix130 := Lib.hid (Ix.out.below hb)
          clear hb HC
          go_wp2_with fail
          go_ret
          exact ⟨rfl, HB126.out⟩
      case neg =>
        have kq : (X.statesE l1 != 0) = true := by simpa using h1
        go_enter Tryz.func7, Tryz.ntmps7
        have hC := fine_any a0 cap0 l0 w I0.out
        rw [HD0.out] at hC
        have HC := Lib.hid hC
        clear hC
        go_wp2_with fail
        refine HC.out.mono ?_
        rintro e w1 ⟨rfl, hd⟩
        have hb := hd.below w.heap.size
        clear hd
        have hb := hb
        have HB131 := Lib.hid (HB0.out.trans (hb.mono HB0.out.size))
        have I0132 := Lib.hid (I0.out.below hb)
        have I1133 := Lib.hid (I1.out.below hb)
        clear hb HC
        have hC := wide_any a1 cap1 l1 w1 I1133.out
        rw [HG.out] at hC
        have HC := Lib.hid hC
        clear hC
        go_wp2_with fail
        refine HC.out.mono ?_
        rintro e _ ⟨rfl, rfl⟩
        clear HC
        have hC := checkStates_any a1 cap1 l1 w1 (by omega) HRS.out I1133.out
        have HC := Lib.hid hC
        clear hC
        go_wp2_with fail
        refine HC.out.mono ?_
        rintro e w2 ⟨rfl, hd⟩
        have hb := hd.below w1.heap.size
        clear hd
        have hb := hb
        have HB134 := Lib.hid (HB131.out.trans (hb.mono HB131.out.size))
        have I0135 := Lib.hid (I0132.out.below hb)
        have I1136 := Lib.hid (I1133.out.below hb)
        clear hb HC
        have HC := Lib.hid (works_any w2)
        go_wp2_with fail
        refine HC.out.mono ?_
        rintro e w3 ⟨rfl, hb⟩
        have HB137 := Lib.hid (HB134.out.trans (hb.mono HB134.out.size))
        have I0138 := Lib.hid (I0135.out.below hb)
        have I1139 := Lib.hid (I1136.out.below hb)
        clear hb HC
        go_wp2_with fail
        go_ret
        exact ⟨rfl, HB137.out⟩
end Go.Proofs.YtcjbnifafofpbaaGreatDoor
