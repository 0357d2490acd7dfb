/- Walk of IndexNumbered. -/
import Derived.Test.YtcjbnifafofpbaaGreatDoorJ24
namespace Go.Proofs.YtcjbnifafofpbaaGreatDoor
open Go.RowKit Go.Lib
set_option maxRecDepth 20000 in
set_option maxHeartbeats 8000000 in
theorem numbered_walk (a0 : Option Addr) (cap0 : Nat) (l0 : List X.W) (s1 : X.W) (w : World) (z0 : a0 = none → cap0 = 0) (w0 : Strs w a0 l0)  :
    Calls Tryz.prog 8 #[.slice a0 l0.length cap0, sv s1] w fun e w' => e = .returned (.bool true) ∧ RowKit.Below w.heap.size w w' := by
  have HB0 := Lib.hid (RowKit.Below.refl w.heap.size w)
  have I0 := Lib.hid w0
  clear w0
  by_cases h0 : X.listE l0 = 0
  case pos =>
    have hL0 := X.listE_iff.1 h0
    have e0 := hL0.many
    have HD0 := Lib.hid (decide_eq_true h0)
    have HL := Lib.hid hL0
    clear h0 hL0
    by_cases h2 : 20 < s1.length
    case pos =>
      have hI1 : (20 : Int) < (s1.length : Int) := by omega
      go_enter Tryz.func8, Tryz.ntmps8
      have hC := fine_any a0 cap0 l0 w I0.out
      rw [HD0.out] at hC
      have HC := Lib.hid hC
      clear hC
      go_wp2_with fail
      refine HC.out.mono ?_
      rintro e w1 ⟨rfl, hd⟩
      have hb := hd.below w.heap.size
      clear hd
      have hb := hb
      have HB0 := Lib.hid (HB0.out.trans (hb.mono HB0.out.size))
      have I01 := Lib.hid (I0.out.below hb)
      clear hb HC
      have HC := Lib.hid (works_any w1)
      go_wp2_with fail
      refine HC.out.mono ?_
      rintro e w2 ⟨rfl, hb⟩
      have HB2 := Lib.hid (HB0.out.trans (hb.mono HB0.out.size))
      have I03 := Lib.hid (I01.out.below hb)
      clear hb HC
      go_wp2_with fail
      go_ret
      exact ⟨rfl, HB2.out⟩
    case neg =>
      have hI1 : ¬ (20 : Int) < (s1.length : Int) := by omega
      obtain ⟨hf, hbl⟩ := few_of HL.out
      have HF := Lib.hid hf
      have HNm : Hid (∀ j, j < l0.length → X.nameE (X.build l0) (j : Int) = (wat l0 j, 0) ∧ X.numberE (X.build l0) (wat l0 j) = ((j : Int), 0)) := Lib.hid (fun j hj => ⟨X.name_at HL.out hj, X.number_at HL.out hj⟩)
      have HNb := Lib.hid (X.number_build HL.out s1)
      have HBu := Lib.hid (fun A C W (hW : Strs W A l0) => built_any A C l0 W HL.out hW)
      generalize X.build l0 = B at *
      clear hf
      go_enter Tryz.func8, Tryz.ntmps8
      have hC := fine_any a0 cap0 l0 w I0.out
      rw [HD0.out] at hC
      have HC := Lib.hid hC
      clear hC
      go_wp2_with fail
      refine HC.out.mono ?_
      rintro e w1 ⟨rfl, hd⟩
      have hb := hd.below w.heap.size
      clear hd
      have hb := hb
      have HB4 := Lib.hid (HB0.out.trans (hb.mono HB0.out.size))
      have I05 := Lib.hid (I0.out.below hb)
      clear hb HC
      have hC := HBu.out a0 cap0 w1 I05.out
      have HC := Lib.hid hC
      clear hC
      go_wp2_with fail
      refine HC.out.mono ?_
      rintro e w2 ⟨Ab, Cb, rfl, hi, -, hb⟩
      have HB6 := Lib.hid (HB4.out.trans (hb.mono HB4.out.size))
      have I07 := Lib.hid (I05.out.below hb)
      have Ib := Lib.hid hi
      clear hi
      clear hb HC
      go_wp2_with fail
      go_loopw [7, 8, 9, 10, 11] (fun i _ _ _ _ wr => ∃ j : Nat, j ≤ l0.length ∧ i = .int .i64 j ∧ Hid (RowKit.Below w2.heap.size w2 wr)) (fun i _ _ _ _ _ => l0.length - (RowKit.intOf i).toNat)
      case atStart => exact ⟨0, by omega, rfl, Lib.hid (RowKit.Below.refl _ _)⟩
      case round =>
        obtain ⟨j, hj, rfl, HLp⟩ := hrel
        have HB8 := Lib.hid (HB6.out.trans (HLp.out.mono HB6.out.size))
        have I09 := Lib.hid (I07.out.below HLp.out)
        have Ib10 := Lib.hid (Ib.out.below HLp.out)
        by_cases hlt : j < l0.length
        case pos =>
          have hltI : (j : Int) < (l0.length : Int) := by omega
          have hj0 : (0 : Int) ≤ (j : Int) := by omega
          obtain ⟨hn1, hn2⟩ := HNm.out j hlt
          have hxl := HL.out.long _ (wat_mem hlt)
          obtain ⟨b1, o1, rfl, c1⟩ := I09.out j hlt
          have HC1 := Lib.hid c1
          clear c1
          generalize wat l0 j = x at *
          have HN1 := Lib.hid hn1
          have HN2 := Lib.hid hn2
          clear hn1 hn2
          have hC := nameP_any Ab Cb B (j : Int) wr (by omega) HF.out Ib10.out
          rw [HN1.out] at hC
          have HC := Lib.hid hC
          clear hC
          go_wp2_with fail
          refine HC.out.mono ?_
          rintro e w3 ⟨rfl, hb⟩
          have HB11 := Lib.hid (HB8.out.trans (hb.mono HB8.out.size))
          have I012 := Lib.hid (I09.out.below hb)
          have Ib13 := Lib.hid (Ib10.out.below hb)
          have HL_14 := Lib.hid (HLp.out.trans (hb.mono HLp.out.size))
          have C115 := Lib.hid (cell_on hb HC1.out)
          clear hb HC
          have x16 := C115.out
          have hC := numberP_any Ab Cb B x w3 (by omega) HF.out (by omega) Ib13.out
          rw [HN2.out] at hC
          have HC := Lib.hid hC
          clear hC
          go_wp2_with fail
          refine HC.out.mono ?_
          rintro e w4 ⟨rfl, hb⟩
          have HB17 := Lib.hid (HB11.out.trans (hb.mono HB11.out.size))
          have I018 := Lib.hid (I012.out.below hb)
          have Ib19 := Lib.hid (Ib13.out.below hb)
          have HL_20 := Lib.hid (HL_14.out.trans (hb.mono HL_14.out.size))
          have C121 := Lib.hid (cell_on hb C115.out)
          clear x16
          clear hb HC
          have x22 := C121.out
          go_wp2_with fail
          clear x22
          go_roundw
          case rel => exact ⟨j + 1, by omega, by go_num, Lib.hid HL_20.out⟩
          case measure => simp [RowKit.intOf]; omega
        case neg =>
          by_cases hw : X.wordE s1 = 0
          case pos =>
            have HW := Lib.hid hw
            by_cases hm : s1 ∈ l0
            case pos =>
              have HV : Hid (X.numberE B s1 = (((l0.idxOf s1 : Nat) : Int), 0)) := Lib.hid (by rw [HNb.out, if_neg (not_not_intro hw), if_pos hm])
              have HM := Lib.hid (decide_eq_true hm)
              have hp := List.idxOf_lt_length_of_mem hm
              have hpw : wat l0 (l0.idxOf s1) = s1 := by rw [wat_eq l0 _ hp]; exact List.getElem_idxOf hp
              generalize l0.idxOf s1 = p at *
              have hpI : (p : Int) < (l0.length : Int) := by omega
              have hp0 : (0 : Int) ≤ (p : Int) := by omega
              clear hw hm
              have hC := numberP_any Ab Cb B s1 wr (by omega) HF.out (by omega) Ib10.out
              rw [HV.out] at hC
              have HC := Lib.hid hC
              clear hC
              go_wp2_with fail
              refine HC.out.mono ?_
              rintro e w3 ⟨rfl, hb⟩
              have HB23 := Lib.hid (HB8.out.trans (hb.mono HB8.out.size))
              have I024 := Lib.hid (I09.out.below hb)
              have Ib25 := Lib.hid (Ib10.out.below hb)
              clear hb HC
              have hC := word_any s1 w3 (by omega)
              rw [HW.out] at hC
              have HC := Lib.hid hC
              clear hC
              go_wp2_with fail
              refine HC.out.mono ?_
              rintro e _ ⟨rfl, rfl⟩
              clear HC
              have hC := has_any a0 cap0 l0 s1 w3 (by omega) I024.out
              rw [HM.out] at hC
              have HC := Lib.hid hC
              clear hC
              go_wp2_with fail
              refine HC.out.mono ?_
              rintro e _ ⟨rfl, rfl⟩
              clear HC
              obtain ⟨b2, o2, rfl, c2⟩ := I024.out p hp
              rw [hpw] at c2
              have HC := Lib.hid (works_any w3)
              go_wp2_with fail
              refine HC.out.mono ?_
              rintro e w4 ⟨rfl, hb⟩
              have HB26 := Lib.hid (HB23.out.trans (hb.mono HB23.out.size))
              have I027 := Lib.hid (I024.out.below hb)
              have Ib28 := Lib.hid (Ib25.out.below hb)
              clear hb HC
              go_wp2_with fail
              go_ret
              exact ⟨rfl, HB26.out⟩
            case neg =>
              have HV : Hid (X.numberE B s1 = (0, 5)) := Lib.hid (by rw [HNb.out, if_neg (not_not_intro hw), if_neg hm])
              have HM := Lib.hid (decide_eq_false hm)
              clear hw hm
              have hC := numberP_any Ab Cb B s1 wr (by omega) HF.out (by omega) Ib10.out
              rw [HV.out] at hC
              have HC := Lib.hid hC
              clear hC
              go_wp2_with fail
              refine HC.out.mono ?_
              rintro e w3 ⟨rfl, hb⟩
              have HB29 := Lib.hid (HB8.out.trans (hb.mono HB8.out.size))
              have I030 := Lib.hid (I09.out.below hb)
              have Ib31 := Lib.hid (Ib10.out.below hb)
              clear hb HC
              have hC := word_any s1 w3 (by omega)
              rw [HW.out] at hC
              have HC := Lib.hid hC
              clear hC
              go_wp2_with fail
              refine HC.out.mono ?_
              rintro e _ ⟨rfl, rfl⟩
              clear HC
              have hC := has_any a0 cap0 l0 s1 w3 (by omega) I030.out
              rw [HM.out] at hC
              have HC := Lib.hid hC
              clear hC
              go_wp2_with fail
              refine HC.out.mono ?_
              rintro e _ ⟨rfl, rfl⟩
              clear HC
              have HC := Lib.hid (works_any w3)
              go_wp2_with fail
              refine HC.out.mono ?_
              rintro e w4 ⟨rfl, hb⟩
              have HB32 := Lib.hid (HB29.out.trans (hb.mono HB29.out.size))
              have I033 := Lib.hid (I030.out.below hb)
              have Ib34 := Lib.hid (Ib31.out.below hb)
              clear hb HC
              go_wp2_with fail
              go_ret
              exact ⟨rfl, HB32.out⟩
          case neg =>
            have HV : Hid (X.numberE B s1 = (0, X.wordE s1)) := Lib.hid (by rw [HNb.out, if_pos hw])
            have kw : (X.wordE s1 != 0) = true := by simpa using hw
            have hC := numberP_any Ab Cb B s1 wr (by omega) HF.out (by omega) Ib10.out
            rw [HV.out] at hC
            have HC := Lib.hid hC
            clear hC
            go_wp2_with fail
            refine HC.out.mono ?_
            rintro e w3 ⟨rfl, hb⟩
            have HB35 := Lib.hid (HB8.out.trans (hb.mono HB8.out.size))
            have I036 := Lib.hid (I09.out.below hb)
            have Ib37 := Lib.hid (Ib10.out.below hb)
            clear hb HC
            have hC := word_any s1 w3 (by omega)
            have HC := Lib.hid hC
            clear hC
            go_wp2_with fail
            refine HC.out.mono ?_
            rintro e _ ⟨rfl, rfl⟩
            clear HC
            have HC := Lib.hid (works_any w3)
            go_wp2_with fail
            refine HC.out.mono ?_
            rintro e w4 ⟨rfl, hb⟩
            have HB38 := Lib.hid (HB35.out.trans (hb.mono HB35.out.size))
            have I039 := Lib.hid (I036.out.below hb)
            have Ib40 := Lib.hid (Ib37.out.below hb)
            clear hb HC
            go_wp2_with fail
            go_ret
            exact ⟨rfl, HB38.out⟩
  case neg =>
    go_enter Tryz.func8, Tryz.ntmps8
    have hC := fine_any a0 cap0 l0 w I0.out
    rw [decide_eq_false h0] at hC
    have HC := Lib.hid hC
    clear hC
    go_wp2_with fail
    refine HC.out.mono ?_
    rintro e w1 ⟨rfl, hd⟩
    have hb := hd.below w.heap.size
    clear hd
    have hb := hb
    have HB41 := Lib.hid (HB0.out.trans (hb.mono HB0.out.size))
    have I042 := Lib.hid (I0.out.below hb)
    clear hb HC
    have HC := Lib.hid (works_any w1)
    go_wp2_with fail
    refine HC.out.mono ?_
    rintro e w2 ⟨rfl, hb⟩
    have HB43 := Lib.hid (HB41.out.trans (hb.mono HB41.out.size))
    have I044 := Lib.hid (I042.out.below hb)
    clear hb HC
    go_wp2_with fail
    go_ret
    exact ⟨rfl, HB43.out⟩
end Go.Proofs.YtcjbnifafofpbaaGreatDoor
