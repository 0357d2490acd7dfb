/- Walk of IndexMore. -/
import Derived.Test.YtcjbnifafofpbaaGreatDoorJ24
namespace Go.Proofs.YtcjbnifafofpbaaGreatDoor
open Go.RowKit Go.Lib
set_option maxRecDepth 20000 in
set_option maxHeartbeats 8000000 in
theorem more_walk (a0 : Option Addr) (cap0 : Nat) (l0 : List X.W) (s1 : X.W) (w : World) (z0 : a0 = none → cap0 = 0) (w0 : Strs w a0 l0)  :
    Calls Tryz.prog 14 #[.slice a0 l0.length cap0, sv s1] w fun e w' => e = .returned (.bool true) ∧ RowKit.Below w.heap.size w w' := by
  have HB0 := Lib.hid (RowKit.Below.refl w.heap.size w)
  have I0 := Lib.hid w0
  clear w0
  by_cases h0 : X.listE l0 = 0
  case pos =>
    have hL0 := X.listE_iff.1 h0
    have e0 := hL0.many
    have HR0 := Lib.hid (rooms_of (fun s hs => by have := hL0.long s hs; omega : ∀ s ∈ l0, s.length ≤ 1000))
    have HD0 := Lib.hid (decide_eq_true h0)
    have HL := Lib.hid hL0
    have H0 := Lib.hid h0
    clear h0 hL0
    by_cases h1 : 30 ≤ l0.length
    case pos =>
      have hI0 : (30 : Int) ≤ (l0.length : Int) := by omega
      go_enter Tryz.func14, Tryz.ntmps14
      have hC := fine_any a0 cap0 l0 w I0.out
      rw [HD0.out] at hC
      have HC := Lib.hid hC
      clear hC
      go_wp2_with fail
      refine HC.out.mono ?_
      rintro e w1 ⟨rfl, hd⟩
      have hb := hd.below w.heap.size
      clear hd
      have hb := hb
      have HB0 := Lib.hid (HB0.out.trans (hb.mono HB0.out.size))
      have I01 := Lib.hid (I0.out.below hb)
      clear hb HC
      have HC := Lib.hid (works_any w1)
      go_wp2_with fail
      refine HC.out.mono ?_
      rintro e w2 ⟨rfl, hb⟩
      have HB2 := Lib.hid (HB0.out.trans (hb.mono HB0.out.size))
      have I03 := Lib.hid (I01.out.below hb)
      clear hb HC
      go_wp2_with fail
      go_ret
      exact ⟨rfl, HB2.out⟩
    case neg =>
      have hI0 : ¬ (30 : Int) ≤ (l0.length : Int) := by omega
      by_cases h2 : 20 < s1.length
      case pos =>
        have hI1 : (20 : Int) < (s1.length : Int) := by omega
        go_enter Tryz.func14, Tryz.ntmps14
        have hC := fine_any a0 cap0 l0 w I0.out
        rw [HD0.out] at hC
        have HC := Lib.hid hC
        clear hC
        go_wp2_with fail
        refine HC.out.mono ?_
        rintro e w1 ⟨rfl, hd⟩
        have hb := hd.below w.heap.size
        clear hd
        have hb := hb
        have HB4 := Lib.hid (HB0.out.trans (hb.mono HB0.out.size))
        have I05 := Lib.hid (I0.out.below hb)
        clear hb HC
        have HC := Lib.hid (works_any w1)
        go_wp2_with fail
        refine HC.out.mono ?_
        rintro e w2 ⟨rfl, hb⟩
        have HB6 := Lib.hid (HB4.out.trans (hb.mono HB4.out.size))
        have I07 := Lib.hid (I05.out.below hb)
        clear hb HC
        go_wp2_with fail
        go_ret
        exact ⟨rfl, HB6.out⟩
      case neg =>
        have hI1 : ¬ (20 : Int) < (s1.length : Int) := by omega
        have HR1 := Lib.hid (rooms_of (l := [s1]) (fun s hs => by rw [List.mem_singleton.1 hs]; omega))
        by_cases h3 : X.listE [s1] = 0
        case pos =>
          have hL1 := X.listE_iff.1 h3
          have hT : X.twoE l0 [s1] = 0 := by unfold X.twoE; rw [if_neg (not_not_intro H0.out)]; exact h3
          have hlen := X.join_len HL.out.up hL1.up
          rw [List.length_singleton] at hlen
          have hJ30 : (X.joinL l0 [s1]).length ≤ 30 := by omega
          have HJ : Hid (X.joinE l0 [s1] = (X.joinL l0 [s1], 0)) := Lib.hid (by unfold X.joinE; rw [if_neg (not_not_intro hT), if_neg (by omega)])
          have hLJ := X.join_list HL.out hL1 hJ30
          have HLJ := Lib.hid hLJ
          have HDJ := Lib.hid (decide_eq_true (X.listE_iff.2 hLJ))
          have hms := X.more_states HL.out hLJ (w := s1) (fun x => by rw [(X.join_spec HL.out.up hL1.up).2.1, List.mem_singleton])
          rw [← X.build_len, ← X.build_len] at hms
          have hms : ((X.build (X.joinL l0 [s1])).length : Int) ≤ ((X.build l0).length : Int) + (s1.length : Int) := by omega
          have hb1 := (few_of HL.out).2
          have hb2 := (few_of hLJ).2
          have kW : IntKind.i64.wrap (((X.build l0).length : Int) + (s1.length : Int)) = ((X.build l0).length : Int) + (s1.length : Int) := IntWalk.i64_in _ (by omega)
          have H3 := Lib.hid h3
          clear hL1 hT hlen hLJ h3
          generalize X.joinL l0 [s1] = J at *
          go_enter Tryz.func14, Tryz.ntmps14
          have hC := fine_any a0 cap0 l0 w I0.out
          rw [HD0.out] at hC
          have HC := Lib.hid hC
          clear hC
          go_wp2_with fail
          refine HC.out.mono ?_
          rintro e w1 ⟨rfl, hd⟩
          have hb := hd.below w.heap.size
          clear hd
          have hb := hb
          have HB8 := Lib.hid (HB0.out.trans (hb.mono HB0.out.size))
          have I09 := Lib.hid (I0.out.below hb)
          clear hb HC
          have hbn := Below.new w1 (.cells #[sv s1] 9)
          have hin := strs_new w1 #[sv s1] [s1] rfl
          have hC := checkList_any (some ⟨w1.heap.size, 0, none⟩) 1 [s1] (w1.alloc (.cells #[sv s1] 9)) (by simp) HR1.out hin
          rw [H3.out] at hC
          have HC := Lib.hid hC
          clear hC hin
          go_wp2_with fail
          refine HC.out.mono ?_
          rintro e w2 ⟨rfl, hd⟩
          have hb := hbn.trans ((hd.below _).mono hbn.size)
          clear hd hbn
          have HB10 := Lib.hid (HB8.out.trans (hb.mono HB8.out.size))
          have I011 := Lib.hid (I09.out.below hb)
          clear hb HC
          have hbn := Below.new w2 (.cells #[sv s1] 9)
          have hin := strs_new w2 #[sv s1] [s1] rfl
          have hC := joinP_any a0 cap0 l0 (some ⟨w2.heap.size, 0, none⟩) 1 [s1] (w2.alloc (.cells #[sv s1] 9)) (by omega) (by simp) HR0.out HR1.out (I011.out.alloc _) hin (fun h => by cases h)
          rw [HJ.out] at hC
          have HC := Lib.hid hC
          clear hC hin
          go_wp2_with fail
          refine HC.out.mono ?_
          intro e w3 hG
          obtain ⟨Aj, Cj, rfl, hi, hc, hb2⟩ := hG.lit (n := J.length) rfl
          have hb := hbn.trans (hb2.mono hbn.size)
          have HB12 := Lib.hid (HB10.out.trans (hb.mono HB10.out.size))
          have I013 := Lib.hid (I011.out.below hb)
          have Ij := Lib.hid hi
          clear hc hi hG hb2 hbn
          clear hb HC
          have hC := fine_any Aj Cj J w3 Ij.out
          rw [HDJ.out] at hC
          have HC := Lib.hid hC
          clear hC
          go_wp2_with fail
          refine HC.out.mono ?_
          rintro e w4 ⟨rfl, hd⟩
          have hb := hd.below w3.heap.size
          clear hd
          have hb := hb
          have HB14 := Lib.hid (HB12.out.trans (hb.mono HB12.out.size))
          have I015 := Lib.hid (I013.out.below hb)
          have Ij16 := Lib.hid (Ij.out.below hb)
          clear hb HC
          have hC := built_any a0 cap0 l0 w4 HL.out I015.out
          have HC := Lib.hid hC
          clear hC
          go_wp2_with fail
          refine HC.out.mono ?_
          rintro e w5 ⟨As, Cs, rfl, -, -, hb⟩
          have HB17 := Lib.hid (HB14.out.trans (hb.mono HB14.out.size))
          have I018 := Lib.hid (I015.out.below hb)
          have Ij19 := Lib.hid (Ij16.out.below hb)
          clear hb HC
          have hC := built_any Aj Cj J w5 HLJ.out Ij19.out
          have HC := Lib.hid hC
          clear hC
          go_wp2_with fail
          refine HC.out.mono ?_
          rintro e w6 ⟨At, Ct, rfl, -, -, hb⟩
          have HB20 := Lib.hid (HB17.out.trans (hb.mono HB17.out.size))
          have I021 := Lib.hid (I018.out.below hb)
          have Ij22 := Lib.hid (Ij19.out.below hb)
          clear hb HC
          have HC := Lib.hid (works_any w6)
          go_wp2_with fail
          refine HC.out.mono ?_
          rintro e w7 ⟨rfl, hb⟩
          have HB23 := Lib.hid (HB20.out.trans (hb.mono HB20.out.size))
          have I024 := Lib.hid (I021.out.below hb)
          have Ij25 := Lib.hid (Ij22.out.below hb)
          clear hb HC
          go_wp2_with fail
          go_ret
          exact ⟨rfl, HB23.out⟩
        case neg =>
          have kq : (X.listE [s1] != 0) = true := by simpa using h3
          go_enter Tryz.func14, Tryz.ntmps14
          have hC := fine_any a0 cap0 l0 w I0.out
          rw [HD0.out] at hC
          have HC := Lib.hid hC
          clear hC
          go_wp2_with fail
          refine HC.out.mono ?_
          rintro e w1 ⟨rfl, hd⟩
          have hb := hd.below w.heap.size
          clear hd
          have hb := hb
          have HB26 := Lib.hid (HB0.out.trans (hb.mono HB0.out.size))
          have I027 := Lib.hid (I0.out.below hb)
          clear hb HC
          have hbn := Below.new w1 (.cells #[sv s1] 9)
          have hin := strs_new w1 #[sv s1] [s1] rfl
          have hC := checkList_any (some ⟨w1.heap.size, 0, none⟩) 1 [s1] (w1.alloc (.cells #[sv s1] 9)) (by simp) HR1.out hin
          have HC := Lib.hid hC
          clear hC hin
          go_wp2_with fail
          refine HC.out.mono ?_
          rintro e w2 ⟨rfl, hd⟩
          have hb := hbn.trans ((hd.below _).mono hbn.size)
          clear hd hbn
          have HB28 := Lib.hid (HB26.out.trans (hb.mono HB26.out.size))
          have I029 := Lib.hid (I027.out.below hb)
          clear hb HC
          have HC := Lib.hid (works_any w2)
          go_wp2_with fail
          refine HC.out.mono ?_
          rintro e w3 ⟨rfl, hb⟩
          have HB30 := Lib.hid (HB28.out.trans (hb.mono HB28.out.size))
          have I031 := Lib.hid (I029.out.below hb)
          clear hb HC
          go_wp2_with fail
          go_ret
          exact ⟨rfl, HB30.out⟩
  case neg =>
    go_enter Tryz.func14, Tryz.ntmps14
    have hC := fine_any a0 cap0 l0 w I0.out
    rw [decide_eq_false h0] at hC
    have HC := Lib.hid hC
    clear hC
    go_wp2_with fail
    refine HC.out.mono ?_
    rintro e w1 ⟨rfl, hd⟩
    have hb := hd.below w.heap.size
    clear hd
    have hb := hb
    have HB32 := Lib.hid (HB0.out.trans (hb.mono HB0.out.size))
    have I033 := Lib.hid (I0.out.below hb)
    clear hb HC
    have HC := Lib.hid (works_any w1)
    go_wp2_with fail
    refine HC.out.mono ?_
    rintro e w2 ⟨rfl, hb⟩
    have HB34 := Lib.hid (HB32.out.trans (hb.mono HB32.out.size))
    have I035 := Lib.hid (I033.out.below hb)
    clear hb HC
    go_wp2_with fail
    go_ret
    exact ⟨rfl, HB34.out⟩
end Go.Proofs.YtcjbnifafofpbaaGreatDoor
