/- Walk of IndexJoined. -/
import Derived.Test.YtcjbnifafofpbaaGreatDoorJ21
namespace Go.Proofs.YtcjbnifafofpbaaGreatDoor
open Go.RowKit Go.Lib
set_option maxRecDepth 20000 in
set_option maxHeartbeats 8000000 in
theorem joined_walk (a0 : Option Addr) (cap0 : Nat) (l0 : List X.W) (a1 : Option Addr) (cap1 : Nat) (l1 : List X.W) (w : World) (z0 : a0 = none → cap0 = 0) (w0 : Strs w a0 l0) (z1 : a1 = none → cap1 = 0) (w1 : Strs w a1 l1) :
    Calls Tryz.prog 11 #[.slice a0 l0.length cap0, .slice a1 l1.length cap1] w fun e w' => e = .returned (.bool true) ∧ RowKit.Below w.heap.size w w' := by
  have HB0 := Lib.hid (RowKit.Below.refl w.heap.size w)
  have I0 := Lib.hid w0
  have I1 := Lib.hid w1
  clear w0 w1
  by_cases h0 : X.listE l0 = 0
  case pos =>
    by_cases h1 : X.listE l1 = 0
    case pos =>
      have hL0 := X.listE_iff.1 h0
      have hL1 := X.listE_iff.1 h1
      have hT : X.twoE l0 l1 = 0 := by unfold X.twoE; rw [if_neg (not_not_intro h0)]; exact h1
      have hT2 : X.twoE l1 l0 = 0 := by unfold X.twoE; rw [if_neg (not_not_intro h1)]; exact h0
      have hT0 : X.twoE l0 l0 = 0 := by unfold X.twoE; rw [if_neg (not_not_intro h0)]; exact h0
      have e0 := hL0.many
      have e1 := hL1.many
      have r0 := rooms_of (fun s hs => by have := hL0.long s hs; omega : ∀ s ∈ l0, s.length ≤ 1000)
      have r1 := rooms_of (fun s hs => by have := hL1.long s hs; omega : ∀ s ∈ l1, s.length ≤ 1000)
      have HR0 := Lib.hid r0
      have HR1 := Lib.hid r1
      have HU1 : Hid (X.bothE l0 l1 = (X.bothL l0 l1, 0)) := Lib.hid (by unfold X.bothE; rw [if_neg (not_not_intro hT)])
      have HU2 : Hid (X.bothE l1 l0 = (X.bothL l0 l1, 0)) := Lib.hid (by unfold X.bothE; rw [if_neg (not_not_intro hT2), X.both_comm hL1.up hL0.up])
      have HT : Hid (X.bothE l0 l0 = (l0, 0)) := Lib.hid (by unfold X.bothE; rw [if_neg (not_not_intro hT0), X.both_self])
      have HS : Hid (X.joinE l0 l0 = (l0, 0)) := Lib.hid (by unfold X.joinE; rw [if_neg (not_not_intro hT0), X.join_self hL0.up, if_neg (by omega)])
      have hlen := X.join_len hL0.up hL1.up
      have HW0 : Hid (withinL (X.bothL l0 l1) l0 = true) := Lib.hid (withinL_iff.2 (fun s hs => (X.mem_both.1 hs).1))
      have HW1 : Hid (withinL (X.bothL l0 l1) l1 = true) := Lib.hid (withinL_iff.2 (fun s hs => (X.mem_both.1 hs).2))
      have HW2 : Hid (withinL l0 (X.joinL l0 l1) = true) := Lib.hid (withinL_iff.2 (fun s hs => ((X.join_spec hL0.up hL1.up).2.1 s).2 (.inl hs)))
      have HW3 : Hid (withinL l1 (X.joinL l0 l1) = true) := Lib.hid (withinL_iff.2 (fun s hs => ((X.join_spec hL0.up hL1.up).2.1 s).2 (.inr hs)))
      have hul : (X.bothL l0 l1).length ≤ 30 := by have := X.both_len (a := l0) (b := l1); omega
      have hcm := X.join_comm hL0.up hL1.up
      have hjl := fun h => X.listE_iff.2 (X.join_list hL0 hL1 h)
      have HD0 := Lib.hid (decide_eq_true h0)
      have HD1 := Lib.hid (decide_eq_true h1)
      by_cases hn : (X.joinL l0 l1).length ≤ 30
      case pos =>
        have HJ1 : Hid (X.joinE l0 l1 = (X.joinL l0 l1, 0)) := Lib.hid (by unfold X.joinE; rw [if_neg (not_not_intro hT), if_neg (by omega)])
        have HJ2 : Hid (X.joinE l1 l0 = (X.joinL l0 l1, 0)) := Lib.hid (by unfold X.joinE; rw [if_neg (not_not_intro hT2), ← hcm, if_neg (by omega)])
        have HLj := Lib.hid (hjl hn)
        have hm : ((X.joinL l0 l1).length : Int) + ((X.bothL l0 l1).length : Int) = (l0.length : Int) + (l1.length : Int) := by omega
        have hjn : (X.joinL l0 l1).length ≤ 60 := by omega
        clear hL0 hL1 hT hT2 hT0 r0 r1 hlen hcm hjl h0 h1 hn
        generalize X.joinL l0 l1 = J at *
        generalize X.bothL l0 l1 = U at *
        go_enter Tryz.func11, Tryz.ntmps11
        have hC := fine_any a0 cap0 l0 w I0.out
        rw [HD0.out] at hC
        have HC := Lib.hid hC
        clear hC
        go_wp2_with fail
        refine HC.out.mono ?_
        rintro e w1 ⟨rfl, hd⟩
        have hb := hd.below w.heap.size
        clear hd
        have hb := hb
        have HB0 := Lib.hid (HB0.out.trans (hb.mono HB0.out.size))
        have I01 := Lib.hid (I0.out.below hb)
        have I12 := Lib.hid (I1.out.below hb)
        clear hb HC
        have hC := fine_any a1 cap1 l1 w1 I12.out
        rw [HD1.out] at hC
        have HC := Lib.hid hC
        clear hC
        go_wp2_with fail
        refine HC.out.mono ?_
        rintro e w2 ⟨rfl, hd⟩
        have hb := hd.below w1.heap.size
        clear hd
        have hb := hb
        have HB3 := Lib.hid (HB0.out.trans (hb.mono HB0.out.size))
        have I04 := Lib.hid (I01.out.below hb)
        have I15 := Lib.hid (I12.out.below hb)
        clear hb HC
        have hC := joinP_any a0 cap0 l0 a1 cap1 l1 w2 (by omega) (by omega) HR0.out HR1.out I04.out I15.out z1
        rw [HJ1.out] at hC
        have HC := Lib.hid hC
        clear hC
        go_wp2_with fail
        refine HC.out.mono ?_
        intro e w3 hG
        obtain ⟨Ax, Cx, rfl, hi, hcx, hb⟩ := hG.lit (n := J.length) rfl
        have HB6 := Lib.hid (HB3.out.trans (hb.mono HB3.out.size))
        have I07 := Lib.hid (I04.out.below hb)
        have I18 := Lib.hid (I15.out.below hb)
        have Ix := Lib.hid hi
        have Kx := Lib.hid hcx
        clear hcx hi hG
        clear hb HC
        have hC := joinP_any a1 cap1 l1 a0 cap0 l0 w3 (by omega) (by omega) HR1.out HR0.out I18.out I07.out z0
        rw [HJ2.out] at hC
        have HC := Lib.hid hC
        clear hC
        go_wp2_with fail
        refine HC.out.mono ?_
        intro e w4 hG
        obtain ⟨Ay, Cy, rfl, hi, hcy, hb⟩ := hG.lit (n := J.length) rfl
        have HB9 := Lib.hid (HB6.out.trans (hb.mono HB6.out.size))
        have I010 := Lib.hid (I07.out.below hb)
        have I111 := Lib.hid (I18.out.below hb)
        have Ix12 := Lib.hid (Ix.out.below hb)
        have Iy := Lib.hid hi
        have Ky := Lib.hid hcy
        clear hcy hi hG
        clear hb HC
        have hC := bothP_any a0 cap0 l0 a1 cap1 l1 w4 (by omega) (by omega) HR0.out HR1.out I010.out I111.out
        rw [HU1.out] at hC
        have HC := Lib.hid hC
        clear hC
        go_wp2_with fail
        refine HC.out.mono ?_
        intro e w5 hG
        obtain ⟨Au, Cu, rfl, hi, hcu, hb⟩ := hG.lit (n := U.length) rfl
        have HB13 := Lib.hid (HB9.out.trans (hb.mono HB9.out.size))
        have I014 := Lib.hid (I010.out.below hb)
        have I115 := Lib.hid (I111.out.below hb)
        have Ix16 := Lib.hid (Ix12.out.below hb)
        have Iy17 := Lib.hid (Iy.out.below hb)
        have Iu := Lib.hid hi
        have Ku := Lib.hid hcu
        clear hcu hi hG
        clear hb HC
        have hC := bothP_any a1 cap1 l1 a0 cap0 l0 w5 (by omega) (by omega) HR1.out HR0.out I115.out I014.out
        rw [HU2.out] at hC
        have HC := Lib.hid hC
        clear hC
        go_wp2_with fail
        refine HC.out.mono ?_
        intro e w6 hG
        obtain ⟨Av, Cv, rfl, hi, hcv, hb⟩ := hG.lit (n := U.length) rfl
        have HB18 := Lib.hid (HB13.out.trans (hb.mono HB13.out.size))
        have I019 := Lib.hid (I014.out.below hb)
        have I120 := Lib.hid (I115.out.below hb)
        have Ix21 := Lib.hid (Ix16.out.below hb)
        have Iy22 := Lib.hid (Iy17.out.below hb)
        have Iu23 := Lib.hid (Iu.out.below hb)
        have Iv := Lib.hid hi
        have Kv := Lib.hid hcv
        clear hcv hi hG
        clear hb HC
        have hC := joinP_any a0 cap0 l0 a0 cap0 l0 w6 (by omega) (by omega) HR0.out HR0.out I019.out I019.out z0
        rw [HS.out] at hC
        have HC := Lib.hid hC
        clear hC
        go_wp2_with fail
        refine HC.out.mono ?_
        intro e w7 hG
        obtain ⟨As, Cs, rfl, hi, hcs, hb⟩ := hG.lit (n := l0.length) rfl
        have HB24 := Lib.hid (HB18.out.trans (hb.mono HB18.out.size))
        have I025 := Lib.hid (I019.out.below hb)
        have I126 := Lib.hid (I120.out.below hb)
        have Ix27 := Lib.hid (Ix21.out.below hb)
        have Iy28 := Lib.hid (Iy22.out.below hb)
        have Iu29 := Lib.hid (Iu23.out.below hb)
        have Iv30 := Lib.hid (Iv.out.below hb)
        have Is := Lib.hid hi
        have Ks := Lib.hid hcs
        clear hcs hi hG
        clear hb HC
        have hC := bothP_any a0 cap0 l0 a0 cap0 l0 w7 (by omega) (by omega) HR0.out HR0.out I025.out I025.out
        rw [HT.out] at hC
        have HC := Lib.hid hC
        clear hC
        go_wp2_with fail
        refine HC.out.mono ?_
        intro e w8 hG
        obtain ⟨At, Ct, rfl, hi, hct, hb⟩ := hG.lit (n := l0.length) rfl
        have HB31 := Lib.hid (HB24.out.trans (hb.mono HB24.out.size))
        have I032 := Lib.hid (I025.out.below hb)
        have I133 := Lib.hid (I126.out.below hb)
        have Ix34 := Lib.hid (Ix27.out.below hb)
        have Iy35 := Lib.hid (Iy28.out.below hb)
        have Iu36 := Lib.hid (Iu29.out.below hb)
        have Iv37 := Lib.hid (Iv30.out.below hb)
        have Is38 := Lib.hid (Is.out.below hb)
        have It := Lib.hid hi
        have Kt := Lib.hid hct
        clear hct hi hG
        clear hb HC
        have hC := textsS_any Ax Cx J Ay Cy J w8 (by omega) Ix34.out Iy35.out
        rw [decide_eq_true rfl] at hC
        have HC := Lib.hid hC
        clear hC
        go_wp2_with fail
        refine HC.out.mono ?_
        rintro e w9 ⟨rfl, hd⟩
        have hb := hd.below w8.heap.size
        clear hd
        have hb := hb
        have HB39 := Lib.hid (HB31.out.trans (hb.mono HB31.out.size))
        have I040 := Lib.hid (I032.out.below hb)
        have I141 := Lib.hid (I133.out.below hb)
        have Ix42 := Lib.hid (Ix34.out.below hb)
        have Iy43 := Lib.hid (Iy35.out.below hb)
        have Iu44 := Lib.hid (Iu36.out.below hb)
        have Iv45 := Lib.hid (Iv37.out.below hb)
        have Is46 := Lib.hid (Is38.out.below hb)
        have It47 := Lib.hid (It.out.below hb)
        clear hb HC
        have hC := textsS_any Au Cu U Av Cv U w9 (by omega) Iu44.out Iv45.out
        rw [decide_eq_true rfl] at hC
        have HC := Lib.hid hC
        clear hC
        go_wp2_with fail
        refine HC.out.mono ?_
        rintro e w10 ⟨rfl, hd⟩
        have hb := hd.below w9.heap.size
        clear hd
        have hb := hb
        have HB48 := Lib.hid (HB39.out.trans (hb.mono HB39.out.size))
        have I049 := Lib.hid (I040.out.below hb)
        have I150 := Lib.hid (I141.out.below hb)
        have Ix51 := Lib.hid (Ix42.out.below hb)
        have Iu52 := Lib.hid (Iu44.out.below hb)
        have Iv53 := Lib.hid (Iv45.out.below hb)
        have Is54 := Lib.hid (Is46.out.below hb)
        have It55 := Lib.hid (It47.out.below hb)
        clear hb HC
        have hC := textsS_any As Cs l0 a0 cap0 l0 w10 (by omega) Is54.out I049.out
        rw [decide_eq_true rfl] at hC
        have HC := Lib.hid hC
        clear hC
        go_wp2_with fail
        refine HC.out.mono ?_
        rintro e w11 ⟨rfl, hd⟩
        have hb := hd.below w10.heap.size
        clear hd
        have hb := hb
        have HB56 := Lib.hid (HB48.out.trans (hb.mono HB48.out.size))
        have I057 := Lib.hid (I049.out.below hb)
        have I158 := Lib.hid (I150.out.below hb)
        have Ix59 := Lib.hid (Ix51.out.below hb)
        have Iu60 := Lib.hid (Iu52.out.below hb)
        have Is61 := Lib.hid (Is54.out.below hb)
        have It62 := Lib.hid (It55.out.below hb)
        clear hb HC
        have hC := textsS_any At Ct l0 a0 cap0 l0 w11 (by omega) It62.out I057.out
        rw [decide_eq_true rfl] at hC
        have HC := Lib.hid hC
        clear hC
        go_wp2_with fail
        refine HC.out.mono ?_
        rintro e w12 ⟨rfl, hd⟩
        have hb := hd.below w11.heap.size
        clear hd
        have hb := hb
        have HB63 := Lib.hid (HB56.out.trans (hb.mono HB56.out.size))
        have I064 := Lib.hid (I057.out.below hb)
        have I165 := Lib.hid (I158.out.below hb)
        have Ix66 := Lib.hid (Ix59.out.below hb)
        have Iu67 := Lib.hid (Iu60.out.below hb)
        have It68 := Lib.hid (It62.out.below hb)
        clear hb HC
        have hC := withinS_any Au Cu U a0 cap0 l0 w12 (by omega) (by omega) Iu67.out I064.out
        rw [HW0.out] at hC
        have HC := Lib.hid hC
        clear hC
        go_wp2_with fail
        refine HC.out.mono ?_
        rintro e _ ⟨rfl, rfl⟩
        clear HC
        have hC := withinS_any Au Cu U a1 cap1 l1 w12 (by omega) (by omega) Iu67.out I165.out
        rw [HW1.out] at hC
        have HC := Lib.hid hC
        clear hC
        go_wp2_with fail
        refine HC.out.mono ?_
        rintro e _ ⟨rfl, rfl⟩
        clear HC
        have rj : Rooms J := fun s hs => by have := (X.listE_iff.1 HLj.out).long s hs; omega
        have HRj := Lib.hid rj
        clear rj
        have hC := checkList_any Ax Cx J w12 (by omega) HRj.out Ix66.out
        rw [HLj.out] at hC
        have HC := Lib.hid hC
        clear hC
        go_wp2_with fail
        refine HC.out.mono ?_
        rintro e w13 ⟨rfl, hd⟩
        have hb := hd.below w12.heap.size
        clear hd
        have hb := hb
        have HB69 := Lib.hid (HB63.out.trans (hb.mono HB63.out.size))
        have I070 := Lib.hid (I064.out.below hb)
        have I171 := Lib.hid (I165.out.below hb)
        have Ix72 := Lib.hid (Ix66.out.below hb)
        have Iu73 := Lib.hid (Iu67.out.below hb)
        clear hb HC
        have hC := withinS_any a0 cap0 l0 Ax Cx J w13 (by omega) (by omega) I070.out Ix72.out
        rw [HW2.out] at hC
        have HC := Lib.hid hC
        clear hC
        go_wp2_with fail
        refine HC.out.mono ?_
        rintro e _ ⟨rfl, rfl⟩
        clear HC
        have hC := withinS_any a1 cap1 l1 Ax Cx J w13 (by omega) (by omega) I171.out Ix72.out
        rw [HW3.out] at hC
        have HC := Lib.hid hC
        clear hC
        go_wp2_with fail
        refine HC.out.mono ?_
        rintro e _ ⟨rfl, rfl⟩
        clear HC
        have HC := Lib.hid (works_any w13)
        go_wp2_with fail
        refine HC.out.mono ?_
        rintro e w14 ⟨rfl, hb⟩
        have HB74 := Lib.hid (HB69.out.trans (hb.mono HB69.out.size))
        have I075 := Lib.hid (I070.out.below hb)
        have I176 := Lib.hid (I171.out.below hb)
        have Ix77 := Lib.hid (Ix72.out.below hb)
        have Iu78 := Lib.hid (Iu73.out.below hb)
        clear hb HC
        go_wp2_with fail
        go_ret
        exact ⟨rfl, HB74.out⟩
      case neg =>
        have HJ1 : Hid (X.joinE l0 l1 = ([], 6)) := Lib.hid (by unfold X.joinE; rw [if_neg (not_not_intro hT), if_pos (by omega)])
        have HJ2 : Hid (X.joinE l1 l0 = ([], 6)) := Lib.hid (by unfold X.joinE; rw [if_neg (not_not_intro hT2), ← hcm, if_pos (by omega)])
        have hm : (30 : Int) < (l0.length : Int) + (l1.length : Int) - ((X.bothL l0 l1).length : Int) := by omega
        have hjn : (X.joinL l0 l1).length ≤ 60 := by omega
        clear hL0 hL1 hT hT2 hT0 r0 r1 hlen hcm hjl h0 h1 hn
        generalize X.joinL l0 l1 = J at *
        generalize X.bothL l0 l1 = U at *
        clear HW2 HW3
        go_enter Tryz.func11, Tryz.ntmps11
        have hC := fine_any a0 cap0 l0 w I0.out
        rw [HD0.out] at hC
        have HC := Lib.hid hC
        clear hC
        go_wp2_with fail
        refine HC.out.mono ?_
        rintro e w1 ⟨rfl, hd⟩
        have hb := hd.below w.heap.size
        clear hd
        have hb := hb
        have HB79 := Lib.hid (HB0.out.trans (hb.mono HB0.out.size))
        have I080 := Lib.hid (I0.out.below hb)
        have I181 := Lib.hid (I1.out.below hb)
        clear hb HC
        have hC := fine_any a1 cap1 l1 w1 I181.out
        rw [HD1.out] at hC
        have HC := Lib.hid hC
        clear hC
        go_wp2_with fail
        refine HC.out.mono ?_
        rintro e w2 ⟨rfl, hd⟩
        have hb := hd.below w1.heap.size
        clear hd
        have hb := hb
        have HB82 := Lib.hid (HB79.out.trans (hb.mono HB79.out.size))
        have I083 := Lib.hid (I080.out.below hb)
        have I184 := Lib.hid (I181.out.below hb)
        clear hb HC
        have hC := joinP_any a0 cap0 l0 a1 cap1 l1 w2 (by omega) (by omega) HR0.out HR1.out I083.out I184.out z1
        rw [HJ1.out] at hC
        have HC := Lib.hid hC
        clear hC
        go_wp2_with fail
        refine HC.out.mono ?_
        intro e w3 hG
        obtain ⟨Ax, Cx, rfl, hi, hcx, hb⟩ := hG.lit (n := 0) rfl
        have HB85 := Lib.hid (HB82.out.trans (hb.mono HB82.out.size))
        have I086 := Lib.hid (I083.out.below hb)
        have I187 := Lib.hid (I184.out.below hb)
        have Ix := Lib.hid hi
        have Kx := Lib.hid hcx
        clear hcx hi hG
        clear hb HC
        have hC := joinP_any a1 cap1 l1 a0 cap0 l0 w3 (by omega) (by omega) HR1.out HR0.out I187.out I086.out z0
        rw [HJ2.out] at hC
        have HC := Lib.hid hC
        clear hC
        go_wp2_with fail
        refine HC.out.mono ?_
        intro e w4 hG
        obtain ⟨Ay, Cy, rfl, hi, hcy, hb⟩ := hG.lit (n := 0) rfl
        have HB88 := Lib.hid (HB85.out.trans (hb.mono HB85.out.size))
        have I089 := Lib.hid (I086.out.below hb)
        have I190 := Lib.hid (I187.out.below hb)
        have Ix91 := Lib.hid (Ix.out.below hb)
        have Iy := Lib.hid hi
        have Ky := Lib.hid hcy
        clear hcy hi hG
        clear hb HC
        have hC := bothP_any a0 cap0 l0 a1 cap1 l1 w4 (by omega) (by omega) HR0.out HR1.out I089.out I190.out
        rw [HU1.out] at hC
        have HC := Lib.hid hC
        clear hC
        go_wp2_with fail
        refine HC.out.mono ?_
        intro e w5 hG
        obtain ⟨Au, Cu, rfl, hi, hcu, hb⟩ := hG.lit (n := U.length) rfl
        have HB92 := Lib.hid (HB88.out.trans (hb.mono HB88.out.size))
        have I093 := Lib.hid (I089.out.below hb)
        have I194 := Lib.hid (I190.out.below hb)
        have Ix95 := Lib.hid (Ix91.out.below hb)
        have Iy96 := Lib.hid (Iy.out.below hb)
        have Iu := Lib.hid hi
        have Ku := Lib.hid hcu
        clear hcu hi hG
        clear hb HC
        have hC := bothP_any a1 cap1 l1 a0 cap0 l0 w5 (by omega) (by omega) HR1.out HR0.out I194.out I093.out
        rw [HU2.out] at hC
        have HC := Lib.hid hC
        clear hC
        go_wp2_with fail
        refine HC.out.mono ?_
        intro e w6 hG
        obtain ⟨Av, Cv, rfl, hi, hcv, hb⟩ := hG.lit (n := U.length) rfl
        have HB97 := Lib.hid (HB92.out.trans (hb.mono HB92.out.size))
        have I098 := Lib.hid (I093.out.below hb)
        have I199 := Lib.hid (I194.out.below hb)
        have Ix100 := Lib.hid (Ix95.out.below hb)
        have Iy101 := Lib.hid (Iy96.out.below hb)
        have Iu102 := Lib.hid (Iu.out.below hb)
        have Iv := Lib.hid hi
        have Kv := Lib.hid hcv
        clear hcv hi hG
        clear hb HC
        have hC := joinP_any a0 cap0 l0 a0 cap0 l0 w6 (by omega) (by omega) HR0.out HR0.out I098.out I098.out z0
        rw [HS.out] at hC
        have HC := Lib.hid hC
        clear hC
        go_wp2_with fail
        refine HC.out.mono ?_
        intro e w7 hG
        obtain ⟨As, Cs, rfl, hi, hcs, hb⟩ := hG.lit (n := l0.length) rfl
        have HB103 := Lib.hid (HB97.out.trans (hb.mono HB97.out.size))
        have I0104 := Lib.hid (I098.out.below hb)
        have I1105 := Lib.hid (I199.out.below hb)
        have Ix106 := Lib.hid (Ix100.out.below hb)
        have Iy107 := Lib.hid (Iy101.out.below hb)
        have Iu108 := Lib.hid (Iu102.out.below hb)
        have Iv109 := Lib.hid (Iv.out.below hb)
        have Is := Lib.hid hi
        have Ks := Lib.hid hcs
        clear hcs hi hG
        clear hb HC
        have hC := bothP_any a0 cap0 l0 a0 cap0 l0 w7 (by omega) (by omega) HR0.out HR0.out I0104.out I0104.out
        rw [HT.out] at hC
        have HC := Lib.hid hC
        clear hC
        go_wp2_with fail
        refine HC.out.mono ?_
        intro e w8 hG
        obtain ⟨At, Ct, rfl, hi, hct, hb⟩ := hG.lit (n := l0.length) rfl
        have HB110 := Lib.hid (HB103.out.trans (hb.mono HB103.out.size))
        have I0111 := Lib.hid (I0104.out.below hb)
        have I1112 := Lib.hid (I1105.out.below hb)
        have Ix113 := Lib.hid (Ix106.out.below hb)
        have Iy114 := Lib.hid (Iy107.out.below hb)
        have Iu115 := Lib.hid (Iu108.out.below hb)
        have Iv116 := Lib.hid (Iv109.out.below hb)
        have Is117 := Lib.hid (Is.out.below hb)
        have It := Lib.hid hi
        have Kt := Lib.hid hct
        clear hct hi hG
        clear hb HC
        have hC := textsS_any Ax Cx [] Ay Cy [] w8 (by decide) Ix113.out Iy114.out
        rw [decide_eq_true rfl] at hC
        have HC := Lib.hid hC
        clear hC
        go_wp2_with fail
        refine HC.out.mono ?_
        rintro e w9 ⟨rfl, hd⟩
        have hb := hd.below w8.heap.size
        clear hd
        have hb := hb
        have HB118 := Lib.hid (HB110.out.trans (hb.mono HB110.out.size))
        have I0119 := Lib.hid (I0111.out.below hb)
        have I1120 := Lib.hid (I1112.out.below hb)
        have Ix121 := Lib.hid (Ix113.out.below hb)
        have Iy122 := Lib.hid (Iy114.out.below hb)
        have Iu123 := Lib.hid (Iu115.out.below hb)
        have Iv124 := Lib.hid (Iv116.out.below hb)
        have Is125 := Lib.hid (Is117.out.below hb)
        have It126 := Lib.hid (It.out.below hb)
        clear hb HC
        have hC := textsS_any Au Cu U Av Cv U w9 (by omega) Iu123.out Iv124.out
        rw [decide_eq_true rfl] at hC
        have HC := Lib.hid hC
        clear hC
        go_wp2_with fail
        refine HC.out.mono ?_
        rintro e w10 ⟨rfl, hd⟩
        have hb := hd.below w9.heap.size
        clear hd
        have hb := hb
        have HB127 := Lib.hid (HB118.out.trans (hb.mono HB118.out.size))
        have I0128 := Lib.hid (I0119.out.below hb)
        have I1129 := Lib.hid (I1120.out.below hb)
        have Ix130 := Lib.hid (Ix121.out.below hb)
        have Iu131 := Lib.hid (Iu123.out.below hb)
        have Iv132 := Lib.hid (Iv124.out.below hb)
        have Is133 := Lib.hid (Is125.out.below hb)
        have It134 := Lib.hid (It126.out.below hb)
        clear hb HC
        have hC := textsS_any As Cs l0 a0 cap0 l0 w10 (by omega) Is133.out I0128.out
        rw [decide_eq_true rfl] at hC
        have HC := Lib.hid hC
        clear hC
        go_wp2_with fail
        refine HC.out.mono ?_
        rintro e w11 ⟨rfl, hd⟩
        have hb := hd.below w10.heap.size
        clear hd
        have hb := hb
        have HB135 := Lib.hid (HB127.out.trans (hb.mono HB127.out.size))
        have I0136 := Lib.hid (I0128.out.below hb)
        have I1137 := Lib.hid (I1129.out.below hb)
        have Ix138 := Lib.hid (Ix130.out.below hb)
        have Iu139 := Lib.hid (Iu131.out.below hb)
        have Is140 := Lib.hid (Is133.out.below hb)
        have It141 := Lib.hid (It134.out.below hb)
        clear hb HC
        have hC := textsS_any At Ct l0 a0 cap0 l0 w11 (by omega) It141.out I0136.out
        rw [decide_eq_true rfl] at hC
        have HC := Lib.hid hC
        clear hC
        go_wp2_with fail
        refine HC.out.mono ?_
        rintro e w12 ⟨rfl, hd⟩
        have hb := hd.below w11.heap.size
        clear hd
        have hb := hb
        have HB142 := Lib.hid (HB135.out.trans (hb.mono HB135.out.size))
        have I0143 := Lib.hid (I0136.out.below hb)
        have I1144 := Lib.hid (I1137.out.below hb)
        have Ix145 := Lib.hid (Ix138.out.below hb)
        have Iu146 := Lib.hid (Iu139.out.below hb)
        have It147 := Lib.hid (It141.out.below hb)
        clear hb HC
        have hC := withinS_any Au Cu U a0 cap0 l0 w12 (by omega) (by omega) Iu146.out I0143.out
        rw [HW0.out] at hC
        have HC := Lib.hid hC
        clear hC
        go_wp2_with fail
        refine HC.out.mono ?_
        rintro e _ ⟨rfl, rfl⟩
        clear HC
        have hC := withinS_any Au Cu U a1 cap1 l1 w12 (by omega) (by omega) Iu146.out I1144.out
        rw [HW1.out] at hC
        have HC := Lib.hid hC
        clear hC
        go_wp2_with fail
        refine HC.out.mono ?_
        rintro e _ ⟨rfl, rfl⟩
        clear HC
        have HC := Lib.hid (works_any w12)
        go_wp2_with fail
        refine HC.out.mono ?_
        rintro e w13 ⟨rfl, hb⟩
        have HB148 := Lib.hid (HB142.out.trans (hb.mono HB142.out.size))
        have I0149 := Lib.hid (I0143.out.below hb)
        have I1150 := Lib.hid (I1144.out.below hb)
        have Ix151 := Lib.hid (Ix145.out.below hb)
        have Iu152 := Lib.hid (Iu146.out.below hb)
        clear hb HC
        go_wp2_with fail
        go_ret
        exact ⟨rfl, HB148.out⟩
    case neg =>
      go_enter Tryz.func11, Tryz.ntmps11
      have hC := fine_any a0 cap0 l0 w I0.out
      rw [decide_eq_true h0] at hC
      have HC := Lib.hid hC
      clear hC
      go_wp2_with fail
      refine HC.out.mono ?_
      rintro e w1 ⟨rfl, hd⟩
      have hb := hd.below w.heap.size
      clear hd
      have hb := hb
      have HB153 := Lib.hid (HB0.out.trans (hb.mono HB0.out.size))
      have I0154 := Lib.hid (I0.out.below hb)
      have I1155 := Lib.hid (I1.out.below hb)
      clear hb HC
      have hC := fine_any a1 cap1 l1 w1 I1155.out
      rw [decide_eq_false h1] at hC
      have HC := Lib.hid hC
      clear hC
      go_wp2_with fail
      refine HC.out.mono ?_
      rintro e w2 ⟨rfl, hd⟩
      have hb := hd.below w1.heap.size
      clear hd
      have hb := hb
      have HB156 := Lib.hid (HB153.out.trans (hb.mono HB153.out.size))
      have I0157 := Lib.hid (I0154.out.below hb)
      have I1158 := Lib.hid (I1155.out.below hb)
      clear hb HC
      have HC := Lib.hid (works_any w2)
      go_wp2_with fail
      refine HC.out.mono ?_
      rintro e w3 ⟨rfl, hb⟩
      have HB159 := Lib.hid (HB156.out.trans (hb.mono HB156.out.size))
      have I0160 := Lib.hid (I0157.out.below hb)
      have I1161 := Lib.hid (I1158.out.below hb)
      clear hb HC
      go_wp2_with fail
      go_ret
      exact ⟨rfl, HB159.out⟩
  case neg =>
    go_enter Tryz.func11, Tryz.ntmps11
    have hC := fine_any a0 cap0 l0 w I0.out
    rw [decide_eq_false h0] at hC
    have HC := Lib.hid hC
    clear hC
    go_wp2_with fail
    refine HC.out.mono ?_
    rintro e w1 ⟨rfl, hd⟩
    have hb := hd.below w.heap.size
    clear hd
    have hb := hb
    have HB162 := Lib.hid (HB0.out.trans (hb.mono HB0.out.size))
    have I0163 := Lib.hid (I0.out.below hb)
    have I1164 := Lib.hid (I1.out.below hb)
    clear hb HC
    have HC := Lib.hid (works_any w1)
    go_wp2_with fail
    refine HC.out.mono ?_
    rintro e w2 ⟨rfl, hb⟩
    have HB165 := Lib.hid (HB162.out.trans (hb.mono HB162.out.size))
    have I0166 := Lib.hid (I0163.out.below hb)
    have I1167 := Lib.hid (I1164.out.below hb)
    clear hb HC
    go_wp2_with fail
    go_ret
    exact ⟨rfl, HB165.out⟩
end Go.Proofs.YtcjbnifafofpbaaGreatDoor
