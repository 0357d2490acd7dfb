/- Walk of IndexNears. -/
import Derived.Test.YtcjbnifafofpbaaGreatDoorJ24
import Derived.Test.YtcjbnifafofpbaaGreatDoorZRefP
namespace Go.Proofs.YtcjbnifafofpbaaGreatDoor
open Go.RowKit Go.Lib
theorem nearE_len (l : List X.W) (u : X.W) (n : Int) : (X.nearE l u n).1.length ≤ l.length := by
  unfold X.nearE
  split
  · simp
  · split
    · simp
    · split
      · simp
      · exact List.length_filter_le _ _
theorem joinE_len (l m : List X.W) : (X.joinE l m).1.length ≤ 30 := by
  unfold X.joinE
  split
  · simp
  · split
    · simp
    · show (X.joinL l m).length ≤ 30
      omega
theorem bothE_len (l m : List X.W) : (X.bothE l m).1.length ≤ l.length := by
  unfold X.bothE
  split
  · simp
  · exact List.length_filter_le _ _
set_option maxRecDepth 20000 in
set_option maxHeartbeats 8000000 in
theorem nears_walk (a0 : Option Addr) (cap0 : Nat) (l0 : List X.W) (a1 : Option Addr) (cap1 : Nat) (l1 : List X.W) (s2 : X.W) (n3 : Int) (w : World) (z0 : a0 = none → cap0 = 0) (w0 : Strs w a0 l0) (z1 : a1 = none → cap1 = 0) (w1 : Strs w a1 l1)  (_w3 : (Lit.int .i64 n3).wf = true) :
    Calls Tryz.prog 6 #[.slice a0 l0.length cap0, .slice a1 l1.length cap1, sv s2, .int .i64 n3] w fun e w' => e = .returned (.bool true) ∧ RowKit.Below w.heap.size w w' := by
  have HB0 := Lib.hid (RowKit.Below.refl w.heap.size w)
  have I0 := Lib.hid w0
  have I1 := Lib.hid w1
  clear w0 w1
  cases hg0 : greatB l0
  case true =>
    have HG0 := Lib.hid hg0
    clear hg0
    go_enter Tryz.func6, Tryz.ntmps6
    have hC := great_any a0 cap0 l0 w I0.out
    rw [HG0.out] at hC
    have HC := Lib.hid hC
    clear hC
    go_wp2_with fail
    refine HC.out.mono ?_
    rintro e _ ⟨rfl, rfl⟩
    clear HC
    have HC := Lib.hid (works_any w)
    go_wp2_with fail
    refine HC.out.mono ?_
    rintro e w1 ⟨rfl, hb⟩
    have HB0 := Lib.hid (HB0.out.trans (hb.mono HB0.out.size))
    have I01 := Lib.hid (I0.out.below hb)
    have I12 := Lib.hid (I1.out.below hb)
    clear hb HC
    go_wp2_with fail
    go_ret
    exact ⟨rfl, HB0.out⟩
  case false =>
    have HG0 := Lib.hid hg0
    obtain ⟨e0, r0⟩ := greatB_false hg0
    have HR0 := Lib.hid (rooms_of (fun s hs => by have := r0 s hs; omega : ∀ s ∈ l0, s.length ≤ 1000))
    clear hg0 r0
    cases hg1 : greatB l1
    case true =>
      have HG1 := Lib.hid hg1
      clear hg1
      go_enter Tryz.func6, Tryz.ntmps6
      have hC := great_any a0 cap0 l0 w I0.out
      rw [HG0.out] at hC
      have HC := Lib.hid hC
      clear hC
      go_wp2_with fail
      refine HC.out.mono ?_
      rintro e _ ⟨rfl, rfl⟩
      clear HC
      have hC := great_any a1 cap1 l1 w I1.out
      rw [HG1.out] at hC
      have HC := Lib.hid hC
      clear hC
      go_wp2_with fail
      refine HC.out.mono ?_
      rintro e _ ⟨rfl, rfl⟩
      clear HC
      have HC := Lib.hid (works_any w)
      go_wp2_with fail
      refine HC.out.mono ?_
      rintro e w1 ⟨rfl, hb⟩
      have HB3 := Lib.hid (HB0.out.trans (hb.mono HB0.out.size))
      have I04 := Lib.hid (I0.out.below hb)
      have I15 := Lib.hid (I1.out.below hb)
      clear hb HC
      go_wp2_with fail
      go_ret
      exact ⟨rfl, HB3.out⟩
    case false =>
      have HG1 := Lib.hid hg1
      obtain ⟨e1, r1⟩ := greatB_false hg1
      have HR1 := Lib.hid (rooms_of (fun s hs => by have := r1 s hs; omega : ∀ s ∈ l1, s.length ≤ 1000))
      clear hg1 r1
      by_cases h2 : 20 < s2.length
      case pos =>
        have hI2 : (20 : Int) < (s2.length : Int) := by omega
        go_enter Tryz.func6, Tryz.ntmps6
        have hC := great_any a0 cap0 l0 w I0.out
        rw [HG0.out] at hC
        have HC := Lib.hid hC
        clear hC
        go_wp2_with fail
        refine HC.out.mono ?_
        rintro e _ ⟨rfl, rfl⟩
        clear HC
        have hC := great_any a1 cap1 l1 w I1.out
        rw [HG1.out] at hC
        have HC := Lib.hid hC
        clear hC
        go_wp2_with fail
        refine HC.out.mono ?_
        rintro e _ ⟨rfl, rfl⟩
        clear HC
        have HC := Lib.hid (works_any w)
        go_wp2_with fail
        refine HC.out.mono ?_
        rintro e w1 ⟨rfl, hb⟩
        have HB6 := Lib.hid (HB0.out.trans (hb.mono HB0.out.size))
        have I07 := Lib.hid (I0.out.below hb)
        have I18 := Lib.hid (I1.out.below hb)
        clear hb HC
        go_wp2_with fail
        go_ret
        exact ⟨rfl, HB6.out⟩
      case neg =>
        have hI2 : ¬ (20 : Int) < (s2.length : Int) := by omega
        have hn := nearE_len l0 s2 n3
        have hj := joinE_len l0 l1
        have hu := bothE_len l0 l1
        obtain ⟨N, c, hN⟩ : ∃ N c, X.nearE l0 s2 n3 = (N, c) := ⟨_, _, rfl⟩
        obtain ⟨J, d, hJ⟩ : ∃ J d, X.joinE l0 l1 = (J, d) := ⟨_, _, rfl⟩
        obtain ⟨U, f, hU⟩ : ∃ U f, X.bothE l0 l1 = (U, f) := ⟨_, _, rfl⟩
        rw [hN] at hn
        rw [hJ] at hj
        rw [hU] at hu
        simp only at hn hj hu
        have HN := Lib.hid hN
        have HJ := Lib.hid hJ
        have HU := Lib.hid hU
        clear hN hJ hU
        go_enter Tryz.func6, Tryz.ntmps6
        have hC := great_any a0 cap0 l0 w I0.out
        rw [HG0.out] at hC
        have HC := Lib.hid hC
        clear hC
        go_wp2_with fail
        refine HC.out.mono ?_
        rintro e _ ⟨rfl, rfl⟩
        clear HC
        have hC := great_any a1 cap1 l1 w I1.out
        rw [HG1.out] at hC
        have HC := Lib.hid hC
        clear hC
        go_wp2_with fail
        refine HC.out.mono ?_
        rintro e _ ⟨rfl, rfl⟩
        clear HC
        have hC := nearM_any a0 cap0 l0 s2 n3 w (by omega) HR0.out (by omega) I0.out
        rw [HN.out] at hC
        have HC := Lib.hid hC
        clear hC
        go_wp2_with fail
        refine HC.out.mono ?_
        intro e w1 hG
        obtain ⟨Ax, Cx, rfl, hi, hcx, hb⟩ := hG.lit (n := N.length) rfl
        have HB9 := Lib.hid (HB0.out.trans (hb.mono HB0.out.size))
        have I010 := Lib.hid (I0.out.below hb)
        have I111 := Lib.hid (I1.out.below hb)
        have Ix := Lib.hid hi
        have Kx := Lib.hid hcx
        clear hcx hi hG
        clear hb HC
        have hC := nearR_any a0 cap0 l0 s2 n3 w1 (by omega) HR0.out (by omega) I010.out
        rw [HN.out] at hC
        have HC := Lib.hid hC
        clear hC
        go_wp2_with fail
        refine HC.out.mono ?_
        intro e w2 hG
        obtain ⟨Ay, Cy, rfl, hi, hcy, hb⟩ := hG.lit (n := N.length) rfl
        have HB12 := Lib.hid (HB9.out.trans (hb.mono HB9.out.size))
        have I013 := Lib.hid (I010.out.below hb)
        have I114 := Lib.hid (I111.out.below hb)
        have Ix15 := Lib.hid (Ix.out.below hb)
        have Iy := Lib.hid hi
        have Ky := Lib.hid hcy
        clear hcy hi hG
        clear hb HC
        have hC := joinP_any a0 cap0 l0 a1 cap1 l1 w2 (by omega) (by omega) HR0.out HR1.out I013.out I114.out z1
        rw [HJ.out] at hC
        have HC := Lib.hid hC
        clear hC
        go_wp2_with fail
        refine HC.out.mono ?_
        intro e w3 hG
        obtain ⟨Au, Cu, rfl, hi, hcu, hb⟩ := hG.lit (n := J.length) rfl
        have HB16 := Lib.hid (HB12.out.trans (hb.mono HB12.out.size))
        have I017 := Lib.hid (I013.out.below hb)
        have I118 := Lib.hid (I114.out.below hb)
        have Ix19 := Lib.hid (Ix15.out.below hb)
        have Iy20 := Lib.hid (Iy.out.below hb)
        have Iu := Lib.hid hi
        have Ku := Lib.hid hcu
        clear hcu hi hG
        clear hb HC
        have hC := joinR_any a0 cap0 l0 a1 cap1 l1 w3 (by omega) (by omega) HR0.out HR1.out I017.out I118.out z0
        rw [HJ.out] at hC
        have HC := Lib.hid hC
        clear hC
        go_wp2_with fail
        refine HC.out.mono ?_
        intro e w4 hG
        obtain ⟨Av, Cv, rfl, hi, hcv, hb⟩ := hG.lit (n := J.length) rfl
        have HB21 := Lib.hid (HB16.out.trans (hb.mono HB16.out.size))
        have I022 := Lib.hid (I017.out.below hb)
        have I123 := Lib.hid (I118.out.below hb)
        have Ix24 := Lib.hid (Ix19.out.below hb)
        have Iy25 := Lib.hid (Iy20.out.below hb)
        have Iu26 := Lib.hid (Iu.out.below hb)
        have Iv := Lib.hid hi
        have Kv := Lib.hid hcv
        clear hcv hi hG
        clear hb HC
        have hC := bothP_any a0 cap0 l0 a1 cap1 l1 w4 (by omega) (by omega) HR0.out HR1.out I022.out I123.out
        rw [HU.out] at hC
        have HC := Lib.hid hC
        clear hC
        go_wp2_with fail
        refine HC.out.mono ?_
        intro e w5 hG
        obtain ⟨As, Cs, rfl, hi, hcs, hb⟩ := hG.lit (n := U.length) rfl
        have HB27 := Lib.hid (HB21.out.trans (hb.mono HB21.out.size))
        have I028 := Lib.hid (I022.out.below hb)
        have I129 := Lib.hid (I123.out.below hb)
        have Ix30 := Lib.hid (Ix24.out.below hb)
        have Iy31 := Lib.hid (Iy25.out.below hb)
        have Iu32 := Lib.hid (Iu26.out.below hb)
        have Iv33 := Lib.hid (Iv.out.below hb)
        have Is := Lib.hid hi
        have Ks := Lib.hid hcs
        clear hcs hi hG
        clear hb HC
        have hC := both_any a0 cap0 l0 a1 cap1 l1 w5 (by omega) (by omega) HR0.out HR1.out I028.out I129.out
        rw [HU.out] at hC
        have HC := Lib.hid hC
        clear hC
        go_wp2_with fail
        refine HC.out.mono ?_
        intro e w6 hG
        obtain ⟨At, Ct, rfl, hi, hct, hb⟩ := hG.lit (n := U.length) rfl
        have HB34 := Lib.hid (HB27.out.trans (hb.mono HB27.out.size))
        have I035 := Lib.hid (I028.out.below hb)
        have I136 := Lib.hid (I129.out.below hb)
        have Ix37 := Lib.hid (Ix30.out.below hb)
        have Iy38 := Lib.hid (Iy31.out.below hb)
        have Iu39 := Lib.hid (Iu32.out.below hb)
        have Iv40 := Lib.hid (Iv33.out.below hb)
        have Is41 := Lib.hid (Is.out.below hb)
        have It := Lib.hid hi
        have Kt := Lib.hid hct
        clear hct hi hG
        clear hb HC
        have hC := textsS_any Ax Cx N Ay Cy N w6 (by omega) Ix37.out Iy38.out
        rw [decide_eq_true rfl] at hC
        have HC := Lib.hid hC
        clear hC
        go_wp2_with fail
        refine HC.out.mono ?_
        rintro e w7 ⟨rfl, hd⟩
        have hb := hd.below w6.heap.size
        clear hd
        have hb := hb
        have HB42 := Lib.hid (HB34.out.trans (hb.mono HB34.out.size))
        have I043 := Lib.hid (I035.out.below hb)
        have I144 := Lib.hid (I136.out.below hb)
        have Ix45 := Lib.hid (Ix37.out.below hb)
        have Iy46 := Lib.hid (Iy38.out.below hb)
        have Iu47 := Lib.hid (Iu39.out.below hb)
        have Iv48 := Lib.hid (Iv40.out.below hb)
        have Is49 := Lib.hid (Is41.out.below hb)
        have It50 := Lib.hid (It.out.below hb)
        clear hb HC
        have hC := textsS_any Au Cu J Av Cv J w7 (by omega) Iu47.out Iv48.out
        rw [decide_eq_true rfl] at hC
        have HC := Lib.hid hC
        clear hC
        go_wp2_with fail
        refine HC.out.mono ?_
        rintro e w8 ⟨rfl, hd⟩
        have hb := hd.below w7.heap.size
        clear hd
        have hb := hb
        have HB51 := Lib.hid (HB42.out.trans (hb.mono HB42.out.size))
        have I052 := Lib.hid (I043.out.below hb)
        have I153 := Lib.hid (I144.out.below hb)
        have Iu54 := Lib.hid (Iu47.out.below hb)
        have Iv55 := Lib.hid (Iv48.out.below hb)
        have Is56 := Lib.hid (Is49.out.below hb)
        have It57 := Lib.hid (It50.out.below hb)
        clear hb HC
        have hC := textsS_any As Cs U At Ct U w8 (by omega) Is56.out It57.out
        rw [decide_eq_true rfl] at hC
        have HC := Lib.hid hC
        clear hC
        go_wp2_with fail
        refine HC.out.mono ?_
        rintro e w9 ⟨rfl, hd⟩
        have hb := hd.below w8.heap.size
        clear hd
        have hb := hb
        have HB58 := Lib.hid (HB51.out.trans (hb.mono HB51.out.size))
        have I059 := Lib.hid (I052.out.below hb)
        have I160 := Lib.hid (I153.out.below hb)
        have Is61 := Lib.hid (Is56.out.below hb)
        have It62 := Lib.hid (It57.out.below hb)
        clear hb HC
        have HC := Lib.hid (works_any w9)
        go_wp2_with fail
        refine HC.out.mono ?_
        rintro e w10 ⟨rfl, hb⟩
        have HB63 := Lib.hid (HB58.out.trans (hb.mono HB58.out.size))
        have I064 := Lib.hid (I059.out.below hb)
        have I165 := Lib.hid (I160.out.below hb)
        clear hb HC
        go_wp2_with fail
        go_ret
        exact ⟨rfl, HB63.out⟩
end Go.Proofs.YtcjbnifafofpbaaGreatDoor
