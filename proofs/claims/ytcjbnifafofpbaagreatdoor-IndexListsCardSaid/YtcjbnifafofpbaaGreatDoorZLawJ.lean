/- Walk of IndexLists. -/
import Derived.Test.YtcjbnifafofpbaaGreatDoorJ23
namespace Go.Proofs.YtcjbnifafofpbaaGreatDoor
open Go.RowKit Go.Lib
theorem few_build (l : List X.W) : Few (X.buildE l).1 ∧ (X.buildE l).1.length ≤ 1000000 := by
  unfold X.buildE
  split
  · rename_i h
    have hL := X.listE_iff.1 h
    refine ⟨fun x hx => ?_, ?_⟩
    · obtain ⟨u, -, rfl⟩ := List.mem_map.1 hx
      have h1 : (X.outs l u).length ≤ 26 := by
        unfold X.outs
        have := List.length_filter_le (fun c => X.ends l (u ++ [c]) != []) X.abc
        rw [X.abc_len] at this; exact this
      refine ⟨by show (X.outs l u).length ≤ 1000000; omega, ?_⟩
      show ((X.outs l u).map _).length ≤ 1000000
      rw [List.length_map]; omega
    · show (X.build l).length ≤ 1000000
      rw [X.build_len]
      have := X.tops_len hL
      have := X.scan_len hL
      omega
  · exact ⟨fun x hx => (by cases hx), by simp⟩
set_option maxRecDepth 20000 in
set_option maxHeartbeats 8000000 in
theorem lists_walk (a0 : Option Addr) (cap0 : Nat) (l0 : List X.W) (w : World) (z0 : a0 = none → cap0 = 0) (w0 : Strs w a0 l0) :
    Calls Tryz.prog 3 #[.slice a0 l0.length cap0] w fun e w' => e = .returned (.bool true) ∧ RowKit.Below w.heap.size w w' := by
  have HB0 := Lib.hid (RowKit.Below.refl w.heap.size w)
  have I0 := Lib.hid w0
  clear w0
  cases hg : greatB l0
  case true =>
    have HG := Lib.hid hg
    clear hg
    go_enter Tryz.func3, Tryz.ntmps3
    have hC := great_any a0 cap0 l0 w I0.out
    rw [HG.out] at hC
    have HC := Lib.hid hC
    clear hC
    go_wp2_with fail
    refine HC.out.mono ?_
    rintro e _ ⟨rfl, rfl⟩
    clear HC
    have HC := Lib.hid (works_any w)
    go_wp2_with fail
    refine HC.out.mono ?_
    rintro e w1 ⟨rfl, hb⟩
    have HB0 := Lib.hid (HB0.out.trans (hb.mono HB0.out.size))
    have I01 := Lib.hid (I0.out.below hb)
    clear hb HC
    go_wp2_with fail
    go_ret
    exact ⟨rfl, HB0.out⟩
  case false =>
    have HG := Lib.hid hg
    obtain ⟨e0, r0⟩ := greatB_false hg
    have HR0 := Lib.hid (rooms_of (fun s hs => by have := r0 s hs; omega : ∀ s ∈ l0, s.length ≤ 1000))
    have hF := few_build l0
    obtain ⟨B, c, hB⟩ : ∃ B c, X.buildE l0 = (B, c) := ⟨_, _, rfl⟩
    rw [hB] at hF
    have HF := Lib.hid hF.1
    have hBl : B.length ≤ 1000000 := hF.2
    have HBu := Lib.hid hB
    obtain ⟨d, hd⟩ : ∃ d, X.listE l0 = d := ⟨_, rfl⟩
    have HD := Lib.hid hd
    clear hg r0 hF hB hd
    go_enter Tryz.func3, Tryz.ntmps3
    have hC := great_any a0 cap0 l0 w I0.out
    rw [HG.out] at hC
    have HC := Lib.hid hC
    clear hC
    go_wp2_with fail
    refine HC.out.mono ?_
    rintro e _ ⟨rfl, rfl⟩
    clear HC
    have hC := buildP_any a0 cap0 l0 w (by omega) HR0.out I0.out
    rw [HBu.out] at hC
    have HC := Lib.hid hC
    clear hC
    go_wp2_with fail
    refine HC.out.mono ?_
    intro e w1 hG
    obtain ⟨Ax, Cx, rfl, hi, hcx, hb⟩ := hG.lit (n := B.length) rfl
    have HB2 := Lib.hid (HB0.out.trans (hb.mono HB0.out.size))
    have I03 := Lib.hid (I0.out.below hb)
    have Ix := Lib.hid hi
    have Kx := Lib.hid hcx
    clear hcx hi hG
    clear hb HC
    have hC := buildR_any a0 cap0 l0 w1 (by omega) HR0.out I03.out
    rw [HBu.out] at hC
    have HC := Lib.hid hC
    clear hC
    go_wp2_with fail
    refine HC.out.mono ?_
    intro e w2 hG
    obtain ⟨Ay, Cy, rfl, hi, hcy, hb⟩ := hG.lit (n := B.length) rfl
    have HB4 := Lib.hid (HB2.out.trans (hb.mono HB2.out.size))
    have I05 := Lib.hid (I03.out.below hb)
    have Ix6 := Lib.hid (Ix.out.below hb)
    have Iy := Lib.hid hi
    have Ky := Lib.hid hcy
    clear hcy hi hG
    clear hb HC
    have hC := checkListP_any a0 cap0 l0 w2 (by omega) HR0.out I05.out
    rw [HD.out] at hC
    have HC := Lib.hid hC
    clear hC
    go_wp2_with fail
    refine HC.out.mono ?_
    rintro e w3 ⟨rfl, hb⟩
    have HB7 := Lib.hid (HB4.out.trans (hb.mono HB4.out.size))
    have I08 := Lib.hid (I05.out.below hb)
    have Ix9 := Lib.hid (Ix6.out.below hb)
    have Iy10 := Lib.hid (Iy.out.below hb)
    clear hb HC
    have hC := checkList_any a0 cap0 l0 w3 (by omega) HR0.out I08.out
    rw [HD.out] at hC
    have HC := Lib.hid hC
    clear hC
    go_wp2_with fail
    refine HC.out.mono ?_
    rintro e w4 ⟨rfl, hd⟩
    have hb := hd.below w3.heap.size
    clear hd
    have hb := hb
    have HB11 := Lib.hid (HB7.out.trans (hb.mono HB7.out.size))
    have I012 := Lib.hid (I08.out.below hb)
    have Ix13 := Lib.hid (Ix9.out.below hb)
    have Iy14 := Lib.hid (Iy10.out.below hb)
    clear hb HC
    have hC := statesS_any Ax Cx B Ay Cy B w4 (by omega) HF.out Ix13.out Iy14.out
    rw [decide_eq_true rfl] at hC
    have HC := Lib.hid hC
    clear hC
    go_wp2_with fail
    refine HC.out.mono ?_
    rintro e w5 ⟨rfl, hd⟩
    have hb := hd.below w4.heap.size
    clear hd
    have hb := hb
    have HB15 := Lib.hid (HB11.out.trans (hb.mono HB11.out.size))
    have I016 := Lib.hid (I012.out.below hb)
    have Ix17 := Lib.hid (Ix13.out.below hb)
    have Iy18 := Lib.hid (Iy14.out.below hb)
    clear hb HC
    have HC := Lib.hid (works_any w5)
    go_wp2_with fail
    refine HC.out.mono ?_
    rintro e w6 ⟨rfl, hb⟩
    have HB19 := Lib.hid (HB15.out.trans (hb.mono HB15.out.size))
    have I020 := Lib.hid (I016.out.below hb)
    have Ix21 := Lib.hid (Ix17.out.below hb)
    have Iy22 := Lib.hid (Iy18.out.below hb)
    clear hb HC
    go_wp2_with fail
    go_ret
    exact ⟨rfl, HB19.out⟩
end Go.Proofs.YtcjbnifafofpbaaGreatDoor
