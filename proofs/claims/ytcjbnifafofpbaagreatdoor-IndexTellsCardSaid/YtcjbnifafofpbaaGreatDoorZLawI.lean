/- Walk of IndexTells. -/
import Derived.Test.YtcjbnifafofpbaaGreatDoorJ21
namespace Go.Proofs.YtcjbnifafofpbaaGreatDoor
open Go.RowKit Go.Lib
set_option maxRecDepth 20000 in
set_option maxHeartbeats 8000000 in
theorem tells_walk (a0 : Option Addr) (cap0 : Nat) (l0 : List X.W) (s1 : X.W) (s2 : X.W) (a3 : Option Addr) (cap3 : Nat) (l3 : List X.W) (w : World) (z0 : a0 = none → cap0 = 0) (w0 : Strs w a0 l0)   (z3 : a3 = none → cap3 = 0) (w3 : Strs w a3 l3) :
    Calls Tryz.prog 5 #[.slice a0 l0.length cap0, sv s1, sv s2, .slice a3 l3.length cap3] w fun e w' => e = .returned (.bool true) ∧ RowKit.Below w.heap.size w w' := by
  have HB0 := Lib.hid (RowKit.Below.refl w.heap.size w)
  have I0 := Lib.hid w0
  have I3 := Lib.hid w3
  clear w0 w3
  cases hg : greatB l0
  case true =>
    have HG := Lib.hid hg
    clear hg
    go_enter Tryz.func5, Tryz.ntmps5
    have hC := great_any a0 cap0 l0 w I0.out
    rw [HG.out] at hC
    have HC := Lib.hid hC
    clear hC
    go_wp2_with fail
    refine HC.out.mono ?_
    rintro e _ ⟨rfl, rfl⟩
    clear HC
    have HC := Lib.hid (works_any w)
    go_wp2_with fail
    refine HC.out.mono ?_
    rintro e w1 ⟨rfl, hb⟩
    have HB0 := Lib.hid (HB0.out.trans (hb.mono HB0.out.size))
    have I01 := Lib.hid (I0.out.below hb)
    have I32 := Lib.hid (I3.out.below hb)
    clear hb HC
    go_wp2_with fail
    go_ret
    exact ⟨rfl, HB0.out⟩
  case false =>
    have HG := Lib.hid hg
    obtain ⟨e0, r0⟩ := greatB_false hg
    have HR0 := Lib.hid (rooms_of (fun s hs => by have := r0 s hs; omega : ∀ s ∈ l0, s.length ≤ 1000))
    clear hg r0
    by_cases h1 : 20 < s1.length
    case pos =>
      have hI1 : (20 : Int) < (s1.length : Int) := by omega
      go_enter Tryz.func5, Tryz.ntmps5
      have hC := great_any a0 cap0 l0 w I0.out
      rw [HG.out] at hC
      have HC := Lib.hid hC
      clear hC
      go_wp2_with fail
      refine HC.out.mono ?_
      rintro e _ ⟨rfl, rfl⟩
      clear HC
      have HC := Lib.hid (works_any w)
      go_wp2_with fail
      refine HC.out.mono ?_
      rintro e w1 ⟨rfl, hb⟩
      have HB3 := Lib.hid (HB0.out.trans (hb.mono HB0.out.size))
      have I04 := Lib.hid (I0.out.below hb)
      have I35 := Lib.hid (I3.out.below hb)
      clear hb HC
      go_wp2_with fail
      go_ret
      exact ⟨rfl, HB3.out⟩
    case neg =>
      have hI1 : ¬ (20 : Int) < (s1.length : Int) := by omega
      by_cases h2 : 20 < s2.length
      case pos =>
        have hI2 : (20 : Int) < (s2.length : Int) := by omega
        go_enter Tryz.func5, Tryz.ntmps5
        have hC := great_any a0 cap0 l0 w I0.out
        rw [HG.out] at hC
        have HC := Lib.hid hC
        clear hC
        go_wp2_with fail
        refine HC.out.mono ?_
        rintro e _ ⟨rfl, rfl⟩
        clear HC
        have HC := Lib.hid (works_any w)
        go_wp2_with fail
        refine HC.out.mono ?_
        rintro e w1 ⟨rfl, hb⟩
        have HB6 := Lib.hid (HB0.out.trans (hb.mono HB0.out.size))
        have I07 := Lib.hid (I0.out.below hb)
        have I38 := Lib.hid (I3.out.below hb)
        clear hb HC
        go_wp2_with fail
        go_ret
        exact ⟨rfl, HB6.out⟩
      case neg =>
        have hI2 : ¬ (20 : Int) < (s2.length : Int) := by omega
        by_cases h3 : 310 < l3.length
        case pos =>
          have hI3 : (310 : Int) < (l3.length : Int) := by omega
          go_enter Tryz.func5, Tryz.ntmps5
          have hC := great_any a0 cap0 l0 w I0.out
          rw [HG.out] at hC
          have HC := Lib.hid hC
          clear hC
          go_wp2_with fail
          refine HC.out.mono ?_
          rintro e _ ⟨rfl, rfl⟩
          clear HC
          have HC := Lib.hid (works_any w)
          go_wp2_with fail
          refine HC.out.mono ?_
          rintro e w1 ⟨rfl, hb⟩
          have HB9 := Lib.hid (HB0.out.trans (hb.mono HB0.out.size))
          have I010 := Lib.hid (I0.out.below hb)
          have I311 := Lib.hid (I3.out.below hb)
          clear hb HC
          go_wp2_with fail
          go_ret
          exact ⟨rfl, HB9.out⟩
        case neg =>
          have hI3 : ¬ (310 : Int) < (l3.length : Int) := by omega
          obtain ⟨A, c, hE⟩ : ∃ A c, X.tellE l0 s1 s2 = (A, c) := ⟨_, _, rfl⟩
          obtain ⟨p, q, hK⟩ : ∃ p q, X.checkApartE l0 l3 = (p, q) := ⟨_, _, rfl⟩
          obtain ⟨L, d, hP⟩ : ∃ L d, X.apartE l0 = (L, d) := ⟨_, _, rfl⟩
          have hLl : L.length ≤ 1000 := by
            have h : (X.apartE l0).1.length ≤ 1000 := by
              unfold X.apartE
              split
              · simp
              · rename_i hh
                split
                · simp
                · have hL := X.listE_iff.1 (Classical.not_not.1 hh)
                  have h1 := X.tops_len hL
                  have h2 := X.scan_len hL
                  show (X.tops l0).length ≤ 1000
                  omega
            rw [hP] at h; exact h
          have HE := Lib.hid hE
          have HK := Lib.hid hK
          have HP := Lib.hid hP
          clear hE hK hP
          go_enter Tryz.func5, Tryz.ntmps5
          have hC := great_any a0 cap0 l0 w I0.out
          rw [HG.out] at hC
          have HC := Lib.hid hC
          clear hC
          go_wp2_with fail
          refine HC.out.mono ?_
          rintro e _ ⟨rfl, rfl⟩
          clear HC
          go_wp2_with fail
          go_loopw [9] (fun i wr => ∃ j : Nat, j ≤ l3.length ∧ i = .int .i64 j ∧ Hid (∀ k, k < j → (wat l3 k).length ≤ 20) ∧ Hid (RowKit.Below w.heap.size w wr)) (fun i _ => l3.length - (RowKit.intOf i).toNat)
          case atStart => exact ⟨0, by omega, rfl, Lib.hid (fun k hk => by omega), Lib.hid (RowKit.Below.refl _ _)⟩
          case round =>
            obtain ⟨j, hj, rfl, HS, HLp⟩ := hrel
            have HB12 := Lib.hid (HB0.out.trans (HLp.out.mono HB0.out.size))
            have I013 := Lib.hid (I0.out.below HLp.out)
            have I314 := Lib.hid (I3.out.below HLp.out)
            by_cases hlt : j < l3.length
            case pos =>
              have hltI : (j : Int) < (l3.length : Int) := by omega
              obtain ⟨bb, ob, rfl, cb⟩ := I314.out j hlt
              by_cases h4 : 20 < (wat l3 j).length
              case pos =>
                have hI4 : (20 : Int) < ((wat l3 j).length : Int) := by omega
                have HC := Lib.hid (works_any wr)
                go_wp2_with fail
                refine HC.out.mono ?_
                rintro e w1 ⟨rfl, hb⟩
                have HB15 := Lib.hid (HB12.out.trans (hb.mono HB12.out.size))
                have I016 := Lib.hid (I013.out.below hb)
                have I317 := Lib.hid (I314.out.below hb)
                have HL18 := Lib.hid (HLp.out.trans (hb.mono HLp.out.size))
                clear hb HC
                go_wp2_with fail
                go_ret
                exact ⟨rfl, HB15.out⟩
              case neg =>
                have hI4 : ¬ (20 : Int) < ((wat l3 j).length : Int) := by omega
                have HS2 : Hid (∀ k, k < j + 1 → (wat l3 k).length ≤ 20) := Lib.hid (fun k hk => by
                  rcases Nat.lt_succ_iff_lt_or_eq.1 hk with h | rfl
                  · exact HS.out k h
                  · omega)
                by_cases h5 : 60 < l3.length
                case pos =>
                  have hI5 : (60 : Int) < (l3.length : Int) := by omega
                  generalize wat l3 j = x at *
                  by_cases h6 : x = []
                  case pos =>
                    subst h6
                    go_wp2_with fail
                    go_roundw
                    case rel => exact ⟨j + 1, by omega, by go_num, HS2, Lib.hid HLp.out⟩
                    case measure => simp [RowKit.intOf]; omega
                  case neg =>
                    have hx0 : x.isEmpty = false := by cases x; exact absurd rfl h6; rfl
                    have hx1 : (x == []) = false := by cases x; exact absurd rfl h6; rfl
                    clear h6
                    have HC := Lib.hid (works_any wr)
                    go_wp2_with fail
                    refine HC.out.mono ?_
                    rintro e w1 ⟨rfl, hb⟩
                    have HB19 := Lib.hid (HB12.out.trans (hb.mono HB12.out.size))
                    have I020 := Lib.hid (I013.out.below hb)
                    have I321 := Lib.hid (I314.out.below hb)
                    have HL22 := Lib.hid (HLp.out.trans (hb.mono HLp.out.size))
                    clear hb HC
                    go_wp2_with fail
                    go_ret
                    exact ⟨rfl, HB19.out⟩
                case neg =>
                  have hI5 : ¬ (60 : Int) < (l3.length : Int) := by omega
                  go_wp2_with fail
                  go_roundw
                  case rel => exact ⟨j + 1, by omega, by go_num, HS2, Lib.hid HLp.out⟩
                  case measure => simp [RowKit.intOf]; omega
            case neg =>
              have HR3 := Lib.hid (rooms_of (fun s hs => by
                obtain ⟨k, hk, rfl⟩ := List.mem_iff_getElem.1 hs
                have := HS.out k (by omega)
                rw [wat_eq l3 k hk] at this; omega : ∀ s ∈ l3, s.length ≤ 1000))
              have hC := tellM_any a0 cap0 l0 s1 s2 wr (by omega) HR0.out (by omega) (by omega) I013.out
              rw [HE.out] at hC
              have HC := Lib.hid hC
              clear hC
              go_wp2_with fail
              refine HC.out.mono ?_
              rintro e w1 ⟨rfl, hb⟩
              have HB23 := Lib.hid (HB12.out.trans (hb.mono HB12.out.size))
              have I024 := Lib.hid (I013.out.below hb)
              have I325 := Lib.hid (I314.out.below hb)
              clear hb HC
              have hC := tell_any a0 cap0 l0 s1 s2 w1 (by omega) HR0.out (by omega) (by omega) I024.out
              rw [HE.out] at hC
              have HC := Lib.hid hC
              clear hC
              go_wp2_with fail
              refine HC.out.mono ?_
              rintro e w2 ⟨rfl, hb⟩
              have HB26 := Lib.hid (HB23.out.trans (hb.mono HB23.out.size))
              have I027 := Lib.hid (I024.out.below hb)
              have I328 := Lib.hid (I325.out.below hb)
              clear hb HC
              have hC := checkApartM_any a0 cap0 l0 a3 cap3 l3 w2 (by omega) HR0.out (by omega) HR3.out I027.out I328.out
              rw [HK.out] at hC
              have HC := Lib.hid hC
              clear hC
              go_wp2_with fail
              refine HC.out.mono ?_
              rintro e w3 ⟨rfl, hb⟩
              have HB29 := Lib.hid (HB26.out.trans (hb.mono HB26.out.size))
              have I030 := Lib.hid (I027.out.below hb)
              have I331 := Lib.hid (I328.out.below hb)
              clear hb HC
              have hC := checkApart_any a0 cap0 l0 a3 cap3 l3 w3 (by omega) (by omega) HR0.out HR3.out I030.out I331.out
              rw [HK.out] at hC
              have HC := Lib.hid hC
              clear hC
              go_wp2_with fail
              refine HC.out.mono ?_
              rintro e w4 ⟨rfl, hb⟩
              have HB32 := Lib.hid (HB29.out.trans (hb.mono HB29.out.size))
              have I033 := Lib.hid (I030.out.below hb)
              have I334 := Lib.hid (I331.out.below hb)
              clear hb HC
              have hC := apartM_any a0 cap0 l0 w4 (by omega) HR0.out I033.out
              rw [HP.out] at hC
              have HC := Lib.hid hC
              clear hC
              go_wp2_with fail
              refine HC.out.mono ?_
              intro e w5 hG
              obtain ⟨Ax, Cx, rfl, hi, hcx, hb⟩ := hG.lit (n := L.length) rfl
              have HB35 := Lib.hid (HB32.out.trans (hb.mono HB32.out.size))
              have I036 := Lib.hid (I033.out.below hb)
              have Ix := Lib.hid hi
              have Kx := Lib.hid hcx
              clear hcx hi hG
              clear hb HC
              have hC := apart_any a0 cap0 l0 w5 (by omega) HR0.out I036.out
              rw [HP.out] at hC
              have HC := Lib.hid hC
              clear hC
              go_wp2_with fail
              refine HC.out.mono ?_
              intro e w6 hG
              obtain ⟨Ay, Cy, rfl, hi, hcy, hb⟩ := hG.lit (n := L.length) rfl
              have HB37 := Lib.hid (HB35.out.trans (hb.mono HB35.out.size))
              have I038 := Lib.hid (I036.out.below hb)
              have Ix39 := Lib.hid (Ix.out.below hb)
              have Iy := Lib.hid hi
              have Ky := Lib.hid hcy
              clear hcy hi hG
              clear hb HC
              have hC := textsS_any Ax Cx L Ay Cy L w6 (by omega) Ix39.out Iy.out
              rw [decide_eq_true rfl] at hC
              have HC := Lib.hid hC
              clear hC
              go_wp2_with fail
              refine HC.out.mono ?_
              rintro e w7 ⟨rfl, hd⟩
              have hb := hd.below w6.heap.size
              clear hd
              have hb := hb
              have HB40 := Lib.hid (HB37.out.trans (hb.mono HB37.out.size))
              have I041 := Lib.hid (I038.out.below hb)
              have Ix42 := Lib.hid (Ix39.out.below hb)
              have Iy43 := Lib.hid (Iy.out.below hb)
              clear hb HC
              have HC := Lib.hid (works_any w7)
              go_wp2_with fail
              refine HC.out.mono ?_
              rintro e w8 ⟨rfl, hb⟩
              have HB44 := Lib.hid (HB40.out.trans (hb.mono HB40.out.size))
              have I045 := Lib.hid (I041.out.below hb)
              have Ix46 := Lib.hid (Ix42.out.below hb)
              have Iy47 := Lib.hid (Iy43.out.below hb)
              clear hb HC
              go_wp2_with fail
              go_ret
              exact ⟨rfl, HB44.out⟩
end Go.Proofs.YtcjbnifafofpbaaGreatDoor
