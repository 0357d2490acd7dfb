/- One text of LawI, LawH, LawF. -/
import Derived.Test.YtpkffjcmoghaaaaJ15
/- Walk of PunchChosen. -/
namespace Go.Proofs.Ytpkffjcmoghaaaa
open Go.RowKit
set_option maxRecDepth 20000 in
set_option maxHeartbeats 4000000 in
theorem chosen_walk (a : Option Addr) (cap : Nat) (p L : Int) (S : List P.Star) (b : Option Addr) (cap2 : Nat) (l : List Int) (i : Int) (w : World) (ha : Stars w a S) (hbl : Ints .i64 w b l) :
    Calls Try.prog 6 #[jobV p L a S.length cap, .slice b l.length cap2, .int .i64 i] w fun e w' => e = .returned (.bool true) ∧ Below w.heap.size w w' := by
  have HI0 := Lib.hid (hbl.alloc (.cells #[.int .i64 p, .int .i64 L, .slice a S.length cap] 24))
  have HJ0 := Lib.hid (Job.new ha p L cap 24)
  have HB0 := Lib.hid (Below.new w (.cells #[.int .i64 p, .int .i64 L, .slice a S.length cap] 24))
  clear ha hbl
  have HG := great_any a cap S.length p L (w.alloc (.cells #[.int .i64 p, .int .i64 L, .slice a S.length cap] 24))
  by_cases h24 : 24 < S.length
  · rw [decide_eq_true h24] at HG
    have HG := Lib.hid HG
    clear h24
    go_enter Try.func6, Try.ntmps6
    go_wp2_with fail
    refine (HG.out).mono ?_
    rintro e w1 ⟨rfl, hb⟩
    have HJ1 := Lib.hid (HJ0.out.on hb)
    have HB2 := Lib.hid (HB0.out.trans (hb.mono HB0.out.size))
    have HI3 := Lib.hid (HI0.out.below hb)
    clear hb
    go_wp2_with fail
    refine (works_any _).mono ?_
    rintro e w2 ⟨rfl, hb⟩
    have HJ4 := Lib.hid (HJ1.out.on hb)
    have HB5 := Lib.hid (HB2.out.trans (hb.mono HB2.out.size))
    have HI6 := Lib.hid (HI3.out.below hb)
    clear hb
    go_wp2_with fail
    go_ret
    exact ⟨rfl, HB5.out⟩
  · rw [decide_eq_false h24] at HG
    have HG := Lib.hid HG
    have hl : S.length ≤ 1000000 := by omega
    clear h24
    by_cases h30 : 24 < l.length
    · have h30I : (24 : Int) < (l.length : Int) := by omega
      clear h30
      go_enter Try.func6, Try.ntmps6
      go_wp2_with fail
      refine (HG.out).mono ?_
      rintro e w1 ⟨rfl, hb⟩
      have HJ7 := Lib.hid (HJ0.out.on hb)
      have HB8 := Lib.hid (HB0.out.trans (hb.mono HB0.out.size))
      have HI9 := Lib.hid (HI0.out.below hb)
      clear hb
      go_wp2_with fail
      refine (works_any _).mono ?_
      rintro e w2 ⟨rfl, hb⟩
      have HJ10 := Lib.hid (HJ7.out.on hb)
      have HB11 := Lib.hid (HB8.out.trans (hb.mono HB8.out.size))
      have HI12 := Lib.hid (HI9.out.below hb)
      clear hb
      go_wp2_with fail
      go_ret
      exact ⟨rfl, HB11.out⟩
    · have h30I : ¬ (24 : Int) < (l.length : Int) := by omega
      have hl2 : l.length ≤ 1000000 := by omega
      clear h30
      go_enter Try.func6, Try.ntmps6
      go_wp2_with fail
      refine (HG.out).mono ?_
      rintro e w1 ⟨rfl, hb⟩
      have HJ13 := Lib.hid (HJ0.out.on hb)
      have HB14 := Lib.hid (HB0.out.trans (hb.mono HB0.out.size))
      have HI15 := Lib.hid (HI0.out.below hb)
      clear hb
      have x16 := HJ13.out.x1
      have x17 := HJ13.out.x2
      have x18 := HJ13.out.x3
      have HC := Lib.hid (checkStruck_any a cap p L S b cap2 l w1 hl hl2 HJ13.out.st HI15.out)
      go_wp2_with fail
      refine HC.out.mono ?_
      rintro e w2 ⟨rfl, hb⟩
      have HJ19 := Lib.hid (HJ13.out.on hb)
      have HB20 := Lib.hid (HB14.out.trans (hb.mono HB14.out.size))
      have HI21 := Lib.hid (HI15.out.below hb)
      clear x16 x17 x18
      clear hb HC
      have x22 := HJ19.out.x1
      have x23 := HJ19.out.x2
      have x24 := HJ19.out.x3
      have HC := Lib.hid (refCheckStruck_any a cap p L S b cap2 l w2 hl hl2 HJ19.out.st HI21.out)
      go_wp2_with fail
      refine HC.out.mono ?_
      rintro e w3 ⟨rfl, hb⟩
      have HJ25 := Lib.hid (HJ19.out.on hb)
      have HB26 := Lib.hid (HB20.out.trans (hb.mono HB20.out.size))
      have HI27 := Lib.hid (HI21.out.below hb)
      clear x22 x23 x24
      clear hb HC
      have hC := chosen_any a cap p L S w3 hl HJ25.out.st
      have HC := Lib.hid hC
      clear hC
      have x28 := HJ25.out.x1
      have x29 := HJ25.out.x2
      have x30 := HJ25.out.x3
      go_wp2_with fail
      refine HC.out.mono ?_
      rintro e w4 ⟨Ac, Cc, rfl, hi, hb⟩
      have HJ31 := Lib.hid (HJ25.out.on hb)
      have HB32 := Lib.hid (HB26.out.trans (hb.mono HB26.out.size))
      have HI33 := Lib.hid (HI27.out.below hb)
      have Ic := Lib.hid hi
      clear x28 x29 x30
      clear hb hi HC
      have hC := refChosenG a cap p L S w4 hl HJ31.out.st
      have HC := Lib.hid hC
      clear hC
      have x34 := HJ31.out.x1
      have x35 := HJ31.out.x2
      have x36 := HJ31.out.x3
      go_wp2_with fail
      refine HC.out.mono ?_
      rintro e w5 ⟨Ad, Cd, rfl, hi, hb⟩
      have HJ37 := Lib.hid (HJ31.out.on hb)
      have HB38 := Lib.hid (HB32.out.trans (hb.mono HB32.out.size))
      have HI39 := Lib.hid (HI33.out.below hb)
      have Ic40 := Lib.hid (Ic.out.below hb)
      have Id := Lib.hid hi
      clear x34 x35 x36
      clear hb hi HC
      have hC := heaviest_any a cap p L S w5 hl HJ37.out.st
      have HC := Lib.hid hC
      clear hC
      have x41 := HJ37.out.x1
      have x42 := HJ37.out.x2
      have x43 := HJ37.out.x3
      go_wp2_with fail
      refine HC.out.mono ?_
      rintro e w6 ⟨rfl, hb⟩
      have HJ44 := Lib.hid (HJ37.out.on hb)
      have HB45 := Lib.hid (HB38.out.trans (hb.mono HB38.out.size))
      have HI46 := Lib.hid (HI39.out.below hb)
      have Ic47 := Lib.hid (Ic40.out.below hb)
      have Id48 := Lib.hid (Id.out.below hb)
      clear x41 x42 x43
      clear hb HC
      have hC := refHeaviest_any a cap p L S w6 hl HJ44.out.st
      have HC := Lib.hid hC
      clear hC
      have x49 := HJ44.out.x1
      have x50 := HJ44.out.x2
      have x51 := HJ44.out.x3
      go_wp2_with fail
      refine HC.out.mono ?_
      rintro e w7 ⟨rfl, hb⟩
      have HJ52 := Lib.hid (HJ44.out.on hb)
      have HB53 := Lib.hid (HB45.out.trans (hb.mono HB45.out.size))
      have HI54 := Lib.hid (HI46.out.below hb)
      have Ic55 := Lib.hid (Ic47.out.below hb)
      have Id56 := Lib.hid (Id48.out.below hb)
      clear x49 x50 x51
      clear hb HC
      have hC := kind_any a cap p L S i w7 hl HJ52.out.st
      have HC := Lib.hid hC
      clear hC
      have x57 := HJ52.out.x1
      have x58 := HJ52.out.x2
      have x59 := HJ52.out.x3
      go_wp2_with fail
      refine HC.out.mono ?_
      rintro e w8 ⟨rfl, hb⟩
      have HJ60 := Lib.hid (HJ52.out.on hb)
      have HB61 := Lib.hid (HB53.out.trans (hb.mono HB53.out.size))
      have HI62 := Lib.hid (HI54.out.below hb)
      have Ic63 := Lib.hid (Ic55.out.below hb)
      have Id64 := Lib.hid (Id56.out.below hb)
      clear x57 x58 x59
      clear hb HC
      have hC := refKind_any a cap p L S i w8 hl HJ60.out.st
      have HC := Lib.hid hC
      clear hC
      have x65 := HJ60.out.x1
      have x66 := HJ60.out.x2
      have x67 := HJ60.out.x3
      go_wp2_with fail
      refine HC.out.mono ?_
      rintro e w9 ⟨rfl, hb⟩
      have HJ68 := Lib.hid (HJ60.out.on hb)
      have HB69 := Lib.hid (HB61.out.trans (hb.mono HB61.out.size))
      have HI70 := Lib.hid (HI62.out.below hb)
      have Ic71 := Lib.hid (Ic63.out.below hb)
      have Id72 := Lib.hid (Id64.out.below hb)
      clear x65 x66 x67
      clear hb HC
      have HC := Lib.hid (ints_same Ac Cc ((P.chosenE p L S).1).length ((P.chosenE p L S).1) Ad Cd w9 rfl (chosenE_len hl) Ic71.out Id72.out)
      go_wp2_with fail
      refine HC.out.mono ?_
      rintro e w10 ⟨rfl, hb⟩
      have HJ73 := Lib.hid (HJ68.out.on hb)
      have HB74 := Lib.hid (HB69.out.trans (hb.mono HB69.out.size))
      have HI75 := Lib.hid (HI70.out.below hb)
      have Ic76 := Lib.hid (Ic71.out.below hb)
      have Id77 := Lib.hid (Id72.out.below hb)
      clear hb HC
      go_wp2_with fail
      refine (works_any _).mono ?_
      rintro e w11 ⟨rfl, hb⟩
      have HJ78 := Lib.hid (HJ73.out.on hb)
      have HB79 := Lib.hid (HB74.out.trans (hb.mono HB74.out.size))
      have HI80 := Lib.hid (HI75.out.below hb)
      have Ic81 := Lib.hid (Ic76.out.below hb)
      have Id82 := Lib.hid (Id77.out.below hb)
      clear hb
      go_wp2_with fail
      go_ret
      exact ⟨rfl, HB79.out⟩
end Go.Proofs.Ytpkffjcmoghaaaa
/- Walk of PunchWindows. -/
namespace Go.Proofs.Ytpkffjcmoghaaaa
open Go.RowKit
set_option maxRecDepth 20000 in
set_option maxHeartbeats 4000000 in
theorem windows_walk (a : Option Addr) (cap : Nat) (p L : Int) (S : List P.Star) (x y : Int) (w : World) (ha : Stars w a S) :
    Calls Try.prog 5 #[jobV p L a S.length cap, .int .i64 x, .int .i64 y] w fun e w' => e = .returned (.bool true) ∧ Below w.heap.size w w' := by
  have HJ0 := Lib.hid (Job.new ha p L cap 24)
  have HB0 := Lib.hid (Below.new w (.cells #[.int .i64 p, .int .i64 L, .slice a S.length cap] 24))
  clear ha
  have HG := great_any a cap S.length p L (w.alloc (.cells #[.int .i64 p, .int .i64 L, .slice a S.length cap] 24))
  by_cases h24 : 24 < S.length
  · rw [decide_eq_true h24] at HG
    have HG := Lib.hid HG
    clear h24
    go_enter Try.func5, Try.ntmps5
    go_wp2_with fail
    refine (HG.out).mono ?_
    rintro e w1 ⟨rfl, hb⟩
    have HJ1 := Lib.hid (HJ0.out.on hb)
    have HB2 := Lib.hid (HB0.out.trans (hb.mono HB0.out.size))
    clear hb
    go_wp2_with fail
    refine (works_any _).mono ?_
    rintro e w2 ⟨rfl, hb⟩
    have HJ3 := Lib.hid (HJ1.out.on hb)
    have HB4 := Lib.hid (HB2.out.trans (hb.mono HB2.out.size))
    clear hb
    go_wp2_with fail
    go_ret
    exact ⟨rfl, HB4.out⟩
  · rw [decide_eq_false h24] at HG
    have HG := Lib.hid HG
    have hl : S.length ≤ 1000000 := by omega
    clear h24
    by_cases hc : P.checkJob p L S = 0
    · have HZ := Lib.hid hc
      have HV := Lib.hid (P.checkJob_iff.1 hc)
      clear hc
      have HHas := Lib.hid (fun W hW => has_any a cap S p L W hl (by have := HV.out.p1; omega) (by have := HV.out.p5; omega) HV.out.l20 hW)
      cases hf : P.fitsB S p L
      · rw [hf] at HHas
        have HNF : Hid (¬ P.Fits S p L) := Lib.hid (fun h => by have := P.fitsB_iff.2 h; rw [hf] at this; cases this)
        clear hf
        go_enter Try.func5, Try.ntmps5
        go_wp2_with fail
        refine (HG.out).mono ?_
        rintro e w1 ⟨rfl, hb⟩
        have HJ5 := Lib.hid (HJ0.out.on hb)
        have HB6 := Lib.hid (HB0.out.trans (hb.mono HB0.out.size))
        clear hb
        have hC := checkWindow_any a cap p L S x y w1 hl HJ5.out.st
        have HC := Lib.hid hC
        clear hC
        have x7 := HJ5.out.x1
        have x8 := HJ5.out.x2
        have x9 := HJ5.out.x3
        go_wp2_with fail
        refine HC.out.mono ?_
        rintro e w2 ⟨rfl, hb⟩
        have HJ10 := Lib.hid (HJ5.out.on hb)
        have HB11 := Lib.hid (HB6.out.trans (hb.mono HB6.out.size))
        clear x7 x8 x9
        clear hb HC
        have hC := refCheckWindow_any a cap p L S x y w2 hl HJ10.out.st
        have HC := Lib.hid hC
        clear hC
        have x12 := HJ10.out.x1
        have x13 := HJ10.out.x2
        have x14 := HJ10.out.x3
        go_wp2_with fail
        refine HC.out.mono ?_
        rintro e w3 ⟨rfl, hb⟩
        have HJ15 := Lib.hid (HJ10.out.on hb)
        have HB16 := Lib.hid (HB11.out.trans (hb.mono HB11.out.size))
        clear x12 x13 x14
        clear hb HC
        have hC := window_any a cap p L S w3 hl HJ15.out.st
        have HC := Lib.hid hC
        clear hC
        have x17 := HJ15.out.x1
        have x18 := HJ15.out.x2
        have x19 := HJ15.out.x3
        go_wp2_with fail
        refine HC.out.mono ?_
        rintro e w4 ⟨xq, yq, cq, rfl, hW, hb⟩
        have hWn : cq = 0 ∧ ∃ c1, P.windowE p L S xq yq = (c1, 0) := by
          rcases hW with ⟨h1, h2, -⟩ | ⟨-, h2, -⟩ | ⟨-, h1, h2, h3, h4, h5⟩
          · exact absurd (h1.trans HZ.out) h2
          · exact absurd h2 HNF.out
          · exact ⟨h1, _, windowE_ok HZ.out ⟨h2, h3, h4⟩ (by omega)⟩
        obtain ⟨rfl, vc, hvc⟩ := hWn
        have HVc := Lib.hid hvc
        clear hvc hW
        have HJ20 := Lib.hid (HJ15.out.on hb)
        have HB21 := Lib.hid (HB16.out.trans (hb.mono HB16.out.size))
        clear x17 x18 x19
        clear hb HC
        have hC := refCheckJob_any a cap p L S w4 hl HJ20.out.st
        rw [HZ.out] at hC
        have HC := Lib.hid hC
        clear hC
        have x22 := HJ20.out.x1
        have x23 := HJ20.out.x2
        have x24 := HJ20.out.x3
        go_wp2_with fail
        refine HC.out.mono ?_
        rintro e w5 ⟨rfl, hb⟩
        have HJ25 := Lib.hid (HJ20.out.on hb)
        have HB26 := Lib.hid (HB21.out.trans (hb.mono HB21.out.size))
        clear x22 x23 x24
        clear hb HC
        have x27 := HJ25.out.x1
        have x28 := HJ25.out.x2
        have x29 := HJ25.out.x3
        go_wp2_with fail
        refine (HHas.out _ HJ25.out.st).mono ?_
        rintro e w6 ⟨rfl, hb⟩
        have HJ30 := Lib.hid (HJ25.out.on hb)
        have HB31 := Lib.hid (HB26.out.trans (hb.mono HB26.out.size))
        clear x27 x28 x29
        clear hb
        have hC := refCheckWindow_any a cap p L S xq yq w6 hl HJ30.out.st
        rw [HVc.out] at hC
        have HC := Lib.hid hC
        clear hC
        have x32 := HJ30.out.x1
        have x33 := HJ30.out.x2
        have x34 := HJ30.out.x3
        go_wp2_with fail
        refine HC.out.mono ?_
        rintro e w7 ⟨rfl, hb⟩
        have HJ35 := Lib.hid (HJ30.out.on hb)
        have HB36 := Lib.hid (HB31.out.trans (hb.mono HB31.out.size))
        clear x32 x33 x34
        clear hb HC
        go_wp2_with fail
        refine (works_any _).mono ?_
        rintro e w8 ⟨rfl, hb⟩
        have HJ37 := Lib.hid (HJ35.out.on hb)
        have HB38 := Lib.hid (HB36.out.trans (hb.mono HB36.out.size))
        clear hb
        go_wp2_with fail
        go_ret
        exact ⟨rfl, HB38.out⟩
      · rw [hf] at HHas
        have HFt := Lib.hid (P.fitsB_iff.1 hf)
        clear hf
        go_enter Try.func5, Try.ntmps5
        go_wp2_with fail
        refine (HG.out).mono ?_
        rintro e w1 ⟨rfl, hb⟩
        have HJ39 := Lib.hid (HJ0.out.on hb)
        have HB40 := Lib.hid (HB0.out.trans (hb.mono HB0.out.size))
        clear hb
        have hC := checkWindow_any a cap p L S x y w1 hl HJ39.out.st
        have HC := Lib.hid hC
        clear hC
        have x41 := HJ39.out.x1
        have x42 := HJ39.out.x2
        have x43 := HJ39.out.x3
        go_wp2_with fail
        refine HC.out.mono ?_
        rintro e w2 ⟨rfl, hb⟩
        have HJ44 := Lib.hid (HJ39.out.on hb)
        have HB45 := Lib.hid (HB40.out.trans (hb.mono HB40.out.size))
        clear x41 x42 x43
        clear hb HC
        have hC := refCheckWindow_any a cap p L S x y w2 hl HJ44.out.st
        have HC := Lib.hid hC
        clear hC
        have x46 := HJ44.out.x1
        have x47 := HJ44.out.x2
        have x48 := HJ44.out.x3
        go_wp2_with fail
        refine HC.out.mono ?_
        rintro e w3 ⟨rfl, hb⟩
        have HJ49 := Lib.hid (HJ44.out.on hb)
        have HB50 := Lib.hid (HB45.out.trans (hb.mono HB45.out.size))
        clear x46 x47 x48
        clear hb HC
        have hC := window_any a cap p L S w3 hl HJ49.out.st
        have HC := Lib.hid hC
        clear hC
        have x51 := HJ49.out.x1
        have x52 := HJ49.out.x2
        have x53 := HJ49.out.x3
        go_wp2_with fail
        refine HC.out.mono ?_
        rintro e w4 ⟨xq, yq, cq, rfl, hW, hb⟩
        have hWn : xq = 0 ∧ yq = 0 ∧ cq = 5 := by
          rcases hW with ⟨h1, h2, -⟩ | ⟨-, -, h2⟩ | ⟨-, h1, h2, h3, h4, h5⟩
          · exact absurd (h1.trans HZ.out) h2
          · exact h2
          · exfalso
            have := HFt.out xq yq h2 h3 h4
            omega
        obtain ⟨rfl, rfl, rfl⟩ := hWn
        clear hW
        have HJ54 := Lib.hid (HJ49.out.on hb)
        have HB55 := Lib.hid (HB50.out.trans (hb.mono HB50.out.size))
        clear x51 x52 x53
        clear hb HC
        have hC := refCheckJob_any a cap p L S w4 hl HJ54.out.st
        rw [HZ.out] at hC
        have HC := Lib.hid hC
        clear hC
        have x56 := HJ54.out.x1
        have x57 := HJ54.out.x2
        have x58 := HJ54.out.x3
        go_wp2_with fail
        refine HC.out.mono ?_
        rintro e w5 ⟨rfl, hb⟩
        have HJ59 := Lib.hid (HJ54.out.on hb)
        have HB60 := Lib.hid (HB55.out.trans (hb.mono HB55.out.size))
        clear x56 x57 x58
        clear hb HC
        have x61 := HJ59.out.x1
        have x62 := HJ59.out.x2
        have x63 := HJ59.out.x3
        go_wp2_with fail
        refine (HHas.out _ HJ59.out.st).mono ?_
        rintro e w6 ⟨rfl, hb⟩
        have HJ64 := Lib.hid (HJ59.out.on hb)
        have HB65 := Lib.hid (HB60.out.trans (hb.mono HB60.out.size))
        clear x61 x62 x63
        clear hb
        go_wp2_with fail
        refine (works_any _).mono ?_
        rintro e w7 ⟨rfl, hb⟩
        have HJ66 := Lib.hid (HJ64.out.on hb)
        have HB67 := Lib.hid (HB65.out.trans (hb.mono HB65.out.size))
        clear hb
        go_wp2_with fail
        go_ret
        exact ⟨rfl, HB67.out⟩
    · have HZn := Lib.hid hc
      have hcb := beq_false_of_ne hc
      have hcn := ne_bool hc
      clear hc
      go_enter Try.func5, Try.ntmps5
      go_wp2_with fail
      refine (HG.out).mono ?_
      rintro e w1 ⟨rfl, hb⟩
      have HJ68 := Lib.hid (HJ0.out.on hb)
      have HB69 := Lib.hid (HB0.out.trans (hb.mono HB0.out.size))
      clear hb
      have hC := checkWindow_any a cap p L S x y w1 hl HJ68.out.st
      have HC := Lib.hid hC
      clear hC
      have x70 := HJ68.out.x1
      have x71 := HJ68.out.x2
      have x72 := HJ68.out.x3
      go_wp2_with fail
      refine HC.out.mono ?_
      rintro e w2 ⟨rfl, hb⟩
      have HJ73 := Lib.hid (HJ68.out.on hb)
      have HB74 := Lib.hid (HB69.out.trans (hb.mono HB69.out.size))
      clear x70 x71 x72
      clear hb HC
      have hC := refCheckWindow_any a cap p L S x y w2 hl HJ73.out.st
      have HC := Lib.hid hC
      clear hC
      have x75 := HJ73.out.x1
      have x76 := HJ73.out.x2
      have x77 := HJ73.out.x3
      go_wp2_with fail
      refine HC.out.mono ?_
      rintro e w3 ⟨rfl, hb⟩
      have HJ78 := Lib.hid (HJ73.out.on hb)
      have HB79 := Lib.hid (HB74.out.trans (hb.mono HB74.out.size))
      clear x75 x76 x77
      clear hb HC
      have hC := window_any a cap p L S w3 hl HJ78.out.st
      have HC := Lib.hid hC
      clear hC
      have x80 := HJ78.out.x1
      have x81 := HJ78.out.x2
      have x82 := HJ78.out.x3
      go_wp2_with fail
      refine HC.out.mono ?_
      rintro e w4 ⟨xq, yq, cq, rfl, hW, hb⟩
      have hWn : xq = 0 ∧ yq = 0 ∧ cq = P.checkJob p L S := by
        rcases hW with ⟨h1, h2, h3, h4⟩ | ⟨h1, -⟩ | ⟨h1, -⟩
        · exact ⟨h3, h4, h1⟩
        · exact absurd h1 HZn.out
        · exact absurd h1 HZn.out
      obtain ⟨rfl, rfl, rfl⟩ := hWn
      clear hW
      have HJ83 := Lib.hid (HJ78.out.on hb)
      have HB84 := Lib.hid (HB79.out.trans (hb.mono HB79.out.size))
      clear x80 x81 x82
      clear hb HC
      have hC := refCheckJob_any a cap p L S w4 hl HJ83.out.st
      have HC := Lib.hid hC
      clear hC
      have x85 := HJ83.out.x1
      have x86 := HJ83.out.x2
      have x87 := HJ83.out.x3
      go_wp2_with fail
      refine HC.out.mono ?_
      rintro e w5 ⟨rfl, hb⟩
      have HJ88 := Lib.hid (HJ83.out.on hb)
      have HB89 := Lib.hid (HB84.out.trans (hb.mono HB84.out.size))
      clear x85 x86 x87
      clear hb HC
      generalize P.checkJob p L S = C at *
      go_wp2_with fail
      refine (works_any _).mono ?_
      rintro e w6 ⟨rfl, hb⟩
      have HJ90 := Lib.hid (HJ88.out.on hb)
      have HB91 := Lib.hid (HB89.out.trans (hb.mono HB89.out.size))
      clear hb
      go_wp2_with fail
      go_ret
      exact ⟨rfl, HB91.out⟩
end Go.Proofs.Ytpkffjcmoghaaaa
/- Walk of PunchJobs. -/
namespace Go.Proofs.Ytpkffjcmoghaaaa
open Go.RowKit Go.Lib Go.Sort
set_option maxRecDepth 20000 in
set_option maxHeartbeats 4000000 in
theorem jobs_walk (a : Option Addr) (cap : Nat) (p L : Int) (S : List P.Star) (b : Option Addr) (cap2 : Nat) (l : List Int) (w : World) (ha : Stars w a S) (hbl : Ints .i64 w b l) :
    Calls Try.prog 3 #[jobV p L a S.length cap, .slice b l.length cap2] w fun e w' => e = .returned (.bool true) ∧ Below w.heap.size w w' := by
  have HI0 := Lib.hid (hbl.alloc (.cells #[.int .i64 p, .int .i64 L, .slice a S.length cap] 24))
  have HG := great_any a cap S.length p L (w.alloc (.cells #[.int .i64 p, .int .i64 L, .slice a S.length cap] 24))
  have HJ0 := Lib.hid (Job.new ha p L cap 24)
  have HB0 := Lib.hid (Below.new w (.cells #[.int .i64 p, .int .i64 L, .slice a S.length cap] 24))
  clear ha hbl
  by_cases h24 : 24 < S.length
  · rw [decide_eq_true h24] at HG
    have HG := Lib.hid HG
    clear h24
    go_enter Try.func3, Try.ntmps3
    go_wp2_with fail
    refine (HG.out).mono ?_
    rintro e w1 ⟨rfl, hb⟩
    have HJ1 := Lib.hid (HJ0.out.on hb)
    have HB2 := Lib.hid (HB0.out.trans (hb.mono HB0.out.size))
    have HI3 := Lib.hid (HI0.out.below hb)
    clear hb
    go_wp2_with fail
    refine (works_any _).mono ?_
    rintro e w2 ⟨rfl, hb⟩
    have HJ4 := Lib.hid (HJ1.out.on hb)
    have HB5 := Lib.hid (HB2.out.trans (hb.mono HB2.out.size))
    have HI6 := Lib.hid (HI3.out.below hb)
    clear hb
    go_wp2_with fail
    go_ret
    exact ⟨rfl, HB5.out⟩
  · rw [decide_eq_false h24] at HG
    have HG := Lib.hid HG
    have hl : S.length ≤ 1000000 := by omega
    clear h24
    by_cases h30 : 30 < l.length
    · have h30I : (30 : Int) < (l.length : Int) := by omega
      clear h30
      go_enter Try.func3, Try.ntmps3
      go_wp2_with fail
      refine (HG.out).mono ?_
      rintro e w1 ⟨rfl, hb⟩
      have HJ7 := Lib.hid (HJ0.out.on hb)
      have HB8 := Lib.hid (HB0.out.trans (hb.mono HB0.out.size))
      have HI9 := Lib.hid (HI0.out.below hb)
      clear hb
      go_wp2_with fail
      refine (works_any _).mono ?_
      rintro e w2 ⟨rfl, hb⟩
      have HJ10 := Lib.hid (HJ7.out.on hb)
      have HB11 := Lib.hid (HB8.out.trans (hb.mono HB8.out.size))
      have HI12 := Lib.hid (HI9.out.below hb)
      clear hb
      go_wp2_with fail
      go_ret
      exact ⟨rfl, HB11.out⟩
    · have h30I : ¬ (30 : Int) < (l.length : Int) := by omega
      have hl2 : l.length ≤ 1000000 := by omega
      clear h30
      go_enter Try.func3, Try.ntmps3
      go_wp2_with fail
      refine (HG.out).mono ?_
      rintro e w1 ⟨rfl, hb⟩
      have HJ13 := Lib.hid (HJ0.out.on hb)
      have HB14 := Lib.hid (HB0.out.trans (hb.mono HB0.out.size))
      have HI15 := Lib.hid (HI0.out.below hb)
      clear hb
      have r0 := cell_regrown HJ13.out.x1
      have r1 := cell_regrown HJ13.out.x2
      have r2 := cell_regrown HJ13.out.x3
      have cA : ∀ dd os, Calls Try.prog 19 #[jobV p L a S.length cap] (Go.Sort.grow (redrawn w1 dd) os) fun e w'' => e = .returned (.int .i64 (P.checkJob p L S)) ∧ ∃ p : Regrown, w'' = Go.Sort.grow (redrawn w1 p.d) p.os := fun dd os =>
        Calls.regrown_of (checkJob_any a cap p L S _ hl (HJ13.out.st.below (below_regrown w1 dd os)))
      have cB : ∀ dd os, Calls Try.prog 20 #[jobV p L a S.length cap] (Go.Sort.grow (redrawn w1 dd) os) fun e w'' => e = .returned (.int .i64 (P.checkJob p L S)) ∧ ∃ p : Regrown, w'' = Go.Sort.grow (redrawn w1 p.d) p.os := fun dd os =>
        Calls.regrown_of (refCheckJob_any a cap p L S _ hl (HJ13.out.st.below (below_regrown w1 dd os)))
      have cC : ∀ dd os, Calls Try.prog 21 #[jobV p L a S.length cap, .slice b l.length cap2] (Go.Sort.grow (redrawn w1 dd) os) fun e w'' => e = .returned (.int .i64 (P.checkPlan p L S l)) ∧ ∃ p : Regrown, w'' = Go.Sort.grow (redrawn w1 p.d) p.os := fun dd os =>
        Calls.regrown_of (checkPlan_any a cap p L S b cap2 l _ hl hl2 (HJ13.out.st.below (below_regrown w1 dd os)) (HI15.out.below (below_regrown w1 dd os)))
      have cD : ∀ dd os, Calls Try.prog 22 #[jobV p L a S.length cap, .slice b l.length cap2] (Go.Sort.grow (redrawn w1 dd) os) fun e w'' => e = .returned (.int .i64 (P.checkPlan p L S l)) ∧ ∃ p : Regrown, w'' = Go.Sort.grow (redrawn w1 p.d) p.os := fun dd os =>
        Calls.regrown_of (refCheckPlan_any a cap p L S b cap2 l _ hl hl2 (HJ13.out.st.below (below_regrown w1 dd os)) (HI15.out.below (below_regrown w1 dd os)))
      have cE : ∀ dd os, Calls Try.prog 18 #[] (Go.Sort.grow (redrawn w1 dd) os) fun e w'' => e = .returned (.bool true) ∧ ∃ p : Regrown, w'' = Go.Sort.grow (redrawn w1 p.d) p.os := fun dd os =>
        Calls.regrown_of (works_any _)
      go_wp2_with fail
      refine wp_region_quiet_below (by kernel_rfl) (by kernel_rfl) ?_
      repeat (quiet_step (first | exact cA _ _ | exact cB _ _ | exact cC _ _ | exact cD _ _ | exact cE _ _))
      refine wpQuiet_nil ?_
      intro _ hw'
      obtain ⟨⟨dq, osq⟩, hw''⟩ := hw'
      subst hw''
      have HBq := Lib.hid (below_regrown w1 dq osq)
      clear r0 r1 r2 cA cB cC cD cE
      go_wp2_with fail
      go_ret
      exact ⟨rfl, HB14.out.trans (HBq.out.mono HB14.out.size)⟩
end Go.Proofs.Ytpkffjcmoghaaaa
