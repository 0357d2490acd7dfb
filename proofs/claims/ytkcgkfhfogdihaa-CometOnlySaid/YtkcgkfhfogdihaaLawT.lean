/- Walk of the statement CometOnly. -/
import Derived.Test.YtkcgkfhfogdihaaMathM
import Derived.Test.YtkcgkfhfogdihaaLawP
namespace Go.Proofs.Ytkcgkfhfogdihaa
open Go.RowKit
set_option maxRecDepth 100000 in
set_option maxHeartbeats 8000000 in
theorem only_walk (dg : Int) (b : List Int) (a2 : Option Addr) (c2 : Nat) (days : List Int) (a3 : Option Addr) (c3 : Nat) (wrong : List Int) (w : World) (hu : (Lit.int .u8 dg).wf = true) (hb : Small b) (h2 : Ints .u8 w a2 days) (hdw : ∀ n ∈ days, (Lit.int .u8 n).wf = true) (h3 : Ints .u8 w a3 wrong) (hww : ∀ n ∈ wrong, (Lit.int .u8 n).wf = true) :
    Calls Try.prog 8 #[.int .u8 dg, by8 b, .slice a2 days.length c2, .slice a3 wrong.length c3] w fun e w' => e = .returned (.bool true) ∧ Below w.heap.size w w' := by
  have hb0 := Below.new w (.cells #[.int .i8 (nth b 0), .int .i8 (nth b 1), .int .i8 (nth b 2), .int .i8 (nth b 3)] 47)
  have HBy : Hid (∀ c, c < 4 → (w.alloc (.cells #[.int .i8 (nth b 0), .int .i8 (nth b 1), .int .i8 (nth b 2), .int .i8 (nth b 3)] 47)).cell? ⟨w.heap.size, c, none⟩ = some (.int .i8 (nth b c))) := Lib.hid (fun c hc => by
    obtain rfl | rfl | rfl | rfl : c = 0 ∨ c = 1 ∨ c = 2 ∨ c = 3 := by omega
    all_goals exact cell_top (by simp) rfl)
  have HI2 := Lib.hid (h2.below hb0)
  have HI3 := Lib.hid (h3.below hb0)
  have HB := Lib.hid hb0
  have HDW := Lib.hid hdw
  have HWW := Lib.hid hww
  have hug := u8_bd hu
  have HSb := Lib.hid hb
  have HSz : Hid (w.heap.size < (w.alloc (.cells #[.int .i8 (nth b 0), .int .i8 (nth b 1), .int .i8 (nth b 2), .int .i8 (nth b 3)] 47)).heap.size) := Lib.hid (by simp)
  clear hb0 hu hb h2 h3 hdw hww
  unfold by8
  by_cases h30 : days.length ≤ 30 ∧ wrong.length ≤ 30
  · obtain ⟨hdl, hwl⟩ := h30
    have k0 : IntKind.i64.wrap dg = dg := IntWalk.i64_in _ (by omega)
    obtain ⟨d, hd, hd'⟩ := rem_nat hug.1 4 (by decide)
    have hd' : dg.tmod 4 = (d : Int) := hd'
    have hd3 : d ≤ 3 := by omega
    have q1 : (days.length : Int) ≤ 30 := by omega
    have q2 : (wrong.length : Int) ≤ 30 := by omega
    have k1 : IntKind.i64.wrap (d : Int) = (d : Int) := IntWalk.i64_in _ (by omega)
    have c0 := HBy.out 0 (by omega)
    have c1 := HBy.out 1 (by omega)
    have c2' := HBy.out 2 (by omega)
    have c3' := HBy.out 3 (by omega)
    go_enter Try.func8, Try.ntmps8
    go_wp2_with fail
    generalize (w.alloc (.cells #[.int .i8 (nth b 0), .int .i8 (nth b 1), .int .i8 (nth b 2), .int .i8 (nth b 3)] 47)) = w0 at *
    clear c0 c1 c2' c3'
    have HGv := given_any d b w0 hd3 HSb.out
    unfold by8 at HGv
    have hgl := given_length b (d + 1)
    have hgn := given_num b (d + 1)
    have hgs := given_smallP b (d + 1)
    refine HGv.mono ?_
    rintro e w1 ⟨v1, rfl, hown1, hb1⟩
    obtain ⟨-, AP, CP, rfl, hiP, -⟩ := Ints.of_ownsRow hown1
    generalize given b (d + 1) = p at *
    have HP := Lib.hid hgl
    have HN := Lib.hid hgn
    have HSm := Lib.hid hgs
    have hp4 : p.length ≤ 4 := by omega
    have HB1 := Lib.hid (HB.out.trans (hb1.mono HB.out.size))
    have HSe := seen_any d AP CP p a2 c2 days a3 c3 wrong w1 hd3 hgl hgs hgn hdl hwl HDW.out HWW.out hiP (HI2.out.below hb1) (HI3.out.below hb1)
    have HSe := Lib.hid HSe
    have IP1 := Lib.hid hiP
    clear hown1 HGv hgl hgn hgs HBy hb1 HI2 HI3 HDW HWW hiP
    go_wp2_with fail
    refine HSe.out.mono ?_
    rintro e w2 ⟨v2, l, c, rfl, hown2, hv, hon, hb2⟩
    obtain ⟨-, a, cap, rfl, hsig, -⟩ := Sigs.of_ownsRow hown2
    have HV := Lib.hid hv
    have HOn := Lib.hid hon
    have h12 := hv.len
    have hl2 : l.length ≤ 1000000 := by omega
    have hcl : c ≤ l.length := by omega
    have HB2 := Lib.hid (HB1.out.trans (hb2.mono HB1.out.size))
    have IP2 := Lib.hid (IP1.out.below hb2)
    have HL3 := Lib.hid (Logged.new hsig (d : Int) cap 33)
    have hbn := Below.new w2 (.cells #[.int .i64 (d : Int), .slice a l.length cap] 33)
    have HB3 := Lib.hid (HB2.out.trans (hbn.mono HB2.out.size))
    have IP3 := Lib.hid (IP2.out.below hbn)
    have HSe2 := HSe
    clear hv hon hown2 hb2 hsig hbn HSe HSe2 IP1 IP2
    have x1 := HL3.out.x1
    have x2 := HL3.out.x2
    have k2 : IntKind.i64.wrap ((d : Int) + 1) = (d : Int) + 1 := IntWalk.i64_in _ (by omega)
    have k3 : IntKind.i64.wrap (2 * (c : Int)) = 2 * (c : Int) := IntWalk.i64_in _ (by omega)
    have k4 : IntKind.i64.wrap ((d : Int) + 1 + 2 * (c : Int)) = (d : Int) + 1 + 2 * (c : Int) := IntWalk.i64_in _ (by omega)
    by_cases h5 : c ≤ 5
    · have q3 : (c : Int) ≤ 5 := by omega
      by_cases hn : d + 1 + 2 * c ≤ l.length
      · have q4 : (d : Int) + 1 + 2 * (c : Int) ≤ (l.length : Int) := by omega
        have HOP := Lib.hid (C.onlyP HV.out HP.out h5 hn HOn.out)
        go_wp2_with fail
        generalize (w2.alloc (.cells #[.int .i64 (d : Int), .slice a l.length cap] 33)) = w3 at *
        rw [show decide ((30 : Int) < (days.length : Int)) = false from decide_eq_false (by omega), show decide ((30 : Int) < (wrong.length : Int)) = false from decide_eq_false (by omega), Bool.or_false]
        clear q1 q2 q3 q4 k2 k3 k4 x1 x2 hdl hwl k0 hug hd'
        have x1 := HL3.out.x1
        have x2 := HL3.out.x2
        have HC3 := cOnly_any a cap d l c w3 hl2 HL3.out.sig
        rw [HOP.out.only] at HC3
        simp only at HC3
        have HC3 := Lib.hid HC3
        refine HC3.out.mono ?_
        rintro e w4 ⟨v4, rfl, hown4, hb⟩
        obtain ⟨-, A4, C4, rfl, hi4, -⟩ := Ints.of_ownsRow hown4
        have HB4 := Lib.hid (HB3.out.trans (hb.mono HB3.out.size))
        have HL4 := Lib.hid (HL3.out.on hb)
        have IP4 := Lib.hid (IP3.out.below hb)
        have IO4 := Lib.hid hi4
        rw [HP.out]
        clear hb x1 x2 hown4 hi4 HC3
        have x1 := HL4.out.x1
        have x2 := HL4.out.x2
        have HC4 := cPath_any a cap d l w4 hl2 HL4.out.sig
        rw [HOP.out.most] at HC4
        simp only at HC4
        have HC4' := Lib.hid HC4
        clear HC4
        go_wp2_with fail
        refine HC4'.out.mono ?_
        rintro e w5 ⟨v5, q, rfl, hown5, hbest, hb⟩
        have eq0 := (HOP.out.path q hbest).symm
        subst eq0
        obtain ⟨-, A5, C5, rfl, hi5, -⟩ := Ints.of_ownsRow hown5
        have HB5 := Lib.hid (HB4.out.trans (hb.mono HB4.out.size))
        have HL5 := Lib.hid (HL4.out.on hb)
        have IP5 := Lib.hid (IP4.out.below hb)
        have IO5 := Lib.hid (IO4.out.below hb)
        have IQ5 := Lib.hid hi5
        rw [HP.out]
        clear hb x1 x2 hown5 hi5 hbest HC4'
        have x1 := HL5.out.x1
        have x2 := HL5.out.x2
        have HC5 := cCount_any a cap d l w5 hl2 HL5.out.sig
        rw [HOP.out.count] at HC5
        simp only at HC5
        have HC5' := Lib.hid HC5
        clear HC5
        go_wp2_with fail
        refine HC5'.out.mono ?_
        rintro e w6 ⟨rfl, hb⟩
        have HB6 := Lib.hid (HB5.out.trans (hb.mono HB5.out.size))
        have HL6 := Lib.hid (HL5.out.on hb)
        have IP6 := Lib.hid (IP5.out.below hb)
        have IO6 := Lib.hid (IO5.out.below hb)
        have IQ6 := Lib.hid (IQ5.out.below hb)
        clear hb x1 x2 HC5'
        have x1 := HL6.out.x1
        have x2 := HL6.out.x2
        have HC6 := cMost_any a cap d l w6 hl2 HL6.out.sig
        rw [HOP.out.most] at HC6
        simp only at HC6
        have HC6' := Lib.hid HC6
        clear HC6
        go_wp2_with fail
        refine HC6'.out.mono ?_
        rintro e w7 ⟨rfl, hb⟩
        have HB7 := Lib.hid (HB6.out.trans (hb.mono HB6.out.size))
        have HL7 := Lib.hid (HL6.out.on hb)
        have IP7 := Lib.hid (IP6.out.below hb)
        have IO7 := Lib.hid (IO6.out.below hb)
        have IQ7 := Lib.hid (IQ6.out.below hb)
        clear hb x1 x2 HC6'
        have x1 := HL7.out.x1
        have x2 := HL7.out.x2
        have HC7 := Lib.hid (longs_same A4 C4 (d + 1) p AP CP w7 HP.out (by omega) IO7.out IP7.out)
        go_wp2_with fail
        refine HC7.out.mono ?_
        rintro e w8 ⟨rfl, hb⟩
        have HB8 := Lib.hid (HB7.out.trans (hb.mono HB7.out.size))
        have HL8 := Lib.hid (HL7.out.on hb)
        have IP8 := Lib.hid (IP7.out.below hb)
        have IQ8 := Lib.hid (IQ7.out.below hb)
        clear hb x1 x2 HC7 IO4 IO5 IO6 IO7
        have x1 := HL8.out.x1
        have x2 := HL8.out.x2
        have k5 : IntKind.i64.wrap ((l.length : Int) - (c : Int)) = (l.length : Int) - (c : Int) := IntWalk.i64_in _ (by omega)
        have HC8 := Lib.hid (longs_same A5 C5 (d + 1) p AP CP w8 HP.out (by omega) IQ8.out IP8.out)
        go_wp2_with fail
        refine HC8.out.mono ?_
        rintro e w9 ⟨rfl, hb⟩
        have HB9 := Lib.hid (HB8.out.trans (hb.mono HB8.out.size))
        have HL9 := Lib.hid (HL8.out.on hb)
        have IP9 := Lib.hid (IP8.out.below hb)
        clear hb x1 x2 HC8 IQ5 IQ6 IQ7 IQ8 k5
        clear HL3 HL4 HL5 HL6 HL7 HL8 HB3 HB4 HB5 HB6 HB7 HB8 IP3 IP4 IP5 IP6 IP7 IP8
        have HI9 : Hid (Below w.heap.size w w9 ∧ Logged w9 w2.heap.size d a cap l ∧ Ints .i64 w9 AP p) := Lib.hid ⟨HB9.out, HL9.out, IP9.out⟩
        clear HB9 HL9 IP9
        go_wp2_with fail
        go_loopw [21] (fun i wi => ∃ (j : Nat), j ≤ l.length ∧ i = .int .i64 (j : Int) ∧ Hid (Below w.heap.size w wi ∧ Logged wi w2.heap.size d a cap l ∧ Ints .i64 wi AP p)) (fun i _ => l.length - (intOf i).toNat)
        case atStart => exact ⟨0, by omega, rfl, HI9⟩
        case round =>
          obtain ⟨j, hj, rfl, hrel⟩ := hrel
          have HBr := Lib.hid hrel.out.1
          have HLr := Lib.hid hrel.out.2.1
          have IPr := Lib.hid hrel.out.2.2
          clear hrel
          have x1 := HLr.out.x1
          have x2 := HLr.out.x2
          by_cases hlt : j < l.length
          · have q5 : (j : Int) < (l.length : Int) := by omega
            have q6 : (0 : Int) ≤ (j : Int) := by omega
            have k6 : IntKind.i64.wrap ((j : Int) + 1) = (j : Int) + 1 := IntWalk.i64_in _ (by omega)
            have HCk := cKind_any a cap d l (j : Int) wr hl2 HLr.out.sig
            rw [HOP.out.kind j hlt] at HCk
            simp only at HCk
            obtain ⟨kv, hkv⟩ : ∃ kv : Int, kv = if R.atD p (dayN l j) = plcN l j then 0 else 2 := ⟨_, rfl⟩
            rw [← hkv] at HCk
            have HKv := Lib.hid hkv
            clear hkv
            have HCk' := Lib.hid HCk
            clear HCk
            go_wp2_with fail
            refine HCk'.out.mono ?_
            rintro e w10 ⟨rfl, hb⟩
            have HB10 := Lib.hid (HBr.out.trans (hb.mono HBr.out.size))
            have HL10 := Lib.hid (HLr.out.on hb)
            have IP10 := Lib.hid (IPr.out.below hb)
            clear hb x1 x2 HCk'
            have x1 := HL10.out.x1
            have x2 := HL10.out.x2
            have hfit := HV.out.fit j hlt
            unfold R.FitS at hfit
            obtain ⟨f1, f2, f3, f4⟩ := hfit
            have hsig := HL10.out.sig
            obtain ⟨ba, offa, rfl, hdd, hpp⟩ := hsig j hlt
            have hdd0 := cell_regrown hdd
            have hpp0 := cell_regrown hpp
            have r2 := cell_regrown HL10.out.x2
            have cA : ∀ dd os, Calls Try.prog 45 #[.slice AP (d + 1) CP, .int .i64 (dayN l j)] (Go.Sort.grow (redrawn w10 dd) os) fun e w'' => e = .returned (.int .i64 (R.atD p (dayN l j))) ∧ ∃ p : Regrown, w'' = Go.Sort.grow (redrawn w10 p.d) p.os := fun dd os =>
              Calls.regrown_of (by have := atOf_any AP CP p (dayN l j) (Go.Sort.grow (redrawn w10 dd) os) (by rw [HP.out]; omega) f1 (by omega) HN.out (IP10.out.below (below_regrown w10 dd os)); rw [HP.out] at this; exact this.mono fun e w' ⟨h1, h2⟩ => ⟨h1, h2.below _⟩)
            have HK1 := Lib.hid (And.intro f1 (And.intro f2 (And.intro f3 f4)))
            generalize hat : R.atD p (dayN l j) = at0 at *
            generalize hpl0 : plcN l j = pl0 at *
            generalize dayN l j = dd0 at *
            clear hat hpl0 f1 f2 f3 f4 hdd hpp
            go_wp2_with fail
            refine wp_region_quiet_below (by kernel_rfl) (by kernel_rfl) ?_
            repeat (quiet_step (fail))
            quiet_step (exact cA _ _)
            repeat (quiet_step (fail))
            refine wpQuiet_nil ?_
            intro w11 hw'
            have hb : Below w10.heap.size w10 w11 := by obtain ⟨⟨dq, osq⟩, hw''⟩ := hw'; rw [hw'']; exact below_regrown w10 dq osq
            clear hw' r2 cA hdd0 hpp0
            have HB11 := Lib.hid (HB10.out.trans (hb.mono HB10.out.size))
            have HL11 := Lib.hid (HL10.out.on hb)
            have IP11 := Lib.hid (IP10.out.below hb)
            clear hb x1 x2 hsig
            by_cases hz : at0 = pl0
            · have hk0 : kv = 0 := by rw [HKv.out, if_pos hz]
              subst hk0
              subst hz
              clear HKv
              go_wp2_with fail
              go_roundw
              case rel => exact ⟨j + 1, by omega, by go_num, Lib.hid ⟨HB11.out, HL11.out, IP11.out⟩⟩
              case measure => simp [intOf]; omega
            · have hk0 : kv = 2 := by rw [HKv.out, if_neg hz]
              subst hk0
              clear HKv
              go_wp2_with fail
              go_roundw
              case rel => exact ⟨j + 1, by omega, by go_num, Lib.hid ⟨HB11.out, HL11.out, IP11.out⟩⟩
              case measure => simp [intOf]; omega
          · have q5 : (l.length : Int) ≤ (j : Int) := by omega
            go_wp2_with fail
            refine (works_any _).mono ?_
            rintro e w10 ⟨rfl, hb⟩
            go_wp2_with fail
            go_ret
            exact ⟨rfl, HBr.out.trans (hb.mono HBr.out.size)⟩
      · have q4 : (l.length : Int) < (d : Int) + 1 + 2 * (c : Int) := by omega
        go_wp2_with fail
        refine (works_any _).mono ?_
        rintro e w9 ⟨rfl, hb⟩
        go_wp2_with fail
        go_ret
        exact ⟨rfl, HB3.out.trans (hb.mono HB3.out.size)⟩
    · have q3 : (5 : Int) < (c : Int) := by omega
      go_wp2_with fail
      refine (works_any _).mono ?_
      rintro e w9 ⟨rfl, hb⟩
      go_wp2_with fail
      go_ret
      exact ⟨rfl, HB3.out.trans (hb.mono HB3.out.size)⟩
  · have hsplit : (30 : Int) < (days.length : Int) ∨ ((days.length : Int) ≤ 30 ∧ (30 : Int) < (wrong.length : Int)) := by omega
    clear h30
    go_enter Try.func8, Try.ntmps8
    rcases hsplit with q | ⟨q, q'⟩
    all_goals
      go_wp2_with fail
      refine (works_any _).mono ?_
      rintro e w9 ⟨rfl, hb⟩
      go_wp2_with fail
      go_ret
      exact ⟨rfl, HB.out.trans (hb.mono HB.out.size)⟩
end Go.Proofs.Ytkcgkfhfogdihaa
