/- Walk of the statement CometLeast. -/
import Derived.Test.YtkcgkfhfogdihaaMathK
namespace Go.Proofs.Ytkcgkfhfogdihaa
open Go.RowKit
theorem mostE_zero {deg : Int} {l : List (Int × Int)} (hv : R.Valid deg l) (h : R.most deg l = 0) : R.mostE deg l = (0, 23) := by
  unfold R.mostE; rw [if_neg (not_not_intro hv.zero), if_pos h]
theorem mostE_pos {deg : Int} {l : List (Int × Int)} (hv : R.Valid deg l) (h : R.most deg l ≠ 0) : R.mostE deg l = ((R.most deg l : Int), 0) := by
  unfold R.mostE; rw [if_neg (not_not_intro hv.zero), if_neg h]
set_option maxRecDepth 100000 in
set_option maxHeartbeats 8000000 in
theorem least_walk (a : Option Addr) (cap : Nat) (deg : Int) (l : List (Int × Int)) (w : World) (_hcap : l.length ≤ cap) (ha : Sigs w a l) :
    Calls Try.prog 13 #[.agg #[.int .i64 deg, .slice a l.length cap]] w fun e w' => e = .returned (.bool true) ∧ Below w.heap.size w w' := by
  have hb0 := Below.new w (.cells #[.int .i64 deg, .slice a l.length cap] 33)
  have HL := Lib.hid (Logged.new ha deg cap 33)
  have HB := Lib.hid hb0
  have HF := fine_any a cap deg l (w.alloc (.cells #[.int .i64 deg, .slice a l.length cap] 33)) (ha.below hb0)
  clear ha hb0
  by_cases hc : R.checkLog deg l = 0
  · have hv := R.checkLog_zero hc
    rw [decide_eq_true hc] at HF
    have HF := Lib.hid HF
    have HV := Lib.hid hv
    have h12 := hv.len
    have hl2 : l.length ≤ 1000000 := by omega
    clear hv hc
    go_enter Try.func13, Try.ntmps13
    go_wp2_with fail
    refine HF.out.mono ?_
    rintro e w1 ⟨rfl, hb1⟩
    have HB1 := Lib.hid (HB.out.trans (hb1.mono HB.out.size))
    have HL1 := Lib.hid (HL.out.on hb1)
    clear hb1
    have x1 := HL1.out.x1
    have x2 := HL1.out.x2
    have HLe := cLeast_any a cap deg l w1 hl2 HL1.out.sig
    by_cases hz : l.length = 0
    · have hzI : ((l.length : Int) == 0) = true := by rw [hz]; rfl
      rw [least_nil HV.out hz] at HLe
      have HLe := Lib.hid HLe
      clear hz
      go_wp2_with fail
      refine HLe.out.mono ?_
      rintro e w2 ⟨rfl, hb2⟩
      have HB2 := Lib.hid (HB1.out.trans (hb2.mono HB1.out.size))
      clear hb2
      go_wp2_with fail
      refine (works_any w2).mono ?_
      rintro e w3 ⟨rfl, hb3⟩
      go_wp2_with fail
      go_ret
      exact ⟨rfl, HB2.out.trans (hb3.mono HB2.out.size)⟩
    · have hzI : ((l.length : Int) == 0) = false := by simp; intro e; exact hz (by rw [e]; rfl)
      have hpos : 0 < l.length := by omega
      clear hz
      rcases C.least_spec HV.out hpos with ⟨hE, hno⟩ | ⟨d0, hd0, hdn, hE, hd0m, hmin⟩
      · rw [hE] at HLe
        have HLe := Lib.hid HLe
        clear hE
        go_wp2_with fail
        refine HLe.out.mono ?_
        rintro e w2 ⟨rfl, hb2⟩
        have HB2 := Lib.hid (HB1.out.trans (hb2.mono HB1.out.size))
        have HL2 := Lib.hid (HL1.out.on hb2)
        clear hb2 x1 x2
        go_wp2_with fail
        go_loopw [6] (fun i wi => ∃ k : Nat, k ≤ 4 ∧ i = .int .i64 (k : Int) ∧ Hid (Logged wi w.heap.size deg a cap l) ∧ Hid (Below w.heap.size w wi)) (fun i _ => 4 - (intOf i).toNat)
        case atStart => exact ⟨0, by omega, rfl, HL2, HB2⟩
        case round =>
          obtain ⟨k, hk, rfl, HLk, HBk⟩ := hrel
          by_cases hlt : k ≤ 3
          · have hltI : (k : Int) ≤ 3 := by omega
            have k1 : IntKind.i64.wrap ((k : Int) + 1) = (k : Int) + 1 := IntWalk.i64_in _ (by omega)
            have x2 := HLk.out.x2
            have HVk := Lib.hid (C.valid_deg HV.out k hlt)
            have hbn := Below.new wr (.cells #[.int .i64 (k : Int), .slice a l.length cap] 33)
            have HX := Lib.hid (Logged.new HLk.out.sig (k : Int) cap 33)
            have HMo := cMost_any a cap (k : Int) l (wr.alloc (.cells #[.int .i64 (k : Int), .slice a l.length cap] 33)) hl2 HX.out.sig
            have HBn := Lib.hid (HBk.out.trans (hbn.mono HBk.out.size))
            have HLn := Lib.hid (HLk.out.on hbn)
            have hmle := C.most_le HVk.out
            have hmbd := C.most_bd HVk.out
            clear hbn
            have hnk := hno k hlt
            by_cases hm0 : R.most (k : Int) l = 0
            · rw [mostE_zero HVk.out hm0] at HMo
              clear hm0 hmle hmbd
              have HMo := Lib.hid HMo
              go_wp2_with fail
              refine HMo.out.mono ?_
              rintro e w3 ⟨rfl, hb3⟩
              have HB3 := Lib.hid (HBn.out.trans (hb3.mono HBn.out.size))
              have HL3 := Lib.hid (HLn.out.on hb3)
              have HX3 := Lib.hid (HX.out.on hb3)
              clear hb3
              clear x2
              go_wp2_with fail
              go_roundw
              case rel => exact ⟨k + 1, by omega, by go_num, HL3, HB3⟩
              case measure => simp [intOf]; omega
            · rw [mostE_pos HVk.out hm0] at HMo
              have hmb := hmbd hm0
              generalize R.most (k : Int) l = m at *
              have q1 : (k : Int) + 1 ≤ (m : Int) := by omega
              have q2 : (m : Int) ≤ (l.length : Int) := by omega
              have q3 : ((m : Int) == (l.length : Int)) = false := by rw [beq_eq_false_iff_ne]; omega
              clear hm0 hmle hmbd hmb hnk
              have HMo := Lib.hid HMo
              go_wp2_with fail
              refine HMo.out.mono ?_
              rintro e w3 ⟨rfl, hb3⟩
              have HB3 := Lib.hid (HBn.out.trans (hb3.mono HBn.out.size))
              have HL3 := Lib.hid (HLn.out.on hb3)
              have HX3 := Lib.hid (HX.out.on hb3)
              clear hb3
              clear x2
              go_wp2_with fail
              go_roundw
              case rel => exact ⟨k + 1, by omega, by go_num, HL3, HB3⟩
              case measure => simp [intOf]; omega
          · have hltI : (3 : Int) < (k : Int) := by omega
            go_wp2_with fail
            refine (works_any wr).mono ?_
            rintro e w3 ⟨rfl, hb3⟩
            go_wp2_with fail
            go_ret
            exact ⟨rfl, HBk.out.trans (hb3.mono HBk.out.size)⟩
      · rw [hE] at HLe
        have HLe := Lib.hid HLe
        clear hE
        go_wp2_with fail
        refine HLe.out.mono ?_
        rintro e w2 ⟨rfl, hb2⟩
        have HB2 := Lib.hid (HB1.out.trans (hb2.mono HB1.out.size))
        have HL2 := Lib.hid (HL1.out.on hb2)
        clear hb2 x1 x2
        go_wp2_with fail
        go_loopw [6] (fun i wi => ∃ k : Nat, k ≤ 4 ∧ i = .int .i64 (k : Int) ∧ Hid (Logged wi w.heap.size deg a cap l) ∧ Hid (Below w.heap.size w wi)) (fun i _ => 4 - (intOf i).toNat)
        case atStart => exact ⟨0, by omega, rfl, HL2, HB2⟩
        case round =>
          obtain ⟨k, hk, rfl, HLk, HBk⟩ := hrel
          by_cases hlt : k ≤ 3
          · have hltI : (k : Int) ≤ 3 := by omega
            have k1 : IntKind.i64.wrap ((k : Int) + 1) = (k : Int) + 1 := IntWalk.i64_in _ (by omega)
            have x2 := HLk.out.x2
            have HVk := Lib.hid (C.valid_deg HV.out k hlt)
            have hbn := Below.new wr (.cells #[.int .i64 (k : Int), .slice a l.length cap] 33)
            have HX := Lib.hid (Logged.new HLk.out.sig (k : Int) cap 33)
            have HMo := cMost_any a cap (k : Int) l (wr.alloc (.cells #[.int .i64 (k : Int), .slice a l.length cap] 33)) hl2 HX.out.sig
            have HBn := Lib.hid (HBk.out.trans (hbn.mono HBk.out.size))
            have HLn := Lib.hid (HLk.out.on hbn)
            have hmle := C.most_le HVk.out
            have hmbd := C.most_bd HVk.out
            clear hbn
            rcases Nat.lt_trichotomy k d0 with hkd | hkd | hkd
            · have p1 : (k : Int) < (d0 : Int) := by omega
              have p2 : ((k : Int) == (d0 : Int)) = false := by rw [beq_eq_false_iff_ne]; omega
              have p3 : ((k : Int) != (d0 : Int)) = true := by rw [bne_iff_ne]; omega
              have hnk := hmin k hkd
              by_cases hm0 : R.most (k : Int) l = 0
              · rw [mostE_zero HVk.out hm0] at HMo
                clear hm0 hmle hmbd
                have HMo := Lib.hid HMo
                go_wp2_with fail
                refine HMo.out.mono ?_
                rintro e w3 ⟨rfl, hb3⟩
                have HB3 := Lib.hid (HBn.out.trans (hb3.mono HBn.out.size))
                have HL3 := Lib.hid (HLn.out.on hb3)
                have HX3 := Lib.hid (HX.out.on hb3)
                clear hb3
                clear x2
                go_wp2_with fail
                go_roundw
                case rel => exact ⟨k + 1, by omega, by go_num, HL3, HB3⟩
                case measure => simp [intOf]; omega
              · rw [mostE_pos HVk.out hm0] at HMo
                have hmb := hmbd hm0
                generalize R.most (k : Int) l = m at *
                have q1 : (k : Int) + 1 ≤ (m : Int) := by omega
                have q2 : (m : Int) ≤ (l.length : Int) := by omega
                have q3 : ((m : Int) == (l.length : Int)) = false := by rw [beq_eq_false_iff_ne]; omega
                clear hm0 hmle hmbd hmb hnk
                have HMo := Lib.hid HMo
                go_wp2_with fail
                refine HMo.out.mono ?_
                rintro e w3 ⟨rfl, hb3⟩
                have HB3 := Lib.hid (HBn.out.trans (hb3.mono HBn.out.size))
                have HL3 := Lib.hid (HLn.out.on hb3)
                have HX3 := Lib.hid (HX.out.on hb3)
                clear hb3
                clear x2
                go_wp2_with fail
                go_roundw
                case rel => exact ⟨k + 1, by omega, by go_num, HL3, HB3⟩
                case measure => simp [intOf]; omega
            · have p1 : (d0 : Int) ≤ (k : Int) := by omega
              have p2 : ((k : Int) == (d0 : Int)) = true := by rw [beq_iff_eq]; omega
              have p3 : ((k : Int) != (d0 : Int)) = false := by rw [bne_eq_false_iff_eq]; omega
              have hmk : R.most (k : Int) l = l.length := by rw [hkd]; exact hd0m
              have HOne := Lib.hid (C.count_one HVk.out (by omega) hmk)
              have HPa := Lib.hid (fun p (h : C.BestOne (k : Int) l p) => C.least_path HV.out hlt (by omega) hmk (fun j hj => hmin j (by omega)) h)
              rw [mostE_pos HVk.out (by omega), hmk] at HMo
              have q1 : (k : Int) + 1 ≤ (l.length : Int) := by omega
              have HMe : Hid ((R.mostE (k : Int) l).2 = 0) := Lib.hid (by rw [mostE_pos HVk.out (by omega)])
              clear hmle hmbd hmk hkd
              have HMo := Lib.hid HMo
              go_wp2_with fail
              refine HMo.out.mono ?_
              rintro e w3 ⟨rfl, hb3⟩
              have HB3 := Lib.hid (HBn.out.trans (hb3.mono HBn.out.size))
              have HL3 := Lib.hid (HLn.out.on hb3)
              have HX3 := Lib.hid (HX.out.on hb3)
              clear hb3
              have y1 := HX3.out.x1
              have y2 := HX3.out.x2
              clear x2
              go_wp2_with fail
              have HPt := cPath_any a cap (k : Int) l w3 hl2 HX3.out.sig
              rw [HMe.out] at HPt
              refine HPt.mono ?_
              rintro e w4 ⟨v4, p, rfl, hown4, hbo, hb4⟩
              obtain ⟨-, A4, C4, rfl, hi4, -⟩ := Ints.of_ownsRow hown4
              have hpp := HPa.out p hbo
              have HB4 := Lib.hid (HB3.out.trans (hb4.mono HB3.out.size))
              have HL4 := Lib.hid (HL3.out.on hb4)
              have HX4 := Lib.hid (HX3.out.on hb4)
              have HI4 := Lib.hid hi4
              have HPp := Lib.hid hpp
              clear hown4 hbo hb4 hi4 hpp HPt y1 y2
              have y1 := HX4.out.x1
              have y2 := HX4.out.x2
              have HCo := cCount_any a cap (k : Int) l w4 hl2 HX4.out.sig
              rw [HOne.out] at HCo
              have HCo := Lib.hid HCo
              go_wp2_with fail
              refine HCo.out.mono ?_
              rintro e w5 ⟨rfl, hb5⟩
              have HB3 := Lib.hid (HB4.out.trans (hb5.mono HB4.out.size))
              have HL3 := Lib.hid (HL4.out.on hb5)
              have hi5 := HI4.out.below hb5
              clear hb5 y1 y2
              have hpl : ((p.length : Int) != (k : Int) + 1) = false := by rw [bne_eq_false_iff_eq]; have := HPp.out.1; omega
              by_cases hk0 : k = 0
              · have s1 : decide ((0 : Int) < (k : Int)) = false := by simp; omega
                have s2 : (k : Int) ≤ 0 := by omega
                clear hk0 hi5
                go_wp2_with fail
                go_roundw
                case rel => exact ⟨k + 1, by omega, by go_num, HL3, HB3⟩
                case measure => simp [intOf]; omega
              · have s1 : decide ((0 : Int) < (k : Int)) = true := by simp; omega
                have s2 : (0 : Int) < (k : Int) := by omega
                obtain ⟨b5, o5, rfl, c5⟩ := hi5 k (by have := HPp.out.1; omega)
                have s3 : (nth p k == 0) = false := by rw [beq_eq_false_iff_ne]; exact HPp.out.2 (by omega)
                have s4 : (0 : Int) ≤ (k : Int) := by omega
                have s5 : (k : Int) < (p.length : Int) := by have := HPp.out.1; omega
                clear hk0
                go_wp2_with fail
                go_roundw
                case rel => exact ⟨k + 1, by omega, by go_num, HL3, HB3⟩
                case measure => simp [intOf]; omega
            · have p1 : (d0 : Int) ≤ (k : Int) := by omega
              have p2 : ((k : Int) == (d0 : Int)) = false := by rw [beq_eq_false_iff_ne]; omega
              have p3 : ((k : Int) != (d0 : Int)) = true := by rw [bne_iff_ne]; omega
              by_cases hm0 : R.most (k : Int) l = 0
              · rw [mostE_zero HVk.out hm0] at HMo
                clear hm0 hmle hmbd
                have HMo := Lib.hid HMo
                go_wp2_with fail
                refine HMo.out.mono ?_
                rintro e w3 ⟨rfl, hb3⟩
                have HB3 := Lib.hid (HBn.out.trans (hb3.mono HBn.out.size))
                have HL3 := Lib.hid (HLn.out.on hb3)
                have HX3 := Lib.hid (HX.out.on hb3)
                clear hb3
                clear x2
                go_wp2_with fail
                go_roundw
                case rel => exact ⟨k + 1, by omega, by go_num, HL3, HB3⟩
                case measure => simp [intOf]; omega
              · rw [mostE_pos HVk.out hm0] at HMo
                have hmb := hmbd hm0
                generalize R.most (k : Int) l = m at *
                have q1 : (k : Int) + 1 ≤ (m : Int) := by omega
                have q2 : (m : Int) ≤ (l.length : Int) := by omega
                clear hm0 hmle hmbd hmb
                have HMo := Lib.hid HMo
                go_wp2_with fail
                refine HMo.out.mono ?_
                rintro e w3 ⟨rfl, hb3⟩
                have HB3 := Lib.hid (HBn.out.trans (hb3.mono HBn.out.size))
                have HL3 := Lib.hid (HLn.out.on hb3)
                have HX3 := Lib.hid (HX.out.on hb3)
                clear hb3
                cases q3 : ((m : Int) == (l.length : Int)) with
                | true =>
                  clear x2
                  go_wp2_with fail
                  go_roundw
                  case rel => exact ⟨k + 1, by omega, by go_num, HL3, HB3⟩
                  case measure => simp [intOf]; omega
                | false =>
                  clear x2
                  go_wp2_with fail
                  go_roundw
                  case rel => exact ⟨k + 1, by omega, by go_num, HL3, HB3⟩
                  case measure => simp [intOf]; omega
          · have hltI : (3 : Int) < (k : Int) := by omega
            go_wp2_with fail
            refine (works_any wr).mono ?_
            rintro e w3 ⟨rfl, hb3⟩
            go_wp2_with fail
            go_ret
            exact ⟨rfl, HBk.out.trans (hb3.mono HBk.out.size)⟩
  · rw [decide_eq_false hc] at HF
    have HF := Lib.hid HF
    clear hc
    go_enter Try.func13, Try.ntmps13
    go_wp2_with fail
    refine HF.out.mono ?_
    rintro e w1 ⟨rfl, hb1⟩
    have HB1 := Lib.hid (HB.out.trans (hb1.mono HB.out.size))
    clear hb1
    go_wp2_with fail
    refine (works_any w1).mono ?_
    rintro e w2 ⟨rfl, hb2⟩
    go_wp2_with fail
    go_ret
    exact ⟨rfl, HB1.out.trans (hb2.mono HB1.out.size)⟩
end Go.Proofs.Ytkcgkfhfogdihaa
