/- Walk of PunchFewest. -/
import Derived.Test.YtpkffjcmoghaaaaJ16
namespace Go.Proofs.Ytpkffjcmoghaaaa
open Go.RowKit Go.Lib Go.Sort
theorem planned_few {p L : Int} {S : List P.Star} (hv : P.Valid p L S) {q : Nat} (h1 : 1 ≤ q) (h5 : q ≤ 5) : P.checkJob q L S = 0 := P.checkJob_iff.2 ⟨by omega, by omega, hv.l1, hv.l20, hv.len, hv.ok, hv.wt⟩
theorem row_next {S : List P.Star} {a b : Nat} (h : a ≤ b) (m : Int) : P.mostRow S a (b + 1 - a) m = max (P.mostRow S a (b - a) m) (P.ceilW S a b) := by
  have e : b + 1 - a = (b - a) + 1 := by omega
  rw [e, P.mostRow, show a + (b - a) = b by omega]
theorem ceil_bd {S : List P.Star} {a b : Nat} (h : a ≤ b) (hS : S.length ≤ 16) : 0 ≤ P.ceilW S a b ∧ P.ceilW S a b ≤ 16 := by
  have h1 : P.cnt S a b ≤ S.length := List.countP_le_length
  unfold P.ceilW
  refine ⟨Int.ediv_nonneg (by omega) (by omega), ?_⟩
  rw [P.ceil_le (by omega)]
  have h3 : (16 : Int) * 1 ≤ 16 * ((b : Int) - a + 1) := Int.mul_le_mul_of_nonneg_left (by omega) (by omega)
  omega
set_option maxRecDepth 20000 in
set_option maxHeartbeats 4000000 in
theorem fewest_walk (a : Option Addr) (cap : Nat) (p L : Int) (S : List P.Star) (w : World) (ha : Stars w a S) :
    Calls Try.prog 9 #[jobV p L a S.length cap] w fun e w' => e = .returned (.bool true) ∧ Below w.heap.size w w' := by
  have HJ0 := Lib.hid (Job.new ha p L cap 24)
  have HB0 := Lib.hid (Below.new w (.cells #[.int .i64 p, .int .i64 L, .slice a S.length cap] 24))
  clear ha
  have HF := fine_any a cap p L S (w.alloc (.cells #[.int .i64 p, .int .i64 L, .slice a S.length cap] 24)) HJ0.out.st
  by_cases hc : P.checkJob p L S = 0
  · rw [decide_eq_true hc] at HF
    have HF := Lib.hid HF
    have HZ := Lib.hid hc
    have HV := Lib.hid (P.checkJob_iff.1 hc)
    have hl : S.length ≤ 1000000 := by have := HV.out.len; omega
    clear hc
    have h16 : S.length ≤ 16 := HV.out.len
    have HFe := Lib.hid (fewestE_ok HZ.out)
    have hFn : ¬ ((P.fewest S L : Nat) : Int) < 0 := by omega
    have hFs : ¬ (S.length : Int) < ((P.fewest S L : Nat) : Int) := by have := (P.fewest_spec S L).1; omega
    have hFs2 : ¬ S.length < P.fewest S L := by have := (P.fewest_spec S L).1; omega
    have hFn2 : decide (((P.fewest S L : Nat) : Int) < 0) = false := decide_eq_false hFn
    have hL20 := HV.out.l20
    obtain ⟨N, hN⟩ : ∃ N : Nat, (N : Int) = L := ⟨L.toNat, by have := HV.out.l1; omega⟩
    have HM := Lib.hid (P.fewest_most (S := S) N)
    have HFb : Hid (∀ q : Nat, P.fitsB S q L = decide (P.fewest S L ≤ q)) := Lib.hid (fun q => fitsB_few q)
    have HPc := Lib.hid (fun (q : Nat) (h1 : 1 ≤ q) (h5 : q ≤ 5) => planned_few HV.out h1 h5)
    have HCt := Lib.hid (fun (b : Option Addr) (f t : Int) (W : World) (h : Stars W a S) => count_any a cap S f t W hl h)
    rw [hN] at HM
    generalize P.fewest S L = F at *
    go_enter Try.func9, Try.ntmps9
    go_wp2_with fail
    refine (HF.out).mono ?_
    rintro e w1 ⟨rfl, hb⟩
    have HJ1 := Lib.hid (HJ0.out.on hb)
    have HB2 := Lib.hid (HB0.out.trans (hb.mono HB0.out.size))
    clear hb
    have hx3 := HJ1.out.x3
    have hC := fewest_any a cap p L S w1 hl HJ1.out.st
    rw [HFe.out] at hC
    have HC := Lib.hid hC
    clear hC
    have x3 := HJ1.out.x1
    have x4 := HJ1.out.x2
    have x5 := HJ1.out.x3
    go_wp2_with fail
    refine HC.out.mono ?_
    rintro e w2 ⟨rfl, hb⟩
    have HJ6 := Lib.hid (HJ1.out.on hb)
    have HB7 := Lib.hid (HB2.out.trans (hb.mono HB2.out.size))
    clear x3 x4 x5
    clear hb HC
    clear hx3
    have x8 := HJ6.out.x1
    have x9 := HJ6.out.x2
    have x10 := HJ6.out.x3
    go_wp2_with fail
    clear x8 x9 x10
    go_loopw [5, 6, 7, 8] (fun m i _ _ wr => ∃ a1 : Nat, a1 ≤ N ∧ i = .int .i64 a1 ∧ m = .int .i64 (P.mostTo S N a1) ∧ Hid (Below w2.heap.size w2 wr)) (fun _ i _ _ _ => N - (intOf i).toNat)
    case atStart => exact ⟨0, by omega, rfl, rfl, Lib.hid (Below.refl _ _)⟩
    case round =>
      obtain ⟨a1, ha1, rfl, rfl, hbh⟩ := hrel
      have hb := hbh.out
      obtain ⟨wo, hwo⟩ : ∃ wo : World, wo = wr := ⟨_, rfl⟩
      subst hwo
      have HJ11 := Lib.hid (HJ6.out.on hb)
      have HB12 := Lib.hid (HB7.out.trans (hb.mono HB7.out.size))
      clear hb
      by_cases hlt : a1 < N
      · have hkI : (a1 : Int) < L := by omega
        have x13 := HJ11.out.x1
        have x14 := HJ11.out.x2
        have x15 := HJ11.out.x3
        go_wp2_with fail
        clear x13 x14 x15
        clear hkI
        have HTo : Hid (P.mostTo S N (a1 + 1) = P.mostRow S a1 (N - a1) (P.mostTo S N a1)) := Lib.hid rfl
        generalize hM0 : P.mostTo S N a1 = M0 at *
        clear hM0
        go_loopw [5, 7, 8] (fun m i _ wr => ∃ b1 : Nat, a1 ≤ b1 ∧ b1 ≤ N ∧ i = .int .i64 b1 ∧ m = .int .i64 (P.mostRow S a1 (b1 - a1) M0) ∧ Hid (Below wo.heap.size wo wr)) (fun _ i _ _ => N - (intOf i).toNat)
        case atStart => exact ⟨a1, by omega, by omega, rfl, by rw [Nat.sub_self]; rfl, Lib.hid (Below.refl _ _)⟩
        case round =>
          obtain ⟨b1, hab, hbN, rfl, rfl, hbh2⟩ := hrel
          have hb := hbh2.out
          have HJ16 := Lib.hid (HJ11.out.on hb)
          have HB17 := Lib.hid (HB12.out.trans (hb.mono HB12.out.size))
          clear hb
          by_cases hlt2 : b1 < N
          · have hkI : (b1 : Int) < L := by omega
            have hcb := ceil_bd (S := S) hab h16
            have hce : ((P.cnt S a1 b1 : Int) + ((b1 : Int) - a1 + 1) - 1).tdiv ((b1 : Int) - a1 + 1) = P.ceilW S a1 b1 := Int.tdiv_eq_ediv_of_nonneg (by omega)
            have HNx := Lib.hid (row_next hab M0 (S := S))
            have hcn : (P.cnt S a1 b1 : Int) ≤ 16 := by have : P.cnt S a1 b1 ≤ S.length := List.countP_le_length; omega
            have hc0 : (0 : Int) ≤ (P.cnt S a1 b1 : Int) := by omega
            have HC := Lib.hid (HCt.out none a1 b1 wr HJ16.out.st)
            generalize P.ceilW S a1 b1 = Q at *
            generalize (P.cnt S a1 b1 : Int) = c at *
            generalize P.mostRow S a1 (b1 - a1) M0 = M at *
            have w1 : IntKind.i64.wrap ((b1 : Int) - a1) = (b1 : Int) - a1 := IntWalk.i64_in _ (by omega)
            have w2 : IntKind.i64.wrap ((b1 : Int) - a1 + 1) = (b1 : Int) - a1 + 1 := IntWalk.i64_in _ (by omega)
            have w3 : IntKind.i64.wrap (c + ((b1 : Int) - a1 + 1)) = c + ((b1 : Int) - a1 + 1) := IntWalk.i64_in _ (by omega)
            have w4 : IntKind.i64.wrap (c + ((b1 : Int) - a1 + 1) - 1) = c + ((b1 : Int) - a1 + 1) - 1 := IntWalk.i64_in _ (by omega)
            have w5 : ¬ (b1 : Int) - a1 + 1 = 0 := by omega
            have w6 : IntKind.i64.wrap Q = Q := IntWalk.i64_in _ (by omega)
            have x18 := HJ16.out.x1
            have x19 := HJ16.out.x2
            have x20 := HJ16.out.x3
            go_wp2_with fail
            refine HC.out.mono ?_
            rintro e w9 ⟨rfl, rfl⟩
            go_wp2_with fail
            clear x18 x19 x20
            go_roundw
            case rel => exact ⟨b1 + 1, by omega, by omega, by go_num, by rw [HNx.out], hbh2⟩
            case measure => simp [intOf]; omega
          · have hkI : ¬ (b1 : Int) < L := by omega
            have hbE : b1 = N := by omega
            subst hbE
            have x21 := HJ16.out.x1
            have x22 := HJ16.out.x2
            have x23 := HJ16.out.x3
            go_wp2_with fail
            clear x21 x22 x23
            go_roundw
            case rel => exact ⟨a1 + 1, by omega, by go_num, by rw [HTo.out], Lib.hid (hbh.out.trans (hbh2.out.mono hbh.out.size))⟩
            case measure => simp [intOf]; omega
      · have hkI : ¬ (a1 : Int) < L := by omega
        have hbE : a1 = N := by omega
        subst hbE
        rw [← HM.out]
        clear hlt ha1
        have x24 := HJ11.out.x1
        have x25 := HJ11.out.x2
        have x26 := HJ11.out.x3
        go_wp2_with fail
        clear x24 x25 x26
        go_loopw [9, 10, 11, 12] (fun i _ _ _ wr => ∃ q : Nat, 1 ≤ q ∧ q ≤ 6 ∧ i = .int .i64 q ∧ Hid (Below wo.heap.size wo wr)) (fun i _ _ _ _ => 6 - (intOf i).toNat)
        case atStart => exact ⟨1, by omega, by omega, rfl, Lib.hid (Below.refl _ _)⟩
        case round =>
          obtain ⟨q, hq1, hq6, rfl, hbh2⟩ := hrel
          have hb := hbh2.out
          have HJ27 := Lib.hid (HJ11.out.on hb)
          have HB28 := Lib.hid (HB12.out.trans (hb.mono HB12.out.size))
          clear hb
          have HJR := Lib.hid HJ27.out
          by_cases hlt2 : q ≤ 5
          · have hkq : (q : Int) ≤ 5 := by omega
            have HZq := Lib.hid (HPc.out q hq1 hlt2)
            have hbx := Below.new wr (.cells #[.int .i64 (q : Int), .int .i64 L, .slice a S.length cap] 24)
            have hCx := Job.new HJ27.out.st (q : Int) L cap 24
            have HJ29 := Lib.hid (HJ27.out.on hbx)
            have HB30 := Lib.hid (HB28.out.trans (hbx.mono HB28.out.size))
            have HX := Lib.hid hCx
            have HBq := Lib.hid (hbh2.out.trans (hbx.mono hbh2.out.size))
            clear hCx hbx
            by_cases hqF : F ≤ q
            · have hqI : ((F : Int) ≤ (q : Int)) := by omega
              have Hfb : Hid (P.fitsB S q L = true) := Lib.hid (by rw [HFb.out, decide_eq_true hqF])
              have y1 := HJR.out.x1
              have y2 := HJR.out.x2
              have y3 := HJR.out.x3
              have hC := planned_any a cap (q : Int) L S (wr.alloc (.cells #[.int .i64 (q : Int), .int .i64 L, .slice a S.length cap] 24)) HZq.out HX.out.st
              rw [Hfb.out] at hC
              have HC := Lib.hid hC
              clear hC
              have x31 := HX.out.x1
              have x32 := HX.out.x2
              have x33 := HX.out.x3
              go_wp2_with fail
              refine HC.out.mono ?_
              rintro e w3 ⟨rfl, hb⟩
              have HJ34 := Lib.hid (HJ29.out.on hb)
              have HB35 := Lib.hid (HB30.out.trans (hb.mono HB30.out.size))
              have HX36 := Lib.hid (HX.out.on hb)
              have HBq37 := Lib.hid (HBq.out.trans (hb.mono HBq.out.size))
              clear x31 x32 x33
              clear hb HC y1 y2 y3
              go_wp2_with fail
              go_roundw
              case rel => exact ⟨q + 1, by omega, by omega, by go_num, Lib.hid HBq37.out⟩
              case measure => simp [intOf]; omega
            · have hqI : ¬ ((F : Int) ≤ (q : Int)) := by omega
              have Hfb : Hid (P.fitsB S q L = false) := Lib.hid (by rw [HFb.out, decide_eq_false hqF])
              have y1 := HJR.out.x1
              have y2 := HJR.out.x2
              have y3 := HJR.out.x3
              have hC := planned_any a cap (q : Int) L S (wr.alloc (.cells #[.int .i64 (q : Int), .int .i64 L, .slice a S.length cap] 24)) HZq.out HX.out.st
              rw [Hfb.out] at hC
              have HC := Lib.hid hC
              clear hC
              have x38 := HX.out.x1
              have x39 := HX.out.x2
              have x40 := HX.out.x3
              go_wp2_with fail
              refine HC.out.mono ?_
              rintro e w3 ⟨rfl, hb⟩
              have HJ41 := Lib.hid (HJ29.out.on hb)
              have HB42 := Lib.hid (HB30.out.trans (hb.mono HB30.out.size))
              have HX43 := Lib.hid (HX.out.on hb)
              have HBq44 := Lib.hid (HBq.out.trans (hb.mono HBq.out.size))
              clear x38 x39 x40
              clear hb HC y1 y2 y3
              go_wp2_with fail
              go_roundw
              case rel => exact ⟨q + 1, by omega, by omega, by go_num, Lib.hid HBq44.out⟩
              case measure => simp [intOf]; omega
          · have hkq : ¬ (q : Int) ≤ 5 := by omega
            go_wp2_with fail
            refine (works_any _).mono ?_
            rintro e w3 ⟨rfl, hb⟩
            have HJ45 := Lib.hid (HJ27.out.on hb)
            have HB46 := Lib.hid (HB28.out.trans (hb.mono HB28.out.size))
            clear hb
            go_wp2_with fail
            go_ret
            exact ⟨rfl, HB46.out⟩
  · rw [decide_eq_false hc] at HF
    have HF := Lib.hid HF
    clear hc
    go_enter Try.func9, Try.ntmps9
    go_wp2_with fail
    refine (HF.out).mono ?_
    rintro e w1 ⟨rfl, hb⟩
    have HJ47 := Lib.hid (HJ0.out.on hb)
    have HB48 := Lib.hid (HB0.out.trans (hb.mono HB0.out.size))
    clear hb
    go_wp2_with fail
    refine (works_any _).mono ?_
    rintro e w2 ⟨rfl, hb⟩
    have HJ49 := Lib.hid (HJ47.out.on hb)
    have HB50 := Lib.hid (HB48.out.trans (hb.mono HB48.out.size))
    clear hb
    go_wp2_with fail
    go_ret
    exact ⟨rfl, HB50.out⟩
end Go.Proofs.Ytpkffjcmoghaaaa
