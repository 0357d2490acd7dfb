/- Walk of PunchKinds. -/
import Derived.Test.YtpkffjcmoghaaaaJ16
namespace Go.Proofs.Ytpkffjcmoghaaaa
open Go.RowKit Go.Lib Go.Sort
theorem wraps_i64 (n : Int) (h₀ : 0 ≤ n) (h₁ : n < 2 ^ 16) : IntKind.i64.wrap n = n := IntWalk.i64_in _ (by omega)
theorem or_i64 {a b : Nat} (ha : a < 65536) (hb : b < 65536) : bits .or .i64 (a : Int) (b : Int) = ((a ||| b : Nat) : Int) := (bits_nat .i64 16 (by decide) wraps_i64 a b (by omega) (by omega)).2
theorem shl_i64 {i : Nat} (hi : i < 16) : IntKind.i64.wrap (2 ^ i) = ((2 ^ i : Nat) : Int) := by
  have h3 : 2 ^ i < 2 ^ 16 := Nat.pow_lt_pow_right (by decide) hi
  have e : (2 : Int) ^ i = ((2 ^ i : Nat) : Int) := by simp
  rw [e]
  have h3' : 2 ^ i < 65536 := h3
  have h4 := Int.ofNat_lt.2 h3'
  have h5 : (0 : Int) ≤ ((2 ^ i : Nat) : Int) := Int.natCast_nonneg _
  generalize ((2 ^ i : Nat) : Int) = z at *
  exact wraps_i64 _ h5 (by omega)
theorem shr_and_i64 (b k : Nat) (hb : b < 65536) : bits .and .i64 ((b : Int) / 2 ^ k) 1 = if b.testBit k then 1 else 0 := by
  have e : (b : Int) / 2 ^ k = ((b / 2 ^ k : Nat) : Int) := by simp
  have h1 : b / 2 ^ k < 65536 := Nat.lt_of_le_of_lt (Nat.div_le_self _ _) hb
  have h := (bits_nat .i64 16 (by decide) wraps_i64 (b / 2 ^ k) 1 (by omega) (by omega)).1
  rw [e]
  refine h.trans ?_
  rw [Nat.and_one_is_mod, bit_at]
  split <;> rfl
theorem fits_best {p L : Int} {S : List P.Star} (hv : P.Valid p L S) : P.fitsB S p L = decide ((best p L S).length = S.length) := by
  rw [Bool.eq_iff_iff, P.fitsB_iff, P.fits_len hv, decide_eq_true_eq, (best_perm hv).length_eq]
theorem kind_three {p L : Int} {S : List P.Star} (i : Nat) : P.kind S p L i = 0 ∨ P.kind S p L i = 1 ∨ P.kind S p L i = 2 := by
  have := P.kind_bd (S := S) (p := p) (L := L) i
  omega
/-- Whether the star is heavier than each of the first j. -/
def overB (S : List P.Star) (k j : Nat) (h : Bool) : Prop := h = true ↔ ∀ t, t < j → t = k ∨ (P.star S t).2.2 < (P.star S k).2.2
theorem over_self {S : List P.Star} {k : Nat} {h : Bool} (hh : overB S k k h) : overB S k (k + 1) h := by
  unfold overB at *
  rw [hh]
  constructor
  · intro g t ht
    by_cases e : t = k
    · exact .inl e
    · exact g t (by omega)
  · intro g t ht; exact g t (by omega)
theorem over_no {S : List P.Star} {k j : Nat} (hh : overB S k j false) : overB S k (j + 1) false := by
  unfold overB at *
  constructor
  · intro h; cases h
  · intro g; exact hh.2 (fun t ht => g t (by omega))
theorem over_yes {S : List P.Star} {k j : Nat} (hne : j ≠ k) (hh : overB S k j true) : overB S k (j + 1) (decide ((P.star S j).2.2 < (P.star S k).2.2)) := by
  unfold overB at *
  rw [decide_eq_true_eq]
  constructor
  · intro h t ht
    by_cases e : t = j
    · subst e; exact .inr h
    · exact hh.1 rfl t (by omega)
  · intro g
    rcases g j (by omega) with h | h
    · exact absurd h hne
    · exact h
set_option maxRecDepth 20000 in
set_option maxHeartbeats 20000000 in
theorem kinds_walk (a : Option Addr) (cap : Nat) (p L : Int) (S : List P.Star) (w : World) (ha : Stars w a S) :
    Calls Try.prog 15 #[jobV p L a S.length cap] w fun e w' => e = .returned (.bool true) ∧ Below w.heap.size w w' := by
  have HJ0 := Lib.hid (Job.new ha p L cap 24)
  have HB0 := Lib.hid (Below.new w (.cells #[.int .i64 p, .int .i64 L, .slice a S.length cap] 24))
  clear ha
  have HF := fine_any a cap p L S (w.alloc (.cells #[.int .i64 p, .int .i64 L, .slice a S.length cap] 24)) HJ0.out.st
  by_cases hc : P.checkJob p L S = 0
  · rw [decide_eq_true hc] at HF
    have HF := Lib.hid HF
    have HZ := Lib.hid hc
    have HV := Lib.hid (P.checkJob_iff.1 hc)
    have hl : S.length ≤ 1000000 := by have := HV.out.len; omega
    clear hc
    have h16 : S.length ≤ 16 := HV.out.len
    have HCh : Hid (P.chosenE p L S = (intsN (best p L S), 0)) := Lib.hid (chosenE_ok HZ.out)
    have HIn := Lib.hid (best_in HV.out)
    have HLn := Lib.hid (best_len HV.out)
    have HlD := Lib.hid (intsN_length (best p L S))
    have HfL := Lib.hid (fits_best HV.out)
    have HKe : Hid (∀ k : Nat, k < S.length → P.kindE p L S (k : Int) = (P.kind S p L k, 0)) := Lib.hid (fun k hk => kindE_ok (by unfold P.starred; rw [if_neg (not_not_intro HZ.out), if_neg (by omega)]))
    have HK3 := Lib.hid (fun k => kind_three (p := p) (L := L) (S := S) k)
    have HAl : Hid (∀ k, P.kind S p L k = 2 → k ∈ best p L S) := Lib.hid (fun k h => (best_perm HV.out).mem_iff.2 (P.kind_always HV.out h))
    have HNv : Hid (∀ k, k < S.length → P.kind S p L k = 0 → k ∉ best p L S) := Lib.hid (fun k hk h hm => P.kind_never HV.out hk h ((best_perm HV.out).mem_iff.1 hm))
    have HHs : Hid (P.fitsB S p L = true → ∀ k, k < S.length → P.kind S p L k = 2) := Lib.hid (fun hf k hk => P.kind_has HV.out (P.fitsB_iff.1 hf) hk)
    have HHv : Hid (∀ k, k < S.length → overB S k S.length true → P.kind S p L k = 2) := Lib.hid (fun k hk h => P.kind_heaviest HV.out hk (fun j hj hne => ((h.1 rfl) j hj).elim (fun e => absurd e hne) id))
    generalize best p L S = D at *
    have hD16 : D.length ≤ 16 := by have := HLn.out; omega
    cases hf : P.fitsB S p L
    · have Hfb := Lib.hid hf
      rw [hf] at HfL
      have hlq : (((intsN D).length : Int) == (S.length : Int)) = false := by have h := of_decide_eq_false HfL.out.symm; rw [HlD.out]; exact beq_eq_false_iff_ne.2 (by omega)
      clear hf
      go_enter Try.func15, Try.ntmps15
      go_wp2_with fail
      refine (HF.out).mono ?_
      rintro e w1 ⟨rfl, hb⟩
      have HJ1 := Lib.hid (HJ0.out.on hb)
      have HB2 := Lib.hid (HB0.out.trans (hb.mono HB0.out.size))
      clear hb
      have hC := chosen_any a cap p L S w1 hl HJ1.out.st
      rw [HCh.out] at hC
      dsimp only at hC
      have HC := Lib.hid hC
      clear hC
      have x3 := HJ1.out.x1
      have x4 := HJ1.out.x2
      have x5 := HJ1.out.x3
      go_wp2_with fail
      refine HC.out.mono ?_
      rintro e w2 ⟨Ac, Cc, rfl, hi, hb⟩
      have HJ6 := Lib.hid (HJ1.out.on hb)
      have HB7 := Lib.hid (HB2.out.trans (hb.mono HB2.out.size))
      have Ic := Lib.hid hi
      clear x3 x4 x5
      clear hb hi HC
      have hC := planned_any a cap p L S w2 HZ.out HJ6.out.st
      rw [Hfb.out] at hC
      have HC := Lib.hid hC
      clear hC
      have x8 := HJ6.out.x1
      have x9 := HJ6.out.x2
      have x10 := HJ6.out.x3
      go_wp2_with fail
      refine HC.out.mono ?_
      rintro e w3 ⟨rfl, hb⟩
      have HJ11 := Lib.hid (HJ6.out.on hb)
      have HB12 := Lib.hid (HB7.out.trans (hb.mono HB7.out.size))
      have Ic13 := Lib.hid (Ic.out.below hb)
      clear x8 x9 x10
      clear hb HC
      have x14 := HJ11.out.x1
      have x15 := HJ11.out.x2
      have x16 := HJ11.out.x3
      go_wp2_with fail
      clear x14 x15 x16
      clear hlq
      go_loopw [7, 8] (fun t i wr => ∃ k : Nat, k ≤ D.length ∧ i = .int .i64 k ∧ t = .int .i64 ((bitOf (D.take k) : Nat) : Int) ∧ Hid (Drew w3 wr)) (fun _ i _ => D.length - (intOf i).toNat)
      case atStart => exact ⟨0, by omega, rfl, rfl, Lib.hid (Drew.refl _)⟩
      case round =>
        obtain ⟨k, hk, rfl, rfl, hdr⟩ := hrel
        have hb := hdr.out.below w3.heap.size
        have HJ17 := Lib.hid (HJ11.out.on hb)
        have HB18 := Lib.hid (HB12.out.trans (hb.mono HB12.out.size))
        have Ic19 := Lib.hid (Ic13.out.below hb)
        clear hb
        by_cases hlt : k < D.length
        · obtain ⟨b1, o1, hA, c1⟩ := Ic19.out k (by have := HlD.out; omega)
          subst hA
          obtain ⟨d, hd⟩ : ∃ d, D[k] = d := ⟨_, rfl⟩
          rw [nth_intsN hlt, hd] at c1
          have hdS : d < S.length := by have := HIn.out _ (List.getElem_mem hlt); rw [hd] at this; exact this
          have hd16 : d < 16 := by omega
          have HNx : Hid (bitOf (D.take (k + 1)) = bitOf (D.take k) ||| 2 ^ d) := Lib.hid (by rw [bitOf_next D hlt, hd])
          have hB6 : bitOf (D.take k) < 65536 := bitOf_lt fun i hi => by have := HIn.out i (List.mem_of_mem_take hi); omega
          have hsh := shl_i64 hd16
          have h2d : 2 ^ d < 65536 := Nat.pow_lt_pow_right (by decide) hd16
          have hor := or_i64 hB6 h2d
          have hd0 : (0 : Int) ≤ (d : Int) := by omega
          have hd1 : ¬ (d : Int) < 0 := by omega
          have hd2 : decide ((d : Int) < 0) = false := decide_eq_false hd1
          have hd3 : decide ((S.length : Int) ≤ (d : Int)) = false := decide_eq_false (by omega)
          have hd4 : decide (S.length ≤ d) = false := decide_eq_false (by omega)
          have hkI : (k : Int) < ((intsN D).length : Int) := by have := HlD.out; omega
          have hk0 : (0 : Int) ≤ (k : Int) := by omega
          clear hd hdS
          generalize bitOf (D.take k) = B at *
          generalize 2 ^ d = z at *
          have x20 := HJ17.out.x1
          have x21 := HJ17.out.x2
          have x22 := HJ17.out.x3
          go_wp2_with fail
          go_quiet (fail)
          have c1 := (Drew.cell ⟨nq, rfl⟩ _).trans c1
          go_wp2_with fail
          clear x20 x21 x22
          go_roundw
          case rel => exact ⟨k + 1, by omega, by go_num, by rw [HNx.out], Lib.hid (hdr.out.drewN _)⟩
          case measure => simp [intOf]; omega
        · have hkI : ¬ (k : Int) < ((intsN D).length : Int) := by have := HlD.out; omega
          have hkD : k = D.length := by omega
          subst hkD
          rw [List.take_length]
          clear hlt hk
          go_wp2_with fail
          clear hkI hdr
          obtain ⟨wo, hwo⟩ : ∃ wo : World, wo = wr := ⟨_, rfl⟩
          subst hwo
          have hB6 : bitOf D < 65536 := bitOf_lt fun i hi => by have := HIn.out i hi; omega
          have HMem := Lib.hid (bitOf_test D)
          generalize hBe : bitOf D = B at *
          clear hBe
          go_loopw [9, 10, 11, 12, 13, 14] (fun i _ _ _ _ _ wr => ∃ k : Nat, k ≤ S.length ∧ i = .int .i64 k ∧ Hid (Below wo.heap.size wo wr)) (fun i _ _ _ _ _ _ => S.length - (intOf i).toNat)
          case atStart => exact ⟨0, by omega, rfl, Lib.hid (Below.refl _ _)⟩
          case round =>
            obtain ⟨k, hk, rfl, hbh⟩ := hrel
            have hb := hbh.out
            have HJ23 := Lib.hid (HJ17.out.on hb)
            have HB24 := Lib.hid (HB18.out.trans (hb.mono HB18.out.size))
            clear hb
            by_cases hlt : k < S.length
            · have hkI : (k : Int) < (S.length : Int) := by omega
              have hk0 : (0 : Int) ≤ (k : Int) := by omega
              have hand := shr_and_i64 B k hB6
              have HKk := Lib.hid (HKe.out k hlt)
              have HK2 := Lib.hid (HAl.out k)
              have HK0 := Lib.hid (HNv.out k hlt)
              have HKh := Lib.hid (HHv.out k hlt)
              have hM := HMem.out k
              have h3 := HK3.out k
              generalize P.kind S p L k = K at *
              have x25 := HJ23.out.x1
              have x26 := HJ23.out.x2
              have x27 := HJ23.out.x3
              go_wp2_with fail
              clear x25 x26 x27
              have hC := kind_any a cap p L S (k : Int) wr hl HJ23.out.st
              rw [HKk.out] at hC
              have HC := Lib.hid hC
              clear hC
              have x28 := HJ23.out.x1
              have x29 := HJ23.out.x2
              have x30 := HJ23.out.x3
              go_wp2_with fail
              refine HC.out.mono ?_
              rintro e w4 ⟨rfl, hb⟩
              have HJ31 := Lib.hid (HJ23.out.on hb)
              have HB32 := Lib.hid (HB24.out.trans (hb.mono HB24.out.size))
              have HBK := Lib.hid hb
              clear x28 x29 x30
              clear hb HC
              have hbh2 := Lib.hid (hbh.out.trans (HBK.out.mono hbh.out.size))
              rcases h3 with rfl | rfl | rfl
              · cases hbit : B.testBit k
                · rw [hbit] at hM hand
                  simp only [Bool.false_eq_true, if_false] at hand
                  clear hbit hM
                  go_wp2_with fail
                  obtain ⟨sb, so, hae, t1, t2, t3⟩ := HJ31.out.st k hlt
                  subst hae
                  clear t1 t2 t3
                  obtain ⟨wi, hwi⟩ : ∃ wi : World, wi = w4 := ⟨_, rfl⟩
                  subst hwi
                  go_loopw [13, 14] (fun g i wr => ∃ (j : Nat) (hv : Bool), j ≤ S.length ∧ i = .int .i64 j ∧ g = .bool hv ∧ Hid (overB S k j hv) ∧ Hid (Drew wi wr)) (fun _ i _ => S.length - (intOf i).toNat)
                  case atStart => exact ⟨0, true, by omega, rfl, rfl, Lib.hid ⟨fun _ t ht => absurd ht (Nat.not_lt_zero t), fun _ => rfl⟩, Lib.hid (Drew.refl _)⟩
                  case round =>
                    obtain ⟨j, hv, hj, rfl, rfl, hov, hdr⟩ := hrel
                    have hb := hdr.out.below wi.heap.size
                    have hbh3 := Lib.hid (hbh2.out.trans (hb.mono hbh2.out.size))
                    have HJ33 := Lib.hid (HJ31.out.on hb)
                    have HB34 := Lib.hid (HB32.out.trans (hb.mono HB32.out.size))
                    clear hb
                    by_cases hjl : j < S.length
                    · have hjI : (j : Int) < (S.length : Int) := by omega
                      have hj0 : (0 : Int) ≤ (j : Int) := by omega
                      obtain ⟨b2, o2, e4, s1, s2, s3⟩ := HJ33.out.st j hjl
                      cases e4
                      obtain ⟨b3, o3, e5, r1, r2, r3⟩ := HJ33.out.st k hlt
                      cases e5
                      clear s1 s2 r1 r2
                      have x35 := HJ33.out.x1
                      have x36 := HJ33.out.x2
                      have x37 := HJ33.out.x3
                      by_cases hjk : j = k
                      · subst hjk
                        have hn := Lib.hid (over_self hov.out)
                        cases hv
                        all_goals (go_wp2_with fail; go_quiet (fail); go_wp2_with fail)
                        all_goals (go_roundw; (case rel => exact ⟨j + 1, _, by omega, by go_num, rfl, hn, Lib.hid (hdr.out.drewN _)⟩); (case measure => simp [intOf]; omega))
                      · have e1 : ((j : Int) == (k : Int)) = false := beq_eq_false_iff_ne.2 (by omega)
                        have e2 : (j == k) = false := beq_eq_false_iff_ne.2 hjk
                        have HNE := Lib.hid hjk
                        clear hjk
                        cases hv
                        · have hn := Lib.hid (over_no hov.out)
                          go_wp2_with fail
                          go_quiet (fail)
                          go_wp2_with fail
                          go_roundw
                          case rel => exact ⟨j + 1, _, by omega, by go_num, rfl, hn, Lib.hid (hdr.out.drewN _)⟩
                          case measure => simp [intOf]; omega
                        · have hn := Lib.hid (over_yes HNE.out hov.out)
                          go_wp2_with fail
                          go_quiet (fail)
                          go_wp2_with fail
                          go_roundw
                          case rel => exact ⟨j + 1, _, by omega, by go_num, rfl, hn, Lib.hid (hdr.out.drewN _)⟩
                          case measure => simp [intOf]; omega
                    · have hjI : ¬ (j : Int) < (S.length : Int) := by omega
                      have hjE : j = S.length := by omega
                      subst hjE
                      have x38 := HJ33.out.x1
                      have x39 := HJ33.out.x2
                      have x40 := HJ33.out.x3
                      cases hv
                      · go_wp2_with fail
                        go_roundw
                        case rel => exact ⟨k + 1, by omega, by go_num, hbh3⟩
                        case measure => simp [intOf]; omega
                      · exact absurd (HKh.out hov.out) (by omega)
                · rw [hbit] at hM hand
                  exact absurd (of_decide_eq_true hM.symm) (HK0.out rfl)
              · cases hbit : B.testBit k
                · rw [hbit] at hM hand
                  simp only [Bool.false_eq_true, if_false] at hand
                  clear hbit hM
                  go_wp2_with fail
                  obtain ⟨sb, so, hae, t1, t2, t3⟩ := HJ31.out.st k hlt
                  subst hae
                  clear t1 t2 t3
                  obtain ⟨wi, hwi⟩ : ∃ wi : World, wi = w4 := ⟨_, rfl⟩
                  subst hwi
                  go_loopw [13, 14] (fun g i wr => ∃ (j : Nat) (hv : Bool), j ≤ S.length ∧ i = .int .i64 j ∧ g = .bool hv ∧ Hid (overB S k j hv) ∧ Hid (Drew wi wr)) (fun _ i _ => S.length - (intOf i).toNat)
                  case atStart => exact ⟨0, true, by omega, rfl, rfl, Lib.hid ⟨fun _ t ht => absurd ht (Nat.not_lt_zero t), fun _ => rfl⟩, Lib.hid (Drew.refl _)⟩
                  case round =>
                    obtain ⟨j, hv, hj, rfl, rfl, hov, hdr⟩ := hrel
                    have hb := hdr.out.below wi.heap.size
                    have hbh3 := Lib.hid (hbh2.out.trans (hb.mono hbh2.out.size))
                    have HJ41 := Lib.hid (HJ31.out.on hb)
                    have HB42 := Lib.hid (HB32.out.trans (hb.mono HB32.out.size))
                    clear hb
                    by_cases hjl : j < S.length
                    · have hjI : (j : Int) < (S.length : Int) := by omega
                      have hj0 : (0 : Int) ≤ (j : Int) := by omega
                      obtain ⟨b2, o2, e4, s1, s2, s3⟩ := HJ41.out.st j hjl
                      cases e4
                      obtain ⟨b3, o3, e5, r1, r2, r3⟩ := HJ41.out.st k hlt
                      cases e5
                      clear s1 s2 r1 r2
                      have x43 := HJ41.out.x1
                      have x44 := HJ41.out.x2
                      have x45 := HJ41.out.x3
                      by_cases hjk : j = k
                      · subst hjk
                        have hn := Lib.hid (over_self hov.out)
                        cases hv
                        all_goals (go_wp2_with fail; go_quiet (fail); go_wp2_with fail)
                        all_goals (go_roundw; (case rel => exact ⟨j + 1, _, by omega, by go_num, rfl, hn, Lib.hid (hdr.out.drewN _)⟩); (case measure => simp [intOf]; omega))
                      · have e1 : ((j : Int) == (k : Int)) = false := beq_eq_false_iff_ne.2 (by omega)
                        have e2 : (j == k) = false := beq_eq_false_iff_ne.2 hjk
                        have HNE := Lib.hid hjk
                        clear hjk
                        cases hv
                        · have hn := Lib.hid (over_no hov.out)
                          go_wp2_with fail
                          go_quiet (fail)
                          go_wp2_with fail
                          go_roundw
                          case rel => exact ⟨j + 1, _, by omega, by go_num, rfl, hn, Lib.hid (hdr.out.drewN _)⟩
                          case measure => simp [intOf]; omega
                        · have hn := Lib.hid (over_yes HNE.out hov.out)
                          go_wp2_with fail
                          go_quiet (fail)
                          go_wp2_with fail
                          go_roundw
                          case rel => exact ⟨j + 1, _, by omega, by go_num, rfl, hn, Lib.hid (hdr.out.drewN _)⟩
                          case measure => simp [intOf]; omega
                    · have hjI : ¬ (j : Int) < (S.length : Int) := by omega
                      have hjE : j = S.length := by omega
                      subst hjE
                      have x46 := HJ41.out.x1
                      have x47 := HJ41.out.x2
                      have x48 := HJ41.out.x3
                      cases hv
                      · go_wp2_with fail
                        go_roundw
                        case rel => exact ⟨k + 1, by omega, by go_num, hbh3⟩
                        case measure => simp [intOf]; omega
                      · exact absurd (HKh.out hov.out) (by omega)
                · rw [hbit] at hM hand
                  simp only [if_true] at hand
                  clear hbit hM
                  go_wp2_with fail
                  obtain ⟨sb, so, hae, t1, t2, t3⟩ := HJ31.out.st k hlt
                  subst hae
                  clear t1 t2 t3
                  obtain ⟨wi, hwi⟩ : ∃ wi : World, wi = w4 := ⟨_, rfl⟩
                  subst hwi
                  go_loopw [13, 14] (fun g i wr => ∃ (j : Nat) (hv : Bool), j ≤ S.length ∧ i = .int .i64 j ∧ g = .bool hv ∧ Hid (overB S k j hv) ∧ Hid (Drew wi wr)) (fun _ i _ => S.length - (intOf i).toNat)
                  case atStart => exact ⟨0, true, by omega, rfl, rfl, Lib.hid ⟨fun _ t ht => absurd ht (Nat.not_lt_zero t), fun _ => rfl⟩, Lib.hid (Drew.refl _)⟩
                  case round =>
                    obtain ⟨j, hv, hj, rfl, rfl, hov, hdr⟩ := hrel
                    have hb := hdr.out.below wi.heap.size
                    have hbh3 := Lib.hid (hbh2.out.trans (hb.mono hbh2.out.size))
                    have HJ49 := Lib.hid (HJ31.out.on hb)
                    have HB50 := Lib.hid (HB32.out.trans (hb.mono HB32.out.size))
                    clear hb
                    by_cases hjl : j < S.length
                    · have hjI : (j : Int) < (S.length : Int) := by omega
                      have hj0 : (0 : Int) ≤ (j : Int) := by omega
                      obtain ⟨b2, o2, e4, s1, s2, s3⟩ := HJ49.out.st j hjl
                      cases e4
                      obtain ⟨b3, o3, e5, r1, r2, r3⟩ := HJ49.out.st k hlt
                      cases e5
                      clear s1 s2 r1 r2
                      have x51 := HJ49.out.x1
                      have x52 := HJ49.out.x2
                      have x53 := HJ49.out.x3
                      by_cases hjk : j = k
                      · subst hjk
                        have hn := Lib.hid (over_self hov.out)
                        cases hv
                        all_goals (go_wp2_with fail; go_quiet (fail); go_wp2_with fail)
                        all_goals (go_roundw; (case rel => exact ⟨j + 1, _, by omega, by go_num, rfl, hn, Lib.hid (hdr.out.drewN _)⟩); (case measure => simp [intOf]; omega))
                      · have e1 : ((j : Int) == (k : Int)) = false := beq_eq_false_iff_ne.2 (by omega)
                        have e2 : (j == k) = false := beq_eq_false_iff_ne.2 hjk
                        have HNE := Lib.hid hjk
                        clear hjk
                        cases hv
                        · have hn := Lib.hid (over_no hov.out)
                          go_wp2_with fail
                          go_quiet (fail)
                          go_wp2_with fail
                          go_roundw
                          case rel => exact ⟨j + 1, _, by omega, by go_num, rfl, hn, Lib.hid (hdr.out.drewN _)⟩
                          case measure => simp [intOf]; omega
                        · have hn := Lib.hid (over_yes HNE.out hov.out)
                          go_wp2_with fail
                          go_quiet (fail)
                          go_wp2_with fail
                          go_roundw
                          case rel => exact ⟨j + 1, _, by omega, by go_num, rfl, hn, Lib.hid (hdr.out.drewN _)⟩
                          case measure => simp [intOf]; omega
                    · have hjI : ¬ (j : Int) < (S.length : Int) := by omega
                      have hjE : j = S.length := by omega
                      subst hjE
                      have x54 := HJ49.out.x1
                      have x55 := HJ49.out.x2
                      have x56 := HJ49.out.x3
                      cases hv
                      · go_wp2_with fail
                        go_roundw
                        case rel => exact ⟨k + 1, by omega, by go_num, hbh3⟩
                        case measure => simp [intOf]; omega
                      · exact absurd (HKh.out hov.out) (by omega)
              · cases hbit : B.testBit k
                · rw [hbit] at hM hand
                  exact absurd (HK2.out rfl) (of_decide_eq_false hM.symm)
                · rw [hbit] at hM hand
                  simp only [if_true] at hand
                  clear hbit hM
                  go_wp2_with fail
                  obtain ⟨sb, so, hae, t1, t2, t3⟩ := HJ31.out.st k hlt
                  subst hae
                  clear t1 t2 t3
                  obtain ⟨wi, hwi⟩ : ∃ wi : World, wi = w4 := ⟨_, rfl⟩
                  subst hwi
                  go_loopw [13, 14] (fun g i wr => ∃ (j : Nat) (hv : Bool), j ≤ S.length ∧ i = .int .i64 j ∧ g = .bool hv ∧ Hid (overB S k j hv) ∧ Hid (Drew wi wr)) (fun _ i _ => S.length - (intOf i).toNat)
                  case atStart => exact ⟨0, true, by omega, rfl, rfl, Lib.hid ⟨fun _ t ht => absurd ht (Nat.not_lt_zero t), fun _ => rfl⟩, Lib.hid (Drew.refl _)⟩
                  case round =>
                    obtain ⟨j, hv, hj, rfl, rfl, hov, hdr⟩ := hrel
                    have hb := hdr.out.below wi.heap.size
                    have hbh3 := Lib.hid (hbh2.out.trans (hb.mono hbh2.out.size))
                    have HJ57 := Lib.hid (HJ31.out.on hb)
                    have HB58 := Lib.hid (HB32.out.trans (hb.mono HB32.out.size))
                    clear hb
                    by_cases hjl : j < S.length
                    · have hjI : (j : Int) < (S.length : Int) := by omega
                      have hj0 : (0 : Int) ≤ (j : Int) := by omega
                      obtain ⟨b2, o2, e4, s1, s2, s3⟩ := HJ57.out.st j hjl
                      cases e4
                      obtain ⟨b3, o3, e5, r1, r2, r3⟩ := HJ57.out.st k hlt
                      cases e5
                      clear s1 s2 r1 r2
                      have x59 := HJ57.out.x1
                      have x60 := HJ57.out.x2
                      have x61 := HJ57.out.x3
                      by_cases hjk : j = k
                      · subst hjk
                        have hn := Lib.hid (over_self hov.out)
                        cases hv
                        all_goals (go_wp2_with fail; go_quiet (fail); go_wp2_with fail)
                        all_goals (go_roundw; (case rel => exact ⟨j + 1, _, by omega, by go_num, rfl, hn, Lib.hid (hdr.out.drewN _)⟩); (case measure => simp [intOf]; omega))
                      · have e1 : ((j : Int) == (k : Int)) = false := beq_eq_false_iff_ne.2 (by omega)
                        have e2 : (j == k) = false := beq_eq_false_iff_ne.2 hjk
                        have HNE := Lib.hid hjk
                        clear hjk
                        cases hv
                        · have hn := Lib.hid (over_no hov.out)
                          go_wp2_with fail
                          go_quiet (fail)
                          go_wp2_with fail
                          go_roundw
                          case rel => exact ⟨j + 1, _, by omega, by go_num, rfl, hn, Lib.hid (hdr.out.drewN _)⟩
                          case measure => simp [intOf]; omega
                        · have hn := Lib.hid (over_yes HNE.out hov.out)
                          go_wp2_with fail
                          go_quiet (fail)
                          go_wp2_with fail
                          go_roundw
                          case rel => exact ⟨j + 1, _, by omega, by go_num, rfl, hn, Lib.hid (hdr.out.drewN _)⟩
                          case measure => simp [intOf]; omega
                    · have hjI : ¬ (j : Int) < (S.length : Int) := by omega
                      have hjE : j = S.length := by omega
                      subst hjE
                      have x62 := HJ57.out.x1
                      have x63 := HJ57.out.x2
                      have x64 := HJ57.out.x3
                      cases hv
                      · go_wp2_with fail
                        go_roundw
                        case rel => exact ⟨k + 1, by omega, by go_num, hbh3⟩
                        case measure => simp [intOf]; omega
                      · go_wp2_with fail
                        go_roundw
                        case rel => exact ⟨k + 1, by omega, by go_num, hbh3⟩
                        case measure => simp [intOf]; omega
            · have hkI : ¬ (k : Int) < (S.length : Int) := by omega
              have x65 := HJ23.out.x1
              have x66 := HJ23.out.x2
              have x67 := HJ23.out.x3
              go_wp2_with fail
              refine (works_any _).mono ?_
              rintro e w4 ⟨rfl, hb⟩
              have HJ68 := Lib.hid (HJ23.out.on hb)
              have HB69 := Lib.hid (HB24.out.trans (hb.mono HB24.out.size))
              clear hb
              clear x65 x66 x67
              go_wp2_with fail
              go_ret
              exact ⟨rfl, HB69.out⟩
    · have Hfb := Lib.hid hf
      rw [hf] at HfL
      have hlq : (((intsN D).length : Int) == (S.length : Int)) = true := by have h := of_decide_eq_true HfL.out.symm; rw [HlD.out]; exact beq_iff_eq.2 (by omega)
      clear hf
      go_enter Try.func15, Try.ntmps15
      go_wp2_with fail
      refine (HF.out).mono ?_
      rintro e w1 ⟨rfl, hb⟩
      have HJ70 := Lib.hid (HJ0.out.on hb)
      have HB71 := Lib.hid (HB0.out.trans (hb.mono HB0.out.size))
      clear hb
      have hC := chosen_any a cap p L S w1 hl HJ70.out.st
      rw [HCh.out] at hC
      dsimp only at hC
      have HC := Lib.hid hC
      clear hC
      have x72 := HJ70.out.x1
      have x73 := HJ70.out.x2
      have x74 := HJ70.out.x3
      go_wp2_with fail
      refine HC.out.mono ?_
      rintro e w2 ⟨Ac, Cc, rfl, hi, hb⟩
      have HJ75 := Lib.hid (HJ70.out.on hb)
      have HB76 := Lib.hid (HB71.out.trans (hb.mono HB71.out.size))
      have Ic := Lib.hid hi
      clear x72 x73 x74
      clear hb hi HC
      have hC := planned_any a cap p L S w2 HZ.out HJ75.out.st
      rw [Hfb.out] at hC
      have HC := Lib.hid hC
      clear hC
      have x77 := HJ75.out.x1
      have x78 := HJ75.out.x2
      have x79 := HJ75.out.x3
      go_wp2_with fail
      refine HC.out.mono ?_
      rintro e w3 ⟨rfl, hb⟩
      have HJ80 := Lib.hid (HJ75.out.on hb)
      have HB81 := Lib.hid (HB76.out.trans (hb.mono HB76.out.size))
      have Ic82 := Lib.hid (Ic.out.below hb)
      clear x77 x78 x79
      clear hb HC
      have x83 := HJ80.out.x1
      have x84 := HJ80.out.x2
      have x85 := HJ80.out.x3
      go_wp2_with fail
      clear x83 x84 x85
      clear hlq
      go_loopw [7, 8] (fun t i wr => ∃ k : Nat, k ≤ D.length ∧ i = .int .i64 k ∧ t = .int .i64 ((bitOf (D.take k) : Nat) : Int) ∧ Hid (Drew w3 wr)) (fun _ i _ => D.length - (intOf i).toNat)
      case atStart => exact ⟨0, by omega, rfl, rfl, Lib.hid (Drew.refl _)⟩
      case round =>
        obtain ⟨k, hk, rfl, rfl, hdr⟩ := hrel
        have hb := hdr.out.below w3.heap.size
        have HJ86 := Lib.hid (HJ80.out.on hb)
        have HB87 := Lib.hid (HB81.out.trans (hb.mono HB81.out.size))
        have Ic88 := Lib.hid (Ic82.out.below hb)
        clear hb
        by_cases hlt : k < D.length
        · obtain ⟨b1, o1, hA, c1⟩ := Ic88.out k (by have := HlD.out; omega)
          subst hA
          obtain ⟨d, hd⟩ : ∃ d, D[k] = d := ⟨_, rfl⟩
          rw [nth_intsN hlt, hd] at c1
          have hdS : d < S.length := by have := HIn.out _ (List.getElem_mem hlt); rw [hd] at this; exact this
          have hd16 : d < 16 := by omega
          have HNx : Hid (bitOf (D.take (k + 1)) = bitOf (D.take k) ||| 2 ^ d) := Lib.hid (by rw [bitOf_next D hlt, hd])
          have hB6 : bitOf (D.take k) < 65536 := bitOf_lt fun i hi => by have := HIn.out i (List.mem_of_mem_take hi); omega
          have hsh := shl_i64 hd16
          have h2d : 2 ^ d < 65536 := Nat.pow_lt_pow_right (by decide) hd16
          have hor := or_i64 hB6 h2d
          have hd0 : (0 : Int) ≤ (d : Int) := by omega
          have hd1 : ¬ (d : Int) < 0 := by omega
          have hd2 : decide ((d : Int) < 0) = false := decide_eq_false hd1
          have hd3 : decide ((S.length : Int) ≤ (d : Int)) = false := decide_eq_false (by omega)
          have hd4 : decide (S.length ≤ d) = false := decide_eq_false (by omega)
          have hkI : (k : Int) < ((intsN D).length : Int) := by have := HlD.out; omega
          have hk0 : (0 : Int) ≤ (k : Int) := by omega
          clear hd hdS
          generalize bitOf (D.take k) = B at *
          generalize 2 ^ d = z at *
          have x89 := HJ86.out.x1
          have x90 := HJ86.out.x2
          have x91 := HJ86.out.x3
          go_wp2_with fail
          go_quiet (fail)
          have c1 := (Drew.cell ⟨nq, rfl⟩ _).trans c1
          go_wp2_with fail
          clear x89 x90 x91
          go_roundw
          case rel => exact ⟨k + 1, by omega, by go_num, by rw [HNx.out], Lib.hid (hdr.out.drewN _)⟩
          case measure => simp [intOf]; omega
        · have hkI : ¬ (k : Int) < ((intsN D).length : Int) := by have := HlD.out; omega
          have hkD : k = D.length := by omega
          subst hkD
          rw [List.take_length]
          clear hlt hk
          go_wp2_with fail
          clear hkI hdr
          obtain ⟨wo, hwo⟩ : ∃ wo : World, wo = wr := ⟨_, rfl⟩
          subst hwo
          have hB6 : bitOf D < 65536 := bitOf_lt fun i hi => by have := HIn.out i hi; omega
          have HMem := Lib.hid (bitOf_test D)
          generalize hBe : bitOf D = B at *
          clear hBe
          go_loopw [9, 10, 11, 12, 13, 14] (fun i _ _ _ _ _ wr => ∃ k : Nat, k ≤ S.length ∧ i = .int .i64 k ∧ Hid (Below wo.heap.size wo wr)) (fun i _ _ _ _ _ _ => S.length - (intOf i).toNat)
          case atStart => exact ⟨0, by omega, rfl, Lib.hid (Below.refl _ _)⟩
          case round =>
            obtain ⟨k, hk, rfl, hbh⟩ := hrel
            have hb := hbh.out
            have HJ92 := Lib.hid (HJ86.out.on hb)
            have HB93 := Lib.hid (HB87.out.trans (hb.mono HB87.out.size))
            clear hb
            by_cases hlt : k < S.length
            · have hkI : (k : Int) < (S.length : Int) := by omega
              have hk0 : (0 : Int) ≤ (k : Int) := by omega
              have hand := shr_and_i64 B k hB6
              have HKk := Lib.hid (HKe.out k hlt)
              have HK2 := Lib.hid (HAl.out k)
              have HK0 := Lib.hid (HNv.out k hlt)
              have HKh := Lib.hid (HHv.out k hlt)
              have hM := HMem.out k
              have h3 := HK3.out k
              have HKs := Lib.hid (HHs.out Hfb.out k hlt)
              generalize P.kind S p L k = K at *
              have x94 := HJ92.out.x1
              have x95 := HJ92.out.x2
              have x96 := HJ92.out.x3
              go_wp2_with fail
              clear x94 x95 x96
              have hC := kind_any a cap p L S (k : Int) wr hl HJ92.out.st
              rw [HKk.out] at hC
              have HC := Lib.hid hC
              clear hC
              have x97 := HJ92.out.x1
              have x98 := HJ92.out.x2
              have x99 := HJ92.out.x3
              go_wp2_with fail
              refine HC.out.mono ?_
              rintro e w4 ⟨rfl, hb⟩
              have HJ100 := Lib.hid (HJ92.out.on hb)
              have HB101 := Lib.hid (HB93.out.trans (hb.mono HB93.out.size))
              have HBK := Lib.hid hb
              clear x97 x98 x99
              clear hb HC
              have hbh2 := Lib.hid (hbh.out.trans (HBK.out.mono hbh.out.size))
              rcases h3 with rfl | rfl | rfl
              · cases hbit : B.testBit k
                · rw [hbit] at hM hand
                  exact absurd HKs.out (by omega)
                · rw [hbit] at hM hand
                  exact absurd HKs.out (by omega)
              · cases hbit : B.testBit k
                · rw [hbit] at hM hand
                  exact absurd HKs.out (by omega)
                · rw [hbit] at hM hand
                  exact absurd HKs.out (by omega)
              · cases hbit : B.testBit k
                · rw [hbit] at hM hand
                  exact absurd (HK2.out rfl) (of_decide_eq_false hM.symm)
                · rw [hbit] at hM hand
                  simp only [if_true] at hand
                  clear hbit hM
                  go_wp2_with fail
                  obtain ⟨sb, so, hae, t1, t2, t3⟩ := HJ100.out.st k hlt
                  subst hae
                  clear t1 t2 t3
                  obtain ⟨wi, hwi⟩ : ∃ wi : World, wi = w4 := ⟨_, rfl⟩
                  subst hwi
                  go_loopw [13, 14] (fun g i wr => ∃ (j : Nat) (hv : Bool), j ≤ S.length ∧ i = .int .i64 j ∧ g = .bool hv ∧ Hid (overB S k j hv) ∧ Hid (Drew wi wr)) (fun _ i _ => S.length - (intOf i).toNat)
                  case atStart => exact ⟨0, true, by omega, rfl, rfl, Lib.hid ⟨fun _ t ht => absurd ht (Nat.not_lt_zero t), fun _ => rfl⟩, Lib.hid (Drew.refl _)⟩
                  case round =>
                    obtain ⟨j, hv, hj, rfl, rfl, hov, hdr⟩ := hrel
                    have hb := hdr.out.below wi.heap.size
                    have hbh3 := Lib.hid (hbh2.out.trans (hb.mono hbh2.out.size))
                    have HJ102 := Lib.hid (HJ100.out.on hb)
                    have HB103 := Lib.hid (HB101.out.trans (hb.mono HB101.out.size))
                    clear hb
                    by_cases hjl : j < S.length
                    · have hjI : (j : Int) < (S.length : Int) := by omega
                      have hj0 : (0 : Int) ≤ (j : Int) := by omega
                      obtain ⟨b2, o2, e4, s1, s2, s3⟩ := HJ102.out.st j hjl
                      cases e4
                      obtain ⟨b3, o3, e5, r1, r2, r3⟩ := HJ102.out.st k hlt
                      cases e5
                      clear s1 s2 r1 r2
                      have x104 := HJ102.out.x1
                      have x105 := HJ102.out.x2
                      have x106 := HJ102.out.x3
                      by_cases hjk : j = k
                      · subst hjk
                        have hn := Lib.hid (over_self hov.out)
                        cases hv
                        all_goals (go_wp2_with fail; go_quiet (fail); go_wp2_with fail)
                        all_goals (go_roundw; (case rel => exact ⟨j + 1, _, by omega, by go_num, rfl, hn, Lib.hid (hdr.out.drewN _)⟩); (case measure => simp [intOf]; omega))
                      · have e1 : ((j : Int) == (k : Int)) = false := beq_eq_false_iff_ne.2 (by omega)
                        have e2 : (j == k) = false := beq_eq_false_iff_ne.2 hjk
                        have HNE := Lib.hid hjk
                        clear hjk
                        cases hv
                        · have hn := Lib.hid (over_no hov.out)
                          go_wp2_with fail
                          go_quiet (fail)
                          go_wp2_with fail
                          go_roundw
                          case rel => exact ⟨j + 1, _, by omega, by go_num, rfl, hn, Lib.hid (hdr.out.drewN _)⟩
                          case measure => simp [intOf]; omega
                        · have hn := Lib.hid (over_yes HNE.out hov.out)
                          go_wp2_with fail
                          go_quiet (fail)
                          go_wp2_with fail
                          go_roundw
                          case rel => exact ⟨j + 1, _, by omega, by go_num, rfl, hn, Lib.hid (hdr.out.drewN _)⟩
                          case measure => simp [intOf]; omega
                    · have hjI : ¬ (j : Int) < (S.length : Int) := by omega
                      have hjE : j = S.length := by omega
                      subst hjE
                      have x107 := HJ102.out.x1
                      have x108 := HJ102.out.x2
                      have x109 := HJ102.out.x3
                      cases hv
                      · go_wp2_with fail
                        go_roundw
                        case rel => exact ⟨k + 1, by omega, by go_num, hbh3⟩
                        case measure => simp [intOf]; omega
                      · go_wp2_with fail
                        go_roundw
                        case rel => exact ⟨k + 1, by omega, by go_num, hbh3⟩
                        case measure => simp [intOf]; omega
            · have hkI : ¬ (k : Int) < (S.length : Int) := by omega
              have x110 := HJ92.out.x1
              have x111 := HJ92.out.x2
              have x112 := HJ92.out.x3
              go_wp2_with fail
              refine (works_any _).mono ?_
              rintro e w4 ⟨rfl, hb⟩
              have HJ113 := Lib.hid (HJ92.out.on hb)
              have HB114 := Lib.hid (HB93.out.trans (hb.mono HB93.out.size))
              clear hb
              clear x110 x111 x112
              go_wp2_with fail
              go_ret
              exact ⟨rfl, HB114.out⟩
  · rw [decide_eq_false hc] at HF
    have HF := Lib.hid HF
    clear hc
    go_enter Try.func15, Try.ntmps15
    go_wp2_with fail
    refine (HF.out).mono ?_
    rintro e w1 ⟨rfl, hb⟩
    have HJ115 := Lib.hid (HJ0.out.on hb)
    have HB116 := Lib.hid (HB0.out.trans (hb.mono HB0.out.size))
    clear hb
    go_wp2_with fail
    refine (works_any _).mono ?_
    rintro e w2 ⟨rfl, hb⟩
    have HJ117 := Lib.hid (HJ115.out.on hb)
    have HB118 := Lib.hid (HB116.out.trans (hb.mono HB116.out.size))
    clear hb
    go_wp2_with fail
    go_ret
    exact ⟨rfl, HB118.out⟩
end Go.Proofs.Ytpkffjcmoghaaaa
