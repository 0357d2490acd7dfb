/- Walk of PunchExchanged. -/
import Derived.Test.YtpkffjcmoghaaaaJ16
namespace Go.Proofs.Ytpkffjcmoghaaaa
open Go.RowKit Go.Lib Go.Sort
theorem step_assignK {Q : Exit → Act → World → Prop} {R : List Known} {ks : List Nat} {a : Act} {w : World} {i : Nat} {dst : Option Tmp} {ty : TypeId} {pos : String} {after : Array Edge} {j q : Nat} {r : Known} (hq : ks.getD j 0 = q) (hj : j ∈ (after.toList.filter (fun e => Region.binds .any e)).map (fun e => e.on)) (hRj : Rat R j = r) (hR : Rat R i = r) :
    StepG Try.prog Q R ks a w i ⟨dst, .assign (.tmp q), ty, pos, after, none⟩ := by
  intro a' w' hA hb hd K hK
  have h := hd j hj
  rw [hRj, hq] at h
  refine op_value (w' := w') (v := a'.eval (.tmp q)) (by simp [execOp, go_sem, Act.eval]) (hK _ _ (Below.refl _ _) (by rw [hR]; exact h))
theorem bits_two {p L : Int} {S : List P.Star} (hc : P.checkJob p L S = 0) (b : Nat) : ∃ W e, P.struckE p L S (intsN (bitsL S.length b)) = (W, e) ∧ (e = 13 ∨ e = 0 ∧ P.Ind S p L (bitsL S.length b)) := by
  have hin : ∀ x ∈ bitsL S.length b, x < S.length := fun x hx => (bitsL_mem.1 hx).1
  rw [struck_nat hc (bitsL_lt _ _) hin]
  cases hf : P.fitsB (P.sel S (bitsL S.length b)) p L with
  | false => exact ⟨_, _, rfl, .inl rfl⟩
  | true => exact ⟨_, _, rfl, .inr ⟨rfl, P.fitsB_iff.1 hf⟩⟩
theorem bits_or {S : List P.Star} {two d : Nat} (hd : d < S.length) (hn : two.testBit d = false) : (bitsL S.length (two ||| 2 ^ d)).Perm (bitsL S.length two ++ [d]) := by
  have hnd : d ∉ bitsL S.length two := fun h => by have := (bitsL_mem.1 h).2; rw [hn] at this; cases this
  refine (List.perm_ext_iff_of_nodup (lt_nodup (bitsL_lt _ _)) ?_).2 fun x => ?_
  · rw [List.nodup_append]
    refine ⟨lt_nodup (bitsL_lt _ _), by simp, ?_⟩
    intro x hx y hy e
    simp at hy
    subst hy; subst e
    exact hnd hx
  · rw [List.mem_append, bitsL_mem, bitsL_mem, Nat.testBit_or, Nat.testBit_two_pow]
    by_cases h : d = x
    · subst h; simp [hd]
    · have h' : x ≠ d := fun e => h e.symm
      simp [h, h']
theorem exch_struck {p L : Int} {S : List P.Star} (hc : P.checkJob p L S = 0) {two d : Nat} (hd : d < S.length) (hn : two.testBit d = false) : ∃ W e, P.struckE p L S (intsN (bitsL S.length (two ||| 2 ^ d))) = (W, e) ∧ (e = 0 ∨ e = 13 ∧ ¬ P.Ind S p L (bitsL S.length two ++ [d])) := by
  obtain ⟨W, e, h1, h2⟩ := bits_two hc (two ||| 2 ^ d)
  refine ⟨W, e, h1, ?_⟩
  rcases h2 with rfl | ⟨rfl, -⟩
  · refine .inr ⟨rfl, fun hi => ?_⟩
    have hp := hi.perm (bits_or hd hn).symm
    have hin : ∀ x ∈ bitsL S.length (two ||| 2 ^ d), x < S.length := fun x hx => (bitsL_mem.1 hx).1
    rw [struck_nat hc (bitsL_lt _ _) hin, P.fitsB_iff.2 hp] at h1
    simp at h1
  · exact .inl rfl
theorem exch_end {p L : Int} {S : List P.Star} (hv : P.Valid p L S) {one two : Nat} (hI : P.Ind S p L (bitsL S.length one)) (hJ : P.Ind S p L (bitsL S.length two)) (hlt : (bitsL S.length two).length < (bitsL S.length one).length)
    (h : ∀ j, (hj : j < (bitsL S.length one).length) → two.testBit ((bitsL S.length one)[j]) = true ∨ ¬ P.Ind S p L (bitsL S.length two ++ [(bitsL S.length one)[j]])) : False := by
  obtain ⟨i, hi, hn, hx⟩ := P.exchange hI hJ (lt_nodup (bitsL_lt _ _)) (fun i hi => (hv.star (bitsL_mem.1 hi).1).2.1) (fun i hi => (hv.star (bitsL_mem.1 hi).1).2.1) hlt
  obtain ⟨j, hj, e⟩ := List.getElem_of_mem hi
  rcases h j hj with h1 | h1
  · exact hn (bitsL_mem.2 ⟨(bitsL_mem.1 hi).1, by rw [← e]; exact h1⟩)
  · exact h1 (by rw [e]; exact hx)
set_option maxRecDepth 20000 in
set_option maxHeartbeats 4000000 in
theorem exchanged_walk (a : Option Addr) (cap : Nat) (p L : Int) (S : List P.Star) (n1 n2 : Int) (w : World) (ha : Stars w a S) (h1 : (Lit.int .u16 n1).wf = true) (h2 : (Lit.int .u16 n2).wf = true) :
    Calls Try.prog 13 #[jobV p L a S.length cap, .int .u16 n1, .int .u16 n2] w fun e w' => e = .returned (.bool true) ∧ Below w.heap.size w w' := by
  obtain ⟨one, rfl⟩ : ∃ b : Nat, n1 = b := ⟨n1.toNat, by have := u16_bd h1; omega⟩
  have hb1 : one < 65536 := by have := u16_bd h1; omega
  obtain ⟨two, rfl⟩ : ∃ b : Nat, n2 = b := ⟨n2.toNat, by have := u16_bd h2; omega⟩
  have hb2 : two < 65536 := by have := u16_bd h2; omega
  clear h1 h2
  have HJ0 := Lib.hid (Job.new ha p L cap 24)
  have HB0 := Lib.hid (Below.new w (.cells #[.int .i64 p, .int .i64 L, .slice a S.length cap] 24))
  clear ha
  have HF := fine_any a cap p L S (w.alloc (.cells #[.int .i64 p, .int .i64 L, .slice a S.length cap] 24)) HJ0.out.st
  by_cases hc : P.checkJob p L S = 0
  · rw [decide_eq_true hc] at HF
    have HF := Lib.hid HF
    have HZ := Lib.hid hc
    have HV := Lib.hid (P.checkJob_iff.1 hc)
    have hl : S.length ≤ 1000000 := by have := HV.out.len; omega
    clear hc
    have h16 : S.length ≤ 16 := HV.out.len
    obtain ⟨WA, eA, hsA, hcA⟩ := bits_two HZ.out one
    obtain ⟨WB, eB, hsB, hcB⟩ := bits_two HZ.out two
    have HsA := Lib.hid hsA
    have HsB := Lib.hid hsB
    have HcA := Lib.hid hcA
    have HcB := Lib.hid hcB
    clear hsA hsB hcA hcB
    have HEx := Lib.hid (fun (d : Nat) (hd : d < S.length) (hn : two.testBit d = false) => exch_struck HZ.out hd hn)
    have HlA := Lib.hid (intsN_length (bitsL S.length one))
    have HlB := Lib.hid (intsN_length (bitsL S.length two))
    have HqA := Lib.hid (bitsL_len S.length one)
    have HqB := Lib.hid (bitsL_len S.length two)
    have HEnd := Lib.hid (fun hI hJ hlt h => exch_end HV.out (one := one) (two := two) hI hJ hlt h)
    have HInA : Hid (∀ x ∈ bitsL S.length one, x < S.length) := Lib.hid (fun x hx => (bitsL_mem.1 hx).1)
    go_enter Try.func13, Try.ntmps13
    go_wp2_with fail
    refine (HF.out).mono ?_
    rintro e w1 ⟨rfl, hb⟩
    have HJ1 := Lib.hid (HJ0.out.on hb)
    have HB2 := Lib.hid (HB0.out.trans (hb.mono HB0.out.size))
    clear hb
    have x3 := HJ1.out.x1
    have x4 := HJ1.out.x2
    have x5 := HJ1.out.x3
    go_wp2_with fail
    clear x3 x4 x5
    refine wp_region_grows [20, 21, 22, 23, 24, 25, 7, 8] [KEq (jobV p L a S.length cap), KEq (.int .u16 ((one : Nat) : Int)), KLs (intsN (bitsL S.length one)), KEq (jobV p L a S.length cap), KEq (.int .u16 ((two : Nat) : Int)), KLs (intsN (bitsL S.length two)), KLs (intsN (bitsL S.length one)), KLs (intsN (bitsL S.length two))] (by kernel_rfl) (by kernel_rfl) (by kernel_rfl) rfl ⟨KEq.st (jobV p L a S.length cap), KEq.st (.int .u16 ((one : Nat) : Int)), KLs.st (intsN (bitsL S.length one)), KEq.st (jobV p L a S.length cap), KEq.st (.int .u16 ((two : Nat) : Int)), KLs.st (intsN (bitsL S.length two)), KLs.st (intsN (bitsL S.length one)), KLs.st (intsN (bitsL S.length two)), trivial⟩ ⟨step_loadJob HJ1.out (by decide) rfl rfl, step_moveOut (by decide) rfl rfl, step_listed (j1 := 0) (j2 := 1) h16 hb1 rfl (by decide +kernel) rfl rfl (by decide +kernel) rfl rfl, step_loadJob HJ1.out (by decide) rfl rfl, step_moveOut (by decide) rfl rfl, step_listed (j1 := 3) (j2 := 4) h16 hb2 rfl (by decide +kernel) rfl rfl (by decide +kernel) rfl rfl, step_assignK (j := 2) rfl (by decide +kernel) rfl rfl, step_assignK (j := 5) rfl (by decide +kernel) rfl rfl, trivial⟩ ?_
    rintro w2 hb _ rfl _ rfl _ ⟨_, _, rfl, -⟩ _ rfl _ rfl _ ⟨_, _, rfl, -⟩ _ ⟨A7, C7, rfl, hi7⟩ _ ⟨A8, C8, rfl, hi8⟩
    have HJ6 := Lib.hid (HJ1.out.on hb)
    have HB7 := Lib.hid (HB2.out.trans (hb.mono HB2.out.size))
    clear hb
    simp only [EndsG]
    go_simp
    have I7 := Lib.hid hi7
    have I8 := Lib.hid hi8
    clear hi7 hi8
    have hC := checkStruck_any a cap p L S A7 C7 (intsN (bitsL S.length one)) w2 hl (by have := HlA.out; have := HqA.out; omega) HJ6.out.st I7.out
    rw [HsA.out] at hC
    have HC := Lib.hid hC
    clear hC
    have x8 := HJ6.out.x1
    have x9 := HJ6.out.x2
    have x10 := HJ6.out.x3
    go_wp2_with fail
    refine HC.out.mono ?_
    rintro e w3 ⟨rfl, hb⟩
    have HJ11 := Lib.hid (HJ6.out.on hb)
    have HB12 := Lib.hid (HB7.out.trans (hb.mono HB7.out.size))
    have I713 := Lib.hid (I7.out.below hb)
    have I814 := Lib.hid (I8.out.below hb)
    clear x8 x9 x10
    clear hb HC
    have hC := checkStruck_any a cap p L S A8 C8 (intsN (bitsL S.length two)) w3 hl (by have := HlB.out; have := HqB.out; omega) HJ11.out.st I814.out
    rw [HsB.out] at hC
    have HC := Lib.hid hC
    clear hC
    have x15 := HJ11.out.x1
    have x16 := HJ11.out.x2
    have x17 := HJ11.out.x3
    go_wp2_with fail
    refine HC.out.mono ?_
    rintro e w4 ⟨rfl, hb⟩
    have HJ18 := Lib.hid (HJ11.out.on hb)
    have HB19 := Lib.hid (HB12.out.trans (hb.mono HB12.out.size))
    have I720 := Lib.hid (I713.out.below hb)
    have I821 := Lib.hid (I814.out.below hb)
    clear x15 x16 x17
    clear hb HC
    rcases HcA.out with rfl | ⟨rfl, hIA⟩
    · rcases HcB.out with rfl | ⟨rfl, hIB⟩
      · clear HcA HcB
        go_wp2_with fail
        refine (works_any _).mono ?_
        rintro e w5 ⟨rfl, hb⟩
        have HJ22 := Lib.hid (HJ18.out.on hb)
        have HB23 := Lib.hid (HB19.out.trans (hb.mono HB19.out.size))
        have I724 := Lib.hid (I720.out.below hb)
        clear hb
        go_wp2_with fail
        go_ret
        exact ⟨rfl, HB23.out⟩
      · clear HcA HcB
        go_wp2_with fail
        refine (works_any _).mono ?_
        rintro e w5 ⟨rfl, hb⟩
        have HJ25 := Lib.hid (HJ18.out.on hb)
        have HB26 := Lib.hid (HB19.out.trans (hb.mono HB19.out.size))
        have I727 := Lib.hid (I720.out.below hb)
        clear hb
        go_wp2_with fail
        go_ret
        exact ⟨rfl, HB26.out⟩
    · rcases HcB.out with rfl | ⟨rfl, hIB⟩
      · clear HcA HcB
        go_wp2_with fail
        refine (works_any _).mono ?_
        rintro e w5 ⟨rfl, hb⟩
        have HJ28 := Lib.hid (HJ18.out.on hb)
        have HB29 := Lib.hid (HB19.out.trans (hb.mono HB19.out.size))
        have I730 := Lib.hid (I720.out.below hb)
        clear hb
        go_wp2_with fail
        go_ret
        exact ⟨rfl, HB29.out⟩
      · have HIA := Lib.hid hIA
        have HIB := Lib.hid hIB
        clear hIA hIB HcA HcB
        by_cases hle : (bitsL S.length one).length ≤ (bitsL S.length two).length
        · have hlI : (((intsN (bitsL S.length one)).length : Int) ≤ ((intsN (bitsL S.length two)).length : Int)) := by have := HlA.out; have := HlB.out; omega
          have hlN : ((intsN (bitsL S.length one)).length ≤ (intsN (bitsL S.length two)).length) := by have := HlA.out; have := HlB.out; omega
          have HLe := Lib.hid hle
          clear hle
          go_wp2_with fail
          refine (works_any _).mono ?_
          rintro e w5 ⟨rfl, hb⟩
          have HJ31 := Lib.hid (HJ18.out.on hb)
          have HB32 := Lib.hid (HB19.out.trans (hb.mono HB19.out.size))
          have I733 := Lib.hid (I720.out.below hb)
          clear hb
          go_wp2_with fail
          go_ret
          exact ⟨rfl, HB32.out⟩
        · have hlI : ¬ (((intsN (bitsL S.length one)).length : Int) ≤ ((intsN (bitsL S.length two)).length : Int)) := by have := HlA.out; have := HlB.out; omega
          have hlN : ¬ ((intsN (bitsL S.length one)).length ≤ (intsN (bitsL S.length two)).length) := by have := HlA.out; have := HlB.out; omega
          have HLe := Lib.hid hle
          clear hle
          go_wp2_with fail
          clear hlI hlN
          generalize hAe : bitsL S.length one = A at *
          clear hAe
          have hA16 : A.length ≤ 16 := by have := HqA.out; omega
          go_loopw [13, 14, 15] (fun i _ _ wr => ∃ k : Nat, k ≤ A.length ∧ i = .int .i64 k ∧ Hid (∀ j, (hj : j < A.length) → j < k → two.testBit (A[j]) = true ∨ ¬ P.Ind S p L (bitsL S.length two ++ [A[j]])) ∧ Hid (Below w4.heap.size w4 wr)) (fun i _ _ _ => A.length - (intOf i).toNat)
          case atStart => exact ⟨0, by omega, rfl, Lib.hid (fun j hj h => by omega), Lib.hid (Below.refl _ _)⟩
          case round =>
            obtain ⟨k, hk, rfl, hdone, hbh⟩ := hrel
            have hb := hbh.out
            have HJ34 := Lib.hid (HJ18.out.on hb)
            have HB35 := Lib.hid (HB19.out.trans (hb.mono HB19.out.size))
            have I736 := Lib.hid (I720.out.below hb)
            clear hb
            by_cases hlt : k < A.length
            · obtain ⟨b1, o1, hA, c1⟩ := I736.out k (by have := HlA.out; omega)
              subst hA
              obtain ⟨d, hd⟩ : ∃ d, A[k] = d := ⟨_, rfl⟩
              rw [nth_intsN hlt, hd] at c1
              have hdS : d < S.length := by have := HInA.out _ (List.getElem_mem hlt); rw [hd] at this; exact this
              have hd16 : d < 16 := by omega
              have HNd : Hid (A[k] = d) := Lib.hid hd
              have hd0 : (0 : Int) ≤ (d : Int) := by omega
              have hkI : (k : Int) < ((intsN A).length : Int) := by have := HlA.out; omega
              have hk0 : (0 : Int) ≤ (k : Int) := by omega
              have hand := shr_and two d hb2
              clear hd
              cases hbit : two.testBit d
              · obtain ⟨Wd, ed, hsd, hcd⟩ := HEx.out d hdS hbit
                have HSd := Lib.hid hsd
                have HCd := Lib.hid hcd
                rw [hbit] at hand
                simp only [Bool.false_eq_true, if_false] at hand
                clear hbit hsd hcd
                have h2d : 2 ^ d < 65536 := Nat.pow_lt_pow_right (by decide) hd16
                have hor6 : two ||| 2 ^ d < 65536 := Nat.or_lt_two_pow (n := 16) hb2 h2d
                have hbl : (intsN (bitsL S.length (two ||| 2 ^ d))).length ≤ 1000 := by rw [intsN_length]; have := bitsL_len S.length (two ||| 2 ^ d); omega
                go_wp2_with fail
                refine wp_region_grows [81, 82, 83, 84, 85, 86, 87, 88, 89, 90, 91, 80, 92, 93, 14, 15] [KEq (jobV p L a S.length cap), KEq (jobV p L a S.length cap), KEq (.int .u16 ((two : Nat) : Int)), KEq (.slice (some ⟨b1, o1, none⟩) (intsN A).length C7), KEq (.int .i64 ((k : Nat) : Int)), KEq (.pointer (some ⟨b1, o1 + k, none⟩)), KEq (.int .i64 ((d : Nat) : Int)), KEq (.int .u16 ((2 ^ d : Nat) : Int)), KEq (.int .u16 ((two ||| 2 ^ d : Nat) : Int)), KLs (intsN (bitsL S.length (two ||| 2 ^ d))), KEq (.tuple #[.int .i64 (Wd, ed).1, .int .i64 (Wd, ed).2]), KEq (.tuple #[.int .i64 (Wd, ed).1, .int .i64 (Wd, ed).2]), KEq (.int .i64 Wd), KEq (.int .i64 ed), KEq (.int .i64 Wd), KEq (.int .i64 ed)] (by kernel_rfl) (by kernel_rfl) (by kernel_rfl) rfl ⟨KEq.st (jobV p L a S.length cap), KEq.st (jobV p L a S.length cap), KEq.st (.int .u16 ((two : Nat) : Int)), KEq.st (.slice (some ⟨b1, o1, none⟩) (intsN A).length C7), KEq.st (.int .i64 ((k : Nat) : Int)), KEq.st (.pointer (some ⟨b1, o1 + k, none⟩)), KEq.st (.int .i64 ((d : Nat) : Int)), KEq.st (.int .u16 ((2 ^ d : Nat) : Int)), KEq.st (.int .u16 ((two ||| 2 ^ d : Nat) : Int)), KLs.st (intsN (bitsL S.length (two ||| 2 ^ d))), KEq.st (.tuple #[.int .i64 (Wd, ed).1, .int .i64 (Wd, ed).2]), KEq.st (.tuple #[.int .i64 (Wd, ed).1, .int .i64 (Wd, ed).2]), KEq.st (.int .i64 Wd), KEq.st (.int .i64 ed), KEq.st (.int .i64 Wd), KEq.st (.int .i64 ed), trivial⟩ ⟨step_loadJob HJ34.out (by decide) rfl rfl, step_loadJob HJ34.out (by decide) rfl rfl, step_moveOut (by decide) rfl rfl, step_moveOut (by decide) rfl rfl, step_moveOut (by decide) rfl rfl, step_by2 (j1 := 3) (j2 := 4) (q1 := 84) (q2 := 85) rfl (by decide +kernel) rfl rfl (by decide +kernel) rfl rfl (fun a' w' e1 e2 _ => by simp [execOp, go_sem, e1, e2, hkI, hk0]), step_by1 (j := 5) (q := 86) rfl (by decide +kernel) rfl rfl (fun a' w' e1 hb => by have x := cell_on hb c1; simp [execOp, go_sem, e1, x]), step_shl (j := 6) hd16 rfl (by decide +kernel) rfl rfl, step_or (j1 := 2) (j2 := 7) hb2 h2d rfl (by decide +kernel) rfl rfl (by decide +kernel) rfl rfl, step_listed (j1 := 1) (j2 := 8) h16 hor6 rfl (by decide +kernel) rfl rfl (by decide +kernel) rfl rfl, step_struck2 (j1 := 0) (j2 := 9) HJ34.out hl hbl HSd.out rfl (by decide +kernel) rfl rfl (by decide +kernel) rfl rfl, step_move (j := 10) rfl (by decide +kernel) rfl rfl, step_extract (j := 11) rfl (by decide +kernel) rfl rfl rfl, step_extract (j := 11) rfl (by decide +kernel) rfl rfl rfl, step_assign (j := 12) rfl (by decide +kernel) rfl rfl, step_assign (j := 13) rfl (by decide +kernel) rfl rfl, trivial⟩ ?_
                rintro w5 hb _ rfl _ rfl _ rfl _ rfl _ rfl _ rfl _ rfl _ rfl _ rfl _ ⟨_, _, rfl, -⟩ _ rfl _ rfl _ rfl _ rfl _ rfl _ rfl
                have HJ37 := Lib.hid (HJ34.out.on hb)
                have HB38 := Lib.hid (HB35.out.trans (hb.mono HB35.out.size))
                have I739 := Lib.hid (I736.out.below hb)
                have hbh2 := Lib.hid (hbh.out.trans (hb.mono hbh.out.size))
                clear hb
                simp only [EndsG]
                go_simp
                rcases HCd.out with rfl | ⟨rfl, hni⟩
                · go_wp2_with fail
                  refine (works_any _).mono ?_
                  rintro e w6 ⟨rfl, hb⟩
                  have HJ40 := Lib.hid (HJ37.out.on hb)
                  have HB41 := Lib.hid (HB38.out.trans (hb.mono HB38.out.size))
                  have I742 := Lib.hid (I739.out.below hb)
                  clear hb
                  go_wp2_with fail
                  go_ret
                  exact ⟨rfl, HB41.out⟩
                · have HNi := Lib.hid hni
                  clear hni HCd
                  go_wp2_with fail
                  go_roundw
                  case rel =>
                    refine ⟨k + 1, by omega, by go_num, Lib.hid (fun j hj hlt2 => ?_), hbh2⟩
                    by_cases e : j = k
                    · subst e
                      rw [HNd.out]
                      exact .inr HNi.out
                    · exact hdone.out j hj (by omega)
                  case measure => simp [intOf]; omega
              · rw [hbit] at hand
                simp only [if_true] at hand
                have Hbit := Lib.hid hbit
                clear hbit
                go_wp2_with fail
                go_roundw
                case rel =>
                  refine ⟨k + 1, by omega, by go_num, Lib.hid (fun j hj hlt2 => ?_), hbh⟩
                  by_cases e : j = k
                  · subst e
                    rw [HNd.out]
                    exact .inl Hbit.out
                  · exact hdone.out j hj (by omega)
                case measure => simp [intOf]; omega
            · exact absurd (HEnd.out HIA.out HIB.out (by have := HLe.out; omega) (fun j hj => hdone.out j hj (by omega))) id
  · rw [decide_eq_false hc] at HF
    have HF := Lib.hid HF
    clear hc
    go_enter Try.func13, Try.ntmps13
    go_wp2_with fail
    refine (HF.out).mono ?_
    rintro e w1 ⟨rfl, hb⟩
    have HJ43 := Lib.hid (HJ0.out.on hb)
    have HB44 := Lib.hid (HB0.out.trans (hb.mono HB0.out.size))
    clear hb
    go_wp2_with fail
    refine (works_any _).mono ?_
    rintro e w2 ⟨rfl, hb⟩
    have HJ45 := Lib.hid (HJ43.out.on hb)
    have HB46 := Lib.hid (HB44.out.trans (hb.mono HB44.out.size))
    clear hb
    go_wp2_with fail
    go_ret
    exact ⟨rfl, HB46.out⟩
end Go.Proofs.Ytpkffjcmoghaaaa
