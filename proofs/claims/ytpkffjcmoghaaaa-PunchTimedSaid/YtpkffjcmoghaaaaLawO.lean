/- Walk of PunchTimed. -/
import Derived.Test.YtpkffjcmoghaaaaJ16
namespace Go.Proofs.Ytpkffjcmoghaaaa
open Go.RowKit Go.Lib Go.Sort
theorem at_check {p L : Int} {S : List P.Star} (hv : P.Valid p L S) {i : Nat} (hi : i < S.length) {x : Int} (h0 : 0 ≤ x) (h1 : x < L) : P.checkJob p L (P.atW S i x) = 0 := by
  refine P.checkJob_iff.2 ⟨hv.p1, hv.p5, hv.l1, hv.l20, by rw [P.atW_length]; exact hv.len, hv.ok.at hi h0 h1, fun s hs => ?_⟩
  unfold P.atW at hs
  rcases List.mem_or_eq_of_mem_set hs with h | rfl
  · exact hv.wt s h
  · exact hv.weight hi
theorem mem_nth {l : List Int} {x : Int} (h : x ∈ l) : ∃ k, k < l.length ∧ nth l k = x := by
  obtain ⟨k, hk, e⟩ := List.getElem_of_mem h
  exact ⟨k, hk, by unfold nth; rw [List.getD_eq_getElem?_getD, List.getElem?_eq_getElem hk]; exact e⟩
theorem times_up {p L : Int} {S : List P.Star} {i k : Nat} (h : k + 1 < (P.times S p L i).length) : ¬ nth (P.times S p L i) (k + 1) ≤ nth (P.times S p L i) k := by
  have hp : (P.times S p L i).Pairwise (· < ·) := P.timesTo_lt
  have := List.pairwise_iff_getElem.1 hp k (k + 1) (by omega) h (by omega)
  unfold nth
  rw [List.getD_eq_getElem?_getD, List.getD_eq_getElem?_getD, List.getElem?_eq_getElem h, List.getElem?_eq_getElem (show k < _ by omega)]
  simp only [Option.getD_some]
  omega
theorem plan_in_times {p L : Int} {S : List P.Star} (hv : P.Valid p L S) (hf : P.Fits S p L) {i : Nat} (hi : i < S.length) : nth (P.plan S p L) i ∈ P.times S p L i := by
  obtain ⟨pn, rfl⟩ := Int.eq_ofNat_of_zero_le (show 0 ≤ p by have := hv.p1; omega)
  obtain ⟨Ln, rfl⟩ := Int.eq_ofNat_of_zero_le (show 0 ≤ L by have := hv.l1; omega)
  obtain ⟨h1, h2⟩ := P.plan_spec hv.ok hf
  have h3 := h2.inn i hi
  exact P.times_mem.2 ⟨h3.1, h3.2, (P.canAt_iff hv.ok hi h3.1 h3.2).2 ⟨_, h2, rfl⟩⟩
/-- Whether one of the first k is x. -/
def seenB (l : List Int) (x : Int) (k : Nat) (b : Bool) : Prop := b = true ↔ ∃ j, j < k ∧ nth l j = x
theorem seen_next {l : List Int} {x : Int} {k : Nat} {b : Bool} (h : seenB l x k b) : seenB l x (k + 1) (b || (nth l k == x)) := by
  unfold seenB at *
  rw [Bool.or_eq_true, h, beq_iff_eq]
  constructor
  · rintro (⟨j, h1, h2⟩ | h2)
    · exact ⟨j, by omega, h2⟩
    · exact ⟨k, by omega, h2⟩
  · rintro ⟨j, h1, h2⟩
    by_cases e : j = k
    · subst e; exact .inr h2
    · exact .inl ⟨j, by omega, h2⟩
theorem seen_next2 {l : List Int} {x : Int} {k : Nat} {b : Bool} (h : seenB l x k b) : seenB l x (k + 1) (b || (x == nth l k)) := by
  have h1 := seen_next h
  have e : (nth l k == x) = (x == nth l k) := by rw [Bool.eq_iff_iff, beq_iff_eq, beq_iff_eq]; exact eq_comm
  rwa [e] at h1
theorem seen_all {l : List Int} {x : Int} {b : Bool} (h : seenB l x l.length b) : b = true ↔ x ∈ l :=
  h.trans ⟨fun ⟨_, h1, h2⟩ => h2 ▸ nth_mem h1, fun hm => mem_nth hm⟩
set_option maxRecDepth 20000 in
set_option maxHeartbeats 20000000 in
theorem timed_walk (a : Option Addr) (cap : Nat) (p L : Int) (S : List P.Star) (n1 n2 : Int) (w : World) (ha : Stars w a S) (h1 : (Lit.int .u8 n1).wf = true) (h2 : (Lit.int .u8 n2).wf = true) :
    Calls Try.prog 12 #[jobV p L a S.length cap, .int .u8 n1, .int .u8 n2] w fun e w' => e = .returned (.bool true) ∧ Below w.heap.size w w' := by
  have hn1 := u8_bd h1
  have hn2 := u8_bd h2
  clear h1 h2
  by_cases hS0 : S.length = 0
  · have hz : ((S.length : Int) == 0) = true := by simp [hS0]
    clear hS0
    have HJ0 := Lib.hid (Job.new ha p L cap 24)
    have HB0 := Lib.hid (Below.new w (.cells #[.int .i64 p, .int .i64 L, .slice a S.length cap] 24))
    clear ha
    have HF := fine_any a cap p L S (w.alloc (.cells #[.int .i64 p, .int .i64 L, .slice a S.length cap] 24)) HJ0.out.st
    by_cases hc : P.checkJob p L S = 0
    · rw [decide_eq_true hc] at HF
      have HF := Lib.hid HF
      have HZ := Lib.hid hc
      have HV := Lib.hid (P.checkJob_iff.1 hc)
      have hl : S.length ≤ 1000000 := by have := HV.out.len; omega
      clear hc
      have x1 := HJ0.out.x1
      have x2 := HJ0.out.x2
      have x3 := HJ0.out.x3
      go_enter Try.func12, Try.ntmps12
      go_wp2_with fail
      refine (HF.out).mono ?_
      rintro e w1 ⟨rfl, hb⟩
      have HJ4 := Lib.hid (HJ0.out.on hb)
      have HB5 := Lib.hid (HB0.out.trans (hb.mono HB0.out.size))
      clear x1 x2 x3
      clear hb
      have x6 := HJ4.out.x1
      have x7 := HJ4.out.x2
      have x8 := HJ4.out.x3
      go_wp2_with fail
      refine (works_any _).mono ?_
      rintro e w2 ⟨rfl, hb⟩
      have HJ9 := Lib.hid (HJ4.out.on hb)
      have HB10 := Lib.hid (HB5.out.trans (hb.mono HB5.out.size))
      clear hb
      clear x6 x7 x8
      go_wp2_with fail
      go_ret
      exact ⟨rfl, HB10.out⟩
    · rw [decide_eq_false hc] at HF
      have HF := Lib.hid HF
      clear hc
      have x11 := HJ0.out.x1
      have x12 := HJ0.out.x2
      have x13 := HJ0.out.x3
      go_enter Try.func12, Try.ntmps12
      go_wp2_with fail
      refine (HF.out).mono ?_
      rintro e w1 ⟨rfl, hb⟩
      have HJ14 := Lib.hid (HJ0.out.on hb)
      have HB15 := Lib.hid (HB0.out.trans (hb.mono HB0.out.size))
      clear x11 x12 x13
      clear hb
      go_wp2_with fail
      refine (works_any _).mono ?_
      rintro e w2 ⟨rfl, hb⟩
      have HJ16 := Lib.hid (HJ14.out.on hb)
      have HB17 := Lib.hid (HB15.out.trans (hb.mono HB15.out.size))
      clear hb
      go_wp2_with fail
      go_ret
      exact ⟨rfl, HB17.out⟩
  · obtain ⟨sb, so, hae, -⟩ := ha 0 (by omega)
    subst hae
    have hz : ((S.length : Int) == 0) = false := beq_eq_false_iff_ne.2 (by omega)
    have HSp : Hid (0 < S.length) := Lib.hid (by omega)
    clear hS0
    have HJ0 := Lib.hid (Job.new ha p L cap 24)
    have HB0 := Lib.hid (Below.new w (.cells #[.int .i64 p, .int .i64 L, .slice (some ⟨sb, so, none⟩) S.length cap] 24))
    clear ha
    have HF := fine_any (some ⟨sb, so, none⟩) cap p L S (w.alloc (.cells #[.int .i64 p, .int .i64 L, .slice (some ⟨sb, so, none⟩) S.length cap] 24)) HJ0.out.st
    by_cases hc : P.checkJob p L S = 0
    · rw [decide_eq_true hc] at HF
      have HF := Lib.hid HF
      have HZ := Lib.hid hc
      have HV := Lib.hid (P.checkJob_iff.1 hc)
      have hl : S.length ≤ 1000000 := by have := HV.out.len; omega
      clear hc
      have h16 : S.length ≤ 16 := HV.out.len
      have hr0 := Int.emod_nonneg n1 (b := (S.length : Int)) (by have := HSp.out; omega)
      have hr1 := Int.emod_lt_of_pos n1 (b := (S.length : Int)) (by have := HSp.out; omega)
      have q1 : n1.tmod (S.length : Int) = n1 % (S.length : Int) := tmod_pos hn1.1
      generalize n1 % (S.length : Int) = r at *
      obtain ⟨m, rfl⟩ := Int.eq_ofNat_of_zero_le hr0
      have hmS : m < S.length := by omega
      clear hr0 hr1
      have hLp : 0 < L := by have := HV.out.l1; omega
      have hL20 : L ≤ 20 := HV.out.l20
      have hx0 := Int.emod_nonneg n2 (b := L) (by omega)
      have hx1 := Int.emod_lt_of_pos n2 (b := L) (by omega)
      have q2 : n2.tmod L = n2 % L := tmod_pos hn2.1
      generalize n2 % L = x at *
      have e1 : ¬ (S.length : Int) = 0 := by omega
      have e2 : ¬ L = 0 := by omega
      have k0 : IntKind.i64.wrap n1 = n1 := IntWalk.i64_in _ (by omega)
      have k1 : IntKind.i64.wrap n2 = n2 := IntWalk.i64_in _ (by omega)
      have k2 : IntKind.i64.wrap (m : Int) = (m : Int) := IntWalk.i64_in _ (by omega)
      have k3 : IntKind.i64.wrap x = x := IntWalk.i64_in _ (by omega)
      have hmI : (m : Int) < (S.length : Int) := by omega
      have hm0 : (0 : Int) ≤ (m : Int) := by omega
      have HSt := Lib.hid (show P.starred p L S (m : Int) = 0 by unfold P.starred; rw [if_neg (not_not_intro HZ.out), if_neg (by omega)])
      have hbS := HV.out.star hmS
      cases hf : P.fitsB S p L
      · have Hfb := Lib.hid hf
        have HNF : Hid (¬ P.Fits S p L) := Lib.hid (fun h => by have := P.fitsB_iff.2 h; rw [hf] at this; cases this)
        clear hf
        have HTe := Lib.hid (timesE_no HSt.out Hfb.out)
        have HPe := Lib.hid (planE_no HZ.out Hfb.out)
        have x1 := HJ0.out.x1
        have x2 := HJ0.out.x2
        have x3 := HJ0.out.x3
        go_enter Try.func12, Try.ntmps12
        go_wp2_with fail
        refine (HF.out).mono ?_
        rintro e w1 ⟨rfl, hb⟩
        have HJ4 := Lib.hid (HJ0.out.on hb)
        have HB5 := Lib.hid (HB0.out.trans (hb.mono HB0.out.size))
        clear x1 x2 x3
        clear hb
        have x6 := HJ4.out.x1
        have x7 := HJ4.out.x2
        have x8 := HJ4.out.x3
        go_wp2_with fail
        go_quiet (fail)
        have hb := (Drew.below ⟨nq, rfl⟩ w1.heap.size : Below w1.heap.size w1 (w1.drewN nq))
        have HJ9 := Lib.hid (HJ4.out.on hb)
        have HB10 := Lib.hid (HB5.out.trans (hb.mono HB5.out.size))
        clear x6 x7 x8
        clear hb
        have hC := times_any (some ⟨sb, so, none⟩) cap p L S (m : Int) (w1.drewN nq) hl HJ9.out.st
        rw [HTe.out] at hC
        dsimp only at hC
        have HC := Lib.hid hC
        clear hC
        have x11 := HJ9.out.x1
        have x12 := HJ9.out.x2
        have x13 := HJ9.out.x3
        go_wp2_with fail
        refine HC.out.mono ?_
        rintro e w2 ⟨At, Ct, rfl, hi, hb⟩
        have HJ14 := Lib.hid (HJ9.out.on hb)
        have HB15 := Lib.hid (HB10.out.trans (hb.mono HB10.out.size))
        have It := Lib.hid hi
        clear x11 x12 x13
        clear hb hi HC
        have hC := plan_any (some ⟨sb, so, none⟩) cap p L S w2 hl HJ14.out.st
        rw [HPe.out] at hC
        dsimp only at hC
        have HC := Lib.hid hC
        clear hC
        have x16 := HJ14.out.x1
        have x17 := HJ14.out.x2
        have x18 := HJ14.out.x3
        go_wp2_with fail
        refine HC.out.mono ?_
        rintro e w3 ⟨Ap, Cp, rfl, hi, hb⟩
        have HJ19 := Lib.hid (HJ14.out.on hb)
        have HB20 := Lib.hid (HB15.out.trans (hb.mono HB15.out.size))
        have It21 := Lib.hid (It.out.below hb)
        have Ip := Lib.hid hi
        clear x16 x17 x18
        clear hb hi HC
        go_wp2_with fail
        refine (works_any _).mono ?_
        rintro e w4 ⟨rfl, hb⟩
        have HJ22 := Lib.hid (HJ19.out.on hb)
        have HB23 := Lib.hid (HB20.out.trans (hb.mono HB20.out.size))
        clear hb
        go_wp2_with fail
        go_ret
        exact ⟨rfl, HB23.out⟩
      · have Hfb := Lib.hid hf
        have HFt := Lib.hid (P.fitsB_iff.1 hf)
        clear hf
        have HTe : Hid (P.timesE p L S (m : Int) = (P.times S p L m, 0)) := Lib.hid (timesE_yes HSt.out Hfb.out)
        have HPe := Lib.hid (planE_yes HZ.out Hfb.out)
        have HPl := Lib.hid (plan_len HV.out HFt.out)
        have HIn := Lib.hid (plan_in_times HV.out HFt.out hmS)
        have HUp := Lib.hid (fun k h => times_up (p := p) (L := L) (S := S) (i := m) (k := k) h)
        have HBd : Hid (∀ v, v ∈ P.times S p L m ↔ (P.star S m).1 ≤ v ∧ v ≤ (P.star S m).2.1 ∧ P.fitsB (P.atW S m v) p L = true) := Lib.hid (fun v => P.times_mem)
        have hT20 : (P.times S p L m).length ≤ 20 := times_len HV.out hmS
        generalize P.times S p L m = l at *
        generalize P.plan S p L = pl at *
        have x24 := HJ0.out.x1
        have x25 := HJ0.out.x2
        have x26 := HJ0.out.x3
        go_enter Try.func12, Try.ntmps12
        go_wp2_with fail
        refine (HF.out).mono ?_
        rintro e w1 ⟨rfl, hb⟩
        have HJ27 := Lib.hid (HJ0.out.on hb)
        have HB28 := Lib.hid (HB0.out.trans (hb.mono HB0.out.size))
        clear x24 x25 x26
        clear hb
        have x29 := HJ27.out.x1
        have x30 := HJ27.out.x2
        have x31 := HJ27.out.x3
        go_wp2_with fail
        go_quiet (fail)
        have hb := (Drew.below ⟨nq, rfl⟩ w1.heap.size : Below w1.heap.size w1 (w1.drewN nq))
        have HJ32 := Lib.hid (HJ27.out.on hb)
        have HB33 := Lib.hid (HB28.out.trans (hb.mono HB28.out.size))
        clear x29 x30 x31
        clear hb
        have hC := times_any (some ⟨sb, so, none⟩) cap p L S (m : Int) (w1.drewN nq) hl HJ32.out.st
        rw [HTe.out] at hC
        dsimp only at hC
        have HC := Lib.hid hC
        clear hC
        have x34 := HJ32.out.x1
        have x35 := HJ32.out.x2
        have x36 := HJ32.out.x3
        go_wp2_with fail
        refine HC.out.mono ?_
        rintro e w2 ⟨At, Ct, rfl, hi, hb⟩
        have HJ37 := Lib.hid (HJ32.out.on hb)
        have HB38 := Lib.hid (HB33.out.trans (hb.mono HB33.out.size))
        have It := Lib.hid hi
        clear x34 x35 x36
        clear hb hi HC
        have hC := plan_any (some ⟨sb, so, none⟩) cap p L S w2 hl HJ37.out.st
        rw [HPe.out] at hC
        dsimp only at hC
        have HC := Lib.hid hC
        clear hC
        have x39 := HJ37.out.x1
        have x40 := HJ37.out.x2
        have x41 := HJ37.out.x3
        go_wp2_with fail
        refine HC.out.mono ?_
        rintro e w3 ⟨Ap, Cp, rfl, hi, hb⟩
        have HJ42 := Lib.hid (HJ37.out.on hb)
        have HB43 := Lib.hid (HB38.out.trans (hb.mono HB38.out.size))
        have It44 := Lib.hid (It.out.below hb)
        have Ip := Lib.hid hi
        clear x39 x40 x41
        clear hb hi HC
        go_wp2_with fail
        obtain ⟨pb, po, hpe, -⟩ := Ip.out m (by rw [HPl.out]; exact hmS)
        subst hpe
        have hplI : (m : Int) < (pl.length : Int) := by rw [HPl.out]; exact hmI
        go_loopw [13, 14, 15] (fun o g i wr => ∃ (k : Nat) (bo bg : Bool), k ≤ l.length ∧ i = .int .i64 k ∧ o = .bool bo ∧ g = .bool bg ∧ Hid (seenB l x k bo) ∧ Hid (seenB l (nth pl m) k bg) ∧ Hid (Drew w3 wr)) (fun _ _ i _ => l.length - (intOf i).toNat)
        case atStart => exact ⟨0, false, false, by omega, rfl, rfl, rfl, Lib.hid (by unfold seenB; simp), Lib.hid (by unfold seenB; simp), Lib.hid (Drew.refl _)⟩
        case round =>
          obtain ⟨k, bo, bg, hk, rfl, rfl, rfl, hbo, hbg, hdr⟩ := hrel
          have hb := hdr.out.below w3.heap.size
          have HJ45 := Lib.hid (HJ42.out.on hb)
          have HB46 := Lib.hid (HB43.out.trans (hb.mono HB43.out.size))
          have It47 := Lib.hid (It44.out.below hb)
          have Ip48 := Lib.hid (Ip.out.below hb)
          clear hb
          by_cases hlt : k < l.length
          · have hkI : (k : Int) < (l.length : Int) := by omega
            have hk0 : (0 : Int) ≤ (k : Int) := by omega
            obtain ⟨tb, to, hte, c1⟩ := It47.out k hlt
            subst hte
            have c3 := Ip48.out.cellAt m (by rw [HPl.out]; exact hmS)
            obtain ⟨b2, o2, e4, s1, s2, s3⟩ := HJ45.out.st m hmS
            cases e4
            have hv1 := ((HBd.out (nth l k)).1 (nth_mem hlt))
            have d1 : decide (nth l k < (P.star S m).1) = false := decide_eq_false (by omega)
            have d2 : decide ((P.star S m).2.1 < nth l k) = false := decide_eq_false (by omega)
            have hn1 := Lib.hid (seen_next hbo.out)
            have hn2 := Lib.hid (seen_next2 hbg.out)
            have HD := Lib.hid hdr.out
            have HD0 := Lib.hid hdr.out
            clear hv1 hdr
            have x49 := HJ45.out.x1
            have x50 := HJ45.out.x2
            have x51 := HJ45.out.x3
            by_cases hkz : k = 0
            · have d3 : decide ((0 : Int) < (k : Int)) = false := by rw [decide_eq_false_iff_not]; omega
              have d3b : decide (0 < k) = false := by rw [decide_eq_false_iff_not]; omega
              clear hkz
              cases bo <;> cases bg
              all_goals (first | rw [Bool.false_or] at hn1 | rw [Bool.true_or] at hn1)
              all_goals (first | rw [Bool.false_or] at hn2 | rw [Bool.true_or] at hn2)
              all_goals (go_wp2_with fail; go_quiet (fail); have HD := Lib.hid (HD.out.drewN nq); have c1 := (Drew.cell ⟨nq, rfl⟩ _).trans c1; have c3 := (Drew.cell ⟨nq, rfl⟩ _).trans c3; go_wp2_with fail; go_quiet (fail); have HD := Lib.hid (HD.out.drewN nq); go_wp2_with fail)
              all_goals (go_roundw; (case rel => exact ⟨k + 1, _, _, by omega, by go_num, rfl, rfl, hn1, hn2, by first | exact HD | exact Lib.hid (HD0.out.drewN _)⟩); (case measure => simp [intOf]; omega))
            · obtain ⟨k', rfl⟩ : ∃ k', k = k' + 1 := ⟨k - 1, by omega⟩
              have c2 := It47.out.cellAt k' (by omega)
              have d3 : decide ((0 : Int) < ((k' + 1 : Nat) : Int)) = true := by rw [decide_eq_true_eq]; omega
              have d4 : decide (nth l (k' + 1) ≤ nth l k') = false := decide_eq_false (by have := HUp.out k' hlt; omega)
              have k4 : IntKind.i64.wrap (((k' + 1 : Nat) : Int) - 1) = (k' : Int) := by rw [IntWalk.i64_in _ (by omega)]; omega
              have k5 : (0 : Int) ≤ (k' : Int) := by omega
              have k6 : (k' : Int) < (l.length : Int) := by omega
              clear hkz
              cases bo <;> cases bg
              all_goals (first | rw [Bool.false_or] at hn1 | rw [Bool.true_or] at hn1)
              all_goals (first | rw [Bool.false_or] at hn2 | rw [Bool.true_or] at hn2)
              all_goals (go_wp2_with fail; go_quiet (fail); have HD := Lib.hid (HD.out.drewN nq); have c1 := (Drew.cell ⟨nq, rfl⟩ _).trans c1; have c3 := (Drew.cell ⟨nq, rfl⟩ _).trans c3; go_wp2_with fail; go_quiet (fail); have HD := Lib.hid (HD.out.drewN nq); go_wp2_with fail)
              all_goals (go_roundw; (case rel => exact ⟨(k' + 1) + 1, _, _, by omega, by go_num, rfl, rfl, hn1, hn2, by first | exact HD | exact Lib.hid (HD0.out.drewN _)⟩); (case measure => simp [intOf]; omega))
          · have hkI : ¬ (k : Int) < (l.length : Int) := by omega
            have hkE : k = l.length := by omega
            subst hkE
            have hg := (seen_all hbg.out).2 HIn.out
            subst hg
            have hbq := seen_all hbo.out
            obtain ⟨b2, o2, e4, s1, s2, s3⟩ := HJ45.out.st m hmS
            cases e4
            clear hdr hlt hk
            have x52 := HJ45.out.x1
            have x53 := HJ45.out.x2
            have x54 := HJ45.out.x3
            by_cases hxl : x < (P.star S m).1
            · have hbo0 : bo = false := by
                cases hb0 : bo with
                | false => rfl
                | true => have := (HBd.out x).1 (hbq.1 hb0); omega
              subst hbo0
              have d1 : decide (x < (P.star S m).1) = true := decide_eq_true hxl
              clear hbq
              go_wp2_with fail
              refine (works_any _).mono ?_
              rintro e w4 ⟨rfl, hb⟩
              have HJ55 := Lib.hid (HJ45.out.on hb)
              have HB56 := Lib.hid (HB46.out.trans (hb.mono HB46.out.size))
              have It57 := Lib.hid (It47.out.below hb)
              have Ip58 := Lib.hid (Ip48.out.below hb)
              clear hb
              clear x52 x53 x54
              go_wp2_with fail
              go_ret
              exact ⟨rfl, HB56.out⟩
            · by_cases hxg : (P.star S m).2.1 < x
              · have d1 : decide (x < (P.star S m).1) = false := decide_eq_false hxl
                have hbo0 : bo = false := by
                  cases hb0 : bo with
                  | false => rfl
                  | true => have := (HBd.out x).1 (hbq.1 hb0); omega
                subst hbo0
                have d2 : decide ((P.star S m).2.1 < x) = true := decide_eq_true hxg
                clear hbq
                go_wp2_with fail
                refine (works_any _).mono ?_
                rintro e w4 ⟨rfl, hb⟩
                have HJ59 := Lib.hid (HJ45.out.on hb)
                have HB60 := Lib.hid (HB46.out.trans (hb.mono HB46.out.size))
                have It61 := Lib.hid (It47.out.below hb)
                have Ip62 := Lib.hid (Ip48.out.below hb)
                clear hb
                clear x52 x53 x54
                go_wp2_with fail
                go_ret
                exact ⟨rfl, HB60.out⟩
              · have d1 : decide (x < (P.star S m).1) = false := decide_eq_false hxl
                have d2 : decide ((P.star S m).2.1 < x) = false := decide_eq_false hxg
                have HAt : Hid (P.fitsB (P.atW S m x) p L = bo) := Lib.hid (by rw [Bool.eq_iff_iff, hbq, HBd.out]; constructor <;> intro h <;> first | exact h.2.2 | exact ⟨by omega, by omega, h⟩)
                have HCk := Lib.hid (at_check HV.out hmS hx0 hx1)
                clear hbq
                go_wp2_with fail
                refine (refAt_any (some ⟨sb, so, none⟩) cap p L S m x wr hmS hl HJ45.out.st).mono ?_
                rintro e w4 ⟨a5, c5, rfl, hs5, hc5, -, hb⟩
                have HJ63 := Lib.hid (HJ45.out.on hb)
                have HB64 := Lib.hid (HB46.out.trans (hb.mono HB46.out.size))
                have It65 := Lib.hid (It47.out.below hb)
                have Ip66 := Lib.hid (Ip48.out.below hb)
                clear x52 x53 x54
                have hC := planned_any a5 c5 p L (P.atW S m x) w4 HCk.out hs5
                rw [HAt.out, P.atW_length] at hC
                have HC := Lib.hid hC
                clear hC hb hs5 hc5
                go_wp2_with fail
                refine HC.out.mono ?_
                rintro e w5 ⟨rfl, hb⟩
                have HJ67 := Lib.hid (HJ63.out.on hb)
                have HB68 := Lib.hid (HB64.out.trans (hb.mono HB64.out.size))
                have It69 := Lib.hid (It65.out.below hb)
                have Ip70 := Lib.hid (Ip66.out.below hb)
                clear hb HC
                cases bo
                · go_wp2_with fail
                  refine (works_any _).mono ?_
                  rintro e w6 ⟨rfl, hb⟩
                  have HJ71 := Lib.hid (HJ67.out.on hb)
                  have HB72 := Lib.hid (HB68.out.trans (hb.mono HB68.out.size))
                  have It73 := Lib.hid (It69.out.below hb)
                  have Ip74 := Lib.hid (Ip70.out.below hb)
                  clear hb
                  go_wp2_with fail
                  go_ret
                  exact ⟨rfl, HB72.out⟩
                · go_wp2_with fail
                  refine (works_any _).mono ?_
                  rintro e w6 ⟨rfl, hb⟩
                  have HJ75 := Lib.hid (HJ67.out.on hb)
                  have HB76 := Lib.hid (HB68.out.trans (hb.mono HB68.out.size))
                  have It77 := Lib.hid (It69.out.below hb)
                  have Ip78 := Lib.hid (Ip70.out.below hb)
                  clear hb
                  go_wp2_with fail
                  go_ret
                  exact ⟨rfl, HB76.out⟩
    · rw [decide_eq_false hc] at HF
      have HF := Lib.hid HF
      clear hc
      have x79 := HJ0.out.x1
      have x80 := HJ0.out.x2
      have x81 := HJ0.out.x3
      go_enter Try.func12, Try.ntmps12
      go_wp2_with fail
      refine (HF.out).mono ?_
      rintro e w1 ⟨rfl, hb⟩
      have HJ82 := Lib.hid (HJ0.out.on hb)
      have HB83 := Lib.hid (HB0.out.trans (hb.mono HB0.out.size))
      clear x79 x80 x81
      clear hb
      go_wp2_with fail
      refine (works_any _).mono ?_
      rintro e w2 ⟨rfl, hb⟩
      have HJ84 := Lib.hid (HJ82.out.on hb)
      have HB85 := Lib.hid (HB83.out.trans (hb.mono HB83.out.size))
      clear hb
      go_wp2_with fail
      go_ret
      exact ⟨rfl, HB85.out⟩
end Go.Proofs.Ytpkffjcmoghaaaa
