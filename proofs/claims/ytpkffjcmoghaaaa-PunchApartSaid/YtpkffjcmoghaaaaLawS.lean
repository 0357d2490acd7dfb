/- Walk of PunchApart. -/
import Derived.Test.YtpkffjcmoghaaaaApB
namespace Go.Proofs.Ytpkffjcmoghaaaa
open Go.RowKit Go.Lib Go.Sort
theorem plan_bd {p L : Int} {S : List P.Star} (hv : P.Valid p L S) (hf : P.Fits S p L) : ∀ j, j < (P.plan S p L).length → 0 ≤ nth (P.plan S p L) j ∧ nth (P.plan S p L) j ≤ 20 := by
  intro j hj
  obtain ⟨pn, rfl⟩ := Int.eq_ofNat_of_zero_le (show 0 ≤ p by have := hv.p1; omega)
  obtain ⟨Ln, rfl⟩ := Int.eq_ofNat_of_zero_le (show 0 ≤ L by have := hv.l1; omega)
  obtain ⟨h1, h2⟩ := P.plan_spec hv.ok hf
  have h3 := h2.inn j (by omega)
  have h4 := hv.star (i := j) (by omega)
  have h5 := hv.l20
  have e : nth (P.plan S pn Ln) j = P.wear (P.plan S pn Ln) j := rfl
  rw [e]
  omega
theorem both_next (pS pT : List Int) (L : Int) {j : Nat} (h : j < pT.length) : (pS ++ (pT.take (j + 1)).map (fun w => w + L)).map (Value.int .i64) = (pS ++ (pT.take j).map (fun w => w + L)).map (Value.int .i64) ++ [.int .i64 (nth pT j + L)] := by
  rw [List.take_succ_eq_append_getElem h, nth_eq pT j h]
  simp only [List.map_append, List.append_assoc, List.map_cons, List.map_nil]
set_option maxRecDepth 20000 in
set_option maxHeartbeats 20000000 in
theorem apart_walk (a : Option Addr) (cap : Nat) (p L : Int) (S : List P.Star) (a2 : Option Addr) (cap2 : Nat) (p2 M : Int) (T : List P.Star) (w : World) (_hc : S.length ≤ cap) (ha : Stars w a S) (_hc2 : T.length ≤ cap2) (ha2 : Stars w a2 T) :
    Calls Try.prog 14 #[jobV p L a S.length cap, jobV p2 M a2 T.length cap2] w fun e w' => e = .returned (.bool true) ∧ Below w.heap.size w w' := by
  have HJ0 := Lib.hid ((Job.new ha p L cap 24).on (Below.new _ (.cells #[.int .i64 p2, .int .i64 M, .slice a2 T.length cap2] 24)))
  have HT0 := Lib.hid ((ha2.alloc (.cells #[.int .i64 p, .int .i64 L, .slice a S.length cap] 24)).alloc (.cells #[.int .i64 p2, .int .i64 M, .slice a2 T.length cap2] 24))
  have HC0 : Hid (Cells ((w.alloc (.cells #[.int .i64 p, .int .i64 L, .slice a S.length cap] 24)).alloc (.cells #[.int .i64 p2, .int .i64 M, .slice a2 T.length cap2] 24)) (w.heap.size + 1) [.int .i64 p2, .int .i64 M, .slice a2 T.length cap2]) := Lib.hid (by
    have := Cells.new (w.alloc (.cells #[.int .i64 p, .int .i64 L, .slice a S.length cap] 24)) #[.int .i64 p2, .int .i64 M, .slice a2 T.length cap2] 24
    rw [World.size_alloc] at this; exact this)
  have HB0 : Hid (Below w.heap.size w ((w.alloc (.cells #[.int .i64 p, .int .i64 L, .slice a S.length cap] 24)).alloc (.cells #[.int .i64 p2, .int .i64 M, .slice a2 T.length cap2] 24))) := Lib.hid ((Below.new w _).alloc (by simp) _)
  have HD0 : Hid (Cells ((w.alloc (.cells #[.int .i64 p, .int .i64 L, .slice a S.length cap] 24)).alloc (.cells #[.int .i64 p2, .int .i64 M, .slice a2 T.length cap2] 24)) w.heap.size [.int .i64 p, .int .i64 L, .slice a S.length cap]) := Lib.hid ((Cells.new w #[.int .i64 p, .int .i64 L, .slice a S.length cap] 24).on (Below.new _ _))
  have HSa := Lib.hid ha
  have HTa := Lib.hid ha2
  clear ha ha2
  have HF := fine_any a cap p L S ((w.alloc (.cells #[.int .i64 p, .int .i64 L, .slice a S.length cap] 24)).alloc (.cells #[.int .i64 p2, .int .i64 M, .slice a2 T.length cap2] 24)) HJ0.out.st
  by_cases hc : P.checkJob p L S = 0
  · rw [decide_eq_true hc] at HF
    have HF := Lib.hid HF
    have HZ := Lib.hid hc
    have HV := Lib.hid (P.checkJob_iff.1 hc)
    have hl : S.length ≤ 1000000 := by have := HV.out.len; omega
    clear hc
    have HG : Hid (∀ W, Stars W a2 T → Calls Try.prog 42 #[jobV p2 M a2 T.length cap2] W fun e w' => e = .returned (.bool (decide (P.checkJob p2 M T = 0))) ∧ Below W.heap.size W w') := Lib.hid (fun W h => fine_any a2 cap2 p2 M T W h)
    by_cases hd : P.checkJob p2 M T = 0
    · rw [decide_eq_true hd] at HG
      have HV2 := Lib.hid (P.checkJob_iff.1 hd)
      have hlT : T.length ≤ 1000000 := by have := HV2.out.len; omega
      have hS16 : S.length ≤ 16 := HV.out.len
      have hT16 : T.length ≤ 16 := HV2.out.len
      have hLs := HV.out.l20
      have hMs := HV2.out.l20
      have hL1 := HV.out.l1
      have hM1 := HV2.out.l1
      have kLM : IntKind.i64.wrap (L + M) = L + M := IntWalk.i64_in _ (by omega)
      have kn : IntKind.i64.wrap ((S.length : Int) + (T.length : Int)) = (S.length : Int) + (T.length : Int) := IntWalk.i64_in _ (by omega)
      clear hd
      by_cases hLM : 20 < L + M
      · have hLMd : decide (20 < L + M) = true := decide_eq_true hLM
        have x1 := HJ0.out.x1
        have x2 := HJ0.out.x2
        have x3 := HJ0.out.x3
        go_enter Try.func14, Try.ntmps14
        go_wp2_with fail
        refine (HF.out).mono ?_
        rintro e w1 ⟨rfl, hb⟩
        have HJ4 := Lib.hid (HJ0.out.on hb)
        have HT5 := Lib.hid (HT0.out.below hb)
        have HC6 := Lib.hid (HC0.out.on hb)
        have HD7 := Lib.hid (HD0.out.on hb)
        have HB8 := Lib.hid (HB0.out.trans (hb.mono HB0.out.size))
        clear x1 x2 x3
        clear hb
        have x9 := HC6.out.cel 0 _ rfl
        have x10 := HC6.out.cel 1 _ rfl
        have x11 := HC6.out.cel 2 _ rfl
        go_wp2_with fail
        refine (HG.out _ HT5.out).mono ?_
        rintro e w2 ⟨rfl, hb⟩
        have HJ12 := Lib.hid (HJ4.out.on hb)
        have HT13 := Lib.hid (HT5.out.below hb)
        have HC14 := Lib.hid (HC6.out.on hb)
        have HD15 := Lib.hid (HD7.out.on hb)
        have HB16 := Lib.hid (HB8.out.trans (hb.mono HB8.out.size))
        clear x9 x10 x11
        clear hb
        have x17 := HJ12.out.x1
        have x18 := HJ12.out.x2
        have x19 := HJ12.out.x3
        have x20 := HC14.out.cel 0 _ rfl
        have x21 := HC14.out.cel 1 _ rfl
        have x22 := HC14.out.cel 2 _ rfl
        go_wp2_with fail
        refine (works_any _).mono ?_
        rintro e w3 ⟨rfl, hb⟩
        have HJ23 := Lib.hid (HJ12.out.on hb)
        have HT24 := Lib.hid (HT13.out.below hb)
        have HC25 := Lib.hid (HC14.out.on hb)
        have HD26 := Lib.hid (HD15.out.on hb)
        have HB27 := Lib.hid (HB16.out.trans (hb.mono HB16.out.size))
        clear hb
        clear x17 x18 x19 x20 x21 x22
        go_wp2_with fail
        go_ret
        exact ⟨rfl, HB27.out⟩
      · have hLMd : decide (20 < L + M) = false := decide_eq_false hLM
        by_cases hnm : 16 < S.length + T.length
        · have hnI : (16 : Int) < (S.length : Int) + (T.length : Int) := by omega
          have x28 := HJ0.out.x1
          have x29 := HJ0.out.x2
          have x30 := HJ0.out.x3
          go_enter Try.func14, Try.ntmps14
          go_wp2_with fail
          refine (HF.out).mono ?_
          rintro e w1 ⟨rfl, hb⟩
          have HJ31 := Lib.hid (HJ0.out.on hb)
          have HT32 := Lib.hid (HT0.out.below hb)
          have HC33 := Lib.hid (HC0.out.on hb)
          have HD34 := Lib.hid (HD0.out.on hb)
          have HB35 := Lib.hid (HB0.out.trans (hb.mono HB0.out.size))
          clear x28 x29 x30
          clear hb
          have x36 := HC33.out.cel 0 _ rfl
          have x37 := HC33.out.cel 1 _ rfl
          have x38 := HC33.out.cel 2 _ rfl
          go_wp2_with fail
          refine (HG.out _ HT32.out).mono ?_
          rintro e w2 ⟨rfl, hb⟩
          have HJ39 := Lib.hid (HJ31.out.on hb)
          have HT40 := Lib.hid (HT32.out.below hb)
          have HC41 := Lib.hid (HC33.out.on hb)
          have HD42 := Lib.hid (HD34.out.on hb)
          have HB43 := Lib.hid (HB35.out.trans (hb.mono HB35.out.size))
          clear x36 x37 x38
          clear hb
          have x44 := HJ39.out.x1
          have x45 := HJ39.out.x2
          have x46 := HJ39.out.x3
          have x47 := HC41.out.cel 0 _ rfl
          have x48 := HC41.out.cel 1 _ rfl
          have x49 := HC41.out.cel 2 _ rfl
          go_wp2_with fail
          refine (works_any _).mono ?_
          rintro e w3 ⟨rfl, hb⟩
          have HJ50 := Lib.hid (HJ39.out.on hb)
          have HT51 := Lib.hid (HT40.out.below hb)
          have HC52 := Lib.hid (HC41.out.on hb)
          have HD53 := Lib.hid (HD42.out.on hb)
          have HB54 := Lib.hid (HB43.out.trans (hb.mono HB43.out.size))
          clear hb
          clear x44 x45 x46 x47 x48 x49
          go_wp2_with fail
          go_ret
          exact ⟨rfl, HB54.out⟩
        · have hnI : ¬ (16 : Int) < (S.length : Int) + (T.length : Int) := by omega
          have HVT := Lib.hid (ap_valid HV.out HV2.out)
          have HZT := Lib.hid (P.checkJob_iff.2 HVT.out)
          have HZU := Lib.hid (ap_check HV.out HVT.out (by omega) (by omega))
          have HFU := Lib.hid (ap_fits HV.out HVT.out)
          have HHU : Hid (P.heavyE p (L + M) (P.both L S T) = (P.heavy S p L + P.heavy T p M, 0)) := Lib.hid (by rw [heavyE_ok HZU.out, P.heavy_both HV.out HVT.out (by omega) (by omega)])
          have HHS := Lib.hid (heavyE_ok HZ.out)
          have HHT := Lib.hid (heavyE_ok HZT.out)
          have hH1 := P.heavy_bd HV.out
          have hH2 := P.heavy_bd HVT.out
          have HPU := Lib.hid (fun fS fT => ap_plan HV.out HVT.out (by omega) (by omega) fS fT)
          have HUl : Hid ((P.both L S T).length = S.length + T.length) := Lib.hid P.both_length
          have HUz : Hid ((P.both L S T).take (S.length + 0) = S) := Lib.hid ap_zero
          have HUn : Hid (∀ j, j < T.length → (P.both L S T).take (S.length + (j + 1)) = (P.both L S T).take (S.length + j) ++ [((P.star T j).1 + L, (P.star T j).2.1 + L, (P.star T j).2.2)]) := Lib.hid (fun j hj => ap_next hj)
          have x55 := HJ0.out.x1
          have x56 := HJ0.out.x2
          have x57 := HJ0.out.x3
          go_enter Try.func14, Try.ntmps14
          go_wp2_with fail
          refine (HF.out).mono ?_
          rintro e w1 ⟨rfl, hb⟩
          have HJ58 := Lib.hid (HJ0.out.on hb)
          have HT59 := Lib.hid (HT0.out.below hb)
          have HC60 := Lib.hid (HC0.out.on hb)
          have HD61 := Lib.hid (HD0.out.on hb)
          have HB62 := Lib.hid (HB0.out.trans (hb.mono HB0.out.size))
          clear x55 x56 x57
          clear hb
          have x63 := HC60.out.cel 0 _ rfl
          have x64 := HC60.out.cel 1 _ rfl
          have x65 := HC60.out.cel 2 _ rfl
          go_wp2_with fail
          refine (HG.out _ HT59.out).mono ?_
          rintro e w2 ⟨rfl, hb⟩
          have HJ66 := Lib.hid (HJ58.out.on hb)
          have HT67 := Lib.hid (HT59.out.below hb)
          have HC68 := Lib.hid (HC60.out.on hb)
          have HD69 := Lib.hid (HD61.out.on hb)
          have HB70 := Lib.hid (HB62.out.trans (hb.mono HB62.out.size))
          clear x63 x64 x65
          clear hb
          have f0 := HC68.out.fr 0
          have hbs : Below w2.heap.size w2 w2 := Below.refl _ _
          clear hbs
          generalize P.both L S T = U at *
          generalize P.heavy S p L = H1 at *
          generalize P.heavy T p M = H2 at *
          have x71 := HJ66.out.x1
          have x72 := HJ66.out.x2
          have x73 := HJ66.out.x3
          have x74 := HC68.out.cel 0 _ rfl
          have x75 := HC68.out.cel 1 _ rfl
          have x76 := HC68.out.cel 2 _ rfl
          go_wp2_with fail
          clear x71 x72 x73 x74 x75 x76
          clear f0
          have hB3 := HB70.out.setCell (p := ⟨w.heap.size + 1, 0, none⟩) (by show w.heap.size ≤ w.heap.size + 1; omega) (.int .i64 p)
          have hD3 := HD69.out.setOther (c := w.heap.size + 1) 0 (.int .i64 p) (by omega)
          have hC3 := HC68.out.set 0 (.int .i64 p) (by simp)
          obtain ⟨w3, hw3⟩ : ∃ w3, w3 = w2.setCell ⟨w.heap.size + 1, 0, none⟩ (.int .i64 p) := ⟨_, rfl⟩
          rw [← hw3] at hB3 hD3 hC3 ⊢
          clear hw3
          have HSw := Lib.hid (HSa.out.below hB3)
          have HTw := Lib.hid (HTa.out.below hB3)
          have HJ3 := Lib.hid (hD3.job HSw.out)
          have HK3 := Lib.hid (Cells.job (p := p) (L := M) (a := a2) (cap := cap2) (S := T) hC3 HTw.out)
          have HB3 := Lib.hid hB3
          clear hB3 hD3 hC3
          refine wp_region_growst 13 [58, 59, 60, 61, 62, 63, 64, 65, 66, 67, 68, 69, 5] [KEq (.pointer (some ⟨w.heap.size, 0, none⟩)), KEq (.int .i64 p), KEq (.pointer (some ⟨w.heap.size, 1, none⟩)), KEq (.int .i64 L), KEq (.pointer (some ⟨w.heap.size + 1, 1, none⟩)), KEq (.int .i64 M), KEq (.int .i64 (L + M)), KEmp w3.heap.size, KEq (.pointer (some ⟨w.heap.size, 2, none⟩)), KEq (.slice a S.length cap), KOwn w3.heap.size S, KAgg w3.heap.size (.int .i64 p) (.int .i64 (L + M)) S, KBox w3.heap.size] (by kernel_rfl) (by kernel_rfl) (by kernel_rfl) rfl ⟨KEq.st (.pointer (some ⟨w.heap.size, 0, none⟩)), KEq.st (.int .i64 p), KEq.st (.pointer (some ⟨w.heap.size, 1, none⟩)), KEq.st (.int .i64 L), KEq.st (.pointer (some ⟨w.heap.size + 1, 1, none⟩)), KEq.st (.int .i64 M), KEq.st (.int .i64 (L + M)), KEmp.st w3.heap.size, KEq.st (.pointer (some ⟨w.heap.size, 2, none⟩)), KEq.st (.slice a S.length cap), KOwn.st w3.heap.size S, KAgg.st w3.heap.size (.int .i64 p) (.int .i64 (L + M)) S, KBox.st w3.heap.size, trivial⟩ ⟨step_out (q := 2) (by decide) rfl rfl (fun a' w' e hb => by simp [execOp, go_sem, e]), step_by1 (j := 0) (q := 58) rfl (by decide +kernel) rfl rfl (fun a' w' e hb => by have x := cell_on hb HJ3.out.x1; simp [execOp, go_sem, e, x]), step_out (q := 2) (by decide) rfl rfl (fun a' w' e hb => by simp [execOp, go_sem, e]), step_by1 (j := 2) (q := 60) rfl (by decide +kernel) rfl rfl (fun a' w' e hb => by have x := cell_on hb HJ3.out.x2; simp [execOp, go_sem, e, x]), step_out (q := 3) (by decide) rfl rfl (fun a' w' e hb => by simp [execOp, go_sem, e]), step_by1 (j := 4) (q := 62) rfl (by decide +kernel) rfl rfl (fun a' w' e hb => by have x := cell_on hb HK3.out.x2; simp [execOp, go_sem, e, x]), step_by2 (j1 := 3) (j2 := 5) (q1 := 61) (q2 := 63) rfl (by decide +kernel) rfl rfl (by decide +kernel) rfl rfl (fun a' w' e1 e2 hb => by simp [execOp, go_sem, e1, e2, kLM]), step_emp rfl, step_out (q := 2) (by decide) rfl rfl (fun a' w' e hb => by simp [execOp, go_sem, e]), step_by1 (j := 8) (q := 66) rfl (by decide +kernel) rfl rfl (fun a' w' e hb => by have x := cell_on hb HJ3.out.x3; simp [execOp, go_sem, e, x]), step_app0 (j1 := 7) (j2 := 9) HSw.out (by omega) rfl (by decide +kernel) rfl rfl (by decide +kernel) rfl rfl, step_agg (j1 := 1) (j2 := 6) (j3 := 10) rfl (by decide +kernel) rfl rfl (by decide +kernel) rfl rfl (by decide +kernel) rfl rfl (fun a' w' b c e1 e2 e3 => by simp [execOp, go_sem, e1, e2, e3]), step_box rfl, trivial⟩ ?_
          rintro w4 hb _ rfl _ rfl _ rfl _ rfl _ rfl _ rfl _ rfl _ ⟨g7, rfl, -⟩ _ rfl _ rfl v10 - _ ⟨a5, c5, rfl, hrow⟩ _ ⟨g, rfl, hge, hbox⟩
          obtain ⟨hne, hC, hX⟩ := XJ.mk' (p := p) (L := L + M) (U := S) hb hge hbox hrow
          have z0 := hC.cel 0 _ rfl
          have z1 := hC.cel 1 _ rfl
          have z2 := hC.cel 2 _ rfl
          have f0 := hC.fr 0
          have f1 := hC.fr 1
          have f2 := hC.fr 2
          have HX := Lib.hid hX
          clear hC hne hbox hrow hge hb hX
          simp only [EndsG, Act.put, List.setIfInBounds_toArray, List.set_cons_zero, List.set_cons_succ]
          intro o ho
          have ho' := Option.some.inj ho
          subst ho'
          clear ho
          go_simp
          clear z0 z1 z2 f0 f1 f2
          obtain ⟨w5, hw5⟩ : ∃ w5, w5 = ((w4.setCell ⟨g, 0, none⟩ (.int .i64 p)).setCell ⟨g, 1, none⟩ (.int .i64 (L + M))).setCell ⟨g, 2, none⟩ (.slice a5 S.length c5) := ⟨_, rfl⟩
          have HI : Hid (XJ w3 g p (L + M) (.slice a5 S.length c5) (S.length + 0) (U.take (S.length + 0)) w5) := Lib.hid (by rw [HUz.out, hw5]; exact HX.out)
          rw [← hw5]
          clear hw5 HX
          have hb5 := HI.out.bel
          have HK5 := Lib.hid (HK3.out.on hb5)
          have x3 := HK5.out.x3
          clear hb5
          go_wp2_with fail
          clear x3 HK5
          go_loopw [6, 7] (fun i _ wr => ∃ (j : Nat) (v : Value), j ≤ T.length ∧ i = .int .i64 j ∧ Hid (XJ w3 g p (L + M) v (S.length + j) (U.take (S.length + j)) wr)) (fun i _ _ => T.length - (intOf i).toNat)
          case atStart => exact ⟨0, _, by omega, rfl, HI⟩
          case round =>
            obtain ⟨j, v, hj, rfl, HI1⟩ := hrel
            clear HI
            have hb := HI1.out.bel
            have HJ77 := Lib.hid (HJ3.out.on hb)
            have HK78 := Lib.hid (HK3.out.on hb)
            have HB79 := Lib.hid (HB3.out.trans (hb.mono HB3.out.size))
            clear hb
            by_cases hlt : j < T.length
            · have hjI : (j : Int) < (T.length : Int) := by omega
              have hj0 : (0 : Int) ≤ (j : Int) := by omega
              obtain ⟨sb, so, hae, s1, s2, s3⟩ := HK78.out.st j hlt
              subst hae
              have hst := HVT.out.star hlt
              have HS := Lib.hid (HUn.out j hlt)
              have xL := HJ77.out.x2
              have x3 := HK78.out.x3
              generalize (P.star T j).1 = a0 at *
              generalize (P.star T j).2.1 = a1 at *
              generalize (P.star T j).2.2 = a2 at *
              have k1 : IntKind.i64.wrap (a0 + L) = a0 + L := IntWalk.i64_in _ (by omega)
              have k2 : IntKind.i64.wrap (a1 + L) = a1 + L := IntWalk.i64_in _ (by omega)
              clear hst
              have hbq := Below.new wr (.cells #[.int .i64 a0, .int .i64 a1, .int .i64 a2] 59)
              have hx1 := HI1.out.cel.cel 2 _ rfl
              have hx1q := cell_on hbq hx1
              have xLq := cell_on hbq xL
              clear hbq
              have hb1 : Below wr.heap.size wr ((wr.alloc (.cells #[.int .i64 a0, .int .i64 a1, .int .i64 a2] 59)).alloc (.cells #[.int .i64 (a0 + L), .int .i64 (a1 + L), .int .i64 (a2)] 59)) := (Below.new wr _).alloc (by simp) _
              have HI5 := Lib.hid (HI1.out.on hb1)
              have HSzr := Lib.hid HI1.out.bel.size
              have Hblt := Lib.hid HI1.out.cel.lt
              have Hvr : Hid (∀ g, v.ownBlock = some g → w3.heap.size ≤ g ∧ g < wr.heap.size) := Lib.hid (fun g e => HI1.out.row.lt g e)
              have Hnews : Hid (∀ j u, (encS (a0 + L, a1 + L, a2))[j]? = some u → ((wr.alloc (.cells #[.int .i64 a0, .int .i64 a1, .int .i64 a2] 59)).alloc (.cells #[.int .i64 (a0 + L), .int .i64 (a1 + L), .int .i64 (a2)] 59)).cell? ((⟨wr.heap.size + 1, 0, none⟩ : Addr).add j) = some u) := Lib.hid (by
                have := news_new (wr.alloc (.cells #[.int .i64 a0, .int .i64 a1, .int .i64 a2] 59)) #[.int .i64 (a0 + L), .int .i64 (a1 + L), .int .i64 (a2)] 59
                rw [World.size_alloc] at this; exact this)
              have hlen2 : S.length + j + 1 ≤ 2000000 := by omega
              have hszW : w3.heap.size ≤ ((wr.alloc (.cells #[.int .i64 a0, .int .i64 a1, .int .i64 a2] 59)).alloc (.cells #[.int .i64 (a0 + L), .int .i64 (a1 + L), .int .i64 (a2)] 59)).heap.size := by have := HSzr.out; simp; omega
              have HC2 : Hid (∀ w2, ((wr.alloc (.cells #[.int .i64 a0, .int .i64 a1, .int .i64 a2] 59)).alloc (.cells #[.int .i64 (a0 + L), .int .i64 (a1 + L), .int .i64 (a2)] 59)).grownBy w2 v.ownBlock → Cells w2 g [.int .i64 (p), .int .i64 (L + M), v]) := Lib.hid (fun w2 hg => HI5.out.cel.grown hg (fun e => HI1.out.off e.symm))
              have HB2 : Hid (∀ w2, ((wr.alloc (.cells #[.int .i64 a0, .int .i64 a1, .int .i64 a2] 59)).alloc (.cells #[.int .i64 (a0 + L), .int .i64 (a1 + L), .int .i64 (a2)] 59)).grownBy w2 v.ownBlock → Below w3.heap.size w3 w2) := Lib.hid (fun w2 hg => HI5.out.bel.grown hg (by have := HSzr.out; simp; omega) (fun g e => by have := (Hvr.out _ e).1; omega))
              have HOf : Hid (∀ v2 : Value, Lies v v2 ((wr.alloc (.cells #[.int .i64 a0, .int .i64 a1, .int .i64 a2] 59)).alloc (.cells #[.int .i64 (a0 + L), .int .i64 (a1 + L), .int .i64 (a2)] 59)).heap.size → v2.ownBlock ≠ some g) := Lib.hid (fun v2 h e => by
                rcases h with h | h
                · rw [h] at e; exact HI1.out.off e
                · rw [h] at e
                  have := Hblt.out
                  simp only [World.size_alloc, Option.some.injEq] at e
                  omega)
              clear hb1
              go_wp2_with (at_builtin; refine listApp T22 rfl (.tmp 83) (.tmp 97) rfl w3.heap.size v (S.length + j) (flatS (U.take (S.length + j))) (encS (a0 + L, a1 + L, a2)) 1 1 ⟨wr.heap.size + 1, 0, none⟩ rfl HI5.out.row rfl rfl Hnews.out (by simp [encS, Value.oneCell']) hlen2 hszW ?_; intro v8 w8 hown8 hg8 hL8; have HC8 := Lib.hid (HC2.out w8 hg8); have HB8 := Lib.hid (HB2.out w8 hg8); have HF8 := Lib.hid (HOf.out v8 hL8); rw [← flatS_snoc, ← HS.out] at hown8; have HR8 := Lib.hid hown8; obtain ⟨-, a5, c5, hv8, -, -⟩ := owns_stars hown8; subst hv8; have z2 := HC8.out.cel 2 _ rfl; have f2 := HC8.out.fr 2; clear hown8 hg8 hL8)
              have HN : Hid (XJ w3 g (p) (L + M) (.slice a5 (S.length + j + 1) c5) (S.length + (j + 1)) (U.take (S.length + (j + 1))) (w8.setCell ⟨g, 2, none⟩ (.slice a5 (S.length + j + 1) c5))) := Lib.hid
                ⟨HC8.out.set 2 _ (by simp), owns_setOther HR8.out g 2 (.slice a5 (S.length + j + 1) c5) HF8.out, HF8.out, HI1.out.ge, HB8.out.setCell (p := ⟨g, 2, none⟩) HI1.out.ge _⟩
              go_roundw
              case rel => exact ⟨j + 1, _, by omega, by go_num, HN⟩
              case measure => simp [intOf]; omega
            · have hjI : ¬ (j : Int) < (T.length : Int) := by omega
              have hjE : j = T.length := by omega
              subst hjE
              have HUt : Hid (U.take (S.length + T.length) = U) := Lib.hid (List.take_of_length_le (by rw [HUl.out]; exact Nat.le_refl _))
              rw [HUt.out] at HI1
              clear hlt hj
              obtain ⟨hlenU, a6, c6, rfl, hs6, -⟩ := owns_stars HI1.out.row
              have hcU := HI1.out.cel
              rw [hlenU] at hcU
              have HX := Lib.hid (hcU.job hs6)
              clear hs6 hcU
              obtain ⟨wo, hwo⟩ : ∃ wo : World, wo = wr := ⟨_, rfl⟩
              subst hwo
              have hlU : U.length ≤ 1000000 := by rw [HUl.out]; omega
              have kH : IntKind.i64.wrap (H1 + H2) = H1 + H2 := IntWalk.i64_in _ (by omega)
              cases hf1 : P.fitsB S p L
              · cases hf2 : P.fitsB T p M
                · have Hf1 := Lib.hid hf1
                  have Hf2 := Lib.hid hf2
                  have HfU : Hid (P.fitsB U p (L + M) = false) := Lib.hid (by rw [HFU.out, hf1, hf2]; rfl)
                  clear hf1 hf2
                  have x80 := HK78.out.x1
                  have x81 := HK78.out.x2
                  have x82 := HK78.out.x3
                  have hC := planned_any a cap p L S wo HZ.out HJ77.out.st
                  rw [Hf1.out] at hC
                  have HC := Lib.hid hC
                  clear hC
                  have x83 := HJ77.out.x1
                  have x84 := HJ77.out.x2
                  have x85 := HJ77.out.x3
                  go_wp2_with fail
                  refine HC.out.mono ?_
                  rintro e w4 ⟨rfl, hb⟩
                  have HJ86 := Lib.hid (HJ77.out.on hb)
                  have HK87 := Lib.hid (HK78.out.on hb)
                  have HB88 := Lib.hid (HB79.out.trans (hb.mono HB79.out.size))
                  have HX89 := Lib.hid (HX.out.on hb)
                  clear x80 x81 x82 x83 x84 x85
                  clear hb HC
                  have hC := planned_any a2 cap2 p M T w4 HZT.out HK87.out.st
                  rw [Hf2.out] at hC
                  have HC := Lib.hid hC
                  clear hC
                  have x90 := HK87.out.x1
                  have x91 := HK87.out.x2
                  have x92 := HK87.out.x3
                  go_wp2_with fail
                  refine HC.out.mono ?_
                  rintro e w5 ⟨rfl, hb⟩
                  have HJ93 := Lib.hid (HJ86.out.on hb)
                  have HK94 := Lib.hid (HK87.out.on hb)
                  have HB95 := Lib.hid (HB88.out.trans (hb.mono HB88.out.size))
                  have HX96 := Lib.hid (HX89.out.on hb)
                  clear x90 x91 x92
                  clear hb HC
                  have hC := planned_any a6 c6 p (L + M) U w5 HZU.out HX96.out.st
                  rw [HfU.out] at hC
                  have HC := Lib.hid hC
                  clear hC
                  have x97 := HX96.out.x1
                  have x98 := HX96.out.x2
                  have x99 := HX96.out.x3
                  go_wp2_with fail
                  refine HC.out.mono ?_
                  rintro e w6 ⟨rfl, hb⟩
                  have HJ100 := Lib.hid (HJ93.out.on hb)
                  have HK101 := Lib.hid (HK94.out.on hb)
                  have HB102 := Lib.hid (HB95.out.trans (hb.mono HB95.out.size))
                  have HX103 := Lib.hid (HX96.out.on hb)
                  clear x97 x98 x99
                  clear hb HC
                  have hC := heaviest_any a cap p L S w6 hl HJ100.out.st
                  rw [HHS.out] at hC
                  have HC := Lib.hid hC
                  clear hC
                  have x104 := HJ100.out.x1
                  have x105 := HJ100.out.x2
                  have x106 := HJ100.out.x3
                  go_wp2_with fail
                  refine HC.out.mono ?_
                  rintro e w7 ⟨rfl, hb⟩
                  have HJ107 := Lib.hid (HJ100.out.on hb)
                  have HK108 := Lib.hid (HK101.out.on hb)
                  have HB109 := Lib.hid (HB102.out.trans (hb.mono HB102.out.size))
                  have HX110 := Lib.hid (HX103.out.on hb)
                  clear x104 x105 x106
                  clear hb HC
                  have hC := heaviest_any a2 cap2 p M T w7 hlT HK108.out.st
                  rw [HHT.out] at hC
                  have HC := Lib.hid hC
                  clear hC
                  have x111 := HK108.out.x1
                  have x112 := HK108.out.x2
                  have x113 := HK108.out.x3
                  go_wp2_with fail
                  refine HC.out.mono ?_
                  rintro e w8 ⟨rfl, hb⟩
                  have HJ114 := Lib.hid (HJ107.out.on hb)
                  have HK115 := Lib.hid (HK108.out.on hb)
                  have HB116 := Lib.hid (HB109.out.trans (hb.mono HB109.out.size))
                  have HX117 := Lib.hid (HX110.out.on hb)
                  clear x111 x112 x113
                  clear hb HC
                  have hC := heaviest_any a6 c6 p (L + M) U w8 hlU HX117.out.st
                  rw [HHU.out] at hC
                  have HC := Lib.hid hC
                  clear hC
                  have x118 := HX117.out.x1
                  have x119 := HX117.out.x2
                  have x120 := HX117.out.x3
                  go_wp2_with fail
                  refine HC.out.mono ?_
                  rintro e w9 ⟨rfl, hb⟩
                  have HJ121 := Lib.hid (HJ114.out.on hb)
                  have HK122 := Lib.hid (HK115.out.on hb)
                  have HB123 := Lib.hid (HB116.out.trans (hb.mono HB116.out.size))
                  have HX124 := Lib.hid (HX117.out.on hb)
                  clear x118 x119 x120
                  clear hb HC
                  go_wp2_with fail
                  refine (works_any _).mono ?_
                  rintro e w10 ⟨rfl, hb⟩
                  have HJ125 := Lib.hid (HJ121.out.on hb)
                  have HK126 := Lib.hid (HK122.out.on hb)
                  have HB127 := Lib.hid (HB123.out.trans (hb.mono HB123.out.size))
                  have HX128 := Lib.hid (HX124.out.on hb)
                  clear hb
                  go_wp2_with fail
                  go_ret
                  exact ⟨rfl, HB127.out⟩
                · have Hf1 := Lib.hid hf1
                  have Hf2 := Lib.hid hf2
                  have HfU : Hid (P.fitsB U p (L + M) = false) := Lib.hid (by rw [HFU.out, hf1, hf2]; rfl)
                  clear hf1 hf2
                  have x129 := HK78.out.x1
                  have x130 := HK78.out.x2
                  have x131 := HK78.out.x3
                  have hC := planned_any a cap p L S wo HZ.out HJ77.out.st
                  rw [Hf1.out] at hC
                  have HC := Lib.hid hC
                  clear hC
                  have x132 := HJ77.out.x1
                  have x133 := HJ77.out.x2
                  have x134 := HJ77.out.x3
                  go_wp2_with fail
                  refine HC.out.mono ?_
                  rintro e w4 ⟨rfl, hb⟩
                  have HJ135 := Lib.hid (HJ77.out.on hb)
                  have HK136 := Lib.hid (HK78.out.on hb)
                  have HB137 := Lib.hid (HB79.out.trans (hb.mono HB79.out.size))
                  have HX138 := Lib.hid (HX.out.on hb)
                  clear x129 x130 x131 x132 x133 x134
                  clear hb HC
                  have hC := planned_any a2 cap2 p M T w4 HZT.out HK136.out.st
                  rw [Hf2.out] at hC
                  have HC := Lib.hid hC
                  clear hC
                  have x139 := HK136.out.x1
                  have x140 := HK136.out.x2
                  have x141 := HK136.out.x3
                  go_wp2_with fail
                  refine HC.out.mono ?_
                  rintro e w5 ⟨rfl, hb⟩
                  have HJ142 := Lib.hid (HJ135.out.on hb)
                  have HK143 := Lib.hid (HK136.out.on hb)
                  have HB144 := Lib.hid (HB137.out.trans (hb.mono HB137.out.size))
                  have HX145 := Lib.hid (HX138.out.on hb)
                  clear x139 x140 x141
                  clear hb HC
                  have hC := planned_any a6 c6 p (L + M) U w5 HZU.out HX145.out.st
                  rw [HfU.out] at hC
                  have HC := Lib.hid hC
                  clear hC
                  have x146 := HX145.out.x1
                  have x147 := HX145.out.x2
                  have x148 := HX145.out.x3
                  go_wp2_with fail
                  refine HC.out.mono ?_
                  rintro e w6 ⟨rfl, hb⟩
                  have HJ149 := Lib.hid (HJ142.out.on hb)
                  have HK150 := Lib.hid (HK143.out.on hb)
                  have HB151 := Lib.hid (HB144.out.trans (hb.mono HB144.out.size))
                  have HX152 := Lib.hid (HX145.out.on hb)
                  clear x146 x147 x148
                  clear hb HC
                  have hC := heaviest_any a cap p L S w6 hl HJ149.out.st
                  rw [HHS.out] at hC
                  have HC := Lib.hid hC
                  clear hC
                  have x153 := HJ149.out.x1
                  have x154 := HJ149.out.x2
                  have x155 := HJ149.out.x3
                  go_wp2_with fail
                  refine HC.out.mono ?_
                  rintro e w7 ⟨rfl, hb⟩
                  have HJ156 := Lib.hid (HJ149.out.on hb)
                  have HK157 := Lib.hid (HK150.out.on hb)
                  have HB158 := Lib.hid (HB151.out.trans (hb.mono HB151.out.size))
                  have HX159 := Lib.hid (HX152.out.on hb)
                  clear x153 x154 x155
                  clear hb HC
                  have hC := heaviest_any a2 cap2 p M T w7 hlT HK157.out.st
                  rw [HHT.out] at hC
                  have HC := Lib.hid hC
                  clear hC
                  have x160 := HK157.out.x1
                  have x161 := HK157.out.x2
                  have x162 := HK157.out.x3
                  go_wp2_with fail
                  refine HC.out.mono ?_
                  rintro e w8 ⟨rfl, hb⟩
                  have HJ163 := Lib.hid (HJ156.out.on hb)
                  have HK164 := Lib.hid (HK157.out.on hb)
                  have HB165 := Lib.hid (HB158.out.trans (hb.mono HB158.out.size))
                  have HX166 := Lib.hid (HX159.out.on hb)
                  clear x160 x161 x162
                  clear hb HC
                  have hC := heaviest_any a6 c6 p (L + M) U w8 hlU HX166.out.st
                  rw [HHU.out] at hC
                  have HC := Lib.hid hC
                  clear hC
                  have x167 := HX166.out.x1
                  have x168 := HX166.out.x2
                  have x169 := HX166.out.x3
                  go_wp2_with fail
                  refine HC.out.mono ?_
                  rintro e w9 ⟨rfl, hb⟩
                  have HJ170 := Lib.hid (HJ163.out.on hb)
                  have HK171 := Lib.hid (HK164.out.on hb)
                  have HB172 := Lib.hid (HB165.out.trans (hb.mono HB165.out.size))
                  have HX173 := Lib.hid (HX166.out.on hb)
                  clear x167 x168 x169
                  clear hb HC
                  go_wp2_with fail
                  refine (works_any _).mono ?_
                  rintro e w10 ⟨rfl, hb⟩
                  have HJ174 := Lib.hid (HJ170.out.on hb)
                  have HK175 := Lib.hid (HK171.out.on hb)
                  have HB176 := Lib.hid (HB172.out.trans (hb.mono HB172.out.size))
                  have HX177 := Lib.hid (HX173.out.on hb)
                  clear hb
                  go_wp2_with fail
                  go_ret
                  exact ⟨rfl, HB176.out⟩
              · cases hf2 : P.fitsB T p M
                · have Hf1 := Lib.hid hf1
                  have Hf2 := Lib.hid hf2
                  have HfU : Hid (P.fitsB U p (L + M) = false) := Lib.hid (by rw [HFU.out, hf1, hf2]; rfl)
                  clear hf1 hf2
                  have x178 := HK78.out.x1
                  have x179 := HK78.out.x2
                  have x180 := HK78.out.x3
                  have hC := planned_any a cap p L S wo HZ.out HJ77.out.st
                  rw [Hf1.out] at hC
                  have HC := Lib.hid hC
                  clear hC
                  have x181 := HJ77.out.x1
                  have x182 := HJ77.out.x2
                  have x183 := HJ77.out.x3
                  go_wp2_with fail
                  refine HC.out.mono ?_
                  rintro e w4 ⟨rfl, hb⟩
                  have HJ184 := Lib.hid (HJ77.out.on hb)
                  have HK185 := Lib.hid (HK78.out.on hb)
                  have HB186 := Lib.hid (HB79.out.trans (hb.mono HB79.out.size))
                  have HX187 := Lib.hid (HX.out.on hb)
                  clear x178 x179 x180 x181 x182 x183
                  clear hb HC
                  have hC := planned_any a2 cap2 p M T w4 HZT.out HK185.out.st
                  rw [Hf2.out] at hC
                  have HC := Lib.hid hC
                  clear hC
                  have x188 := HK185.out.x1
                  have x189 := HK185.out.x2
                  have x190 := HK185.out.x3
                  go_wp2_with fail
                  refine HC.out.mono ?_
                  rintro e w5 ⟨rfl, hb⟩
                  have HJ191 := Lib.hid (HJ184.out.on hb)
                  have HK192 := Lib.hid (HK185.out.on hb)
                  have HB193 := Lib.hid (HB186.out.trans (hb.mono HB186.out.size))
                  have HX194 := Lib.hid (HX187.out.on hb)
                  clear x188 x189 x190
                  clear hb HC
                  have hC := planned_any a6 c6 p (L + M) U w5 HZU.out HX194.out.st
                  rw [HfU.out] at hC
                  have HC := Lib.hid hC
                  clear hC
                  have x195 := HX194.out.x1
                  have x196 := HX194.out.x2
                  have x197 := HX194.out.x3
                  go_wp2_with fail
                  refine HC.out.mono ?_
                  rintro e w6 ⟨rfl, hb⟩
                  have HJ198 := Lib.hid (HJ191.out.on hb)
                  have HK199 := Lib.hid (HK192.out.on hb)
                  have HB200 := Lib.hid (HB193.out.trans (hb.mono HB193.out.size))
                  have HX201 := Lib.hid (HX194.out.on hb)
                  clear x195 x196 x197
                  clear hb HC
                  have hC := heaviest_any a cap p L S w6 hl HJ198.out.st
                  rw [HHS.out] at hC
                  have HC := Lib.hid hC
                  clear hC
                  have x202 := HJ198.out.x1
                  have x203 := HJ198.out.x2
                  have x204 := HJ198.out.x3
                  go_wp2_with fail
                  refine HC.out.mono ?_
                  rintro e w7 ⟨rfl, hb⟩
                  have HJ205 := Lib.hid (HJ198.out.on hb)
                  have HK206 := Lib.hid (HK199.out.on hb)
                  have HB207 := Lib.hid (HB200.out.trans (hb.mono HB200.out.size))
                  have HX208 := Lib.hid (HX201.out.on hb)
                  clear x202 x203 x204
                  clear hb HC
                  have hC := heaviest_any a2 cap2 p M T w7 hlT HK206.out.st
                  rw [HHT.out] at hC
                  have HC := Lib.hid hC
                  clear hC
                  have x209 := HK206.out.x1
                  have x210 := HK206.out.x2
                  have x211 := HK206.out.x3
                  go_wp2_with fail
                  refine HC.out.mono ?_
                  rintro e w8 ⟨rfl, hb⟩
                  have HJ212 := Lib.hid (HJ205.out.on hb)
                  have HK213 := Lib.hid (HK206.out.on hb)
                  have HB214 := Lib.hid (HB207.out.trans (hb.mono HB207.out.size))
                  have HX215 := Lib.hid (HX208.out.on hb)
                  clear x209 x210 x211
                  clear hb HC
                  have hC := heaviest_any a6 c6 p (L + M) U w8 hlU HX215.out.st
                  rw [HHU.out] at hC
                  have HC := Lib.hid hC
                  clear hC
                  have x216 := HX215.out.x1
                  have x217 := HX215.out.x2
                  have x218 := HX215.out.x3
                  go_wp2_with fail
                  refine HC.out.mono ?_
                  rintro e w9 ⟨rfl, hb⟩
                  have HJ219 := Lib.hid (HJ212.out.on hb)
                  have HK220 := Lib.hid (HK213.out.on hb)
                  have HB221 := Lib.hid (HB214.out.trans (hb.mono HB214.out.size))
                  have HX222 := Lib.hid (HX215.out.on hb)
                  clear x216 x217 x218
                  clear hb HC
                  go_wp2_with fail
                  refine (works_any _).mono ?_
                  rintro e w10 ⟨rfl, hb⟩
                  have HJ223 := Lib.hid (HJ219.out.on hb)
                  have HK224 := Lib.hid (HK220.out.on hb)
                  have HB225 := Lib.hid (HB221.out.trans (hb.mono HB221.out.size))
                  have HX226 := Lib.hid (HX222.out.on hb)
                  clear hb
                  go_wp2_with fail
                  go_ret
                  exact ⟨rfl, HB225.out⟩
                · have Hf1 := Lib.hid hf1
                  have Hf2 := Lib.hid hf2
                  have HfU : Hid (P.fitsB U p (L + M) = true) := Lib.hid (by rw [HFU.out, hf1, hf2]; rfl)
                  clear hf1 hf2
                  have x227 := HK78.out.x1
                  have x228 := HK78.out.x2
                  have x229 := HK78.out.x3
                  have hC := planned_any a cap p L S wo HZ.out HJ77.out.st
                  rw [Hf1.out] at hC
                  have HC := Lib.hid hC
                  clear hC
                  have x230 := HJ77.out.x1
                  have x231 := HJ77.out.x2
                  have x232 := HJ77.out.x3
                  go_wp2_with fail
                  refine HC.out.mono ?_
                  rintro e w4 ⟨rfl, hb⟩
                  have HJ233 := Lib.hid (HJ77.out.on hb)
                  have HK234 := Lib.hid (HK78.out.on hb)
                  have HB235 := Lib.hid (HB79.out.trans (hb.mono HB79.out.size))
                  have HX236 := Lib.hid (HX.out.on hb)
                  clear x227 x228 x229 x230 x231 x232
                  clear hb HC
                  have hC := planned_any a2 cap2 p M T w4 HZT.out HK234.out.st
                  rw [Hf2.out] at hC
                  have HC := Lib.hid hC
                  clear hC
                  have x237 := HK234.out.x1
                  have x238 := HK234.out.x2
                  have x239 := HK234.out.x3
                  go_wp2_with fail
                  refine HC.out.mono ?_
                  rintro e w5 ⟨rfl, hb⟩
                  have HJ240 := Lib.hid (HJ233.out.on hb)
                  have HK241 := Lib.hid (HK234.out.on hb)
                  have HB242 := Lib.hid (HB235.out.trans (hb.mono HB235.out.size))
                  have HX243 := Lib.hid (HX236.out.on hb)
                  clear x237 x238 x239
                  clear hb HC
                  have hC := planned_any a6 c6 p (L + M) U w5 HZU.out HX243.out.st
                  rw [HfU.out] at hC
                  have HC := Lib.hid hC
                  clear hC
                  have x244 := HX243.out.x1
                  have x245 := HX243.out.x2
                  have x246 := HX243.out.x3
                  go_wp2_with fail
                  refine HC.out.mono ?_
                  rintro e w6 ⟨rfl, hb⟩
                  have HJ247 := Lib.hid (HJ240.out.on hb)
                  have HK248 := Lib.hid (HK241.out.on hb)
                  have HB249 := Lib.hid (HB242.out.trans (hb.mono HB242.out.size))
                  have HX250 := Lib.hid (HX243.out.on hb)
                  clear x244 x245 x246
                  clear hb HC
                  have hC := heaviest_any a cap p L S w6 hl HJ247.out.st
                  rw [HHS.out] at hC
                  have HC := Lib.hid hC
                  clear hC
                  have x251 := HJ247.out.x1
                  have x252 := HJ247.out.x2
                  have x253 := HJ247.out.x3
                  go_wp2_with fail
                  refine HC.out.mono ?_
                  rintro e w7 ⟨rfl, hb⟩
                  have HJ254 := Lib.hid (HJ247.out.on hb)
                  have HK255 := Lib.hid (HK248.out.on hb)
                  have HB256 := Lib.hid (HB249.out.trans (hb.mono HB249.out.size))
                  have HX257 := Lib.hid (HX250.out.on hb)
                  clear x251 x252 x253
                  clear hb HC
                  have hC := heaviest_any a2 cap2 p M T w7 hlT HK255.out.st
                  rw [HHT.out] at hC
                  have HC := Lib.hid hC
                  clear hC
                  have x258 := HK255.out.x1
                  have x259 := HK255.out.x2
                  have x260 := HK255.out.x3
                  go_wp2_with fail
                  refine HC.out.mono ?_
                  rintro e w8 ⟨rfl, hb⟩
                  have HJ261 := Lib.hid (HJ254.out.on hb)
                  have HK262 := Lib.hid (HK255.out.on hb)
                  have HB263 := Lib.hid (HB256.out.trans (hb.mono HB256.out.size))
                  have HX264 := Lib.hid (HX257.out.on hb)
                  clear x258 x259 x260
                  clear hb HC
                  have hC := heaviest_any a6 c6 p (L + M) U w8 hlU HX264.out.st
                  rw [HHU.out] at hC
                  have HC := Lib.hid hC
                  clear hC
                  have x265 := HX264.out.x1
                  have x266 := HX264.out.x2
                  have x267 := HX264.out.x3
                  go_wp2_with fail
                  refine HC.out.mono ?_
                  rintro e w9 ⟨rfl, hb⟩
                  have HJ268 := Lib.hid (HJ261.out.on hb)
                  have HK269 := Lib.hid (HK262.out.on hb)
                  have HB270 := Lib.hid (HB263.out.trans (hb.mono HB263.out.size))
                  have HX271 := Lib.hid (HX264.out.on hb)
                  clear x265 x266 x267
                  clear hb HC
                  have HfS := Lib.hid (P.fitsB_iff.1 Hf1.out)
                  have HfT := Lib.hid (P.fitsB_iff.1 Hf2.out)
                  have HP1 := Lib.hid (planE_yes HZ.out Hf1.out)
                  have HP2 := Lib.hid (planE_yes HZT.out Hf2.out)
                  have HP3 : Hid (P.planE p (L + M) U = (P.wearsB L (P.plan S p L) (P.plan T p M), 0)) := Lib.hid (by rw [planE_yes HZU.out HfU.out, HPU.out HfS.out HfT.out])
                  have HL1 := Lib.hid (plan_len HV.out HfS.out)
                  have HL2 := Lib.hid (plan_len HVT.out HfT.out)
                  have HPb := Lib.hid (plan_bd HVT.out HfT.out)
                  generalize P.plan S p L = pS at *
                  generalize P.plan T p M = pT at *
                  have hC := plan_any a cap p L S w9 hl HJ268.out.st
                  rw [HP1.out] at hC
                  dsimp only at hC
                  have HC := Lib.hid hC
                  clear hC
                  have x272 := HJ268.out.x1
                  have x273 := HJ268.out.x2
                  have x274 := HJ268.out.x3
                  go_wp2_with fail
                  refine HC.out.mono ?_
                  rintro e w10 ⟨Ap, Cp, rfl, hi, hb⟩
                  have HJ275 := Lib.hid (HJ268.out.on hb)
                  have HK276 := Lib.hid (HK269.out.on hb)
                  have HB277 := Lib.hid (HB270.out.trans (hb.mono HB270.out.size))
                  have HX278 := Lib.hid (HX271.out.on hb)
                  have Ip := Lib.hid hi
                  clear x272 x273 x274
                  clear hb hi HC
                  have hC := plan_any a2 cap2 p M T w10 hlT HK276.out.st
                  rw [HP2.out] at hC
                  dsimp only at hC
                  have HC := Lib.hid hC
                  clear hC
                  have x279 := HK276.out.x1
                  have x280 := HK276.out.x2
                  have x281 := HK276.out.x3
                  go_wp2_with fail
                  refine HC.out.mono ?_
                  rintro e w11 ⟨Aq, Cq, rfl, hi, hb⟩
                  have HJ282 := Lib.hid (HJ275.out.on hb)
                  have HK283 := Lib.hid (HK276.out.on hb)
                  have HB284 := Lib.hid (HB277.out.trans (hb.mono HB277.out.size))
                  have HX285 := Lib.hid (HX278.out.on hb)
                  have Ip286 := Lib.hid (Ip.out.below hb)
                  have Iq := Lib.hid hi
                  clear x279 x280 x281
                  clear hb hi HC
                  have hC := plan_any a6 c6 p (L + M) U w11 hlU HX285.out.st
                  rw [HP3.out] at hC
                  dsimp only at hC
                  have HC := Lib.hid hC
                  clear hC
                  have x287 := HX285.out.x1
                  have x288 := HX285.out.x2
                  have x289 := HX285.out.x3
                  go_wp2_with fail
                  refine HC.out.mono ?_
                  rintro e w12 ⟨Ar, Cr, rfl, hi, hb⟩
                  have HJ290 := Lib.hid (HJ282.out.on hb)
                  have HK291 := Lib.hid (HK283.out.on hb)
                  have HB292 := Lib.hid (HB284.out.trans (hb.mono HB284.out.size))
                  have HX293 := Lib.hid (HX285.out.on hb)
                  have Ip294 := Lib.hid (Ip286.out.below hb)
                  have Iq295 := Lib.hid (Iq.out.below hb)
                  have Ir := Lib.hid hi
                  clear x287 x288 x289
                  clear hb hi HC
                  rcases Ap with _ | pad
                  · have hp0 : pS = [] := List.eq_nil_of_length_eq_zero (by
                      cases hz : pS.length with
                      | zero => rfl
                      | succ q => obtain ⟨b, o, e, -⟩ := Ip294.out 0 (by omega); cases e)
                    subst hp0
                    have HOw : Hid ((w12.alloc (.cells #[] 3)).ownsRow w12.heap.size 3 1 (.slice (some ⟨w12.heap.size, 0, none⟩) 0 0) ([] : List Int).length (([] : List Int).map (.int .i64))) := Lib.hid (owns_empty w12 3 1 (Nat.le_refl _))
                    have hb := Below.new w12 (.cells #[] 3)
                    go_wp2_with (at_builtin; refine listApp0 T25 rfl (.tmp 185) (.tmp 186) rfl w12.heap.size Cp rfl rfl ?_)
                    have HB9 := Lib.hid hb
                    clear hb
                    have HOz : Hid ((w12.alloc (.cells #[] 3)).ownsRow w12.heap.size 3 1 (.slice (some ⟨w12.heap.size, 0, none⟩) 0 0) (([] : List Int).length + 0) ((([] : List Int) ++ (pT.take 0).map (fun w => w + L)).map (.int .i64))) := Lib.hid (by rw [List.take_zero, List.map_nil, List.append_nil]; exact HOw.out)
                    go_loopw [26, 27] (fun v i wr => ∃ j : Nat, j ≤ pT.length ∧ i = .int .i64 j ∧ Hid (wr.ownsRow w12.heap.size 3 1 v (([] : List Int).length + j) ((([] : List Int) ++ (pT.take j).map (fun w => w + L)).map (.int .i64))) ∧ Hid (Below w12.heap.size w12 wr)) (fun _ i _ => pT.length - (intOf i).toNat)
                    case atStart => exact ⟨0, by omega, rfl, HOz, HB9⟩
                    case round =>
                      clear HOz HOw HB9
                      obtain ⟨j, hj, rfl, HO, HBh⟩ := hrel
                      have hb := HBh.out
                      have hszw := hb.size
                      have HJ296 := Lib.hid (HJ290.out.on hb)
                      have HK297 := Lib.hid (HK291.out.on hb)
                      have HB298 := Lib.hid (HB292.out.trans (hb.mono HB292.out.size))
                      have HX299 := Lib.hid (HX293.out.on hb)
                      have Iq300 := Lib.hid (Iq295.out.below hb)
                      have Ir301 := Lib.hid (Ir.out.below hb)
                      by_cases hlt : j < pT.length
                      · obtain ⟨qb, qo, hqe, c0⟩ := Iq295.out j hlt
                        subst hqe
                        have hqb : qb < w12.heap.size := World.block_lt_of_cell? _ _ c0
                        have hjb := HJ290.out.lt
                        have c1 := cell_on hb c0
                        have xL := HJ296.out.x2
                        have hvb := HPb.out j hlt
                        have HT2 := Lib.hid (both_next ([] : List Int) pT L hlt)
                        have hj0 : (0 : Int) ≤ (j : Int) := by omega
                        have hjI : (j : Int) < (pT.length : Int) := by omega
                        have hn : ([] : List Int).length + j + 1 ≤ 2000000 := by have := HL1.out; have := HL2.out; omega
                        have hpl20 : pT.length ≤ 16 := by have := HL2.out; omega
                        have n1 : u26.ownBlock ≠ some qb := fun e => by have := (HO.out.lt _ e).1; omega
                        have n3 : u26.ownBlock ≠ some w.heap.size := fun e => by have := (HO.out.lt _ e).1; omega
                        generalize nth pT j = V at *
                        have kV : IntKind.i64.wrap (V + L) = V + L := IntWalk.i64_in _ (by omega)
                        clear hvb c0 hb
                        go_wp2_with fail
                        go_region_held3 (fun w' => w'.cell? ⟨qb, qo + j, none⟩ = some (.int .i64 V) ∧ w'.cell? ⟨w.heap.size, 1, none⟩ = some (.int .i64 L))
                          (first | exact ⟨hg2.cell (by go_keep) (fun e => n1 e.symm), hg2.cell (by go_keep) (fun e => n3 e.symm)⟩ | go_keep)
                          ((refine stepApp T25 (by rfl) (.tmp 194) (.tmp 202) (by rfl) w12.heap.size u26 (([] : List Int).length + j) ((([] : List Int) ++ (pT.take j).map (fun w => w + L)).map (.int .i64)) [.int .i64 (V + L)] 1 1 ⟨wr.heap.size, 0, none⟩ (by rfl) (HO.out.alloc _) (by rfl) (by rfl) (news_new _ _ _) (by simp [Value.oneCell']) hn (by simp; omega) ?_; intro v2 w2 hown2 hg2 hL2))
                        go_wp2_with fail
                        go_roundw
                        case rel => exact ⟨j + 1, by omega, by go_num, by rw [HT2.out]; exact Lib.hid hown2, Lib.hid (((HBh.out.drew).alloc (by simp; omega) _).grown hg2 (by simp; omega) (fun g e => (HO.out.lt g e).1))⟩
                        case measure => simp [intOf]; omega
                      · have hjI : ¬ (j : Int) < (pT.length : Int) := by omega
                        have hjE : j = pT.length := by omega
                        subst hjE
                        have HO2 := HO.out
                        rw [List.take_length] at HO2
                        have hwl : ([] : List Int).length + pT.length = (P.wearsB L ([] : List Int) pT).length := by simp [P.wearsB]
                        have hw6 : (P.wearsB L ([] : List Int) pT).length ≤ 1000000 := by have := HL1.out; have := HL2.out; omega
                        rw [hwl] at HO2
                        obtain ⟨-, A4, C4, rfl, hi4, -⟩ := Ints.of_ownsRow HO2
                        have I4 := Lib.hid (show Ints .i64 wr A4 (P.wearsB L ([] : List Int) pT) from hi4)
                        clear hi4 HO2 hwl hlt hj hb
                        have HC := Lib.hid (ints_same Ar Cr (P.wearsB L ([] : List Int) pT).length (P.wearsB L ([] : List Int) pT) A4 C4 wr rfl hw6 Ir301.out I4.out)
                        go_wp2_with fail
                        refine HC.out.mono ?_
                        rintro e w13 ⟨rfl, hb⟩
                        have HJ302 := Lib.hid (HJ296.out.on hb)
                        have HK303 := Lib.hid (HK297.out.on hb)
                        have HB304 := Lib.hid (HB298.out.trans (hb.mono HB298.out.size))
                        have HX305 := Lib.hid (HX299.out.on hb)
                        have Iq306 := Lib.hid (Iq300.out.below hb)
                        have Ir307 := Lib.hid (Ir301.out.below hb)
                        have I4308 := Lib.hid (I4.out.below hb)
                        clear hb HC
                        go_wp2_with fail
                        refine (works_any _).mono ?_
                        rintro e w14 ⟨rfl, hb⟩
                        have HJ309 := Lib.hid (HJ302.out.on hb)
                        have HK310 := Lib.hid (HK303.out.on hb)
                        have HB311 := Lib.hid (HB304.out.trans (hb.mono HB304.out.size))
                        have HX312 := Lib.hid (HX305.out.on hb)
                        have Iq313 := Lib.hid (Iq306.out.below hb)
                        have Ir314 := Lib.hid (Ir307.out.below hb)
                        have I4315 := Lib.hid (I4308.out.below hb)
                        clear hb
                        go_wp2_with fail
                        go_ret
                        exact ⟨rfl, HB311.out⟩
                  · have hb0 := Below.new w12 (.cells #[] 3)
                    have HO1 : Hid ((w12.alloc (.cells #[] 3)).ownsRow w12.heap.size 3 1 (.slice (some ⟨w12.heap.size, 0, none⟩) 0 0) 0 []) := Lib.hid (owns_empty w12 3 1 (Nat.le_refl _))
                    have HN := Lib.hid ((Ip294.out.below hb0).news)
                    have hlt0 : w12.heap.size ≤ (w12.alloc (.cells #[] 3)).heap.size := by simp
                    have hln : 0 + pS.length ≤ 2000000 := by have := HL1.out; omega
                    clear hb0
                    go_wp2_with (at_builtin; refine listApp T25 rfl (.tmp 185) (.tmp 186) rfl w12.heap.size (.slice (some ⟨w12.heap.size, 0, none⟩) 0 0) 0 [] (pS.map (.int .i64)) pS.length Cp pad rfl HO1.out rfl (by simp) HN.out (ints_one pS) hln hlt0 ?_; intro v9 w9 hown9 hg9 hL9)
                    have hb := (Below.new w12 (.cells #[] 3)).grown hg9 (by simp) (fun k e => by simp [Value.ownBlock] at e; omega)
                    have HOw : Hid (w9.ownsRow w12.heap.size 3 1 v9 pS.length (pS.map (.int .i64))) := Lib.hid (by rw [Nat.zero_add, List.nil_append] at hown9; exact hown9)
                    clear hown9 hg9 hL9
                    have HB9 := Lib.hid hb
                    clear hb
                    have HOz : Hid (w9.ownsRow w12.heap.size 3 1 v9 (pS.length + 0) ((pS ++ (pT.take 0).map (fun w => w + L)).map (.int .i64))) := Lib.hid (by rw [List.take_zero, List.map_nil, List.append_nil]; exact HOw.out)
                    go_loopw [26, 27] (fun v i wr => ∃ j : Nat, j ≤ pT.length ∧ i = .int .i64 j ∧ Hid (wr.ownsRow w12.heap.size 3 1 v (pS.length + j) ((pS ++ (pT.take j).map (fun w => w + L)).map (.int .i64))) ∧ Hid (Below w12.heap.size w12 wr)) (fun _ i _ => pT.length - (intOf i).toNat)
                    case atStart => exact ⟨0, by omega, rfl, HOz, HB9⟩
                    case round =>
                      clear HOz HOw HB9
                      obtain ⟨j, hj, rfl, HO, HBh⟩ := hrel
                      have hb := HBh.out
                      have hszw := hb.size
                      have HJ316 := Lib.hid (HJ290.out.on hb)
                      have HK317 := Lib.hid (HK291.out.on hb)
                      have HB318 := Lib.hid (HB292.out.trans (hb.mono HB292.out.size))
                      have HX319 := Lib.hid (HX293.out.on hb)
                      have Iq320 := Lib.hid (Iq295.out.below hb)
                      have Ir321 := Lib.hid (Ir.out.below hb)
                      by_cases hlt : j < pT.length
                      · obtain ⟨qb, qo, hqe, c0⟩ := Iq295.out j hlt
                        subst hqe
                        have hqb : qb < w12.heap.size := World.block_lt_of_cell? _ _ c0
                        have hjb := HJ290.out.lt
                        have c1 := cell_on hb c0
                        have xL := HJ316.out.x2
                        have hvb := HPb.out j hlt
                        have HT2 := Lib.hid (both_next pS pT L hlt)
                        have hj0 : (0 : Int) ≤ (j : Int) := by omega
                        have hjI : (j : Int) < (pT.length : Int) := by omega
                        have hn : pS.length + j + 1 ≤ 2000000 := by have := HL1.out; have := HL2.out; omega
                        have hpl20 : pT.length ≤ 16 := by have := HL2.out; omega
                        have n1 : u26.ownBlock ≠ some qb := fun e => by have := (HO.out.lt _ e).1; omega
                        have n3 : u26.ownBlock ≠ some w.heap.size := fun e => by have := (HO.out.lt _ e).1; omega
                        generalize nth pT j = V at *
                        have kV : IntKind.i64.wrap (V + L) = V + L := IntWalk.i64_in _ (by omega)
                        clear hvb c0 hb
                        go_wp2_with fail
                        go_region_held3 (fun w' => w'.cell? ⟨qb, qo + j, none⟩ = some (.int .i64 V) ∧ w'.cell? ⟨w.heap.size, 1, none⟩ = some (.int .i64 L))
                          (first | exact ⟨hg2.cell (by go_keep) (fun e => n1 e.symm), hg2.cell (by go_keep) (fun e => n3 e.symm)⟩ | go_keep)
                          ((refine stepApp T25 (by rfl) (.tmp 194) (.tmp 202) (by rfl) w12.heap.size u26 (pS.length + j) ((pS ++ (pT.take j).map (fun w => w + L)).map (.int .i64)) [.int .i64 (V + L)] 1 1 ⟨wr.heap.size, 0, none⟩ (by rfl) (HO.out.alloc _) (by rfl) (by rfl) (news_new _ _ _) (by simp [Value.oneCell']) hn (by simp; omega) ?_; intro v2 w2 hown2 hg2 hL2))
                        go_wp2_with fail
                        go_roundw
                        case rel => exact ⟨j + 1, by omega, by go_num, by rw [HT2.out]; exact Lib.hid hown2, Lib.hid (((HBh.out.drew).alloc (by simp; omega) _).grown hg2 (by simp; omega) (fun g e => (HO.out.lt g e).1))⟩
                        case measure => simp [intOf]; omega
                      · have hjI : ¬ (j : Int) < (pT.length : Int) := by omega
                        have hjE : j = pT.length := by omega
                        subst hjE
                        have HO2 := HO.out
                        rw [List.take_length] at HO2
                        have hwl : pS.length + pT.length = (P.wearsB L pS pT).length := by simp [P.wearsB]
                        have hw6 : (P.wearsB L pS pT).length ≤ 1000000 := by have := HL1.out; have := HL2.out; omega
                        rw [hwl] at HO2
                        obtain ⟨-, A4, C4, rfl, hi4, -⟩ := Ints.of_ownsRow HO2
                        have I4 := Lib.hid (show Ints .i64 wr A4 (P.wearsB L pS pT) from hi4)
                        clear hi4 HO2 hwl hlt hj hb
                        have HC := Lib.hid (ints_same Ar Cr (P.wearsB L pS pT).length (P.wearsB L pS pT) A4 C4 wr rfl hw6 Ir321.out I4.out)
                        go_wp2_with fail
                        refine HC.out.mono ?_
                        rintro e w13 ⟨rfl, hb⟩
                        have HJ322 := Lib.hid (HJ316.out.on hb)
                        have HK323 := Lib.hid (HK317.out.on hb)
                        have HB324 := Lib.hid (HB318.out.trans (hb.mono HB318.out.size))
                        have HX325 := Lib.hid (HX319.out.on hb)
                        have Iq326 := Lib.hid (Iq320.out.below hb)
                        have Ir327 := Lib.hid (Ir321.out.below hb)
                        have I4328 := Lib.hid (I4.out.below hb)
                        clear hb HC
                        go_wp2_with fail
                        refine (works_any _).mono ?_
                        rintro e w14 ⟨rfl, hb⟩
                        have HJ329 := Lib.hid (HJ322.out.on hb)
                        have HK330 := Lib.hid (HK323.out.on hb)
                        have HB331 := Lib.hid (HB324.out.trans (hb.mono HB324.out.size))
                        have HX332 := Lib.hid (HX325.out.on hb)
                        have Iq333 := Lib.hid (Iq326.out.below hb)
                        have Ir334 := Lib.hid (Ir327.out.below hb)
                        have I4335 := Lib.hid (I4328.out.below hb)
                        clear hb
                        go_wp2_with fail
                        go_ret
                        exact ⟨rfl, HB331.out⟩
    · rw [decide_eq_false hd] at HG
      clear hd
      have x336 := HJ0.out.x1
      have x337 := HJ0.out.x2
      have x338 := HJ0.out.x3
      go_enter Try.func14, Try.ntmps14
      go_wp2_with fail
      refine (HF.out).mono ?_
      rintro e w1 ⟨rfl, hb⟩
      have HJ339 := Lib.hid (HJ0.out.on hb)
      have HT340 := Lib.hid (HT0.out.below hb)
      have HC341 := Lib.hid (HC0.out.on hb)
      have HD342 := Lib.hid (HD0.out.on hb)
      have HB343 := Lib.hid (HB0.out.trans (hb.mono HB0.out.size))
      clear x336 x337 x338
      clear hb
      have x344 := HC341.out.cel 0 _ rfl
      have x345 := HC341.out.cel 1 _ rfl
      have x346 := HC341.out.cel 2 _ rfl
      go_wp2_with fail
      refine (HG.out _ HT340.out).mono ?_
      rintro e w2 ⟨rfl, hb⟩
      have HJ347 := Lib.hid (HJ339.out.on hb)
      have HT348 := Lib.hid (HT340.out.below hb)
      have HC349 := Lib.hid (HC341.out.on hb)
      have HD350 := Lib.hid (HD342.out.on hb)
      have HB351 := Lib.hid (HB343.out.trans (hb.mono HB343.out.size))
      clear x344 x345 x346
      clear hb
      go_wp2_with fail
      refine (works_any _).mono ?_
      rintro e w3 ⟨rfl, hb⟩
      have HJ352 := Lib.hid (HJ347.out.on hb)
      have HT353 := Lib.hid (HT348.out.below hb)
      have HC354 := Lib.hid (HC349.out.on hb)
      have HD355 := Lib.hid (HD350.out.on hb)
      have HB356 := Lib.hid (HB351.out.trans (hb.mono HB351.out.size))
      clear hb
      go_wp2_with fail
      go_ret
      exact ⟨rfl, HB356.out⟩
  · rw [decide_eq_false hc] at HF
    have HF := Lib.hid HF
    clear hc
    have x357 := HJ0.out.x1
    have x358 := HJ0.out.x2
    have x359 := HJ0.out.x3
    go_enter Try.func14, Try.ntmps14
    go_wp2_with fail
    refine (HF.out).mono ?_
    rintro e w1 ⟨rfl, hb⟩
    have HJ360 := Lib.hid (HJ0.out.on hb)
    have HT361 := Lib.hid (HT0.out.below hb)
    have HC362 := Lib.hid (HC0.out.on hb)
    have HD363 := Lib.hid (HD0.out.on hb)
    have HB364 := Lib.hid (HB0.out.trans (hb.mono HB0.out.size))
    clear x357 x358 x359
    clear hb
    go_wp2_with fail
    refine (works_any _).mono ?_
    rintro e w2 ⟨rfl, hb⟩
    have HJ365 := Lib.hid (HJ360.out.on hb)
    have HT366 := Lib.hid (HT361.out.below hb)
    have HC367 := Lib.hid (HC362.out.on hb)
    have HD368 := Lib.hid (HD363.out.on hb)
    have HB369 := Lib.hid (HB364.out.trans (hb.mono HB364.out.size))
    clear hb
    go_wp2_with fail
    go_ret
    exact ⟨rfl, HB369.out⟩
end Go.Proofs.Ytpkffjcmoghaaaa
