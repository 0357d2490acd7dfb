/- Walk of IndexNear. -/
import Derived.Test.YtcjbnifafofpbaaGreatDoorJ21
namespace Go.Proofs.YtcjbnifafofpbaaGreatDoor
open Go.RowKit Go.Lib
theorem u8_bd' {n : Int} (h : (Lit.int .u8 n).wf = true) : 0 ≤ n ∧ n ≤ 255 := by
  simp [Lit.wf] at h
  have h1 : IntKind.u8.min = 0 := by decide
  have h2 : IntKind.u8.max = 255 := by decide
  omega
theorem tmodN (N L : Nat) : (N : Int).tmod (L : Int) = ((N % L : Nat) : Int) := by
  rw [Int.tmod_eq_emod_of_nonneg (by omega)]; simp
/-- A tuple of a slice of words and an error. -/
def KT (l : List X.W) (c : Int) : Known := fun v w => ∃ a cp, v = .tuple #[.slice a l.length cp, .int .i64 c] ∧ Strs w a l ∧ (a = none → cp = 0)
theorem KT.st (l : List X.W) (c : Int) : ∀ v w w', KT l c v w → RowKit.Below w.heap.size w w' → KT l c v w' := fun _ _ _ ⟨a, cp, e, h, z⟩ hb => ⟨a, cp, e, h.below hb, z⟩
section
variable {Q : Exit → Act → World → Prop} {R : List Known} {ks : List Nat} {a : Act} {w : World} {i : Nat} {dst : Option Tmp} {ty : TypeId} {pos : String} {after : Array Edge}
set_option maxRecDepth 20000 in
theorem step_near {l L : List X.W} {x : X.W} {n : Int} {b : Option Addr} {cap : Nat} {ats : Array TypeId} {j1 j2 q1 q2 : Nat} (hq1 : ks.getD j1 0 = q1) (hj1 : j1 ∈ (after.toList.filter (fun e => Region.binds .any e)).map (fun e => e.on)) (hR1 : Rat R j1 = KEq (.slice b l.length cap))
    (hq2 : ks.getD j2 0 = q2) (hj2 : j2 ∈ (after.toList.filter (fun e => Region.binds .any e)).map (fun e => e.on)) (hR2 : Rat R j2 = KEq (sv x)) (hR : Rat R i = KT L 0)
    (hl : l.length ≤ 1000000) (hrl : Rooms l) (hx : x.length ≤ 1000000) (hs : Strs w b l) (he : X.nearE l x n = (L, 0)) :
    StepG Tryz.prog Q R ks a w i ⟨dst, .call { callee := .value (.func 39), args := #[.tmp q1, .tmp q2, .const (.int .i64 n)], argTypes := ats }, ty, pos, after, none⟩ := by
  intro a' w' hA hb hd K hK
  have e1 : a'.eval (.tmp q1) = .slice b l.length cap := by have := hd j1 hj1; rw [hR1, hq1] at this; exact this
  have e2 : a'.eval (.tmp q2) = sv x := by have := hd j2 hj2; rw [hR2, hq2] at this; exact this
  have hC := nearM_any b cap l x n w' hl hrl hx (hs.below hb)
  rw [he] at hC
  refine op_call rfl (enters_of Tryz.func39 (by kernel_rfl) rfl) (args := #[.slice b l.length cap, sv x, .int .i64 n]) (by simp [← e1, ← e2]; rfl) hC (fun e' w'' hO => ?_)
  obtain ⟨aa, cc, rfl, h1, h2, h3⟩ := hO
  exact ⟨_, rfl, hK _ _ h3 (by rw [hR]; exact ⟨aa, cc, rfl, h1, h2.2⟩)⟩
theorem step_copyK {Kn : Known} {j q : Nat} (hq : ks.getD j 0 = q) (hj : j ∈ (after.toList.filter (fun e => Region.binds .any e)).map (fun e => e.on)) (hRj : Rat R j = Kn) (hR : Rat R i = Kn) :
    StepG Tryz.prog Q R ks a w i ⟨dst, .move (.tmp q), ty, pos, after, none⟩ := by
  intro a' w' hA hb hd K hK
  have e := hd j hj
  rw [hRj, hq] at e
  exact op_value (v := a'.eval (.tmp q)) (w' := w') (by simp [execOp, go_sem, Act.eval]) (hK _ _ (RowKit.Below.refl _ _) (by rw [hR]; exact e))
theorem step_assignK {Kn : Known} {j q : Nat} (hq : ks.getD j 0 = q) (hj : j ∈ (after.toList.filter (fun e => Region.binds .any e)).map (fun e => e.on)) (hRj : Rat R j = Kn) (hR : Rat R i = Kn) :
    StepG Tryz.prog Q R ks a w i ⟨dst, .assign (.tmp q), ty, pos, after, none⟩ := by
  intro a' w' hA hb hd K hK
  have e := hd j hj
  rw [hRj, hq] at e
  exact op_value (v := a'.eval (.tmp q)) (w' := w') (by simp [execOp, go_sem, Act.eval]) (hK _ _ (RowKit.Below.refl _ _) (by rw [hR]; exact e))
theorem step_fst {l : List X.W} {c : Int} {j q : Nat} (hq : ks.getD j 0 = q) (hj : j ∈ (after.toList.filter (fun e => Region.binds .any e)).map (fun e => e.on)) (hRj : Rat R j = KT l c) (hR : Rat R i = KSt l) :
    StepG Tryz.prog Q R ks a w i ⟨dst, .extract (.tmp q) 0, ty, pos, after, none⟩ := by
  intro a' w' hA hb hd K hK
  obtain ⟨aa, cc, e, h1, h2⟩ : KT l c (a'.eval (.tmp q)) w' := by have := hd j hj; rw [hRj, hq] at this; exact this
  have e' := tmp_of e
  exact op_value (w' := w') (v := .slice aa l.length cc) (by simp [execOp, go_sem, e']) (hK _ _ (RowKit.Below.refl _ _) (by rw [hR]; exact ⟨aa, cc, rfl, h1, h2⟩))
theorem step_snd {l : List X.W} {c : Int} {j q : Nat} (hq : ks.getD j 0 = q) (hj : j ∈ (after.toList.filter (fun e => Region.binds .any e)).map (fun e => e.on)) (hRj : Rat R j = KT l c) (hR : Rat R i = KEq (.int .i64 c)) :
    StepG Tryz.prog Q R ks a w i ⟨dst, .extract (.tmp q) 1, ty, pos, after, none⟩ := by
  intro a' w' hA hb hd K hK
  obtain ⟨aa, cc, e, h1, h2⟩ : KT l c (a'.eval (.tmp q)) w' := by have := hd j hj; rw [hRj, hq] at this; exact this
  have e' := tmp_of e
  exact op_value (w' := w') (v := .int .i64 c) (by simp [execOp, go_sem, e']) (hK _ _ (RowKit.Below.refl _ _) (by rw [hR]; rfl))
end
set_option maxRecDepth 20000 in
set_option maxHeartbeats 8000000 in
theorem near_walk (a0 : Option Addr) (cap0 : Nat) (l0 : List X.W) (s1 : X.W) (n2 : Int) (n3 : Int) (w : World) (z0 : a0 = none → cap0 = 0) (w0 : Strs w a0 l0)  (w2 : (Lit.int .u8 n2).wf = true) (w3 : (Lit.int .u8 n3).wf = true) :
    Calls Tryz.prog 10 #[.slice a0 l0.length cap0, sv s1, .int .u8 n2, .int .u8 n3] w fun e w' => e = .returned (.bool true) ∧ RowKit.Below w.heap.size w w' := by
  have HB0 := Lib.hid (RowKit.Below.refl w.heap.size w)
  have I0 := Lib.hid w0
  clear w0
  obtain ⟨N, rfl⟩ : ∃ N : Nat, n2 = (N : Int) := ⟨n2.toNat, by have := u8_bd' w2; omega⟩
  have hN := u8_bd' w2
  obtain ⟨M, rfl⟩ : ∃ M : Nat, n3 = (M : Int) := ⟨n3.toNat, by have := u8_bd' w3; omega⟩
  have hM := u8_bd' w3
  clear w2 w3
  by_cases h0 : X.listE l0 = 0
  case pos =>
    have hL0 := X.listE_iff.1 h0
    have e0 := hL0.many
    have HR0 := Lib.hid (rooms_of (fun s hs => by have := hL0.long s hs; omega : ∀ s ∈ l0, s.length ≤ 1000))
    have HD0 := Lib.hid (decide_eq_true h0)
    have HL := Lib.hid hL0
    by_cases h1 : 20 < s1.length
    case pos =>
      clear h0 hL0
      have hI1 : (20 : Int) < (s1.length : Int) := by omega
      go_enter Tryz.func10, Tryz.ntmps10
      have hC := fine_any a0 cap0 l0 w I0.out
      rw [HD0.out] at hC
      have HC := Lib.hid hC
      clear hC
      go_wp2_with fail
      refine HC.out.mono ?_
      rintro e w1 ⟨rfl, hd⟩
      have hb := hd.below w.heap.size
      clear hd
      have hb := hb
      have HB0 := Lib.hid (HB0.out.trans (hb.mono HB0.out.size))
      have I01 := Lib.hid (I0.out.below hb)
      clear hb HC
      have HC := Lib.hid (works_any w1)
      go_wp2_with fail
      refine HC.out.mono ?_
      rintro e w2 ⟨rfl, hb⟩
      have HB2 := Lib.hid (HB0.out.trans (hb.mono HB0.out.size))
      have I03 := Lib.hid (I01.out.below hb)
      clear hb HC
      go_wp2_with fail
      go_ret
      exact ⟨rfl, HB2.out⟩
    case neg =>
      have hI1 : ¬ (20 : Int) < (s1.length : Int) := by omega
      by_cases hx : X.wordE s1 = 0
      case pos =>
        have HX := Lib.hid hx
        have hlx := (X.wordE_iff.1 hx).1
        have q0 : X.nearE l0 s1 0 = (l0.filter (fun s => X.near 0 s s1), 0) := X.nearE_ok hL0 hx (n := 0) (by omega)
        have q1 : X.nearE l0 s1 1 = (l0.filter (fun s => X.near 1 s s1), 0) := X.nearE_ok hL0 hx (n := 1) (by omega)
        have q2 : X.nearE l0 s1 2 = (l0.filter (fun s => X.near 2 s s1), 0) := X.nearE_ok hL0 hx (n := 2) (by omega)
        rw [X.near_zero hL0] at q0
        have v0 := withinL_iff.2 (X.near_within (l := l0) (w := s1) (m := 0) (n := 1) (by omega))
        rw [X.near_zero hL0] at v0
        have v1 := withinL_iff.2 (X.near_within (l := l0) (w := s1) (m := 1) (n := 2) (by omega))
        have v2 : withinL (l0.filter (fun s => X.near 2 s s1)) l0 = true := withinL_iff.2 (fun s hs => (List.mem_filter.1 hs).1)
        have hBm : ∀ x ∈ l0.filter (fun s => X.near 1 s s1), ∃ D, X.nearE l0 x 2 = (D, 0) ∧ withinL (l0.filter (fun s => X.near 1 s s1)) D = true ∧ D.length ≤ 30 ∧ x.length ≤ 10 := fun x hx =>
          ⟨_, X.nearE_ok hL0 (X.wordE_name hL0 (List.mem_filter.1 hx).1) (n := 2) (by omega), withinL_iff.2 (X.near_two hx), by have := List.length_filter_le (fun s => X.near 2 s x) l0; omega, hL0.long _ (List.mem_filter.1 hx).1⟩
        have hBl := List.length_filter_le (fun s => X.near 1 s s1) l0
        have hCl := List.length_filter_le (fun s => X.near 2 s s1) l0
        generalize l0.filter (fun s => X.near 1 s s1) = B at *
        generalize l0.filter (fun s => X.near 2 s s1) = C at *
        have HT1 := Lib.hid q1
        have HT2 := Lib.hid q2
        have HV1 := Lib.hid v1
        have HV2 := Lib.hid v2
        have HBm := Lib.hid hBm
        clear q1 q2 v1 v2 hBm hx h0 hL0
        by_cases hm : s1 ∈ l0
        case pos =>
          rw [if_pos hm] at q0 v0
          have HT0 := Lib.hid q0
          have HV0 := Lib.hid v0
          have HM := Lib.hid (decide_eq_true hm)
          clear q0 v0 hm
          go_enter Tryz.func10, Tryz.ntmps10
          have hC := fine_any a0 cap0 l0 w I0.out
          rw [HD0.out] at hC
          have HC := Lib.hid hC
          clear hC
          go_wp2_with fail
          refine HC.out.mono ?_
          rintro e w1 ⟨rfl, hd⟩
          have hb := hd.below w.heap.size
          clear hd
          have hb := hb
          have HB4 := Lib.hid (HB0.out.trans (hb.mono HB0.out.size))
          have I05 := Lib.hid (I0.out.below hb)
          clear hb HC
          have hC := nearM_any a0 cap0 l0 s1 0 w1 (by omega) HR0.out (by omega) I05.out
          rw [HT0.out] at hC
          have HC := Lib.hid hC
          clear hC
          go_wp2_with fail
          refine HC.out.mono ?_
          intro e w2 hG
          obtain ⟨Aa, Ca, rfl, hi, hca, hb⟩ := hG.lit (n := 1) rfl
          have HB6 := Lib.hid (HB4.out.trans (hb.mono HB4.out.size))
          have I07 := Lib.hid (I05.out.below hb)
          have Ia := Lib.hid hi
          have Ka := Lib.hid hca
          clear hca hi hG
          clear hb HC
          have hC := nearM_any a0 cap0 l0 s1 1 w2 (by omega) HR0.out (by omega) I07.out
          rw [HT1.out] at hC
          have HC := Lib.hid hC
          clear hC
          go_wp2_with fail
          refine HC.out.mono ?_
          intro e w3 hG
          obtain ⟨Ab, Cb, rfl, hi, hcb, hb⟩ := hG.lit (n := B.length) rfl
          have HB8 := Lib.hid (HB6.out.trans (hb.mono HB6.out.size))
          have I09 := Lib.hid (I07.out.below hb)
          have Ia10 := Lib.hid (Ia.out.below hb)
          have Ib := Lib.hid hi
          have Kb := Lib.hid hcb
          clear hcb hi hG
          clear hb HC
          have hC := nearM_any a0 cap0 l0 s1 2 w3 (by omega) HR0.out (by omega) I09.out
          rw [HT2.out] at hC
          have HC := Lib.hid hC
          clear hC
          go_wp2_with fail
          refine HC.out.mono ?_
          intro e w4 hG
          obtain ⟨Ac, Cc, rfl, hi, hcc, hb⟩ := hG.lit (n := C.length) rfl
          have HB11 := Lib.hid (HB8.out.trans (hb.mono HB8.out.size))
          have I012 := Lib.hid (I09.out.below hb)
          have Ia13 := Lib.hid (Ia10.out.below hb)
          have Ib14 := Lib.hid (Ib.out.below hb)
          have Ic := Lib.hid hi
          have Kc := Lib.hid hcc
          clear hcc hi hG
          clear hb HC
          have hC := word_any s1 w4 (by omega)
          rw [HX.out] at hC
          have HC := Lib.hid hC
          clear hC
          go_wp2_with fail
          refine HC.out.mono ?_
          rintro e _ ⟨rfl, rfl⟩
          clear HC
          obtain ⟨ba, oa, rfl, ca⟩ := Ia13.out 0 (by simp)
          have ca : w4.cell? ⟨ba, oa, none⟩ = some (sv s1) := ca
          have hC := has_any a0 cap0 l0 s1 w4 (by omega) I012.out
          rw [HM.out] at hC
          have HC := Lib.hid hC
          clear hC
          go_wp2_with fail
          refine HC.out.mono ?_
          rintro e _ ⟨rfl, rfl⟩
          clear HC
          have hC := withinS_any (some ⟨ba, oa, none⟩) Ca [s1] Ab Cb B w4 (by simp) (by omega) Ia13.out Ib14.out
          rw [HV0.out] at hC
          have HC := Lib.hid hC
          clear hC
          go_wp2_with fail
          refine HC.out.mono ?_
          rintro e _ ⟨rfl, rfl⟩
          clear HC
          clear ca
          have hC := withinS_any Ab Cb B Ac Cc C w4 (by omega) (by omega) Ib14.out Ic.out
          rw [HV1.out] at hC
          have HC := Lib.hid hC
          clear hC
          go_wp2_with fail
          refine HC.out.mono ?_
          rintro e _ ⟨rfl, rfl⟩
          clear HC
          have hC := withinS_any Ac Cc C a0 cap0 l0 w4 (by omega) (by omega) Ic.out I012.out
          rw [HV2.out] at hC
          have HC := Lib.hid hC
          clear hC
          go_wp2_with fail
          refine HC.out.mono ?_
          rintro e _ ⟨rfl, rfl⟩
          clear HC
          go_wp2_with fail
          go_loopw [16, 17, 18] (fun i _ _ wr => ∃ j : Nat, j ≤ B.length ∧ i = .int .i64 j ∧ Hid (RowKit.Below w4.heap.size w4 wr)) (fun i _ _ _ => B.length - (RowKit.intOf i).toNat)
          case atStart => exact ⟨0, by omega, rfl, Lib.hid (RowKit.Below.refl _ _)⟩
          case round =>
            obtain ⟨j, hj, rfl, HLp⟩ := hrel
            have HB15 := Lib.hid (HB11.out.trans (HLp.out.mono HB11.out.size))
            have I016 := Lib.hid (I012.out.below HLp.out)
            have Ib17 := Lib.hid (Ib14.out.below HLp.out)
            by_cases hlt : j < B.length
            case pos =>
              have hltI : (j : Int) < (B.length : Int) := by omega
              obtain ⟨bb, ob, rfl, cb⟩ := Ib17.out j hlt
              obtain ⟨D, hD, hV, hDl, hxl⟩ := HBm.out _ (wat_mem hlt)
              have HD := Lib.hid hD
              have HVD := Lib.hid hV
              generalize wat B j = x at *
              clear hD hV
              have hC := nearM_any a0 cap0 l0 x 2 wr (by omega) HR0.out (by omega) I016.out
              rw [HD.out] at hC
              have HC := Lib.hid hC
              clear hC
              go_wp2_with fail
              refine HC.out.mono ?_
              intro e w5 hG
              obtain ⟨Aq, Cq, rfl, hi, hcq, hb⟩ := hG.lit (n := D.length) rfl
              have HB18 := Lib.hid (HB15.out.trans (hb.mono HB15.out.size))
              have I019 := Lib.hid (I016.out.below hb)
              have Ib20 := Lib.hid (Ib17.out.below hb)
              have HL21 := Lib.hid (HLp.out.trans (hb.mono HLp.out.size))
              have Iq := Lib.hid hi
              have Kq := Lib.hid hcq
              clear hcq hi hG
              clear cb
              clear hb HC
              have hC := withinS_any (some ⟨bb, ob, none⟩) Cb B Aq Cq D w5 (by omega) (by omega) Ib20.out Iq.out
              rw [HVD.out] at hC
              have HC := Lib.hid hC
              clear hC
              go_wp2_with fail
              refine HC.out.mono ?_
              rintro e _ ⟨rfl, rfl⟩
              clear HC
              go_wp2_with fail
              go_roundw
              case rel => exact ⟨j + 1, by omega, by go_num, Lib.hid HL21.out⟩
              case measure => simp [RowKit.intOf]; omega
            case neg =>
              by_cases hz : l0.length = 0
              case pos =>
                have hzI : ((l0.length : Int) == 0) = true := by rw [hz]; rfl
                have HC := Lib.hid (works_any wr)
                go_wp2_with fail
                refine HC.out.mono ?_
                rintro e w5 ⟨rfl, hb⟩
                have HB22 := Lib.hid (HB15.out.trans (hb.mono HB15.out.size))
                have I023 := Lib.hid (I016.out.below hb)
                clear hb HC
                go_wp2_with fail
                go_ret
                exact ⟨rfl, HB22.out⟩
              case neg =>
                have hzI : ((l0.length : Int) == 0) = false := by simpa using hz
                have hzN : ¬ (l0.length : Int) = 0 := by omega
                obtain ⟨r, hr⟩ : ∃ r, N % l0.length = r := ⟨_, rfl⟩
                have hrl : r < l0.length := by rw [← hr]; exact Nat.mod_lt _ (by omega)
                have t1 := tmodN N l0.length
                rw [hr] at t1
                have kW : IntKind.i64.wrap (N : Int) = N := IntWalk.i64_in _ (by omega)
                have kW2 : IntKind.i64.wrap (M : Int) = M := IntWalk.i64_in _ (by omega)
                have kR : IntKind.i64.wrap (r : Int) = r := IntWalk.i64_in _ (by omega)
                have hrI : (r : Int) < (l0.length : Int) := by omega
                have hr0 : (0 : Int) ≤ (r : Int) := by omega
                obtain ⟨b0, o0, rfl, c0⟩ := I016.out r hrl
                have hnm := wat_mem hrl
                generalize wat l0 r = nm at *
                have hn1 : nm.length ≠ 0 := fun e => HL.out.some nm hnm (List.eq_nil_of_length_eq_zero e)
                have hn2 := HL.out.long nm hnm
                have hnI : ¬ (nm.length : Int) = 0 := by omega
                have hnB : ((nm.length : Int) == 0) = false := by simpa using hn1
                obtain ⟨k, hk⟩ : ∃ k, M % nm.length = k := ⟨_, rfl⟩
                have hkl : k < nm.length := by rw [← hk]; exact Nat.mod_lt _ (by omega)
                have t2 := tmodN M nm.length
                rw [hk] at t2
                have kK : IntKind.i64.wrap (k : Int) = k := IntWalk.i64_in _ (by omega)
                have q3 : X.nearE l0 (nm.take k ++ nm.drop (k + 1)) 1 = (l0.filter (fun s => X.near 1 s (nm.take k ++ nm.drop (k + 1))), 0) := X.nearE_ok HL.out (X.wordE_drop HL.out hnm k) (n := 1) (by omega)
                have q4 := X.near_drop hnm k
                have q5 := List.length_filter_le (fun s => X.near 1 s (nm.take k ++ nm.drop (k + 1))) l0
                generalize l0.filter (fun s => X.near 1 s (nm.take k ++ nm.drop (k + 1))) = L at *
                have HQ3 := Lib.hid q3
                have HQ4 := Lib.hid (decide_eq_true q4)
                have hul : (nm.take k ++ nm.drop (k + 1)).length ≤ 1000000 := by rw [List.length_append, List.length_take, List.length_drop]; omega
                clear q3 q4 hr hk
                go_wp2_with fail
                have HI0 := Lib.hid (I016.out)
                have x1 : (ByteArray.mk nm.toArray).extract 0 k = ⟨(nm.take k).toArray⟩ := by rw [ByteArray.extract_mk]; simp
                have x2 : (ByteArray.mk nm.toArray).extract (k + 1) nm.length = ⟨(nm.drop (k + 1)).toArray⟩ := by rw [ByteArray.extract_mk, List.take_of_length_le (by simp)]
                have x3 : (ByteArray.mk (nm.take k).toArray) ++ (ByteArray.mk (nm.drop (k + 1)).toArray) = ⟨(nm.take k ++ nm.drop (k + 1)).toArray⟩ := ByteArray.mk_append_mk _ _
                have y1 : (k : Int) ≤ (nm.length : Int) := by omega
                have y2 : (0 : Int) ≤ (k : Int) := by omega
                have y3 : (k : Int) + 1 ≤ (nm.length : Int) := by omega
                have y4 : (0 : Int) ≤ (k : Int) + 1 := by omega
                have y5 : IntKind.i64.wrap ((k : Int) + 1) = (k : Int) + 1 := IntWalk.i64_in _ (by omega)
                have y6 : ((k : Int) + 1).toNat = k + 1 := by omega
                have y7 : ¬ 9223372036854775807 < min k nm.length + (nm.length - (k + 1)) := by omega
                have y8 : k ≤ nm.length := by omega
                have y9 : k + 1 ≤ nm.length := by omega
                refine wp_region_grows [165, 166, 167, 168, 169, 170, 171, 172, 173, 174, 164, 175, 176, 21, 22] [KEq (.slice (some ⟨b0, o0, none⟩) l0.length cap0), KEq (sv nm), KEq (.int .i64 (k : Int)), KEq (sv (nm.take k)), KEq (sv nm), KEq (.int .i64 (k : Int)), KEq (.int .i64 ((k : Int) + 1)), KEq (sv (nm.drop (k + 1))), KEq (sv (nm.take k ++ nm.drop (k + 1))), KT L 0, KT L 0, KSt L, KEq (.int .i64 0), KSt L, KEq (.int .i64 0)] (by kernel_rfl) (by kernel_rfl) (by kernel_rfl) rfl
                  ⟨KEq.st _, KEq.st _, KEq.st _, KEq.st _, KEq.st _, KEq.st _, KEq.st _, KEq.st _, KEq.st _, KT.st _ _, KT.st _ _, KSt.st _, KEq.st _, KSt.st _, KEq.st _, trivial⟩
                  ⟨step_moveOut (q := 0) (by decide) rfl rfl, step_moveOut (q := 19) (by decide) rfl rfl, step_moveOut (q := 20) (by decide) rfl rfl,
                    step_by2 (j1 := 1) (j2 := 2) (q1 := 166) (q2 := 167) rfl (by decide +kernel) rfl rfl (by decide +kernel) rfl rfl (fun a' w' e1 e2 hb => by simp [execOp, go_sem, e1, e2, x1, y1, y2, y8]),
                    step_moveOut (q := 19) (by decide) rfl rfl, step_moveOut (q := 20) (by decide) rfl rfl,
                    step_by1 (j := 5) (q := 170) rfl (by decide +kernel) rfl rfl (fun a' w' e hb => by simp [execOp, go_sem, e, y5]),
                    step_by2 (j1 := 4) (j2 := 6) (q1 := 169) (q2 := 171) rfl (by decide +kernel) rfl rfl (by decide +kernel) rfl rfl (fun a' w' e1 e2 hb => by simp [execOp, go_sem, e1, e2, x2, y3, y4, y6, y9]),
                    step_by2 (j1 := 3) (j2 := 7) (q1 := 168) (q2 := 172) rfl (by decide +kernel) rfl rfl (by decide +kernel) rfl rfl (fun a' w' e1 e2 hb => by simp [execOp, go_sem, e1, e2, x3, y7]),
                    step_near (j1 := 0) (j2 := 8) rfl (by decide +kernel) rfl rfl (by decide +kernel) rfl rfl (by omega) HR0.out hul HI0.out HQ3.out,
                    step_copyK (j := 9) rfl (by decide +kernel) rfl rfl, step_fst (j := 10) rfl (by decide +kernel) rfl rfl, step_snd (j := 10) rfl (by decide +kernel) rfl rfl, step_assignK (j := 11) rfl (by decide +kernel) rfl rfl, step_assignK (j := 12) rfl (by decide +kernel) rfl rfl, trivial⟩ ?_
                rintro w9 hb _ rfl _ rfl _ rfl _ rfl _ rfl _ rfl _ rfl _ rfl _ rfl _ ⟨_, _, rfl, -, -⟩ _ ⟨_, _, rfl, -, -⟩ _ ⟨_, _, rfl, -, -⟩ _ rfl _ ⟨aD, cD, rfl, hD, zD⟩ _ rfl
                have HD := Lib.hid hD
                have HB24 := Lib.hid (HB15.out.trans (hb.mono HB15.out.size))
                have I025 := Lib.hid (I016.out.below hb)
                clear hb hD x1 x2 x3 y1 y2 y3 y4 y5 y6 y7 y8 y9 t1 t2 kW kW2 kR kK hrI hr0 c0
                simp only [EndsG]
                go_simp
                have hC := has_any aD cD L nm w9 (by omega) HD.out
                rw [HQ4.out] at hC
                have HC := Lib.hid hC
                clear hC
                go_wp2_with fail
                refine HC.out.mono ?_
                rintro e _ ⟨rfl, rfl⟩
                clear HC
                have HC := Lib.hid (works_any w9)
                go_wp2_with fail
                refine HC.out.mono ?_
                rintro e w5 ⟨rfl, hb⟩
                have HB26 := Lib.hid (HB24.out.trans (hb.mono HB24.out.size))
                have I027 := Lib.hid (I025.out.below hb)
                have ID28 := Lib.hid (HD.out.below hb)
                clear hb HC
                go_wp2_with fail
                go_ret
                exact ⟨rfl, HB26.out⟩
        case neg =>
          rw [if_neg hm] at q0 v0
          have HT0 := Lib.hid q0
          have HV0 := Lib.hid v0
          have HM := Lib.hid (decide_eq_false hm)
          clear q0 v0 hm
          go_enter Tryz.func10, Tryz.ntmps10
          have hC := fine_any a0 cap0 l0 w I0.out
          rw [HD0.out] at hC
          have HC := Lib.hid hC
          clear hC
          go_wp2_with fail
          refine HC.out.mono ?_
          rintro e w1 ⟨rfl, hd⟩
          have hb := hd.below w.heap.size
          clear hd
          have hb := hb
          have HB29 := Lib.hid (HB0.out.trans (hb.mono HB0.out.size))
          have I030 := Lib.hid (I0.out.below hb)
          clear hb HC
          have hC := nearM_any a0 cap0 l0 s1 0 w1 (by omega) HR0.out (by omega) I030.out
          rw [HT0.out] at hC
          have HC := Lib.hid hC
          clear hC
          go_wp2_with fail
          refine HC.out.mono ?_
          intro e w2 hG
          obtain ⟨Aa, Ca, rfl, hi, hca, hb⟩ := hG.lit (n := 0) rfl
          have HB31 := Lib.hid (HB29.out.trans (hb.mono HB29.out.size))
          have I032 := Lib.hid (I030.out.below hb)
          have Ia := Lib.hid hi
          have Ka := Lib.hid hca
          clear hca hi hG
          clear hb HC
          have hC := nearM_any a0 cap0 l0 s1 1 w2 (by omega) HR0.out (by omega) I032.out
          rw [HT1.out] at hC
          have HC := Lib.hid hC
          clear hC
          go_wp2_with fail
          refine HC.out.mono ?_
          intro e w3 hG
          obtain ⟨Ab, Cb, rfl, hi, hcb, hb⟩ := hG.lit (n := B.length) rfl
          have HB33 := Lib.hid (HB31.out.trans (hb.mono HB31.out.size))
          have I034 := Lib.hid (I032.out.below hb)
          have Ia35 := Lib.hid (Ia.out.below hb)
          have Ib := Lib.hid hi
          have Kb := Lib.hid hcb
          clear hcb hi hG
          clear hb HC
          have hC := nearM_any a0 cap0 l0 s1 2 w3 (by omega) HR0.out (by omega) I034.out
          rw [HT2.out] at hC
          have HC := Lib.hid hC
          clear hC
          go_wp2_with fail
          refine HC.out.mono ?_
          intro e w4 hG
          obtain ⟨Ac, Cc, rfl, hi, hcc, hb⟩ := hG.lit (n := C.length) rfl
          have HB36 := Lib.hid (HB33.out.trans (hb.mono HB33.out.size))
          have I037 := Lib.hid (I034.out.below hb)
          have Ia38 := Lib.hid (Ia35.out.below hb)
          have Ib39 := Lib.hid (Ib.out.below hb)
          have Ic := Lib.hid hi
          have Kc := Lib.hid hcc
          clear hcc hi hG
          clear hb HC
          have hC := word_any s1 w4 (by omega)
          rw [HX.out] at hC
          have HC := Lib.hid hC
          clear hC
          go_wp2_with fail
          refine HC.out.mono ?_
          rintro e _ ⟨rfl, rfl⟩
          clear HC
          have hC := has_any a0 cap0 l0 s1 w4 (by omega) I037.out
          rw [HM.out] at hC
          have HC := Lib.hid hC
          clear hC
          go_wp2_with fail
          refine HC.out.mono ?_
          rintro e _ ⟨rfl, rfl⟩
          clear HC
          have hC := withinS_any Aa Ca [] Ab Cb B w4 (by simp) (by omega) Ia38.out Ib39.out
          rw [HV0.out] at hC
          have HC := Lib.hid hC
          clear hC
          go_wp2_with fail
          refine HC.out.mono ?_
          rintro e _ ⟨rfl, rfl⟩
          clear HC
          have hC := withinS_any Ab Cb B Ac Cc C w4 (by omega) (by omega) Ib39.out Ic.out
          rw [HV1.out] at hC
          have HC := Lib.hid hC
          clear hC
          go_wp2_with fail
          refine HC.out.mono ?_
          rintro e _ ⟨rfl, rfl⟩
          clear HC
          have hC := withinS_any Ac Cc C a0 cap0 l0 w4 (by omega) (by omega) Ic.out I037.out
          rw [HV2.out] at hC
          have HC := Lib.hid hC
          clear hC
          go_wp2_with fail
          refine HC.out.mono ?_
          rintro e _ ⟨rfl, rfl⟩
          clear HC
          go_wp2_with fail
          go_loopw [16, 17, 18] (fun i _ _ wr => ∃ j : Nat, j ≤ B.length ∧ i = .int .i64 j ∧ Hid (RowKit.Below w4.heap.size w4 wr)) (fun i _ _ _ => B.length - (RowKit.intOf i).toNat)
          case atStart => exact ⟨0, by omega, rfl, Lib.hid (RowKit.Below.refl _ _)⟩
          case round =>
            obtain ⟨j, hj, rfl, HLp⟩ := hrel
            have HB40 := Lib.hid (HB36.out.trans (HLp.out.mono HB36.out.size))
            have I041 := Lib.hid (I037.out.below HLp.out)
            have Ib42 := Lib.hid (Ib39.out.below HLp.out)
            by_cases hlt : j < B.length
            case pos =>
              have hltI : (j : Int) < (B.length : Int) := by omega
              obtain ⟨bb, ob, rfl, cb⟩ := Ib42.out j hlt
              obtain ⟨D, hD, hV, hDl, hxl⟩ := HBm.out _ (wat_mem hlt)
              have HD := Lib.hid hD
              have HVD := Lib.hid hV
              generalize wat B j = x at *
              clear hD hV
              have hC := nearM_any a0 cap0 l0 x 2 wr (by omega) HR0.out (by omega) I041.out
              rw [HD.out] at hC
              have HC := Lib.hid hC
              clear hC
              go_wp2_with fail
              refine HC.out.mono ?_
              intro e w5 hG
              obtain ⟨Aq, Cq, rfl, hi, hcq, hb⟩ := hG.lit (n := D.length) rfl
              have HB43 := Lib.hid (HB40.out.trans (hb.mono HB40.out.size))
              have I044 := Lib.hid (I041.out.below hb)
              have Ib45 := Lib.hid (Ib42.out.below hb)
              have HL46 := Lib.hid (HLp.out.trans (hb.mono HLp.out.size))
              have Iq := Lib.hid hi
              have Kq := Lib.hid hcq
              clear hcq hi hG
              clear cb
              clear hb HC
              have hC := withinS_any (some ⟨bb, ob, none⟩) Cb B Aq Cq D w5 (by omega) (by omega) Ib45.out Iq.out
              rw [HVD.out] at hC
              have HC := Lib.hid hC
              clear hC
              go_wp2_with fail
              refine HC.out.mono ?_
              rintro e _ ⟨rfl, rfl⟩
              clear HC
              go_wp2_with fail
              go_roundw
              case rel => exact ⟨j + 1, by omega, by go_num, Lib.hid HL46.out⟩
              case measure => simp [RowKit.intOf]; omega
            case neg =>
              by_cases hz : l0.length = 0
              case pos =>
                have hzI : ((l0.length : Int) == 0) = true := by rw [hz]; rfl
                have HC := Lib.hid (works_any wr)
                go_wp2_with fail
                refine HC.out.mono ?_
                rintro e w5 ⟨rfl, hb⟩
                have HB47 := Lib.hid (HB40.out.trans (hb.mono HB40.out.size))
                have I048 := Lib.hid (I041.out.below hb)
                clear hb HC
                go_wp2_with fail
                go_ret
                exact ⟨rfl, HB47.out⟩
              case neg =>
                have hzI : ((l0.length : Int) == 0) = false := by simpa using hz
                have hzN : ¬ (l0.length : Int) = 0 := by omega
                obtain ⟨r, hr⟩ : ∃ r, N % l0.length = r := ⟨_, rfl⟩
                have hrl : r < l0.length := by rw [← hr]; exact Nat.mod_lt _ (by omega)
                have t1 := tmodN N l0.length
                rw [hr] at t1
                have kW : IntKind.i64.wrap (N : Int) = N := IntWalk.i64_in _ (by omega)
                have kW2 : IntKind.i64.wrap (M : Int) = M := IntWalk.i64_in _ (by omega)
                have kR : IntKind.i64.wrap (r : Int) = r := IntWalk.i64_in _ (by omega)
                have hrI : (r : Int) < (l0.length : Int) := by omega
                have hr0 : (0 : Int) ≤ (r : Int) := by omega
                obtain ⟨b0, o0, rfl, c0⟩ := I041.out r hrl
                have hnm := wat_mem hrl
                generalize wat l0 r = nm at *
                have hn1 : nm.length ≠ 0 := fun e => HL.out.some nm hnm (List.eq_nil_of_length_eq_zero e)
                have hn2 := HL.out.long nm hnm
                have hnI : ¬ (nm.length : Int) = 0 := by omega
                have hnB : ((nm.length : Int) == 0) = false := by simpa using hn1
                obtain ⟨k, hk⟩ : ∃ k, M % nm.length = k := ⟨_, rfl⟩
                have hkl : k < nm.length := by rw [← hk]; exact Nat.mod_lt _ (by omega)
                have t2 := tmodN M nm.length
                rw [hk] at t2
                have kK : IntKind.i64.wrap (k : Int) = k := IntWalk.i64_in _ (by omega)
                have q3 : X.nearE l0 (nm.take k ++ nm.drop (k + 1)) 1 = (l0.filter (fun s => X.near 1 s (nm.take k ++ nm.drop (k + 1))), 0) := X.nearE_ok HL.out (X.wordE_drop HL.out hnm k) (n := 1) (by omega)
                have q4 := X.near_drop hnm k
                have q5 := List.length_filter_le (fun s => X.near 1 s (nm.take k ++ nm.drop (k + 1))) l0
                generalize l0.filter (fun s => X.near 1 s (nm.take k ++ nm.drop (k + 1))) = L at *
                have HQ3 := Lib.hid q3
                have HQ4 := Lib.hid (decide_eq_true q4)
                have hul : (nm.take k ++ nm.drop (k + 1)).length ≤ 1000000 := by rw [List.length_append, List.length_take, List.length_drop]; omega
                clear q3 q4 hr hk
                go_wp2_with fail
                have HI0 := Lib.hid (I041.out)
                have x1 : (ByteArray.mk nm.toArray).extract 0 k = ⟨(nm.take k).toArray⟩ := by rw [ByteArray.extract_mk]; simp
                have x2 : (ByteArray.mk nm.toArray).extract (k + 1) nm.length = ⟨(nm.drop (k + 1)).toArray⟩ := by rw [ByteArray.extract_mk, List.take_of_length_le (by simp)]
                have x3 : (ByteArray.mk (nm.take k).toArray) ++ (ByteArray.mk (nm.drop (k + 1)).toArray) = ⟨(nm.take k ++ nm.drop (k + 1)).toArray⟩ := ByteArray.mk_append_mk _ _
                have y1 : (k : Int) ≤ (nm.length : Int) := by omega
                have y2 : (0 : Int) ≤ (k : Int) := by omega
                have y3 : (k : Int) + 1 ≤ (nm.length : Int) := by omega
                have y4 : (0 : Int) ≤ (k : Int) + 1 := by omega
                have y5 : IntKind.i64.wrap ((k : Int) + 1) = (k : Int) + 1 := IntWalk.i64_in _ (by omega)
                have y6 : ((k : Int) + 1).toNat = k + 1 := by omega
                have y7 : ¬ 9223372036854775807 < min k nm.length + (nm.length - (k + 1)) := by omega
                have y8 : k ≤ nm.length := by omega
                have y9 : k + 1 ≤ nm.length := by omega
                refine wp_region_grows [165, 166, 167, 168, 169, 170, 171, 172, 173, 174, 164, 175, 176, 21, 22] [KEq (.slice (some ⟨b0, o0, none⟩) l0.length cap0), KEq (sv nm), KEq (.int .i64 (k : Int)), KEq (sv (nm.take k)), KEq (sv nm), KEq (.int .i64 (k : Int)), KEq (.int .i64 ((k : Int) + 1)), KEq (sv (nm.drop (k + 1))), KEq (sv (nm.take k ++ nm.drop (k + 1))), KT L 0, KT L 0, KSt L, KEq (.int .i64 0), KSt L, KEq (.int .i64 0)] (by kernel_rfl) (by kernel_rfl) (by kernel_rfl) rfl
                  ⟨KEq.st _, KEq.st _, KEq.st _, KEq.st _, KEq.st _, KEq.st _, KEq.st _, KEq.st _, KEq.st _, KT.st _ _, KT.st _ _, KSt.st _, KEq.st _, KSt.st _, KEq.st _, trivial⟩
                  ⟨step_moveOut (q := 0) (by decide) rfl rfl, step_moveOut (q := 19) (by decide) rfl rfl, step_moveOut (q := 20) (by decide) rfl rfl,
                    step_by2 (j1 := 1) (j2 := 2) (q1 := 166) (q2 := 167) rfl (by decide +kernel) rfl rfl (by decide +kernel) rfl rfl (fun a' w' e1 e2 hb => by simp [execOp, go_sem, e1, e2, x1, y1, y2, y8]),
                    step_moveOut (q := 19) (by decide) rfl rfl, step_moveOut (q := 20) (by decide) rfl rfl,
                    step_by1 (j := 5) (q := 170) rfl (by decide +kernel) rfl rfl (fun a' w' e hb => by simp [execOp, go_sem, e, y5]),
                    step_by2 (j1 := 4) (j2 := 6) (q1 := 169) (q2 := 171) rfl (by decide +kernel) rfl rfl (by decide +kernel) rfl rfl (fun a' w' e1 e2 hb => by simp [execOp, go_sem, e1, e2, x2, y3, y4, y6, y9]),
                    step_by2 (j1 := 3) (j2 := 7) (q1 := 168) (q2 := 172) rfl (by decide +kernel) rfl rfl (by decide +kernel) rfl rfl (fun a' w' e1 e2 hb => by simp [execOp, go_sem, e1, e2, x3, y7]),
                    step_near (j1 := 0) (j2 := 8) rfl (by decide +kernel) rfl rfl (by decide +kernel) rfl rfl (by omega) HR0.out hul HI0.out HQ3.out,
                    step_copyK (j := 9) rfl (by decide +kernel) rfl rfl, step_fst (j := 10) rfl (by decide +kernel) rfl rfl, step_snd (j := 10) rfl (by decide +kernel) rfl rfl, step_assignK (j := 11) rfl (by decide +kernel) rfl rfl, step_assignK (j := 12) rfl (by decide +kernel) rfl rfl, trivial⟩ ?_
                rintro w9 hb _ rfl _ rfl _ rfl _ rfl _ rfl _ rfl _ rfl _ rfl _ rfl _ ⟨_, _, rfl, -, -⟩ _ ⟨_, _, rfl, -, -⟩ _ ⟨_, _, rfl, -, -⟩ _ rfl _ ⟨aD, cD, rfl, hD, zD⟩ _ rfl
                have HD := Lib.hid hD
                have HB49 := Lib.hid (HB40.out.trans (hb.mono HB40.out.size))
                have I050 := Lib.hid (I041.out.below hb)
                clear hb hD x1 x2 x3 y1 y2 y3 y4 y5 y6 y7 y8 y9 t1 t2 kW kW2 kR kK hrI hr0 c0
                simp only [EndsG]
                go_simp
                have hC := has_any aD cD L nm w9 (by omega) HD.out
                rw [HQ4.out] at hC
                have HC := Lib.hid hC
                clear hC
                go_wp2_with fail
                refine HC.out.mono ?_
                rintro e _ ⟨rfl, rfl⟩
                clear HC
                have HC := Lib.hid (works_any w9)
                go_wp2_with fail
                refine HC.out.mono ?_
                rintro e w5 ⟨rfl, hb⟩
                have HB51 := Lib.hid (HB49.out.trans (hb.mono HB49.out.size))
                have I052 := Lib.hid (I050.out.below hb)
                have ID53 := Lib.hid (HD.out.below hb)
                clear hb HC
                go_wp2_with fail
                go_ret
                exact ⟨rfl, HB51.out⟩
      case neg =>
        have HT0 : Hid (X.nearE l0 s1 0 = ([], X.wordE s1)) := Lib.hid (by unfold X.nearE; simp [h0, hx])
        have HT1 : Hid (X.nearE l0 s1 1 = ([], X.wordE s1)) := Lib.hid (by unfold X.nearE; simp [h0, hx])
        have HT2 : Hid (X.nearE l0 s1 2 = ([], X.wordE s1)) := Lib.hid (by unfold X.nearE; simp [h0, hx])
        have kx : (X.wordE s1 != 0) = true := by simpa using hx
        have HX : Hid (X.wordE s1 = X.wordE s1) := Lib.hid rfl
        clear hx h0 hL0
        go_enter Tryz.func10, Tryz.ntmps10
        have hC := fine_any a0 cap0 l0 w I0.out
        rw [HD0.out] at hC
        have HC := Lib.hid hC
        clear hC
        go_wp2_with fail
        refine HC.out.mono ?_
        rintro e w1 ⟨rfl, hd⟩
        have hb := hd.below w.heap.size
        clear hd
        have hb := hb
        have HB54 := Lib.hid (HB0.out.trans (hb.mono HB0.out.size))
        have I055 := Lib.hid (I0.out.below hb)
        clear hb HC
        have hC := nearM_any a0 cap0 l0 s1 0 w1 (by omega) HR0.out (by omega) I055.out
        rw [HT0.out] at hC
        have HC := Lib.hid hC
        clear hC
        go_wp2_with fail
        refine HC.out.mono ?_
        intro e w2 hG
        obtain ⟨Aa, Ca, rfl, hi, hca, hb⟩ := hG.lit (n := 0) rfl
        have HB56 := Lib.hid (HB54.out.trans (hb.mono HB54.out.size))
        have I057 := Lib.hid (I055.out.below hb)
        have Ia := Lib.hid hi
        have Ka := Lib.hid hca
        clear hca hi hG
        clear hb HC
        have hC := nearM_any a0 cap0 l0 s1 1 w2 (by omega) HR0.out (by omega) I057.out
        rw [HT1.out] at hC
        have HC := Lib.hid hC
        clear hC
        go_wp2_with fail
        refine HC.out.mono ?_
        intro e w3 hG
        obtain ⟨Ab, Cb, rfl, hi, hcb, hb⟩ := hG.lit (n := 0) rfl
        have HB58 := Lib.hid (HB56.out.trans (hb.mono HB56.out.size))
        have I059 := Lib.hid (I057.out.below hb)
        have Ia60 := Lib.hid (Ia.out.below hb)
        have Ib := Lib.hid hi
        have Kb := Lib.hid hcb
        clear hcb hi hG
        clear hb HC
        have hC := nearM_any a0 cap0 l0 s1 2 w3 (by omega) HR0.out (by omega) I059.out
        rw [HT2.out] at hC
        have HC := Lib.hid hC
        clear hC
        go_wp2_with fail
        refine HC.out.mono ?_
        intro e w4 hG
        obtain ⟨Ac, Cc, rfl, hi, hcc, hb⟩ := hG.lit (n := 0) rfl
        have HB61 := Lib.hid (HB58.out.trans (hb.mono HB58.out.size))
        have I062 := Lib.hid (I059.out.below hb)
        have Ia63 := Lib.hid (Ia60.out.below hb)
        have Ib64 := Lib.hid (Ib.out.below hb)
        have Ic := Lib.hid hi
        have Kc := Lib.hid hcc
        clear hcc hi hG
        clear hb HC
        have hC := word_any s1 w4 (by omega)
        have HC := Lib.hid hC
        clear hC
        go_wp2_with fail
        refine HC.out.mono ?_
        rintro e _ ⟨rfl, rfl⟩
        clear HC
        have HC := Lib.hid (works_any w4)
        go_wp2_with fail
        refine HC.out.mono ?_
        rintro e w5 ⟨rfl, hb⟩
        have HB65 := Lib.hid (HB61.out.trans (hb.mono HB61.out.size))
        have I066 := Lib.hid (I062.out.below hb)
        have Ia67 := Lib.hid (Ia63.out.below hb)
        have Ib68 := Lib.hid (Ib64.out.below hb)
        have Ic69 := Lib.hid (Ic.out.below hb)
        clear hb HC
        go_wp2_with fail
        go_ret
        exact ⟨rfl, HB65.out⟩
  case neg =>
    go_enter Tryz.func10, Tryz.ntmps10
    have hC := fine_any a0 cap0 l0 w I0.out
    rw [decide_eq_false h0] at hC
    have HC := Lib.hid hC
    clear hC
    go_wp2_with fail
    refine HC.out.mono ?_
    rintro e w1 ⟨rfl, hd⟩
    have hb := hd.below w.heap.size
    clear hd
    have hb := hb
    have HB70 := Lib.hid (HB0.out.trans (hb.mono HB0.out.size))
    have I071 := Lib.hid (I0.out.below hb)
    clear hb HC
    have HC := Lib.hid (works_any w1)
    go_wp2_with fail
    refine HC.out.mono ?_
    rintro e w2 ⟨rfl, hb⟩
    have HB72 := Lib.hid (HB70.out.trans (hb.mono HB70.out.size))
    have I073 := Lib.hid (I071.out.below hb)
    clear hb HC
    go_wp2_with fail
    go_ret
    exact ⟨rfl, HB72.out⟩
end Go.Proofs.YtcjbnifafofpbaaGreatDoor
