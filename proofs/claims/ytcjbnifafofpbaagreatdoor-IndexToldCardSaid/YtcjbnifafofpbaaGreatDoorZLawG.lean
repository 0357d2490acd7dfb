/- Walk of IndexTold. -/
import Derived.Test.YtcjbnifafofpbaaGreatDoorJ21
import Derived.Laws.BytesString
namespace Go.Proofs.YtcjbnifafofpbaaGreatDoor
open Go.RowKit Go.Lib
theorem u8_bd {n : Int} (h : (Lit.int .u8 n).wf = true) : 0 ≤ n ∧ n ≤ 255 := by
  simp [Lit.wf] at h
  have h1 : IntKind.u8.min = 0 := by decide
  have h2 : IntKind.u8.max = 255 := by decide
  omega
theorem tmod26 (N : Nat) : (N : Int).tmod 26 = ((N % 26 : Nat) : Int) := by
  rw [Int.tmod_eq_emod_of_nonneg (by omega)]; omega
theorem conv_byte (b cap : Nat) (n : Int) (W : World) (h : W.cell? ⟨b, 0, none⟩ = some (.int .u8 n)) : (convert 53 9 (.slice (some ⟨b, 0, none⟩) 1 cap)).run Tryz.prog W = .ok (.string ⟨#[UInt8.ofNat n.toNat]⟩) W := by
  have hl : (loadCells ⟨b, 0, none⟩ 1).run Tryz.prog W = .ok ([n].map (Value.int .u8)).toArray W := by
    simp [loadCells, h, go_sem]
  have h2 := run_bytesToString (P := Tryz.prog) W ⟨b, 0, none⟩ 1 cap [n] hl
  unfold convert
  simp [Sem.run_bind, run_underlying Tryz.underlying53, run_underlying Tryz.underlying9, run_underlying Tryz.underlying5, h2, go_sem]
  rfl
/-- The letter with a number. -/
def letN (N : Nat) : UInt8 := UInt8.ofNat (97 + N % 26)
theorem letN_letter (N : Nat) : X.letter (letN N) = true := by
  have : ∀ k : Fin 26, X.letter (UInt8.ofNat (97 + (k : Nat))) = true := by decide +kernel
  exact this ⟨N % 26, Nat.mod_lt _ (by omega)⟩
theorem letN_run (N : Nat) : IntKind.u8.wrap (97 + (N : Int).tmod 26) = 97 + (N : Int) % 26 := by
  rw [tmod26]; exact (IntWalk.u8_in _ (by have := Nat.mod_lt N (show 0 < 26 by omega); omega)).trans (by omega)
theorem conv_letN (N cap : Nat) (W : World) : (convert 53 9 (.slice (some ⟨W.heap.size, 0, none⟩) 1 cap)).run Tryz.prog (W.alloc (.cells #[.int .u8 (97 + (N : Int) % 26)] 5)) = .ok (.string ⟨#[letN N]⟩) (W.alloc (.cells #[.int .u8 (97 + (N : Int) % 26)] 5)) := by
  rw [conv_byte W.heap.size cap _ _ (cell_new1 _ _ _)]
  have : ((97 : Int) + (N : Int) % 26).toNat = 97 + N % 26 := by omega
  rw [this]; rfl
set_option maxRecDepth 20000 in
set_option maxHeartbeats 8000000 in
theorem told_walk (a0 : Option Addr) (cap0 : Nat) (l0 : List X.W) (s1 : X.W) (s2 : X.W) (n3 : Int) (w : World) (z0 : a0 = none → cap0 = 0) (w0 : Strs w a0 l0)   (w3 : (Lit.int .u8 n3).wf = true) :
    Calls Tryz.prog 9 #[.slice a0 l0.length cap0, sv s1, sv s2, .int .u8 n3] w fun e w' => e = .returned (.bool true) ∧ RowKit.Below w.heap.size w w' := by
  have HB0 := Lib.hid (RowKit.Below.refl w.heap.size w)
  have I0 := Lib.hid w0
  clear w0
  obtain ⟨N, rfl⟩ : ∃ N : Nat, n3 = (N : Int) := ⟨n3.toNat, by have := u8_bd w3; omega⟩
  have hN := u8_bd w3
  clear w3
  by_cases h0 : X.listE l0 = 0
  case pos =>
    have hL0 := X.listE_iff.1 h0
    have e0 := hL0.many
    have HR0 := Lib.hid (rooms_of (fun s hs => by have := hL0.long s hs; omega : ∀ s ∈ l0, s.length ≤ 1000))
    have HD0 := Lib.hid (decide_eq_true h0)
    have HL := Lib.hid hL0
    clear h0 hL0
    by_cases h1 : 20 < s1.length
    case pos =>
      have hI1 : (20 : Int) < (s1.length : Int) := by omega
      go_enter Tryz.func9, Tryz.ntmps9
      have hC := fine_any a0 cap0 l0 w I0.out
      rw [HD0.out] at hC
      have HC := Lib.hid hC
      clear hC
      go_wp2_with fail
      refine HC.out.mono ?_
      rintro e w1 ⟨rfl, hd⟩
      have hb := hd.below w.heap.size
      clear hd
      have hb := hb
      have HB0 := Lib.hid (HB0.out.trans (hb.mono HB0.out.size))
      have I01 := Lib.hid (I0.out.below hb)
      clear hb HC
      have HC := Lib.hid (works_any w1)
      go_wp2_with fail
      refine HC.out.mono ?_
      rintro e w2 ⟨rfl, hb⟩
      have HB2 := Lib.hid (HB0.out.trans (hb.mono HB0.out.size))
      have I03 := Lib.hid (I01.out.below hb)
      clear hb HC
      go_wp2_with fail
      go_ret
      exact ⟨rfl, HB2.out⟩
    case neg =>
      have hI1 : ¬ (20 : Int) < (s1.length : Int) := by omega
      by_cases h2 : 20 < s2.length
      case pos =>
        have hI2 : (20 : Int) < (s2.length : Int) := by omega
        go_enter Tryz.func9, Tryz.ntmps9
        have hC := fine_any a0 cap0 l0 w I0.out
        rw [HD0.out] at hC
        have HC := Lib.hid hC
        clear hC
        go_wp2_with fail
        refine HC.out.mono ?_
        rintro e w1 ⟨rfl, hd⟩
        have hb := hd.below w.heap.size
        clear hd
        have hb := hb
        have HB4 := Lib.hid (HB0.out.trans (hb.mono HB0.out.size))
        have I05 := Lib.hid (I0.out.below hb)
        clear hb HC
        have HC := Lib.hid (works_any w1)
        go_wp2_with fail
        refine HC.out.mono ?_
        rintro e w2 ⟨rfl, hb⟩
        have HB6 := Lib.hid (HB4.out.trans (hb.mono HB4.out.size))
        have I07 := Lib.hid (I05.out.below hb)
        clear hb HC
        go_wp2_with fail
        go_ret
        exact ⟨rfl, HB6.out⟩
      case neg =>
        have hI2 : ¬ (20 : Int) < (s2.length : Int) := by omega
        by_cases hx : X.wordE s1 = 0
        case pos =>
          by_cases hy : X.wordE s2 = 0
          case pos =>
            have HX := Lib.hid hx
            have HY := Lib.hid hy
            have hcm := X.tell_comm HL.out hx hy
            have hlx := (X.wordE_iff.1 hx).1
            have hly := (X.wordE_iff.1 hy).1
            rcases X.tell_cases HL.out hx hy with ⟨A, hA, hne⟩ | ⟨hA, hE⟩
            case inl =>
              have HT1 := Lib.hid hA
              have HT2 := Lib.hid (hcm.symm.trans hA)
              have hAl : A.length ≤ 10 := by
                have h3 : s1 ++ A ∈ l0 ∨ s2 ++ A ∈ l0 := by
                  by_cases q1 : s1 ++ A ∈ l0
                  · exact .inl q1
                  · by_cases q2 : s2 ++ A ∈ l0
                    · exact .inr q2
                    · exact absurd (by rw [decide_eq_false q1, decide_eq_false q2]) hne
                rcases h3 with h3 | h3
                · have := HL.out.long _ h3; rw [List.length_append] at this; omega
                · have := HL.out.long _ h3; rw [List.length_append] at this; omega
              have hbb : (decide (s1 ++ A ∈ l0) = true ∧ decide (s2 ++ A ∈ l0) = false) ∨ (decide (s1 ++ A ∈ l0) = false ∧ decide (s2 ++ A ∈ l0) = true) := by
                revert hne; cases decide (s1 ++ A ∈ l0) <;> cases decide (s2 ++ A ∈ l0) <;> simp
              have hs1 : ¬ 9223372036854775807 < s1.length + A.length := by omega
              have hs2 : ¬ 9223372036854775807 < s2.length + A.length := by omega
              have hq1 : (ByteArray.mk s1.toArray) ++ (ByteArray.mk A.toArray) = ⟨(s1 ++ A).toArray⟩ := ByteArray.mk_append_mk s1 A
              have hq2 : (ByteArray.mk s2.toArray) ++ (ByteArray.mk A.toArray) = ⟨(s2 ++ A).toArray⟩ := ByteArray.mk_append_mk s2 A
              clear hA hcm hne hx hy
              rcases hbb with ⟨g1, g2⟩ | ⟨g1, g2⟩
              case inl =>
                have G1 := Lib.hid g1
                have G2 := Lib.hid g2
                clear g1 g2
                go_enter Tryz.func9, Tryz.ntmps9
                have hC := fine_any a0 cap0 l0 w I0.out
                rw [HD0.out] at hC
                have HC := Lib.hid hC
                clear hC
                go_wp2_with fail
                refine HC.out.mono ?_
                rintro e w1 ⟨rfl, hd⟩
                have hb := hd.below w.heap.size
                clear hd
                have hb := hb
                have HB8 := Lib.hid (HB0.out.trans (hb.mono HB0.out.size))
                have I09 := Lib.hid (I0.out.below hb)
                clear hb HC
                have hC := tellM_any a0 cap0 l0 s1 s2 w1 (by omega) HR0.out (by omega) (by omega) I09.out
                rw [HT1.out] at hC
                have HC := Lib.hid hC
                clear hC
                go_wp2_with fail
                refine HC.out.mono ?_
                rintro e w2 ⟨rfl, hb⟩
                have HB10 := Lib.hid (HB8.out.trans (hb.mono HB8.out.size))
                have I011 := Lib.hid (I09.out.below hb)
                clear hb HC
                have hC := tellM_any a0 cap0 l0 s2 s1 w2 (by omega) HR0.out (by omega) (by omega) I011.out
                rw [HT2.out] at hC
                have HC := Lib.hid hC
                clear hC
                go_wp2_with fail
                refine HC.out.mono ?_
                rintro e w3 ⟨rfl, hb⟩
                have HB12 := Lib.hid (HB10.out.trans (hb.mono HB10.out.size))
                have I013 := Lib.hid (I011.out.below hb)
                clear hb HC
                have hC := word_any s1 w3 (by omega)
                rw [HX.out] at hC
                have HC := Lib.hid hC
                clear hC
                go_wp2_with fail
                refine HC.out.mono ?_
                rintro e _ ⟨rfl, rfl⟩
                clear HC
                have hC := word_any s2 w3 (by omega)
                rw [HY.out] at hC
                have HC := Lib.hid hC
                clear hC
                go_wp2_with fail
                refine HC.out.mono ?_
                rintro e _ ⟨rfl, rfl⟩
                clear HC
                have hC := has_any a0 cap0 l0 (s1 ++ A) w3 (by omega) I013.out
                rw [G1.out] at hC
                have HC := Lib.hid hC
                clear hC
                go_wp2_with fail
                refine HC.out.mono ?_
                rintro e _ ⟨rfl, rfl⟩
                clear HC
                have hC := has_any a0 cap0 l0 (s2 ++ A) w3 (by omega) I013.out
                rw [G2.out] at hC
                have HC := Lib.hid hC
                clear hC
                go_wp2_with fail
                refine HC.out.mono ?_
                rintro e _ ⟨rfl, rfl⟩
                clear HC
                have HC := Lib.hid (works_any w3)
                go_wp2_with fail
                refine HC.out.mono ?_
                rintro e w4 ⟨rfl, hb⟩
                have HB14 := Lib.hid (HB12.out.trans (hb.mono HB12.out.size))
                have I015 := Lib.hid (I013.out.below hb)
                clear hb HC
                go_wp2_with fail
                go_ret
                exact ⟨rfl, HB14.out⟩
              case inr =>
                have G1 := Lib.hid g1
                have G2 := Lib.hid g2
                clear g1 g2
                go_enter Tryz.func9, Tryz.ntmps9
                have hC := fine_any a0 cap0 l0 w I0.out
                rw [HD0.out] at hC
                have HC := Lib.hid hC
                clear hC
                go_wp2_with fail
                refine HC.out.mono ?_
                rintro e w1 ⟨rfl, hd⟩
                have hb := hd.below w.heap.size
                clear hd
                have hb := hb
                have HB16 := Lib.hid (HB0.out.trans (hb.mono HB0.out.size))
                have I017 := Lib.hid (I0.out.below hb)
                clear hb HC
                have hC := tellM_any a0 cap0 l0 s1 s2 w1 (by omega) HR0.out (by omega) (by omega) I017.out
                rw [HT1.out] at hC
                have HC := Lib.hid hC
                clear hC
                go_wp2_with fail
                refine HC.out.mono ?_
                rintro e w2 ⟨rfl, hb⟩
                have HB18 := Lib.hid (HB16.out.trans (hb.mono HB16.out.size))
                have I019 := Lib.hid (I017.out.below hb)
                clear hb HC
                have hC := tellM_any a0 cap0 l0 s2 s1 w2 (by omega) HR0.out (by omega) (by omega) I019.out
                rw [HT2.out] at hC
                have HC := Lib.hid hC
                clear hC
                go_wp2_with fail
                refine HC.out.mono ?_
                rintro e w3 ⟨rfl, hb⟩
                have HB20 := Lib.hid (HB18.out.trans (hb.mono HB18.out.size))
                have I021 := Lib.hid (I019.out.below hb)
                clear hb HC
                have hC := word_any s1 w3 (by omega)
                rw [HX.out] at hC
                have HC := Lib.hid hC
                clear hC
                go_wp2_with fail
                refine HC.out.mono ?_
                rintro e _ ⟨rfl, rfl⟩
                clear HC
                have hC := word_any s2 w3 (by omega)
                rw [HY.out] at hC
                have HC := Lib.hid hC
                clear hC
                go_wp2_with fail
                refine HC.out.mono ?_
                rintro e _ ⟨rfl, rfl⟩
                clear HC
                have hC := has_any a0 cap0 l0 (s1 ++ A) w3 (by omega) I021.out
                rw [G1.out] at hC
                have HC := Lib.hid hC
                clear hC
                go_wp2_with fail
                refine HC.out.mono ?_
                rintro e _ ⟨rfl, rfl⟩
                clear HC
                have hC := has_any a0 cap0 l0 (s2 ++ A) w3 (by omega) I021.out
                rw [G2.out] at hC
                have HC := Lib.hid hC
                clear hC
                go_wp2_with fail
                refine HC.out.mono ?_
                rintro e _ ⟨rfl, rfl⟩
                clear HC
                have HC := Lib.hid (works_any w3)
                go_wp2_with fail
                refine HC.out.mono ?_
                rintro e w4 ⟨rfl, hb⟩
                have HB22 := Lib.hid (HB20.out.trans (hb.mono HB20.out.size))
                have I023 := Lib.hid (I021.out.below hb)
                clear hb HC
                go_wp2_with fail
                go_ret
                exact ⟨rfl, HB22.out⟩
            case inr =>
              have HT1 := Lib.hid hA
              have HT2 := Lib.hid (hcm.symm.trans hA)
              have HE := Lib.hid hE
              clear hA hcm hE hx hy
              have kN := letN_run N
              have hcv := conv_letN N 1
              by_cases h5 : 10 ≤ s1.length
              case pos =>
                have hJ1 : (10 : Int) ≤ (s1.length : Int) := by omega
                go_enter Tryz.func9, Tryz.ntmps9
                have hC := fine_any a0 cap0 l0 w I0.out
                rw [HD0.out] at hC
                have HC := Lib.hid hC
                clear hC
                go_wp2_with fail
                refine HC.out.mono ?_
                rintro e w1 ⟨rfl, hd⟩
                have hb := hd.below w.heap.size
                clear hd
                have hb := hb
                have HB24 := Lib.hid (HB0.out.trans (hb.mono HB0.out.size))
                have I025 := Lib.hid (I0.out.below hb)
                clear hb HC
                have hC := tellM_any a0 cap0 l0 s1 s2 w1 (by omega) HR0.out (by omega) (by omega) I025.out
                rw [HT1.out] at hC
                have HC := Lib.hid hC
                clear hC
                go_wp2_with fail
                refine HC.out.mono ?_
                rintro e w2 ⟨rfl, hb⟩
                have HB26 := Lib.hid (HB24.out.trans (hb.mono HB24.out.size))
                have I027 := Lib.hid (I025.out.below hb)
                clear hb HC
                have hC := tellM_any a0 cap0 l0 s2 s1 w2 (by omega) HR0.out (by omega) (by omega) I027.out
                rw [HT2.out] at hC
                have HC := Lib.hid hC
                clear hC
                go_wp2_with fail
                refine HC.out.mono ?_
                rintro e w3 ⟨rfl, hb⟩
                have HB28 := Lib.hid (HB26.out.trans (hb.mono HB26.out.size))
                have I029 := Lib.hid (I027.out.below hb)
                clear hb HC
                have hC := word_any s1 w3 (by omega)
                rw [HX.out] at hC
                have HC := Lib.hid hC
                clear hC
                go_wp2_with fail
                refine HC.out.mono ?_
                rintro e _ ⟨rfl, rfl⟩
                clear HC
                have hC := word_any s2 w3 (by omega)
                rw [HY.out] at hC
                have HC := Lib.hid hC
                clear hC
                go_wp2_with fail
                refine HC.out.mono ?_
                rintro e _ ⟨rfl, rfl⟩
                clear HC
                have hw := hcv w3
                go_wp2_with fail
                clear hw
                obtain ⟨w4, hV⟩ : ∃ V, V = w3.alloc (.cells #[.int .u8 (97 + (N : Int) % 26)] 5) := ⟨_, rfl⟩
                have hb := Below.new w3 (.cells #[.int .u8 (97 + (N : Int) % 26)] 5)
                rw [← hV] at hb ⊢
                clear hV
                have HB30 := Lib.hid (HB28.out.trans (hb.mono HB28.out.size))
                have I031 := Lib.hid (I029.out.below hb)
                clear hb
                have HC := Lib.hid (works_any w4)
                go_wp2_with fail
                refine HC.out.mono ?_
                rintro e w5 ⟨rfl, hb⟩
                have HB32 := Lib.hid (HB30.out.trans (hb.mono HB30.out.size))
                have I033 := Lib.hid (I031.out.below hb)
                clear hb HC
                go_wp2_with fail
                go_ret
                exact ⟨rfl, HB32.out⟩
              case neg =>
                have hJ1 : ¬ (10 : Int) ≤ (s1.length : Int) := by omega
                by_cases h6 : 10 ≤ s2.length
                case pos =>
                  have hJ2 : (10 : Int) ≤ (s2.length : Int) := by omega
                  go_enter Tryz.func9, Tryz.ntmps9
                  have hC := fine_any a0 cap0 l0 w I0.out
                  rw [HD0.out] at hC
                  have HC := Lib.hid hC
                  clear hC
                  go_wp2_with fail
                  refine HC.out.mono ?_
                  rintro e w1 ⟨rfl, hd⟩
                  have hb := hd.below w.heap.size
                  clear hd
                  have hb := hb
                  have HB34 := Lib.hid (HB0.out.trans (hb.mono HB0.out.size))
                  have I035 := Lib.hid (I0.out.below hb)
                  clear hb HC
                  have hC := tellM_any a0 cap0 l0 s1 s2 w1 (by omega) HR0.out (by omega) (by omega) I035.out
                  rw [HT1.out] at hC
                  have HC := Lib.hid hC
                  clear hC
                  go_wp2_with fail
                  refine HC.out.mono ?_
                  rintro e w2 ⟨rfl, hb⟩
                  have HB36 := Lib.hid (HB34.out.trans (hb.mono HB34.out.size))
                  have I037 := Lib.hid (I035.out.below hb)
                  clear hb HC
                  have hC := tellM_any a0 cap0 l0 s2 s1 w2 (by omega) HR0.out (by omega) (by omega) I037.out
                  rw [HT2.out] at hC
                  have HC := Lib.hid hC
                  clear hC
                  go_wp2_with fail
                  refine HC.out.mono ?_
                  rintro e w3 ⟨rfl, hb⟩
                  have HB38 := Lib.hid (HB36.out.trans (hb.mono HB36.out.size))
                  have I039 := Lib.hid (I037.out.below hb)
                  clear hb HC
                  have hC := word_any s1 w3 (by omega)
                  rw [HX.out] at hC
                  have HC := Lib.hid hC
                  clear hC
                  go_wp2_with fail
                  refine HC.out.mono ?_
                  rintro e _ ⟨rfl, rfl⟩
                  clear HC
                  have hC := word_any s2 w3 (by omega)
                  rw [HY.out] at hC
                  have HC := Lib.hid hC
                  clear hC
                  go_wp2_with fail
                  refine HC.out.mono ?_
                  rintro e _ ⟨rfl, rfl⟩
                  clear HC
                  have hw := hcv w3
                  go_wp2_with fail
                  clear hw
                  obtain ⟨w4, hV⟩ : ∃ V, V = w3.alloc (.cells #[.int .u8 (97 + (N : Int) % 26)] 5) := ⟨_, rfl⟩
                  have hb := Below.new w3 (.cells #[.int .u8 (97 + (N : Int) % 26)] 5)
                  rw [← hV] at hb ⊢
                  clear hV
                  have HB40 := Lib.hid (HB38.out.trans (hb.mono HB38.out.size))
                  have I041 := Lib.hid (I039.out.below hb)
                  clear hb
                  have HC := Lib.hid (works_any w4)
                  go_wp2_with fail
                  refine HC.out.mono ?_
                  rintro e w5 ⟨rfl, hb⟩
                  have HB42 := Lib.hid (HB40.out.trans (hb.mono HB40.out.size))
                  have I043 := Lib.hid (I041.out.below hb)
                  clear hb HC
                  go_wp2_with fail
                  go_ret
                  exact ⟨rfl, HB42.out⟩
                case neg =>
                  have hJ2 : ¬ (10 : Int) ≤ (s2.length : Int) := by omega
                  have HT3 := Lib.hid (X.tell_letter HL.out (X.wordE_snoc HX.out (letN_letter N) (by omega)) (X.wordE_snoc HY.out (letN_letter N) (by omega)) HE.out)
                  have hs1 : ¬ 9223372036854775807 < s1.length + 1 := by omega
                  have hs2 : ¬ 9223372036854775807 < s2.length + 1 := by omega
                  have hq1 : (ByteArray.mk s1.toArray) ++ (ByteArray.mk #[letN N]) = ⟨(s1 ++ [letN N]).toArray⟩ := ByteArray.mk_append_mk s1 [letN N]
                  have hq2 : (ByteArray.mk s2.toArray) ++ (ByteArray.mk #[letN N]) = ⟨(s2 ++ [letN N]).toArray⟩ := ByteArray.mk_append_mk s2 [letN N]
                  go_enter Tryz.func9, Tryz.ntmps9
                  have hC := fine_any a0 cap0 l0 w I0.out
                  rw [HD0.out] at hC
                  have HC := Lib.hid hC
                  clear hC
                  go_wp2_with fail
                  refine HC.out.mono ?_
                  rintro e w1 ⟨rfl, hd⟩
                  have hb := hd.below w.heap.size
                  clear hd
                  have hb := hb
                  have HB44 := Lib.hid (HB0.out.trans (hb.mono HB0.out.size))
                  have I045 := Lib.hid (I0.out.below hb)
                  clear hb HC
                  have hC := tellM_any a0 cap0 l0 s1 s2 w1 (by omega) HR0.out (by omega) (by omega) I045.out
                  rw [HT1.out] at hC
                  have HC := Lib.hid hC
                  clear hC
                  go_wp2_with fail
                  refine HC.out.mono ?_
                  rintro e w2 ⟨rfl, hb⟩
                  have HB46 := Lib.hid (HB44.out.trans (hb.mono HB44.out.size))
                  have I047 := Lib.hid (I045.out.below hb)
                  clear hb HC
                  have hC := tellM_any a0 cap0 l0 s2 s1 w2 (by omega) HR0.out (by omega) (by omega) I047.out
                  rw [HT2.out] at hC
                  have HC := Lib.hid hC
                  clear hC
                  go_wp2_with fail
                  refine HC.out.mono ?_
                  rintro e w3 ⟨rfl, hb⟩
                  have HB48 := Lib.hid (HB46.out.trans (hb.mono HB46.out.size))
                  have I049 := Lib.hid (I047.out.below hb)
                  clear hb HC
                  have hC := word_any s1 w3 (by omega)
                  rw [HX.out] at hC
                  have HC := Lib.hid hC
                  clear hC
                  go_wp2_with fail
                  refine HC.out.mono ?_
                  rintro e _ ⟨rfl, rfl⟩
                  clear HC
                  have hC := word_any s2 w3 (by omega)
                  rw [HY.out] at hC
                  have HC := Lib.hid hC
                  clear hC
                  go_wp2_with fail
                  refine HC.out.mono ?_
                  rintro e _ ⟨rfl, rfl⟩
                  clear HC
                  have hw := hcv w3
                  go_wp2_with fail
                  clear hw
                  obtain ⟨w4, hV⟩ : ∃ V, V = w3.alloc (.cells #[.int .u8 (97 + (N : Int) % 26)] 5) := ⟨_, rfl⟩
                  have hb := Below.new w3 (.cells #[.int .u8 (97 + (N : Int) % 26)] 5)
                  rw [← hV] at hb ⊢
                  clear hV
                  have HB50 := Lib.hid (HB48.out.trans (hb.mono HB48.out.size))
                  have I051 := Lib.hid (I049.out.below hb)
                  clear hb
                  have hC := tellM_any a0 cap0 l0 (s1 ++ [letN N]) (s2 ++ [letN N]) w4 (by omega) HR0.out (by simp; omega) (by simp; omega) I051.out
                  rw [HT3.out] at hC
                  have HC := Lib.hid hC
                  clear hC
                  go_wp2_with fail
                  refine HC.out.mono ?_
                  rintro e w5 ⟨rfl, hb⟩
                  have HB52 := Lib.hid (HB50.out.trans (hb.mono HB50.out.size))
                  have I053 := Lib.hid (I051.out.below hb)
                  clear hb HC
                  have HC := Lib.hid (works_any w5)
                  go_wp2_with fail
                  refine HC.out.mono ?_
                  rintro e w6 ⟨rfl, hb⟩
                  have HB54 := Lib.hid (HB52.out.trans (hb.mono HB52.out.size))
                  have I055 := Lib.hid (I053.out.below hb)
                  clear hb HC
                  go_wp2_with fail
                  go_ret
                  exact ⟨rfl, HB54.out⟩
          case neg =>
            have hb1 := X.tell_bad HL.out (.inr hy : X.wordE s1 ≠ 0 ∨ X.wordE s2 ≠ 0)
            have hb2 := X.tell_bad HL.out (.inl hy : X.wordE s2 ≠ 0 ∨ X.wordE s1 ≠ 0)
            obtain ⟨c1, hc1⟩ : ∃ c, (X.tellE l0 s1 s2).2 = c := ⟨_, rfl⟩
            obtain ⟨c2, hc2⟩ : ∃ c, (X.tellE l0 s2 s1).2 = c := ⟨_, rfl⟩
            have HT1 : Hid (X.tellE l0 s1 s2 = ([], c1)) := Lib.hid (by rw [← hb1.1, ← hc1])
            have HT2 : Hid (X.tellE l0 s2 s1 = ([], c2)) := Lib.hid (by rw [← hb2.1, ← hc2])
            have k1 : (c1 != 0) = true := by rw [← hc1]; simpa using hb1.2
            have k2 : (c2 != 0) = true := by rw [← hc2]; simpa using hb2.2
            clear hb1 hb2 hc1 hc2
            have ky : (X.wordE s2 != 0) = true := by simpa using hy
            go_enter Tryz.func9, Tryz.ntmps9
            have hC := fine_any a0 cap0 l0 w I0.out
            rw [HD0.out] at hC
            have HC := Lib.hid hC
            clear hC
            go_wp2_with fail
            refine HC.out.mono ?_
            rintro e w1 ⟨rfl, hd⟩
            have hb := hd.below w.heap.size
            clear hd
            have hb := hb
            have HB56 := Lib.hid (HB0.out.trans (hb.mono HB0.out.size))
            have I057 := Lib.hid (I0.out.below hb)
            clear hb HC
            have hC := tellM_any a0 cap0 l0 s1 s2 w1 (by omega) HR0.out (by omega) (by omega) I057.out
            rw [HT1.out] at hC
            have HC := Lib.hid hC
            clear hC
            go_wp2_with fail
            refine HC.out.mono ?_
            rintro e w2 ⟨rfl, hb⟩
            have HB58 := Lib.hid (HB56.out.trans (hb.mono HB56.out.size))
            have I059 := Lib.hid (I057.out.below hb)
            clear hb HC
            have hC := tellM_any a0 cap0 l0 s2 s1 w2 (by omega) HR0.out (by omega) (by omega) I059.out
            rw [HT2.out] at hC
            have HC := Lib.hid hC
            clear hC
            go_wp2_with fail
            refine HC.out.mono ?_
            rintro e w3 ⟨rfl, hb⟩
            have HB60 := Lib.hid (HB58.out.trans (hb.mono HB58.out.size))
            have I061 := Lib.hid (I059.out.below hb)
            clear hb HC
            have hC := word_any s1 w3 (by omega)
            rw [hx] at hC
            have HC := Lib.hid hC
            clear hC
            go_wp2_with fail
            refine HC.out.mono ?_
            rintro e _ ⟨rfl, rfl⟩
            clear HC
            have hC := word_any s2 w3 (by omega)
            have HC := Lib.hid hC
            clear hC
            go_wp2_with fail
            refine HC.out.mono ?_
            rintro e _ ⟨rfl, rfl⟩
            clear HC
            have HC := Lib.hid (works_any w3)
            go_wp2_with fail
            refine HC.out.mono ?_
            rintro e w4 ⟨rfl, hb⟩
            have HB62 := Lib.hid (HB60.out.trans (hb.mono HB60.out.size))
            have I063 := Lib.hid (I061.out.below hb)
            clear hb HC
            go_wp2_with fail
            go_ret
            exact ⟨rfl, HB62.out⟩
        case neg =>
          have hb1 := X.tell_bad HL.out (.inl hx : X.wordE s1 ≠ 0 ∨ X.wordE s2 ≠ 0)
          have hb2 := X.tell_bad HL.out (.inr hx : X.wordE s2 ≠ 0 ∨ X.wordE s1 ≠ 0)
          obtain ⟨c1, hc1⟩ : ∃ c, (X.tellE l0 s1 s2).2 = c := ⟨_, rfl⟩
          obtain ⟨c2, hc2⟩ : ∃ c, (X.tellE l0 s2 s1).2 = c := ⟨_, rfl⟩
          have HT1 : Hid (X.tellE l0 s1 s2 = ([], c1)) := Lib.hid (by rw [← hb1.1, ← hc1])
          have HT2 : Hid (X.tellE l0 s2 s1 = ([], c2)) := Lib.hid (by rw [← hb2.1, ← hc2])
          have k1 : (c1 != 0) = true := by rw [← hc1]; simpa using hb1.2
          have k2 : (c2 != 0) = true := by rw [← hc2]; simpa using hb2.2
          clear hb1 hb2 hc1 hc2
          have kx : (X.wordE s1 != 0) = true := by simpa using hx
          go_enter Tryz.func9, Tryz.ntmps9
          have hC := fine_any a0 cap0 l0 w I0.out
          rw [HD0.out] at hC
          have HC := Lib.hid hC
          clear hC
          go_wp2_with fail
          refine HC.out.mono ?_
          rintro e w1 ⟨rfl, hd⟩
          have hb := hd.below w.heap.size
          clear hd
          have hb := hb
          have HB64 := Lib.hid (HB0.out.trans (hb.mono HB0.out.size))
          have I065 := Lib.hid (I0.out.below hb)
          clear hb HC
          have hC := tellM_any a0 cap0 l0 s1 s2 w1 (by omega) HR0.out (by omega) (by omega) I065.out
          rw [HT1.out] at hC
          have HC := Lib.hid hC
          clear hC
          go_wp2_with fail
          refine HC.out.mono ?_
          rintro e w2 ⟨rfl, hb⟩
          have HB66 := Lib.hid (HB64.out.trans (hb.mono HB64.out.size))
          have I067 := Lib.hid (I065.out.below hb)
          clear hb HC
          have hC := tellM_any a0 cap0 l0 s2 s1 w2 (by omega) HR0.out (by omega) (by omega) I067.out
          rw [HT2.out] at hC
          have HC := Lib.hid hC
          clear hC
          go_wp2_with fail
          refine HC.out.mono ?_
          rintro e w3 ⟨rfl, hb⟩
          have HB68 := Lib.hid (HB66.out.trans (hb.mono HB66.out.size))
          have I069 := Lib.hid (I067.out.below hb)
          clear hb HC
          have hC := word_any s1 w3 (by omega)
          have HC := Lib.hid hC
          clear hC
          go_wp2_with fail
          refine HC.out.mono ?_
          rintro e _ ⟨rfl, rfl⟩
          clear HC
          have HC := Lib.hid (works_any w3)
          go_wp2_with fail
          refine HC.out.mono ?_
          rintro e w4 ⟨rfl, hb⟩
          have HB70 := Lib.hid (HB68.out.trans (hb.mono HB68.out.size))
          have I071 := Lib.hid (I069.out.below hb)
          clear hb HC
          go_wp2_with fail
          go_ret
          exact ⟨rfl, HB70.out⟩
  case neg =>
    go_enter Tryz.func9, Tryz.ntmps9
    have hC := fine_any a0 cap0 l0 w I0.out
    rw [decide_eq_false h0] at hC
    have HC := Lib.hid hC
    clear hC
    go_wp2_with fail
    refine HC.out.mono ?_
    rintro e w1 ⟨rfl, hd⟩
    have hb := hd.below w.heap.size
    clear hd
    have hb := hb
    have HB72 := Lib.hid (HB0.out.trans (hb.mono HB0.out.size))
    have I073 := Lib.hid (I0.out.below hb)
    clear hb HC
    have HC := Lib.hid (works_any w1)
    go_wp2_with fail
    refine HC.out.mono ?_
    rintro e w2 ⟨rfl, hb⟩
    have HB74 := Lib.hid (HB72.out.trans (hb.mono HB72.out.size))
    have I075 := Lib.hid (I073.out.below hb)
    clear hb HC
    go_wp2_with fail
    go_ret
    exact ⟨rfl, HB74.out⟩
end Go.Proofs.YtcjbnifafofpbaaGreatDoor
