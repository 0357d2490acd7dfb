/- Walk of IndexSorted. Printed by tools/sortedgen.py. -/
import Derived.Test.YtcjbnifafofpbaaGreatDoorJ24
import Derived.Test.YtcjbnifafofpbaaGreatDoorZXR
namespace Go.Proofs.YtcjbnifafofpbaaGreatDoor
open Go.RowKit Go.Lib
theorem Sts.one {w : World} {b off : Nat} {s : List X.St} (h : Sts w (some ⟨b, off, none⟩) s) (i : Nat) (hi : i < s.length) : Sts w (some ⟨b, off + i * 3, none⟩) [X.at_ s i] := by
  intro j hj
  obtain rfl : j = 0 := by simpa using hj
  obtain ⟨b', off', e, c1, c2, a, cap, c3, c4⟩ := h i hi
  cases e
  have e1 : X.at_ [X.at_ s i] 0 = X.at_ s i := rfl
  rw [e1]
  refine ⟨b, off + i * 3, rfl, ?_, ?_, a, cap, ?_, ?_⟩
  · simpa using c1
  · simpa using c2
  · simpa using c3
  · exact c4
theorem rep_set_len (n : Nat) (x : Int) : ((List.replicate n (0 : Int)).set 0 x).length = n := by simp
set_option maxRecDepth 20000 in
set_option maxHeartbeats 8000000 in
theorem sorted_walk (a0 : Option Addr) (cap0 : Nat) (l0 : List X.W) (w : World) (_z0 : a0 = none → cap0 = 0) (w0 : Strs w a0 l0) :
    Calls Tryz.prog 13 #[.slice a0 l0.length cap0] w fun e w' => e = .returned (.bool true) ∧ RowKit.Below w.heap.size w w' := by
  have HB0 := Lib.hid (RowKit.Below.refl w.heap.size w)
  have I0 := Lib.hid w0
  clear w0
  by_cases h0 : X.listE l0 = 0
  case neg =>
    have hC := fine_any a0 cap0 l0 w I0.out
    rw [decide_eq_false h0] at hC
    have HC := Lib.hid hC
    clear hC h0
    go_enter Tryz.func13, Tryz.ntmps13
    go_wp2_with fail
    refine HC.out.mono ?_
    rintro e w1 ⟨rfl, hd⟩
    have hb := hd.below w.heap.size
    have HB1 := Lib.hid hb
    clear hd hb HC
    have HC := Lib.hid (works_any w1)
    go_wp2_with fail
    refine HC.out.mono ?_
    rintro e w2 ⟨rfl, hb⟩
    have HB2 := Lib.hid (HB1.out.trans (hb.mono HB1.out.size))
    clear hb HC
    go_wp2_with fail
    go_ret
    exact ⟨rfl, HB2.out⟩
  case pos =>
    have hL0 := X.listE_iff.1 h0
    have hC := fine_any a0 cap0 l0 w I0.out
    rw [decide_eq_true h0] at hC
    have HC := Lib.hid hC
    have HL := Lib.hid hL0
    clear hC h0 hL0
    by_cases hz : l0.length = 0
    case pos =>
      have hzI : ((l0.length : Int) == 0) = true := by rw [hz]; rfl
      clear hz
      go_enter Tryz.func13, Tryz.ntmps13
      go_wp2_with fail
      refine HC.out.mono ?_
      rintro e w1 ⟨rfl, hd⟩
      have hb := hd.below w.heap.size
      have HB1 := Lib.hid hb
      clear hd hb HC
      have HC := Lib.hid (works_any w1)
      go_wp2_with fail
      refine HC.out.mono ?_
      rintro e w2 ⟨rfl, hb⟩
      have HB2 := Lib.hid (HB1.out.trans (hb.mono HB1.out.size))
      clear hb HC
      go_wp2_with fail
      go_ret
      exact ⟨rfl, HB2.out⟩
    case neg =>
      have hzI : ((l0.length : Int) == 0) = false := by simpa using hz
      have hne : l0 ≠ [] := fun e => hz (by rw [e]; rfl)
      have HNe := Lib.hid hne
      have HBu := Lib.hid (fun W hd => built_any a0 cap0 l0 W HL.out (I0.out.below hd))
      obtain ⟨hf, hbl⟩ := few_of HL.out
      have HF := Lib.hid hf
      have htl : (X.build l0).length = (X.tops l0).length := X.build_len
      have hbp : 0 < (X.build l0).length := by rw [htl]; have := X.tops_pos HL.out; omega
      have HAu := Lib.hid (X.build_auto HL.out)
      have HIn := Lib.hid (fun i k h1 h2 => X.build_inj HL.out (i := i) (k := k) h1 h2)
      have HC0 : Hid (X.Come l0 0 0 ((List.replicate (X.build l0).length (0 : Int)).set 0 1)) := Lib.hid (by rw [htl]; exact X.come_start HL.out)
      have HCs := Lib.hid (fun i k c (h1 : i < (X.tops l0).length) (h2 : X.Come l0 i k c) p h3 => X.come_step HL.out h1 h2 (p := p) h3)
      have HCb := Lib.hid (fun i k c (h1 : i < (X.tops l0).length) (h2 : X.Come l0 i k c) j h3 h4 => X.come_bound HL.out HNe.out h1 h2 (j := j) h3 h4)
      have HCn := Lib.hid (fun i k c (h1 : i < (X.tops l0).length) (h2 : X.Come l0 i k c) h3 => X.come_next HL.out HNe.out h1 h2 h3)
      have HAll := Lib.hid (fun c (h : X.Come l0 (X.build l0).length 0 c) j (hj : j < (X.build l0).length) => (show 1 ≤ c.getD j 0 from h.one j (by rw [← htl]; exact hj) (by
        rcases Nat.eq_zero_or_pos j with e | e
        · exact .inl e
        · obtain ⟨i', h1, h2⟩ := X.build_pred HL.out (by rw [← htl]; exact hj) e
          exact .inr (.inl ⟨i', by omega, h2⟩))))
      have HLa := Lib.hid (fun i h => X.lonP_all HL.out HNe.out (i := i) h)
      have HLd := Lib.hid (fun i h => X.lon_down HL.out (i := i) h)
      have HLl := Lib.hid (fun i => X.lon_le HL.out i)
      have HLz := Lib.hid (fun i => X.lonP_zero l0 i)
      have HLs := Lib.hid (fun i k h => X.lonP_succ l0 i (k := k) h)
      have HTl := Lib.hid htl
      rw [← htl] at HCs HCb HCn HLa HLd HIn
      generalize X.build l0 = B at *
      clear hne hz hf htl
      go_enter Tryz.func13, Tryz.ntmps13
      go_wp2_with fail
      refine HC.out.mono ?_
      rintro e w1 ⟨rfl, hd⟩
      have hb := hd.below w.heap.size
      have HB1 := Lib.hid hb
      clear hd hb HC
      have HC := Lib.hid (HBu.out w1 HB1.out)
      go_wp2_with fail
      refine HC.out.mono ?_
      rintro e w2 ⟨At, Ct, rfl, hi, hct, hb⟩
      have HB2 := Lib.hid (HB1.out.trans (hb.mono HB1.out.size))
      have hcA := hct.1
      clear hb HC HBu hct
      obtain ⟨bt, ot, rfl, -⟩ := hi 0 hbp
      have It := Lib.hid hi
      clear hi
      have hbpI : (0 : Int) < (B.length : Int) := by omega
      have hmk := run_make_row' (P := Tryz.prog) 56 3 (.int .i64 0) 8 Tryz.underlying56 T56.hi rfl .i64 .i64 B.length (by omega) (by omega)
      have hb1 := Below.new w2 (.cells (madeCells #[.int .i64 0] B.length) 3)
      have hc1 := Cells.made w2 B.length
      have hc2 := Cells.made (w2.alloc (.cells (madeCells #[.int .i64 0] B.length) 3)) B.length
      have HC1 := Lib.hid (hc1.on (Below.new _ (.cells (madeCells #[.int .i64 0] B.length) 3)))
      rw [World.size_alloc] at hc2
      have HC2 := Lib.hid hc2
      have HB3 := Lib.hid (hb1.alloc (by simp) (.cells (madeCells #[.int .i64 0] B.length) 3))
      clear hb1 hc1 hc2
      go_wp2_with fail
      go_region
      · have HT0 : Hid (Two w2 ((w2.alloc (.cells (madeCells #[.int .i64 0] B.length) 3)).alloc (.cells (madeCells #[.int .i64 0] B.length) 3)).drew w2.heap.size (w2.heap.size + 1) (List.replicate B.length 0) (List.replicate B.length 0)) := Lib.hid ((⟨HC1.out, HC2.out, by omega, by omega, by omega, HB3.out⟩ : Two w2 _ _ _ _ _).drew ⟨1, rfl⟩)
        have y0 := HT0.out.c1.nth 0 (by simpa using hbp)
        have f0 := HT0.out.c1.fr 0
        have HT1 := Lib.hid (HT0.out.put1 0 1 (by simpa using hbp))
        have hzl := rep_set_len B.length 1
        have hrl : (List.replicate B.length (0 : Int)).length = B.length := by simp
        generalize ((w2.alloc (.cells (madeCells #[.int .i64 0] B.length) 3)).alloc (.cells (madeCells #[.int .i64 0] B.length) 3)).drew = W0 at *
        generalize (List.replicate B.length (0 : Int)).set 0 1 = z1 at *
        generalize List.replicate B.length (0 : Int) = zr at *
        clear HC1 HC2 HB3 hmk HT0
        go_wp2_with fail
        clear y0 f0
        go_loopw [7, 8, 9] (fun x _ _ wr => ∃ (i : Nat) (cc : List Int), i ≤ B.length ∧ x = .int .i64 i ∧ cc.length = B.length ∧ Hid (X.Come l0 i 0 cc) ∧ Hid (Two w2 wr w2.heap.size (w2.heap.size + 1) cc zr)) (fun x _ _ _ => B.length - (intOf x).toNat)
        case atStart => exact ⟨0, z1, by omega, rfl, hzl, HC0, HT1⟩
        case round =>
          clear HT1 HC0 hzl z1
          obtain ⟨i, cc, hi, rfl, hcl, HCm, HT⟩ := hrel
          have hi0 : (0 : Int) ≤ (i : Int) := by omega
          obtain ⟨V, rfl⟩ : ∃ V, V = wr := ⟨_, rfl⟩
          by_cases hil : i < B.length
          case pos =>
            have hiI : (i : Int) < (B.length : Int) := by omega
            have hNl : (X.at_ B i).next.length ≤ 1000000 := (HF.out _ (X.at_mem hil)).2
            have HNx : Hid (∀ k, k < (X.at_ B i).next.length → (i : Int) < nth (X.at_ B i).next k ∧ nth (X.at_ B i).next k < B.length) := Lib.hid (fun k hk => by
              rw [nth_eq _ k hk]; exact HAu.out.nx i hil _ (List.getElem_mem hk))
            have HSi := Lib.hid (fun k c h => HCs.out i k c hil h)
            have HBi := Lib.hid (fun k c h => HCb.out i k c hil h)
            have HNi := Lib.hid (fun k c h => HCn.out i k c hil h)
            obtain ⟨bt', ot', et, -, -, an, cn, q3, hi3⟩ := It.out i hil
            cases et
            have Q3 := Lib.hid q3
            have HI3 := Lib.hid hi3
            clear q3 hi3
            have kk1 : IntKind.i64.wrap ((i : Int) + 1) = (i : Int) + 1 := IntWalk.i64_in _ (by omega)
            go_wp2_with fail
            go_loopw [8] (fun x wr => ∃ (k : Nat) (cc : List Int), k ≤ (X.at_ B i).next.length ∧ x = .int .i64 k ∧ cc.length = B.length ∧ Hid (X.Come l0 i k cc) ∧ Hid (Two w2 wr w2.heap.size (w2.heap.size + 1) cc zr)) (fun x _ => (X.at_ B i).next.length - (intOf x).toNat)
            case atStart => exact ⟨0, cc, by omega, rfl, hcl, HCm, HT⟩
            case round =>
              clear HT HCm hcl
              obtain ⟨k, cc, hk, rfl, hcl, HCm, HT⟩ := hrel
              have q3 := cell_on HT.out.bel Q3.out
              by_cases hkl : k < (X.at_ B i).next.length
              case pos =>
                have hkI : (k : Int) < ((X.at_ B i).next.length : Int) := by omega
                have hk0 : (0 : Int) ≤ (k : Int) := by omega
                obtain ⟨b3, off3, rfl, q4⟩ := (HI3.out.below HT.out.bel) k hkl
                have hv := HNx.out k hkl
                obtain ⟨n, hn⟩ := Int.eq_ofNat_of_zero_le (show 0 ≤ nth (X.at_ B i).next k by omega)
                have hgn : (X.at_ B i).next[k]? = some (n : Int) := by rw [List.getElem?_eq_getElem hkl, ← nth_eq _ k hkl, hn]
                rw [hn] at q4 hv
                have hns : n < B.length := by omega
                have hnI : (n : Int) < (B.length : Int) := by omega
                have hn0 : (0 : Int) ≤ (n : Int) := by omega
                have z1 := HT.out.c1.nth i (by omega)
                have z2 := HT.out.c1.nth n (by omega)
                have f2 := HT.out.c1.fr n
                have b1 : 0 ≤ nth cc i ∧ nth cc i ≤ 30 := ⟨HCm.out.pos i (by rw [← HTl.out]; exact hil), HCm.out.low i (by rw [← HTl.out]; exact hil) (Nat.le_refl _)⟩
                have b2 : 0 ≤ nth cc n ∧ nth cc n ≤ 30 := ⟨HCm.out.pos n (by rw [← HTl.out]; exact hns), HBi.out k cc HCm.out n hns (by omega)⟩
                have HC2 : Hid (X.Come l0 i (k + 1) (cc.set n (nth cc n + nth cc i))) := Lib.hid (HSi.out k cc HCm.out n hgn)
                have HT2 := Lib.hid ((HT.out.put1 n (nth cc n + nth cc i) (by omega)).drew (⟨1, rfl⟩ : Drew _ (World.drew _)))
                have kA : IntKind.i64.wrap (nth cc n + nth cc i) = nth cc n + nth cc i := IntWalk.i64_in _ (by omega)
                have kk1 : IntKind.i64.wrap ((k : Int) + 1) = (k : Int) + 1 := IntWalk.i64_in _ (by omega)
                have hcl2 : (cc.set n (nth cc n + nth cc i)).length = B.length := by rw [List.length_set]; exact hcl
                clear hgn hn hv b1 b2
                generalize nth cc n = x1 at *
                generalize nth cc i = x2 at *
                go_wp2_with fail
                go_still_tail 16, (by kernel_rfl)
                go_wp2_with fail
                go_roundw
                case rel => exact ⟨k + 1, _, by omega, by go_num, hcl2, HC2, HT2⟩
                case measure => simp [intOf]; omega
              case neg =>
                have ek : k = (X.at_ B i).next.length := by omega
                have hkI : ¬ (k : Int) < ((X.at_ B i).next.length : Int) := by omega
                have HCm2 := Lib.hid (HNi.out k cc HCm.out ek)
                clear HCm HNi HSi HBi ek hkl hk
                go_wp2_with fail
                go_loopw [9] (fun x wr => ∃ (k : Nat), k ≤ i ∧ x = .int .i64 k ∧ Hid (Two w2 wr w2.heap.size (w2.heap.size + 1) cc zr)) (fun x _ => i - (intOf x).toNat)
                case atStart => exact ⟨0, by omega, rfl, HT⟩
                case round =>
                  clear HT q3
                  obtain ⟨k, hk, rfl, HT⟩ := hrel
                  by_cases hki : k < i
                  case pos =>
                    have hkI : (k : Int) < (i : Int) := by omega
                    have hk0 : (0 : Int) ≤ (k : Int) := by omega
                    have kk2 : IntKind.i64.wrap ((k : Int) + 1) = (k : Int) + 1 := IntWalk.i64_in _ (by omega)
                    have hd : ¬ ([X.at_ B i] = [X.at_ B k]) := fun e => by
                      have := HIn.out i k hil (by omega) (List.cons.inj e).1
                      omega
                    have hC := statesS_any (some ⟨bt, ot + i * 3, none⟩) (Ct - i) [X.at_ B i] (some ⟨bt, ot + k * 3, none⟩) (Ct - k) [X.at_ B k] wr.drew (by simp) (fun x hx => by rw [List.mem_singleton.1 hx]; exact HF.out _ (X.at_mem hil)) ((It.out.below (HT.out.drew (⟨1, rfl⟩ : Drew wr wr.drew)).bel).one i hil) ((It.out.below (HT.out.drew (⟨1, rfl⟩ : Drew wr wr.drew)).bel).one k (by omega))
                    rw [decide_eq_false hd] at hC
                    have HC := Lib.hid hC
                    clear hC hd
                    have h1 : (i : Int) ≤ (i : Int) + 1 := by omega
                    have h2 : (k : Int) ≤ (k : Int) + 1 := by omega
                    have h3 : (i : Int) + 1 ≤ (Ct : Int) := by omega
                    have h4 : (k : Int) + 1 ≤ (Ct : Int) := by omega
                    have h5 : ((i : Int) + 1).toNat = i + 1 := by omega
                    have h6 : ((k : Int) + 1).toNat = k + 1 := by omega
                    have h7 : (0 : Int) ≤ (i : Int) + 1 := by omega
                    have h8 : (0 : Int) ≤ (k : Int) + 1 := by omega
                    go_wp2_with fail
                    go_still_tail 10, (by kernel_rfl)
                    go_wp2_with fail
                    refine HC.out.mono ?_
                    rintro e w5 ⟨rfl, hd⟩
                    have HT5 := Lib.hid (HT.out.drew (Drew.trans (⟨1, rfl⟩ : Drew wr wr.drew) hd))
                    clear hd HC h1 h2 h3 h4 h5 h6 h7 h8
                    go_wp2_with fail
                    go_roundw
                    case rel => exact ⟨k + 1, by omega, by go_num, HT5⟩
                    case measure => simp [intOf]; omega
                  case neg =>
                    go_wp2_with fail
                    go_roundw
                    case rel => exact ⟨i + 1, cc, by omega, by go_num, hcl, HCm2, HT⟩
                    case measure => simp [intOf]; omega
          case neg =>
            obtain rfl : i = B.length := by omega
            have HOn := Lib.hid (HAll.out cc HCm.out)
            have HLn : Hid (∀ j, B.length ≤ j → j < B.length → nth zr j = (X.lon l0 j : Int)) := Lib.hid (fun j h1 h2 => by omega)
            have kn : IntKind.i64.wrap ((B.length : Int) - 1) = (B.length : Int) - 1 := IntWalk.i64_in _ (by omega)
            clear HCm HCs HCb HCn hil hi HAll
            go_wp2_with fail
            clear kn
            go_loopw [10, 11] (fun x _ wr => ∃ (i : Nat) (ll : List Int), i ≤ B.length ∧ x = .int .i64 ((i : Int) - 1) ∧ ll.length = B.length ∧ Hid (∀ j, i ≤ j → j < B.length → nth ll j = (X.lon l0 j : Int)) ∧ Hid (Two w2 wr w2.heap.size (w2.heap.size + 1) cc ll)) (fun x _ _ => (intOf x + 1).toNat)
            case atStart => exact ⟨B.length, zr, by omega, rfl, hrl, HLn, HT⟩
            case round =>
              clear HT HLn hrl
              obtain ⟨i, ll, hi, rfl, hll, HLn, HT⟩ := hrel
              obtain ⟨V, rfl⟩ : ∃ V, V = wr := ⟨_, rfl⟩
              cases i with
              | succ i =>
                have hil : i < B.length := by omega
                have hiI : (i : Int) < (B.length : Int) := by omega
                have hi0 : (0 : Int) ≤ (i : Int) := by omega
                have ei : (((i + 1 : Nat) : Int) - 1) = (i : Int) := by omega
                rw [ei]
                obtain ⟨bt', ot', et, q1, -, an, cn, q3, hi3⟩ := It.out i hil
                cases et
                have Q3 := Lib.hid q3
                have HI3 := Lib.hid hi3
                have q1 := cell_on HT.out.bel q1
                have z2 := HT.out.c2.nth i (by omega)
                have f2 := HT.out.c2.fr i
                have hen := HAu.out.en _ (X.at_mem hil)
                have HLz2 := Lib.hid (HLz.out i)
                have HLs2 := Lib.hid (fun k h => HLs.out i k h)
                have HLa2 := Lib.hid (HLa.out i hil)
                have hNl : (X.at_ B i).next.length ≤ 1000000 := (HF.out _ (X.at_mem hil)).2
                have HNx : Hid (∀ k, k < (X.at_ B i).next.length → (i : Int) < nth (X.at_ B i).next k ∧ nth (X.at_ B i).next k < B.length) := Lib.hid (fun k hk => by
                  rw [nth_eq _ k hk]; exact HAu.out.nx i hil _ (List.getElem_mem hk))
                generalize hEx : (X.at_ B i).ends = E at *
                have kE : IntKind.i64.wrap (E - 1) = E - 1 := IntWalk.i64_in _ (by omega)
                have HT2 := Lib.hid (HT.out.put2 i (E - 1) (by omega))
                have hl2 : (ll.set i (E - 1)).length = B.length := by rw [List.length_set]; exact hll
                have HN2 : Hid (nth (ll.set i (E - 1)) i = X.lonP l0 i 0) := Lib.hid (by rw [nth_set_eq (by omega)]; exact HLz2.out.symm)
                have HLn2 : Hid (∀ j, i + 1 ≤ j → j < B.length → nth (ll.set i (E - 1)) j = (X.lon l0 j : Int)) := Lib.hid (fun j h1 h2 => by rw [nth_set_ne (by omega)]; exact HLn.out j h1 h2)
                clear hi3 q3
                go_wp2_with fail
                clear q1 z2 f2 HT HLn kE hen hEx hll
                go_loopw [11] (fun x wr => ∃ (k : Nat) (ll : List Int), k ≤ (X.at_ B i).next.length ∧ x = .int .i64 k ∧ ll.length = B.length ∧ Hid (nth ll i = X.lonP l0 i k) ∧ Hid (∀ j, i + 1 ≤ j → j < B.length → nth ll j = (X.lon l0 j : Int)) ∧ Hid (Two w2 wr w2.heap.size (w2.heap.size + 1) cc ll)) (fun x _ => (X.at_ B i).next.length - (intOf x).toNat)
                case atStart => exact ⟨0, _, by omega, rfl, hl2, HN2, HLn2, HT2⟩
                case round =>
                  clear HT2 HN2 HLn2 hl2
                  obtain ⟨k, ll, hk, rfl, hll, HN, HLn, HT⟩ := hrel
                  have q3 := cell_on HT.out.bel Q3.out
                  by_cases hkl : k < (X.at_ B i).next.length
                  case pos =>
                    have hkI : (k : Int) < ((X.at_ B i).next.length : Int) := by omega
                    have hk0 : (0 : Int) ≤ (k : Int) := by omega
                    obtain ⟨b3, off3, rfl, q4⟩ := (HI3.out.below HT.out.bel) k hkl
                    have hv := HNx.out k hkl
                    have hps := HLs2.out k hkl
                    rw [← nth_eq _ k hkl] at hps
                    obtain ⟨n, hn⟩ := Int.eq_ofNat_of_zero_le (show 0 ≤ nth (X.at_ B i).next k by omega)
                    rw [hn] at q4 hv hps
                    rw [Int.toNat_natCast] at hps
                    have hns : n < B.length := by omega
                    have hnI : (n : Int) < (B.length : Int) := by omega
                    have hn0 : (0 : Int) ≤ (n : Int) := by omega
                    have z1 := HT.out.c2.nth i (by omega)
                    have z2 := HT.out.c2.nth n (by omega)
                    have f1 := HT.out.c2.fr i
                    have v2 := HLn.out n (by omega) hns
                    have b2 := HLl.out n
                    rw [v2] at z2
                    have HM : Hid (max (nth ll i) (1 + (X.lon l0 n : Int)) = X.lonP l0 i (k + 1)) := Lib.hid (by rw [HN.out]; exact hps.symm)
                    generalize X.lon l0 n = ln at *
                    have kL : IntKind.i64.wrap (1 + (ln : Int)) = 1 + (ln : Int) := IntWalk.i64_in _ (by omega)
                    have kk1 : IntKind.i64.wrap ((k : Int) + 1) = (k : Int) + 1 := IntWalk.i64_in _ (by omega)
                    have HT3 := Lib.hid ((HT.out.put2 i (max (nth ll i) (1 + (ln : Int))) (by omega)).drew (⟨1, rfl⟩ : Drew _ (World.drew _)))
                    have hl3 : (ll.set i (max (nth ll i) (1 + (ln : Int)))).length = B.length := by rw [List.length_set]; exact hll
                    have HN3 : Hid (nth (ll.set i (max (nth ll i) (1 + (ln : Int)))) i = X.lonP l0 i (k + 1)) := Lib.hid (by rw [nth_set_eq (by omega)]; exact HM.out)
                    have HLn3 : Hid (∀ j, i + 1 ≤ j → j < B.length → nth (ll.set i (max (nth ll i) (1 + (ln : Int)))) j = (X.lon l0 j : Int)) := Lib.hid (fun j h1 h2 => by rw [nth_set_ne (by omega)]; exact HLn.out j h1 h2)
                    clear hn hv hps v2 b2 HM HN HLn
                    generalize nth ll i = x1 at *
                    go_wp2_with fail
                    go_still_tail 19, (by kernel_rfl)
                    go_wp2_with fail
                    go_roundw
                    case rel => exact ⟨k + 1, _, by omega, by go_num, hl3, HN3, HLn3, HT3⟩
                    case measure => simp [intOf]; omega
                  case neg =>
                    have ek : k = (X.at_ B i).next.length := by omega
                    subst ek
                    rw [HLa2.out] at HN
                    have HLf : Hid (∀ j, i ≤ j → j < B.length → nth ll j = (X.lon l0 j : Int)) := Lib.hid (fun j h1 h2 => by
                      by_cases e : j = i
                      · subst e; exact HN.out
                      · exact HLn.out j (by omega) h2)
                    have z1 := HT.out.c1.nth i (by omega)
                    have z2 := HT.out.c2.nth i (by omega)
                    have o1 : 1 ≤ nth cc i := HOn.out i hil
                    have o2 : (nth cc i == 0) = false := by rw [beq_eq_false_iff_ne]; omega
                    rw [HN.out] at z2
                    have hz0 : ¬ (X.lon l0 i : Int) < 0 := by omega
                    have hz1 : decide ((X.lon l0 i : Int) < 0) = false := decide_eq_false hz0
                    have kk1 : IntKind.i64.wrap ((i : Int) + 1) = (i : Int) + 1 := IntWalk.i64_in _ (by omega)
                    have ki : IntKind.i64.wrap ((i : Int) - 1) = (i : Int) - 1 := IntWalk.i64_in _ (by omega)
                    by_cases hlast : i + 1 < B.length
                    case pos =>
                      have hlI : (i : Int) + 1 < (B.length : Int) := by omega
                      have hi1 : (0 : Int) ≤ (i : Int) + 1 := by omega
                      have hi2 : ((i : Int) + 1).toNat = i + 1 := by omega
                      have z3 := HT.out.c2.nth (i + 1) (by omega)
                      rw [HLf.out (i + 1) (by omega) hlast] at z3
                      have hd := HLd.out i hlast
                      have hD1 : decide ((i : Int) + 1 < (B.length : Int)) = true := decide_eq_true hlI
                      have hD2 : decide (i + 1 < B.length) = true := decide_eq_true hlast
                      have hdI : ¬ (X.lon l0 i : Int) < (X.lon l0 (i + 1) : Int) := by omega
                      generalize X.lon l0 i = l1 at *
                      generalize X.lon l0 (i + 1) = l2 at *
                      generalize nth cc i = x1 at *
                      clear HN HLn o1 hd
                      go_wp2_with fail
                      go_quiet (fail)
                      go_wp2_with fail
                      go_roundw
                      case rel => exact ⟨i, ll, by omega, rfl, hll, HLf, Lib.hid (HT.out.drew ⟨_, rfl⟩)⟩
                      case measure => simp [intOf]
                    case neg =>
                      have hlI : ¬ (i : Int) + 1 < (B.length : Int) := by omega
                      have hD1 : decide ((i : Int) + 1 < (B.length : Int)) = false := decide_eq_false hlI
                      have hD2 : decide (i + 1 < B.length) = false := decide_eq_false hlast
                      generalize X.lon l0 i = l1 at *
                      generalize nth cc i = x1 at *
                      clear HN HLn o1
                      go_wp2_with fail
                      go_quiet (fail)
                      go_wp2_with fail
                      go_roundw
                      case rel => exact ⟨i, ll, by omega, rfl, hll, HLf, Lib.hid (HT.out.drew ⟨_, rfl⟩)⟩
                      case measure => simp [intOf]
              | zero =>
                have e0 : (((0 : Nat) : Int) - 1) = -1 := rfl
                rw [e0]
                have HC := Lib.hid (works_any V)
                go_wp2_with fail
                refine HC.out.mono ?_
                rintro e w9 ⟨rfl, hb⟩
                have HB9 := Lib.hid ((HB2.out.trans (HT.out.bel.mono HB2.out.size)).trans (hb.mono (HB2.out.trans (HT.out.bel.mono HB2.out.size)).size))
                clear hb HC
                go_wp2_with fail
                go_ret
                exact ⟨rfl, HB9.out⟩
      · have HT0 : Hid (Two w2 ((w2.alloc (.cells (madeCells #[.int .i64 0] B.length) 3)).alloc (.cells (madeCells #[.int .i64 0] B.length) 3)).drew (w2.heap.size + 1) w2.heap.size (List.replicate B.length 0) (List.replicate B.length 0)) := Lib.hid ((⟨HC2.out, HC1.out, by omega, by omega, by omega, HB3.out⟩ : Two w2 _ _ _ _ _).drew ⟨1, rfl⟩)
        have y0 := HT0.out.c1.nth 0 (by simpa using hbp)
        have f0 := HT0.out.c1.fr 0
        have HT1 := Lib.hid (HT0.out.put1 0 1 (by simpa using hbp))
        have hzl := rep_set_len B.length 1
        have hrl : (List.replicate B.length (0 : Int)).length = B.length := by simp
        generalize ((w2.alloc (.cells (madeCells #[.int .i64 0] B.length) 3)).alloc (.cells (madeCells #[.int .i64 0] B.length) 3)).drew = W0 at *
        generalize (List.replicate B.length (0 : Int)).set 0 1 = z1 at *
        generalize List.replicate B.length (0 : Int) = zr at *
        clear HC1 HC2 HB3 hmk HT0
        go_wp2_with fail
        clear y0 f0
        go_loopw [7, 8, 9] (fun x _ _ wr => ∃ (i : Nat) (cc : List Int), i ≤ B.length ∧ x = .int .i64 i ∧ cc.length = B.length ∧ Hid (X.Come l0 i 0 cc) ∧ Hid (Two w2 wr (w2.heap.size + 1) w2.heap.size cc zr)) (fun x _ _ _ => B.length - (intOf x).toNat)
        case atStart => exact ⟨0, z1, by omega, rfl, hzl, HC0, HT1⟩
        case round =>
          clear HT1 HC0 hzl z1
          obtain ⟨i, cc, hi, rfl, hcl, HCm, HT⟩ := hrel
          have hi0 : (0 : Int) ≤ (i : Int) := by omega
          obtain ⟨V, rfl⟩ : ∃ V, V = wr := ⟨_, rfl⟩
          by_cases hil : i < B.length
          case pos =>
            have hiI : (i : Int) < (B.length : Int) := by omega
            have hNl : (X.at_ B i).next.length ≤ 1000000 := (HF.out _ (X.at_mem hil)).2
            have HNx : Hid (∀ k, k < (X.at_ B i).next.length → (i : Int) < nth (X.at_ B i).next k ∧ nth (X.at_ B i).next k < B.length) := Lib.hid (fun k hk => by
              rw [nth_eq _ k hk]; exact HAu.out.nx i hil _ (List.getElem_mem hk))
            have HSi := Lib.hid (fun k c h => HCs.out i k c hil h)
            have HBi := Lib.hid (fun k c h => HCb.out i k c hil h)
            have HNi := Lib.hid (fun k c h => HCn.out i k c hil h)
            obtain ⟨bt', ot', et, -, -, an, cn, q3, hi3⟩ := It.out i hil
            cases et
            have Q3 := Lib.hid q3
            have HI3 := Lib.hid hi3
            clear q3 hi3
            have kk1 : IntKind.i64.wrap ((i : Int) + 1) = (i : Int) + 1 := IntWalk.i64_in _ (by omega)
            go_wp2_with fail
            go_loopw [8] (fun x wr => ∃ (k : Nat) (cc : List Int), k ≤ (X.at_ B i).next.length ∧ x = .int .i64 k ∧ cc.length = B.length ∧ Hid (X.Come l0 i k cc) ∧ Hid (Two w2 wr (w2.heap.size + 1) w2.heap.size cc zr)) (fun x _ => (X.at_ B i).next.length - (intOf x).toNat)
            case atStart => exact ⟨0, cc, by omega, rfl, hcl, HCm, HT⟩
            case round =>
              clear HT HCm hcl
              obtain ⟨k, cc, hk, rfl, hcl, HCm, HT⟩ := hrel
              have q3 := cell_on HT.out.bel Q3.out
              by_cases hkl : k < (X.at_ B i).next.length
              case pos =>
                have hkI : (k : Int) < ((X.at_ B i).next.length : Int) := by omega
                have hk0 : (0 : Int) ≤ (k : Int) := by omega
                obtain ⟨b3, off3, rfl, q4⟩ := (HI3.out.below HT.out.bel) k hkl
                have hv := HNx.out k hkl
                obtain ⟨n, hn⟩ := Int.eq_ofNat_of_zero_le (show 0 ≤ nth (X.at_ B i).next k by omega)
                have hgn : (X.at_ B i).next[k]? = some (n : Int) := by rw [List.getElem?_eq_getElem hkl, ← nth_eq _ k hkl, hn]
                rw [hn] at q4 hv
                have hns : n < B.length := by omega
                have hnI : (n : Int) < (B.length : Int) := by omega
                have hn0 : (0 : Int) ≤ (n : Int) := by omega
                have z1 := HT.out.c1.nth i (by omega)
                have z2 := HT.out.c1.nth n (by omega)
                have f2 := HT.out.c1.fr n
                have b1 : 0 ≤ nth cc i ∧ nth cc i ≤ 30 := ⟨HCm.out.pos i (by rw [← HTl.out]; exact hil), HCm.out.low i (by rw [← HTl.out]; exact hil) (Nat.le_refl _)⟩
                have b2 : 0 ≤ nth cc n ∧ nth cc n ≤ 30 := ⟨HCm.out.pos n (by rw [← HTl.out]; exact hns), HBi.out k cc HCm.out n hns (by omega)⟩
                have HC2 : Hid (X.Come l0 i (k + 1) (cc.set n (nth cc n + nth cc i))) := Lib.hid (HSi.out k cc HCm.out n hgn)
                have HT2 := Lib.hid ((HT.out.put1 n (nth cc n + nth cc i) (by omega)).drew (⟨1, rfl⟩ : Drew _ (World.drew _)))
                have kA : IntKind.i64.wrap (nth cc n + nth cc i) = nth cc n + nth cc i := IntWalk.i64_in _ (by omega)
                have kk1 : IntKind.i64.wrap ((k : Int) + 1) = (k : Int) + 1 := IntWalk.i64_in _ (by omega)
                have hcl2 : (cc.set n (nth cc n + nth cc i)).length = B.length := by rw [List.length_set]; exact hcl
                clear hgn hn hv b1 b2
                generalize nth cc n = x1 at *
                generalize nth cc i = x2 at *
                go_wp2_with fail
                go_still_tail 16, (by kernel_rfl)
                go_wp2_with fail
                go_roundw
                case rel => exact ⟨k + 1, _, by omega, by go_num, hcl2, HC2, HT2⟩
                case measure => simp [intOf]; omega
              case neg =>
                have ek : k = (X.at_ B i).next.length := by omega
                have hkI : ¬ (k : Int) < ((X.at_ B i).next.length : Int) := by omega
                have HCm2 := Lib.hid (HNi.out k cc HCm.out ek)
                clear HCm HNi HSi HBi ek hkl hk
                go_wp2_with fail
                go_loopw [9] (fun x wr => ∃ (k : Nat), k ≤ i ∧ x = .int .i64 k ∧ Hid (Two w2 wr (w2.heap.size + 1) w2.heap.size cc zr)) (fun x _ => i - (intOf x).toNat)
                case atStart => exact ⟨0, by omega, rfl, HT⟩
                case round =>
                  clear HT q3
                  obtain ⟨k, hk, rfl, HT⟩ := hrel
                  by_cases hki : k < i
                  case pos =>
                    have hkI : (k : Int) < (i : Int) := by omega
                    have hk0 : (0 : Int) ≤ (k : Int) := by omega
                    have kk2 : IntKind.i64.wrap ((k : Int) + 1) = (k : Int) + 1 := IntWalk.i64_in _ (by omega)
                    have hd : ¬ ([X.at_ B i] = [X.at_ B k]) := fun e => by
                      have := HIn.out i k hil (by omega) (List.cons.inj e).1
                      omega
                    have hC := statesS_any (some ⟨bt, ot + i * 3, none⟩) (Ct - i) [X.at_ B i] (some ⟨bt, ot + k * 3, none⟩) (Ct - k) [X.at_ B k] wr.drew (by simp) (fun x hx => by rw [List.mem_singleton.1 hx]; exact HF.out _ (X.at_mem hil)) ((It.out.below (HT.out.drew (⟨1, rfl⟩ : Drew wr wr.drew)).bel).one i hil) ((It.out.below (HT.out.drew (⟨1, rfl⟩ : Drew wr wr.drew)).bel).one k (by omega))
                    rw [decide_eq_false hd] at hC
                    have HC := Lib.hid hC
                    clear hC hd
                    have h1 : (i : Int) ≤ (i : Int) + 1 := by omega
                    have h2 : (k : Int) ≤ (k : Int) + 1 := by omega
                    have h3 : (i : Int) + 1 ≤ (Ct : Int) := by omega
                    have h4 : (k : Int) + 1 ≤ (Ct : Int) := by omega
                    have h5 : ((i : Int) + 1).toNat = i + 1 := by omega
                    have h6 : ((k : Int) + 1).toNat = k + 1 := by omega
                    have h7 : (0 : Int) ≤ (i : Int) + 1 := by omega
                    have h8 : (0 : Int) ≤ (k : Int) + 1 := by omega
                    go_wp2_with fail
                    go_still_tail 10, (by kernel_rfl)
                    go_wp2_with fail
                    refine HC.out.mono ?_
                    rintro e w5 ⟨rfl, hd⟩
                    have HT5 := Lib.hid (HT.out.drew (Drew.trans (⟨1, rfl⟩ : Drew wr wr.drew) hd))
                    clear hd HC h1 h2 h3 h4 h5 h6 h7 h8
                    go_wp2_with fail
                    go_roundw
                    case rel => exact ⟨k + 1, by omega, by go_num, HT5⟩
                    case measure => simp [intOf]; omega
                  case neg =>
                    go_wp2_with fail
                    go_roundw
                    case rel => exact ⟨i + 1, cc, by omega, by go_num, hcl, HCm2, HT⟩
                    case measure => simp [intOf]; omega
          case neg =>
            obtain rfl : i = B.length := by omega
            have HOn := Lib.hid (HAll.out cc HCm.out)
            have HLn : Hid (∀ j, B.length ≤ j → j < B.length → nth zr j = (X.lon l0 j : Int)) := Lib.hid (fun j h1 h2 => by omega)
            have kn : IntKind.i64.wrap ((B.length : Int) - 1) = (B.length : Int) - 1 := IntWalk.i64_in _ (by omega)
            clear HCm HCs HCb HCn hil hi HAll
            go_wp2_with fail
            clear kn
            go_loopw [10, 11] (fun x _ wr => ∃ (i : Nat) (ll : List Int), i ≤ B.length ∧ x = .int .i64 ((i : Int) - 1) ∧ ll.length = B.length ∧ Hid (∀ j, i ≤ j → j < B.length → nth ll j = (X.lon l0 j : Int)) ∧ Hid (Two w2 wr (w2.heap.size + 1) w2.heap.size cc ll)) (fun x _ _ => (intOf x + 1).toNat)
            case atStart => exact ⟨B.length, zr, by omega, rfl, hrl, HLn, HT⟩
            case round =>
              clear HT HLn hrl
              obtain ⟨i, ll, hi, rfl, hll, HLn, HT⟩ := hrel
              obtain ⟨V, rfl⟩ : ∃ V, V = wr := ⟨_, rfl⟩
              cases i with
              | succ i =>
                have hil : i < B.length := by omega
                have hiI : (i : Int) < (B.length : Int) := by omega
                have hi0 : (0 : Int) ≤ (i : Int) := by omega
                have ei : (((i + 1 : Nat) : Int) - 1) = (i : Int) := by omega
                rw [ei]
                obtain ⟨bt', ot', et, q1, -, an, cn, q3, hi3⟩ := It.out i hil
                cases et
                have Q3 := Lib.hid q3
                have HI3 := Lib.hid hi3
                have q1 := cell_on HT.out.bel q1
                have z2 := HT.out.c2.nth i (by omega)
                have f2 := HT.out.c2.fr i
                have hen := HAu.out.en _ (X.at_mem hil)
                have HLz2 := Lib.hid (HLz.out i)
                have HLs2 := Lib.hid (fun k h => HLs.out i k h)
                have HLa2 := Lib.hid (HLa.out i hil)
                have hNl : (X.at_ B i).next.length ≤ 1000000 := (HF.out _ (X.at_mem hil)).2
                have HNx : Hid (∀ k, k < (X.at_ B i).next.length → (i : Int) < nth (X.at_ B i).next k ∧ nth (X.at_ B i).next k < B.length) := Lib.hid (fun k hk => by
                  rw [nth_eq _ k hk]; exact HAu.out.nx i hil _ (List.getElem_mem hk))
                generalize hEx : (X.at_ B i).ends = E at *
                have kE : IntKind.i64.wrap (E - 1) = E - 1 := IntWalk.i64_in _ (by omega)
                have HT2 := Lib.hid (HT.out.put2 i (E - 1) (by omega))
                have hl2 : (ll.set i (E - 1)).length = B.length := by rw [List.length_set]; exact hll
                have HN2 : Hid (nth (ll.set i (E - 1)) i = X.lonP l0 i 0) := Lib.hid (by rw [nth_set_eq (by omega)]; exact HLz2.out.symm)
                have HLn2 : Hid (∀ j, i + 1 ≤ j → j < B.length → nth (ll.set i (E - 1)) j = (X.lon l0 j : Int)) := Lib.hid (fun j h1 h2 => by rw [nth_set_ne (by omega)]; exact HLn.out j h1 h2)
                clear hi3 q3
                go_wp2_with fail
                clear q1 z2 f2 HT HLn kE hen hEx hll
                go_loopw [11] (fun x wr => ∃ (k : Nat) (ll : List Int), k ≤ (X.at_ B i).next.length ∧ x = .int .i64 k ∧ ll.length = B.length ∧ Hid (nth ll i = X.lonP l0 i k) ∧ Hid (∀ j, i + 1 ≤ j → j < B.length → nth ll j = (X.lon l0 j : Int)) ∧ Hid (Two w2 wr (w2.heap.size + 1) w2.heap.size cc ll)) (fun x _ => (X.at_ B i).next.length - (intOf x).toNat)
                case atStart => exact ⟨0, _, by omega, rfl, hl2, HN2, HLn2, HT2⟩
                case round =>
                  clear HT2 HN2 HLn2 hl2
                  obtain ⟨k, ll, hk, rfl, hll, HN, HLn, HT⟩ := hrel
                  have q3 := cell_on HT.out.bel Q3.out
                  by_cases hkl : k < (X.at_ B i).next.length
                  case pos =>
                    have hkI : (k : Int) < ((X.at_ B i).next.length : Int) := by omega
                    have hk0 : (0 : Int) ≤ (k : Int) := by omega
                    obtain ⟨b3, off3, rfl, q4⟩ := (HI3.out.below HT.out.bel) k hkl
                    have hv := HNx.out k hkl
                    have hps := HLs2.out k hkl
                    rw [← nth_eq _ k hkl] at hps
                    obtain ⟨n, hn⟩ := Int.eq_ofNat_of_zero_le (show 0 ≤ nth (X.at_ B i).next k by omega)
                    rw [hn] at q4 hv hps
                    rw [Int.toNat_natCast] at hps
                    have hns : n < B.length := by omega
                    have hnI : (n : Int) < (B.length : Int) := by omega
                    have hn0 : (0 : Int) ≤ (n : Int) := by omega
                    have z1 := HT.out.c2.nth i (by omega)
                    have z2 := HT.out.c2.nth n (by omega)
                    have f1 := HT.out.c2.fr i
                    have v2 := HLn.out n (by omega) hns
                    have b2 := HLl.out n
                    rw [v2] at z2
                    have HM : Hid (max (nth ll i) (1 + (X.lon l0 n : Int)) = X.lonP l0 i (k + 1)) := Lib.hid (by rw [HN.out]; exact hps.symm)
                    generalize X.lon l0 n = ln at *
                    have kL : IntKind.i64.wrap (1 + (ln : Int)) = 1 + (ln : Int) := IntWalk.i64_in _ (by omega)
                    have kk1 : IntKind.i64.wrap ((k : Int) + 1) = (k : Int) + 1 := IntWalk.i64_in _ (by omega)
                    have HT3 := Lib.hid ((HT.out.put2 i (max (nth ll i) (1 + (ln : Int))) (by omega)).drew (⟨1, rfl⟩ : Drew _ (World.drew _)))
                    have hl3 : (ll.set i (max (nth ll i) (1 + (ln : Int)))).length = B.length := by rw [List.length_set]; exact hll
                    have HN3 : Hid (nth (ll.set i (max (nth ll i) (1 + (ln : Int)))) i = X.lonP l0 i (k + 1)) := Lib.hid (by rw [nth_set_eq (by omega)]; exact HM.out)
                    have HLn3 : Hid (∀ j, i + 1 ≤ j → j < B.length → nth (ll.set i (max (nth ll i) (1 + (ln : Int)))) j = (X.lon l0 j : Int)) := Lib.hid (fun j h1 h2 => by rw [nth_set_ne (by omega)]; exact HLn.out j h1 h2)
                    clear hn hv hps v2 b2 HM HN HLn
                    generalize nth ll i = x1 at *
                    go_wp2_with fail
                    go_still_tail 19, (by kernel_rfl)
                    go_wp2_with fail
                    go_roundw
                    case rel => exact ⟨k + 1, _, by omega, by go_num, hl3, HN3, HLn3, HT3⟩
                    case measure => simp [intOf]; omega
                  case neg =>
                    have ek : k = (X.at_ B i).next.length := by omega
                    subst ek
                    rw [HLa2.out] at HN
                    have HLf : Hid (∀ j, i ≤ j → j < B.length → nth ll j = (X.lon l0 j : Int)) := Lib.hid (fun j h1 h2 => by
                      by_cases e : j = i
                      · subst e; exact HN.out
                      · exact HLn.out j (by omega) h2)
                    have z1 := HT.out.c1.nth i (by omega)
                    have z2 := HT.out.c2.nth i (by omega)
                    have o1 : 1 ≤ nth cc i := HOn.out i hil
                    have o2 : (nth cc i == 0) = false := by rw [beq_eq_false_iff_ne]; omega
                    rw [HN.out] at z2
                    have hz0 : ¬ (X.lon l0 i : Int) < 0 := by omega
                    have hz1 : decide ((X.lon l0 i : Int) < 0) = false := decide_eq_false hz0
                    have kk1 : IntKind.i64.wrap ((i : Int) + 1) = (i : Int) + 1 := IntWalk.i64_in _ (by omega)
                    have ki : IntKind.i64.wrap ((i : Int) - 1) = (i : Int) - 1 := IntWalk.i64_in _ (by omega)
                    by_cases hlast : i + 1 < B.length
                    case pos =>
                      have hlI : (i : Int) + 1 < (B.length : Int) := by omega
                      have hi1 : (0 : Int) ≤ (i : Int) + 1 := by omega
                      have hi2 : ((i : Int) + 1).toNat = i + 1 := by omega
                      have z3 := HT.out.c2.nth (i + 1) (by omega)
                      rw [HLf.out (i + 1) (by omega) hlast] at z3
                      have hd := HLd.out i hlast
                      have hD1 : decide ((i : Int) + 1 < (B.length : Int)) = true := decide_eq_true hlI
                      have hD2 : decide (i + 1 < B.length) = true := decide_eq_true hlast
                      have hdI : ¬ (X.lon l0 i : Int) < (X.lon l0 (i + 1) : Int) := by omega
                      generalize X.lon l0 i = l1 at *
                      generalize X.lon l0 (i + 1) = l2 at *
                      generalize nth cc i = x1 at *
                      clear HN HLn o1 hd
                      go_wp2_with fail
                      go_quiet (fail)
                      go_wp2_with fail
                      go_roundw
                      case rel => exact ⟨i, ll, by omega, rfl, hll, HLf, Lib.hid (HT.out.drew ⟨_, rfl⟩)⟩
                      case measure => simp [intOf]
                    case neg =>
                      have hlI : ¬ (i : Int) + 1 < (B.length : Int) := by omega
                      have hD1 : decide ((i : Int) + 1 < (B.length : Int)) = false := decide_eq_false hlI
                      have hD2 : decide (i + 1 < B.length) = false := decide_eq_false hlast
                      generalize X.lon l0 i = l1 at *
                      generalize nth cc i = x1 at *
                      clear HN HLn o1
                      go_wp2_with fail
                      go_quiet (fail)
                      go_wp2_with fail
                      go_roundw
                      case rel => exact ⟨i, ll, by omega, rfl, hll, HLf, Lib.hid (HT.out.drew ⟨_, rfl⟩)⟩
                      case measure => simp [intOf]
              | zero =>
                have e0 : (((0 : Nat) : Int) - 1) = -1 := rfl
                rw [e0]
                have HC := Lib.hid (works_any V)
                go_wp2_with fail
                refine HC.out.mono ?_
                rintro e w9 ⟨rfl, hb⟩
                have HB9 := Lib.hid ((HB2.out.trans (HT.out.bel.mono HB2.out.size)).trans (hb.mono (HB2.out.trans (HT.out.bel.mono HB2.out.size)).size))
                clear hb HC
                go_wp2_with fail
                go_ret
                exact ⟨rfl, HB9.out⟩
end Go.Proofs.YtcjbnifafofpbaaGreatDoor
