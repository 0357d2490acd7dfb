/- One text of RefM, RefN, LawK. -/
import Derived.Test.YtcjbnifafofpbaaGreatDoorJ22
import Derived.RegionTactic
import Derived.ChangeAlike
/- Walk of the reference's counts. -/
namespace Go.Proofs.YtcjbnifafofpbaaGreatDoor
open Go.RowKit
/-- Two rows of numbers of the call's own. -/
structure Two (w W : World) (g1 g2 : Nat) (mm ll : List Int) : Prop where
  c1 : Cells W g1 (mm.map (.int .i64))
  c2 : Cells W g2 (ll.map (.int .i64))
  ne : g1 ≠ g2
  b1 : w.heap.size ≤ g1
  b2 : w.heap.size ≤ g2
  bel : Below w.heap.size w W
theorem Two.put1 {w W : World} {g1 g2 : Nat} {mm ll : List Int} (h : Two w W g1 g2 mm ll) (i : Nat) (x : Int) (hi : i < mm.length) : Two w (W.setCell ⟨g1, i, none⟩ (.int .i64 x)) g1 g2 (mm.set i x) ll :=
  ⟨h.c1.put i x hi, h.c2.setOther i _ h.ne, h.ne, h.b1, h.b2, h.bel.setCell (p := ⟨g1, i, none⟩) h.b1 _⟩
theorem Two.put2 {w W : World} {g1 g2 : Nat} {mm ll : List Int} (h : Two w W g1 g2 mm ll) (i : Nat) (x : Int) (hi : i < ll.length) : Two w (W.setCell ⟨g2, i, none⟩ (.int .i64 x)) g1 g2 mm (ll.set i x) :=
  ⟨h.c1.setOther i _ (Ne.symm h.ne), h.c2.put i x hi, h.ne, h.b1, h.b2, h.bel.setCell (p := ⟨g2, i, none⟩) h.b2 _⟩
theorem Two.drew {w W W' : World} {g1 g2 : Nat} {mm ll : List Int} (h : Two w W g1 g2 mm ll) (hd : Drew W W') : Two w W' g1 g2 mm ll :=
  ⟨h.c1.on (hd.below _), h.c2.on (hd.below _), h.ne, h.b1, h.b2, h.bel.trans ((hd.below _).mono h.bel.size)⟩
/-- What is counted of the states from one on. -/
structure Cnt (s : List X.St) (i : Nat) (mm ll : List Int) : Prop where
  l1 : mm.length = s.length
  l2 : ll.length = s.length
  m : ∀ j, i ≤ j → j < s.length → nth mm j = X.capI (X.reads s j)
  l : ∀ j, i ≤ j → j < s.length → nth ll j = X.lonI (X.reads s j)
theorem Cnt.set1 {s : List X.St} {i : Nat} {mm ll : List Int} (h : Cnt s (i + 1) mm ll) (x : Int) : Cnt s (i + 1) (mm.set i x) ll :=
  ⟨by rw [List.length_set]; exact h.l1, h.l2, fun j h1 h2 => by rw [nth_set_ne (by omega)]; exact h.m j h1 h2, h.l⟩
theorem Cnt.set2 {s : List X.St} {i : Nat} {mm ll : List Int} (h : Cnt s (i + 1) mm ll) (x : Int) : Cnt s (i + 1) mm (ll.set i x) :=
  ⟨h.l1, by rw [List.length_set]; exact h.l2, h.m, fun j h1 h2 => by rw [nth_set_ne (by omega)]; exact h.l j h1 h2⟩
set_option maxRecDepth 20000 in
set_option maxHeartbeats 4000000 in
theorem counts_any (a : Option Addr) (cap : Nat) (s : List X.St) (w : World) (hA : X.Auto s) (hfew : Few s) (ha : Sts w a s) :
    Calls Tryz.prog 66 #[.slice a s.length cap] w fun e w' => ∃ g1 g2 mm ll, e = .returned (.tuple #[.slice (some ⟨g1, 0, none⟩) s.length s.length, .slice (some ⟨g2, 0, none⟩) s.length s.length]) ∧ Cnt s 0 mm ll ∧ Two w w' g1 g2 mm ll := by
  have hs1 := hA.n1
  have hs2 := hA.n2
  have hmk := run_make_row' (P := Tryz.prog) 56 3 (.int .i64 0) 8 Tryz.underlying56 T56.hi rfl .i64 .i64 s.length (by omega) (by omega)
  have kn : IntKind.i64.wrap ((s.length : Int) - 1) = (s.length : Int) - 1 := IntWalk.i64_in _ (by omega)
  have HSt := Lib.hid ha
  have HAu := Lib.hid hA
  have HFew := Lib.hid hfew
  have hb1 := Below.new w (.cells (madeCells #[.int .i64 0] s.length) 3)
  have hc1 := Cells.made w s.length
  have hc2 := Cells.made (w.alloc (.cells (madeCells #[.int .i64 0] s.length) 3)) s.length
  have HC1 := Lib.hid (hc1.on (Below.new _ (.cells (madeCells #[.int .i64 0] s.length) 3)))
  rw [World.size_alloc] at hc2
  have HC2 := Lib.hid hc2
  have HB2 := Lib.hid (hb1.alloc (by simp) (.cells (madeCells #[.int .i64 0] s.length) 3))
  clear hA hfew ha hb1 hc1 hc2
  go_enter Tryz.func66, Tryz.ntmps66
  go_wp2
  go_region
  · have HT0 : Hid (Two w ((w.alloc (.cells (madeCells #[.int .i64 0] s.length) 3)).alloc (.cells (madeCells #[.int .i64 0] s.length) 3)).drew w.heap.size (w.heap.size + 1) (List.replicate s.length 0) (List.replicate s.length 0)) := Lib.hid ((⟨HC1.out, HC2.out, by omega, by omega, by omega, HB2.out⟩ : Two w _ _ _ _ _).drew ⟨1, rfl⟩)
    have HV0 : Hid (Cnt s s.length (List.replicate s.length 0) (List.replicate s.length 0)) := Lib.hid ⟨by simp, by simp, fun j h1 h2 => by omega, fun j h1 h2 => by omega⟩
    generalize ((w.alloc (.cells (madeCells #[.int .i64 0] s.length) 3)).alloc (.cells (madeCells #[.int .i64 0] s.length) 3)).drew = W0 at *
    generalize List.replicate s.length (0 : Int) = z0 at *
    clear HC1 HC2 HB2 hmk
    go_wp2
    go_loopw [6, 7, 8] (fun x _ _ wr => ∃ (i : Nat) (mm ll : List Int), i ≤ s.length ∧ x = .int .i64 ((i : Int) - 1) ∧ Hid (Cnt s i mm ll) ∧ Hid (Two w wr w.heap.size (w.heap.size + 1) mm ll)) (fun x _ _ _ => (intOf x + 1).toNat)
    case atStart => exact ⟨s.length, _, _, Nat.le_refl _, rfl, HV0, HT0⟩
    case round =>
      clear HT0 HV0
      obtain ⟨i, mm, ll, hi, rfl, HV, HT⟩ := hrel
      obtain ⟨V, rfl⟩ : ∃ V, V = wr := ⟨_, rfl⟩
      cases i with
      | succ i =>
        have hil : i < s.length := by omega
        have hiI : (i : Int) < (s.length : Int) := by omega
        have hi0 : (0 : Int) ≤ (i : Int) := by omega
        have ei : (((i + 1 : Nat) : Int) - 1) = (i : Int) := by omega
        rw [ei]
        have hml := HV.out.l1
        have hll := HV.out.l2
        obtain ⟨b, off, rfl, q1, -, a2, cap2, q3, hi3⟩ := HSt.out i hil
        have Q3 := Lib.hid q3
        have HI3 := Lib.hid hi3
        have q1 := cell_on HT.out.bel q1
        have z1 := HT.out.c1.nth i (by omega)
        have f1 := HT.out.c1.fr i
        have hen := HAu.out.en _ (X.at_mem hil)
        have HZ1 : Hid (nth (mm.set i (X.at_ s i).ends) i = X.capI (X.part s i 0)) := Lib.hid (by rw [nth_set_eq (by omega), X.capI_zero HAu.out hil])
        have HZ2 : Hid (nth (ll.set i ((X.at_ s i).ends - 1)) i = X.lonI (X.part s i 0)) := Lib.hid (by rw [nth_set_eq (by omega), X.lonI_zero HAu.out hil])
        have HPs := Lib.hid (fun k h1 h2 => X.part_succ s i (k := k) h1 h2)
        have HPa := Lib.hid (X.part_all HAu.out hil)
        have HPb := Lib.hid (fun k => X.lonI_part HAu.out (k := k) hil)
        have heq := Lib.hid (HAu.out.eq _ (X.at_mem hil))
        have HNx : Hid (∀ k, k < (X.at_ s i).next.length → (i : Int) < nth (X.at_ s i).next k ∧ nth (X.at_ s i).next k < s.length) := Lib.hid (fun k hk => by
          rw [nth_eq _ k hk]; exact HAu.out.nx i hil _ (List.getElem_mem hk))
        have hNl : (X.at_ s i).next.length ≤ 1000000 := (HFew.out _ (X.at_mem hil)).2
        generalize hEx : (X.at_ s i).ends = E at *
        have kE : IntKind.i64.wrap (E - 1) = E - 1 := IntWalk.i64_in _ (by omega)
        have HT1 := Lib.hid (HT.out.put1 i E (by omega))
        have q1b := cell_on HT1.out.bel (show w.cell? _ = _ from (by have := HSt.out i hil; obtain ⟨b', off', e', x1, -⟩ := this; cases e'; rw [hEx] at x1; exact x1))
        have y1 := HT1.out.c2.nth i (by omega)
        have g1 := HT1.out.c2.fr i
        have HT2 := Lib.hid (HT1.out.put2 i (E - 1) (by omega))
        have HVn := Lib.hid ((HV.out.set1 E).set2 (E - 1))
        clear hi3 q3
        go_wp2_with fail
        clear q1 z1 f1 q1b y1 g1 HT1 HT HV hEx kE hen hml hll
        go_loopw [7, 8] (fun x _ wr => ∃ (k : Nat) (mm ll : List Int), k ≤ (X.at_ s i).next.length ∧ x = .int .i64 k ∧ Hid (Cnt s (i + 1) mm ll) ∧ Hid (nth mm i = X.capI (X.part s i k)) ∧ Hid (nth ll i = X.lonI (X.part s i k)) ∧ Hid (Two w wr w.heap.size (w.heap.size + 1) mm ll)) (fun x _ _ => (X.at_ s i).next.length - (intOf x).toNat)
        case atStart => exact ⟨0, _, _, by omega, rfl, HVn, HZ1, HZ2, HT2⟩
        case round =>
          clear HT2 HVn HZ1 HZ2
          obtain ⟨k, mm, ll, hk, rfl, HV, HZ1, HZ2, HT⟩ := hrel
          have hml := HV.out.l1
          have hll := HV.out.l2
          have q3 := cell_on HT.out.bel Q3.out
          by_cases hkl : k < (X.at_ s i).next.length
          · have hkI : (k : Int) < ((X.at_ s i).next.length : Int) := by omega
            have hk0 : (0 : Int) ≤ (k : Int) := by omega
            obtain ⟨b3, off3, rfl, q4⟩ := (HI3.out.below HT.out.bel) k hkl
            have hkA' : k < (X.at_ s i).letters.length := by rw [heq.out]; exact hkl
            have hps := HPs.out k hkA' hkl
            have hv := HNx.out k hkl
            obtain ⟨n, hn⟩ := Int.eq_ofNat_of_zero_le (show 0 ≤ nth (X.at_ s i).next k by omega)
            rw [← nth_eq _ k hkl] at hps
            rw [hn] at q4 hv hps
            rw [Int.toNat_natCast] at hps
            have hns : n < s.length := by omega
            have hin : i ≠ n := by omega
            have hnI : (n : Int) < (s.length : Int) := by omega
            have hn0 : (0 : Int) ≤ (n : Int) := by omega
            have z1 := HT.out.c1.nth i (by omega)
            have f1 := HT.out.c1.fr i
            have z2 := HT.out.c1.nth n (by omega)
            have eA2 := HV.out.m n (by omega) hns
            have eL2 := HV.out.l n (by omega) hns
            have bA1 := X.capI_bd (X.part s i k)
            have bA2 := X.capI_bd (X.reads s n)
            have bL1 := HPb.out k
            have bL2 := X.lonI_bd HAu.out hns
            have HMm : Hid (min 31 (nth mm i + nth mm n) = X.capI (X.part s i (k + 1))) := Lib.hid (by rw [HZ1.out, eA2, hps, X.capI_min])
            have HMx : Hid (0 ≤ nth ll n → max (nth ll i) (1 + nth ll n) = X.lonI (X.part s i (k + 1))) := Lib.hid (fun h => by rw [eL2] at h; rw [HZ2.out, eL2, hps, X.lonI_max _ _ _ h])
            have HMn : Hid (¬ 0 ≤ nth ll n → nth ll i = X.lonI (X.part s i (k + 1))) := Lib.hid (fun h => by rw [eL2] at h; rw [HZ2.out, hps]; exact X.lonI_none _ _ _ h)
            have hT1 := (HT.out.put1 i (min 31 (nth mm i + nth mm n)) (by omega)).drew (⟨1, rfl⟩ : Drew _ (World.drew _))
            have hV1 := HV.out.set1 (min 31 (nth mm i + nth mm n))
            have HN1 : Hid (nth (mm.set i (min 31 (nth mm i + nth mm n))) i = X.capI (X.part s i (k + 1))) := Lib.hid (by rw [nth_set_eq (by omega)]; exact HMm.out)
            have HT1 := Lib.hid hT1
            have HV1 := Lib.hid hV1
            have y1 := hT1.c2.nth i (by omega)
            have y2 := hT1.c2.nth n (by omega)
            have h1 := hT1.c2.fr i
            have y3 := HT.out.c2.nth i (by omega)
            have y4 := HT.out.c2.nth n (by omega)
            have h2 := HT.out.c2.fr i
            rw [← HZ1.out] at bA1
            rw [← eA2] at bA2
            rw [← HZ2.out] at bL1
            rw [← eL2] at bL2
            have kA : IntKind.i64.wrap (nth mm i + nth mm n) = nth mm i + nth mm n := IntWalk.i64_in _ (by omega)
            have kL : IntKind.i64.wrap (1 + nth ll n) = 1 + nth ll n := IntWalk.i64_in _ (by omega)
            have kk1 : IntKind.i64.wrap ((k : Int) + 1) = (k : Int) + 1 := IntWalk.i64_in _ (by omega)
            clear hT1 hV1 eA2 eL2 bA1 bA2 bL1 bL2 hps hv hkA' HV HZ1 HT HMm
            by_cases hL : 0 ≤ nth ll n
            · have HMx2 := Lib.hid (HMx.out hL)
              have HV3 := Lib.hid (HV1.out.set2 (max (nth ll i) (1 + nth ll n)))
              have HN3 : Hid (nth (ll.set i (max (nth ll i) (1 + nth ll n))) i = X.lonI (X.part s i (k + 1))) := Lib.hid (by rw [nth_set_eq (by omega)]; exact HMx2.out)
              clear HMn HMx
              go_wp2_with fail
              go_still_tail 12, (by kernel_rfl)
              go_wp2_with fail
              generalize (wr.setCell ⟨w.heap.size, i, none⟩ (.int .i64 (min 31 (nth mm i + nth mm n)))).drew = W5 at *
              have HT3 := Lib.hid ((HT1.out.put2 i (max (nth ll i) (1 + nth ll n)) (by omega)).drew (⟨1, rfl⟩ : Drew _ (World.drew _)))
              go_still_tail 12, (by kernel_rfl)
              go_wp2_with fail
              go_roundw
              case rel => exact ⟨k + 1, _, _, by omega, by go_num, HV3, HN1, HN3, HT3⟩
              case measure => simp [intOf]; omega
            · have HMn2 := Lib.hid (HMn.out hL)
              clear HMx HMn
              go_wp2_with fail
              go_still_tail 12, (by kernel_rfl)
              go_wp2_with fail
              go_roundw
              case rel => exact ⟨k + 1, _, _, by omega, by go_num, HV1, HN1, HMn2, HT1⟩
              case measure => simp [intOf]; omega
          · have ek : k = (X.at_ s i).next.length := by omega
            subst ek
            rw [HPa.out] at HZ1 HZ2
            have HVf : Hid (Cnt s i mm ll) := Lib.hid ⟨hml, hll, fun j h1 h2 => by
              by_cases e : j = i
              · subst e; exact HZ1.out
              · exact HV.out.m j (by omega) h2, fun j h1 h2 => by
              by_cases e : j = i
              · subst e; exact HZ2.out
              · exact HV.out.l j (by omega) h2⟩
            have ki : IntKind.i64.wrap ((i : Int) - 1) = (i : Int) - 1 := IntWalk.i64_in _ (by omega)
            go_wp2_with fail
            go_roundw
            case rel => exact ⟨i, mm, ll, by omega, rfl, HVf, HT⟩
            case measure => simp [intOf]
      | zero =>
        have e0 : (((0 : Nat) : Int) - 1) = -1 := rfl
        rw [e0]
        go_wp2
        go_ret2
        exact ⟨w.heap.size, (w.heap.size + 1), mm, ll, rfl, HV.out, HT.out⟩
  · have HT0 : Hid (Two w ((w.alloc (.cells (madeCells #[.int .i64 0] s.length) 3)).alloc (.cells (madeCells #[.int .i64 0] s.length) 3)).drew (w.heap.size + 1) w.heap.size (List.replicate s.length 0) (List.replicate s.length 0)) := Lib.hid ((⟨HC2.out, HC1.out, by omega, by omega, by omega, HB2.out⟩ : Two w _ _ _ _ _).drew ⟨1, rfl⟩)
    have HV0 : Hid (Cnt s s.length (List.replicate s.length 0) (List.replicate s.length 0)) := Lib.hid ⟨by simp, by simp, fun j h1 h2 => by omega, fun j h1 h2 => by omega⟩
    generalize ((w.alloc (.cells (madeCells #[.int .i64 0] s.length) 3)).alloc (.cells (madeCells #[.int .i64 0] s.length) 3)).drew = W0 at *
    generalize List.replicate s.length (0 : Int) = z0 at *
    clear HC1 HC2 HB2 hmk
    go_wp2
    go_loopw [6, 7, 8] (fun x _ _ wr => ∃ (i : Nat) (mm ll : List Int), i ≤ s.length ∧ x = .int .i64 ((i : Int) - 1) ∧ Hid (Cnt s i mm ll) ∧ Hid (Two w wr (w.heap.size + 1) w.heap.size mm ll)) (fun x _ _ _ => (intOf x + 1).toNat)
    case atStart => exact ⟨s.length, _, _, Nat.le_refl _, rfl, HV0, HT0⟩
    case round =>
      clear HT0 HV0
      obtain ⟨i, mm, ll, hi, rfl, HV, HT⟩ := hrel
      obtain ⟨V, rfl⟩ : ∃ V, V = wr := ⟨_, rfl⟩
      cases i with
      | succ i =>
        have hil : i < s.length := by omega
        have hiI : (i : Int) < (s.length : Int) := by omega
        have hi0 : (0 : Int) ≤ (i : Int) := by omega
        have ei : (((i + 1 : Nat) : Int) - 1) = (i : Int) := by omega
        rw [ei]
        have hml := HV.out.l1
        have hll := HV.out.l2
        obtain ⟨b, off, rfl, q1, -, a2, cap2, q3, hi3⟩ := HSt.out i hil
        have Q3 := Lib.hid q3
        have HI3 := Lib.hid hi3
        have q1 := cell_on HT.out.bel q1
        have z1 := HT.out.c1.nth i (by omega)
        have f1 := HT.out.c1.fr i
        have hen := HAu.out.en _ (X.at_mem hil)
        have HZ1 : Hid (nth (mm.set i (X.at_ s i).ends) i = X.capI (X.part s i 0)) := Lib.hid (by rw [nth_set_eq (by omega), X.capI_zero HAu.out hil])
        have HZ2 : Hid (nth (ll.set i ((X.at_ s i).ends - 1)) i = X.lonI (X.part s i 0)) := Lib.hid (by rw [nth_set_eq (by omega), X.lonI_zero HAu.out hil])
        have HPs := Lib.hid (fun k h1 h2 => X.part_succ s i (k := k) h1 h2)
        have HPa := Lib.hid (X.part_all HAu.out hil)
        have HPb := Lib.hid (fun k => X.lonI_part HAu.out (k := k) hil)
        have heq := Lib.hid (HAu.out.eq _ (X.at_mem hil))
        have HNx : Hid (∀ k, k < (X.at_ s i).next.length → (i : Int) < nth (X.at_ s i).next k ∧ nth (X.at_ s i).next k < s.length) := Lib.hid (fun k hk => by
          rw [nth_eq _ k hk]; exact HAu.out.nx i hil _ (List.getElem_mem hk))
        have hNl : (X.at_ s i).next.length ≤ 1000000 := (HFew.out _ (X.at_mem hil)).2
        generalize hEx : (X.at_ s i).ends = E at *
        have kE : IntKind.i64.wrap (E - 1) = E - 1 := IntWalk.i64_in _ (by omega)
        have HT1 := Lib.hid (HT.out.put1 i E (by omega))
        have q1b := cell_on HT1.out.bel (show w.cell? _ = _ from (by have := HSt.out i hil; obtain ⟨b', off', e', x1, -⟩ := this; cases e'; rw [hEx] at x1; exact x1))
        have y1 := HT1.out.c2.nth i (by omega)
        have g1 := HT1.out.c2.fr i
        have HT2 := Lib.hid (HT1.out.put2 i (E - 1) (by omega))
        have HVn := Lib.hid ((HV.out.set1 E).set2 (E - 1))
        clear hi3 q3
        go_wp2_with fail
        clear q1 z1 f1 q1b y1 g1 HT1 HT HV hEx kE hen hml hll
        go_loopw [7, 8] (fun x _ wr => ∃ (k : Nat) (mm ll : List Int), k ≤ (X.at_ s i).next.length ∧ x = .int .i64 k ∧ Hid (Cnt s (i + 1) mm ll) ∧ Hid (nth mm i = X.capI (X.part s i k)) ∧ Hid (nth ll i = X.lonI (X.part s i k)) ∧ Hid (Two w wr (w.heap.size + 1) w.heap.size mm ll)) (fun x _ _ => (X.at_ s i).next.length - (intOf x).toNat)
        case atStart => exact ⟨0, _, _, by omega, rfl, HVn, HZ1, HZ2, HT2⟩
        case round =>
          clear HT2 HVn HZ1 HZ2
          obtain ⟨k, mm, ll, hk, rfl, HV, HZ1, HZ2, HT⟩ := hrel
          have hml := HV.out.l1
          have hll := HV.out.l2
          have q3 := cell_on HT.out.bel Q3.out
          by_cases hkl : k < (X.at_ s i).next.length
          · have hkI : (k : Int) < ((X.at_ s i).next.length : Int) := by omega
            have hk0 : (0 : Int) ≤ (k : Int) := by omega
            obtain ⟨b3, off3, rfl, q4⟩ := (HI3.out.below HT.out.bel) k hkl
            have hkA' : k < (X.at_ s i).letters.length := by rw [heq.out]; exact hkl
            have hps := HPs.out k hkA' hkl
            have hv := HNx.out k hkl
            obtain ⟨n, hn⟩ := Int.eq_ofNat_of_zero_le (show 0 ≤ nth (X.at_ s i).next k by omega)
            rw [← nth_eq _ k hkl] at hps
            rw [hn] at q4 hv hps
            rw [Int.toNat_natCast] at hps
            have hns : n < s.length := by omega
            have hin : i ≠ n := by omega
            have hnI : (n : Int) < (s.length : Int) := by omega
            have hn0 : (0 : Int) ≤ (n : Int) := by omega
            have z1 := HT.out.c1.nth i (by omega)
            have f1 := HT.out.c1.fr i
            have z2 := HT.out.c1.nth n (by omega)
            have eA2 := HV.out.m n (by omega) hns
            have eL2 := HV.out.l n (by omega) hns
            have bA1 := X.capI_bd (X.part s i k)
            have bA2 := X.capI_bd (X.reads s n)
            have bL1 := HPb.out k
            have bL2 := X.lonI_bd HAu.out hns
            have HMm : Hid (min 31 (nth mm i + nth mm n) = X.capI (X.part s i (k + 1))) := Lib.hid (by rw [HZ1.out, eA2, hps, X.capI_min])
            have HMx : Hid (0 ≤ nth ll n → max (nth ll i) (1 + nth ll n) = X.lonI (X.part s i (k + 1))) := Lib.hid (fun h => by rw [eL2] at h; rw [HZ2.out, eL2, hps, X.lonI_max _ _ _ h])
            have HMn : Hid (¬ 0 ≤ nth ll n → nth ll i = X.lonI (X.part s i (k + 1))) := Lib.hid (fun h => by rw [eL2] at h; rw [HZ2.out, hps]; exact X.lonI_none _ _ _ h)
            have hT1 := (HT.out.put1 i (min 31 (nth mm i + nth mm n)) (by omega)).drew (⟨1, rfl⟩ : Drew _ (World.drew _))
            have hV1 := HV.out.set1 (min 31 (nth mm i + nth mm n))
            have HN1 : Hid (nth (mm.set i (min 31 (nth mm i + nth mm n))) i = X.capI (X.part s i (k + 1))) := Lib.hid (by rw [nth_set_eq (by omega)]; exact HMm.out)
            have HT1 := Lib.hid hT1
            have HV1 := Lib.hid hV1
            have y1 := hT1.c2.nth i (by omega)
            have y2 := hT1.c2.nth n (by omega)
            have h1 := hT1.c2.fr i
            have y3 := HT.out.c2.nth i (by omega)
            have y4 := HT.out.c2.nth n (by omega)
            have h2 := HT.out.c2.fr i
            rw [← HZ1.out] at bA1
            rw [← eA2] at bA2
            rw [← HZ2.out] at bL1
            rw [← eL2] at bL2
            have kA : IntKind.i64.wrap (nth mm i + nth mm n) = nth mm i + nth mm n := IntWalk.i64_in _ (by omega)
            have kL : IntKind.i64.wrap (1 + nth ll n) = 1 + nth ll n := IntWalk.i64_in _ (by omega)
            have kk1 : IntKind.i64.wrap ((k : Int) + 1) = (k : Int) + 1 := IntWalk.i64_in _ (by omega)
            clear hT1 hV1 eA2 eL2 bA1 bA2 bL1 bL2 hps hv hkA' HV HZ1 HT HMm
            by_cases hL : 0 ≤ nth ll n
            · have HMx2 := Lib.hid (HMx.out hL)
              have HV3 := Lib.hid (HV1.out.set2 (max (nth ll i) (1 + nth ll n)))
              have HN3 : Hid (nth (ll.set i (max (nth ll i) (1 + nth ll n))) i = X.lonI (X.part s i (k + 1))) := Lib.hid (by rw [nth_set_eq (by omega)]; exact HMx2.out)
              clear HMn HMx
              go_wp2_with fail
              go_still_tail 12, (by kernel_rfl)
              go_wp2_with fail
              generalize (wr.setCell ⟨(w.heap.size + 1), i, none⟩ (.int .i64 (min 31 (nth mm i + nth mm n)))).drew = W5 at *
              have HT3 := Lib.hid ((HT1.out.put2 i (max (nth ll i) (1 + nth ll n)) (by omega)).drew (⟨1, rfl⟩ : Drew _ (World.drew _)))
              go_still_tail 12, (by kernel_rfl)
              go_wp2_with fail
              go_roundw
              case rel => exact ⟨k + 1, _, _, by omega, by go_num, HV3, HN1, HN3, HT3⟩
              case measure => simp [intOf]; omega
            · have HMn2 := Lib.hid (HMn.out hL)
              clear HMx HMn
              go_wp2_with fail
              go_still_tail 12, (by kernel_rfl)
              go_wp2_with fail
              go_roundw
              case rel => exact ⟨k + 1, _, _, by omega, by go_num, HV1, HN1, HMn2, HT1⟩
              case measure => simp [intOf]; omega
          · have ek : k = (X.at_ s i).next.length := by omega
            subst ek
            rw [HPa.out] at HZ1 HZ2
            have HVf : Hid (Cnt s i mm ll) := Lib.hid ⟨hml, hll, fun j h1 h2 => by
              by_cases e : j = i
              · subst e; exact HZ1.out
              · exact HV.out.m j (by omega) h2, fun j h1 h2 => by
              by_cases e : j = i
              · subst e; exact HZ2.out
              · exact HV.out.l j (by omega) h2⟩
            have ki : IntKind.i64.wrap ((i : Int) - 1) = (i : Int) - 1 := IntWalk.i64_in _ (by omega)
            go_wp2_with fail
            go_roundw
            case rel => exact ⟨i, mm, ll, by omega, rfl, HVf, HT⟩
            case measure => simp [intOf]
      | zero =>
        have e0 : (((0 : Nat) : Int) - 1) = -1 := rfl
        rw [e0]
        go_wp2
        go_ret2
        exact ⟨(w.heap.size + 1), w.heap.size, mm, ll, rfl, HV.out, HT.out⟩
end Go.Proofs.YtcjbnifafofpbaaGreatDoor
/- Walk of the reference's Names. -/
namespace Go.Proofs.YtcjbnifafofpbaaGreatDoor
open Go.RowKit
theorem capI_zero_iff (q : List X.W) : X.capI q = 0 ↔ q = [] := by
  unfold X.capI
  constructor
  · intro h
    split at h
    · exact List.eq_nil_of_length_eq_zero (by omega)
    · omega
  · rintro rfl; rfl
set_option maxRecDepth 20000 in
set_option maxHeartbeats 2000000 in
theorem namesR_any (a : Option Addr) (cap : Nat) (s : List X.St) (w : World) (hl : s.length ≤ 1000000) (hf : Few s) (ha : Sts w a s) :
    Calls Tryz.prog 25 #[.slice a s.length cap] w fun e w' => OutSE w w' e (X.namesE s) := by
  have hr : RoomsS s := fun x hx => by have := hf x hx; omega
  have HC := Lib.hid (fun W (hd : Drew w W) => checkStates_any a cap s W hl hr (ha.below (hd.below _)))
  by_cases h : X.statesE s = 0
  case neg =>
    have HE : Hid (X.namesE s = ([], X.statesE s)) := Lib.hid (by unfold X.namesE; rw [if_neg h])
    have hn : (X.statesE s != 0) = true := by simpa using h
    generalize X.statesE s = q at *
    clear h ha hr
    go_enter Tryz.func25, Tryz.ntmps25
    go_wp2_with fail
    refine (HC.out _ (Drew.refl _)).mono ?_
    rintro e w1 ⟨rfl, hd1⟩
    have HD1 := Lib.hid hd1
    clear hd1
    go_wp2_with fail
    refine (HC.out _ HD1.out).mono ?_
    rintro e w2 ⟨rfl, hd2⟩
    have HD := Lib.hid (HD1.out.trans hd2)
    clear hd2
    go_wp2_with fail
    go_ret2
    rw [HE.out]
    exact ⟨none, 0, rfl, Strs.nil _ _, by simp, HD.out.below _⟩
  have hA := X.statesE_iff.1 h
  rw [h] at HC
  have HE0 : Hid (X.namesE s = if X.overB s = true then ([], 4) else (X.reads s 0, 0)) := Lib.hid (by unfold X.namesE; rw [if_pos h])
  have HOv := Lib.hid (X.over_iff (s := s))
  have HA := Lib.hid ha
  have HAu := Lib.hid hA
  have HF := Lib.hid hf
  have hs1 := hA.n1
  have hs2 := hA.n2
  have h0I : (0 : Int) < (s.length : Int) := by omega
  have HCn := Lib.hid (fun W (hd : Drew w W) => counts_any a cap s W hA hf (ha.below (hd.below _)))
  clear h ha hr hA
  go_enter Tryz.func25, Tryz.ntmps25
  go_wp2_with fail
  refine (HC.out _ (Drew.refl _)).mono ?_
  rintro e w1 ⟨rfl, hd1⟩
  have HD1 := Lib.hid hd1
  clear hd1
  go_wp2_with fail
  refine (HCn.out _ HD1.out).mono ?_
  rintro e w2 ⟨g1, g2, mm, ll, rfl, hV, hT⟩
  have HB := Lib.hid ((HD1.out.below w.heap.size).trans (hT.bel.mono (HD1.out.below w.heap.size).size))
  have z1 := hT.c1.nth 0 (by rw [hV.l1]; omega)
  have z2 := hT.c2.nth 0 (by rw [hV.l2]; omega)
  obtain ⟨b, off, rfl, q1, -, -⟩ := (HA.out.below HB.out) 0 (by omega)
  rw [Nat.zero_mul, Nat.add_zero] at q1
  have e1 := hV.m 0 (by omega) (by omega)
  have e2 := hV.l 0 (by omega) (by omega)
  rw [← e1, ← e2] at HOv
  have HV := Lib.hid hV
  have HT := Lib.hid hT
  have E1 := Lib.hid e1
  clear hV hT e1 e2
  generalize hEn : (X.at_ s 0).ends = E at *
  clear hEn
  by_cases c1 : 30 < nth mm 0
  · have HE : Hid (X.namesE s = ([], 4)) := Lib.hid (by rw [HE0.out, HOv.out, decide_eq_true c1]; rfl)
    go_wp2_with fail
    go_ret2
    rw [HE.out]
    exact ⟨none, 0, rfl, Strs.nil _ _, by simp, HB.out⟩
  by_cases c2 : 10 < nth ll 0
  · have HE : Hid (X.namesE s = ([], 4)) := Lib.hid (by rw [HE0.out, HOv.out, decide_eq_false c1, decide_eq_true c2]; rfl)
    go_wp2_with fail
    go_ret2
    rw [HE.out]
    exact ⟨none, 0, rfl, Strs.nil _ _, by simp, HB.out⟩
  by_cases c3 : E = 1
  · have HE : Hid (X.namesE s = ([], 4)) := Lib.hid (by rw [HE0.out, HOv.out, decide_eq_false c1, decide_eq_false c2, decide_eq_true c3]; rfl)
    have c3b : (E == 1) = true := by simpa using c3
    clear c3
    go_wp2_with fail
    go_ret2
    rw [HE.out]
    exact ⟨none, 0, rfl, Strs.nil _ _, by simp, HB.out⟩
  have HE : Hid (X.namesE s = (X.reads s 0, 0)) := Lib.hid (by rw [HE0.out, HOv.out, decide_eq_false c1, decide_eq_false c2, decide_eq_false c3]; rfl)
  have c3b : (E == 1) = false := by simpa using c3
  have hrl : (X.reads s 0).length ≤ 1000 := by
    rw [E1.out] at c1
    unfold X.capI at c1
    split at c1 <;> omega
  have hR := read_any s HAu.out HF.out mm cap (some ⟨g1, 0, none⟩) s.length HV.out.l1 (fun i hi => by rw [HV.out.m i (by omega) hi]; exact capI_zero_iff _) (some ⟨b, off, none⟩) s.length 0 (by omega) (by omega) [] w2 (by simp) hrl (HA.out.below HB.out) HT.out.c1.ints
  rw [HV.out.l1, show (fun x : X.W => ([] : X.W) ++ x) = id from funext (fun x => rfl), List.map_id] at hR
  have HR := Lib.hid hR
  clear hR hrl c3 E1
  go_wp2_with fail
  refine HR.out.mono ?_
  intro e w3 hG
  obtain ⟨a3, c4, rfl, hs3, hc3, hb3⟩ := hG
  have HS3 := Lib.hid hs3
  have HB3 := Lib.hid (HB.out.trans (hb3.mono HB.out.size))
  clear hs3 hb3
  go_wp2_with fail
  go_ret2
  rw [HE.out]
  exact ⟨a3, c4, rfl, HS3.out, hc3, HB3.out⟩
end Go.Proofs.YtcjbnifafofpbaaGreatDoor
/- Walk of built: the least automaton of a valid list. -/
namespace Go.Proofs.YtcjbnifafofpbaaGreatDoor
open Go.RowKit Go.Lib
theorem few_of {l : List X.W} (hL : X.List_ l) : Few (X.build l) ∧ (X.build l).length ≤ 301 := by
  refine ⟨fun x hx => ?_, ?_⟩
  · obtain ⟨u, -, rfl⟩ := List.mem_map.1 hx
    have h1 : (X.outs l u).length ≤ 26 := by
      unfold X.outs
      have := List.length_filter_le (fun c => X.ends l (u ++ [c]) != []) X.abc
      rw [X.abc_len] at this; exact this
    refine ⟨by show (X.outs l u).length ≤ 1000000; omega, ?_⟩
    show ((X.outs l u).map _).length ≤ 1000000
    rw [List.length_map]; omega
  · rw [X.build_len]
    have := X.tops_len hL
    have := X.scan_len hL
    omega
set_option maxRecDepth 20000 in
set_option maxHeartbeats 8000000 in
theorem built_any (a0 : Option Addr) (cap0 : Nat) (l0 : List X.W) (w : World) (hL : X.List_ l0) (w0 : Strs w a0 l0) :
    Calls Tryz.prog 47 #[.slice a0 l0.length cap0] w fun e w' => ∃ A C, e = .returned (.tuple #[.slice A (X.build l0).length C, .bool true]) ∧ Sts w' A (X.build l0) ∧ ((X.build l0).length ≤ C ∧ (A = none → C = 0)) ∧ RowKit.Below w.heap.size w w' := by
  have HB0 := Lib.hid (RowKit.Below.refl w.heap.size w)
  have I0 := Lib.hid w0
  have e0 := hL.many
  have HR0 := Lib.hid (rooms_of (fun s hs => by have := hL.long s hs; omega : ∀ s ∈ l0, s.length ≤ 1000))
  have H1 : Hid (X.buildE l0 = (X.build l0, 0)) := Lib.hid (by unfold X.buildE; rw [if_pos (X.listE_iff.2 hL)])
  have H2 := Lib.hid (X.statesE_iff.2 (X.build_auto hL))
  have H3 := Lib.hid (X.build_names hL)
  obtain ⟨hf, hbl⟩ := few_of hL
  have HF := Lib.hid hf
  have HRS : Hid (RoomsS (X.build l0)) := Lib.hid (fun x hx => by have := hf x hx; omega)
  generalize X.build l0 = B at *
  clear w0 hL hf
  go_enter Tryz.func47, Tryz.ntmps47
  have hC := buildP_any a0 cap0 l0 w (by omega) HR0.out I0.out
  rw [H1.out] at hC
  have HC := Lib.hid hC
  clear hC
  go_wp2_with fail
  refine HC.out.mono ?_
  intro e w1 hG
  obtain ⟨Ab, Cb, rfl, hi, hcb, hb⟩ := hG.lit (n := B.length) rfl
  have HB0 := Lib.hid (HB0.out.trans (hb.mono HB0.out.size))
  have I01 := Lib.hid (I0.out.below hb)
  have Ib := Lib.hid hi
  have Kb := Lib.hid hcb
  clear hcb hi hG
  clear hb HC
  have hC := checkStates_any Ab Cb B w1 (by omega) HRS.out Ib.out
  rw [H2.out] at hC
  have HC := Lib.hid hC
  clear hC
  go_wp2_with fail
  refine HC.out.mono ?_
  rintro e w2 ⟨rfl, hd⟩
  have hb := hd.below w1.heap.size
  clear hd
  have hb := hb
  have HB2 := Lib.hid (HB0.out.trans (hb.mono HB0.out.size))
  have I03 := Lib.hid (I01.out.below hb)
  have Ib4 := Lib.hid (Ib.out.below hb)
  clear hb HC
  have hC := namesP_any Ab Cb B w2 (by omega) HF.out Ib4.out
  rw [H3.out] at hC
  have HC := Lib.hid hC
  clear hC
  go_wp2_with fail
  refine HC.out.mono ?_
  intro e w3 hG
  obtain ⟨Ax, Cx, rfl, hi, hcx, hb⟩ := hG.lit (n := l0.length) rfl
  have HB5 := Lib.hid (HB2.out.trans (hb.mono HB2.out.size))
  have I06 := Lib.hid (I03.out.below hb)
  have Ib7 := Lib.hid (Ib4.out.below hb)
  have Ix := Lib.hid hi
  have Kx := Lib.hid hcx
  clear hcx hi hG
  clear hb HC
  have hC := namesR_any Ab Cb B w3 (by omega) HF.out Ib7.out
  rw [H3.out] at hC
  have HC := Lib.hid hC
  clear hC
  go_wp2_with fail
  refine HC.out.mono ?_
  intro e w4 hG
  obtain ⟨Ay, Cy, rfl, hi, hcy, hb⟩ := hG.lit (n := l0.length) rfl
  have HB8 := Lib.hid (HB5.out.trans (hb.mono HB5.out.size))
  have I09 := Lib.hid (I06.out.below hb)
  have Ib10 := Lib.hid (Ib7.out.below hb)
  have Ix11 := Lib.hid (Ix.out.below hb)
  have Iy := Lib.hid hi
  have Ky := Lib.hid hcy
  clear hcy hi hG
  clear hb HC
  have hC := textsS_any Ax Cx l0 a0 cap0 l0 w4 (by omega) Ix11.out I09.out
  rw [decide_eq_true rfl] at hC
  have HC := Lib.hid hC
  clear hC
  go_wp2_with fail
  refine HC.out.mono ?_
  rintro e w5 ⟨rfl, hd⟩
  have hb := hd.below w4.heap.size
  clear hd
  have hb := hb
  have HB12 := Lib.hid (HB8.out.trans (hb.mono HB8.out.size))
  have I013 := Lib.hid (I09.out.below hb)
  have Ib14 := Lib.hid (Ib10.out.below hb)
  have Ix15 := Lib.hid (Ix11.out.below hb)
  have Iy16 := Lib.hid (Iy.out.below hb)
  clear hb HC
  have hC := textsS_any Ay Cy l0 a0 cap0 l0 w5 (by omega) Iy16.out I013.out
  rw [decide_eq_true rfl] at hC
  have HC := Lib.hid hC
  clear hC
  go_wp2_with fail
  refine HC.out.mono ?_
  rintro e w6 ⟨rfl, hd⟩
  have hb := hd.below w5.heap.size
  clear hd
  have hb := hb
  have HB17 := Lib.hid (HB12.out.trans (hb.mono HB12.out.size))
  have I018 := Lib.hid (I013.out.below hb)
  have Ib19 := Lib.hid (Ib14.out.below hb)
  have Iy20 := Lib.hid (Iy16.out.below hb)
  clear hb HC
  go_wp2_with fail
  go_ret2
  exact ⟨Ab, Cb, rfl, Ib19.out, Kb.out, HB17.out⟩
end Go.Proofs.YtcjbnifafofpbaaGreatDoor
