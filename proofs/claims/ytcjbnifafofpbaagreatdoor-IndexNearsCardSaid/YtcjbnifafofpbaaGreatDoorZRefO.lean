/- Walks of the reference's Distance and Near. -/
import Derived.Test.YtcjbnifafofpbaaGreatDoorJ24
import Derived.Test.YtcjbnifafofpbaaGreatDoorZXQ
namespace Go.Proofs.YtcjbnifafofpbaaGreatDoor
open Go.RowKit Go.Lib
/-- A row of numbers of the call's own. -/
structure Row1 (w W : World) (g : Nat) (zs : List Int) : Prop where
  c : Cells W g (zs.map (.int .i64))
  b : w.heap.size ≤ g
  bel : Below w.heap.size w W
theorem Row1.put {w W : World} {g : Nat} {zs : List Int} (h : Row1 w W g zs) (i : Nat) (x : Int) (hi : i < zs.length) : Row1 w (W.setCell ⟨g, i, none⟩ (.int .i64 x)) g (zs.set i x) :=
  ⟨h.c.put i x hi, h.b, h.bel.setCell (p := ⟨g, i, none⟩) h.b _⟩
theorem Row1.drew {w W W' : World} {g : Nat} {zs : List Int} (h : Row1 w W g zs) (hd : Drew W W') : Row1 w W' g zs :=
  ⟨h.c.on (hd.below _), h.b, h.bel.trans ((hd.below _).mono h.bel.size)⟩
theorem Row1.two {w W : World} {g : Nat} {zs : List Int} (h : Row1 w W g zs) (n : Nat) : Two w (W.alloc (.cells (madeCells #[.int .i64 0] n) 3)) g W.heap.size zs (List.replicate n 0) :=
  ⟨h.c.on (Below.new _ _), Cells.made W n, Nat.ne_of_lt h.c.lt, h.b, h.bel.size, h.bel.alloc h.bel.size _⟩
theorem Two.row2 {w W : World} {g1 g2 : Nat} {mm ll : List Int} (h : Two w W g1 g2 mm ll) : Row1 w W g2 ll := ⟨h.c2, h.b2, h.bel⟩
theorem nth_rep (n j : Nat) : nth (List.replicate n (0 : Int)) j = 0 := by
  unfold nth; rw [List.getD_eq_getElem?_getD, List.getElem?_replicate]; split <;> rfl
set_option maxRecDepth 20000 in
set_option maxHeartbeats 4000000 in
theorem distance_any (a b : X.W) (w : World) (ha : a.length ≤ 1000) (hb : b.length ≤ 1000) :
    Calls Tryz.prog 81 #[sv a, sv b] w fun e w' => e = .returned (.int .i64 (X.lev a b : Int)) ∧ Below w.heap.size w w' := by
  have hmk := run_make_row' (P := Tryz.prog) 56 3 (.int .i64 0) 8 Tryz.underlying56 T56.hi rfl .i64 .i64 (b.length + 1) (by omega) (by omega)
  rw [show ((b.length + 1 : Nat) : Int) = (b.length : Int) + 1 by omega] at hmk
  have kb : IntKind.i64.wrap ((b.length : Int) + 1) = (b.length : Int) + 1 := IntWalk.i64_in _ (by omega)
  have HR0 : Hid (Row1 w (w.alloc (.cells (madeCells #[.int .i64 0] (b.length + 1)) 3)) w.heap.size (List.replicate (b.length + 1) 0)) := Lib.hid ⟨Cells.made w _, Nat.le_refl _, Below.new _ _⟩
  have HA := Lib.hid (X.dst_all a b)
  have HS := Lib.hid (fun i k h1 h2 => X.dst_step (a := a) (b := b) (i := i) (k := k) h1 h2)
  have HT := Lib.hid (fun i h => X.dst_top a b (i := i) h)
  have HL := Lib.hid (fun k h => X.dst_left a b (k := k) h)
  have HB := Lib.hid (fun i k h1 h2 => X.dst_le (a := a) (b := b) (i := i) (k := k) h1 h2)
  have hB1 : ((b.length + 1 : Nat) : Int) = (b.length : Int) + 1 := by omega
  generalize X.dst a b = D at *
  generalize X.lev a b = L at *
  go_enter Tryz.func81, Tryz.ntmps81
  go_wp2_with fail
  go_loopw [6] (fun x wr => ∃ (k : Nat) (zs : List Int), k ≤ b.length + 1 ∧ x = .int .i64 k ∧ zs.length = b.length + 1 ∧ Hid (∀ j, j < k → nth zs j = (j : Int)) ∧ Hid (Row1 w wr w.heap.size zs)) (fun x _ => b.length + 1 - (intOf x).toNat)
  case atStart => exact ⟨0, _, by omega, rfl, by simp, Lib.hid (fun j h => by omega), HR0⟩
  case round =>
    clear HR0
    obtain ⟨k, zs, hk, rfl, hz, HV, HR⟩ := hrel
    have hk0 : (0 : Int) ≤ (k : Int) := by omega
    by_cases hkl : k ≤ b.length
    · have hkI : (k : Int) ≤ (b.length : Int) := by omega
      have hkJ : (k : Int) < (b.length : Int) + 1 := by omega
      have z1 := HR.out.c.nth k (by omega)
      have f1 := HR.out.c.fr k
      have kk1 : IntKind.i64.wrap ((k : Int) + 1) = (k : Int) + 1 := IntWalk.i64_in _ (by omega)
      have hz2 : (zs.set k (k : Int)).length = b.length + 1 := by rw [List.length_set]; exact hz
      have HV2 : Hid (∀ j, j < k + 1 → nth (zs.set k (k : Int)) j = (j : Int)) := Lib.hid (fun j hj => by
        by_cases e : k = j
        · subst e; exact nth_set_eq (by omega) _
        · rw [nth_set_ne e]; exact HV.out j (by omega))
      have HR2 := Lib.hid (HR.out.put k k (by omega))
      go_wp2_with fail
      go_roundw
      case rel => exact ⟨k + 1, _, by omega, by go_num, hz2, HV2, HR2⟩
      case measure => simp [intOf]; omega
    · have hkI : ¬ (k : Int) ≤ (b.length : Int) := by omega
      have HV2 : Hid (∀ j, j ≤ b.length → nth zs j = (D 0 j : Int)) := Lib.hid (fun j hj => by rw [HV.out j (by omega), HL.out j hj])
      have HV := HV2
      clear HV2
      go_wp2_with fail
      go_loopw [5, 7, 8, 9, 10] (fun r x _ _ _ wr => ∃ (i g : Nat) (zs : List Int), i ≤ a.length ∧ r = .slice (some ⟨g, 0, none⟩) (b.length + 1) (b.length + 1) ∧ x = .int .i64 ((i : Int) + 1) ∧ zs.length = b.length + 1 ∧ Hid (∀ j, j ≤ b.length → nth zs j = (D i j : Int)) ∧ Hid (Row1 w wr g zs)) (fun _ x _ _ _ _ => a.length + 1 - (intOf x).toNat)
      case atStart => exact ⟨0, _, zs, by omega, rfl, rfl, hz, HV, HR⟩
      case round =>
        clear HR HV hz hk hkl hkI hk0
        obtain ⟨i, g, zs, hi, rfl, rfl, hz, HV, HR⟩ := hrel
        by_cases hil : i < a.length
        · have hiI : (i : Int) + 1 ≤ (a.length : Int) := by omega
          have HT0 := Lib.hid (HR.out.two (b.length + 1))
          have z0 := HT0.out.c2.nth 0 (by simp)
          have f0 := HT0.out.c2.fr 0
          rw [nth_rep] at z0
          have h0b : (0 : Int) < (b.length : Int) + 1 := by omega
          have hT1 := HT0.out.put2 0 ((i : Int) + 1) (by simp)
          rw [World.setCell_alloc_new] at hT1
          have HT1 := Lib.hid hT1
          clear hT1
          have HV1 : Hid (∀ j, j < 1 → nth ((List.replicate (b.length + 1) (0 : Int)).set 0 ((i : Int) + 1)) j = (D (i + 1) j : Int)) := Lib.hid (fun j hj => by
            obtain rfl : j = 0 := by omega
            rw [nth_set_eq (by simp), HT.out (i + 1) (by omega)]; omega)
          have hz1 : ((List.replicate (b.length + 1) (0 : Int)).set 0 ((i : Int) + 1)).length = b.length + 1 := by simp
          have HSi := Lib.hid (fun k h => HS.out i k hil h)
          have HBi := Lib.hid (fun k (h : k ≤ b.length) => HB.out i k (by omega) h)
          have HBj := Lib.hid (fun k (h : k ≤ b.length) => HB.out (i + 1) k (by omega) h)
          generalize (List.replicate (b.length + 1) (0 : Int)).set 0 ((i : Int) + 1) = z1 at HT1 HV1 hz1
          go_wp2_with fail
          clear z0 f0 HT0 HR
          have hG := HT1.out.b2
          obtain ⟨V, rfl⟩ : ∃ V, V = wr := ⟨_, rfl⟩
          go_loopw [9, 10] (fun x _ wr' => ∃ (k : Nat) (ll : List Int), k ≤ b.length ∧ x = .int .i64 ((k : Int) + 1) ∧ ll.length = b.length + 1 ∧ Hid (∀ j, j < k + 1 → nth ll j = (D (i + 1) j : Int)) ∧ Hid (Two w wr' g V.heap.size zs ll)) (fun x _ _ => b.length + 1 - (intOf x).toNat)
          case atStart => exact ⟨0, _, by omega, rfl, hz1, HV1, HT1⟩
          case round =>
            clear HT1 HV1 hz1
            obtain ⟨k, ll, hk, rfl, hl, HW, HT2⟩ := hrel
            by_cases hkl : k < b.length
            · have hkI : (k : Int) + 1 ≤ (b.length : Int) := by omega
              have hkJ : (k : Int) + 1 < (b.length : Int) + 1 := by omega
              have hkK : (k : Int) < (b.length : Int) + 1 := by omega
              have hkL : (k : Int) < (b.length : Int) := by omega
              have hk0 : (0 : Int) ≤ (k : Int) := by omega
              have hk1 : (0 : Int) ≤ (k : Int) + 1 := by omega
              have hkN : ((k : Int) + 1).toNat = k + 1 := by omega
              have hiL : (i : Int) < (a.length : Int) := by omega
              have hi0 : (0 : Int) ≤ (i : Int) := by omega
              have ki : IntKind.i64.wrap ((i : Int) + 1 - 1) = (i : Int) := by rw [IntWalk.i64_in _ (by omega)]; omega
              have kk : IntKind.i64.wrap ((k : Int) + 1 - 1) = (k : Int) := by rw [IntWalk.i64_in _ (by omega)]; omega
              have kk3 : IntKind.i64.wrap (k : Int) = (k : Int) := IntWalk.i64_in _ (by omega)
              have ki3 : IntKind.i64.wrap (i : Int) = (i : Int) := IntWalk.i64_in _ (by omega)
              have kk2 : IntKind.i64.wrap ((k : Int) + 1 + 1) = (k : Int) + 1 + 1 := IntWalk.i64_in _ (by omega)
              have e1 := bs_at a i
              have e2 := bs_at b k
              have z1 := HT2.out.c1.nth k (by omega)
              have b1 := HBi.out k (by omega)
              have b2 := HBi.out (k + 1) (by omega)
              have b3 := HBj.out k (by omega)
              have HX := HSi.out k hkl
              rw [← wc_eq a i hil, ← wc_eq b k hkl] at HX
              have v1 := HV.out k (by omega)
              have v2 := HV.out (k + 1) (by omega)
              have v3 := HW.out k (by omega)
              have HP : Hid (∀ W, Drew wr W → W.cell? ⟨g, k + 1, none⟩ = some (.int .i64 (nth zs (k + 1))) ∧ W.cell? ⟨V.heap.size, k, none⟩ = some (.int .i64 (nth ll k)) ∧ W.cell? ⟨V.heap.size, k + 1, none⟩ = some (.int .i64 (nth ll (k + 1))) ∧ W.frozen? ⟨V.heap.size, k + 1, none⟩ = false ∧ Hid (∀ m : Int, Two w (W.setCell ⟨V.heap.size, k + 1, none⟩ (.int .i64 m)).drew g V.heap.size zs (ll.set (k + 1) m))) := Lib.hid (fun W hd => by
                have h := HT2.out.drew hd
                exact ⟨h.c1.nth _ (by omega), h.c2.nth _ (by omega), h.c2.nth _ (by omega), h.c2.fr _, Lib.hid (fun m => (h.put2 _ m (by omega)).drew ⟨1, rfl⟩)⟩)
              rw [HV.out (k + 1) (by omega), HW.out k (by omega)] at HP
              have HZ : Hid (∀ m : Int, m = (D (i + 1) (k + 1) : Int) → ∀ j, j < k + 1 + 1 → nth (ll.set (k + 1) m) j = (D (i + 1) j : Int)) := Lib.hid (fun m hm j hj => by
                by_cases e : k + 1 = j
                · subst e; rw [nth_set_eq (by omega)]; exact hm
                · rw [nth_set_ne e]; exact HW.out j (by omega))
              have HLn : Hid (∀ m : Int, (ll.set (k + 1) m).length = b.length + 1) := Lib.hid (fun m => by rw [List.length_set]; exact hl)
              rw [v1] at z1
              have HV1 := Lib.hid v1
              have HV2 := Lib.hid v2
              have HV3 := Lib.hid v3
              clear v1 v2 v3
              generalize D (i + 1) (k + 1) = d4 at *
              generalize D i k = d1 at *
              generalize D i (k + 1) = d2 at *
              generalize D (i + 1) k = d3 at *
              generalize nth ll (k + 1) = y4 at *
              have kd1 : IntKind.i64.wrap ((d1 : Int) + 1) = (d1 : Int) + 1 := IntWalk.i64_in _ (by omega)
              have kd2 : IntKind.i64.wrap ((d2 : Int) + 1) = (d2 : Int) + 1 := IntWalk.i64_in _ (by omega)
              have kd3 : IntKind.i64.wrap ((d3 : Int) + 1) = (d3 : Int) + 1 := IntWalk.i64_in _ (by omega)
              clear b1 b2 b3 HV1 HV2 HV3
              by_cases hc : wc a i = wc b k
              · have hbe : (((wc a i).toNat : Int) == ((wc b k).toNat : Int)) = true := by rw [hc]; simp
                rw [if_pos hc] at HX
                have HM : Hid ((if (d3 : Int) + 1 < (if (d2 : Int) + 1 < (d1 : Int) then (d2 : Int) + 1 else (d1 : Int)) then (d3 : Int) + 1 else if (d2 : Int) + 1 < (d1 : Int) then (d2 : Int) + 1 else (d1 : Int)) = (d4 : Int)) := Lib.hid (by
                  split <;> split <;> omega)
                have HZ2 := Lib.hid (HZ.out _ HM.out)
                clear HX hc HM HZ
                go_wp2_with fail
                go_quiet (fail)
                obtain ⟨W5, hW5⟩ : ∃ W5, W5 = wr.drewN nq := ⟨_, rfl⟩
                rw [← hW5]
                obtain ⟨z2, z3, z4, f4, HP5⟩ := HP.out W5 ⟨nq, hW5⟩
                clear hW5 HP z1
                go_wp2_with fail
                go_still_tail 15, (by kernel_rfl)
                go_wp2_with fail
                go_roundw
                case rel => exact ⟨k + 1, _, by omega, by go_num, HLn.out _, HZ2, Lib.hid (HP5.out _)⟩
                case measure => simp [intOf]; omega
              · have hbe := u8_beq_ne hc
                rw [if_neg hc] at HX
                have HM : Hid ((if (d3 : Int) + 1 < (if d2 < d1 then (d2 : Int) + 1 else (d1 : Int) + 1) then (d3 : Int) + 1 else if d2 < d1 then (d2 : Int) + 1 else (d1 : Int) + 1) = (d4 : Int)) := Lib.hid (by
                  split <;> split <;> omega)
                have HZ2 := Lib.hid (HZ.out _ HM.out)
                clear HX hc HM HZ
                go_wp2_with fail
                go_quiet (fail)
                obtain ⟨W5, hW5⟩ : ∃ W5, W5 = wr.drewN nq := ⟨_, rfl⟩
                rw [← hW5]
                obtain ⟨z2, z3, z4, f4, HP5⟩ := HP.out W5 ⟨nq, hW5⟩
                clear hW5 HP z1
                go_wp2_with fail
                go_still_tail 15, (by kernel_rfl)
                go_wp2_with fail
                go_roundw
                case rel => exact ⟨k + 1, _, by omega, by go_num, HLn.out _, HZ2, Lib.hid (HP5.out _)⟩
                case measure => simp [intOf]; omega
            · have hkI : ¬ (k : Int) + 1 ≤ (b.length : Int) := by omega
              have HWf : Hid (∀ j, j ≤ b.length → nth ll j = (D (i + 1) j : Int)) := Lib.hid (fun j hj => HW.out j (by omega))
              have HRf := Lib.hid HT2.out.row2
              have ki : IntKind.i64.wrap ((i : Int) + 1 + 1) = (i : Int) + 1 + 1 := IntWalk.i64_in _ (by omega)
              go_wp2_with fail
              go_roundw
              case rel => exact ⟨i + 1, _, ll, by omega, rfl, by go_num, hl, HWf, HRf⟩
              case measure => simp [intOf]; omega
        · have hiI : ¬ (i : Int) + 1 ≤ (a.length : Int) := by omega
          have e : i = a.length := by omega
          have z1 := HR.out.c.nth b.length (by omega)
          rw [HV.out b.length (Nat.le_refl _), e, HA.out] at z1
          have hbJ : (b.length : Int) < (b.length : Int) + 1 := by omega
          go_wp2_with fail
          go_ret
          exact ⟨rfl, HR.out.bel⟩
set_option maxRecDepth 20000 in
set_option maxHeartbeats 4000000 in
theorem nearR_any (a : Option Addr) (cap : Nat) (l : List X.W) (u : X.W) (n : Int) (w : World) (hl : l.length ≤ 1000000) (hr : Rooms l) (hu : u.length ≤ 1000000) (ha : Strs w a l) :
    Calls Tryz.prog 40 #[.slice a l.length cap, sv u, .int .i64 n] w fun e w' => OutSE w w' e (X.nearE l u n) := by
  have HCL := Lib.hid (fun W hd => checkList_any a cap l W hl hr (ha.drew hd))
  have HWd := Lib.hid (fun W => word_any u W (by omega))
  have HA := Lib.hid ha
  clear ha
  by_cases h : X.listE l = 0
  case neg =>
    have HE : Hid (X.nearE l u n = ([], X.listE l)) := Lib.hid (by unfold X.nearE; rw [if_pos h])
    generalize X.listE l = t at *
    have hb : (t != 0) = true := by simpa using h
    go_enter Tryz.func40, Tryz.ntmps40
    go_wp2_with fail
    refine (HCL.out _ (Drew.refl _)).mono ?_
    rintro e w1 ⟨rfl, hd1⟩
    have HD1 := Lib.hid hd1
    clear hd1
    go_wp2_with fail
    refine (HCL.out _ HD1.out).mono ?_
    rintro e w2 ⟨rfl, hd2⟩
    have HD := Lib.hid (HD1.out.trans hd2)
    clear hd2
    go_wp2_with fail
    go_ret2
    rw [HE.out]
    exact ⟨none, 0, rfl, Strs.nil _ _, by simp, HD.out.below _⟩
  case pos =>
    have hL := X.listE_iff.1 h
    have hm := hL.many
    have HLg := Lib.hid hL.long
    rw [h] at HCL
    by_cases h2 : X.wordE u = 0
    case neg =>
      have HE : Hid (X.nearE l u n = ([], X.wordE u)) := Lib.hid (by unfold X.nearE; rw [if_neg (not_not_intro h), if_pos h2])
      generalize X.wordE u = t at *
      have hb : (t != 0) = true := by simpa using h2
      clear h hL
      go_enter Tryz.func40, Tryz.ntmps40
      go_wp2_with fail
      refine (HCL.out _ (Drew.refl _)).mono ?_
      rintro e w1 ⟨rfl, hd1⟩
      have HD1 := Lib.hid hd1
      clear hd1
      go_wp2_with fail
      refine (HWd.out _).mono ?_
      rintro e w2 ⟨rfl, rfl⟩
      go_wp2_with fail
      refine (HWd.out _).mono ?_
      rintro e w2 ⟨rfl, rfl⟩
      go_wp2_with fail
      go_ret2
      rw [HE.out]
      exact ⟨none, 0, rfl, Strs.nil _ _, by simp, HD1.out.below _⟩
    case pos =>
      have hu10 : u.length ≤ 10 := by
        unfold X.wordE at h2
        split at h2
        · cases h2
        · omega
      rw [h2] at HWd
      by_cases h3 : n < 0 ∨ 2 < n
      case pos =>
        have HE : Hid (X.nearE l u n = ([], 3)) := Lib.hid (by unfold X.nearE; rw [if_neg (not_not_intro h), if_neg (not_not_intro h2), if_pos h3])
        clear h h2 hL
        by_cases h4 : n < 0
        · clear h3
          go_enter Tryz.func40, Tryz.ntmps40
          go_wp2_with fail
          refine (HCL.out _ (Drew.refl _)).mono ?_
          rintro e w1 ⟨rfl, hd1⟩
          have HD1 := Lib.hid hd1
          clear hd1
          go_wp2_with fail
          refine (HWd.out _).mono ?_
          rintro e w2 ⟨rfl, rfl⟩
          go_wp2_with fail
          go_ret2
          rw [HE.out]
          exact ⟨none, 0, rfl, Strs.nil _ _, by simp, HD1.out.below _⟩
        · have h5 : 2 < n := by omega
          clear h3
          go_enter Tryz.func40, Tryz.ntmps40
          go_wp2_with fail
          refine (HCL.out _ (Drew.refl _)).mono ?_
          rintro e w1 ⟨rfl, hd1⟩
          have HD1 := Lib.hid hd1
          clear hd1
          go_wp2_with fail
          refine (HWd.out _).mono ?_
          rintro e w2 ⟨rfl, rfl⟩
          go_wp2_with fail
          go_ret2
          rw [HE.out]
          exact ⟨none, 0, rfl, Strs.nil _ _, by simp, HD1.out.below _⟩
      case neg =>
        have HE : Hid (X.nearE l u n = (l.filter (fun s => X.near n.toNat s u), 0)) := Lib.hid (by unfold X.nearE; rw [if_neg (not_not_intro h), if_neg (not_not_intro h2), if_neg h3])
        have h4 : ¬ n < 0 := by omega
        have h5 : ¬ 2 < n := by omega
        clear h h2 hL h3
        obtain ⟨m, rfl⟩ : ∃ m : Nat, n = (m : Int) := ⟨n.toNat, by omega⟩
        rw [Int.toNat_natCast] at HE
        have HDs := Lib.hid (fun s W (hs : s.length ≤ 1000) => distance_any s u W hs (by omega))
        have HNe := Lib.hid (fun s => X.lev_near (n := m) s u)
        go_enter Tryz.func40, Tryz.ntmps40
        go_wp2_with fail
        refine (HCL.out _ (Drew.refl _)).mono ?_
        rintro e w1 ⟨rfl, hd1⟩
        have HD1 := Lib.hid hd1
        clear hd1
        go_wp2_with fail
        refine (HWd.out _).mono ?_
        rintro e w2 ⟨rfl, rfl⟩
        go_wp2_with fail
        go_loopw [8, 9] (fun o i wr => ∃ j : Nat, j ≤ l.length ∧ i = .int .i64 j ∧ Hid (wr.ownsRow w.heap.size 9 1 o ((l.take j).filter (fun s => X.near m s u)).length (((l.take j).filter (fun s => X.near m s u)).map sv)) ∧ Hid (Below w.heap.size w wr)) (fun _ i _ => l.length - (intOf i).toNat)
        case atStart => exact ⟨0, by omega, rfl, Lib.hid (World.ownsRow_nil _ _ _ _), Lib.hid (HD1.out.below _)⟩
        case round =>
          obtain ⟨j, hj, rfl, HO, HBl⟩ := hrel
          by_cases hlt : j < l.length
          · have hltI : (j : Int) < (l.length : Int) := by omega
            obtain ⟨b1, off, rfl, c0⟩ := HA.out j hlt
            have c1 := cell_on HBl.out c0
            have HS := Lib.hid (filter_take (p := fun s => X.near m s u) hlt)
            have hn : ((l.take j).filter (fun s => X.near m s u)).length + 1 ≤ 2000000 := by
              have := List.length_filter_le (fun s => X.near m s u) (l.take j)
              rw [List.length_take] at this; omega
            have hx := HLg.out _ (wat_mem hlt)
            generalize wat l j = x at *
            have HC := Lib.hid (HDs.out x wr (by omega))
            have hnx := HNe.out x
            generalize X.lev x u = d at *
            have C0 := Lib.hid c0
            clear c0
            by_cases hd : d ≤ m
            · have hdI : (d : Int) ≤ (m : Int) := by omega
              have HS2 : Hid ((l.take (j + 1)).filter (fun s => X.near m s u) = (l.take j).filter (fun s => X.near m s u) ++ [x]) := Lib.hid (by rw [HS.out, if_pos (hnx.1 hd)])
              clear HS hnx hd
              go_wp2_with fail
              refine HC.out.mono ?_
              rintro e w3 ⟨rfl, hb3⟩
              have HO3 := Lib.hid (owns_below HO.out hb3)
              have HB3 := Lib.hid (HBl.out.trans (hb3.mono HBl.out.size))
              have c3 := cell_on HB3.out C0.out
              have O5 := Lib.hid (HO3.out.alloc (.cells #[sv x] 9))
              have hnews := Lib.hid (news_new w3 #[sv x] 9)
              have hsz := HB3.out.size
              have hszW : w.heap.size ≤ (w3.alloc (.cells #[sv x] 9)).heap.size := by simp; omega
              clear hb3 c1
              go_wp2_with (at_builtin; refine listApp T22 rfl (.tmp 40) (.tmp 45) rfl w.heap.size u8 ((l.take j).filter (fun s => X.near m s u)).length (((l.take j).filter (fun s => X.near m s u)).map sv) [sv x] 1 1 ⟨w3.heap.size, 0, none⟩ rfl O5.out rfl rfl hnews.out (by simp [Value.oneCell']) hn hszW ?_; intro v8 w8 hown8 hg8 hL8)
              go_roundw
              case rel => exact ⟨j + 1, by omega, by go_num, by rw [HS2.out, List.length_append, List.map_append]; exact Lib.hid hown8, Lib.hid ((HB3.out.alloc hsz _).grown hg8 hszW (fun g e => (HO3.out.lt g e).1))⟩
              case measure => simp [intOf]; omega
            · have hdI : ¬ (d : Int) ≤ (m : Int) := by omega
              have HS2 : Hid ((l.take (j + 1)).filter (fun s => X.near m s u) = (l.take j).filter (fun s => X.near m s u)) := Lib.hid (by rw [HS.out, if_neg (fun e => hd (hnx.2 e))]; simp)
              clear HS hnx hd
              go_wp2_with fail
              refine HC.out.mono ?_
              rintro e w3 ⟨rfl, hb3⟩
              have HO3 := Lib.hid (owns_below HO.out hb3)
              have HB3 := Lib.hid (HBl.out.trans (hb3.mono HBl.out.size))
              clear hb3
              go_wp2_with fail
              go_roundw
              case rel => exact ⟨j + 1, by omega, by go_num, by rw [HS2.out]; exact HO3, HB3⟩
              case measure => simp [intOf]; omega
          · have e : l.take j = l := List.take_of_length_le (by omega)
            rw [e] at HO
            obtain ⟨-, a5, c5, rfl, hs5, hc5⟩ := Strs.of_ownsRow HO.out
            have HS5 := Lib.hid hs5
            clear hs5 HO
            go_wp2
            go_ret2
            rw [HE.out]
            exact ⟨a5, c5, rfl, HS5.out, hc5, HBl.out⟩
end Go.Proofs.YtcjbnifafofpbaaGreatDoor
