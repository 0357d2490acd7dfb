/- One text of ComU, ComV, ComW, ComX, LawB, LawC, LawD, LawE. -/
import Derived.Test.YtkcgkfhfogdihaaJ14
import Derived.Lib.SliceRun
import Derived.Deep.OwnRows
/- Walks of slices.Index and Contains of int; a block of ints of the call's own. -/
namespace Go.Proofs.Ytkcgkfhfogdihaa
open Go.RowKit
set_option maxRecDepth 100000 in
set_option maxHeartbeats 400000 in
theorem indexI_any (a : Option Addr) (cap : Nat) (zs : List Int) (x : Int) (w : World) (hl : zs.length ≤ 1000000) (ha : Ints .i64 w a zs) :
    Calls Try.prog 82 #[.slice a zs.length cap, .int .i64 x] w fun e w' => ∃ n : Int, e = .returned (.int .i64 n) ∧ (0 ≤ n ↔ ∃ i, i < zs.length ∧ nth zs i = x) ∧ w = w' := by
  have HA := Lib.hid ha; clear ha
  go_enter Try.func82, Try.ntmps82
  go_wp2_with fail
  go_loop [4, 8] (fun _ i => ∃ j : Nat, j ≤ zs.length ∧ i = .int .i64 j ∧ Hid (∀ k, k < j → nth zs k ≠ x)) (fun _ i => zs.length - (intOf i).toNat)
  case atStart => exact ⟨0, by omega, rfl, Lib.hid (fun k h => by omega)⟩
  case round =>
    obtain ⟨j, hj, rfl, hr⟩ := hrel
    by_cases hlt : j < zs.length
    · obtain ⟨b, off, rfl, hc⟩ := HA.out j hlt
      cases hin : (x == nth zs j) with
      | false =>
        have HI : Hid (nth zs j ≠ x) := Lib.hid (fun e => by rw [e] at hin; simp at hin)
        go_wp2_with fail
        go_round
        case rel => exact ⟨j + 1, by omega, by go_num, Lib.hid (fun k hk => by rcases Nat.lt_succ_iff_lt_or_eq.1 hk with h | rfl; exact hr.out k h; exact HI.out)⟩
        case measure => simp [intOf]; omega
      | true =>
        have HI : Hid (nth zs j = x) := Lib.hid (eq_of_beq hin).symm
        go_wp2_with fail
        go_ret
        exact ⟨_, rfl, ⟨fun _ => ⟨j, hlt, HI.out⟩, fun _ => by omega⟩, rfl⟩
    · go_wp2_with fail
      go_ret
      exact ⟨_, rfl, ⟨fun h => by omega, fun ⟨i, hi, e⟩ => absurd e (hr.out i (by omega))⟩, rfl⟩
set_option maxRecDepth 100000 in
set_option maxHeartbeats 400000 in
theorem containsI_any (a : Option Addr) (cap : Nat) (zs : List Int) (x : Int) (w : World) (hl : zs.length ≤ 1000000) (ha : Ints .i64 w a zs) :
    Calls Try.prog 71 #[.slice a zs.length cap, .int .i64 x] w fun e w' => ∃ b : Bool, e = .returned (.bool b) ∧ (b = true ↔ ∃ i, i < zs.length ∧ nth zs i = x) ∧ w = w' := by
  have HC := Lib.hid (indexI_any a cap zs x w hl ha)
  clear ha
  go_enter Try.func71, Try.ntmps71
  go_wp2_with fail
  refine HC.out.mono ?_
  rintro e w' ⟨n, rfl, HN0, rfl⟩
  have HN := Lib.hid HN0
  clear HN0
  go_wp2_with fail
  go_ret
  exact ⟨_, rfl, by rw [← HN.out]; simp, rfl⟩
/-- A block that holds ints, none of them frozen. -/
structure RowI (w : World) (H : Nat) (xs : List Int) : Prop where
  cell : ∀ j, j < xs.length → w.cell? ⟨H, j, none⟩ = some (.int .i64 (nth xs j))
  frozen : ∀ j, j < xs.length → w.frozen? ⟨H, j, none⟩ = false
theorem RowI.ints {w : World} {H : Nat} {xs : List Int} (h : RowI w H xs) : Ints .i64 w (some ⟨H, 0, none⟩) xs := fun i hi => ⟨H, 0, rfl, by rw [Nat.zero_add]; exact h.cell i hi⟩
theorem nth_set (xs : List Int) (j : Nat) (v : Int) (i : Nat) (h : i < xs.length) : nth (xs.set j v) i = if j = i then v else nth xs i := by
  simp [nth, h]
  split <;> simp_all
theorem RowI.set {w : World} {H : Nat} {xs : List Int} (h : RowI w H xs) (j : Nat) (hj : j < xs.length) (v : Int) : RowI (w.setCell ⟨H, j, none⟩ (.int .i64 v)) H (xs.set j v) := by
  refine ⟨fun i hi => ?_, fun i hi => ?_⟩
  · rw [List.length_set] at hi
    rw [nth_set xs j v i hi]
    by_cases e : j = i
    · subst e; rw [if_pos rfl]; exact World.cell?_setCell_same _ _ _ (h.cell j hj)
    · rw [if_neg e, World.cell?_setCell_other _ _ _ _ (by first | (simp; done) | (simp; omega))]; exact h.cell i hi
  · rw [List.length_set] at hi
    rw [World.frozen?_setCell]; exact h.frozen i hi
theorem RowI.below {w w' : World} {H : Nat} {xs : List Int} (h : RowI w H xs) (hb : Below w.heap.size w w') : RowI w' H xs := by
  refine ⟨fun i hi => cell_on hb (h.cell i hi), fun i hi => ?_⟩
  have := World.block_lt_of_cell? w _ (h.cell i hi)
  rw [hb.frozen this]; exact h.frozen i hi
theorem below_setCells {B : Nat} {a : World} (b : Nat) (hb : B ≤ b) (vs : List Value) (o : Nat) {w : World} (h : Below B a w) : Below B a (w.setCells b o vs) := by
  induction vs generalizing o w with
  | nil => exact h
  | cons v r ih => rw [World.setCells]; exact ih _ (h.setCell (p := ⟨b, o, none⟩) hb v)
theorem RowI.zeros {w : World} {H : Nat} {xs : List Int} (h : RowI w H xs) : RowI (w.setCells H 0 (List.replicate xs.length (.int .i64 0))) H (List.replicate xs.length 0) := by
  refine ⟨fun i hi => ?_, fun i hi => ?_⟩
  · rw [List.length_replicate] at hi
    have := World.cell?_setCells_in H (List.replicate xs.length (Value.int .i64 0)) 0 w (fun j hj => by rw [List.length_replicate] at hj; rw [Nat.zero_add, h.cell j hj]; rfl) i (by simpa using hi)
    rw [Nat.zero_add] at this
    rw [this]; simp [nth, hi]
  · rw [List.length_replicate] at hi
    rw [World.frozen?_setCells]; exact h.frozen i hi
theorem RowI.made (w : World) (n : Nat) (t : TypeId) : RowI (w.alloc (.cells (madeCells #[.int .i64 0] n) t)) w.heap.size (List.replicate n 0) := by
  refine ⟨fun i hi => ?_, fun i hi => ?_⟩
  · rw [List.length_replicate] at hi
    simp [madeCells, nth, hi, Nat.mod_one]
  · simp
theorem run_clearI {w : World} {H n : Nat} {xs : List Int} (h : RowI w H xs) (hn : xs.length = n) (hp : 0 < n) (ty : TypeId) (c : Nat) :
    (Builtin.clear_ #[34] ty #[.slice (some ⟨H, 0, none⟩) n c]).run Try.prog w = .ok (.tuple #[]) (w.setCells H 0 (List.replicate n (.int .i64 0))) := by
  subst hn
  exact Lib.run_clear_slice w 34 3 ty (.int .i64 0) T34.ht (fun w => by simp [go_sem]) rfl rfl H 0 xs.length c hp (fun j hj => by rw [Nat.zero_add, h.cell j hj]; rfl) (fun j hj => by rw [Nat.zero_add]; exact h.frozen j hj)
end Go.Proofs.Ytkcgkfhfogdihaa
/- Walk of the program's Kind. -/
namespace Go.Proofs.Ytkcgkfhfogdihaa
open Go.RowKit
namespace C
/-- The row of wrongs behind j rounds. -/
def kd (l : List (Int × Int)) (qs : List (List Int)) (s j : Nat) : List Int := up (fun i z => if (R.atD (row qs i) (dayN l s) == plcN l s) = true then z else z.set i 1) (List.replicate qs.length 0) j
theorem kd_succ (l : List (Int × Int)) (qs : List (List Int)) (s j : Nat) : kd l qs s (j + 1) = if (R.atD (row qs j) (dayN l s) == plcN l s) = true then kd l qs s j else (kd l qs s j).set j 1 := rfl
theorem kd_length (l : List (Int × Int)) (qs : List (List Int)) (s j : Nat) : (kd l qs s j).length = qs.length := by
  induction j with
  | zero => simp [kd, up]
  | succ j ih => rw [kd_succ]; split <;> simp [ih]
theorem kd_nth (l : List (Int × Int)) (qs : List (List Int)) (s j i : Nat) (hi : i < qs.length) : nth (kd l qs s j) i = if i < j ∧ ¬ R.atD (row qs i) (dayN l s) = plcN l s then 1 else 0 := by
  induction j with
  | zero => simp [kd, up, nth, hi]
  | succ j ih =>
    rw [kd_succ]
    by_cases h : (R.atD (row qs j) (dayN l s) == plcN l s) = true
    · rw [if_pos h, ih]
      have h' := eq_of_beq h
      by_cases e : i = j
      · subst e; simp [h']
      · have : i < j + 1 ↔ i < j := by omega
        simp only [this]
    · rw [if_neg h, nth_set _ _ _ _ (by rw [kd_length]; exact hi), ih]
      have h' : ¬ R.atD (row qs j) (dayN l s) = plcN l s := by simpa using h
      by_cases e : i = j
      · subst e; simp [h']
      · rw [if_neg e]
        have : i < j + 1 ↔ i < j := by omega
        simp only [this]
theorem kd_has (l : List (Int × Int)) (qs : List (List Int)) (s : Nat) (v : Int) (p : List Int → Prop) (hp : ∀ i, i < qs.length → (nth (kd l qs s qs.length) i = v ↔ p (row qs i))) :
    (∃ i, i < (kd l qs s qs.length).length ∧ nth (kd l qs s qs.length) i = v) ↔ ∃ q ∈ qs, p q := by
  rw [kd_length]
  constructor
  · rintro ⟨i, hi, e⟩
    exact ⟨row qs i, by simp [row, hi], (hp i hi).1 e⟩
  · rintro ⟨q, hq, h⟩
    obtain ⟨i, hi, rfl⟩ := List.mem_iff_getElem.1 hq
    have e : row qs i = qs[i] := by simp [row, hi]
    exact ⟨i, hi, (hp i hi).2 (by rw [e]; exact h)⟩
end C
set_option maxRecDepth 100000 in
set_option maxHeartbeats 4000000 in
theorem cKind_any (a : Option Addr) (cap : Nat) (deg : Int) (l : List (Int × Int)) (s : Int) (w : World) (hl : l.length ≤ 1000000) (ha : Sigs w a l) :
    Calls Try.prog 33 #[.agg #[.int .i64 deg, .slice a l.length cap], .int .i64 s] w fun e w' => e = .returned (.tuple #[.int .i64 (R.kindE deg l s).1, .int .i64 (R.kindE deg l s).2]) ∧ Below w.heap.size w w' := by
  have hb0 := Lib.hid (Below.new w (.cells #[.int .i64 deg, .slice a l.length cap] 33))
  have HL0 := Lib.hid (Logged.new ha deg cap 33)
  have HCk := Lib.hid (fun W hW => cCheckLog_any a cap deg l W hl hW)
  have HLen : Hid (l.length ≤ 1000000) := Lib.hid hl
  clear ha
  by_cases hc : R.checkLog deg l = 0
  · have HV := Lib.hid (R.checkLog_zero hc)
    rw [hc] at HCk
    have h12 := HV.out.len
    by_cases hs : s < 0 ∨ (l.length : Int) ≤ s
    · have HF : Hid (R.kindE deg l s = (0, 2)) := by unfold R.kindE; rw [if_neg (not_not_intro hc), if_pos hs]; trivial
      have HIn : Hid ([s].all (C.inB 0 ((l.length : Int) - 1)) = false) := Lib.hid (by simp [C.inB]; omega)
      clear hc hs
      go_enter Try.func33, Try.ntmps33
      go_wp2_with fail
      refine (HCk.out _ HL0.out.sig).mono ?_
      rintro e w1 ⟨rfl, hb1⟩
      have HL1 := Lib.hid (HL0.out.on hb1)
      have HBel := Lib.hid (hb0.out.trans (hb1.mono (by simp)))
      clear hb1
      have hx1 := HL1.out.x1
      have hx2 := HL1.out.x2
      have HW := Lib.hid (within_any (some ⟨w1.heap.size, 0, none⟩) 1 [s] 0 ((l.length : Int) - 1) (w1.alloc (.cells #[.int .i64 s] 2)) (by simp) (ints_one (by simp)))
      have HN := Lib.hid (Below.new w1 (.cells #[.int .i64 s] 2))
      rw [HIn.out] at HW
      go_wp2_with fail
      refine HW.out.mono ?_
      rintro e w2 ⟨rfl, hb2⟩
      go_wp2_with fail
      go_ret2
      exact ⟨by rw [HF.out]; first | done | rfl, HBel.out.trans ((HN.out.trans (hb2.mono HN.out.size)).mono HBel.out.size)⟩
    · have HFF : Hid (R.kindE deg l s = if R.most deg l = 0 then (0, 23) else if R.wrongs deg l s.toNat = (R.best deg l).length then (2, 0) else (((min (R.wrongs deg l s.toNat) 1 : Nat) : Int), 0)) := by unfold R.kindE; rw [if_neg (not_not_intro hc), if_neg hs]; trivial
      obtain ⟨d, rfl⟩ := HV.out.nat
      have hs1 : 0 ≤ s := by omega
      have hs2 : s < (l.length : Int) := by omega
      obtain ⟨t, rfl⟩ := Int.eq_ofNat_of_zero_le hs1
      clear hc hs
      have hs3 : t < l.length := by omega
      have HIn : Hid ([(t : Int)].all (C.inB 0 ((l.length : Int) - 1)) = true) := Lib.hid (by simp [C.inB]; omega)
      go_enter Try.func33, Try.ntmps33
      go_wp2_with fail
      refine (HCk.out _ HL0.out.sig).mono ?_
      rintro e w1 ⟨rfl, hb1⟩
      have HL1 := Lib.hid (HL0.out.on hb1)
      have HBel := Lib.hid (hb0.out.trans (hb1.mono (by simp)))
      clear hb1
      have hx1 := HL1.out.x1
      have hx2 := HL1.out.x2
      have HW := Lib.hid (within_any (some ⟨w1.heap.size, 0, none⟩) 1 [(t : Int)] 0 ((l.length : Int) - 1) (w1.alloc (.cells #[.int .i64 (t : Int)] 2)) (by simp) (ints_one (by simp)))
      have HN := Lib.hid (Below.new w1 (.cells #[.int .i64 (t : Int)] 2))
      rw [HIn.out] at HW
      go_wp2_with fail
      refine HW.out.mono ?_
      rintro e w2 ⟨rfl, hb2⟩
      have HB12 := Lib.hid (HN.out.trans (hb2.mono HN.out.size))
      have HL2 := Lib.hid (HL1.out.on HB12.out)
      have HB2 := Lib.hid (HBel.out.trans (HB12.out.mono HBel.out.size))
      clear hx1 hx2 hb2
      have hx1 := HL2.out.x1
      have hx2 := HL2.out.x2
      go_wp2_with fail
      refine (tracked_ok a cap d l _ HL2.out.sig HV.out).mono ?_
      rintro e w3 ⟨hb3, qs, hS, (⟨hq, rfl⟩ | ⟨hpos, B, a2, cap2, rfl, hL3, htr⟩)⟩
      · have HF0 : Hid (R.kindE (d : Int) l (t : Int) = (0, 23)) := Lib.hid (by rw [HFF.out, if_pos ((hS.nil HV.out).1 hq)])
        clear hq hS hx1 hx2
        go_wp2_with fail
        go_ret2
        exact ⟨by rw [HF0.out]; first | done | rfl, HB2.out.trans (hb3.mono HB2.out.size)⟩
      · have HB3 := Lib.hid (HB2.out.trans (hb3.mono HB2.out.size))
        have HF0 : Hid (R.kindE (d : Int) l (t : Int) = if R.wrongs (d : Int) l t = (R.best (d : Int) l).length then (2, 0) else (((min (R.wrongs (d : Int) l t) 1 : Nat) : Int), 0)) := Lib.hid (by
          have hne : R.most (d : Int) l ≠ 0 := fun e => by have := (hS.nil HV.out).2 e; rw [this] at hpos; simp at hpos
          rw [HFF.out, if_neg hne]; rfl)
        have HS := Lib.hid hS
        have HL3 := Lib.hid hL3
        have HTr := Lib.hid htr
        have hqn : qs.length ≤ 4096 := by rw [hS.count HV.out]; exact R.best_length h12
        clear hS hL3 htr hb3 hx1 hx2
        have hposI : (0 : Int) < (qs.length : Int) := by omega
        obtain ⟨W4, HW4⟩ : ∃ W, W = w3.alloc (.cells (madeCells #[.int .i64 0] qs.length) 3) := ⟨_, rfl⟩
        obtain ⟨H, HH⟩ : ∃ n, n = w3.heap.size := ⟨_, rfl⟩
        have hmk := run_make_row' (P := Try.prog) 34 3 (.int .i64 0) 8 T34.ht T34.hi rfl .i64 .i64 qs.length (by omega) (by omega) w3
        rw [← HW4, ← HH] at hmk
        have HR4 : Hid (RowI W4 H (List.replicate qs.length 0)) := Lib.hid (by rw [HW4, HH]; exact RowI.made w3 qs.length 3)
        have HBN : Hid (Below w3.heap.size w3 W4) := Lib.hid (by rw [HW4]; exact Below.new _ _)
        obtain ⟨W5, HW5⟩ : ∃ W, W = W4.setCells H 0 (List.replicate qs.length (.int .i64 0)) := ⟨_, rfl⟩
        have hcl := run_clearI HR4.out (by simp) hpos 0 qs.length
        rw [← HW5] at hcl
        have HR5 : Hid (RowI W5 H (C.kd l qs t 0)) := Lib.hid (by
          have := HR4.out.zeros
          rw [List.length_replicate, ← HW5] at this
          exact this)
        have HB5 : Hid (Below w3.heap.size w3 W5) := Lib.hid (by rw [HW5]; exact below_setCells H (by omega) _ _ HBN.out)
        have HWs := Lib.hid (And.intro HW4 HW5)
        have HHH := Lib.hid HH
        clear HW4 HW5 HH HBN
        go_wp2_with fail
        clear hmk hcl hposI
        have HH5 := Lib.hid (by have := HHH.out; omega : w3.heap.size ≤ H)
        have hsz3 := HB3.out.size
        go_loopw [42] (fun i wi => ∃ j : Nat, j ≤ qs.length ∧ i = .int .i64 j ∧ Hid (RowI wi H (C.kd l qs t j)) ∧ Hid (Below w3.heap.size w3 wi)) (fun i _ => qs.length - (intOf i).toNat)
        case atStart => exact ⟨0, Nat.zero_le _, rfl, HR5, HB5⟩
        case round =>
          obtain ⟨j, hj, rfl, HRj, HBj⟩ := hrel
          by_cases hlt : j < qs.length
          · have hltI : (j : Int) < ↑qs.length := by omega
            have hqj : C.row qs j ∈ qs := by simp [C.row, hlt]
            have hpr := (HS.out.found _ hqj).props HV.out
            have hd3 := HV.out.d3
            obtain ⟨b2, off2, rfl, hc4⟩ := (HTr.out.below HBj.out) j hlt
            have q0 := hc4 0 (by omega)
            have q1 := hc4 1 (by omega)
            have q2 := hc4 2 (by omega)
            have q3 := hc4 3 (by omega)
            simp only [Nat.add_zero] at q0 q1 q2 q3
            have hbn := Below.new wr (.cells #[.int .i64 (nth (C.row qs j) 0), .int .i64 (nth (C.row qs j) 1), .int .i64 (nth (C.row qs j) 2), .int .i64 (nth (C.row qs j) 3)] 76)
            have hl := lies_any B (d : Int) a cap l (C.row qs j) t (wr.alloc (.cells #[.int .i64 (nth (C.row qs j) 0), .int .i64 (nth (C.row qs j) 1), .int .i64 (nth (C.row qs j) 2), .int .i64 (nth (C.row qs j) 3)] 76)) ((HL3.out.on HBj.out).on hbn) HV.out (by rw [hpr.1]; omega) hpr.2 hs3
            unfold trackV at hl
            have HL := Lib.hid hl
            have HRn := Lib.hid (HRj.out.below hbn)
            have HBn := Lib.hid (HBj.out.trans (hbn.mono HBj.out.size))
            have HK := Lib.hid (C.kd_succ l qs t j)
            clear hl hbn hc4 hpr hqj
            go_wp2_with fail
            refine HL.out.mono ?_
            rintro e w6 ⟨rfl, hb6⟩
            have HR6 := Lib.hid (HRn.out.below hb6)
            have HB6 := Lib.hid (HBn.out.trans (hb6.mono HBn.out.size))
            clear hb6
            cases hlie : (R.atD (C.row qs j) (dayN l t) == plcN l t) with
            | true =>
              have HS1 : Hid (C.kd l qs t (j + 1) = C.kd l qs t j) := Lib.hid (by rw [HK.out, if_pos hlie])
              go_wp2_with fail
              go_roundw
              case rel => exact ⟨j + 1, by omega, by go_num, by rw [HS1.out]; exact HR6, HB6⟩
              case measure => simp [intOf]; omega
            | false =>
              have HS1 : Hid (C.kd l qs t (j + 1) = (C.kd l qs t j).set j 1) := Lib.hid (by rw [HK.out, if_neg (by rw [hlie]; simp)])
              have hjk : j < (C.kd l qs t j).length := by rw [C.kd_length]; exact hlt
              have c6 := HR6.out.cell j hjk
              have f6 := HR6.out.frozen j hjk
              have HR7 := Lib.hid (HR6.out.set j hjk 1)
              have HB7 := Lib.hid (HB6.out.setCell (p := ⟨H, j, none⟩) HH5.out (.int .i64 1))
              clear hjk
              go_wp2_with fail
              go_roundw
              case rel => exact ⟨j + 1, by omega, by go_num, by rw [HS1.out]; exact HR7, HB7⟩
              case measure => simp [intOf]; omega
          · have hje : j = qs.length := by omega
            subst hje
            have hI := HRj.out.ints
            have HC0 := Lib.hid (containsI_any (some ⟨H, 0, none⟩) qs.length (C.kd l qs t qs.length) 0 wr (by rw [C.kd_length]; omega) hI)
            have HC1 := Lib.hid (containsI_any (some ⟨H, 0, none⟩) qs.length (C.kd l qs t qs.length) 1 wr (by rw [C.kd_length]; omega) hI)
            rw [C.kd_length] at HC0 HC1
            have HE0 := Lib.hid (C.kd_has l qs t 0 (fun q => R.atD q (dayN l t) = plcN l t) (fun i hi => by
              rw [C.kd_nth l qs t _ i hi]
              by_cases e : R.atD (C.row qs i) (dayN l t) = plcN l t
              · simp [e]
              · simp [e, hi]))
            have HE1 := Lib.hid (C.kd_has l qs t 1 (fun q => ¬ R.atD q (dayN l t) = plcN l t) (fun i hi => by
              rw [C.kd_nth l qs t _ i hi]
              by_cases e : R.atD (C.row qs i) (dayN l t) = plcN l t
              · simp [e]
              · simp [e, hi]))
            rw [C.kd_length] at HE0 HE1
            have HBf := Lib.hid (HB3.out.trans (HBj.out.mono hsz3))
            have HZ := Lib.hid (HS.out.wrong_zero HV.out hs3)
            have HFu := Lib.hid (HS.out.wrong_full HV.out hs3)
            clear hI
            go_wp2_with fail
            refine HC0.out.mono ?_
            rintro e w6 ⟨b0, rfl, hb0', rfl⟩
            have HB0 := Lib.hid (hb0'.trans HE0.out)
            clear hb0'
            cases b0 with
            | false =>
              have HFe : Hid (R.kindE (d : Int) l (t : Int) = (2, 0)) := Lib.hid (by
                rw [HF0.out, if_pos (HFu.out.2 fun q hq e => by have := HB0.out.2 ⟨q, hq, e⟩; cases this)])
              go_wp2_with fail
              go_ret2
              exact ⟨by rw [HFe.out]; first | done | rfl, HBf.out⟩
            | true =>
              have HNf : Hid (R.wrongs (d : Int) l t ≠ (R.best (d : Int) l).length) := Lib.hid (fun e => by
                obtain ⟨q, hq, e2⟩ := HB0.out.1 rfl
                exact HFu.out.1 e q hq e2)
              go_wp2_with fail
              refine HC1.out.mono ?_
              rintro e w6 ⟨b1, rfl, hb1', rfl⟩
              have HB1 := Lib.hid (hb1'.trans HE1.out)
              clear hb1'
              cases b1 with
              | false =>
                have HFe : Hid (R.kindE (d : Int) l (t : Int) = (0, 0)) := Lib.hid (by
                  rw [HF0.out, if_neg HNf.out, HZ.out.2 fun q hq => Classical.byContradiction fun e => by have := HB1.out.2 ⟨q, hq, e⟩; cases this]
                  rfl)
                go_wp2_with fail
                go_ret2
                exact ⟨by rw [HFe.out]; first | done | rfl, HBf.out⟩
              | true =>
                have HFe : Hid (R.kindE (d : Int) l (t : Int) = (1, 0)) := Lib.hid (by
                  obtain ⟨q, hq, e2⟩ := HB1.out.1 rfl
                  have : R.wrongs (d : Int) l t ≠ 0 := fun e => e2 (HZ.out.1 e q hq)
                  rw [HF0.out, if_neg HNf.out, show min (R.wrongs (d : Int) l t) 1 = 1 by omega]
                  rfl)
                go_wp2_with fail
                go_ret2
                exact ⟨by rw [HFe.out]; first | done | rfl, HBf.out⟩
  · have HF : Hid (R.kindE deg l s = (0, R.checkLog deg l)) := Lib.hid (by unfold R.kindE; rw [if_pos hc])
    have hc' : (R.checkLog deg l != 0) = true := by rw [bne_iff_ne]; exact hc
    clear hc
    go_enter Try.func33, Try.ntmps33
    go_wp2_with fail
    refine (HCk.out _ HL0.out.sig).mono ?_
    rintro e w1 ⟨rfl, hb1⟩
    go_wp2_with fail
    go_ret2
    exact ⟨by rw [HF.out]; first | done | rfl, hb0.out.trans (hb1.mono hb0.out.size)⟩
end Go.Proofs.Ytkcgkfhfogdihaa
/- Walk of the program's Only. -/
namespace Go.Proofs.Ytkcgkfhfogdihaa
open Go.RowKit
set_option maxRecDepth 100000 in
set_option maxHeartbeats 4000000 in
theorem cOnly_any (a : Option Addr) (cap : Nat) (deg : Int) (l : List (Int × Int)) (wrong : Int) (w : World) (hl : l.length ≤ 1000000) (ha : Sigs w a l) :
    Calls Try.prog 36 #[.agg #[.int .i64 deg, .slice a l.length cap], .int .i64 wrong] w fun e w' => ∃ v, e = .returned (.tuple #[v, .int .i64 (R.onlyE deg l wrong).2]) ∧ w'.ownsRow w.heap.size 2 1 v (R.onlyE deg l wrong).1.length ((R.onlyE deg l wrong).1.map (.int .i64)) ∧ Below w.heap.size w w' := by
  have hb0 := Below.new w (.cells #[.int .i64 deg, .slice a l.length cap] 33)
  have HLb := Lib.hid (Logged.new ha deg cap 33)
  have HA := Lib.hid (ha.below hb0)
  have HB := Lib.hid hb0
  clear ha hb0
  by_cases hc : R.checkLog deg l = 0
  · have hv := R.checkLog_zero hc
    obtain ⟨d, rfl⟩ := hv.nat
    have HV := Lib.hid hv
    have HCk := Lib.hid hc
    have h12 := hv.len
    have hd3 := hv.d3
    clear hv hc
    have HOp := Lib.hid (open_ok a cap (d : Int) l _ hl HA.out HCk.out)
    by_cases hr : wrong < 0 ∨ 5 < wrong
    · have HF : Hid (R.onlyE (d : Int) l wrong = ([], 2)) := Lib.hid (by unfold R.onlyE; rw [if_neg (not_not_intro HCk.out), if_pos hr])
      have HIn : Hid ([wrong].all (C.inB 0 5) = false) := Lib.hid (by simp [C.inB]; omega)
      clear hr
      go_enter Try.func36, Try.ntmps36
      go_wp2_with fail
      refine HOp.out.mono ?_
      rintro e w1 ⟨B, rfl, hL1, hb1⟩
      have HB1 := Lib.hid (HB.out.trans (hb1.mono HB.out.size))
      have HW := Lib.hid (within_any (some ⟨w1.heap.size, 0, none⟩) 1 [wrong] 0 5 (w1.alloc (.cells #[.int .i64 wrong] 2)) (by simp) (ints_one (by simp)))
      have HN := Lib.hid (Below.new w1 (.cells #[.int .i64 wrong] 2))
      rw [HIn.out] at HW
      clear hL1 hb1
      go_wp2_with fail
      refine HW.out.mono ?_
      rintro e w2 ⟨rfl, hb2⟩
      go_wp2_with fail
      go_ret2
      exact ⟨_, by rw [HF.out]; first | done | rfl, by rw [HF.out]; exact World.ownsRow_nil _ _ _ _, HB1.out.trans ((HN.out.trans (hb2.mono HN.out.size)).mono HB1.out.size)⟩
    · have HIn : Hid ([wrong].all (C.inB 0 5) = true) := Lib.hid (by simp [C.inB]; omega)
      have HR := Lib.hid hr
      have hr0 : 0 ≤ wrong := by omega
      have hr5 : wrong ≤ 5 := by omega
      clear hr
      go_enter Try.func36, Try.ntmps36
      go_wp2_with fail
      refine HOp.out.mono ?_
      rintro e w1 ⟨B, rfl, hL1, hb1⟩
      have HB1 := Lib.hid (HB.out.trans (hb1.mono HB.out.size))
      have HLb1 := Lib.hid (HLb.out.on hb1)
      have HL1 := Lib.hid hL1
      have HW := Lib.hid (within_any (some ⟨w1.heap.size, 0, none⟩) 1 [wrong] 0 5 (w1.alloc (.cells #[.int .i64 wrong] 2)) (by simp) (ints_one (by simp)))
      have HN := Lib.hid (Below.new w1 (.cells #[.int .i64 wrong] 2))
      rw [HIn.out] at HW
      clear hL1 hb1
      go_wp2_with fail
      refine HW.out.mono ?_
      rintro e w2 ⟨rfl, hb2⟩
      have HB12 := Lib.hid (HN.out.trans (hb2.mono HN.out.size))
      have HLb2 := Lib.hid (HLb1.out.on HB12.out)
      have HL2 := Lib.hid (HL1.out.on HB12.out)
      have HB2 := Lib.hid (HB1.out.trans (HB12.out.mono HB1.out.size))
      clear hb2
      have hx1 := HLb2.out.x1
      have hx2 := HLb2.out.x2
      have k1 : IntKind.i64.wrap ((d : Int) + 1) = (d : Int) + 1 := IntWalk.i64_in _ (by omega)
      have k2 : IntKind.i64.wrap (2 * wrong) = 2 * wrong := IntWalk.i64_in _ (by omega)
      have k3 : IntKind.i64.wrap ((d : Int) + 1 + 2 * wrong) = (d : Int) + 1 + 2 * wrong := IntWalk.i64_in _ (by omega)
      by_cases hp : (l.length : Int) < (d : Int) + 1 + 2 * wrong
      · have HF : Hid (R.onlyE (d : Int) l wrong = ([], 13)) := Lib.hid (by unfold R.onlyE; rw [if_neg (not_not_intro HCk.out), if_neg HR.out, if_pos hp])
        go_wp2_with fail
        go_ret2
        exact ⟨_, by rw [HF.out]; first | done | rfl, by rw [HF.out]; exact World.ownsRow_nil _ _ _ _, HB2.out⟩
      · have HF : Hid (R.onlyE (d : Int) l wrong = R.onlyR (d : Int) l (R.onlyHit (d : Int) l wrong)) := Lib.hid (by unfold R.onlyE; rw [if_neg (not_not_intro HCk.out), if_neg HR.out, if_neg hp])
        have hp' : (d : Int) + 1 + 2 * wrong ≤ (l.length : Int) := by omega
        have HP := Lib.hid hp'
        clear hp
        go_wp2_with fail
        refine (cbest_any B d a cap l w2 HL2.out HV.out).mono ?_
        rintro e w3 ⟨qs, a2, cap2, rfl, htr, hbest, hb3⟩
        have HS := Lib.hid (hbest.same HV.out)
        have HL3 := Lib.hid (HL2.out.on hb3)
        have HLb3 := Lib.hid (HLb2.out.on hb3)
        have HB3 := Lib.hid (HB2.out.trans (hb3.mono HB2.out.size))
        clear hbest hb3 hx1 hx2 k1 k2 k3
        have hx2 := HLb3.out.x2
        by_cases h0 : qs.length = 0
        · have h0' : ((qs.length : Int) == 0) = true := by rw [h0]; rfl
          have HF0 : Hid (R.onlyE (d : Int) l wrong = ([], 23)) := Lib.hid (by
            have hm := (HS.out.nil HV.out).1 (List.eq_nil_of_length_eq_zero h0)
            rw [HF.out, C.onlyR_none HV.out fun q hq => by
              have := C.most_ge HV.out hq
              have := hq.pos HV.out
              omega])
          clear htr h0
          go_wp2_with fail
          go_quiet (fail)
          go_wp2_with fail
          go_ret2
          exact ⟨_, by rw [HF0.out]; first | done | rfl, by rw [HF0.out]; exact World.ownsRow_nil _ _ _ _, bel_drewN HB3.out _⟩
        · have h0' : ((qs.length : Int) == 0) = false := by simp; intro e; exact h0 (by rw [e]; rfl)
          have hpos : 0 < qs.length := by omega
          have hposI : (0 : Int) < ↑qs.length := by omega
          have hq0 : C.row qs 0 ∈ qs := by simp [C.row, hpos]
          have hf := HS.out.found _ hq0
          have hpr := hf.props HV.out
          have hm := HS.out.most _ hq0
          obtain ⟨b2, off2, rfl, hc4⟩ := htr 0 hpos
          have q0 := hc4 0 (by omega)
          have q1 := hc4 1 (by omega)
          have q2 := hc4 2 (by omega)
          have q3 := hc4 3 (by omega)
          simp only [Nat.zero_mul, Nat.add_zero] at q0 q1 q2 q3
          have HNum := Lib.hid (fun W (hW : Below w3.heap.size w3 W) => cnumbers_any B d a cap l (C.row qs 0) W (HL3.out.on hW) (by omega) hpr.1)
          unfold trackV at HNum
          have cOn : ∀ dd os, Calls Try.prog 63 #[.pointer (some ⟨B, 0, none⟩), .agg #[.int .i64 (nth (C.row qs 0) 0), .int .i64 (nth (C.row qs 0) 1), .int .i64 (nth (C.row qs 0) 2), .int .i64 (nth (C.row qs 0) 3)]] (Go.Sort.grow (redrawn w3 dd) os) fun e w'' => e = .returned (.int .i64 (C.onL l (C.row qs 0))) ∧ ∃ p : Regrown, w'' = Go.Sort.grow (redrawn w3 p.d) p.os := fun dd os =>
            Calls.regrown_of (con_any B d a cap l (C.row qs 0) _ (HL3.out.on (below_regrown w3 dd os)) HV.out (by rw [hpr.1]; omega) hpr.2)
          have HQ := Lib.hid (And.intro q0 (And.intro q1 (And.intro q2 q3)))
          have r0 := cell_regrown q0
          have r1 := cell_regrown q1
          have r2 := cell_regrown q2
          have r3 := cell_regrown q3
          have r4 := cell_regrown hx2
          have k4 : IntKind.i64.wrap ((l.length : Int) - wrong) = (l.length : Int) - wrong := IntWalk.i64_in _ (by omega)
          have HH := Lib.hid (And.intro hf hm)
          have HPr := Lib.hid hpr
          clear htr hc4 h0 q0 q1 q2 q3 hx2 hf hm hpr hq0
          by_cases hlt : (C.onL l (C.row qs 0) : Int) < (l.length : Int) - wrong
          · have HF0 : Hid (R.onlyE (d : Int) l wrong = ([], 23)) := Lib.hid (by
              rw [HF.out, C.onlyR_none HV.out fun q hq => by
                have := C.most_ge HV.out hq
                have := HH.out.2
                omega])
            go_wp2_with fail
            refine wp_region_quiet_below (by kernel_rfl) (by kernel_rfl) ?_
            repeat (quiet_step (exact cOn _ _))
            refine wpQuiet_nil ?_
            intro _ hw'
            obtain ⟨⟨dq, osq⟩, hw''⟩ := hw'
            subst hw''
            have HBq := Lib.hid (below_regrown w3 dq osq)
            go_wp2_with fail
            go_ret2
            exact ⟨_, by rw [HF0.out]; first | done | rfl, by rw [HF0.out]; exact World.ownsRow_nil _ _ _ _, HB3.out.trans (HBq.out.mono HB3.out.size)⟩
          · have HF0 : Hid (R.onlyE (d : Int) l wrong = (C.row qs 0, 0)) := Lib.hid (by
              rw [HF.out, C.onlyR_some HV.out HP.out HH.out.1 (by omega)])
            have hlt' : (l.length : Int) - wrong ≤ (C.onL l (C.row qs 0) : Int) := by omega
            clear hlt
            go_wp2_with fail
            refine wp_region_quiet_below (by kernel_rfl) (by kernel_rfl) ?_
            repeat (quiet_step (exact cOn _ _))
            refine wpQuiet_nil ?_
            intro _ hw'
            obtain ⟨⟨dq, osq⟩, hw''⟩ := hw'
            subst hw''
            have HBq := Lib.hid (below_regrown w3 dq osq)
            have HN2 := Lib.hid (HNum.out _ HBq.out)
            go_wp2_with fail
            refine HN2.out.mono ?_
            rintro e w4 ⟨v, rfl, hown, hb4⟩
            have hsz := HBq.out.size
            have hsz3 := HB3.out.size
            go_wp2_with fail
            go_ret2
            exact ⟨_, by rw [HF0.out]; first | done | rfl, by rw [HF0.out]; exact owns_mono hown (by omega), HB3.out.trans ((HBq.out.trans (hb4.mono hsz)).mono hsz3)⟩
  · have HF : Hid (R.onlyE deg l wrong = ([], R.checkLog deg l)) := Lib.hid (by unfold R.onlyE; rw [if_pos hc])
    have hc' : (R.checkLog deg l != 0) = true := by rw [bne_iff_ne]; exact hc
    have HOp := Lib.hid (open_err a cap deg l _ hl HA.out hc)
    clear hc
    go_enter Try.func36, Try.ntmps36
    go_wp2_with fail
    refine HOp.out.mono ?_
    rintro e w1 ⟨rfl, hb1⟩
    go_wp2_with fail
    go_ret2
    exact ⟨_, by rw [HF.out]; first | done | rfl, by rw [HF.out]; exact World.ownsRow_nil _ _ _ _, HB.out.trans (hb1.mono HB.out.size)⟩
end Go.Proofs.Ytkcgkfhfogdihaa
/- Walk of the program's Least. -/
namespace Go.Proofs.Ytkcgkfhfogdihaa
open Go.RowKit
namespace C
theorem iota_nth (m i : Nat) (h : i < m) (h4 : m ≤ 4) : nth (([0, 1, 2, 3] : List Int).take m) i = (i : Int) := by
  rw [nth_take _ _ _ h]
  obtain rfl | rfl | rfl | rfl : i = 0 ∨ i = 1 ∨ i = 2 ∨ i = 3 := by omega
  all_goals rfl
theorem iota_length (m : Nat) (h4 : m ≤ 4) : (([0, 1, 2, 3] : List Int).take m).length = m := by rw [List.length_take]; simp; omega
theorem iota_ord (n m : Nat) (h : m ≤ n) (h4 : m ≤ 4) : R.Ord n (([0, 1, 2, 3] : List Int).take m) := fun i hi => by
  rw [iota_length m h4] at hi
  rw [iota_nth m i hi h4]
  refine ⟨by omega, by omega, fun h0 => ?_⟩
  rw [iota_nth m (i - 1) (by omega) h4]; omega
theorem sel_iota (l : List (Int × Int)) (m : Nat) (h : m ≤ l.length) (h4 : m ≤ 4) : R.sel l (([0, 1, 2, 3] : List Int).take m) = l.take m := by
  rw [sel_map]
  apply List.ext_getElem
  · rw [List.length_map, iota_length m h4, List.length_take]; omega
  · intro i h1 h2
    rw [List.length_map, iota_length m h4] at h1
    have e := iota_nth m i h1 h4
    rw [nth_eq _ _ (by rw [iota_length m h4]; exact h1)] at e
    rw [List.getElem_map, e, List.getElem_take]
    simp [sigOf, dayN, plcN, show i < l.length by omega]
end C
/-- The world of a round of Least: the sheet's degree is k. -/
structure LeastI (w : World) (B : Nat) (a : Option Addr) (cap : Nat) (l : List (Int × Int)) (k : Nat) (wi : World) : Prop where
  x0 : wi.cell? ⟨B, 0, none⟩ = some (.int .i64 k)
  x1 : wi.cell? ⟨B, 1, none⟩ = some (.slice a l.length cap)
  fz : wi.frozen? ⟨B, 0, none⟩ = false
  bx : wi.cell? ⟨w.heap.size, 1, none⟩ = some (.slice a l.length cap)
  bel : Below w.heap.size w wi
theorem LeastI.below {w wi wi' : World} {B : Nat} {a : Option Addr} {cap : Nat} {l : List (Int × Int)} {k : Nat} (h : LeastI w B a cap l k wi) (hb : Below wi.heap.size wi wi') : LeastI w B a cap l k wi' :=
  ⟨cell_on hb h.x0, cell_on hb h.x1, by rw [hb.frozen (World.block_lt_of_cell? wi _ h.x0)]; exact h.fz, cell_on hb h.bx, h.bel.trans (hb.mono h.bel.size)⟩
theorem LeastI.set {w wi : World} {B : Nat} {a : Option Addr} {cap : Nat} {l : List (Int × Int)} {k : Nat} (h : LeastI w B a cap l k wi) (hB : w.heap.size < B) (k' : Nat) : LeastI w B a cap l k' (wi.setCell ⟨B, 0, none⟩ (.int .i64 k')) :=
  ⟨World.cell?_setCell_same _ _ _ h.x0, by rw [World.cell?_setCell_other _ _ _ _ (by simp)]; exact h.x1, by rw [World.frozen?_setCell]; exact h.fz,
    by rw [World.cell?_setCell_other _ _ _ _ (by simp)]; exact h.bx, h.bel.setCell (p := ⟨B, 0, none⟩) (Nat.le_of_lt hB) _⟩
theorem LeastI.logged {w wi : World} {B : Nat} {a : Option Addr} {cap : Nat} {l : List (Int × Int)} {k : Nat} (h : LeastI w B a cap l k wi) (ha : Sigs w a l) : Logged wi B (k : Int) a cap l := ⟨h.x0, h.x1, ha.below h.bel⟩
/-- A cell's number. -/
def numAt (w : World) (B : Nat) : Nat := match w.cell? ⟨B, 0, none⟩ with | some v => (intOf v).toNat | none => 0
theorem LeastI.num {w wi : World} {B : Nat} {a : Option Addr} {cap : Nat} {l : List (Int × Int)} {k : Nat} (h : LeastI w B a cap l k wi) : numAt wi B = k := by
  unfold numAt; rw [h.x0]; simp [intOf]
set_option maxRecDepth 100000 in
set_option maxHeartbeats 1000000 in
theorem open_new (a : Option Addr) (cap : Nat) (deg : Int) (l : List (Int × Int)) (w : World) (hl : l.length ≤ 1000000) (ha : Sigs w a l) (hc : R.checkLog deg l = 0) :
    Calls Try.prog 58 #[.agg #[.int .i64 deg, .slice a l.length cap]] w fun e w' => ∃ B, e = .returned (.tuple #[.pointer (some ⟨B, 0, none⟩), .int .i64 0]) ∧ Logged w' B deg a cap l ∧ Below w.heap.size w w' ∧ w.heap.size ≤ B ∧ w'.frozen? ⟨B, 0, none⟩ = false := by
  have hb0 := Lib.hid (Below.new w (.cells #[.int .i64 deg, .slice a l.length cap] 33))
  have HL0 := Lib.hid (Logged.new ha deg cap 33)
  have HC := Lib.hid (fun W hW => cCheckLog_any a cap deg l W hl hW)
  rw [hc] at HC
  clear ha hc
  go_enter Try.func58, Try.ntmps58
  go_wp2_with fail
  refine (HC.out _ HL0.out.sig).mono ?_
  rintro e w1 ⟨rfl, hb1⟩
  have HL1 := Lib.hid (HL0.out.on hb1)
  have HBel := Lib.hid (hb0.out.trans (hb1.mono (by simp)))
  have hx1 := HL1.out.x1
  have hx2 := HL1.out.x2
  have hsz := HBel.out.size
  clear hb1
  go_wp2_with fail
  go_ret2
  exact ⟨_, rfl, Logged.new HL1.out.sig deg cap 97, HBel.out.alloc hsz _, hsz, by simp⟩
theorem R.Valid.deg {d : Int} {l : List (Int × Int)} (h : R.Valid d l) (k : Nat) (hk : k ≤ 3) : R.Valid (k : Int) l := by
  have := h.d0
  exact { h with d0 := by omega, d3 := by omega }
theorem hitD_none {l : List (Int × Int)} {k : Nat} (h : R.pass (l.take (k + 1)) = none) : R.hitD l k = false := by unfold R.hitD; rw [h]
theorem hitD_some {l : List (Int × Int)} {k : Nat} {p : List Int} (h : R.pass (l.take (k + 1)) = some p) (h12 : l.length ≤ 12) : R.hitD l k = (C.onL l p == l.length) := by unfold R.hitD; rw [h]; simp only [C.onL_size h12]
set_option maxRecDepth 100000 in
set_option maxHeartbeats 4000000 in
theorem cLeast_any (a : Option Addr) (cap : Nat) (deg : Int) (l : List (Int × Int)) (w : World) (hl : l.length ≤ 1000000) (ha : Sigs w a l) :
    Calls Try.prog 38 #[.agg #[.int .i64 deg, .slice a l.length cap]] w fun e w' => e = .returned (.tuple #[.int .i64 (R.leastE deg l).1, .int .i64 (R.leastE deg l).2]) ∧ Below w.heap.size w w' := by
  have hb0 := Below.new w (.cells #[.int .i64 deg, .slice a l.length cap] 33)
  have HLb := Lib.hid (Logged.new ha deg cap 33)
  have HA0 := Lib.hid ha
  have HA := Lib.hid (ha.below hb0)
  have HB := Lib.hid hb0
  clear ha hb0
  by_cases hc : R.checkLog deg l = 0
  · have hv := R.checkLog_zero hc
    obtain ⟨d, rfl⟩ := hv.nat
    have HV := Lib.hid hv
    have HCk := Lib.hid hc
    have h12 := hv.len
    have hd3 := hv.d3
    clear hv hc
    have HOp := Lib.hid (open_new a cap (d : Int) l _ hl HA.out HCk.out)
    by_cases h0 : l.length = 0
    · have HF : Hid (R.leastE (d : Int) l = (0, 0)) := Lib.hid (by unfold R.leastE; rw [if_neg (not_not_intro HCk.out), if_pos h0])
      have h0' : ((l.length : Int) == 0) = true := by rw [h0]; rfl
      clear h0
      go_enter Try.func38, Try.ntmps38
      go_wp2_with fail
      refine HOp.out.mono ?_
      rintro e w1 ⟨B, rfl, hL1, hb1, hB, hfz⟩
      have HLb1 := Lib.hid (HLb.out.on hb1)
      have hx2 := HLb1.out.x2
      go_wp2_with fail
      go_ret2
      exact ⟨by rw [HF.out]; first | done | rfl, HB.out.trans (hb1.mono HB.out.size)⟩
    · have HF : Hid (R.leastE (d : Int) l = R.leastR (R.leastTo l 4)) := Lib.hid (by unfold R.leastE; rw [if_neg (not_not_intro HCk.out), if_neg h0])
      have h0' : ((l.length : Int) == 0) = false := by simp; intro e; exact h0 (by rw [e]; rfl)
      have hpos : 0 < l.length := by omega
      clear h0
      go_enter Try.func38, Try.ntmps38
      go_wp2_with fail
      refine HOp.out.mono ?_
      rintro e w1 ⟨B, rfl, hL1, hb1, hB, hfz⟩
      have HLb1 := Lib.hid (HLb.out.on hb1)
      have hB' : w.heap.size < B := by simp at hB; omega
      have HI := Lib.hid (LeastI.set (k := d) ⟨hL1.x1, hL1.x2, hfz, HLb1.out.x2, HB.out.trans (hb1.mono HB.out.size)⟩ hB' 0)
      have hx2 := HLb1.out.x2
      have hx1 := hL1.x1
      clear hL1 hb1 hB
      go_wp2_with fail
      clear hx2 hfz hx1
      go_loopw [7] (fun _ wi => ∃ k : Nat, k ≤ 4 ∧ Hid (R.leastTo l k = none) ∧ Hid (LeastI w B a cap l k wi)) (fun _ wi => 4 - numAt wi B)
      case atStart => exact ⟨0, by omega, Lib.hid rfl, HI⟩
      case round =>
        obtain ⟨k, hk, HN, HI⟩ := hrel
        have HNum := Lib.hid HI.out.num
        have hBl := World.block_lt_of_cell? _ _ HI.out.x0
        have hwl := World.block_lt_of_cell? _ _ HI.out.bx
        simp only at hBl hwl
        have r0 := cell_regrown HI.out.x0
        have rb := cell_regrown HI.out.bx
        by_cases hlt : k ≤ 3 ∧ k < l.length
        · obtain ⟨h3, hn⟩ := hlt
          have h3I : (k : Int) ≤ 3 := by omega
          have hnI : (k : Int) < ↑l.length := by omega
          go_wp2_with fail
          refine wp_region_quiet_below (by kernel_rfl) (by kernel_rfl) ?_
          repeat (quiet_step (fail))
          refine wpQuiet_nil ?_
          intro W0 hw'
          have hb0 : Below wr.heap.size wr W0 := by obtain ⟨⟨dq, osq⟩, hw''⟩ := hw'; rw [hw'']; exact below_regrown wr dq osq
          clear hw' r0 rb
          have HI0 := Lib.hid (HI.out.below hb0)
          have hx0 := HI0.out.x0
          have hsz0 := hb0.size
          have hB0 : B < W0.heap.size := by omega
          have hw0 : w.heap.size < W0.heap.size := by omega
          have hbi := Below.new W0 (.cells #[.int .i64 0, .int .i64 1, .int .i64 2, .int .i64 3] 3)
          have HI1 := Lib.hid (HI0.out.below hbi)
          have HP := Lib.hid (R.take_piece HV.out (k := k + 1) (by omega))
          have hth := through_any B (k : Int) a cap l (some ⟨W0.heap.size, 0, none⟩) 4 (([0, 1, 2, 3] : List Int).take (k + 1)) (W0.alloc (.cells #[.int .i64 0, .int .i64 1, .int .i64 2, .int .i64 3] 3)) (HI1.out.logged HA0.out) (HV.out.deg k h3)
            (fun i hi => by
              rw [C.iota_length _ (by omega)] at hi
              refine ⟨W0.heap.size, 0, rfl, ?_⟩
              rw [C.iota_nth _ _ hi (by omega)]
              obtain rfl | rfl | rfl | rfl : i = 0 ∨ i = 1 ∨ i = 2 ∨ i = 3 := by omega
              all_goals simp)
            (C.iota_ord _ _ (by omega) (by omega)) (by rw [C.iota_length _ (by omega)]; omega) (by rw [C.iota_length _ (by omega)]; omega)
          rw [C.iota_length _ (by omega), C.sel_iota _ _ (by omega) (by omega), C.out_pass HP.out] at hth
          have k1 : IntKind.i64.wrap ((k : Int) + 1) = (k : Int) + 1 := IntWalk.i64_in _ (by omega)
          have k2 : (0 : Int) ≤ (k : Int) + 1 := by omega
          have k3 : (k : Int) + 1 ≤ 4 := by omega
          have k4 : ((k : Int) + 1).toNat = k + 1 := by omega
          have k5 : k + 1 ≤ 4 := by omega
          have HB1 := Lib.hid (hb0.trans (hbi.mono hsz0))
          have HTo := Lib.hid (R.leastTo_succ l k)
          cases hp : R.pass (l.take (k + 1)) with
          | none =>
            rw [hp] at hth
            have HTh : Hid (Calls Try.prog 59 #[.pointer (some ⟨B, 0, none⟩), .slice (some ⟨W0.heap.size, 0, none⟩) (k + 1) 4] (W0.alloc (.cells #[.int .i64 0, .int .i64 1, .int .i64 2, .int .i64 3] 3)) fun e w' => e = .returned (.tuple #[.agg #[.int .i64 0, .int .i64 0, .int .i64 0, .int .i64 0], .bool false]) ∧ Below (W0.alloc (.cells #[.int .i64 0, .int .i64 1, .int .i64 2, .int .i64 3] 3)).heap.size (W0.alloc (.cells #[.int .i64 0, .int .i64 1, .int .i64 2, .int .i64 3] 3)) w') := Lib.hid hth
            have HTn : Hid (R.leastTo l (k + 1) = none) := Lib.hid (by rw [HTo.out, HN.out]; simp only [hitD_none hp]; simp)
            clear hth hp hbi hb0
            go_wp2_with fail
            refine HTh.out.mono ?_
            rintro e w2 ⟨rfl, hb2⟩
            have HI2 := Lib.hid (HI1.out.below hb2)
            clear hb2
            have HI3 := Lib.hid (HI2.out.below (Below.new w2 (.cells #[.int .i64 0, .int .i64 0, .int .i64 0, .int .i64 0] 76)))
            go_wp2_with fail
            obtain ⟨W3, hW3⟩ : ∃ W3, w2.alloc (.cells #[.int .i64 0, .int .i64 0, .int .i64 0, .int .i64 0] 76) = W3 := ⟨_, rfl⟩
            rw [hW3] at HI3 ⊢
            clear hW3
            refine wp_region_quiet_below (by kernel_rfl) (by kernel_rfl) ?_
            repeat (quiet_step (fail))
            refine wpQuiet_nil ?_
            intro W4 hw'
            have hb4 : Below W3.heap.size W3 W4 := by obtain ⟨⟨dq, osq⟩, hw''⟩ := hw'; rw [hw'']; exact below_regrown W3 dq osq
            clear hw'
            have HI4 := Lib.hid (HI3.out.below hb4)
            clear hb4 hx0
            have hx0 := HI4.out.x0
            have hfz := HI4.out.fz
            have HI5 := Lib.hid (HI4.out.set hB' (k + 1))
            go_wp2_with fail
            go_roundw
            case rel => exact ⟨k + 1, by omega, HTn, by have := HI5; rw [Int.natCast_add] at this; exact this⟩
            case measure =>
              have := HI5.out.num
              rw [Int.natCast_add] at this
              rw [HNum.out]
              simp only [Int.natCast_one] at this
              rw [this]; omega
          | some p =>
            rw [hp] at hth
            obtain ⟨hpl, -, hpn⟩ := HP.out.pass_some hp
            rw [List.length_take] at hpl
            have hp4 : p.length ≤ 4 := by omega
            have HTh : Hid (Calls Try.prog 59 #[.pointer (some ⟨B, 0, none⟩), .slice (some ⟨W0.heap.size, 0, none⟩) (k + 1) 4] (W0.alloc (.cells #[.int .i64 0, .int .i64 1, .int .i64 2, .int .i64 3] 3)) fun e w' => e = .returned (.tuple #[.agg #[.int .i64 (nth p 0), .int .i64 (nth p 1), .int .i64 (nth p 2), .int .i64 (nth p 3)], .bool true]) ∧ Below (W0.alloc (.cells #[.int .i64 0, .int .i64 1, .int .i64 2, .int .i64 3] 3)).heap.size (W0.alloc (.cells #[.int .i64 0, .int .i64 1, .int .i64 2, .int .i64 3] 3)) w') := Lib.hid hth
            have HHit := Lib.hid (hitD_some hp h12)
            have HPn := Lib.hid hpn
            have HCall := Lib.hid (fun W (hW : LeastI w B a cap l k W) => con_any B (k : Int) a cap l p W (hW.logged HA0.out) (HV.out.deg k h3) hp4 HPn.out)
            unfold trackV at HCall
            clear hth hp hbi hb0 hpl hpn
            go_wp2_with fail
            refine HTh.out.mono ?_
            rintro e w2 ⟨rfl, hb2⟩
            have HI2 := Lib.hid (HI1.out.below hb2)
            clear hb2
            have HI3 := Lib.hid (HI2.out.below (Below.new w2 (.cells #[.int .i64 (nth p 0), .int .i64 (nth p 1), .int .i64 (nth p 2), .int .i64 (nth p 3)] 76)))
            go_wp2_with fail
            have p0 : (w2.alloc (.cells #[.int .i64 (nth p 0), .int .i64 (nth p 1), .int .i64 (nth p 2), .int .i64 (nth p 3)] 76)).cell? ⟨w2.heap.size, 0, none⟩ = some (.int .i64 (nth p 0)) := by simp
            have p1 : (w2.alloc (.cells #[.int .i64 (nth p 0), .int .i64 (nth p 1), .int .i64 (nth p 2), .int .i64 (nth p 3)] 76)).cell? ⟨w2.heap.size, 1, none⟩ = some (.int .i64 (nth p 1)) := by simp
            have p2 : (w2.alloc (.cells #[.int .i64 (nth p 0), .int .i64 (nth p 1), .int .i64 (nth p 2), .int .i64 (nth p 3)] 76)).cell? ⟨w2.heap.size, 2, none⟩ = some (.int .i64 (nth p 2)) := by simp
            have p3 : (w2.alloc (.cells #[.int .i64 (nth p 0), .int .i64 (nth p 1), .int .i64 (nth p 2), .int .i64 (nth p 3)] 76)).cell? ⟨w2.heap.size, 3, none⟩ = some (.int .i64 (nth p 3)) := by simp
            obtain ⟨W3, hW3⟩ : ∃ W3, w2.alloc (.cells #[.int .i64 (nth p 0), .int .i64 (nth p 1), .int .i64 (nth p 2), .int .i64 (nth p 3)] 76) = W3 := ⟨_, rfl⟩
            rw [hW3] at HI3 p0 p1 p2 p3 ⊢
            clear hW3
            have r0 := cell_regrown p0
            have r1 := cell_regrown p1
            have r2 := cell_regrown p2
            have r3 := cell_regrown p3
            have r4 := cell_regrown HI3.out.bx
            have cOn : ∀ dd os, Calls Try.prog 63 #[.pointer (some ⟨B, 0, none⟩), .agg #[.int .i64 (nth p 0), .int .i64 (nth p 1), .int .i64 (nth p 2), .int .i64 (nth p 3)]] (Go.Sort.grow (redrawn W3 dd) os) fun e w'' => e = .returned (.int .i64 (C.onL l p)) ∧ ∃ p : Regrown, w'' = Go.Sort.grow (redrawn W3 p.d) p.os := fun dd os =>
              Calls.regrown_of (HCall.out _ (HI3.out.below (below_regrown W3 dd os)))
            clear p0 p1 p2 p3 hx0
            cases he : ((C.onL l p : Int) == (l.length : Int)) with
            | true =>
              have HTs : Hid (R.leastE (d : Int) l = ((k : Int), 0)) := Lib.hid (by
                have h1 : R.leastTo l (k + 1) = some k := by
                  rw [HTo.out, HN.out]
                  have : R.hitD l k = true := by rw [HHit.out, beq_iff_eq]; have := eq_of_beq he; omega
                  simp [hn, this]
                have h2 := R.leastTo_stays h1 (3 - k)
                rw [show k + 1 + (3 - k) = 4 by omega] at h2
                rw [HF.out, h2]; rfl)
              refine wp_region_quiet_below (by kernel_rfl) (by kernel_rfl) ?_
              repeat (quiet_step (exact cOn _ _))
              refine wpQuiet_nil ?_
              intro W4 hw'
              have hb4 : Below W3.heap.size W3 W4 := by obtain ⟨⟨dq, osq⟩, hw''⟩ := hw'; rw [hw'']; exact below_regrown W3 dq osq
              clear hw' r0 r1 r2 r3 r4 cOn
              have HI4 := Lib.hid (HI3.out.below hb4)
              clear hb4
              have hx0 := HI4.out.x0
              go_wp2_with fail
              go_ret2
              exact ⟨by rw [HTs.out]; first | done | rfl, HI4.out.bel⟩
            | false =>
              have HTn : Hid (R.leastTo l (k + 1) = none) := Lib.hid (by
                rw [HTo.out, HN.out]
                have : R.hitD l k = false := by
                  rw [HHit.out]; cases hb : (C.onL l p == l.length) with
                  | false => rfl
                  | true => rw [eq_of_beq hb] at he; simp at he
                simp [this])
              refine wp_region_quiet_below (by kernel_rfl) (by kernel_rfl) ?_
              repeat (quiet_step (exact cOn _ _))
              refine wpQuiet_nil ?_
              intro W4 hw'
              have hb4 : Below W3.heap.size W3 W4 := by obtain ⟨⟨dq, osq⟩, hw''⟩ := hw'; rw [hw'']; exact below_regrown W3 dq osq
              clear hw' r0 r1 r2 r3 r4 cOn
              have HI4 := Lib.hid (HI3.out.below hb4)
              clear hb4
              have hx0 := HI4.out.x0
              have hfz := HI4.out.fz
              have HI5 := Lib.hid (HI4.out.set hB' (k + 1))
              go_wp2_with fail
              go_roundw
              case rel => exact ⟨k + 1, by omega, HTn, by have := HI5; rw [Int.natCast_add] at this; exact this⟩
              case measure =>
                have := HI5.out.num
                rw [Int.natCast_add] at this
                rw [HNum.out]
                simp only [Int.natCast_one] at this
                rw [this]; omega
        · have HFe : Hid (R.leastE (d : Int) l = (0, 23)) := Lib.hid (by
            have h2 : R.leastTo l 4 = none := by
              by_cases h4 : k = 4
              · rw [← h4]; exact HN.out
              · have := R.leastTo_end HN.out (by omega) (4 - k)
                rw [show k + (4 - k) = 4 by omega] at this; exact this
            rw [HF.out, h2]; rfl)
          have HBw := Lib.hid HI.out.bel
          by_cases h3 : k ≤ 3
          · have h3I : (k : Int) ≤ 3 := by omega
            have hnI : (l.length : Int) ≤ (k : Int) := by omega
            clear hlt
            go_wp2_with fail
            refine wp_region_quiet_below (by kernel_rfl) (by kernel_rfl) ?_
            repeat (quiet_step (fail))
            refine wpQuiet_nil ?_
            intro W0 hw'
            have hb0 : Below wr.heap.size wr W0 := by obtain ⟨⟨dq, osq⟩, hw''⟩ := hw'; rw [hw'']; exact below_regrown wr dq osq
            have HBw2 := Lib.hid (HBw.out.trans (hb0.mono HBw.out.size))
            clear hw' r0 rb hb0
            go_wp2_with fail
            go_ret2
            exact ⟨by rw [HFe.out]; first | done | rfl, HBw2.out⟩
          · obtain rfl : k = 4 := by omega
            clear hlt h3
            have hx0 := HI.out.x0
            clear r0 rb
            go_wp2_with fail
            go_quiet (fail)
            go_wp2_with fail
            go_ret2
            exact ⟨by rw [HFe.out]; first | done | rfl, bel_drewN HBw.out _⟩
  · have HF : Hid (R.leastE deg l = (0, R.checkLog deg l)) := Lib.hid (by unfold R.leastE; rw [if_pos hc])
    have hc' : (R.checkLog deg l != 0) = true := by rw [bne_iff_ne]; exact hc
    have HOp := Lib.hid (open_err a cap deg l _ hl HA.out hc)
    clear hc
    go_enter Try.func38, Try.ntmps38
    go_wp2_with fail
    refine HOp.out.mono ?_
    rintro e w1 ⟨rfl, hb1⟩
    go_wp2_with fail
    go_ret2
    exact ⟨by rw [HF.out]; first | done | rfl, HB.out.trans (hb1.mono HB.out.size)⟩
end Go.Proofs.Ytkcgkfhfogdihaa
/- Walks of the logs of the examples, and of Works. -/
namespace Go.Proofs.Ytkcgkfhfogdihaa
open Go.RowKit
theorem ints_new (w : World) (c : Array Value) (t : TypeId) (xs : List Int) (h : c.toList = xs.map (Value.int .i64)) : Ints .i64 (w.alloc (.cells c t)) (some ⟨w.heap.size, 0, none⟩) xs := fun i hi => by
  refine ⟨w.heap.size, 0, rfl, ?_⟩
  have := news_new w c t i (.int .i64 (nth xs i)) (by rw [h]; simp [nth, hi])
  rw [addr_add, Nat.zero_add] at this
  rw [Nat.zero_add]; exact this
set_option maxRecDepth 100000 in
set_option maxHeartbeats 1000000 in
theorem straight_any (w : World) : Calls Try.prog 49 #[] w fun e w' => ∃ a cap, e = .returned (.agg #[.int .i64 1, .slice a 5 cap]) ∧ 5 ≤ cap ∧ Sigs w' a exL ∧ (∀ b off, a = some ⟨b, off, none⟩ → w.heap.size ≤ b) ∧ Below w.heap.size w w' := by
  have HB := Lib.hid ((Below.new w (.cells #[.int .i64 0, .slice none 0 0] 33)).alloc (by simp) (.cells #[.int .i64 0, .int .i64 1, .int .i64 1, .int .i64 3, .int .i64 2, .int .i64 5, .int .i64 3, .int .i64 8, .int .i64 5, .int .i64 11] 2))
  have hI : Ints .i64 ((w.alloc (.cells #[.int .i64 0, .slice none 0 0] 33)).alloc (.cells #[.int .i64 0, .int .i64 1, .int .i64 1, .int .i64 3, .int .i64 2, .int .i64 5, .int .i64 3, .int .i64 8, .int .i64 5, .int .i64 11] 2)) (some ⟨w.heap.size + 1, 0, none⟩) [0, 1, 1, 3, 2, 5, 3, 8, 5, 11] := by have := ints_new (w.alloc (.cells #[.int .i64 0, .slice none 0 0] 33)) #[.int .i64 0, .int .i64 1, .int .i64 1, .int .i64 3, .int .i64 2, .int .i64 5, .int .i64 3, .int .i64 8, .int .i64 5, .int .i64 11] 2 [0, 1, 1, 3, 2, 5, 3, 8, 5, 11] rfl; rw [World.size_alloc] at this; exact this
  have z0 : ((w.alloc (.cells #[.int .i64 0, .slice none 0 0] 33)).alloc (.cells #[.int .i64 0, .int .i64 1, .int .i64 1, .int .i64 3, .int .i64 2, .int .i64 5, .int .i64 3, .int .i64 8, .int .i64 5, .int .i64 11] 2)).cell? ⟨w.heap.size, 0, none⟩ = some (.int .i64 0) := by simp
  have z1 : ((w.alloc (.cells #[.int .i64 0, .slice none 0 0] 33)).alloc (.cells #[.int .i64 0, .int .i64 1, .int .i64 1, .int .i64 3, .int .i64 2, .int .i64 5, .int .i64 3, .int .i64 8, .int .i64 5, .int .i64 11] 2)).cell? ⟨w.heap.size, 1, none⟩ = some (.slice none 0 0) := by simp
  have y0 : ((w.alloc (.cells #[.int .i64 0, .slice none 0 0] 33)).alloc (.cells #[.int .i64 0, .int .i64 1, .int .i64 1, .int .i64 3, .int .i64 2, .int .i64 5, .int .i64 3, .int .i64 8, .int .i64 5, .int .i64 11] 2)).frozen? ⟨w.heap.size, 0, none⟩ = false := by simp
  have y1 : ((w.alloc (.cells #[.int .i64 0, .slice none 0 0] 33)).alloc (.cells #[.int .i64 0, .int .i64 1, .int .i64 1, .int .i64 3, .int .i64 2, .int .i64 5, .int .i64 3, .int .i64 8, .int .i64 5, .int .i64 11] 2)).frozen? ⟨w.heap.size, 1, none⟩ = false := by simp
  have hsz : w.heap.size < ((w.alloc (.cells #[.int .i64 0, .slice none 0 0] 33)).alloc (.cells #[.int .i64 0, .int .i64 1, .int .i64 1, .int .i64 3, .int .i64 2, .int .i64 5, .int .i64 3, .int .i64 8, .int .i64 5, .int .i64 11] 2)).heap.size := by simp; omega
  have HC := Lib.hid (log_any 1 _ 10 [0, 1, 1, 3, 2, 5, 3, 8, 5, 11] ((w.alloc (.cells #[.int .i64 0, .slice none 0 0] 33)).alloc (.cells #[.int .i64 0, .int .i64 1, .int .i64 1, .int .i64 3, .int .i64 2, .int .i64 5, .int .i64 3, .int .i64 8, .int .i64 5, .int .i64 11] 2)) (by simp) hI)
  have HZ := Lib.hid (And.intro (And.intro z0 z1) (And.intro y0 y1))
  have HS := Lib.hid hsz
  clear hI z0 z1 y0 y1 hsz
  go_enter Try.func49, Try.ntmps49
  go_wp2_with fail
  refine HC.out.mono ?_
  rintro e w2 ⟨v, rfl, hown, hb2⟩
  have z0 := cell_on hb2 HZ.out.1.1
  have z1 := cell_on hb2 HZ.out.1.2
  have y0 : w2.frozen? ⟨w.heap.size, 0, none⟩ = false := by rw [hb2.frozen (p := ⟨w.heap.size, 0, none⟩) HS.out]; exact HZ.out.2.1
  have y1 : w2.frozen? ⟨w.heap.size, 1, none⟩ = false := by rw [hb2.frozen (p := ⟨w.heap.size, 1, none⟩) HS.out]; exact HZ.out.2.2
  have hown : w2.ownsRow _ 57 2 v 5 (flat exL) := hown
  obtain ⟨-, a, cap, rfl, -, hcap⟩ := Sigs.of_ownsRow hown
  have HOwn := Lib.hid (owns_mono hown (Nat.succ_le_of_lt HS.out))
  have HB2 := Lib.hid (HB.out.trans (hb2.mono HB.out.size))
  clear hown hb2
  go_wp2_with fail
  have e0 : ((w2.setCell ⟨w.heap.size, 0, none⟩ (.int .i64 1)).setCell ⟨w.heap.size, 1, none⟩ (.slice a 5 cap)).cell? ⟨w.heap.size, 0, none⟩ = some (.int .i64 1) := by
    rw [World.cell?_setCell_other _ _ _ _ (by simp)]; exact World.cell?_setCell_same _ _ _ z0
  have e1 : ((w2.setCell ⟨w.heap.size, 0, none⟩ (.int .i64 1)).setCell ⟨w.heap.size, 1, none⟩ (.slice a 5 cap)).cell? ⟨w.heap.size, 1, none⟩ = some (.slice a 5 cap) :=
    World.cell?_setCell_same _ _ _ ((World.cell?_setCell_other _ _ _ _ (by simp)).trans z1)
  have own := ownsRow_setCell_below (ownsRow_setCell_below HOwn.out (a := ⟨w.heap.size, 0, none⟩) (by simp) (.int .i64 1)) (a := ⟨w.heap.size, 1, none⟩) (by simp) (.slice a 5 cap)
  have bel := (HB2.out.setCell (p := ⟨w.heap.size, 0, none⟩) (by simp) (.int .i64 1)).setCell (p := ⟨w.heap.size, 1, none⟩) (by simp) (.slice a 5 cap)
  generalize ((w2.setCell ⟨w.heap.size, 0, none⟩ (.int .i64 1)).setCell ⟨w.heap.size, 1, none⟩ (.slice a 5 cap)) = W at *
  obtain ⟨-, a', cap', e', hsig, -⟩ := Sigs.of_ownsRow own
  cases e'
  exact bodyPost_ret (v := .agg #[.int .i64 1, .slice a 5 cap]) (by simp [results, Try.results49, go_sem, e0, e1]) rfl ⟨_, _, rfl, hcap, hsig, fun b off e => by subst e; have := (own.lt b rfl).1; omega, bel⟩
set_option maxRecDepth 100000 in
set_option maxHeartbeats 1000000 in
theorem half_any (w : World) : Calls Try.prog 53 #[] w fun e w' => ∃ a cap, e = .returned (.agg #[.int .i64 1, .slice a 2 cap]) ∧ 2 ≤ cap ∧ Sigs w' a exM ∧ (∀ b off, a = some ⟨b, off, none⟩ → w.heap.size ≤ b) ∧ Below w.heap.size w w' := by
  have HB := Lib.hid ((Below.new w (.cells #[.int .i64 0, .slice none 0 0] 33)).alloc (by simp) (.cells #[.int .i64 0, .int .i64 0, .int .i64 2, .int .i64 1] 2))
  have hI : Ints .i64 ((w.alloc (.cells #[.int .i64 0, .slice none 0 0] 33)).alloc (.cells #[.int .i64 0, .int .i64 0, .int .i64 2, .int .i64 1] 2)) (some ⟨w.heap.size + 1, 0, none⟩) [0, 0, 2, 1] := by have := ints_new (w.alloc (.cells #[.int .i64 0, .slice none 0 0] 33)) #[.int .i64 0, .int .i64 0, .int .i64 2, .int .i64 1] 2 [0, 0, 2, 1] rfl; rw [World.size_alloc] at this; exact this
  have z0 : ((w.alloc (.cells #[.int .i64 0, .slice none 0 0] 33)).alloc (.cells #[.int .i64 0, .int .i64 0, .int .i64 2, .int .i64 1] 2)).cell? ⟨w.heap.size, 0, none⟩ = some (.int .i64 0) := by simp
  have z1 : ((w.alloc (.cells #[.int .i64 0, .slice none 0 0] 33)).alloc (.cells #[.int .i64 0, .int .i64 0, .int .i64 2, .int .i64 1] 2)).cell? ⟨w.heap.size, 1, none⟩ = some (.slice none 0 0) := by simp
  have y0 : ((w.alloc (.cells #[.int .i64 0, .slice none 0 0] 33)).alloc (.cells #[.int .i64 0, .int .i64 0, .int .i64 2, .int .i64 1] 2)).frozen? ⟨w.heap.size, 0, none⟩ = false := by simp
  have y1 : ((w.alloc (.cells #[.int .i64 0, .slice none 0 0] 33)).alloc (.cells #[.int .i64 0, .int .i64 0, .int .i64 2, .int .i64 1] 2)).frozen? ⟨w.heap.size, 1, none⟩ = false := by simp
  have hsz : w.heap.size < ((w.alloc (.cells #[.int .i64 0, .slice none 0 0] 33)).alloc (.cells #[.int .i64 0, .int .i64 0, .int .i64 2, .int .i64 1] 2)).heap.size := by simp; omega
  have HC := Lib.hid (log_any 1 _ 4 [0, 0, 2, 1] ((w.alloc (.cells #[.int .i64 0, .slice none 0 0] 33)).alloc (.cells #[.int .i64 0, .int .i64 0, .int .i64 2, .int .i64 1] 2)) (by simp) hI)
  have HZ := Lib.hid (And.intro (And.intro z0 z1) (And.intro y0 y1))
  have HS := Lib.hid hsz
  clear hI z0 z1 y0 y1 hsz
  go_enter Try.func53, Try.ntmps53
  go_wp2_with fail
  refine HC.out.mono ?_
  rintro e w2 ⟨v, rfl, hown, hb2⟩
  have z0 := cell_on hb2 HZ.out.1.1
  have z1 := cell_on hb2 HZ.out.1.2
  have y0 : w2.frozen? ⟨w.heap.size, 0, none⟩ = false := by rw [hb2.frozen (p := ⟨w.heap.size, 0, none⟩) HS.out]; exact HZ.out.2.1
  have y1 : w2.frozen? ⟨w.heap.size, 1, none⟩ = false := by rw [hb2.frozen (p := ⟨w.heap.size, 1, none⟩) HS.out]; exact HZ.out.2.2
  have hown : w2.ownsRow _ 57 2 v 2 (flat exM) := hown
  obtain ⟨-, a, cap, rfl, -, hcap⟩ := Sigs.of_ownsRow hown
  have HOwn := Lib.hid (owns_mono hown (Nat.succ_le_of_lt HS.out))
  have HB2 := Lib.hid (HB.out.trans (hb2.mono HB.out.size))
  clear hown hb2
  go_wp2_with fail
  have e0 : ((w2.setCell ⟨w.heap.size, 0, none⟩ (.int .i64 1)).setCell ⟨w.heap.size, 1, none⟩ (.slice a 2 cap)).cell? ⟨w.heap.size, 0, none⟩ = some (.int .i64 1) := by
    rw [World.cell?_setCell_other _ _ _ _ (by simp)]; exact World.cell?_setCell_same _ _ _ z0
  have e1 : ((w2.setCell ⟨w.heap.size, 0, none⟩ (.int .i64 1)).setCell ⟨w.heap.size, 1, none⟩ (.slice a 2 cap)).cell? ⟨w.heap.size, 1, none⟩ = some (.slice a 2 cap) :=
    World.cell?_setCell_same _ _ _ ((World.cell?_setCell_other _ _ _ _ (by simp)).trans z1)
  have own := ownsRow_setCell_below (ownsRow_setCell_below HOwn.out (a := ⟨w.heap.size, 0, none⟩) (by simp) (.int .i64 1)) (a := ⟨w.heap.size, 1, none⟩) (by simp) (.slice a 2 cap)
  have bel := (HB2.out.setCell (p := ⟨w.heap.size, 0, none⟩) (by simp) (.int .i64 1)).setCell (p := ⟨w.heap.size, 1, none⟩) (by simp) (.slice a 2 cap)
  generalize ((w2.setCell ⟨w.heap.size, 0, none⟩ (.int .i64 1)).setCell ⟨w.heap.size, 1, none⟩ (.slice a 2 cap)) = W at *
  obtain ⟨-, a', cap', e', hsig, -⟩ := Sigs.of_ownsRow own
  cases e'
  exact bodyPost_ret (v := .agg #[.int .i64 1, .slice a 2 cap]) (by simp [results, Try.results53, go_sem, e0, e1]) rfl ⟨_, _, rfl, hcap, hsig, fun b off e => by subst e; have := (own.lt b rfl).1; omega, bel⟩
set_option maxRecDepth 100000 in
set_option maxHeartbeats 1000000 in
theorem bent_any (w : World) : Calls Try.prog 50 #[] w fun e w' => ∃ a cap, e = .returned (.agg #[.int .i64 2, .slice a 5 cap]) ∧ 5 ≤ cap ∧ Sigs w' a exQ ∧ (∀ b off, a = some ⟨b, off, none⟩ → w.heap.size ≤ b) ∧ Below w.heap.size w w' := by
  have HB := Lib.hid ((Below.new w (.cells #[.int .i64 0, .slice none 0 0] 33)).alloc (by simp) (.cells #[.int .i64 0, .int .i64 1, .int .i64 1, .int .i64 2, .int .i64 2, .int .i64 4, .int .i64 3, .int .i64 7, .int .i64 4, .int .i64 12] 2))
  have hI : Ints .i64 ((w.alloc (.cells #[.int .i64 0, .slice none 0 0] 33)).alloc (.cells #[.int .i64 0, .int .i64 1, .int .i64 1, .int .i64 2, .int .i64 2, .int .i64 4, .int .i64 3, .int .i64 7, .int .i64 4, .int .i64 12] 2)) (some ⟨w.heap.size + 1, 0, none⟩) [0, 1, 1, 2, 2, 4, 3, 7, 4, 12] := by have := ints_new (w.alloc (.cells #[.int .i64 0, .slice none 0 0] 33)) #[.int .i64 0, .int .i64 1, .int .i64 1, .int .i64 2, .int .i64 2, .int .i64 4, .int .i64 3, .int .i64 7, .int .i64 4, .int .i64 12] 2 [0, 1, 1, 2, 2, 4, 3, 7, 4, 12] rfl; rw [World.size_alloc] at this; exact this
  have z0 : ((w.alloc (.cells #[.int .i64 0, .slice none 0 0] 33)).alloc (.cells #[.int .i64 0, .int .i64 1, .int .i64 1, .int .i64 2, .int .i64 2, .int .i64 4, .int .i64 3, .int .i64 7, .int .i64 4, .int .i64 12] 2)).cell? ⟨w.heap.size, 0, none⟩ = some (.int .i64 0) := by simp
  have z1 : ((w.alloc (.cells #[.int .i64 0, .slice none 0 0] 33)).alloc (.cells #[.int .i64 0, .int .i64 1, .int .i64 1, .int .i64 2, .int .i64 2, .int .i64 4, .int .i64 3, .int .i64 7, .int .i64 4, .int .i64 12] 2)).cell? ⟨w.heap.size, 1, none⟩ = some (.slice none 0 0) := by simp
  have y0 : ((w.alloc (.cells #[.int .i64 0, .slice none 0 0] 33)).alloc (.cells #[.int .i64 0, .int .i64 1, .int .i64 1, .int .i64 2, .int .i64 2, .int .i64 4, .int .i64 3, .int .i64 7, .int .i64 4, .int .i64 12] 2)).frozen? ⟨w.heap.size, 0, none⟩ = false := by simp
  have y1 : ((w.alloc (.cells #[.int .i64 0, .slice none 0 0] 33)).alloc (.cells #[.int .i64 0, .int .i64 1, .int .i64 1, .int .i64 2, .int .i64 2, .int .i64 4, .int .i64 3, .int .i64 7, .int .i64 4, .int .i64 12] 2)).frozen? ⟨w.heap.size, 1, none⟩ = false := by simp
  have hsz : w.heap.size < ((w.alloc (.cells #[.int .i64 0, .slice none 0 0] 33)).alloc (.cells #[.int .i64 0, .int .i64 1, .int .i64 1, .int .i64 2, .int .i64 2, .int .i64 4, .int .i64 3, .int .i64 7, .int .i64 4, .int .i64 12] 2)).heap.size := by simp; omega
  have HC := Lib.hid (log_any 2 _ 10 [0, 1, 1, 2, 2, 4, 3, 7, 4, 12] ((w.alloc (.cells #[.int .i64 0, .slice none 0 0] 33)).alloc (.cells #[.int .i64 0, .int .i64 1, .int .i64 1, .int .i64 2, .int .i64 2, .int .i64 4, .int .i64 3, .int .i64 7, .int .i64 4, .int .i64 12] 2)) (by simp) hI)
  have HZ := Lib.hid (And.intro (And.intro z0 z1) (And.intro y0 y1))
  have HS := Lib.hid hsz
  clear hI z0 z1 y0 y1 hsz
  go_enter Try.func50, Try.ntmps50
  go_wp2_with fail
  refine HC.out.mono ?_
  rintro e w2 ⟨v, rfl, hown, hb2⟩
  have z0 := cell_on hb2 HZ.out.1.1
  have z1 := cell_on hb2 HZ.out.1.2
  have y0 : w2.frozen? ⟨w.heap.size, 0, none⟩ = false := by rw [hb2.frozen (p := ⟨w.heap.size, 0, none⟩) HS.out]; exact HZ.out.2.1
  have y1 : w2.frozen? ⟨w.heap.size, 1, none⟩ = false := by rw [hb2.frozen (p := ⟨w.heap.size, 1, none⟩) HS.out]; exact HZ.out.2.2
  have hown : w2.ownsRow _ 57 2 v 5 (flat exQ) := hown
  obtain ⟨-, a, cap, rfl, -, hcap⟩ := Sigs.of_ownsRow hown
  have HOwn := Lib.hid (owns_mono hown (Nat.succ_le_of_lt HS.out))
  have HB2 := Lib.hid (HB.out.trans (hb2.mono HB.out.size))
  clear hown hb2
  go_wp2_with fail
  have e0 : ((w2.setCell ⟨w.heap.size, 0, none⟩ (.int .i64 2)).setCell ⟨w.heap.size, 1, none⟩ (.slice a 5 cap)).cell? ⟨w.heap.size, 0, none⟩ = some (.int .i64 2) := by
    rw [World.cell?_setCell_other _ _ _ _ (by simp)]; exact World.cell?_setCell_same _ _ _ z0
  have e1 : ((w2.setCell ⟨w.heap.size, 0, none⟩ (.int .i64 2)).setCell ⟨w.heap.size, 1, none⟩ (.slice a 5 cap)).cell? ⟨w.heap.size, 1, none⟩ = some (.slice a 5 cap) :=
    World.cell?_setCell_same _ _ _ ((World.cell?_setCell_other _ _ _ _ (by simp)).trans z1)
  have own := ownsRow_setCell_below (ownsRow_setCell_below HOwn.out (a := ⟨w.heap.size, 0, none⟩) (by simp) (.int .i64 2)) (a := ⟨w.heap.size, 1, none⟩) (by simp) (.slice a 5 cap)
  have bel := (HB2.out.setCell (p := ⟨w.heap.size, 0, none⟩) (by simp) (.int .i64 2)).setCell (p := ⟨w.heap.size, 1, none⟩) (by simp) (.slice a 5 cap)
  generalize ((w2.setCell ⟨w.heap.size, 0, none⟩ (.int .i64 2)).setCell ⟨w.heap.size, 1, none⟩ (.slice a 5 cap)) = W at *
  obtain ⟨-, a', cap', e', hsig, -⟩ := Sigs.of_ownsRow own
  cases e'
  exact bodyPost_ret (v := .agg #[.int .i64 2, .slice a 5 cap]) (by simp [results, Try.results50, go_sem, e0, e1]) rfl ⟨_, _, rfl, hcap, hsig, fun b off e => by subst e; have := (own.lt b rfl).1; omega, bel⟩
end Go.Proofs.Ytkcgkfhfogdihaa
/- Walk of Works. -/
namespace Go.Proofs.Ytkcgkfhfogdihaa
open Go.RowKit
theorem wkAt1 (w : World) : Calls Try.prog 17 #[.slice (some ⟨w.heap.size, 0, none⟩) 3 3, .int .i64 4] (w.alloc (.cells #[.int .i64 1, .int .i64 1, .int .i64 1] 2)) fun e w' => e = .returned (.tuple #[.int .i64 11, .int .i64 0]) ∧ Below w.heap.size w w' := by
  have := cAt_any (some ⟨w.heap.size, 0, none⟩) 3 ([1, 1, 1] : List Int) 4 (w.alloc (.cells #[.int .i64 1, .int .i64 1, .int .i64 1] 2)) (by simp) (ints_new w #[.int .i64 1, .int .i64 1, .int .i64 1] 2 [1, 1, 1] rfl)
  rw [v1] at this
  exact this.mono fun e w' ⟨h1, h2⟩ => ⟨h1, (Below.new w _).trans (h2.mono (Below.new w _).size)⟩
theorem wkAt2 (w : World) : Calls Try.prog 17 #[.slice (some ⟨w.heap.size, 0, none⟩) 2 2, .int .i64 61] (w.alloc (.cells #[.int .i64 1, .int .i64 2] 2)) fun e w' => e = .returned (.tuple #[.int .i64 0, .int .i64 2]) ∧ Below w.heap.size w w' := by
  have := cAt_any (some ⟨w.heap.size, 0, none⟩) 2 ([1, 2] : List Int) 61 (w.alloc (.cells #[.int .i64 1, .int .i64 2] 2)) (by simp) (ints_new w #[.int .i64 1, .int .i64 2] 2 [1, 2] rfl)
  rw [v2] at this
  exact this.mono fun e w' ⟨h1, h2⟩ => ⟨h1, (Below.new w _).trans (h2.mono (Below.new w _).size)⟩
theorem wkLater (w : World) : Calls Try.prog 19 #[.slice (some ⟨w.heap.size, 0, none⟩) 3 3, .int .i64 2] (w.alloc (.cells #[.int .i64 1, .int .i64 1, .int .i64 1] 2)) fun e w' => ∃ a cap, e = .returned (.tuple #[.slice a 3 cap, .int .i64 0]) ∧ Ints .i64 w' a [4, 3, 1] ∧ Below w.heap.size w w' := by
  have := cLater_any (some ⟨w.heap.size, 0, none⟩) 3 ([1, 1, 1] : List Int) 2 (w.alloc (.cells #[.int .i64 1, .int .i64 1, .int .i64 1] 2)) (by simp) (ints_new w #[.int .i64 1, .int .i64 1, .int .i64 1] 2 [1, 1, 1] rfl)
  rw [v3] at this
  refine this.mono ?_
  rintro e w' ⟨v, h1, h2, h3⟩
  obtain ⟨-, a, cap, rfl, hi, -⟩ := Ints.of_ownsRow h2
  exact ⟨a, cap, h1, hi, (Below.new w _).trans (h3.mono (Below.new w _).size)⟩
theorem wkLater2 (w : World) : Calls Try.prog 19 #[.slice (some ⟨w.heap.size, 0, none⟩) 2 2, .int .i64 3] (w.alloc (.cells #[.int .i64 1, .int .i64 2] 2)) fun e w' => ∃ a cap, e = .returned (.tuple #[.slice a 2 cap, .int .i64 0]) ∧ Ints .i64 w' a [7, 2] ∧ Below w.heap.size w w' := by
  have := cLater_any (some ⟨w.heap.size, 0, none⟩) 2 ([1, 2] : List Int) 3 (w.alloc (.cells #[.int .i64 1, .int .i64 2] 2)) (by simp) (ints_new w #[.int .i64 1, .int .i64 2] 2 [1, 2] rfl)
  rw [w1] at this
  refine this.mono ?_
  rintro e w' ⟨v, h1, h2, h3⟩
  obtain ⟨-, a, cap, rfl, hi, -⟩ := Ints.of_ownsRow h2
  exact ⟨a, cap, h1, hi, (Below.new w _).trans (h3.mono (Below.new w _).size)⟩
theorem wkThL (a : Option Addr) (cap : Nat) (w : World) (h : Sigs w a exL) : Calls Try.prog 23 #[.agg #[.int .i64 1, .slice a 5 cap], .slice (some ⟨w.heap.size, 0, none⟩) 2 2] (w.alloc (.cells #[.int .i64 2, .int .i64 3] 3)) fun e w' => ∃ a cap, e = .returned (.tuple #[.slice a 2 cap, .int .i64 0]) ∧ Ints .i64 w' a [-1, 3] ∧ Below w.heap.size w w' := by
  have := cThrough_any a cap 1 exL (some ⟨w.heap.size, 0, none⟩) 2 ([2, 3] : List Int) (w.alloc (.cells #[.int .i64 2, .int .i64 3] 3)) (by decide) (by simp) (h.below (Below.new w _)) (ints_new w #[.int .i64 2, .int .i64 3] 3 [2, 3] rfl)
  rw [v4] at this
  refine this.mono ?_
  rintro e w' ⟨v, h1, h2, h3⟩
  obtain ⟨-, a, cap, rfl, hi, -⟩ := Ints.of_ownsRow h2
  exact ⟨a, cap, h1, hi, (Below.new w _).trans (h3.mono (Below.new w _).size)⟩
theorem wkThM (a : Option Addr) (cap : Nat) (w : World) (h : Sigs w a exM) : Calls Try.prog 23 #[.agg #[.int .i64 1, .slice a 2 cap], .slice (some ⟨w.heap.size, 0, none⟩) 2 2] (w.alloc (.cells #[.int .i64 0, .int .i64 1] 3)) fun e w' => ∃ a cap, e = .returned (.tuple #[.slice a 0 cap, .int .i64 23]) ∧ Ints .i64 w' a [] ∧ Below w.heap.size w w' := by
  have := cThrough_any a cap 1 exM (some ⟨w.heap.size, 0, none⟩) 2 ([0, 1] : List Int) (w.alloc (.cells #[.int .i64 0, .int .i64 1] 3)) (by decide) (by simp) (h.below (Below.new w _)) (ints_new w #[.int .i64 0, .int .i64 1] 3 [0, 1] rfl)
  rw [v5] at this
  refine this.mono ?_
  rintro e w' ⟨v, h1, h2, h3⟩
  obtain ⟨-, a, cap, rfl, hi, -⟩ := Ints.of_ownsRow h2
  exact ⟨a, cap, h1, hi, (Below.new w _).trans (h3.mono (Below.new w _).size)⟩
theorem wkThL2 (a : Option Addr) (cap : Nat) (w : World) (h : Sigs w a exL) : Calls Try.prog 23 #[.agg #[.int .i64 1, .slice a 5 cap], .slice (some ⟨w.heap.size, 0, none⟩) 2 2] (w.alloc (.cells #[.int .i64 0, .int .i64 1] 3)) fun e w' => ∃ a cap, e = .returned (.tuple #[.slice a 2 cap, .int .i64 0]) ∧ Ints .i64 w' a [1, 2] ∧ Below w.heap.size w w' := by
  have := cThrough_any a cap 1 exL (some ⟨w.heap.size, 0, none⟩) 2 ([0, 1] : List Int) (w.alloc (.cells #[.int .i64 0, .int .i64 1] 3)) (by decide) (by simp) (h.below (Below.new w _)) (ints_new w #[.int .i64 0, .int .i64 1] 3 [0, 1] rfl)
  rw [w2] at this
  refine this.mono ?_
  rintro e w' ⟨v, h1, h2, h3⟩
  obtain ⟨-, a, cap, rfl, hi, -⟩ := Ints.of_ownsRow h2
  exact ⟨a, cap, h1, hi, (Below.new w _).trans (h3.mono (Below.new w _).size)⟩
theorem wkThL3 (a : Option Addr) (cap : Nat) (w : World) (h : Sigs w a exL) : Calls Try.prog 23 #[.agg #[.int .i64 1, .slice a 5 cap], .slice (some ⟨w.heap.size, 0, none⟩) 3 3] (w.alloc (.cells #[.int .i64 0, .int .i64 1, .int .i64 2] 3)) fun e w' => ∃ a cap, e = .returned (.tuple #[.slice a 0 cap, .int .i64 15]) ∧ Ints .i64 w' a [] ∧ Below w.heap.size w w' := by
  have := cThrough_any a cap 1 exL (some ⟨w.heap.size, 0, none⟩) 3 ([0, 1, 2] : List Int) (w.alloc (.cells #[.int .i64 0, .int .i64 1, .int .i64 2] 3)) (by decide) (by simp) (h.below (Below.new w _)) (ints_new w #[.int .i64 0, .int .i64 1, .int .i64 2] 3 [0, 1, 2] rfl)
  rw [w3] at this
  refine this.mono ?_
  rintro e w' ⟨v, h1, h2, h3⟩
  obtain ⟨-, a, cap, rfl, hi, -⟩ := Ints.of_ownsRow h2
  exact ⟨a, cap, h1, hi, (Below.new w _).trans (h3.mono (Below.new w _).size)⟩
theorem wkCp (a : Option Addr) (cap : Nat) (w : World) (h : Sigs w a exL) : Calls Try.prog 25 #[.agg #[.int .i64 1, .slice a 5 cap], .slice (some ⟨w.heap.size, 0, none⟩) 2 2] (w.alloc (.cells #[.int .i64 1, .int .i64 2] 2)) fun e w' => e = .returned (.tuple #[.int .i64 4, .int .i64 0]) ∧ Below w.heap.size w w' := by
  have := cCheckPath_any a cap 1 exL (some ⟨w.heap.size, 0, none⟩) 2 ([1, 2] : List Int) (w.alloc (.cells #[.int .i64 1, .int .i64 2] 2)) (by decide) (by simp) (h.below (Below.new w _)) (ints_new w #[.int .i64 1, .int .i64 2] 2 [1, 2] rfl)
  rw [v6] at this
  exact this.mono fun e w' ⟨h1, h2⟩ => ⟨h1, (Below.new w _).trans (h2.mono (Below.new w _).size)⟩
theorem wkCp2 (a : Option Addr) (cap : Nat) (w : World) (h : Sigs w a exL) : Calls Try.prog 25 #[.agg #[.int .i64 1, .slice a 5 cap], .slice (some ⟨w.heap.size, 0, none⟩) 2 2] (w.alloc (.cells #[.int .i64 (-1), .int .i64 3] 2)) fun e w' => e = .returned (.tuple #[.int .i64 2, .int .i64 0]) ∧ Below w.heap.size w w' := by
  have := cCheckPath_any a cap 1 exL (some ⟨w.heap.size, 0, none⟩) 2 ([-1, 3] : List Int) (w.alloc (.cells #[.int .i64 (-1), .int .i64 3] 2)) (by decide) (by simp) (h.below (Below.new w _)) (ints_new w #[.int .i64 (-1), .int .i64 3] 2 [-1, 3] rfl)
  rw [w4] at this
  exact this.mono fun e w' ⟨h1, h2⟩ => ⟨h1, (Below.new w _).trans (h2.mono (Below.new w _).size)⟩
theorem wkMostQ (a : Option Addr) (cap : Nat) (w : World) (h : Sigs w a exQ) : Calls Try.prog 29 #[.agg #[.int .i64 2, .slice a 5 cap]] w fun e w' => e = .returned (.tuple #[.int .i64 4, .int .i64 0]) ∧ Below w.heap.size w w' := by
  have := cMost_any a cap 2 exQ w (by decide) h
  rw [v7] at this
  exact this.mono fun e w' ⟨h1, h2⟩ => ⟨h1, h2⟩
theorem wkMostM (a : Option Addr) (cap : Nat) (w : World) (h : Sigs w a exM) : Calls Try.prog 29 #[.agg #[.int .i64 1, .slice a 2 cap]] w fun e w' => e = .returned (.tuple #[.int .i64 0, .int .i64 23]) ∧ Below w.heap.size w w' := by
  have := cMost_any a cap 1 exM w (by decide) h
  rw [v8] at this
  exact this.mono fun e w' ⟨h1, h2⟩ => ⟨h1, h2⟩
theorem wkMostL (a : Option Addr) (cap : Nat) (w : World) (h : Sigs w a exL) : Calls Try.prog 29 #[.agg #[.int .i64 1, .slice a 5 cap]] w fun e w' => e = .returned (.tuple #[.int .i64 4, .int .i64 0]) ∧ Below w.heap.size w w' := by
  have := cMost_any a cap 1 exL w (by decide) h
  rw [w5] at this
  exact this.mono fun e w' ⟨h1, h2⟩ => ⟨h1, h2⟩
theorem wkCount (a : Option Addr) (cap : Nat) (w : World) (h : Sigs w a exL) : Calls Try.prog 31 #[.agg #[.int .i64 1, .slice a 5 cap]] w fun e w' => e = .returned (.tuple #[.int .i64 1, .int .i64 0]) ∧ Below w.heap.size w w' := by
  have := cCount_any a cap 1 exL w (by decide) h
  rw [v10] at this
  exact this.mono fun e w' ⟨h1, h2⟩ => ⟨h1, h2⟩
theorem wkKind (a : Option Addr) (cap : Nat) (w : World) (h : Sigs w a exL) : Calls Try.prog 33 #[.agg #[.int .i64 1, .slice a 5 cap], .int .i64 3] w fun e w' => e = .returned (.tuple #[.int .i64 2, .int .i64 0]) ∧ Below w.heap.size w w' := by
  have := cKind_any a cap 1 exL 3 w (by decide) h
  rw [v11] at this
  exact this.mono fun e w' ⟨h1, h2⟩ => ⟨h1, h2⟩
theorem wkKind0 (a : Option Addr) (cap : Nat) (w : World) (h : Sigs w a exL) : Calls Try.prog 33 #[.agg #[.int .i64 1, .slice a 5 cap], .int .i64 0] w fun e w' => e = .returned (.tuple #[.int .i64 0, .int .i64 0]) ∧ Below w.heap.size w w' := by
  have := cKind_any a cap 1 exL 0 w (by decide) h
  rw [w6] at this
  exact this.mono fun e w' ⟨h1, h2⟩ => ⟨h1, h2⟩
theorem wkOnly1 (a : Option Addr) (cap : Nat) (w : World) (h : Sigs w a exL) : Calls Try.prog 36 #[.agg #[.int .i64 1, .slice a 5 cap], .int .i64 1] w fun e w' => ∃ a cap, e = .returned (.tuple #[.slice a 2 cap, .int .i64 0]) ∧ Ints .i64 w' a [1, 2] ∧ Below w.heap.size w w' := by
  have := cOnly_any a cap 1 exL 1 w (by decide) h
  rw [v12] at this
  refine this.mono ?_
  rintro e w' ⟨v, h1, h2, h3⟩
  obtain ⟨-, a, cap, rfl, hi, -⟩ := Ints.of_ownsRow h2
  exact ⟨a, cap, h1, hi, h3⟩
theorem wkOnly2 (a : Option Addr) (cap : Nat) (w : World) (h : Sigs w a exL) : Calls Try.prog 36 #[.agg #[.int .i64 1, .slice a 5 cap], .int .i64 2] w fun e w' => ∃ a cap, e = .returned (.tuple #[.slice a 0 cap, .int .i64 13]) ∧ Ints .i64 w' a [] ∧ Below w.heap.size w w' := by
  have := cOnly_any a cap 1 exL 2 w (by decide) h
  rw [v13] at this
  refine this.mono ?_
  rintro e w' ⟨v, h1, h2, h3⟩
  obtain ⟨-, a, cap, rfl, hi, -⟩ := Ints.of_ownsRow h2
  exact ⟨a, cap, h1, hi, h3⟩
theorem wkOnly0 (a : Option Addr) (cap : Nat) (w : World) (h : Sigs w a exL) : Calls Try.prog 36 #[.agg #[.int .i64 1, .slice a 5 cap], .int .i64 0] w fun e w' => ∃ a cap, e = .returned (.tuple #[.slice a 0 cap, .int .i64 23]) ∧ Ints .i64 w' a [] ∧ Below w.heap.size w w' := by
  have := cOnly_any a cap 1 exL 0 w (by decide) h
  rw [v14] at this
  refine this.mono ?_
  rintro e w' ⟨v, h1, h2, h3⟩
  obtain ⟨-, a, cap, rfl, hi, -⟩ := Ints.of_ownsRow h2
  exact ⟨a, cap, h1, hi, h3⟩
theorem wkLeast (a : Option Addr) (cap : Nat) (w : World) (h : Sigs w a exL) : Calls Try.prog 38 #[.agg #[.int .i64 1, .slice a 5 cap]] w fun e w' => e = .returned (.tuple #[.int .i64 0, .int .i64 23]) ∧ Below w.heap.size w w' := by
  have := cLeast_any a cap 1 exL w (by decide) h
  rw [v15] at this
  exact this.mono fun e w' ⟨h1, h2⟩ => ⟨h1, h2⟩
theorem wkPath (a : Option Addr) (cap : Nat) (w : World) (h : Sigs w a exQ) : Calls Try.prog 35 #[.agg #[.int .i64 2, .slice a 5 cap]] w fun e w' => ∃ a cap, e = .returned (.tuple #[.slice a 3 cap, .int .i64 0]) ∧ Ints .i64 w' a [1, 1, 1] ∧ Below w.heap.size w w' := by
  have := cPath_any a cap 2 exQ w (by decide) h
  rw [v7] at this
  refine this.mono ?_
  rintro e w' ⟨v, p, h1, h2, h3, h4⟩
  rcases h3 with ⟨h3, -⟩ | ⟨-, d, hd, hf, hm⟩
  · rw [v7] at h3; exact absurd rfl h3
  · have hd2 : d = 2 := by omega
    subst hd2
    have hp := v9 hf hm
    subst hp
    obtain ⟨-, a, cap, rfl, hi, -⟩ := Ints.of_ownsRow h2
    exact ⟨a, cap, h1, hi, h4⟩
theorem wkLongs (a : Option Addr) (cap n : Nat) (c : Array Value) (xs : List Int) (w : World) (hn : xs.length = n) (hn2 : n ≤ 1000000) (hc : c.toList = xs.map (Value.int .i64)) (h : Ints .i64 w a xs) :
    Calls Try.prog 21 #[.slice a n cap, .slice (some ⟨w.heap.size, 0, none⟩) n n] (w.alloc (.cells c 2)) fun e w' => e = .returned (.bool true) ∧ Below w.heap.size w w' := by
  subst hn
  have := longs_any a cap xs (some ⟨w.heap.size, 0, none⟩) xs.length xs (w.alloc (.cells c 2)) hn2 hn2 (h.alloc _) (ints_new w c 2 xs hc)
  rw [decide_eq_true rfl] at this
  exact this.mono fun e w' ⟨h1, h2⟩ => ⟨h1, (Below.new w _).trans (h2.mono (Below.new w _).size)⟩
theorem cell_top {w : World} {H i : Nat} {c : Array Value} {t : TypeId} {v : Value} (h : H = w.heap.size) (hv : c.toList[i]? = some v) : (w.alloc (.cells c t)).cell? ⟨H, i, none⟩ = some v := by
  subst h
  have := news_new w c t i v hv
  rw [addr_add, Nat.zero_add] at this
  exact this
/-- The three logs of the examples, in their cells. -/
structure Logs3 (w0 : World) (B1 B2 B3 : Nat) (a1 a2 a3 : Option Addr) (c1 c2 c3 : Nat) (w : World) : Prop where
  x1 : w.cell? ⟨B1, 0, none⟩ = some (.int .i64 1)
  y1 : w.cell? ⟨B1, 1, none⟩ = some (.slice a1 5 c1)
  s1 : Sigs w a1 exL
  x2 : w.cell? ⟨B2, 0, none⟩ = some (.int .i64 1)
  y2 : w.cell? ⟨B2, 1, none⟩ = some (.slice a2 2 c2)
  s2 : Sigs w a2 exM
  x3 : w.cell? ⟨B3, 0, none⟩ = some (.int .i64 2)
  y3 : w.cell? ⟨B3, 1, none⟩ = some (.slice a3 5 c3)
  s3 : Sigs w a3 exQ
  bel : Below w0.heap.size w0 w
theorem Logs3.on {w0 w w' : World} {B1 B2 B3 : Nat} {a1 a2 a3 : Option Addr} {c1 c2 c3 : Nat} (h : Logs3 w0 B1 B2 B3 a1 a2 a3 c1 c2 c3 w) (hb : Below w.heap.size w w') : Logs3 w0 B1 B2 B3 a1 a2 a3 c1 c2 c3 w' :=
  ⟨cell_on hb h.x1, cell_on hb h.y1, h.s1.below hb, cell_on hb h.x2, cell_on hb h.y2, h.s2.below hb, cell_on hb h.x3, cell_on hb h.y3, h.s3.below hb, h.bel.trans (hb.mono h.bel.size)⟩
set_option maxRecDepth 100000 in
set_option maxHeartbeats 4000000 in
theorem works_any (w : World) : Calls Try.prog 16 #[] w fun e w' => e = .returned (.bool true) ∧ Below w.heap.size w w' := by
  go_enter Try.func16, Try.ntmps16
  go_wp2_with fail
  refine (straight_any w).mono ?_
  rintro e wa ⟨a1, c1, rfl, hc1, hs1, -, hba⟩
  go_wp2_with fail
  refine (half_any wa).mono ?_
  rintro e wb ⟨a2, c2, rfl, hc2, hs2, -, hbb⟩
  go_wp2_with fail
  refine (bent_any wb).mono ?_
  rintro e wc ⟨a3, c3, rfl, hc3, hs3, -, hbc⟩
  have hs1 := Lib.hid ((hs1.below hbb).below hbc)
  have hs2 := Lib.hid (hs2.below hbc)
  have hs3 := Lib.hid hs3
  have HB0 := Lib.hid (hba.trans ((hbb.trans (hbc.mono hbb.size)).mono hba.size))
  clear hba hbb hbc
  go_wp2_with fail
  have hbn : Below wc.heap.size wc (((wc.alloc (.cells #[.int .i64 1, .slice a1 5 c1] 33)).alloc (.cells #[.int .i64 1, .slice a2 2 c2] 33)).alloc (.cells #[.int .i64 2, .slice a3 5 c3] 33)) := ((Below.new wc _).alloc (by simp) _).alloc (by simp; omega) _
  have e1 : (((wc.alloc (.cells #[.int .i64 1, .slice a1 5 c1] 33)).alloc (.cells #[.int .i64 1, .slice a2 2 c2] 33)).alloc (.cells #[.int .i64 2, .slice a3 5 c3] 33)).cell? ⟨wc.heap.size, 0, none⟩ = some (.int .i64 1) := cell_on (Below.new _ _) (cell_on (Below.new _ _) (cell_top rfl rfl))
  have e2 : (((wc.alloc (.cells #[.int .i64 1, .slice a1 5 c1] 33)).alloc (.cells #[.int .i64 1, .slice a2 2 c2] 33)).alloc (.cells #[.int .i64 2, .slice a3 5 c3] 33)).cell? ⟨wc.heap.size, 1, none⟩ = some (.slice a1 5 c1) := cell_on (Below.new _ _) (cell_on (Below.new _ _) (cell_top rfl rfl))
  have e3 : (((wc.alloc (.cells #[.int .i64 1, .slice a1 5 c1] 33)).alloc (.cells #[.int .i64 1, .slice a2 2 c2] 33)).alloc (.cells #[.int .i64 2, .slice a3 5 c3] 33)).cell? ⟨wc.heap.size + 1, 0, none⟩ = some (.int .i64 1) := cell_on (Below.new _ _) (cell_top (by simp) rfl)
  have e4 : (((wc.alloc (.cells #[.int .i64 1, .slice a1 5 c1] 33)).alloc (.cells #[.int .i64 1, .slice a2 2 c2] 33)).alloc (.cells #[.int .i64 2, .slice a3 5 c3] 33)).cell? ⟨wc.heap.size + 1, 1, none⟩ = some (.slice a2 2 c2) := cell_on (Below.new _ _) (cell_top (by simp) rfl)
  have e5 : (((wc.alloc (.cells #[.int .i64 1, .slice a1 5 c1] 33)).alloc (.cells #[.int .i64 1, .slice a2 2 c2] 33)).alloc (.cells #[.int .i64 2, .slice a3 5 c3] 33)).cell? ⟨wc.heap.size + 1 + 1, 0, none⟩ = some (.int .i64 2) := cell_top (by simp) rfl
  have e6 : (((wc.alloc (.cells #[.int .i64 1, .slice a1 5 c1] 33)).alloc (.cells #[.int .i64 1, .slice a2 2 c2] 33)).alloc (.cells #[.int .i64 2, .slice a3 5 c3] 33)).cell? ⟨wc.heap.size + 1 + 1, 1, none⟩ = some (.slice a3 5 c3) := cell_top (by simp) rfl
  have HL : Logs3 w wc.heap.size (wc.heap.size + 1) (wc.heap.size + 1 + 1) a1 a2 a3 c1 c2 c3 (((wc.alloc (.cells #[.int .i64 1, .slice a1 5 c1] 33)).alloc (.cells #[.int .i64 1, .slice a2 2 c2] 33)).alloc (.cells #[.int .i64 2, .slice a3 5 c3] 33)) := ⟨e1, e2, hs1.out.below hbn, e3, e4, hs2.out.below hbn, e5, e6, hs3.out.below hbn, HB0.out.trans (hbn.mono HB0.out.size)⟩
  clear e1 e2 e3 e4 e5 e6
  obtain ⟨W0, hW0⟩ : ∃ W0, (((wc.alloc (.cells #[.int .i64 1, .slice a1 5 c1] 33)).alloc (.cells #[.int .i64 1, .slice a2 2 c2] 33)).alloc (.cells #[.int .i64 2, .slice a3 5 c3] 33)) = W0 := ⟨_, rfl⟩
  have hsz : wc.heap.size + 1 + 1 + 1 = W0.heap.size := by rw [← hW0]; simp
  rw [hW0] at HL ⊢
  rw [hsz]
  have HL := Lib.hid HL
  clear hsz hW0 hbn
  have hc1' : 5 ≤ c1 := hc1
  refine (longsId_any _ _).mono ?_
  rintro e w' ⟨rfl, rfl⟩
  go_wp2_with fail
  refine (wkAt1 W0).mono ?_
  rintro e w1 ⟨rfl, hb⟩
  have HL := Lib.hid (HL.out.on hb)
  clear hb
  go_wp2_with fail
  refine (longsId_any _ _).mono ?_
  rintro e w' ⟨rfl, rfl⟩
  go_wp2_with fail
  refine (wkAt2 w1).mono ?_
  rintro e w2 ⟨rfl, hb⟩
  have HL := Lib.hid (HL.out.on hb)
  clear hb
  go_wp2_with fail
  refine (longsId_any _ _).mono ?_
  rintro e w' ⟨rfl, rfl⟩
  go_wp2_with fail
  refine (wkLater w2).mono ?_
  rintro e w3 ⟨AIb, CIb, rfl, hIb, hb⟩
  have HL := Lib.hid (HL.out.on hb)
  have Ib := Lib.hid hIb
  clear hb hIb
  go_wp2_with fail
  have x := HL.out.x1
  have y := HL.out.y1
  go_region_held3 (fun w' => w'.cell? ⟨wc.heap.size, 0, none⟩ = some (.int .i64 1) ∧ w'.cell? ⟨wc.heap.size, 1, none⟩ = some (.slice a1 5 c1)) (first | exact ⟨cell_on hb23 x, cell_on hb23 y⟩ | go_keep) (first | (go_at_call 52; refine (ofId_any _ _).mono ?_; rintro e w' ⟨rfl, rfl⟩) | (go_at_call 23; refine (wkThL a1 c1 w3.drew HL.out.s1).mono ?_; rintro e w4 ⟨AIc, CIc, rfl, hIc, hb23⟩))
  have hb : Below w3.heap.size w3 w4 := (Below.refl _ w3).drew.trans hb23
  clear x y
  have HL := Lib.hid (HL.out.on hb)
  have Ib := Lib.hid (Ib.out.below hb)
  have Ic := Lib.hid hIc
  clear hb hb23 hIc
  go_wp2_with fail
  have x := HL.out.x2
  have y := HL.out.y2
  go_region_held3 (fun w' => w'.cell? ⟨(wc.heap.size + 1), 0, none⟩ = some (.int .i64 1) ∧ w'.cell? ⟨(wc.heap.size + 1), 1, none⟩ = some (.slice a2 2 c2)) (first | exact ⟨cell_on hb23 x, cell_on hb23 y⟩ | go_keep) (first | (go_at_call 52; refine (ofId_any _ _).mono ?_; rintro e w' ⟨rfl, rfl⟩) | (go_at_call 23; refine (wkThM a2 c2 w4.drew HL.out.s2).mono ?_; rintro e w5 ⟨AIn, CIn, rfl, hIn, hb23⟩))
  have hb : Below w4.heap.size w4 w5 := (Below.refl _ w4).drew.trans hb23
  clear x y
  have HL := Lib.hid (HL.out.on hb)
  have Ib := Lib.hid (Ib.out.below hb)
  have Ic := Lib.hid (Ic.out.below hb)
  have In := Lib.hid hIn
  clear hb hb23 hIn
  go_wp2_with fail
  have x := HL.out.x1
  have y := HL.out.y1
  go_region_held3 (fun w' => w'.cell? ⟨wc.heap.size, 0, none⟩ = some (.int .i64 1) ∧ w'.cell? ⟨wc.heap.size, 1, none⟩ = some (.slice a1 5 c1)) (first | exact ⟨cell_on hb23 x, cell_on hb23 y⟩ | go_keep) (first | (go_at_call 51; refine (longsId_any _ _).mono ?_; rintro e w' ⟨rfl, rfl⟩) | (go_at_call 25; refine (wkCp a1 c1 w5.drew HL.out.s1).mono ?_; rintro e w6 ⟨rfl, hb23⟩))
  have hb : Below w5.heap.size w5 w6 := (Below.refl _ w5).drew.trans hb23
  clear x y
  have HL := Lib.hid (HL.out.on hb)
  have Ib := Lib.hid (Ib.out.below hb)
  have Ic := Lib.hid (Ic.out.below hb)
  have In := Lib.hid (In.out.below hb)
  clear hb hb23
  have x1 := HL.out.x1
  have y1 := HL.out.y1
  have x2 := HL.out.x2
  have y2 := HL.out.y2
  have x3 := HL.out.x3
  have y3 := HL.out.y3
  go_wp2_with fail
  clear x1 y1 x2 y2 x3 y3
  refine (wkMostQ a3 c3 w6 HL.out.s3).mono ?_
  rintro e w7 ⟨rfl, hb⟩
  have HL := Lib.hid (HL.out.on hb)
  have Ib := Lib.hid (Ib.out.below hb)
  have Ic := Lib.hid (Ic.out.below hb)
  have In := Lib.hid (In.out.below hb)
  clear hb
  have x1 := HL.out.x1
  have y1 := HL.out.y1
  have x2 := HL.out.x2
  have y2 := HL.out.y2
  have x3 := HL.out.x3
  have y3 := HL.out.y3
  go_wp2_with fail
  clear x1 y1 x2 y2 x3 y3
  refine (wkMostM a2 c2 w7 HL.out.s2).mono ?_
  rintro e w8 ⟨rfl, hb⟩
  have HL := Lib.hid (HL.out.on hb)
  have Ib := Lib.hid (Ib.out.below hb)
  have Ic := Lib.hid (Ic.out.below hb)
  have In := Lib.hid (In.out.below hb)
  clear hb
  have x1 := HL.out.x1
  have y1 := HL.out.y1
  have x2 := HL.out.x2
  have y2 := HL.out.y2
  have x3 := HL.out.x3
  have y3 := HL.out.y3
  go_wp2_with fail
  clear x1 y1 x2 y2 x3 y3
  refine (wkPath a3 c3 w8 HL.out.s3).mono ?_
  rintro e w9 ⟨AIp, CIp, rfl, hIp, hb⟩
  have HL := Lib.hid (HL.out.on hb)
  have Ib := Lib.hid (Ib.out.below hb)
  have Ic := Lib.hid (Ic.out.below hb)
  have In := Lib.hid (In.out.below hb)
  have Ip := Lib.hid hIp
  clear hb hIp
  have x1 := HL.out.x1
  have y1 := HL.out.y1
  have x2 := HL.out.x2
  have y2 := HL.out.y2
  have x3 := HL.out.x3
  have y3 := HL.out.y3
  go_wp2_with fail
  clear x1 y1 x2 y2 x3 y3
  refine (wkCount a1 c1 w9 HL.out.s1).mono ?_
  rintro e w10 ⟨rfl, hb⟩
  have HL := Lib.hid (HL.out.on hb)
  have Ib := Lib.hid (Ib.out.below hb)
  have Ic := Lib.hid (Ic.out.below hb)
  have In := Lib.hid (In.out.below hb)
  have Ip := Lib.hid (Ip.out.below hb)
  clear hb
  have x1 := HL.out.x1
  have y1 := HL.out.y1
  have x2 := HL.out.x2
  have y2 := HL.out.y2
  have x3 := HL.out.x3
  have y3 := HL.out.y3
  go_wp2_with fail
  clear x1 y1 x2 y2 x3 y3
  refine (wkKind a1 c1 w10 HL.out.s1).mono ?_
  rintro e w11 ⟨rfl, hb⟩
  have HL := Lib.hid (HL.out.on hb)
  have Ib := Lib.hid (Ib.out.below hb)
  have Ic := Lib.hid (Ic.out.below hb)
  have In := Lib.hid (In.out.below hb)
  have Ip := Lib.hid (Ip.out.below hb)
  clear hb
  have x1 := HL.out.x1
  have y1 := HL.out.y1
  have x2 := HL.out.x2
  have y2 := HL.out.y2
  have x3 := HL.out.x3
  have y3 := HL.out.y3
  go_wp2_with fail
  clear x1 y1 x2 y2 x3 y3
  refine (wkOnly1 a1 c1 w11 HL.out.s1).mono ?_
  rintro e w12 ⟨AIo, CIo, rfl, hIo, hb⟩
  have HL := Lib.hid (HL.out.on hb)
  have Ib := Lib.hid (Ib.out.below hb)
  have Ic := Lib.hid (Ic.out.below hb)
  have In := Lib.hid (In.out.below hb)
  have Ip := Lib.hid (Ip.out.below hb)
  have Io := Lib.hid hIo
  clear hb hIo
  have x1 := HL.out.x1
  have y1 := HL.out.y1
  have x2 := HL.out.x2
  have y2 := HL.out.y2
  have x3 := HL.out.x3
  have y3 := HL.out.y3
  go_wp2_with fail
  clear x1 y1 x2 y2 x3 y3
  refine (wkOnly2 a1 c1 w12 HL.out.s1).mono ?_
  rintro e w13 ⟨AIo2, CIo2, rfl, hIo2, hb⟩
  have HL := Lib.hid (HL.out.on hb)
  have Ib := Lib.hid (Ib.out.below hb)
  have Ic := Lib.hid (Ic.out.below hb)
  have In := Lib.hid (In.out.below hb)
  have Ip := Lib.hid (Ip.out.below hb)
  have Io := Lib.hid (Io.out.below hb)
  have Io2 := Lib.hid hIo2
  clear hb hIo2
  have x1 := HL.out.x1
  have y1 := HL.out.y1
  have x2 := HL.out.x2
  have y2 := HL.out.y2
  have x3 := HL.out.x3
  have y3 := HL.out.y3
  go_wp2_with fail
  clear x1 y1 x2 y2 x3 y3
  refine (wkOnly0 a1 c1 w13 HL.out.s1).mono ?_
  rintro e w14 ⟨AIo0, CIo0, rfl, hIo0, hb⟩
  have HL := Lib.hid (HL.out.on hb)
  have Ib := Lib.hid (Ib.out.below hb)
  have Ic := Lib.hid (Ic.out.below hb)
  have In := Lib.hid (In.out.below hb)
  have Ip := Lib.hid (Ip.out.below hb)
  have Io := Lib.hid (Io.out.below hb)
  have Io2 := Lib.hid (Io2.out.below hb)
  have Io0 := Lib.hid hIo0
  clear hb hIo0
  have x1 := HL.out.x1
  have y1 := HL.out.y1
  have x2 := HL.out.x2
  have y2 := HL.out.y2
  have x3 := HL.out.x3
  have y3 := HL.out.y3
  go_wp2_with fail
  clear x1 y1 x2 y2 x3 y3
  refine (wkLeast a1 c1 w14 HL.out.s1).mono ?_
  rintro e w15 ⟨rfl, hb⟩
  have HL := Lib.hid (HL.out.on hb)
  have Ib := Lib.hid (Ib.out.below hb)
  have Ic := Lib.hid (Ic.out.below hb)
  have In := Lib.hid (In.out.below hb)
  have Ip := Lib.hid (Ip.out.below hb)
  have Io := Lib.hid (Io.out.below hb)
  have Io2 := Lib.hid (Io2.out.below hb)
  have Io0 := Lib.hid (Io0.out.below hb)
  clear hb
  go_wp2_with fail
  refine (longsId_any _ _).mono ?_
  rintro e w' ⟨rfl, rfl⟩
  go_wp2_with fail
  refine (wkLongs _ _ 3 #[.int .i64 4, .int .i64 3, .int .i64 1] [4, 3, 1] w15 rfl (by decide) rfl Ib.out).mono ?_
  rintro e w16 ⟨rfl, hb⟩
  have HL := Lib.hid (HL.out.on hb)
  have Ib := Lib.hid (Ib.out.below hb)
  have Ic := Lib.hid (Ic.out.below hb)
  have In := Lib.hid (In.out.below hb)
  have Ip := Lib.hid (Ip.out.below hb)
  have Io := Lib.hid (Io.out.below hb)
  have Io2 := Lib.hid (Io2.out.below hb)
  have Io0 := Lib.hid (Io0.out.below hb)
  clear hb
  go_wp2_with fail
  refine (longsId_any _ _).mono ?_
  rintro e w' ⟨rfl, rfl⟩
  go_wp2_with fail
  refine (wkLongs _ _ 2 #[.int .i64 (-1), .int .i64 3] [-1, 3] w16 rfl (by decide) rfl Ic.out).mono ?_
  rintro e w17 ⟨rfl, hb⟩
  have HL := Lib.hid (HL.out.on hb)
  have Ib := Lib.hid (Ib.out.below hb)
  have Ic := Lib.hid (Ic.out.below hb)
  have In := Lib.hid (In.out.below hb)
  have Ip := Lib.hid (Ip.out.below hb)
  have Io := Lib.hid (Io.out.below hb)
  have Io2 := Lib.hid (Io2.out.below hb)
  have Io0 := Lib.hid (Io0.out.below hb)
  clear hb
  go_wp2_with fail
  refine (longsId_any _ _).mono ?_
  rintro e w' ⟨rfl, rfl⟩
  go_wp2_with fail
  refine (wkLongs _ _ 3 #[.int .i64 1, .int .i64 1, .int .i64 1] [1, 1, 1] w17 rfl (by decide) rfl Ip.out).mono ?_
  rintro e w18 ⟨rfl, hb⟩
  have HL := Lib.hid (HL.out.on hb)
  have Ib := Lib.hid (Ib.out.below hb)
  have Ic := Lib.hid (Ic.out.below hb)
  have In := Lib.hid (In.out.below hb)
  have Ip := Lib.hid (Ip.out.below hb)
  have Io := Lib.hid (Io.out.below hb)
  have Io2 := Lib.hid (Io2.out.below hb)
  have Io0 := Lib.hid (Io0.out.below hb)
  clear hb
  go_wp2_with fail
  refine (longsId_any _ _).mono ?_
  rintro e w' ⟨rfl, rfl⟩
  go_wp2_with fail
  refine (wkLongs _ _ 2 #[.int .i64 1, .int .i64 2] [1, 2] w18 rfl (by decide) rfl Io.out).mono ?_
  rintro e w19 ⟨rfl, hb⟩
  have HL := Lib.hid (HL.out.on hb)
  have Ib := Lib.hid (Ib.out.below hb)
  have Ic := Lib.hid (Ic.out.below hb)
  have In := Lib.hid (In.out.below hb)
  have Ip := Lib.hid (Ip.out.below hb)
  have Io := Lib.hid (Io.out.below hb)
  have Io2 := Lib.hid (Io2.out.below hb)
  have Io0 := Lib.hid (Io0.out.below hb)
  clear hb
  go_wp2_with fail
  go_ret
  exact ⟨rfl, HL.out.bel⟩
end Go.Proofs.Ytkcgkfhfogdihaa
/- Walks of the statements CometPlaces, CometLogs, CometMosts, CometOnlys. -/
namespace Go.Proofs.Ytkcgkfhfogdihaa
open Go.RowKit
theorem longs_same (a : Option Addr) (cap n : Nat) (xs : List Int) (b : Option Addr) (cap2 : Nat) (w : World) (hn : xs.length = n) (hn2 : n ≤ 1000000) (ha : Ints .i64 w a xs) (hb : Ints .i64 w b xs) :
    Calls Try.prog 21 #[.slice a n cap, .slice b n cap2] w fun e w' => e = .returned (.bool true) ∧ Below w.heap.size w w' := by
  subst hn
  have := longs_any a cap xs b cap2 xs w hn2 hn2 ha hb
  rw [decide_eq_true rfl] at this
  exact this
theorem later_len (zs : List Int) (d : Int) : (R.later zs d).1.length ≤ 4 := by
  unfold R.later
  split
  · rename_i h
    split
    · simp
    · have := (isPath_zero h).2.1
      show (R.laterOf zs d).length ≤ 4
      unfold R.laterOf; rw [R.diffs_length, R.tab_length]; exact this
  · simp
set_option maxRecDepth 100000 in
set_option maxHeartbeats 2000000 in
theorem places_walk (a : Option Addr) (cap : Nat) (zs : List Int) (d1 d2 : Int) (w : World) (ha : Ints .i64 w a zs) :
    Calls Try.prog 3 #[.slice a zs.length cap, .int .i64 d1, .int .i64 d2] w fun e w' => e = .returned (.bool true) ∧ Below w.heap.size w w' := by
  have HA := Lib.hid ha
  clear ha
  by_cases hl : 10 < zs.length
  · have hl' : (10 : Int) < ↑zs.length := by omega
    clear hl
    go_enter Try.func3, Try.ntmps3
    go_wp2_with fail
    refine (works_any w).mono ?_
    rintro e w1 ⟨rfl, hb⟩
    go_wp2_with fail
    go_ret
    exact ⟨rfl, hb⟩
  · have hl' : (zs.length : Int) ≤ 10 := by omega
    have hl2 : zs.length ≤ 1000000 := by omega
    clear hl
    go_enter Try.func3, Try.ntmps3
    go_wp2_with fail
    refine (cAt_any a cap zs d1 w hl2 HA.out).mono ?_
    rintro e w1 ⟨rfl, hb1⟩
    have HB1 := Lib.hid hb1
    clear hb1
    go_wp2_with fail
    refine (refAt_any a cap zs d1 w1 hl2 (HA.out.below HB1.out)).mono ?_
    rintro e w2 ⟨rfl, hd2⟩
    have HB2 := Lib.hid (HB1.out.trans (hd2.below _))
    clear hd2
    go_wp2_with fail
    refine (cLater_any a cap zs d2 w2 hl2 (HA.out.below HB2.out)).mono ?_
    rintro e w3 ⟨v3, rfl, hown3, hb3⟩
    obtain ⟨-, a3, cap3, rfl, hi3, -⟩ := Ints.of_ownsRow hown3
    have HB3 := Lib.hid (HB2.out.trans (hb3.mono HB2.out.size))
    have HI3 := Lib.hid hi3
    clear hown3 hb3 hi3
    go_wp2_with fail
    refine (refLater_any a cap zs d2 w3 hl2 (HA.out.below HB3.out)).mono ?_
    rintro e w4 ⟨v4, rfl, hown4, hb4⟩
    obtain ⟨-, a4, cap4, rfl, hi4, -⟩ := Ints.of_ownsRow hown4
    have HB4 := Lib.hid (HB3.out.trans (hb4.mono HB3.out.size))
    have HI4 := Lib.hid hi4
    have HI34 := Lib.hid (HI3.out.below hb4)
    clear hown4 hb4 hi4
    go_wp2_with fail
    refine (longs_same _ _ _ (R.later zs d2).1 _ _ w4 rfl (by have := later_len zs d2; omega) HI34.out HI4.out).mono ?_
    rintro e w5 ⟨rfl, hb5⟩
    have HB5 := Lib.hid (HB4.out.trans (hb5.mono HB4.out.size))
    clear hb5
    go_wp2_with fail
    refine (works_any w5).mono ?_
    rintro e w6 ⟨rfl, hb6⟩
    go_wp2_with fail
    go_ret
    exact ⟨rfl, HB5.out.trans (hb6.mono HB5.out.size)⟩
theorem through_len (deg : Int) (l : List (Int × Int)) (ss : List Int) (h : ss.length ≤ 10) : (R.through deg l ss).1.length ≤ 1000000 := by
  unfold R.through
  split
  · simp
  · split
    · simp
    · split
      · simp
      · rename_i hc hs ho
        have hv := R.checkLog_zero (Classical.not_not.1 hc)
        have hd := hv.d3
        split
        · simp
        · rename_i p hp
          have hP := R.sel_piece hv.fit hv.inc (Classical.not_not.1 ho) (by omega)
          have := (hP.pass_some hp).1
          have hl := hP.len
          show p.length ≤ 1000000
          omega
set_option maxRecDepth 100000 in
set_option maxHeartbeats 2000000 in
theorem logs_walk (a : Option Addr) (cap : Nat) (deg : Int) (l : List (Int × Int)) (a1 : Option Addr) (cap1 : Nat) (ss : List Int) (a2 : Option Addr) (cap2 : Nat) (zs : List Int) (w : World) (ha : Sigs w a l) (ha1 : Ints .i64 w a1 ss) (ha2 : Ints .i64 w a2 zs) :
    Calls Try.prog 4 #[.agg #[.int .i64 deg, .slice a l.length cap], .slice a1 ss.length cap1, .slice a2 zs.length cap2] w fun e w' => e = .returned (.bool true) ∧ Below w.heap.size w w' := by
  have hb0 := Below.new w (.cells #[.int .i64 deg, .slice a l.length cap] 33)
  have HL := Lib.hid (Logged.new ha deg cap 33)
  have HA1 := Lib.hid (ha1.below hb0)
  have HA2 := Lib.hid (ha2.below hb0)
  have HB := Lib.hid hb0
  have HG := great_any a cap l.length deg (w.alloc (.cells #[.int .i64 deg, .slice a l.length cap] 33))
  clear ha ha1 ha2 hb0
  by_cases hl : 20 < l.length
  · rw [decide_eq_true hl] at HG
    have HG := Lib.hid HG
    clear hl
    go_enter Try.func4, Try.ntmps4
    go_wp2_with fail
    refine HG.out.mono ?_
    rintro e w1 ⟨rfl, hb1⟩
    have HB1 := Lib.hid (HB.out.trans (hb1.mono HB.out.size))
    go_wp2_with fail
    refine (works_any w1).mono ?_
    rintro e w2 ⟨rfl, hb2⟩
    go_wp2_with fail
    go_ret
    exact ⟨rfl, HB1.out.trans (hb2.mono HB1.out.size)⟩
  rw [decide_eq_false hl] at HG
  have HG := Lib.hid HG
  have hl2 : l.length ≤ 1000000 := by omega
  clear hl
  by_cases hs : 10 < ss.length
  · have hs' : (10 : Int) < ↑ss.length := by omega
    clear hs
    go_enter Try.func4, Try.ntmps4
    go_wp2_with fail
    refine HG.out.mono ?_
    rintro e w1 ⟨rfl, hb1⟩
    have HB1 := Lib.hid (HB.out.trans (hb1.mono HB.out.size))
    go_wp2_with fail
    refine (works_any w1).mono ?_
    rintro e w2 ⟨rfl, hb2⟩
    go_wp2_with fail
    go_ret
    exact ⟨rfl, HB1.out.trans (hb2.mono HB1.out.size)⟩
  have hs' : (ss.length : Int) ≤ 10 := by omega
  have hs2 : ss.length ≤ 1000000 := by omega
  have HS10 : Hid (ss.length ≤ 10) := Lib.hid (by omega)
  clear hs
  by_cases hz : 10 < zs.length
  · have hz' : (10 : Int) < ↑zs.length := by omega
    clear hz
    go_enter Try.func4, Try.ntmps4
    go_wp2_with fail
    refine HG.out.mono ?_
    rintro e w1 ⟨rfl, hb1⟩
    have HB1 := Lib.hid (HB.out.trans (hb1.mono HB.out.size))
    go_wp2_with fail
    refine (works_any w1).mono ?_
    rintro e w2 ⟨rfl, hb2⟩
    go_wp2_with fail
    go_ret
    exact ⟨rfl, HB1.out.trans (hb2.mono HB1.out.size)⟩
  have hz' : (zs.length : Int) ≤ 10 := by omega
  have hz2 : zs.length ≤ 1000000 := by omega
  clear hz
  go_enter Try.func4, Try.ntmps4
  go_wp2_with fail
  refine HG.out.mono ?_
  rintro e w1 ⟨rfl, hb1⟩
  have HB1 := Lib.hid (HB.out.trans (hb1.mono HB.out.size))
  have HL1 := Lib.hid (HL.out.on hb1)
  have HA11 := Lib.hid (HA1.out.below hb1)
  have HA21 := Lib.hid (HA2.out.below hb1)
  clear hb1
  have x := HL1.out.x1
  have y := HL1.out.x2
  go_wp2_with fail
  refine (cThrough_any a cap deg l a1 cap1 ss w1 hl2 hs2 HL1.out.sig HA11.out).mono ?_
  rintro e w2 ⟨v2, rfl, hown, hb2⟩
  obtain ⟨-, a2', cap2', rfl, hi2, -⟩ := Ints.of_ownsRow hown
  have HB2 := Lib.hid (HB1.out.trans (hb2.mono HB1.out.size))
  have HL2 := Lib.hid (HL1.out.on hb2)
  have HA12 := Lib.hid (HA11.out.below hb2)
  have HA22 := Lib.hid (HA21.out.below hb2)
  have HI2 := Lib.hid hi2
  clear hown hb2 hi2 x y
  have x := HL2.out.x1
  have y := HL2.out.x2
  go_wp2_with fail
  refine (refThrough_any a cap deg l a1 cap1 ss w2 hl2 hs2 HL2.out.sig HA12.out).mono ?_
  rintro e w3 ⟨v3, rfl, hown, hb3⟩
  obtain ⟨-, a3', cap3', rfl, hi3, -⟩ := Ints.of_ownsRow hown
  have HB3 := Lib.hid (HB2.out.trans (hb3.mono HB2.out.size))
  have HL3 := Lib.hid (HL2.out.on hb3)
  have HA23 := Lib.hid (HA22.out.below hb3)
  have HI23 := Lib.hid (HI2.out.below hb3)
  have HI3 := Lib.hid hi3
  clear hown hb3 hi3 x y
  have x := HL3.out.x1
  have y := HL3.out.x2
  go_wp2_with fail
  refine (cCheckPath_any a cap deg l a2 cap2 zs w3 hl2 hz2 HL3.out.sig HA23.out).mono ?_
  rintro e w4 ⟨rfl, hb4⟩
  have HB4 := Lib.hid (HB3.out.trans (hb4.mono HB3.out.size))
  have HL4 := Lib.hid (HL3.out.on hb4)
  have HA24 := Lib.hid (HA23.out.below hb4)
  have HI24 := Lib.hid (HI23.out.below hb4)
  have HI34 := Lib.hid (HI3.out.below hb4)
  clear hb4 x y
  have x := HL4.out.x1
  have y := HL4.out.x2
  go_wp2_with fail
  refine (refCheckPath_any a cap deg l a2 cap2 zs w4 hl2 hz2 HL4.out.sig HA24.out).mono ?_
  rintro e w5 ⟨rfl, hb5⟩
  have HB5 := Lib.hid (HB4.out.trans (hb5.mono HB4.out.size))
  have HL5 := Lib.hid (HL4.out.on hb5)
  have HI25 := Lib.hid (HI24.out.below hb5)
  have HI35 := Lib.hid (HI34.out.below hb5)
  clear hb5 x y
  have r0 := cell_regrown HL5.out.x1
  have r1 := cell_regrown HL5.out.x2
  have cA : ∀ dd os, Calls Try.prog 27 #[.agg #[.int .i64 deg, .slice a l.length cap]] (Go.Sort.grow (redrawn w5 dd) os) fun e w'' => e = .returned (.int .i64 (R.checkLog deg l)) ∧ ∃ p : Regrown, w'' = Go.Sort.grow (redrawn w5 p.d) p.os := fun dd os =>
    Calls.regrown_of (cCheckLog_any a cap deg l _ hl2 (HL5.out.sig.below (below_regrown w5 dd os)))
  have cB : ∀ dd os, Calls Try.prog 28 #[.agg #[.int .i64 deg, .slice a l.length cap]] (Go.Sort.grow (redrawn w5 dd) os) fun e w'' => e = .returned (.int .i64 (R.checkLog deg l)) ∧ ∃ p : Regrown, w'' = Go.Sort.grow (redrawn w5 p.d) p.os := fun dd os =>
    Calls.regrown_of (refCheckLog_any a cap deg l _ hl2 (HL5.out.sig.below (below_regrown w5 dd os)))
  have cC : ∀ dd os, Calls Try.prog 21 #[.slice a2' (R.through deg l ss).1.length cap2', .slice a3' (R.through deg l ss).1.length cap3'] (Go.Sort.grow (redrawn w5 dd) os) fun e w'' => e = .returned (.bool true) ∧ ∃ p : Regrown, w'' = Go.Sort.grow (redrawn w5 p.d) p.os := fun dd os =>
    Calls.regrown_of (longs_same _ _ _ (R.through deg l ss).1 _ _ _ rfl (through_len deg l ss HS10.out) (HI25.out.below (below_regrown w5 dd os)) (HI35.out.below (below_regrown w5 dd os)))
  have cD : ∀ dd os, Calls Try.prog 16 #[] (Go.Sort.grow (redrawn w5 dd) os) fun e w'' => e = .returned (.bool true) ∧ ∃ p : Regrown, w'' = Go.Sort.grow (redrawn w5 p.d) p.os := fun dd os =>
    Calls.regrown_of (works_any _)
  go_wp2_with fail
  refine wp_region_quiet_below (by kernel_rfl) (by kernel_rfl) ?_
  repeat (quiet_step (first | exact cA _ _ | exact cB _ _ | exact cC _ _ | exact cD _ _))
  refine wpQuiet_nil ?_
  intro _ hw'
  obtain ⟨⟨dq, osq⟩, hw''⟩ := hw'
  subst hw''
  have HBq := Lib.hid (below_regrown w5 dq osq)
  clear r0 r1 cA cB cC cD
  go_wp2_with fail
  go_ret
  exact ⟨rfl, HB5.out.trans (HBq.out.mono HB5.out.size)⟩
theorem best_check {deg : Int} {l : List (Int × Int)} {p : List Int} (h : C.BestOne deg l p) (h0 : (R.mostE deg l).2 = 0) : R.checkPath deg l p = ((R.mostE deg l).1, 0) := by
  rcases h with ⟨h1, -⟩ | ⟨-, d, rfl, hf, hm⟩
  · exact absurd h0 h1
  · have hc : R.checkLog (d : Int) l = 0 := Classical.byContradiction fun hc => by
      unfold R.mostE at h0; rw [if_pos hc] at h0; exact hc h0
    have hv := R.checkLog_zero hc
    have hp := hf.props hv
    have hpos := hf.pos hv
    have e : R.mostE (d : Int) l = ((R.most (d : Int) l : Int), 0) := by unfold R.mostE; rw [if_neg (not_not_intro hc), if_neg (by omega)]
    rw [e]
    unfold R.checkPath
    rw [if_neg (not_not_intro hc), if_neg (by omega), if_neg (by rw [hp.2]; simp), C.onL_size hv.len, hm]
set_option maxRecDepth 100000 in
set_option maxHeartbeats 2000000 in
theorem mosts_walk (a : Option Addr) (cap : Nat) (deg : Int) (l : List (Int × Int)) (s : Int) (w : World) (ha : Sigs w a l) :
    Calls Try.prog 5 #[.agg #[.int .i64 deg, .slice a l.length cap], .int .i64 s] w fun e w' => e = .returned (.bool true) ∧ Below w.heap.size w w' := by
  have hb0 := Below.new w (.cells #[.int .i64 deg, .slice a l.length cap] 33)
  have HL := Lib.hid (Logged.new ha deg cap 33)
  have HB := Lib.hid hb0
  have HG := great_any a cap l.length deg (w.alloc (.cells #[.int .i64 deg, .slice a l.length cap] 33))
  clear ha hb0
  by_cases hl : 20 < l.length
  · rw [decide_eq_true hl] at HG
    have HG := Lib.hid HG
    clear hl
    go_enter Try.func5, Try.ntmps5
    go_wp2_with fail
    refine HG.out.mono ?_
    rintro e w1 ⟨rfl, hb1⟩
    have HB1 := Lib.hid (HB.out.trans (hb1.mono HB.out.size))
    go_wp2_with fail
    refine (works_any w1).mono ?_
    rintro e w2 ⟨rfl, hb2⟩
    go_wp2_with fail
    go_ret
    exact ⟨rfl, HB1.out.trans (hb2.mono HB1.out.size)⟩
  rw [decide_eq_false hl] at HG
  have HG := Lib.hid HG
  have hl2 : l.length ≤ 1000000 := by omega
  clear hl
  go_enter Try.func5, Try.ntmps5
  go_wp2_with fail
  refine HG.out.mono ?_
  rintro e w1 ⟨rfl, hb1⟩
  have HB1 := Lib.hid (HB.out.trans (hb1.mono HB.out.size))
  have HL1 := Lib.hid (HL.out.on hb1)
  clear hb1
  have x := HL1.out.x1
  have y := HL1.out.x2
  go_wp2_with fail
  refine (cMost_any a cap deg l w1 hl2 HL1.out.sig).mono ?_
  rintro e w2 ⟨rfl, hb2⟩
  have HB2 := Lib.hid (HB1.out.trans (hb2.mono HB1.out.size))
  have HL2 := Lib.hid (HL1.out.on hb2)
  clear hb2 x y
  have x := HL2.out.x1
  have y := HL2.out.x2
  go_wp2_with fail
  refine (refMost_any a cap deg l w2 hl2 HL2.out.sig).mono ?_
  rintro e w3 ⟨rfl, hb3⟩
  have HB3 := Lib.hid (HB2.out.trans (hb3.mono HB2.out.size))
  have HL3 := Lib.hid (HL2.out.on hb3)
  clear hb3 x y
  have x := HL3.out.x1
  have y := HL3.out.x2
  go_wp2_with fail
  refine (cCount_any a cap deg l w3 hl2 HL3.out.sig).mono ?_
  rintro e w4 ⟨rfl, hb4⟩
  have HB4 := Lib.hid (HB3.out.trans (hb4.mono HB3.out.size))
  have HL4 := Lib.hid (HL3.out.on hb4)
  clear hb4 x y
  have x := HL4.out.x1
  have y := HL4.out.x2
  go_wp2_with fail
  refine (refCount_any a cap deg l w4 hl2 HL4.out.sig).mono ?_
  rintro e w5 ⟨rfl, hb5⟩
  have HB5 := Lib.hid (HB4.out.trans (hb5.mono HB4.out.size))
  have HL5 := Lib.hid (HL4.out.on hb5)
  clear hb5 x y
  have x := HL5.out.x1
  have y := HL5.out.x2
  go_wp2_with fail
  refine (cKind_any a cap deg l s w5 hl2 HL5.out.sig).mono ?_
  rintro e w6 ⟨rfl, hb6⟩
  have HB6 := Lib.hid (HB5.out.trans (hb6.mono HB5.out.size))
  have HL6 := Lib.hid (HL5.out.on hb6)
  clear hb6 x y
  have x := HL6.out.x1
  have y := HL6.out.x2
  go_wp2_with fail
  refine (refKind_any a cap deg l s w6 hl2 HL6.out.sig).mono ?_
  rintro e w7 ⟨rfl, hb7⟩
  have HB7 := Lib.hid (HB6.out.trans (hb7.mono HB6.out.size))
  have HL7 := Lib.hid (HL6.out.on hb7)
  clear hb7 x y
  have x := HL7.out.x1
  have y := HL7.out.x2
  go_wp2_with fail
  refine (cPath_any a cap deg l w7 hl2 HL7.out.sig).mono ?_
  rintro e w8 ⟨v8, p, rfl, hown, hbo, hb8⟩
  obtain ⟨-, a8, cap8, rfl, hi8, -⟩ := Ints.of_ownsRow hown
  have HB8 := Lib.hid (HB7.out.trans (hb8.mono HB7.out.size))
  have HL8 := Lib.hid (HL7.out.on hb8)
  have HI8 := Lib.hid hi8
  have HBO := Lib.hid hbo
  clear hb8 x y hown hi8 hbo
  by_cases h0 : (R.mostE deg l).2 = 0
  · have HCk := Lib.hid (best_check HBO.out h0)
    have hpl : p.length ≤ 1000000 := by
      rcases HBO.out with ⟨-, rfl⟩ | ⟨-, d, rfl, hf, -⟩
      · simp
      · have hc : R.checkLog (d : Int) l = 0 := Classical.byContradiction fun hc => by
          unfold R.mostE at h0; rw [if_pos hc] at h0; exact hc h0
        have hv := R.checkLog_zero hc
        have := (hf.props hv).1; have := hv.d3; omega
    have h0' : ((R.mostE deg l).2 != 0) = false := by simp [h0]
    have x := HL8.out.x1
    have y := HL8.out.x2
    have HR := refCheckPath_any a cap deg l a8 cap8 p w8 hl2 hpl HL8.out.sig HI8.out
    rw [HCk.out] at HR
    have HR := Lib.hid HR
    clear h0
    go_wp2_with fail
    refine HR.out.mono ?_
    rintro e w9 ⟨rfl, hb9⟩
    have HB9 := Lib.hid (HB8.out.trans (hb9.mono HB8.out.size))
    clear hb9
    go_wp2_with fail
    refine (works_any w9).mono ?_
    rintro e w10 ⟨rfl, hb10⟩
    go_wp2_with fail
    go_ret
    exact ⟨rfl, HB9.out.trans (hb10.mono HB9.out.size)⟩
  · have h0' : ((R.mostE deg l).2 != 0) = true := by rw [bne_iff_ne]; exact h0
    obtain rfl : p = [] := by
      rcases HBO.out with ⟨-, h⟩ | ⟨h, -⟩
      · exact h
      · exact absurd h h0
    clear h0
    go_wp2_with fail
    refine (works_any w8).mono ?_
    rintro e w10 ⟨rfl, hb10⟩
    go_wp2_with fail
    go_ret
    exact ⟨rfl, HB8.out.trans (hb10.mono HB8.out.size)⟩
end Go.Proofs.Ytkcgkfhfogdihaa
/- Walk of the statement CometOnlys. -/
namespace Go.Proofs.Ytkcgkfhfogdihaa
open Go.RowKit
theorem only_len (deg : Int) (l : List (Int × Int)) (s : Int) : (R.onlyE deg l s).1.length ≤ 1000000 := by
  unfold R.onlyE
  split
  · simp
  · rename_i hc
    split
    · simp
    · split
      · simp
      · have hv := R.checkLog_zero (Classical.not_not.1 hc)
        cases R.onlyHit deg l s with
        | none => simp [R.onlyR]
        | some b =>
          show ((R.pass (R.firstTo deg l b l.length)).getD []).length ≤ 1000000
          cases hp : R.pass (R.firstTo deg l b l.length) with
          | none => simp
          | some p =>
            have hP := R.first_piece hv b
            have := (hP.pass_some hp).1
            have hl := hP.len
            show p.length ≤ 1000000
            omega
set_option maxRecDepth 100000 in
set_option maxHeartbeats 2000000 in
theorem onlys_walk (a : Option Addr) (cap : Nat) (deg : Int) (l : List (Int × Int)) (s : Int) (w : World) (hcap : l.length ≤ cap) (ha : Sigs w a l) :
    Calls Try.prog 6 #[.agg #[.int .i64 deg, .slice a l.length cap], .int .i64 s] w fun e w' => e = .returned (.bool true) ∧ Below w.heap.size w w' := by
  have hb0 := Below.new w (.cells #[.int .i64 deg, .slice a l.length cap] 33)
  have HL := Lib.hid (Logged.new ha deg cap 33)
  have HB := Lib.hid hb0
  have HG := great_any a cap l.length deg (w.alloc (.cells #[.int .i64 deg, .slice a l.length cap] 33))
  clear ha hb0
  by_cases hl : 20 < l.length
  · rw [decide_eq_true hl] at HG
    have HG := Lib.hid HG
    clear hl
    go_enter Try.func6, Try.ntmps6
    go_wp2_with fail
    refine HG.out.mono ?_
    rintro e w1 ⟨rfl, hb1⟩
    have HB1 := Lib.hid (HB.out.trans (hb1.mono HB.out.size))
    go_wp2_with fail
    refine (works_any w1).mono ?_
    rintro e w2 ⟨rfl, hb2⟩
    go_wp2_with fail
    go_ret
    exact ⟨rfl, HB1.out.trans (hb2.mono HB1.out.size)⟩
  rw [decide_eq_false hl] at HG
  have HG := Lib.hid HG
  have hl2 : l.length ≤ 1000000 := by omega
  clear hl
  go_enter Try.func6, Try.ntmps6
  go_wp2_with fail
  refine HG.out.mono ?_
  rintro e w1 ⟨rfl, hb1⟩
  have HB1 := Lib.hid (HB.out.trans (hb1.mono HB.out.size))
  have HL1 := Lib.hid (HL.out.on hb1)
  clear hb1
  have x := HL1.out.x1
  have y := HL1.out.x2
  go_wp2_with fail
  refine (cOnly_any a cap deg l s w1 hl2 HL1.out.sig).mono ?_
  rintro e w2 ⟨v2, rfl, hown, hb2⟩
  obtain ⟨-, a2, cap2, rfl, hi2, -⟩ := Ints.of_ownsRow hown
  have HB2 := Lib.hid (HB1.out.trans (hb2.mono HB1.out.size))
  have HL2 := Lib.hid (HL1.out.on hb2)
  have HI2 := Lib.hid hi2
  clear hown hb2 hi2 x y
  have x := HL2.out.x1
  have y := HL2.out.x2
  go_wp2_with fail
  refine (refOnly_any a cap deg l s w2 hl2 HL2.out.sig).mono ?_
  rintro e w3 ⟨v3, rfl, hown, hb3⟩
  obtain ⟨-, a3, cap3, rfl, hi3, -⟩ := Ints.of_ownsRow hown
  have HB3 := Lib.hid (HB2.out.trans (hb3.mono HB2.out.size))
  have HL3 := Lib.hid (HL2.out.on hb3)
  have HI23 := Lib.hid (HI2.out.below hb3)
  have HI3 := Lib.hid hi3
  clear hown hb3 hi3 x y
  have x := HL3.out.x1
  have y := HL3.out.x2
  go_wp2_with fail
  refine (cLeast_any a cap deg l w3 hl2 HL3.out.sig).mono ?_
  rintro e w4 ⟨rfl, hb4⟩
  have HB4 := Lib.hid (HB3.out.trans (hb4.mono HB3.out.size))
  have HL4 := Lib.hid (HL3.out.on hb4)
  have HI24 := Lib.hid (HI23.out.below hb4)
  have HI34 := Lib.hid (HI3.out.below hb4)
  clear hb4 x y
  have x := HL4.out.x1
  have y := HL4.out.x2
  go_wp2_with fail
  refine (refLeast_any a cap deg l w4 hl2 hcap HL4.out.sig).mono ?_
  rintro e w5 ⟨rfl, hb5⟩
  have HB5 := Lib.hid (HB4.out.trans (hb5.mono HB4.out.size))
  have HI25 := Lib.hid (HI24.out.below hb5)
  have HI35 := Lib.hid (HI34.out.below hb5)
  clear hb5 x y
  go_wp2_with fail
  refine (longs_same _ _ _ (R.onlyE deg l s).1 _ _ w5 rfl (only_len deg l s) HI25.out HI35.out).mono ?_
  rintro e w6 ⟨rfl, hb6⟩
  have HB6 := Lib.hid (HB5.out.trans (hb6.mono HB5.out.size))
  clear hb6
  go_wp2_with fail
  refine (works_any w6).mono ?_
  rintro e w7 ⟨rfl, hb7⟩
  go_wp2_with fail
  go_ret
  exact ⟨rfl, HB6.out.trans (hb7.mono HB6.out.size)⟩
end Go.Proofs.Ytkcgkfhfogdihaa
