/- Walk of the statement CometStill. -/
import Derived.Test.YtkcgkfhfogdihaaLawH
namespace Go.Proofs.Ytkcgkfhfogdihaa
open Go.RowKit
theorem rem_nat {n : Int} (h : 0 ≤ n) (m : Nat) (hm : 0 < m) : ∃ d : Nat, d < m ∧ n.tmod m = (d : Int) := by
  obtain ⟨k, rfl⟩ := Int.eq_ofNat_of_zero_le h
  exact ⟨k % m, Nat.mod_lt _ hm, rfl⟩
theorem ints_drop {k : IntKind} {w : World} {b off : Nat} {zs : List Int} (h : Ints k w (some ⟨b, off, none⟩) zs) : Ints k w (some ⟨b, off + 1, none⟩) (zs.drop 1) := fun i hi => by
  rw [List.length_drop] at hi
  have := h.cellAt (i + 1) (by omega)
  refine ⟨b, off + 1, rfl, ?_⟩
  rw [show off + 1 + i = off + (i + 1) by omega, this]
  simp [nth]
set_option maxRecDepth 100000 in
set_option maxHeartbeats 4000000 in
theorem still_walk (n0 : Int) (b : List Int) (n2 : Int) (w : World) (h0 : (Lit.int .u8 n0).wf = true) (hb : Small b) (h2 : (Lit.int .u8 n2).wf = true) :
    Calls Try.prog 14 #[.int .u8 n0, by8 b, .int .u8 n2] w fun e w' => e = .returned (.bool true) ∧ Below w.heap.size w w' := by
  have HB0 := Lib.hid (Below.new w (.cells #[.int .i8 (nth b 0), .int .i8 (nth b 1), .int .i8 (nth b 2), .int .i8 (nth b 3)] 47))
  obtain ⟨d, hd, hd'⟩ := rem_nat (u8_bd h0).1 4 (by decide)
  obtain ⟨k, hk, hk'⟩ := rem_nat (u8_bd h2).1 60 (by decide)
  have hu0 := u8_bd h0
  have hu2 := u8_bd h2
  have k1 : IntKind.i64.wrap n0 = n0 := IntWalk.i64_in _ (by omega)
  have k2 : IntKind.i64.wrap n2 = n2 := IntWalk.i64_in _ (by omega)
  have k3 : IntKind.i64.wrap (d : Int) = (d : Int) := IntWalk.i64_in _ (by omega)
  have k4 : IntKind.i64.wrap (k : Int) = (k : Int) := IntWalk.i64_in _ (by omega)
  have k5 : IntKind.i64.wrap ((k : Int) + 1) = (k : Int) + 1 := IntWalk.i64_in _ (by omega)
  have hd' : n0.tmod 4 = (d : Int) := hd'
  have hk' : n2.tmod 60 = (k : Int) := hk'
  have HGv := Lib.hid (given_any d b (w.alloc (.cells #[.int .i8 (nth b 0), .int .i8 (nth b 1), .int .i8 (nth b 2), .int .i8 (nth b 3)] 47)) (by omega) hb)
  unfold by8 at HGv
  clear h0 h2 hu0 hu2
  have HP := Lib.hid (given_length b (d + 1))
  have HN := Lib.hid (given_num b (d + 1))
  unfold by8
  go_enter Try.func14, Try.ntmps14
  go_wp2_with fail
  refine HGv.out.mono ?_
  rintro e w1 ⟨v1, rfl, hown1, hb1⟩
  obtain ⟨-, a1, cap1, rfl, hi1, hcap1⟩ := Ints.of_ownsRow hown1
  have HB1 := Lib.hid (HB0.out.trans (hb1.mono HB0.out.size))
  generalize given b (d + 1) = p at *
  have hp4 : p.length ≤ 4 := by rw [HP.out]; omega
  have HI1 := Lib.hid hi1
  clear hown1 hb1 hi1 HGv
  have HAt := fun (c : Int) W (hW : Ints .i64 W a1 p) (hc0 : 0 ≤ c) (hc1 : c ≤ 60) => cAt_any a1 cap1 p c W (by omega) hW
  have HAt : Hid (∀ (c : Int) W, Ints .i64 W a1 p → 0 ≤ c → c ≤ 60 → Calls Try.prog 17 #[.slice a1 (d + 1) cap1, .int .i64 c] W fun e w' => e = .returned (.tuple #[.int .i64 (R.atD p c), .int .i64 0]) ∧ Below W.heap.size W w') := Lib.hid (fun c W hW hc0 hc1 => by
    have := HAt c W hW hc0 hc1
    rw [at_ok (by rw [HP.out]; omega) hp4 HN.out hc0 hc1, HP.out] at this
    exact this)
  go_wp2_with fail
  refine (HAt.out k w1 HI1.out (by omega) (by omega)).mono ?_
  rintro e w2 ⟨rfl, hb2⟩
  have HB2 := Lib.hid (HB1.out.trans (hb2.mono HB1.out.size))
  have HI2 := Lib.hid (HI1.out.below hb2)
  clear hb2
  go_wp2_with fail
  refine (HAt.out ((k : Int) + 1) w2 HI2.out (by omega) (by omega)).mono ?_
  rintro e w3 ⟨rfl, hb3⟩
  have HB3 := Lib.hid (HB2.out.trans (hb3.mono HB2.out.size))
  have HI3 := Lib.hid (HI2.out.below hb3)
  clear hb3
  have HLa := cLater_any a1 cap1 p k w3 (by omega) HI3.out
  rw [later_ok (by rw [HP.out]; omega) hp4 HN.out (by omega) (by omega), HP.out] at HLa
  have HLa := Lib.hid HLa
  go_wp2_with fail
  refine HLa.out.mono ?_
  rintro e w4 ⟨v4, rfl, hown4, hb4⟩
  obtain ⟨-, a4, cap4, rfl, hi4, hcap4⟩ := Ints.of_ownsRow hown4
  simp only [laterOf_length] at hcap4 ⊢
  rw [HP.out] at hcap4 ⊢
  have HB4 := Lib.hid (HB3.out.trans (hb4.mono HB3.out.size))
  have hi14 := HI3.out.below hb4
  have hlf := later_first hp4 (by rw [HP.out]; omega) k
  have hll := later_last hp4 (by rw [HP.out]; omega) k
  rw [HP.out, Nat.add_sub_cancel] at hll
  obtain ⟨b4, o4, rfl, c40⟩ := hi4 0 (by rw [laterOf_length, HP.out]; omega)
  have c4d := hi4.cellAt d (by rw [laterOf_length, HP.out]; omega)
  obtain ⟨b1, o1, rfl, c10⟩ := hi14 0 (by rw [HP.out]; omega)
  have c1d := hi14.cellAt d (by rw [HP.out]; omega)
  rw [hlf] at c40
  rw [hll] at c4d
  simp only [Nat.add_zero] at c40 c10
  have HI14 := Lib.hid hi14
  have HAA := Lib.hid (fun (h2 : 2 ≤ p.length) => step_less hp4 h2 k)
  have HA0 := Lib.hid (R.atD_bd HN.out hp4 (day := (k : Int)) (by omega) (by omega))
  have HA1 := Lib.hid (R.atD_bd HN.out hp4 (day := (k : Int) + 1) (by omega) (by omega))
  have HOne := Lib.hid (fun (h1 : p.length = 1) => show R.atD p k = nth p 0 ∧ R.atD p (k + 1) = nth p 0 by
    obtain ⟨x, rfl⟩ := List.length_eq_one_iff.1 h1
    exact ⟨at_one x _, at_one x _⟩)
  clear hown4 hb4 hi4 hi14 hlf hll HLa
  generalize hA : R.atD p (k : Int) = A at *
  generalize hA1 : R.atD p ((k : Int) + 1) = A1 at *
  generalize nth p 0 = x0 at *
  generalize nth p d = xd at *
  have HAe := Lib.hid (And.intro hA hA1)
  clear hA hA1
  have q1 : (d : Int) < ↑d + 1 := by omega
  have q2 : (0 : Int) < (d : Int) + 1 := by omega
  have q3 : (0 : Int) ≤ (d : Int) := by omega
  go_wp2_with fail
  go_quiet (fail)
  have hd5 : Below w4.heap.size w4 (w4.drewN nq) := (Drew.refl _).drewN _ |>.below _
  generalize w4.drewN nq = w5 at *
  have c10' := cell_on hd5 c10
  have HI15 := Lib.hid (HI14.out.below hd5)
  have HB5 := Lib.hid (HB4.out.trans (hd5.mono HB4.out.size))
  clear hd5 c40 c10 c4d c1d
  by_cases hd0 : d = 0
  · have hz : ((d : Int) == 0) = true := by rw [hd0]; rfl
    obtain ⟨e1, e2⟩ := HOne.out (by rw [HP.out, hd0])
    subst e1 e2
    clear hd0
    go_wp2_with fail
    refine (works_any w5).mono ?_
    rintro e w6 ⟨rfl, hb6⟩
    go_wp2_with fail
    go_ret
    exact ⟨rfl, HB5.out.trans (hb6.mono HB5.out.size)⟩
  · have hz : ((d : Int) == 0) = false := by simp; omega
    have q4 : (1 : Int) ≤ (d : Int) + 1 := by omega
    have HDr : Hid ((p.drop 1).length = d) := Lib.hid (by rw [List.length_drop, HP.out]; omega)
    have HNd : Hid ((p.drop 1).all R.numOk = true) := Lib.hid (by
      rw [List.all_eq_true]; intro x hx; exact List.all_eq_true.1 HN.out x (List.mem_of_mem_drop hx))
    have HC := cAt_any (some ⟨b1, o1 + 1, none⟩) (cap1 - 1) (p.drop 1) k w5 (by rw [HDr.out]; omega) (ints_drop HI15.out)
    rw [at_ok (by rw [HDr.out]; omega) (by rw [HDr.out]; omega) HNd.out (by omega) (by omega), HDr.out, ← HAA.out (by rw [HP.out]; omega)] at HC
    have HC := Lib.hid HC
    have hcapI : (1 : Int) ≤ (cap1 : Int) := by omega
    have hne1 : ¬ cap1 = 1 := by omega
    have hcapJ : (d : Int) + 1 ≤ (cap1 : Int) := by omega
    have kA : IntKind.i64.wrap (A1 - A) = A1 - A := IntWalk.i64_in _ (by have h1 := HA0.out; have h2 := HA1.out; unfold R.big at h1 h2; omega)
    clear hd0
    go_wp2_with fail
    refine HC.out.mono ?_
    rintro e w6 ⟨rfl, hb6⟩
    have HB6 := Lib.hid (HB5.out.trans (hb6.mono HB5.out.size))
    clear hb6
    go_wp2_with fail
    refine (works_any w6).mono ?_
    rintro e w7 ⟨rfl, hb7⟩
    go_wp2_with fail
    go_ret
    exact ⟨rfl, HB6.out.trans (hb7.mono HB6.out.size)⟩
end Go.Proofs.Ytkcgkfhfogdihaa
