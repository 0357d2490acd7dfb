/- One text of OpenB, LawO. -/
import Derived.Test.YtcjbnifafofpbaaGreatDoorJ23
import Derived.Deep.Slices
import Derived.Lib.SmallJoins
/- Opening the arguments of the statements: slices of states. -/
namespace Go.Proofs.YtcjbnifafofpbaaGreatDoor
open Go.ChangeShapes Go.WideShapes Go.ChangeAt Go.RowKit
section
variable {H : Type} {enc : TypeId × Value → H} {P : Program} {w : World} {base : Nat} {spare : Nat → Bool} {held : Bool}
/-- A slice of structs of three one-cell fields, as far as it reaches. -/
theorem open_triples {t e : TypeId} {f0 f1 f2 : Field} {fuel : Nat} {cs : List Value} {x : DataW H × List MemPlace} (ht : P.underlying t = some (.slice e)) (he : P.underlying e = some (.struct #[f0, f1, f2]))
    (ce : P.cellsOf e = 3) (o0 : f0.offset = 0) (o1 : f1.offset = 1) (o2 : f2.offset = 2) (c0 : P.cellsOf f0.type = 1) (c1 : P.cellsOf f1.type = 1) (c2 : P.cellsOf f2.type = 1)
    (h : DataW.trod enc P w base spare held fuel t cs = some x) :
    cs = [.slice none 0 0] ∨
    ∃ (a : Addr) (len cap : Nat), cs = [.slice (some a) len cap] ∧ len ≤ cap ∧
      ∀ i, i < len → ∃ v0 v1 v2, w.cell? (a.add (i * 3)) = some v0 ∧ w.cell? (a.add (i * 3 + 1)) = some v1 ∧ w.cell? (a.add (i * 3 + 2)) = some v2 ∧
        ∃ n y0 y1 y2, DataW.trod enc P w base spare held n f0.type [v0] = some y0 ∧ DataW.trod enc P w base spare held n f1.type [v1] = some y1 ∧ DataW.trod enc P w base spare held n f2.type [v2] = some y2 := by
  rcases Go.Deep.open_slice ht h with h0 | ⟨a, len, cap, m, n, D, Pl, rfl, hb, hl, hm, hmm, rfl, hx⟩
  · exact Or.inl h0.1
  right
  have hlm : len ≤ m := by rw [hmm]; split <;> omega
  refine ⟨a, len, cap, rfl, hl, fun i hi => ?_⟩
  obtain ⟨cs', h1, h2⟩ := hx i (by omega)
  rw [ce] at h1
  obtain ⟨_, hlen, hcell⟩ := World.cells?_some h1
  obtain ⟨xs, k, hk, hxy, _, hxl, hf⟩ := DataW.trod_struct he h2
  match xs, hxl, cs', hlen with
  | [y0, y1, y2], _, [v0, v1, v2], _ =>
    have g0 := hf 0 f0 rfl
    have g1 := hf 1 f1 rfl
    have g2 := hf 2 f2 rfl
    simp [o0, o1, o2, c0, c1, c2] at g0 g1 g2
    have e0 := hcell 0 (by omega)
    have e1 := hcell 1 (by omega)
    have e2 := hcell 2 (by omega)
    rw [Go.Deep.add_add] at e0 e1 e2
    exact ⟨v0, v1, v2, by simpa using e0, by simpa using e1, by simpa using e2, k, y0, y1, y2, g0, g1, g2⟩
end
theorem nth_takeR (zs : List Int) (n i : Nat) (h : i < n) : nth (zs.take n) i = nth zs i := by
  unfold nth
  rw [List.getD_eq_getElem?_getD, List.getD_eq_getElem?_getD, List.getElem?_take, if_pos h]
set_option maxRecDepth 100000 in
theorem open_ways {H : Type} {enc : TypeId × Value → H} {W : World} {sp : Nat → Bool} {held : Bool} {fuel : Nat} {v : Value} {x : DataW H × List MemPlace}
    (hf : DataW.trod enc Tryz.prog W 0 sp held fuel 56 [v] = some x) : ∃ a cap zs, v = .slice a zs.length cap ∧ Ints .i64 W a zs := by
  rcases open_ints Tryz.underlying56 Tryz.underlying3 (by kernel_rfl) hf with ⟨hcs, _⟩ | ⟨x, len, cap, zs, hcs, _, hl, hm, hz, _, hcell, hwz⟩
  · simp only [List.cons.injEq, and_true] at hcs
    subst hcs
    exact ⟨none, 0, [], rfl, fun i hi => by simp at hi⟩
  · simp only [List.cons.injEq, and_true] at hcs
    subst hcs
    have hlz : len ≤ zs.length := by rw [hz]; split <;> omega
    have hlen : (zs.take len).length = len := by rw [List.length_take]; omega
    refine ⟨some x, cap, zs.take len, by rw [hlen], fun i hi => ?_⟩
    rw [hlen] at hi
    have hci := hcell i (by omega)
    obtain ⟨b, off, rfl⟩ := spot_none (hcell 0 (by omega))
    refine ⟨b, off, rfl, ?_⟩
    rw [nth_takeR _ _ _ hi]
    rw [addr_add] at hci; exact hci
set_option maxRecDepth 100000 in
theorem open_states {H : Type} {enc : TypeId × Value → H} {W : World} {base : Nat} {sp : Nat → Bool} {held : Bool} {v : Value} {d : DataW H} {q : List MemPlace}
    (hv : Value.okWide Tryz.prog W .any base 25 v) (h : DataW.Trod enc Tryz.prog W 0 sp held 25 v d q) : ∃ a cap s, v = .slice a s.length cap ∧ Sts W a s := by
  obtain ⟨a, len, cap, rfl⟩ := okWide_slice Tryz.underlying25 hv
  obtain ⟨fuel, hf⟩ := h
  rcases open_triples (t := 25) (e := 58) Tryz.underlying25 Tryz.underlying58 (by kernel_rfl) rfl rfl rfl (by kernel_rfl) (by kernel_rfl) (by kernel_rfl) hf with hcs | ⟨x, l, c, hcs, hl, hx⟩
  · simp [Value.cells] at hcs
    obtain ⟨rfl, rfl, rfl⟩ := hcs
    exact ⟨none, 0, [], rfl, fun i hi => by simp at hi⟩
  · simp [Value.cells] at hcs
    obtain ⟨rfl, rfl, rfl⟩ := hcs
    have each : ∀ i, ∃ s : X.St, i < len → W.cell? (x.add (i * 3)) = some (.int .i64 s.ends) ∧ W.cell? (x.add (i * 3 + 1)) = some (sv s.letters) ∧ ∃ a2 cap2, W.cell? (x.add (i * 3 + 2)) = some (.slice a2 s.next.length cap2) ∧ Ints .i64 W a2 s.next := fun i => by
      by_cases hi : i < len
      · obtain ⟨u0, u1, u2, k0, k1, k2, m, z0, z1, z2, t0, t1, t2⟩ := hx i hi
        obtain ⟨n0, f0, -, -⟩ := DataW.trod_int Tryz.underlying3 t0
        obtain ⟨n1, f1, -, -⟩ := DataW.trod_string Tryz.underlying9 t1
        obtain ⟨a2, cap2, zs, f2, hi2⟩ := open_ways t2
        simp only [List.cons.injEq, and_true] at f0 f1
        subst f0; subst f1; subst f2
        exact ⟨⟨n0, n1.data.toList, zs⟩, fun _ => ⟨k0, by rw [k1], a2, cap2, k2, hi2⟩⟩
      · exact ⟨⟨0, [], []⟩, fun h => absurd h hi⟩
    obtain ⟨s, hs⟩ := Classical.axiomOfChoice each
    refine ⟨some x, cap, (List.range len).map s, by simp, fun i hi => ?_⟩
    simp only [List.length_map, List.length_range] at hi
    obtain ⟨c0, c1, a2, cap2, c2, i2⟩ := hs i hi
    have c00 := (hs 0 (by omega)).1
    rw [Nat.zero_mul] at c00
    obtain ⟨b, off, rfl⟩ := spot_none c00
    rw [addr_add] at c0 c1 c2
    rw [← Nat.add_assoc] at c1 c2
    have e : X.at_ ((List.range len).map s) i = s i := by simp [X.at_, hi]
    rw [e]
    exact ⟨b, off, rfl, c0, c1, a2, cap2, c2, i2⟩
end Go.Proofs.YtcjbnifafofpbaaGreatDoor
/- Walk of IndexReads. -/
namespace Go.Proofs.YtcjbnifafofpbaaGreatDoor
open Go.RowKit Go.Lib
/-- An automaton that is too great for a statement. -/
def wideB (s : List X.St) : Bool := decide (310 < s.length) || s.any (fun x => decide (30 < x.letters.length) || decide (30 < x.next.length))
theorem wideB_false {s : List X.St} (h : wideB s = false) : s.length ≤ 310 ∧ Few s := by
  unfold wideB at h
  rw [Bool.or_eq_false_iff, decide_eq_false_iff_not, List.any_eq_false] at h
  refine ⟨by omega, fun x hx => ?_⟩
  have := h.2 x hx
  rw [Bool.or_eq_true, decide_eq_true_iff, decide_eq_true_iff] at this
  omega
theorem wide_any (a : Option Addr) (cap : Nat) (s : List X.St) (w : World) (ha : Sts w a s) :
    Calls Tryz.prog 23 #[.slice a s.length cap] w fun e w' => e = .returned (.bool (wideB s)) ∧ w = w' := by
  have HA := Lib.hid ha
  clear ha
  by_cases h40 : 310 < s.length
  · have hI : (310 : Int) < (s.length : Int) := by omega
    have HF : Hid (wideB s = true) := Lib.hid (by unfold wideB; rw [decide_eq_true h40]; rfl)
    go_enter Tryz.func23, Tryz.ntmps23
    go_wp2
    go_ret
    exact ⟨ret_bool HF.out.symm, rfl⟩
  · have hI : ¬ (310 : Int) < (s.length : Int) := by omega
    have HF0 : Hid (wideB s = s.any (fun x => decide (30 < x.letters.length) || decide (30 < x.next.length))) := Lib.hid (by unfold wideB; rw [decide_eq_false h40]; rfl)
    go_enter Tryz.func23, Tryz.ntmps23
    go_wp2
    go_loopw [3] (fun i wr => ∃ j : Nat, j ≤ s.length ∧ i = .int .i64 j ∧ Hid (∀ k, k < j → (X.at_ s k).letters.length ≤ 30 ∧ (X.at_ s k).next.length ≤ 30) ∧ w = wr) (fun i _ => s.length - (RowKit.intOf i).toNat)
    case atStart => exact ⟨0, by omega, rfl, Lib.hid (fun k hk => by omega), rfl⟩
    case round =>
      obtain ⟨j, hj, rfl, HS, rfl⟩ := hrel
      by_cases hlt : j < s.length
      · have hltI : (j : Int) < (s.length : Int) := by omega
        have hj0 : (0 : Int) ≤ (j : Int) := by omega
        obtain ⟨b1, off1, rfl, c0, c1, a2, cap2, c2, -⟩ := HA.out j hlt
        have HT : Hid (30 < (X.at_ s j).letters.length ∨ 30 < (X.at_ s j).next.length → wideB s = true) := Lib.hid (fun h => by
          rw [HF0.out, List.any_eq_true]
          exact ⟨_, X.at_mem hlt, by rw [Bool.or_eq_true, decide_eq_true_iff, decide_eq_true_iff]; exact h⟩)
        have HS2 : Hid ((X.at_ s j).letters.length ≤ 30 → (X.at_ s j).next.length ≤ 30 → ∀ k, k < j + 1 → (X.at_ s k).letters.length ≤ 30 ∧ (X.at_ s k).next.length ≤ 30) := Lib.hid (fun h1 h2 k hk => by
          rcases Nat.lt_succ_iff_lt_or_eq.1 hk with h | rfl
          · exact HS.out k h
          · exact ⟨h1, h2⟩)
        clear c0
        generalize (X.at_ s j).letters = A at *
        generalize (X.at_ s j).next = N at *
        by_cases h1 : 30 < A.length
        · have HF := Lib.hid (HT.out (.inl h1))
          have h2 : (30 : Int) < (A.length : Int) := by omega
          clear HT HS2
          go_wp2
          go_ret
          exact ⟨ret_bool HF.out.symm, rfl⟩
        · have h1I : ¬ (30 : Int) < (A.length : Int) := by omega
          by_cases h2 : 30 < N.length
          · have HF := Lib.hid (HT.out (.inr h2))
            have h2I : (30 : Int) < (N.length : Int) := by omega
            clear HT HS2
            go_wp2
            go_ret
            exact ⟨ret_bool HF.out.symm, rfl⟩
          · have h2I : ¬ (30 : Int) < (N.length : Int) := by omega
            have HS3 := Lib.hid (HS2.out (by omega) (by omega))
            clear HT HS2
            go_wp2
            go_roundw
            case rel => exact ⟨j + 1, by omega, by go_num, HS3, by trivial⟩
            case measure => simp [RowKit.intOf]; omega
      · have HF : Hid (wideB s = false) := Lib.hid (by
          rw [HF0.out, List.any_eq_false]
          intro x hx
          rw [Bool.or_eq_true, decide_eq_true_iff, decide_eq_true_iff]
          obtain ⟨k, hk, rfl⟩ := List.mem_iff_getElem.1 hx
          have := HS.out k (by omega)
          have e : X.at_ s k = s[k] := by unfold X.at_; simp [hk]
          rw [e] at this; omega)
        go_wp2
        go_ret
        exact ⟨ret_bool HF.out.symm, rfl⟩
set_option maxRecDepth 20000 in
set_option maxHeartbeats 8000000 in
theorem reads_walk (a0 : Option Addr) (cap0 : Nat) (l0 : List X.St) (s1 : X.W) (n2 : Int) (w : World) (w0 : Sts w a0 l0)  (_w2 : (Lit.int .i64 n2).wf = true) :
    Calls Tryz.prog 4 #[.slice a0 l0.length cap0, sv s1, .int .i64 n2] w fun e w' => e = .returned (.bool true) ∧ RowKit.Below w.heap.size w w' := by
  have HB0 := Lib.hid (RowKit.Below.refl w.heap.size w)
  have I0 := Lib.hid w0
  clear w0
  clear _w2
  cases hg : wideB l0
  case true =>
    have HG := Lib.hid hg
    clear hg
    go_enter Tryz.func4, Tryz.ntmps4
    have hC := wide_any a0 cap0 l0 w I0.out
    rw [HG.out] at hC
    have HC := Lib.hid hC
    clear hC
    go_wp2_with fail
    refine HC.out.mono ?_
    rintro e _ ⟨rfl, rfl⟩
    clear HC
    have HC := Lib.hid (works_any w)
    go_wp2_with fail
    refine HC.out.mono ?_
    rintro e w1 ⟨rfl, hb⟩
    have HB0 := Lib.hid (HB0.out.trans (hb.mono HB0.out.size))
    have I01 := Lib.hid (I0.out.below hb)
    clear hb HC
    go_wp2_with fail
    go_ret
    exact ⟨rfl, HB0.out⟩
  case false =>
    have HG := Lib.hid hg
    obtain ⟨e0, hf⟩ := wideB_false hg
    have HF := Lib.hid hf
    have HRS : Hid (RoomsS l0) := Lib.hid (fun x hx => by have := hf x hx; omega)
    clear hg hf
    by_cases h2 : 20 < s1.length
    case pos =>
      have hI1 : (20 : Int) < (s1.length : Int) := by omega
      go_enter Tryz.func4, Tryz.ntmps4
      have hC := wide_any a0 cap0 l0 w I0.out
      rw [HG.out] at hC
      have HC := Lib.hid hC
      clear hC
      go_wp2_with fail
      refine HC.out.mono ?_
      rintro e _ ⟨rfl, rfl⟩
      clear HC
      have HC := Lib.hid (works_any w)
      go_wp2_with fail
      refine HC.out.mono ?_
      rintro e w1 ⟨rfl, hb⟩
      have HB2 := Lib.hid (HB0.out.trans (hb.mono HB0.out.size))
      have I03 := Lib.hid (I0.out.below hb)
      clear hb HC
      go_wp2_with fail
      go_ret
      exact ⟨rfl, HB2.out⟩
    case neg =>
      have hI1 : ¬ (20 : Int) < (s1.length : Int) := by omega
      have hNl : (X.namesE l0).1.length ≤ 1000000 := by
        unfold X.namesE
        split
        · split
          · simp
          · rename_i h1 h2
            have hov : X.overB l0 = false := by simpa using h2
            have := (X.over_list (X.statesE_iff.1 h1) hov).many
            show (X.reads l0 0).length ≤ 1000000
            omega
        · simp
      have HNl := Lib.hid hNl
      obtain ⟨L, c, hN⟩ : ∃ L c, X.namesE l0 = (L, c) := ⟨_, _, rfl⟩
      rw [hN] at hNl
      have hLl : L.length ≤ 1000000 := hNl
      obtain ⟨p, q, hP⟩ : ∃ p q, X.numberE l0 s1 = (p, q) := ⟨_, _, rfl⟩
      obtain ⟨y, z, hY⟩ : ∃ y z, X.nameE l0 n2 = (y, z) := ⟨_, _, rfl⟩
      obtain ⟨d, hd⟩ : ∃ d, X.statesE l0 = d := ⟨_, rfl⟩
      have HN := Lib.hid hN
      have HP := Lib.hid hP
      have HY := Lib.hid hY
      have HD := Lib.hid hd
      clear hNl hN hP hY hd
      go_enter Tryz.func4, Tryz.ntmps4
      have hC := wide_any a0 cap0 l0 w I0.out
      rw [HG.out] at hC
      have HC := Lib.hid hC
      clear hC
      go_wp2_with fail
      refine HC.out.mono ?_
      rintro e _ ⟨rfl, rfl⟩
      clear HC
      have hC := namesP_any a0 cap0 l0 w (by omega) HF.out I0.out
      rw [HN.out] at hC
      have HC := Lib.hid hC
      clear hC
      go_wp2_with fail
      refine HC.out.mono ?_
      intro e w1 hG
      obtain ⟨Ax, Cx, rfl, hi, hcx, hb⟩ := hG.lit (n := L.length) rfl
      have HB4 := Lib.hid (HB0.out.trans (hb.mono HB0.out.size))
      have I05 := Lib.hid (I0.out.below hb)
      have Ix := Lib.hid hi
      have Kx := Lib.hid hcx
      clear hcx hi hG
      clear hb HC
      have hC := namesR_any a0 cap0 l0 w1 (by omega) HF.out I05.out
      rw [HN.out] at hC
      have HC := Lib.hid hC
      clear hC
      go_wp2_with fail
      refine HC.out.mono ?_
      intro e w2 hG
      obtain ⟨Ay, Cy, rfl, hi, hcy, hb⟩ := hG.lit (n := L.length) rfl
      have HB6 := Lib.hid (HB4.out.trans (hb.mono HB4.out.size))
      have I07 := Lib.hid (I05.out.below hb)
      have Ix8 := Lib.hid (Ix.out.below hb)
      have Iy := Lib.hid hi
      have Ky := Lib.hid hcy
      clear hcy hi hG
      clear hb HC
      have hC := numberP_any a0 cap0 l0 s1 w2 (by omega) HF.out (by omega) I07.out
      rw [HP.out] at hC
      have HC := Lib.hid hC
      clear hC
      go_wp2_with fail
      refine HC.out.mono ?_
      rintro e w3 ⟨rfl, hb⟩
      have HB9 := Lib.hid (HB6.out.trans (hb.mono HB6.out.size))
      have I010 := Lib.hid (I07.out.below hb)
      have Ix11 := Lib.hid (Ix8.out.below hb)
      have Iy12 := Lib.hid (Iy.out.below hb)
      clear hb HC
      have hC := number_of a0 cap0 l0 s1 w3 (by omega) HNl.out (namesR_any a0 cap0 l0 w3 (by omega) HF.out I010.out)
      rw [HP.out] at hC
      have HC := Lib.hid hC
      clear hC
      go_wp2_with fail
      refine HC.out.mono ?_
      rintro e w4 ⟨rfl, hb⟩
      have HB13 := Lib.hid (HB9.out.trans (hb.mono HB9.out.size))
      have I014 := Lib.hid (I010.out.below hb)
      have Ix15 := Lib.hid (Ix11.out.below hb)
      have Iy16 := Lib.hid (Iy12.out.below hb)
      clear hb HC
      have hC := nameP_any a0 cap0 l0 n2 w4 (by omega) HF.out I014.out
      rw [HY.out] at hC
      have HC := Lib.hid hC
      clear hC
      go_wp2_with fail
      refine HC.out.mono ?_
      rintro e w5 ⟨rfl, hb⟩
      have HB17 := Lib.hid (HB13.out.trans (hb.mono HB13.out.size))
      have I018 := Lib.hid (I014.out.below hb)
      have Ix19 := Lib.hid (Ix15.out.below hb)
      have Iy20 := Lib.hid (Iy16.out.below hb)
      clear hb HC
      have hC := name_of a0 cap0 l0 n2 w5 HNl.out (namesR_any a0 cap0 l0 w5 (by omega) HF.out I018.out)
      rw [HY.out] at hC
      have HC := Lib.hid hC
      clear hC
      go_wp2_with fail
      refine HC.out.mono ?_
      rintro e w6 ⟨rfl, hb⟩
      have HB21 := Lib.hid (HB17.out.trans (hb.mono HB17.out.size))
      have I022 := Lib.hid (I018.out.below hb)
      have Ix23 := Lib.hid (Ix19.out.below hb)
      have Iy24 := Lib.hid (Iy20.out.below hb)
      clear hb HC
      have hC := checkStatesP_any a0 cap0 l0 w6 (by omega) HF.out I022.out
      rw [HD.out] at hC
      have HC := Lib.hid hC
      clear hC
      go_wp2_with fail
      refine HC.out.mono ?_
      rintro e w7 ⟨rfl, hb⟩
      have HB25 := Lib.hid (HB21.out.trans (hb.mono HB21.out.size))
      have I026 := Lib.hid (I022.out.below hb)
      have Ix27 := Lib.hid (Ix23.out.below hb)
      have Iy28 := Lib.hid (Iy24.out.below hb)
      clear hb HC
      have hC := checkStates_any a0 cap0 l0 w7 (by omega) HRS.out I026.out
      rw [HD.out] at hC
      have HC := Lib.hid hC
      clear hC
      go_wp2_with fail
      refine HC.out.mono ?_
      rintro e w8 ⟨rfl, hd⟩
      have hb := hd.below w7.heap.size
      clear hd
      have hb := hb
      have HB29 := Lib.hid (HB25.out.trans (hb.mono HB25.out.size))
      have I030 := Lib.hid (I026.out.below hb)
      have Ix31 := Lib.hid (Ix27.out.below hb)
      have Iy32 := Lib.hid (Iy28.out.below hb)
      clear hb HC
      have hC := textsS_any Ax Cx L Ay Cy L w8 (by omega) Ix31.out Iy32.out
      rw [decide_eq_true rfl] at hC
      have HC := Lib.hid hC
      clear hC
      go_wp2_with fail
      refine HC.out.mono ?_
      rintro e w9 ⟨rfl, hd⟩
      have hb := hd.below w8.heap.size
      clear hd
      have hb := hb
      have HB33 := Lib.hid (HB29.out.trans (hb.mono HB29.out.size))
      have I034 := Lib.hid (I030.out.below hb)
      have Ix35 := Lib.hid (Ix31.out.below hb)
      have Iy36 := Lib.hid (Iy32.out.below hb)
      clear hb HC
      have HC := Lib.hid (works_any w9)
      go_wp2_with fail
      refine HC.out.mono ?_
      rintro e w10 ⟨rfl, hb⟩
      have HB37 := Lib.hid (HB33.out.trans (hb.mono HB33.out.size))
      have I038 := Lib.hid (I034.out.below hb)
      have Ix39 := Lib.hid (Ix35.out.below hb)
      have Iy40 := Lib.hid (Iy36.out.below hb)
      clear hb HC
      go_wp2_with fail
      go_ret
      exact ⟨rfl, HB37.out⟩
end Go.Proofs.YtcjbnifafofpbaaGreatDoor
