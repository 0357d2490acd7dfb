/- Walks of fine and Given; opening four small numbers. -/
import Derived.Test.YtkcgkfhfogdihaaJ16
namespace Go.Proofs.Ytkcgkfhfogdihaa
open Go.RowKit
set_option maxRecDepth 100000 in
set_option maxHeartbeats 1000000 in
theorem fine_any (a : Option Addr) (cap : Nat) (deg : Int) (l : List (Int × Int)) (w : World) (ha : Sigs w a l) :
    Calls Try.prog 40 #[.agg #[.int .i64 deg, .slice a l.length cap]] w fun e w' => e = .returned (.bool (decide (R.checkLog deg l = 0))) ∧ Below w.heap.size w w' := by
  have hb0 := Below.new w (.cells #[.int .i64 deg, .slice a l.length cap] 33)
  have HL := Lib.hid (Logged.new ha deg cap 33)
  have HB := Lib.hid hb0
  have HG := great_any a cap l.length deg (w.alloc (.cells #[.int .i64 deg, .slice a l.length cap] 33))
  clear ha hb0
  by_cases hl : 20 < l.length
  · rw [decide_eq_true hl] at HG
    have HG := Lib.hid HG
    have HE : Hid (decide (R.checkLog deg l = 0) = false) := Lib.hid (by rw [decide_eq_false_iff_not]; intro h; have := (R.checkLog_zero h).len; omega)
    clear hl
    go_enter Try.func40, Try.ntmps40
    go_wp2_with fail
    refine HG.out.mono ?_
    rintro e w1 ⟨rfl, hb1⟩
    go_wp2_with fail
    go_ret
    exact ⟨ret_bool (by rw [HE.out]; first | done | rfl), HB.out.trans (hb1.mono HB.out.size)⟩
  · rw [decide_eq_false hl] at HG
    have HG := Lib.hid HG
    have hl2 : l.length ≤ 1000000 := by omega
    clear hl
    go_enter Try.func40, Try.ntmps40
    go_wp2_with fail
    refine HG.out.mono ?_
    rintro e w1 ⟨rfl, hb1⟩
    have HB1 := Lib.hid (HB.out.trans (hb1.mono HB.out.size))
    have HL1 := Lib.hid (HL.out.on hb1)
    clear hb1
    have x := HL1.out.x1
    have y := HL1.out.x2
    go_wp2_with fail
    refine (refCheckLog_any a cap deg l w1 hl2 HL1.out.sig).mono ?_
    rintro e w2 ⟨rfl, hb2⟩
    have HE : Hid (decide (R.checkLog deg l = 0) = (R.checkLog deg l == 0)) := Lib.hid (by rfl)
    go_wp2_with fail
    go_ret
    exact ⟨ret_bool (by rw [HE.out]), HB1.out.trans (hb2.mono HB1.out.size)⟩
/-- The path that four numbers give. -/
def given (b : List Int) (n : Nat) : List Int := R.tab (fun k => (nth b k).tmod 21) n
theorem given_length (b : List Int) (n : Nat) : (given b n).length = n := R.tab_length _ _
theorem given_nth (b : List Int) (n i : Nat) (h : i < n) : nth (given b n) i = (nth b i).tmod 21 := R.tab_nth _ _ _ h
theorem given_small (b : List Int) (n i : Nat) (h : i < n) : -20 ≤ nth (given b n) i ∧ nth (given b n) i ≤ 20 := by
  rw [given_nth b n i h]
  have h1 : ((nth b i).tmod 21).natAbs = (nth b i).natAbs % 21 := Int.natAbs_tmod (nth b i) 21
  have h2 : (nth b i).natAbs % 21 < 21 := Nat.mod_lt _ (by decide)
  omega
theorem given_num (b : List Int) (n : Nat) : (given b n).all R.numOk = true := by
  rw [List.all_eq_true]
  intro x hx
  obtain ⟨i, hi, rfl⟩ := List.getElem_of_mem hx
  rw [given_length] at hi
  have := given_small b n i hi
  rw [nth_eq _ _ (by rw [given_length]; exact hi)] at this
  exact R.numOk_true (by omega) (by omega)
/-- Four small numbers, as a value. -/
def by8 (b : List Int) : Value := .agg #[.int .i8 (nth b 0), .int .i8 (nth b 1), .int .i8 (nth b 2), .int .i8 (nth b 3)]
def Small (b : List Int) : Prop := ∀ i, i < 4 → -128 ≤ nth b i ∧ nth b i ≤ 127
set_option maxRecDepth 100000 in
set_option maxHeartbeats 1000000 in
theorem given_any (d : Nat) (b : List Int) (w : World) (hd : d ≤ 3) (hb : Small b) :
    Calls Try.prog 41 #[.int .i64 (d : Int), by8 b] w fun e w' => ∃ v, e = .returned v ∧ w'.ownsRow w.heap.size 2 1 v (d + 1) ((given b (d + 1)).map (.int .i64)) ∧ Below w.heap.size w w' := by
  have hb0 := Below.new w (.cells #[.int .i8 (nth b 0), .int .i8 (nth b 1), .int .i8 (nth b 2), .int .i8 (nth b 3)] 47)
  have HB := Lib.hid hb0
  have HC : Hid (∀ c, c < 4 → (w.alloc (.cells #[.int .i8 (nth b 0), .int .i8 (nth b 1), .int .i8 (nth b 2), .int .i8 (nth b 3)] 47)).cell? ⟨w.heap.size, c, none⟩ = some (.int .i8 (nth b c))) := Lib.hid (fun c hc => by
    obtain rfl | rfl | rfl | rfl : c = 0 ∨ c = 1 ∨ c = 2 ∨ c = 3 := by omega
    all_goals exact cell_top rfl rfl)
  have HS := Lib.hid hb
  clear hb hb0
  unfold by8
  go_enter Try.func41, Try.ntmps41
  go_wp2_with fail
  generalize w.alloc (.cells #[.int .i8 (nth b 0), .int .i8 (nth b 1), .int .i8 (nth b 2), .int .i8 (nth b 3)] 47) = W0 at *
  have hw0 := HB.out.size
  go_loopw [5, 6] (fun v i wi => ∃ j : Nat, j ≤ d + 1 ∧ i = .int .i64 j ∧ wi.ownsRow W0.heap.size 2 1 v j ((given b j).map (.int .i64)) ∧ Below W0.heap.size W0 wi) (fun _ i _ => d + 1 - (intOf i).toNat)
  case atStart => exact ⟨0, Nat.zero_le _, rfl, World.ownsRow_nil _ _ _ _, Below.refl _ _⟩
  case round =>
    obtain ⟨j, hj, rfl, hown, hbl⟩ := hrel
    have hbs := hbl.size
    by_cases hlt : j < d + 1
    · have hcj := cell_on hbl (HC.out j (by omega))
      have hsm := HS.out j (by omega)
      have hG : Hid (given b (j + 1) = given b j ++ [(nth b j).tmod 21]) := Lib.hid rfl
      have hgs := given_small b (j + 1) j (by omega)
      rw [given_nth b (j + 1) j (by omega)] at hgs
      have hle : (j : Int) ≤ ↑d := by omega
      have hlt4 : (j : Int) < 4 := by omega
      have h0j : (0 : Int) ≤ ↑j := by omega
      have hjn : j + 1 ≤ 2000000 := by omega
      generalize nth b j = x at *
      have k1 : IntKind.i64.wrap (x.tmod 21) = x.tmod 21 := IntWalk.i64_in _ (by omega)
      have k2 : IntKind.i64.wrap x = x := IntWalk.i64_in _ (by omega)
      have HG := Lib.hid hgs
      have HSm := Lib.hid hsm
      clear hgs hsm
      go_wp2_with (at_builtin; refine listApp T22 rfl (.tmp 16) (.tmp 22) rfl W0.heap.size u5 j _ [.int .i64 (x.tmod 21)] 1 1 ⟨wr.heap.size, 0, none⟩ rfl (hown.alloc _) rfl rfl (news_new _ _ _) (by simp [Value.oneCell']) hjn (by simp; omega) ?_; intro v1 w1 hown1 hg1 hL1)
      have hb3 := (hbl.alloc hbs (.cells #[.int .i64 (x.tmod 21)] 2)).grown hg1 (by simp; omega) (fun k e => (hown.lt k e).1)
      go_roundw
      case rel => exact ⟨j + 1, by omega, by go_num, by rw [hG.out, List.map_append]; exact hown1, hb3⟩
      case measure => simp [intOf]; omega
    · have hle : (d : Int) < ↑j := by omega
      obtain rfl : j = d + 1 := by omega
      go_wp2_with fail
      go_ret
      exact ⟨_, rfl, owns_mono hown hw0, HB.out.trans (hbl.mono hw0)⟩
end Go.Proofs.Ytkcgkfhfogdihaa
