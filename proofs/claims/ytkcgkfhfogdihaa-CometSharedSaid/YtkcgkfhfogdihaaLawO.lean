/- Walk of the statement CometShared. -/
import Derived.Test.YtkcgkfhfogdihaaMathK
import Derived.Test.YtkcgkfhfogdihaaMathJ
import Derived.Test.YtkcgkfhfogdihaaLawN
namespace Go.Proofs.Ytkcgkfhfogdihaa
open Go.RowKit
theorem bits_and_nat {a b : Nat} (ha : a < 4096) (hb : b < 4096) : bits .and .i64 (a : Int) (b : Int) = ((a &&& b : Nat) : Int) := (bits_nat .i64 62 (by decide) wraps_i64 a b (by omega) (by omega)).1
/-- On a path that is none of the log no more sightings lie than the degree. -/
theorem few_or_most {d : Nat} {l : List (Int × Int)} (hv : R.Valid (d : Int) l) {q : List Int} (hq : q.length = d + 1) : C.onL l q ≤ d ∨ C.onL l q ≤ R.most (d : Int) l := by
  by_cases h : C.onL l q ≤ d
  · exact .inl h
  · exact .inr (C.most_ge hv ((C.found_iff hv).2 ⟨hq, by omega⟩))
/-- Numbers that follow each other. -/
def runTo (k j : Nat) : List Int := up (fun i r => r ++ [((k + i : Nat) : Int)]) [] j
theorem runTo_succ (k j : Nat) : runTo k (j + 1) = runTo k j ++ [((k + j : Nat) : Int)] := rfl
theorem runTo_length (k j : Nat) : (runTo k j).length = j := by
  induction j with
  | zero => rfl
  | succ j ih => rw [runTo_succ, List.length_append, ih]; rfl
theorem through_two {d : Nat} {l : List (Int × Int)} (hv : R.Valid (d : Int) l) {ss : List Int} (hs : ss.length = d + 1) (h2 : (R.through (d : Int) l ss).2 = 0) : (R.through (d : Int) l ss).1.length = d + 1 ∧ (R.through (d : Int) l ss).1.all R.numOk = true := by
  have hd3 := hv.d3
  unfold R.through at *
  rw [if_neg (not_not_intro hv.zero), if_neg (by omega)] at *
  by_cases ho : R.Ord l.length ss
  · rw [if_neg (not_not_intro ho)] at *
    have hP := R.sel_piece hv.fit hv.inc ho (by omega)
    cases hp : R.pass (R.sel l ss) with
    | none => rw [hp] at h2; cases h2
    | some p =>
      obtain ⟨h1, -, h3⟩ := hP.pass_some hp
      exact ⟨h1.trans ((R.selTo_length _ _ _).trans hs), h3⟩
  · rw [if_pos ho] at h2; cases h2
set_option maxRecDepth 100000 in
set_option maxHeartbeats 16000000 in
theorem shared_walk (a : Option Addr) (cap : Nat) (deg : Int) (l : List (Int × Int)) (one two : List Int) (n3 : Int) (w : World) (ha : Sigs w a l) (hb1 : Small one) (hb2 : Small two) (hu : (Lit.int .u8 n3).wf = true) :
    Calls Try.prog 7 #[.agg #[.int .i64 deg, .slice a l.length cap], by8 one, by8 two, .int .u8 n3] w fun e w' => e = .returned (.bool true) ∧ Below w.heap.size w w' := by
  have hb0 := ((Below.new w (.cells #[.int .i64 deg, .slice a l.length cap] 33)).alloc (by simp) (.cells #[.int .i8 (nth one 0), .int .i8 (nth one 1), .int .i8 (nth one 2), .int .i8 (nth one 3)] 47)).alloc (by simp; omega) (.cells #[.int .i8 (nth two 0), .int .i8 (nth two 1), .int .i8 (nth two 2), .int .i8 (nth two 3)] 47)
  have HL := Lib.hid (((Logged.new ha deg cap 33).on (Below.new _ (.cells #[.int .i8 (nth one 0), .int .i8 (nth one 1), .int .i8 (nth one 2), .int .i8 (nth one 3)] 47))).on (Below.new _ (.cells #[.int .i8 (nth two 0), .int .i8 (nth two 1), .int .i8 (nth two 2), .int .i8 (nth two 3)] 47)))
  have HBy1 : Hid (∀ c, c < 4 → (((w.alloc (.cells #[.int .i64 deg, .slice a l.length cap] 33)).alloc (.cells #[.int .i8 (nth one 0), .int .i8 (nth one 1), .int .i8 (nth one 2), .int .i8 (nth one 3)] 47)).alloc (.cells #[.int .i8 (nth two 0), .int .i8 (nth two 1), .int .i8 (nth two 2), .int .i8 (nth two 3)] 47)).cell? ⟨w.heap.size + 1, c, none⟩ = some (.int .i8 (nth one c))) := Lib.hid (fun c hc => by
    obtain rfl | rfl | rfl | rfl : c = 0 ∨ c = 1 ∨ c = 2 ∨ c = 3 := by omega
    all_goals exact cell_on (Below.new _ _) (cell_top (by simp) rfl))
  have HBy2 : Hid (∀ c, c < 4 → (((w.alloc (.cells #[.int .i64 deg, .slice a l.length cap] 33)).alloc (.cells #[.int .i8 (nth one 0), .int .i8 (nth one 1), .int .i8 (nth one 2), .int .i8 (nth one 3)] 47)).alloc (.cells #[.int .i8 (nth two 0), .int .i8 (nth two 1), .int .i8 (nth two 2), .int .i8 (nth two 3)] 47)).cell? ⟨w.heap.size + 1 + 1, c, none⟩ = some (.int .i8 (nth two c))) := Lib.hid (fun c hc => by
    obtain rfl | rfl | rfl | rfl : c = 0 ∨ c = 1 ∨ c = 2 ∨ c = 3 := by omega
    all_goals exact cell_top (by simp) rfl)
  have HB := Lib.hid hb0
  have HF := fine_any a cap deg l _ (ha.below hb0)
  have HS1 := Lib.hid hb1
  have HS2 := Lib.hid hb2
  have hn3 := u8_bd hu
  clear ha hb0 hb1 hb2 hu
  by_cases hc : R.checkLog deg l = 0
  · have hv := R.checkLog_zero hc
    rw [decide_eq_true hc] at HF
    have HF := Lib.hid HF
    have HV := Lib.hid hv
    have h12 := hv.len
    have hl2 : l.length ≤ 1000000 := by omega
    obtain ⟨d, rfl⟩ := hv.nat
    have hd3 : d ≤ 3 := by have := hv.d3; omega
    clear hv hc
    unfold by8
    go_enter Try.func7, Try.ntmps7
    go_wp2_with fail
    generalize (((w.alloc (.cells #[.int .i64 (d : Int), .slice a l.length cap] 33)).alloc (.cells #[.int .i8 (nth one 0), .int .i8 (nth one 1), .int .i8 (nth one 2), .int .i8 (nth one 3)] 47)).alloc (.cells #[.int .i8 (nth two 0), .int .i8 (nth two 1), .int .i8 (nth two 2), .int .i8 (nth two 3)] 47)) = w0 at *
    refine HF.out.mono ?_
    rintro e w1 ⟨rfl, hb1⟩
    have HB1 := Lib.hid (HB.out.trans (hb1.mono HB.out.size))
    have HL1 := Lib.hid (HL.out.on hb1)
    have HY1 := Lib.hid (fun c hc => cell_on hb1 (HBy1.out c hc))
    have HY2 := Lib.hid (fun c hc => cell_on hb1 (HBy2.out c hc))
    clear hb1 HBy1 HBy2 HL HB HF
    have HG1 := Lib.hid (fun W => given_any d one W hd3 HS1.out)
    have HG2 := Lib.hid (fun W => given_any d two W hd3 HS2.out)
    unfold by8 at HG1 HG2
    have hgl := given_length one (d + 1)
    have hgn := given_num one (d + 1)
    have hgl2 := given_length two (d + 1)
    have hgn2 := given_num two (d + 1)
    generalize given one (d + 1) = p at *
    generalize given two (d + 1) = q0 at *
    have HP := Lib.hid (And.intro hgl hgn)
    have HQ0 := Lib.hid (And.intro hgl2 hgn2)
    clear hgl hgn hgl2 hgn2
    have x0 := HL1.out.x1
    have a0 := HY1.out 0 (by omega)
    have a1 := HY1.out 1 (by omega)
    have a2 := HY1.out 2 (by omega)
    have a3 := HY1.out 3 (by omega)
    have c0 := HY2.out 0 (by omega)
    have c1 := HY2.out 1 (by omega)
    have c2 := HY2.out 2 (by omega)
    have c3 := HY2.out 3 (by omega)
    go_wp2_with fail
    go_region_held3 (fun w' => w'.cell? ⟨w.heap.size, 0, none⟩ = some (.int .i64 (d : Int)) ∧ w'.cell? ⟨w.heap.size + 1, 0, none⟩ = some (.int .i8 (nth one 0)) ∧ w'.cell? ⟨w.heap.size + 1, 1, none⟩ = some (.int .i8 (nth one 1)) ∧ w'.cell? ⟨w.heap.size + 1, 2, none⟩ = some (.int .i8 (nth one 2)) ∧ w'.cell? ⟨w.heap.size + 1, 3, none⟩ = some (.int .i8 (nth one 3)) ∧ w'.cell? ⟨w.heap.size + 1 + 1, 0, none⟩ = some (.int .i8 (nth two 0)) ∧ w'.cell? ⟨w.heap.size + 1 + 1, 1, none⟩ = some (.int .i8 (nth two 1)) ∧ w'.cell? ⟨w.heap.size + 1 + 1, 2, none⟩ = some (.int .i8 (nth two 2)) ∧ w'.cell? ⟨w.heap.size + 1 + 1, 3, none⟩ = some (.int .i8 (nth two 3))) (first | exact ⟨cell_on hbQ (cell_on hbP x0), cell_on hbQ (cell_on hbP a0), cell_on hbQ (cell_on hbP a1), cell_on hbQ (cell_on hbP a2), cell_on hbQ (cell_on hbP a3), cell_on hbQ (cell_on hbP c0), cell_on hbQ (cell_on hbP c1), cell_on hbQ (cell_on hbP c2), cell_on hbQ (cell_on hbP c3)⟩ | exact ⟨cell_on hbP x0, cell_on hbP a0, cell_on hbP a1, cell_on hbP a2, cell_on hbP a3, cell_on hbP c0, cell_on hbP c1, cell_on hbP c2, cell_on hbP c3⟩ | exact ⟨x0, a0, a1, a2, a3, c0, c1, c2, c3⟩ | go_keep) (first | (go_at_call 41; refine (HG2.out wP).mono ?_; rintro e wQ ⟨vQ, rfl, hownQ, hbQ⟩) | (go_at_call 41; refine (HG1.out w1.drew).mono ?_; rintro e wP ⟨vP, rfl, hownP, hbP⟩))
    clear HF
    obtain ⟨-, AP, CP, rfl, hiP, -⟩ := Ints.of_ownsRow hownP
    obtain ⟨-, AQ0, CQ0, rfl, hiQ, -⟩ := Ints.of_ownsRow hownQ
    have hbw : Below w1.heap.size w1 wQ := (((Below.refl _ w1).drew).trans hbP).trans (hbQ.mono hbP.size)
    have HBq := Lib.hid (HB1.out.trans (hbw.mono HB1.out.size))
    have HLq := Lib.hid (HL1.out.on hbw)
    have IPq := Lib.hid (hiP.below hbQ)
    have IQ0 := Lib.hid hiQ
    clear hownP hownQ hbP hbQ hiP hiQ hbw HG1 HG2 HY1 HY2 x0 a0 a1 a2 a3 c0 c1 c2 c3 HS1 HS2
    try clear hHeld
    have x1 := HLq.out.x1
    have x2 := HLq.out.x2
    by_cases hnd : d < l.length
    · have hndI : (d : Int) < (l.length : Int) := by omega
      obtain ⟨k, hk, hk'⟩ := rem_nat hn3.1 (l.length - d) (by omega)
      have hsub : IntKind.i64.wrap ((l.length : Int) - (d : Int)) = ((l.length - d : Nat) : Int) := by rw [IntWalk.i64_in _ (by omega)]; omega
      have k1 : IntKind.i64.wrap n3 = n3 := IntWalk.i64_in _ (by omega)
      have k2 : IntKind.i64.wrap (k : Int) = (k : Int) := IntWalk.i64_in _ (by omega)
      have hnz : ¬ (((l.length - d : Nat) : Int) = 0) := by omega
      have hnz2 : ¬ ((l.length - d : Nat) = 0) := by omega
      go_wp2_with fail
      go_loopw [13, 14] (fun v i wi => ∃ j : Nat, j ≤ d + 1 ∧ i = .int .i64 (j : Int) ∧ wi.ownsRow wQ.heap.size 3 1 v j ((runTo k j).map (.int .i64)) ∧ Below wQ.heap.size wQ wi) (fun _ i _ => d + 1 - (intOf i).toNat)
      case atStart => exact ⟨0, Nat.zero_le _, rfl, World.ownsRow_nil _ _ _ _, Below.refl _ _⟩
      case round =>
        obtain ⟨j, hj, rfl, hown, hbl⟩ := hrel
        clear x1 x2
        have HLr := Lib.hid (HLq.out.on hbl)
        have x1 := HLr.out.x1
        have hbs := hbl.size
        by_cases hlt : j ≤ d
        · have hltI : (j : Int) ≤ (d : Int) := by omega
          have k3 : IntKind.i64.wrap ((k : Int) + (j : Int)) = ((k + j : Nat) : Int) := by rw [IntWalk.i64_in _ (by omega)]; omega
          have hjn : j + 1 ≤ 2000000 := by omega
          go_wp2_with (at_builtin; refine Shut.out ?_)
          unfold Shut
          refine listApp T34 rfl (.tmp 61) (.tmp 65) rfl wQ.heap.size u13 j _ [.int .i64 ((k + j : Nat) : Int)] 1 1 ⟨wr.heap.size, 0, none⟩ rfl (hown.alloc _) rfl rfl (news_new _ _ _) (by simp [Value.oneCell']) hjn (by simp; omega) ?_
          intro v1 w1' hown1 hg1 hL1
          have hb3 := (hbl.alloc hbs (.cells #[.int .i64 ((k + j : Nat) : Int)] 3)).grown hg1 (by simp; omega) (fun k e => (hown.lt k e).1)
          go_wp2_with fail
          go_roundw
          case rel => exact ⟨j + 1, by omega, by go_num, by rw [runTo_succ, List.map_append]; exact hown1, hb3⟩
          case measure => simp [intOf]; omega
        · have hltI : (d : Int) < (j : Int) := by omega
          obtain rfl : j = d + 1 := by omega
          have hown' : wr.ownsRow wQ.heap.size 3 1 u13 (d + 1) ((runTo k (d + 1)).map (.int .i64)) := hown
          obtain ⟨-, AS, CS, rfl, hiS, -⟩ := Ints.of_ownsRow hown'
          have HRl := Lib.hid (runTo_length k (d + 1))
          generalize runTo k (d + 1) = ss at *
          have HBr := Lib.hid (HBq.out.trans (hbl.mono HBq.out.size))
          have IPr := Lib.hid (IPq.out.below hbl)
          have IQr := Lib.hid (IQ0.out.below hbl)
          have ISr := Lib.hid hiS
          clear hown hown' hbl hbs hiS HBq HLq IPq IQ0 hk hk' hsub k1 k2 hnz hnz2 hn3
          have x2 := HLr.out.x2
          have HC5 := cThrough_any a cap d l AS CS ss wr hl2 (by rw [HRl.out]; omega) HLr.out.sig ISr.out
          rw [HRl.out] at HC5
          have HC5 := Lib.hid HC5
          go_wp2_with fail
          refine HC5.out.mono ?_
          rintro e w6 ⟨v6, rfl, hown6, hb⟩
          obtain ⟨-, A6, C6, rfl, hi6, -⟩ := Ints.of_ownsRow hown6
          have HB6 := Lib.hid (HBr.out.trans (hb.mono HBr.out.size))
          have HL6 := Lib.hid (HLr.out.on hb)
          have IP6 := Lib.hid (IPr.out.below hb)
          have IQ6 := Lib.hid (IQr.out.below hb)
          have IS6 := Lib.hid (ISr.out.below hb)
          have IT6 := Lib.hid hi6
          clear hown6 hb hi6 x1 x2
          have x1 := HL6.out.x1
          have x2 := HL6.out.x2
          have HC6 := refThrough_any a cap d l AS CS ss w6 hl2 (by rw [HRl.out]; omega) HL6.out.sig IS6.out
          rw [HRl.out] at HC6
          have HC6 := Lib.hid HC6
          go_wp2_with fail
          refine HC6.out.mono ?_
          rintro e w7 ⟨v7, rfl, hown7, hb⟩
          obtain ⟨-, A7, C7, rfl, hi7, -⟩ := Ints.of_ownsRow hown7
          have HB7 := Lib.hid (HB6.out.trans (hb.mono HB6.out.size))
          have HL7 := Lib.hid (HL6.out.on hb)
          have IP7 := Lib.hid (IP6.out.below hb)
          have IQ7 := Lib.hid (IQ6.out.below hb)
          have IT7 := Lib.hid (IT6.out.below hb)
          have HC7 := Lib.hid (longs_same A6 C6 _ (R.through (d : Int) l ss).1 A7 C7 w7 rfl (through_len (d : Int) l ss (by rw [HRl.out]; omega)) IT7.out hi7)
          clear hown7 hb hi7 x1 x2
          go_wp2_with fail
          refine HC7.out.mono ?_
          rintro e w8 ⟨rfl, hb⟩
          have HBq := Lib.hid (HB7.out.trans (hb.mono HB7.out.size))
          have HLq := Lib.hid (HL7.out.on hb)
          have IPq := Lib.hid (IP7.out.below hb)
          have IQ8 := Lib.hid (IQ7.out.below hb)
          have IT8 := Lib.hid (IT7.out.below hb)
          clear hb
          have hW : ∃ W : World, W = w8 := ⟨_, rfl⟩
          obtain ⟨wq, rfl⟩ := hW
          have HT2 := Lib.hid (through_two HV.out HRl.out)
          by_cases he0 : (R.through (d : Int) l ss).2 = 0
          · have he1 : ((R.through (d : Int) l ss).2 == 0) = true := by rw [he0]; rfl
            have HQ := Lib.hid (HT2.out he0)
            have hq1 := HQ.out.1
            clear he0
            generalize (R.through (d : Int) l ss).1 = q at *
            generalize (R.through (d : Int) l ss).2 = ee at *
            have IQq := IT8
            have hA : ∃ A : Option Addr, A = A6 := ⟨_, rfl⟩
            obtain ⟨AQ, rfl⟩ := hA
            have hC : ∃ A : Nat, A = C6 := ⟨_, rfl⟩
            obtain ⟨CQ, rfl⟩ := hC
            rw [hq1]
            clear hq1
            have x1 := HLq.out.x1
            have x2 := HLq.out.x2
            have HC1 := cCheckPath_any a cap d l AP CP p wq hl2 (by rw [HP.out.1]; omega) HLq.out.sig IPq.out
            rw [checkPath_ok HV.out (by rw [HP.out.1]; omega) HP.out.2, HP.out.1] at HC1
            have HC1 := Lib.hid HC1
            go_wp2_with fail
            refine HC1.out.mono ?_
            rintro e w11 ⟨rfl, hb⟩
            have HB11 := Lib.hid (HBq.out.trans (hb.mono HBq.out.size))
            have HL11 := Lib.hid (HLq.out.on hb)
            have IP11 := Lib.hid (IPq.out.below hb)
            have IQ11 := Lib.hid (IQq.out.below hb)
            clear hb x1 x2
            have x1 := HL11.out.x1
            have x2 := HL11.out.x2
            have HC2 := cCheckPath_any a cap d l AQ CQ q w11 hl2 (by rw [HQ.out.1]; omega) HL11.out.sig IQ11.out
            rw [checkPath_ok HV.out (by rw [HQ.out.1]; omega) HQ.out.2, HQ.out.1] at HC2
            have HC2 := Lib.hid HC2
            go_wp2_with fail
            refine HC2.out.mono ?_
            rintro e w12 ⟨rfl, hb⟩
            have HB12 := Lib.hid (HB11.out.trans (hb.mono HB11.out.size))
            have HL12 := Lib.hid (HL11.out.on hb)
            have IP12 := Lib.hid (IP11.out.below hb)
            have IQ12 := Lib.hid (IQ11.out.below hb)
            clear hb x1 x2
            have x1 := HL12.out.x1
            have x2 := HL12.out.x2
            have r2 := cell_regrown HL12.out.x2
            have cA : ∀ dd os, Calls Try.prog 43 #[.slice a l.length cap, .slice AP (d + 1) CP] (Go.Sort.grow (redrawn w12 dd) os) fun e w'' => e = .returned (.int .i64 (R.on l p)) ∧ ∃ p : Regrown, w'' = Go.Sort.grow (redrawn w12 p.d) p.os := fun dd os =>
              Calls.regrown_of (by have := on_any a cap l AP CP p (Go.Sort.grow (redrawn w12 dd) os) h12 (HL12.out.sig.below (below_regrown w12 dd os)) HV.out.fit (by rw [HP.out.1]; omega) HP.out.2 (IP12.out.below (below_regrown w12 dd os)); rw [HP.out.1] at this; exact this.mono fun e w' ⟨h1, h2⟩ => ⟨h1, h2.below _⟩)
            have cB : ∀ dd os, Calls Try.prog 43 #[.slice a l.length cap, .slice AQ (d + 1) CQ] (Go.Sort.grow (redrawn w12 dd) os) fun e w'' => e = .returned (.int .i64 (R.on l q)) ∧ ∃ p : Regrown, w'' = Go.Sort.grow (redrawn w12 p.d) p.os := fun dd os =>
              Calls.regrown_of (by have := on_any a cap l AQ CQ q (Go.Sort.grow (redrawn w12 dd) os) h12 (HL12.out.sig.below (below_regrown w12 dd os)) HV.out.fit (by rw [HQ.out.1]; omega) HQ.out.2 (IQ12.out.below (below_regrown w12 dd os)); rw [HQ.out.1] at this; exact this.mono fun e w' ⟨h1, h2⟩ => ⟨h1, h2.below _⟩)
            have hand := bits_and_nat (R.on_lt l p h12) (R.on_lt l q h12)
            have cC : ∀ dd os, Calls Try.prog 42 #[.int .i64 ((R.on l p &&& R.on l q : Nat) : Int)] (Go.Sort.grow (redrawn w12 dd) os) fun e w'' => e = .returned (.int .i64 ((C.both l p q : Nat) : Int)) ∧ ∃ p : Regrown, w'' = Go.Sort.grow (redrawn w12 p.d) p.os := fun dd os =>
              Calls.regrown_of (by have := size_any (R.on l p &&& R.on l q) (Go.Sort.grow (redrawn w12 dd) os) (Nat.lt_of_le_of_lt Nat.and_le_left (R.on_lt l p h12)); exact this.mono fun e w' ⟨h1, h2⟩ => ⟨h1, by rw [← h2]; exact Below.refl _ _⟩)
            go_wp2_with fail
            refine wp_region_quiet_below (by kernel_rfl) (by kernel_rfl) ?_
            repeat (quiet_step (fail))
            quiet_step (exact cA _ _)
            repeat (quiet_step (fail))
            quiet_step (exact cB _ _)
            repeat (quiet_step (fail))
            quiet_step (exact cC _ _)
            repeat (quiet_step (fail))
            refine wpQuiet_nil ?_
            intro w13 hw'
            have hb : Below w12.heap.size w12 w13 := by obtain ⟨⟨dq, osq⟩, hw''⟩ := hw'; rw [hw'']; exact below_regrown w12 dq osq
            clear hw' r2 cA cB cC hand
            have HB13 := Lib.hid (HB12.out.trans (hb.mono HB12.out.size))
            have HL13 := Lib.hid (HL12.out.on hb)
            have IP13 := Lib.hid (IP12.out.below hb)
            have IQ13 := Lib.hid (IQ12.out.below hb)
            clear hb x1 x2
            have x1 := HL13.out.x1
            have x2 := HL13.out.x2
            have HMo := cMost_any a cap d l w13 hl2 HL13.out.sig
            have HEq := Lib.hid (fun (h : d + 1 ≤ C.both l p q) => C.eq_of_both HV.out HP.out.1 HQ.out.1 h)
            have HFp := Lib.hid (few_or_most HV.out HP.out.1)
            have HFq := Lib.hid (few_or_most HV.out HQ.out.1)
            have HLs := longs_any AP CP p AQ CQ q
            have hmle := C.most_le HV.out
            by_cases hm0 : R.most (d : Int) l = 0
            · rw [mostE_zero HV.out hm0] at HMo
              have HMo := Lib.hid HMo
              have f1 : (C.onL l p : Int) ≤ (d : Int) := by have := HFp.out; omega
              have f2 : (C.onL l q : Int) ≤ (d : Int) := by have := HFq.out; omega
              clear hm0 hmle
              go_wp2_with fail
              refine HMo.out.mono ?_
              rintro e w14 ⟨rfl, hb⟩
              have HB14 := Lib.hid (HB13.out.trans (hb.mono HB13.out.size))
              have HL14 := Lib.hid (HL13.out.on hb)
              have IP14 := Lib.hid (IP13.out.below hb)
              have IQ14 := Lib.hid (IQ13.out.below hb)
              clear hb x1 x2
              have x1 := HL14.out.x1
              have x2 := HL14.out.x2
              have HLq1 := HLs w14 (by rw [HP.out.1]; omega) (by rw [HQ.out.1]; omega) IP14.out IQ14.out
              rw [HP.out.1, HQ.out.1] at HLq1
              by_cases hpq : p = q
              · rw [decide_eq_true hpq] at HLq1
                have HLq1 := Lib.hid HLq1
                clear hpq HLs
                go_wp2_with fail
                refine HLq1.out.mono ?_
                rintro e w15 ⟨rfl, hb⟩
                have HB15 := Lib.hid (HB14.out.trans (hb.mono HB14.out.size))
                have HL15 := Lib.hid (HL14.out.on hb)
                have IP15 := Lib.hid (IP14.out.below hb)
                have IQ15 := Lib.hid (IQ14.out.below hb)
                clear hb x1 x2
                have x1 := HL15.out.x1
                have x2 := HL15.out.x2
                go_wp2_with fail
                refine (works_any w15).mono ?_
                rintro e w16 ⟨rfl, hb⟩
                go_wp2_with fail
                go_ret
                exact ⟨rfl, HB15.out.trans (hb.mono HB15.out.size)⟩
              · rw [decide_eq_false hpq] at HLq1
                have HLq1 := Lib.hid HLq1
                have f3 : (C.both l p q : Int) ≤ (d : Int) := by
                  have : ¬ d + 1 ≤ C.both l p q := fun h => hpq (HEq.out h)
                  omega
                clear hpq HLs
                go_wp2_with fail
                refine HLq1.out.mono ?_
                rintro e w15 ⟨rfl, hb⟩
                have HB15 := Lib.hid (HB14.out.trans (hb.mono HB14.out.size))
                have HL15 := Lib.hid (HL14.out.on hb)
                have IP15 := Lib.hid (IP14.out.below hb)
                have IQ15 := Lib.hid (IQ14.out.below hb)
                clear hb x1 x2
                have x1 := HL15.out.x1
                have x2 := HL15.out.x2
                go_wp2_with fail
                refine (works_any w15).mono ?_
                rintro e w16 ⟨rfl, hb⟩
                go_wp2_with fail
                go_ret
                exact ⟨rfl, HB15.out.trans (hb.mono HB15.out.size)⟩
            · have hmb := C.most_bd HV.out hm0
              have HMe : Hid ((R.mostE (d : Int) l).2 = 0) := Lib.hid (by rw [mostE_pos HV.out hm0])
              have HMe1 : Hid ((R.mostE (d : Int) l).1 = (R.most (d : Int) l : Int)) := Lib.hid (by rw [mostE_pos HV.out hm0])
              rw [mostE_pos HV.out hm0] at HMo
              have HMo := Lib.hid HMo
              have f1 : (C.onL l p : Int) ≤ (R.most (d : Int) l : Int) := by have := HFp.out; omega
              have f2 : (C.onL l q : Int) ≤ (R.most (d : Int) l : Int) := by have := HFq.out; omega
              have f4 : (d : Int) < (R.most (d : Int) l : Int) := by omega
              have f5 : (R.most (d : Int) l : Int) ≤ (l.length : Int) := by omega
              have f6 : ((R.most (d : Int) l : Int) == (R.most (d : Int) l : Int)) = true := beq_self_eq_true _
              have HCk := Lib.hid (fun x (h : C.BestOne (d : Int) l x) => by have := best_check h HMe.out; rw [HMe1.out] at this; exact this)
              have HXl := Lib.hid (fun x (h : C.BestOne (d : Int) l x) => show x.length ≤ 1000000 by
                rcases h with ⟨-, rfl⟩ | ⟨-, d', e, hf, -⟩
                · simp
                · have hdd : d' = d := by omega
                  subst hdd
                  have := (hf.props HV.out).1; omega)
              clear hm0 hmle hmb f6
              go_wp2_with fail
              refine HMo.out.mono ?_
              rintro e w14 ⟨rfl, hb⟩
              have HB14 := Lib.hid (HB13.out.trans (hb.mono HB13.out.size))
              have HL14 := Lib.hid (HL13.out.on hb)
              have IP14 := Lib.hid (IP13.out.below hb)
              have IQ14 := Lib.hid (IQ13.out.below hb)
              clear hb x1 x2
              have x1 := HL14.out.x1
              have x2 := HL14.out.x2
              have HLq1 := HLs w14 (by rw [HP.out.1]; omega) (by rw [HQ.out.1]; omega) IP14.out IQ14.out
              rw [HP.out.1, HQ.out.1] at HLq1
              have HPt := cPath_any a cap d l
              rw [HMe.out] at HPt
              have HPt := Lib.hid HPt
              generalize R.most (d : Int) l = mm at *
              by_cases hpq : p = q
              · rw [decide_eq_true hpq] at HLq1
                have HLq1 := Lib.hid HLq1
                clear hpq HLs
                go_wp2_with fail
                refine HLq1.out.mono ?_
                rintro e w15 ⟨rfl, hb⟩
                have HB15 := Lib.hid (HB14.out.trans (hb.mono HB14.out.size))
                have HL15 := Lib.hid (HL14.out.on hb)
                have IP15 := Lib.hid (IP14.out.below hb)
                have IQ15 := Lib.hid (IQ14.out.below hb)
                clear hb x1 x2
                have x1 := HL15.out.x1
                have x2 := HL15.out.x2
                go_wp2_with fail
                refine (HPt.out w15 hl2 HL15.out.sig).mono ?_
                rintro e w16 ⟨v16, xx, rfl, hown16, hbo, hb⟩
                obtain ⟨-, A16, C16, rfl, hi16, -⟩ := Ints.of_ownsRow hown16
                have hck := HCk.out xx hbo
                have hxl := HXl.out xx hbo
                have HB16 := Lib.hid (HB15.out.trans (hb.mono HB15.out.size))
                have HL16 := Lib.hid (HL15.out.on hb)
                have IP16 := Lib.hid (IP15.out.below hb)
                have IQ16 := Lib.hid (IQ15.out.below hb)
                clear hb x1 x2
                have x1 := HL16.out.x1
                have x2 := HL16.out.x2
                have IX := Lib.hid hi16
                clear hown16 hbo hi16
                have HC17 := cCheckPath_any a cap d l A16 C16 xx w16 hl2 hxl HL16.out.sig IX.out
                have HC18 := refCheckPath_any a cap d l A16 C16 xx
                rw [hck] at HC17 HC18
                have HC17 := Lib.hid HC17
                have HC18 := Lib.hid HC18
                have HXx := Lib.hid hxl
                clear hck hxl
                go_wp2_with fail
                refine HC17.out.mono ?_
                rintro e w17 ⟨rfl, hb⟩
                have IX := Lib.hid (IX.out.below hb)
                have HB17 := Lib.hid (HB16.out.trans (hb.mono HB16.out.size))
                have HL17 := Lib.hid (HL16.out.on hb)
                have IP17 := Lib.hid (IP16.out.below hb)
                have IQ17 := Lib.hid (IQ16.out.below hb)
                clear hb x1 x2
                have x1 := HL17.out.x1
                have x2 := HL17.out.x2
                go_wp2_with fail
                refine (HC18.out w17 hl2 HXx.out HL17.out.sig IX.out).mono ?_
                rintro e w18 ⟨rfl, hb⟩
                have HB18 := Lib.hid (HB17.out.trans (hb.mono HB17.out.size))
                have HL18 := Lib.hid (HL17.out.on hb)
                have IP18 := Lib.hid (IP17.out.below hb)
                have IQ18 := Lib.hid (IQ17.out.below hb)
                clear hb x1 x2
                have x1 := HL18.out.x1
                have x2 := HL18.out.x2
                go_wp2_with fail
                refine (works_any w18).mono ?_
                rintro e w19 ⟨rfl, hb⟩
                go_wp2_with fail
                go_ret
                exact ⟨rfl, HB18.out.trans (hb.mono HB18.out.size)⟩
              · rw [decide_eq_false hpq] at HLq1
                have HLq1 := Lib.hid HLq1
                have f3 : (C.both l p q : Int) ≤ (d : Int) := by
                  have : ¬ d + 1 ≤ C.both l p q := fun h => hpq (HEq.out h)
                  omega
                clear hpq HLs
                go_wp2_with fail
                refine HLq1.out.mono ?_
                rintro e w15 ⟨rfl, hb⟩
                have HB15 := Lib.hid (HB14.out.trans (hb.mono HB14.out.size))
                have HL15 := Lib.hid (HL14.out.on hb)
                have IP15 := Lib.hid (IP14.out.below hb)
                have IQ15 := Lib.hid (IQ14.out.below hb)
                clear hb x1 x2
                have x1 := HL15.out.x1
                have x2 := HL15.out.x2
                go_wp2_with fail
                refine (HPt.out w15 hl2 HL15.out.sig).mono ?_
                rintro e w16 ⟨v16, xx, rfl, hown16, hbo, hb⟩
                obtain ⟨-, A16, C16, rfl, hi16, -⟩ := Ints.of_ownsRow hown16
                have hck := HCk.out xx hbo
                have hxl := HXl.out xx hbo
                have HB16 := Lib.hid (HB15.out.trans (hb.mono HB15.out.size))
                have HL16 := Lib.hid (HL15.out.on hb)
                have IP16 := Lib.hid (IP15.out.below hb)
                have IQ16 := Lib.hid (IQ15.out.below hb)
                clear hb x1 x2
                have x1 := HL16.out.x1
                have x2 := HL16.out.x2
                have IX := Lib.hid hi16
                clear hown16 hbo hi16
                have HC17 := cCheckPath_any a cap d l A16 C16 xx w16 hl2 hxl HL16.out.sig IX.out
                have HC18 := refCheckPath_any a cap d l A16 C16 xx
                rw [hck] at HC17 HC18
                have HC17 := Lib.hid HC17
                have HC18 := Lib.hid HC18
                have HXx := Lib.hid hxl
                clear hck hxl
                go_wp2_with fail
                refine HC17.out.mono ?_
                rintro e w17 ⟨rfl, hb⟩
                have IX := Lib.hid (IX.out.below hb)
                have HB17 := Lib.hid (HB16.out.trans (hb.mono HB16.out.size))
                have HL17 := Lib.hid (HL16.out.on hb)
                have IP17 := Lib.hid (IP16.out.below hb)
                have IQ17 := Lib.hid (IQ16.out.below hb)
                clear hb x1 x2
                have x1 := HL17.out.x1
                have x2 := HL17.out.x2
                go_wp2_with fail
                refine (HC18.out w17 hl2 HXx.out HL17.out.sig IX.out).mono ?_
                rintro e w18 ⟨rfl, hb⟩
                have HB18 := Lib.hid (HB17.out.trans (hb.mono HB17.out.size))
                have HL18 := Lib.hid (HL17.out.on hb)
                have IP18 := Lib.hid (IP17.out.below hb)
                have IQ18 := Lib.hid (IQ17.out.below hb)
                clear hb x1 x2
                have x1 := HL18.out.x1
                have x2 := HL18.out.x2
                go_wp2_with fail
                refine (works_any w18).mono ?_
                rintro e w19 ⟨rfl, hb⟩
                go_wp2_with fail
                go_ret
                exact ⟨rfl, HB18.out.trans (hb.mono HB18.out.size)⟩
          · have he1 : ((R.through (d : Int) l ss).2 == 0) = false := by rw [beq_eq_false_iff_ne]; exact he0
            clear he0
            generalize (R.through (d : Int) l ss).1 = tt at *
            generalize (R.through (d : Int) l ss).2 = ee at *
            have hq : ∃ q : List Int, q = q0 := ⟨_, rfl⟩
            obtain ⟨q, rfl⟩ := hq
            have HQ := HQ0
            have IQq := IQ8
            have hA : ∃ A : Option Addr, A = AQ0 := ⟨_, rfl⟩
            obtain ⟨AQ, rfl⟩ := hA
            have hC : ∃ A : Nat, A = CQ0 := ⟨_, rfl⟩
            obtain ⟨CQ, rfl⟩ := hC
            have x1 := HLq.out.x1
            have x2 := HLq.out.x2
            have HC1 := cCheckPath_any a cap d l AP CP p wq hl2 (by rw [HP.out.1]; omega) HLq.out.sig IPq.out
            rw [checkPath_ok HV.out (by rw [HP.out.1]; omega) HP.out.2, HP.out.1] at HC1
            have HC1 := Lib.hid HC1
            go_wp2_with fail
            refine HC1.out.mono ?_
            rintro e w11 ⟨rfl, hb⟩
            have HB11 := Lib.hid (HBq.out.trans (hb.mono HBq.out.size))
            have HL11 := Lib.hid (HLq.out.on hb)
            have IP11 := Lib.hid (IPq.out.below hb)
            have IQ11 := Lib.hid (IQq.out.below hb)
            clear hb x1 x2
            have x1 := HL11.out.x1
            have x2 := HL11.out.x2
            have HC2 := cCheckPath_any a cap d l AQ CQ q w11 hl2 (by rw [HQ.out.1]; omega) HL11.out.sig IQ11.out
            rw [checkPath_ok HV.out (by rw [HQ.out.1]; omega) HQ.out.2, HQ.out.1] at HC2
            have HC2 := Lib.hid HC2
            go_wp2_with fail
            refine HC2.out.mono ?_
            rintro e w12 ⟨rfl, hb⟩
            have HB12 := Lib.hid (HB11.out.trans (hb.mono HB11.out.size))
            have HL12 := Lib.hid (HL11.out.on hb)
            have IP12 := Lib.hid (IP11.out.below hb)
            have IQ12 := Lib.hid (IQ11.out.below hb)
            clear hb x1 x2
            have x1 := HL12.out.x1
            have x2 := HL12.out.x2
            have r2 := cell_regrown HL12.out.x2
            have cA : ∀ dd os, Calls Try.prog 43 #[.slice a l.length cap, .slice AP (d + 1) CP] (Go.Sort.grow (redrawn w12 dd) os) fun e w'' => e = .returned (.int .i64 (R.on l p)) ∧ ∃ p : Regrown, w'' = Go.Sort.grow (redrawn w12 p.d) p.os := fun dd os =>
              Calls.regrown_of (by have := on_any a cap l AP CP p (Go.Sort.grow (redrawn w12 dd) os) h12 (HL12.out.sig.below (below_regrown w12 dd os)) HV.out.fit (by rw [HP.out.1]; omega) HP.out.2 (IP12.out.below (below_regrown w12 dd os)); rw [HP.out.1] at this; exact this.mono fun e w' ⟨h1, h2⟩ => ⟨h1, h2.below _⟩)
            have cB : ∀ dd os, Calls Try.prog 43 #[.slice a l.length cap, .slice AQ (d + 1) CQ] (Go.Sort.grow (redrawn w12 dd) os) fun e w'' => e = .returned (.int .i64 (R.on l q)) ∧ ∃ p : Regrown, w'' = Go.Sort.grow (redrawn w12 p.d) p.os := fun dd os =>
              Calls.regrown_of (by have := on_any a cap l AQ CQ q (Go.Sort.grow (redrawn w12 dd) os) h12 (HL12.out.sig.below (below_regrown w12 dd os)) HV.out.fit (by rw [HQ.out.1]; omega) HQ.out.2 (IQ12.out.below (below_regrown w12 dd os)); rw [HQ.out.1] at this; exact this.mono fun e w' ⟨h1, h2⟩ => ⟨h1, h2.below _⟩)
            have hand := bits_and_nat (R.on_lt l p h12) (R.on_lt l q h12)
            have cC : ∀ dd os, Calls Try.prog 42 #[.int .i64 ((R.on l p &&& R.on l q : Nat) : Int)] (Go.Sort.grow (redrawn w12 dd) os) fun e w'' => e = .returned (.int .i64 ((C.both l p q : Nat) : Int)) ∧ ∃ p : Regrown, w'' = Go.Sort.grow (redrawn w12 p.d) p.os := fun dd os =>
              Calls.regrown_of (by have := size_any (R.on l p &&& R.on l q) (Go.Sort.grow (redrawn w12 dd) os) (Nat.lt_of_le_of_lt Nat.and_le_left (R.on_lt l p h12)); exact this.mono fun e w' ⟨h1, h2⟩ => ⟨h1, by rw [← h2]; exact Below.refl _ _⟩)
            go_wp2_with fail
            refine wp_region_quiet_below (by kernel_rfl) (by kernel_rfl) ?_
            repeat (quiet_step (fail))
            quiet_step (exact cA _ _)
            repeat (quiet_step (fail))
            quiet_step (exact cB _ _)
            repeat (quiet_step (fail))
            quiet_step (exact cC _ _)
            repeat (quiet_step (fail))
            refine wpQuiet_nil ?_
            intro w13 hw'
            have hb : Below w12.heap.size w12 w13 := by obtain ⟨⟨dq, osq⟩, hw''⟩ := hw'; rw [hw'']; exact below_regrown w12 dq osq
            clear hw' r2 cA cB cC hand
            have HB13 := Lib.hid (HB12.out.trans (hb.mono HB12.out.size))
            have HL13 := Lib.hid (HL12.out.on hb)
            have IP13 := Lib.hid (IP12.out.below hb)
            have IQ13 := Lib.hid (IQ12.out.below hb)
            clear hb x1 x2
            have x1 := HL13.out.x1
            have x2 := HL13.out.x2
            have HMo := cMost_any a cap d l w13 hl2 HL13.out.sig
            have HEq := Lib.hid (fun (h : d + 1 ≤ C.both l p q) => C.eq_of_both HV.out HP.out.1 HQ.out.1 h)
            have HFp := Lib.hid (few_or_most HV.out HP.out.1)
            have HFq := Lib.hid (few_or_most HV.out HQ.out.1)
            have HLs := longs_any AP CP p AQ CQ q
            have hmle := C.most_le HV.out
            by_cases hm0 : R.most (d : Int) l = 0
            · rw [mostE_zero HV.out hm0] at HMo
              have HMo := Lib.hid HMo
              have f1 : (C.onL l p : Int) ≤ (d : Int) := by have := HFp.out; omega
              have f2 : (C.onL l q : Int) ≤ (d : Int) := by have := HFq.out; omega
              clear hm0 hmle
              go_wp2_with fail
              refine HMo.out.mono ?_
              rintro e w14 ⟨rfl, hb⟩
              have HB14 := Lib.hid (HB13.out.trans (hb.mono HB13.out.size))
              have HL14 := Lib.hid (HL13.out.on hb)
              have IP14 := Lib.hid (IP13.out.below hb)
              have IQ14 := Lib.hid (IQ13.out.below hb)
              clear hb x1 x2
              have x1 := HL14.out.x1
              have x2 := HL14.out.x2
              have HLq1 := HLs w14 (by rw [HP.out.1]; omega) (by rw [HQ.out.1]; omega) IP14.out IQ14.out
              rw [HP.out.1, HQ.out.1] at HLq1
              by_cases hpq : p = q
              · rw [decide_eq_true hpq] at HLq1
                have HLq1 := Lib.hid HLq1
                clear hpq HLs
                go_wp2_with fail
                refine HLq1.out.mono ?_
                rintro e w15 ⟨rfl, hb⟩
                have HB15 := Lib.hid (HB14.out.trans (hb.mono HB14.out.size))
                have HL15 := Lib.hid (HL14.out.on hb)
                have IP15 := Lib.hid (IP14.out.below hb)
                have IQ15 := Lib.hid (IQ14.out.below hb)
                clear hb x1 x2
                have x1 := HL15.out.x1
                have x2 := HL15.out.x2
                go_wp2_with fail
                refine (works_any w15).mono ?_
                rintro e w16 ⟨rfl, hb⟩
                go_wp2_with fail
                go_ret
                exact ⟨rfl, HB15.out.trans (hb.mono HB15.out.size)⟩
              · rw [decide_eq_false hpq] at HLq1
                have HLq1 := Lib.hid HLq1
                have f3 : (C.both l p q : Int) ≤ (d : Int) := by
                  have : ¬ d + 1 ≤ C.both l p q := fun h => hpq (HEq.out h)
                  omega
                clear hpq HLs
                go_wp2_with fail
                refine HLq1.out.mono ?_
                rintro e w15 ⟨rfl, hb⟩
                have HB15 := Lib.hid (HB14.out.trans (hb.mono HB14.out.size))
                have HL15 := Lib.hid (HL14.out.on hb)
                have IP15 := Lib.hid (IP14.out.below hb)
                have IQ15 := Lib.hid (IQ14.out.below hb)
                clear hb x1 x2
                have x1 := HL15.out.x1
                have x2 := HL15.out.x2
                go_wp2_with fail
                refine (works_any w15).mono ?_
                rintro e w16 ⟨rfl, hb⟩
                go_wp2_with fail
                go_ret
                exact ⟨rfl, HB15.out.trans (hb.mono HB15.out.size)⟩
            · have hmb := C.most_bd HV.out hm0
              have HMe : Hid ((R.mostE (d : Int) l).2 = 0) := Lib.hid (by rw [mostE_pos HV.out hm0])
              have HMe1 : Hid ((R.mostE (d : Int) l).1 = (R.most (d : Int) l : Int)) := Lib.hid (by rw [mostE_pos HV.out hm0])
              rw [mostE_pos HV.out hm0] at HMo
              have HMo := Lib.hid HMo
              have f1 : (C.onL l p : Int) ≤ (R.most (d : Int) l : Int) := by have := HFp.out; omega
              have f2 : (C.onL l q : Int) ≤ (R.most (d : Int) l : Int) := by have := HFq.out; omega
              have f4 : (d : Int) < (R.most (d : Int) l : Int) := by omega
              have f5 : (R.most (d : Int) l : Int) ≤ (l.length : Int) := by omega
              have f6 : ((R.most (d : Int) l : Int) == (R.most (d : Int) l : Int)) = true := beq_self_eq_true _
              have HCk := Lib.hid (fun x (h : C.BestOne (d : Int) l x) => by have := best_check h HMe.out; rw [HMe1.out] at this; exact this)
              have HXl := Lib.hid (fun x (h : C.BestOne (d : Int) l x) => show x.length ≤ 1000000 by
                rcases h with ⟨-, rfl⟩ | ⟨-, d', e, hf, -⟩
                · simp
                · have hdd : d' = d := by omega
                  subst hdd
                  have := (hf.props HV.out).1; omega)
              clear hm0 hmle hmb f6
              go_wp2_with fail
              refine HMo.out.mono ?_
              rintro e w14 ⟨rfl, hb⟩
              have HB14 := Lib.hid (HB13.out.trans (hb.mono HB13.out.size))
              have HL14 := Lib.hid (HL13.out.on hb)
              have IP14 := Lib.hid (IP13.out.below hb)
              have IQ14 := Lib.hid (IQ13.out.below hb)
              clear hb x1 x2
              have x1 := HL14.out.x1
              have x2 := HL14.out.x2
              have HLq1 := HLs w14 (by rw [HP.out.1]; omega) (by rw [HQ.out.1]; omega) IP14.out IQ14.out
              rw [HP.out.1, HQ.out.1] at HLq1
              have HPt := cPath_any a cap d l
              rw [HMe.out] at HPt
              have HPt := Lib.hid HPt
              generalize R.most (d : Int) l = mm at *
              by_cases hpq : p = q
              · rw [decide_eq_true hpq] at HLq1
                have HLq1 := Lib.hid HLq1
                clear hpq HLs
                go_wp2_with fail
                refine HLq1.out.mono ?_
                rintro e w15 ⟨rfl, hb⟩
                have HB15 := Lib.hid (HB14.out.trans (hb.mono HB14.out.size))
                have HL15 := Lib.hid (HL14.out.on hb)
                have IP15 := Lib.hid (IP14.out.below hb)
                have IQ15 := Lib.hid (IQ14.out.below hb)
                clear hb x1 x2
                have x1 := HL15.out.x1
                have x2 := HL15.out.x2
                go_wp2_with fail
                refine (HPt.out w15 hl2 HL15.out.sig).mono ?_
                rintro e w16 ⟨v16, xx, rfl, hown16, hbo, hb⟩
                obtain ⟨-, A16, C16, rfl, hi16, -⟩ := Ints.of_ownsRow hown16
                have hck := HCk.out xx hbo
                have hxl := HXl.out xx hbo
                have HB16 := Lib.hid (HB15.out.trans (hb.mono HB15.out.size))
                have HL16 := Lib.hid (HL15.out.on hb)
                have IP16 := Lib.hid (IP15.out.below hb)
                have IQ16 := Lib.hid (IQ15.out.below hb)
                clear hb x1 x2
                have x1 := HL16.out.x1
                have x2 := HL16.out.x2
                have IX := Lib.hid hi16
                clear hown16 hbo hi16
                have HC17 := cCheckPath_any a cap d l A16 C16 xx w16 hl2 hxl HL16.out.sig IX.out
                have HC18 := refCheckPath_any a cap d l A16 C16 xx
                rw [hck] at HC17 HC18
                have HC17 := Lib.hid HC17
                have HC18 := Lib.hid HC18
                have HXx := Lib.hid hxl
                clear hck hxl
                go_wp2_with fail
                refine HC17.out.mono ?_
                rintro e w17 ⟨rfl, hb⟩
                have IX := Lib.hid (IX.out.below hb)
                have HB17 := Lib.hid (HB16.out.trans (hb.mono HB16.out.size))
                have HL17 := Lib.hid (HL16.out.on hb)
                have IP17 := Lib.hid (IP16.out.below hb)
                have IQ17 := Lib.hid (IQ16.out.below hb)
                clear hb x1 x2
                have x1 := HL17.out.x1
                have x2 := HL17.out.x2
                go_wp2_with fail
                refine (HC18.out w17 hl2 HXx.out HL17.out.sig IX.out).mono ?_
                rintro e w18 ⟨rfl, hb⟩
                have HB18 := Lib.hid (HB17.out.trans (hb.mono HB17.out.size))
                have HL18 := Lib.hid (HL17.out.on hb)
                have IP18 := Lib.hid (IP17.out.below hb)
                have IQ18 := Lib.hid (IQ17.out.below hb)
                clear hb x1 x2
                have x1 := HL18.out.x1
                have x2 := HL18.out.x2
                go_wp2_with fail
                refine (works_any w18).mono ?_
                rintro e w19 ⟨rfl, hb⟩
                go_wp2_with fail
                go_ret
                exact ⟨rfl, HB18.out.trans (hb.mono HB18.out.size)⟩
              · rw [decide_eq_false hpq] at HLq1
                have HLq1 := Lib.hid HLq1
                have f3 : (C.both l p q : Int) ≤ (d : Int) := by
                  have : ¬ d + 1 ≤ C.both l p q := fun h => hpq (HEq.out h)
                  omega
                clear hpq HLs
                go_wp2_with fail
                refine HLq1.out.mono ?_
                rintro e w15 ⟨rfl, hb⟩
                have HB15 := Lib.hid (HB14.out.trans (hb.mono HB14.out.size))
                have HL15 := Lib.hid (HL14.out.on hb)
                have IP15 := Lib.hid (IP14.out.below hb)
                have IQ15 := Lib.hid (IQ14.out.below hb)
                clear hb x1 x2
                have x1 := HL15.out.x1
                have x2 := HL15.out.x2
                go_wp2_with fail
                refine (HPt.out w15 hl2 HL15.out.sig).mono ?_
                rintro e w16 ⟨v16, xx, rfl, hown16, hbo, hb⟩
                obtain ⟨-, A16, C16, rfl, hi16, -⟩ := Ints.of_ownsRow hown16
                have hck := HCk.out xx hbo
                have hxl := HXl.out xx hbo
                have HB16 := Lib.hid (HB15.out.trans (hb.mono HB15.out.size))
                have HL16 := Lib.hid (HL15.out.on hb)
                have IP16 := Lib.hid (IP15.out.below hb)
                have IQ16 := Lib.hid (IQ15.out.below hb)
                clear hb x1 x2
                have x1 := HL16.out.x1
                have x2 := HL16.out.x2
                have IX := Lib.hid hi16
                clear hown16 hbo hi16
                have HC17 := cCheckPath_any a cap d l A16 C16 xx w16 hl2 hxl HL16.out.sig IX.out
                have HC18 := refCheckPath_any a cap d l A16 C16 xx
                rw [hck] at HC17 HC18
                have HC17 := Lib.hid HC17
                have HC18 := Lib.hid HC18
                have HXx := Lib.hid hxl
                clear hck hxl
                go_wp2_with fail
                refine HC17.out.mono ?_
                rintro e w17 ⟨rfl, hb⟩
                have IX := Lib.hid (IX.out.below hb)
                have HB17 := Lib.hid (HB16.out.trans (hb.mono HB16.out.size))
                have HL17 := Lib.hid (HL16.out.on hb)
                have IP17 := Lib.hid (IP16.out.below hb)
                have IQ17 := Lib.hid (IQ16.out.below hb)
                clear hb x1 x2
                have x1 := HL17.out.x1
                have x2 := HL17.out.x2
                go_wp2_with fail
                refine (HC18.out w17 hl2 HXx.out HL17.out.sig IX.out).mono ?_
                rintro e w18 ⟨rfl, hb⟩
                have HB18 := Lib.hid (HB17.out.trans (hb.mono HB17.out.size))
                have HL18 := Lib.hid (HL17.out.on hb)
                have IP18 := Lib.hid (IP17.out.below hb)
                have IQ18 := Lib.hid (IQ17.out.below hb)
                clear hb x1 x2
                have x1 := HL18.out.x1
                have x2 := HL18.out.x2
                go_wp2_with fail
                refine (works_any w18).mono ?_
                rintro e w19 ⟨rfl, hb⟩
                go_wp2_with fail
                go_ret
                exact ⟨rfl, HB18.out.trans (hb.mono HB18.out.size)⟩
    · have hndI : (l.length : Int) ≤ (d : Int) := by omega
      have hq : ∃ q : List Int, q = q0 := ⟨_, rfl⟩
      obtain ⟨q, rfl⟩ := hq
      have HQ := HQ0
      have IQq := IQ0
      have hA : ∃ A : Option Addr, A = AQ0 := ⟨_, rfl⟩
      obtain ⟨AQ, rfl⟩ := hA
      have hC : ∃ A : Nat, A = CQ0 := ⟨_, rfl⟩
      obtain ⟨CQ, rfl⟩ := hC
      have hW : ∃ W : World, W = wQ := ⟨_, rfl⟩
      obtain ⟨wq, rfl⟩ := hW
      clear x1 x2
      have x1 := HLq.out.x1
      have x2 := HLq.out.x2
      have HC1 := cCheckPath_any a cap d l AP CP p wq hl2 (by rw [HP.out.1]; omega) HLq.out.sig IPq.out
      rw [checkPath_ok HV.out (by rw [HP.out.1]; omega) HP.out.2, HP.out.1] at HC1
      have HC1 := Lib.hid HC1
      go_wp2_with fail
      refine HC1.out.mono ?_
      rintro e w11 ⟨rfl, hb⟩
      have HB11 := Lib.hid (HBq.out.trans (hb.mono HBq.out.size))
      have HL11 := Lib.hid (HLq.out.on hb)
      have IP11 := Lib.hid (IPq.out.below hb)
      have IQ11 := Lib.hid (IQq.out.below hb)
      clear hb x1 x2
      have x1 := HL11.out.x1
      have x2 := HL11.out.x2
      have HC2 := cCheckPath_any a cap d l AQ CQ q w11 hl2 (by rw [HQ.out.1]; omega) HL11.out.sig IQ11.out
      rw [checkPath_ok HV.out (by rw [HQ.out.1]; omega) HQ.out.2, HQ.out.1] at HC2
      have HC2 := Lib.hid HC2
      go_wp2_with fail
      refine HC2.out.mono ?_
      rintro e w12 ⟨rfl, hb⟩
      have HB12 := Lib.hid (HB11.out.trans (hb.mono HB11.out.size))
      have HL12 := Lib.hid (HL11.out.on hb)
      have IP12 := Lib.hid (IP11.out.below hb)
      have IQ12 := Lib.hid (IQ11.out.below hb)
      clear hb x1 x2
      have x1 := HL12.out.x1
      have x2 := HL12.out.x2
      have r2 := cell_regrown HL12.out.x2
      have cA : ∀ dd os, Calls Try.prog 43 #[.slice a l.length cap, .slice AP (d + 1) CP] (Go.Sort.grow (redrawn w12 dd) os) fun e w'' => e = .returned (.int .i64 (R.on l p)) ∧ ∃ p : Regrown, w'' = Go.Sort.grow (redrawn w12 p.d) p.os := fun dd os =>
        Calls.regrown_of (by have := on_any a cap l AP CP p (Go.Sort.grow (redrawn w12 dd) os) h12 (HL12.out.sig.below (below_regrown w12 dd os)) HV.out.fit (by rw [HP.out.1]; omega) HP.out.2 (IP12.out.below (below_regrown w12 dd os)); rw [HP.out.1] at this; exact this.mono fun e w' ⟨h1, h2⟩ => ⟨h1, h2.below _⟩)
      have cB : ∀ dd os, Calls Try.prog 43 #[.slice a l.length cap, .slice AQ (d + 1) CQ] (Go.Sort.grow (redrawn w12 dd) os) fun e w'' => e = .returned (.int .i64 (R.on l q)) ∧ ∃ p : Regrown, w'' = Go.Sort.grow (redrawn w12 p.d) p.os := fun dd os =>
        Calls.regrown_of (by have := on_any a cap l AQ CQ q (Go.Sort.grow (redrawn w12 dd) os) h12 (HL12.out.sig.below (below_regrown w12 dd os)) HV.out.fit (by rw [HQ.out.1]; omega) HQ.out.2 (IQ12.out.below (below_regrown w12 dd os)); rw [HQ.out.1] at this; exact this.mono fun e w' ⟨h1, h2⟩ => ⟨h1, h2.below _⟩)
      have hand := bits_and_nat (R.on_lt l p h12) (R.on_lt l q h12)
      have cC : ∀ dd os, Calls Try.prog 42 #[.int .i64 ((R.on l p &&& R.on l q : Nat) : Int)] (Go.Sort.grow (redrawn w12 dd) os) fun e w'' => e = .returned (.int .i64 ((C.both l p q : Nat) : Int)) ∧ ∃ p : Regrown, w'' = Go.Sort.grow (redrawn w12 p.d) p.os := fun dd os =>
        Calls.regrown_of (by have := size_any (R.on l p &&& R.on l q) (Go.Sort.grow (redrawn w12 dd) os) (Nat.lt_of_le_of_lt Nat.and_le_left (R.on_lt l p h12)); exact this.mono fun e w' ⟨h1, h2⟩ => ⟨h1, by rw [← h2]; exact Below.refl _ _⟩)
      go_wp2_with fail
      refine wp_region_quiet_below (by kernel_rfl) (by kernel_rfl) ?_
      repeat (quiet_step (fail))
      quiet_step (exact cA _ _)
      repeat (quiet_step (fail))
      quiet_step (exact cB _ _)
      repeat (quiet_step (fail))
      quiet_step (exact cC _ _)
      repeat (quiet_step (fail))
      refine wpQuiet_nil ?_
      intro w13 hw'
      have hb : Below w12.heap.size w12 w13 := by obtain ⟨⟨dq, osq⟩, hw''⟩ := hw'; rw [hw'']; exact below_regrown w12 dq osq
      clear hw' r2 cA cB cC hand
      have HB13 := Lib.hid (HB12.out.trans (hb.mono HB12.out.size))
      have HL13 := Lib.hid (HL12.out.on hb)
      have IP13 := Lib.hid (IP12.out.below hb)
      have IQ13 := Lib.hid (IQ12.out.below hb)
      clear hb x1 x2
      have x1 := HL13.out.x1
      have x2 := HL13.out.x2
      have HMo := cMost_any a cap d l w13 hl2 HL13.out.sig
      have HEq := Lib.hid (fun (h : d + 1 ≤ C.both l p q) => C.eq_of_both HV.out HP.out.1 HQ.out.1 h)
      have HFp := Lib.hid (few_or_most HV.out HP.out.1)
      have HFq := Lib.hid (few_or_most HV.out HQ.out.1)
      have HLs := longs_any AP CP p AQ CQ q
      have hmle := C.most_le HV.out
      by_cases hm0 : R.most (d : Int) l = 0
      · rw [mostE_zero HV.out hm0] at HMo
        have HMo := Lib.hid HMo
        have f1 : (C.onL l p : Int) ≤ (d : Int) := by have := HFp.out; omega
        have f2 : (C.onL l q : Int) ≤ (d : Int) := by have := HFq.out; omega
        clear hm0 hmle
        go_wp2_with fail
        refine HMo.out.mono ?_
        rintro e w14 ⟨rfl, hb⟩
        have HB14 := Lib.hid (HB13.out.trans (hb.mono HB13.out.size))
        have HL14 := Lib.hid (HL13.out.on hb)
        have IP14 := Lib.hid (IP13.out.below hb)
        have IQ14 := Lib.hid (IQ13.out.below hb)
        clear hb x1 x2
        have x1 := HL14.out.x1
        have x2 := HL14.out.x2
        have HLq1 := HLs w14 (by rw [HP.out.1]; omega) (by rw [HQ.out.1]; omega) IP14.out IQ14.out
        rw [HP.out.1, HQ.out.1] at HLq1
        by_cases hpq : p = q
        · rw [decide_eq_true hpq] at HLq1
          have HLq1 := Lib.hid HLq1
          clear hpq HLs
          go_wp2_with fail
          refine HLq1.out.mono ?_
          rintro e w15 ⟨rfl, hb⟩
          have HB15 := Lib.hid (HB14.out.trans (hb.mono HB14.out.size))
          have HL15 := Lib.hid (HL14.out.on hb)
          have IP15 := Lib.hid (IP14.out.below hb)
          have IQ15 := Lib.hid (IQ14.out.below hb)
          clear hb x1 x2
          have x1 := HL15.out.x1
          have x2 := HL15.out.x2
          go_wp2_with fail
          refine (works_any w15).mono ?_
          rintro e w16 ⟨rfl, hb⟩
          go_wp2_with fail
          go_ret
          exact ⟨rfl, HB15.out.trans (hb.mono HB15.out.size)⟩
        · rw [decide_eq_false hpq] at HLq1
          have HLq1 := Lib.hid HLq1
          have f3 : (C.both l p q : Int) ≤ (d : Int) := by
            have : ¬ d + 1 ≤ C.both l p q := fun h => hpq (HEq.out h)
            omega
          clear hpq HLs
          go_wp2_with fail
          refine HLq1.out.mono ?_
          rintro e w15 ⟨rfl, hb⟩
          have HB15 := Lib.hid (HB14.out.trans (hb.mono HB14.out.size))
          have HL15 := Lib.hid (HL14.out.on hb)
          have IP15 := Lib.hid (IP14.out.below hb)
          have IQ15 := Lib.hid (IQ14.out.below hb)
          clear hb x1 x2
          have x1 := HL15.out.x1
          have x2 := HL15.out.x2
          go_wp2_with fail
          refine (works_any w15).mono ?_
          rintro e w16 ⟨rfl, hb⟩
          go_wp2_with fail
          go_ret
          exact ⟨rfl, HB15.out.trans (hb.mono HB15.out.size)⟩
      · exfalso
        have := C.most_bd HV.out hm0
        omega
  · rw [decide_eq_false hc] at HF
    have HF := Lib.hid HF
    clear hc
    unfold by8
    go_enter Try.func7, Try.ntmps7
    go_wp2_with fail
    refine HF.out.mono ?_
    rintro e w1 ⟨rfl, hb1⟩
    have HB1 := Lib.hid (HB.out.trans (hb1.mono HB.out.size))
    clear hb1
    go_wp2_with fail
    refine (works_any w1).mono ?_
    rintro e w2 ⟨rfl, hb2⟩
    go_wp2_with fail
    go_ret
    exact ⟨rfl, HB1.out.trans (hb2.mono HB1.out.size)⟩
end Go.Proofs.Ytkcgkfhfogdihaa
