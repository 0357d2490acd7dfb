/- Walk of the statement CometLater. -/
import Derived.Test.YtkcgkfhfogdihaaMathJ
namespace Go.Proofs.Ytkcgkfhfogdihaa
open Go.RowKit
theorem BuildI.cell {w0 ws : World} {H2 H : Nat} {deg : Int} {a : Option Addr} {cap : Nat} {l : List (Int × Int)} {v : Value} {r : List (Int × Int)} {wi : World} (h : BuildI w0 ws H2 H deg a cap l v r wi) {p : Addr} {u : Value} (hp : ws.cell? p = some u) (hne : p.block ≠ H) : wi.cell? p = some u :=
  (World.cell?_of_block (h.kp p.block (World.block_lt_of_cell? _ _ hp) hne)).trans hp
set_option maxRecDepth 100000 in
set_option maxHeartbeats 8000000 in
theorem later_walk (a : Option Addr) (cap : Nat) (deg : Int) (l : List (Int × Int)) (n1 : Int) (b : List Int) (which : Int) (w : World) (ha : Sigs w a l) (h1 : (Lit.int .u8 n1).wf = true) (hb : Small b) (hu : (Lit.int .u8 which).wf = true) :
    Calls Try.prog 9 #[.agg #[.int .i64 deg, .slice a l.length cap], .int .u8 n1, by8 b, .int .u8 which] w fun e w' => e = .returned (.bool true) ∧ Below w.heap.size w w' := by
  have hb0 := (Below.new w (.cells #[.int .i64 deg, .slice a l.length cap] 33)).alloc (by simp) (.cells #[.int .i8 (nth b 0), .int .i8 (nth b 1), .int .i8 (nth b 2), .int .i8 (nth b 3)] 47)
  have HL := Lib.hid ((Logged.new ha deg cap 33).on (Below.new _ (.cells #[.int .i8 (nth b 0), .int .i8 (nth b 1), .int .i8 (nth b 2), .int .i8 (nth b 3)] 47)))
  have hby : ∀ c, c < 4 → ((w.alloc (.cells #[.int .i64 deg, .slice a l.length cap] 33)).alloc (.cells #[.int .i8 (nth b 0), .int .i8 (nth b 1), .int .i8 (nth b 2), .int .i8 (nth b 3)] 47)).cell? ⟨w.heap.size + 1, c, none⟩ = some (.int .i8 (nth b c)) := fun c hc => by
    obtain rfl | rfl | rfl | rfl : c = 0 ∨ c = 1 ∨ c = 2 ∨ c = 3 := by omega
    all_goals exact cell_top (by simp) rfl
  have HBy := Lib.hid hby
  have HB := Lib.hid hb0
  have HA := Lib.hid ha
  have HF := fine_any a cap deg l _ (ha.below hb0)
  have HU := Lib.hid hu
  have HSb := Lib.hid hb
  have hn1 := u8_bd h1
  have hsz0 : ((w.alloc (.cells #[.int .i64 deg, .slice a l.length cap] 33)).alloc (.cells #[.int .i8 (nth b 0), .int .i8 (nth b 1), .int .i8 (nth b 2), .int .i8 (nth b 3)] 47)).heap.size = w.heap.size + 2 := by simp
  have HSz0 := Lib.hid hsz0
  clear ha hb0 hu hb h1 hby hsz0
  by_cases hc : R.checkLog deg l = 0
  · have hv := R.checkLog_zero hc
    rw [decide_eq_true hc] at HF
    have HF := Lib.hid HF
    have HV := Lib.hid hv
    have h12 := hv.len
    obtain ⟨d, rfl⟩ := hv.nat
    have hd3 : d ≤ 3 := by have := hv.d3; omega
    obtain ⟨k, hk, hk'⟩ := rem_nat hn1.1 61 (by decide)
    have hk' : n1.tmod 61 = (k : Int) := hk'
    have k1 : IntKind.i64.wrap n1 = n1 := IntWalk.i64_in _ (by omega)
    have k2 : IntKind.i64.wrap (k : Int) = (k : Int) := IntWalk.i64_in _ (by omega)
    clear hv hc hn1
    unfold by8
    go_enter Try.func9, Try.ntmps9
    go_wp2_with fail
    generalize (w.alloc (.cells #[.int .i64 (d : Int), .slice a l.length cap] 33)).alloc (.cells #[.int .i8 (nth b 0), .int .i8 (nth b 1), .int .i8 (nth b 2), .int .i8 (nth b 3)] 47) = w0 at *
    refine HF.out.mono ?_
    rintro e w1 ⟨rfl, hb1⟩
    have HB1 := Lib.hid (HB.out.trans (hb1.mono HB.out.size))
    have HL1 := Lib.hid (HL.out.on hb1)
    have HBy1 := Lib.hid (fun c hc => cell_on hb1 (HBy.out c hc))
    have hlt1 : w.heap.size + 2 ≤ w1.heap.size := by have := hb1.size; have := HSz0.out; omega
    clear hb1
    have x1 := HL1.out.x1
    have x2 := HL1.out.x2
    have hbn := Below.new w1 (.cells #[.int .i64 (d : Int), .slice none 0 0] 33)
    have hx0 : (w1.alloc (.cells #[.int .i64 (d : Int), .slice none 0 0] 33)).cell? ⟨w1.heap.size, 0, none⟩ = some (.int .i64 (d : Int)) := cell_top rfl rfl
    have hx1 : (w1.alloc (.cells #[.int .i64 (d : Int), .slice none 0 0] 33)).cell? ⟨w1.heap.size, 1, none⟩ = some (.slice none 0 0) := cell_top rfl rfl
    have hfz : (w1.alloc (.cells #[.int .i64 (d : Int), .slice none 0 0] 33)).frozen? ⟨w1.heap.size, 1, none⟩ = false := by simp
    have hsw : w1.heap.size < (w1.alloc (.cells #[.int .i64 (d : Int), .slice none 0 0] 33)).heap.size := by simp
    go_wp2_with fail
    obtain ⟨ws, hws⟩ : ∃ ws, ws = w1.alloc (.cells #[.int .i64 (d : Int), .slice none 0 0] 33) := ⟨_, rfl⟩
    rw [← hws] at hbn hx0 hx1 hfz hsw ⊢
    have HI : Hid (BuildI w ws w.heap.size w1.heap.size d a cap l (.slice none 0 0) (C.lateL l k 0) ws) := Lib.hid ⟨cell_on hbn x1, cell_on hbn x2, hx0, hx1, hfz, World.ownsRow_nil _ _ _ _, HB1.out.trans (hbn.mono HB1.out.size), Nat.le_refl _, fun k _ _ => rfl⟩
    have HBys := Lib.hid (fun c hc => cell_on hbn (HBy1.out c hc))
    have hs0 : w.heap.size ≤ ws.heap.size := by omega
    have h2s : w.heap.size < ws.heap.size := by omega
    have hne : w.heap.size ≠ w1.heap.size := by omega
    have h0s : w.heap.size ≤ w1.heap.size := by omega
    clear x1 x2 hws hbn hx0 hx1 hfz
    go_loopw [11] (fun i wi => ∃ (j : Nat) (v : Value), j ≤ l.length ∧ i = .int .i64 (j : Int) ∧ Hid (BuildI w ws w.heap.size w1.heap.size d a cap l v (C.lateL l k j) wi)) (fun i _ => l.length - (intOf i).toNat)
    case atStart => exact ⟨0, _, Nat.zero_le _, rfl, HI⟩
    case round =>
      obtain ⟨j, v, hj, rfl, HI1⟩ := hrel
      have x1 := HI1.out.l1
      by_cases hlt : j < l.length
      · have HSt : Hid (C.lateL l k (j + 1) = C.lateL l k j ++ [(dayN l j + k, plcN l j)]) := Lib.hid rfl
        have HTl : Hid ((C.lateL l k j).length = j) := Lib.hid (C.bldTo_length _ _)
        have hfit := HV.out.fit j hlt
        unfold R.FitS at hfit
        obtain ⟨f1, f2, f3, f4⟩ := hfit
        obtain ⟨ba, offa, rfl, hd, hp⟩ := (HA.out.below HI1.out.bel) j hlt
        generalize hdd : dayN l j = dd at *
        generalize hpp : plcN l j = pp at *
        have k3 : IntKind.i64.wrap (dd + (k : Int)) = dd + (k : Int) := IntWalk.i64_in _ (by omega)
        have q1 : (0 : Int) ≤ (j : Int) := by omega
        have q2 : (j : Int) < ↑l.length := by omega
        have x3 := HI1.out.x1
        have hown := HI1.out.own
        rw [HTl.out] at hown
        have hn : j + 1 ≤ 2000000 := by omega
        have hba := World.block_lt_of_cell? _ _ hd
        simp only at hba
        have hwr1 := World.block_lt_of_cell? _ _ x3
        simp only at hwr1
        have hwr2 := World.block_lt_of_cell? _ _ x1
        simp only at hwr2
        have hwsr := HI1.out.sz
        have hbaw : ba < w.heap.size := by
          obtain ⟨b', o', e, h, _⟩ := HA.out j hlt; cases e; exact World.block_lt_of_cell? _ _ h
        have ne1 : some w1.heap.size ≠ v.ownBlock := fun e => by have := (hown.lt _ e.symm).1; omega
        have ne2 : some w.heap.size ≠ v.ownBlock := fun e => by have := (hown.lt _ e.symm).1; omega
        have ne3 : some ba ≠ v.ownBlock := fun e => by have := (hown.lt _ e.symm).1; omega
        have F1 := Lib.hid HI1.out.fz
        go_wp2_with fail
        refine wp_region_field 17 20 (fun w' => w'.cell? ⟨w1.heap.size, 1, none⟩ = some v ∧ w'.cell? ⟨w.heap.size, 1, none⟩ = some (.slice (some ⟨ba, offa, none⟩) l.length cap) ∧ w'.cell? ⟨ba, offa + j * 2, none⟩ = some (.int .i64 dd) ∧ w'.cell? ⟨ba, offa + j * 2 + 1, none⟩ = some (.int .i64 pp)) (by kernel_rfl) (by kernel_rfl) ⟨x3, x1, hd, hp⟩ ?_
        simp only [List.take_succ_cons, List.take_zero, List.drop_succ_cons, List.drop_zero]
        iterate 17 (refine headH_step _ (fun w' hS' => by (obtain ⟨s1, s2, s3, s4⟩ := hS'; simp [execOp, go_sem, *]; try rfl)) ?_)
        refine headH_nil ?_
        change tailH _ _ _ _ _ wr.drew
        refine tailH_step (fun K hK => ?_)
        go_simp
        obtain ⟨W8, hW8⟩ : ∃ W8, W8 = (wr.alloc (.cells #[.int .i64 (dd + (k : Int)), .int .i64 pp] 57)).drew := ⟨_, rfl⟩
        rw [← hW8]
        have hb8 : Below wr.heap.size wr W8 := by rw [hW8]; exact (Below.new wr _).drew
        have hnews : ∀ j u, [Value.int .i64 (dd + (k : Int)), .int .i64 pp][j]? = some u → W8.cell? ((⟨wr.heap.size, 0, none⟩ : Addr).add j) = some u := by rw [hW8]; exact news_new wr #[.int .i64 (dd + (k : Int)), .int .i64 pp] 57
        have hown8 := owns_below hown hb8
        have y1 := cell_on hb8 x3
        have y2 := cell_on hb8 x1
        have y3 := cell_on hb8 hd
        have y4 := cell_on hb8 hp
        have y5 : W8.frozen? ⟨w1.heap.size, 1, none⟩ = false := by rw [hb8.frozen (p := ⟨w1.heap.size, 1, none⟩) hwr1]; exact F1.out
        have hsz8 := hb8.size
        clear hW8
        refine hK _ _ ⟨y1, y2, y3, y4⟩ ?_
        clear hK K x3 x1 hd hp
        refine tailH_step (fun K hK => ?_)
        refine wpApp T31 (.tmp 39) (.tmp 55) rfl ws.heap.size v j (flat (C.lateL l k j)) [.int .i64 (dd + (k : Int)), .int .i64 pp] 1 1 ⟨wr.heap.size, 0, none⟩ rfl hown8 rfl rfl hnews (by simp [Value.oneCell']) hn (by omega) (fun v2 w2 hown2 hg2 hL2 => ?_)
        have z1 := hg2.cell y1 ne1
        have z2 := hg2.cell y2 ne2
        have z3 := hg2.cell y3 ne3
        have z4 := hg2.cell y4 ne3
        have z5 := frozen_grown hg2 (a := ⟨w1.heap.size, 1, none⟩) (by show w1.heap.size < _; omega) ne1 y5
        have hown2' : w2.ownsRow ws.heap.size 57 2 v2 ((C.lateL l k j).length + 1) (flat (C.lateL l k j ++ [(dd + (k : Int), pp)])) := by rw [flat_snoc, HTl.out]; exact hown2
        have HI2 := HI1.out.step h2s hsw hne h0s hs0 hb8 hg2 hown2'
        rw [← HSt.out] at HI2
        have HI2 := Lib.hid HI2
        obtain ⟨-, a2, c2, rfl, -⟩ := Sigs.of_ownsRow hown2'
        rw [HTl.out] at HI2 ⊢
        refine hK _ _ ⟨z1, z2, z3, z4⟩ ?_
        clear hK K y1 y2 y3 y4 y5 hown8 hnews hown hown2 hown2'
        refine tailH_step (fun K hK => ?_)
        go_simp
        refine hK _ _ ⟨z1, z2, z3, z4⟩ ?_
        clear hK K z2 z3 z4
        refine tailH_last (fun K hK => ?_)
        go_simp
        refine hK _ _ (NoPanic.normal ?_)
        clear hK K z1 z5
        go_wp2_with fail
        go_roundw
        case rel => exact ⟨j + 1, _, by omega, by go_num, HI2⟩
        case measure => simp [intOf]; omega
      · have hjl : j = l.length := by omega
        subst hjl
        have HT : Hid ((C.lateL l k l.length).length = l.length) := Lib.hid (C.bldTo_length _ _)
        have hown := HI1.out.own
        obtain ⟨-, a5, c5, rfl, hsig, -⟩ := Sigs.of_ownsRow hown
        have HL2 : Hid (Logged wr w.heap.size d a cap l) := Lib.hid ⟨HI1.out.l0, HI1.out.l1, HA.out.below HI1.out.bel⟩
        have HX2 : Hid (Logged wr w1.heap.size d a5 c5 (C.lateL l k l.length)) := Lib.hid ⟨HI1.out.x0, HI1.out.x1, hsig⟩
        have HB2 := Lib.hid HI1.out.bel
        have b0 := HI1.out.cell (HBys.out 0 (by omega)) (by show w.heap.size + 1 ≠ w1.heap.size; omega)
        have b1 := HI1.out.cell (HBys.out 1 (by omega)) (by show w.heap.size + 1 ≠ w1.heap.size; omega)
        have b2 := HI1.out.cell (HBys.out 2 (by omega)) (by show w.heap.size + 1 ≠ w1.heap.size; omega)
        have b3 := HI1.out.cell (HBys.out 3 (by omega)) (by show w.heap.size + 1 ≠ w1.heap.size; omega)
        have HX := HL2.out.x1
        have HGv := given_any d b wr hd3 HSb.out
        unfold by8 at HGv
        have HGv := Lib.hid HGv
        have hgl := given_length b (d + 1)
        have hgn := given_num b (d + 1)
        have hgs := given_smallP b (d + 1)
        clear hown hsig
        go_wp2_with fail
        refine HGv.out.mono ?_
        rintro e w3 ⟨v3, rfl, hown3, hb⟩
        obtain ⟨-, A3, C3, rfl, hi, -⟩ := Ints.of_ownsRow hown3
        generalize given b (d + 1) = p at *
        have HB3 := Lib.hid (HB2.out.trans (hb.mono HB2.out.size))
        have HL3 := Lib.hid (HL2.out.on hb)
        have HX3 := Lib.hid (HX2.out.on hb)
        have HP := Lib.hid hgl
        have HN := Lib.hid hgn
        have HS := Lib.hid hgs
        have hp4 : p.length ≤ 4 := by omega
        have IP := Lib.hid hi
        clear hown3 hb hi hgl hgn hgs b0 b1 b2 b3 HX HGv
        have HC4 := cLater_any A3 C3 p k w3 (by omega) IP.out
        rw [later_ok (by rw [HP.out]; omega) hp4 HN.out (by omega) (by omega), HP.out] at HC4
        have HC4 := Lib.hid HC4
        go_wp2_with fail
        refine HC4.out.mono ?_
        rintro e w4 ⟨v4, rfl, hown4, hb⟩
        obtain ⟨-, A4, C4, rfl, hi, -⟩ := Ints.of_ownsRow hown4
        have HB4 := Lib.hid (HB3.out.trans (hb.mono HB3.out.size))
        have HL4 := Lib.hid (HL3.out.on hb)
        have HX4 := Lib.hid (HX3.out.on hb)
        have IP := Lib.hid (IP.out.below hb)
        have IL := Lib.hid hi
        clear hown4 hb hi
        have HLl := Lib.hid (laterOf_length p k)
        have HLn := Lib.hid (later_num HS.out hp4 (show (0 : Int) ≤ (k : Int) by omega) (by omega))
        have HC5 := laterOf_any A3 C3 p k w4 hp4 (by omega) (by omega) HN.out IP.out
        rw [HP.out] at HC5
        have HC5 := Lib.hid HC5
        go_wp2_with fail
        refine HC5.out.mono ?_
        rintro e w5 ⟨v5, rfl, hown5, hb⟩
        obtain ⟨-, A5, C5, rfl, hi, -⟩ := Ints.of_ownsRow hown5
        have HB5 := Lib.hid (HB4.out.trans (hb.mono HB4.out.size))
        have HL5 := Lib.hid (HL4.out.on hb)
        have HX5 := Lib.hid (HX4.out.on hb)
        have IP := Lib.hid (IP.out.below hb)
        have IL := Lib.hid (IL.out.below hb)
        have IR := Lib.hid hi
        clear hown5 hb hi
        have HC6 := longs_same A4 C4 (d + 1) (R.laterOf p k) A5 C5 w5 (HLl.out.trans HP.out) (by omega) IL.out IR.out
        have HC6 := Lib.hid HC6
        rw [HLl.out, HP.out]
        go_wp2_with fail
        refine HC6.out.mono ?_
        rintro e w6 ⟨rfl, hb⟩
        have HB6 := Lib.hid (HB5.out.trans (hb.mono HB5.out.size))
        have HL6 := Lib.hid (HL5.out.on hb)
        have HX6 := Lib.hid (HX5.out.on hb)
        have IP := Lib.hid (IP.out.below hb)
        have IL := Lib.hid (IL.out.below hb)
        clear hb
        obtain ⟨h, hh⟩ : ∃ h : Nat, h = k / 2 := ⟨_, rfl⟩
        have kq : (k : Int).tdiv 2 = (h : Int) := by rw [hh]; rfl
        have hhk : h ≤ k := by omega
        have k3 : IntKind.i64.wrap (h : Int) = (h : Int) := IntWalk.i64_in _ (by omega)
        have k4 : IntKind.i64.wrap ((k : Int) - (h : Int)) = (k : Int) - (h : Int) := IntWalk.i64_in _ (by omega)
        clear hh
        have HC7 := cLater_any A3 C3 p h w6 (by omega) IP.out
        rw [later_ok (by rw [HP.out]; omega) hp4 HN.out (by omega) (by omega), HP.out] at HC7
        have HC7 := Lib.hid HC7
        go_wp2_with fail
        refine HC7.out.mono ?_
        rintro e w7 ⟨v7, rfl, hown7, hb⟩
        obtain ⟨-, A7, C7, rfl, hi, -⟩ := Ints.of_ownsRow hown7
        have HB7 := Lib.hid (HB6.out.trans (hb.mono HB6.out.size))
        have HL7 := Lib.hid (HL6.out.on hb)
        have HX7 := Lib.hid (HX6.out.on hb)
        have IP := Lib.hid (IP.out.below hb)
        have IL := Lib.hid (IL.out.below hb)
        have IQ := Lib.hid hi
        clear hown7 hb hi
        have HQl := Lib.hid ((laterOf_length p h).trans HP.out)
        have HQn := Lib.hid (later_num HS.out hp4 (show (0 : Int) ≤ (h : Int) by omega) (by omega))
        have HLL := Lib.hid (later_later hp4 (h : Int) ((k : Int) - h))
        rw [show (h : Int) + ((k : Int) - h) = k by omega] at HLL
        generalize R.laterOf p (h : Int) = q at *
        have HC8 := isPath_any A7 C7 q w7 (by rw [HQl.out]; omega) IQ.out
        rw [isPath_ok (by rw [HQl.out]; omega) (by rw [HQl.out]; omega) HQn.out, HQl.out] at HC8
        have HC8 := Lib.hid HC8
        rw [HQl.out]
        go_wp2_with fail
        refine HC8.out.mono ?_
        rintro e w8 ⟨rfl, rfl⟩
        have HC9 := cLater_any A7 C7 q ((k : Int) - h) w7 (by rw [HQl.out]; omega) IQ.out
        rw [later_ok (by rw [HQl.out]; omega) (by rw [HQl.out]; omega) HQn.out (by omega) (by omega), HQl.out, HLL.out] at HC9
        have HC9 := Lib.hid HC9
        go_wp2_with fail
        refine HC9.out.mono ?_
        rintro e w9 ⟨v9, rfl, hown9, hb⟩
        obtain ⟨-, A9, C9, rfl, hi, -⟩ := Ints.of_ownsRow hown9
        have HB9 := Lib.hid (HB7.out.trans (hb.mono HB7.out.size))
        have HL9 := Lib.hid (HL7.out.on hb)
        have HX9 := Lib.hid (HX7.out.on hb)
        have IP := Lib.hid (IP.out.below hb)
        have IL := Lib.hid (IL.out.below hb)
        have HC10 := Lib.hid (longs_same A9 C9 (d + 1) (R.laterOf p k) A4 C4 w9 (HLl.out.trans HP.out) (by omega) hi IL.out)
        clear hown9 hb hi
        rw [HLl.out, HP.out]
        go_wp2_with fail
        refine HC10.out.mono ?_
        rintro e w10 ⟨rfl, hb⟩
        have HB10 := Lib.hid (HB9.out.trans (hb.mono HB9.out.size))
        have HL10 := Lib.hid (HL9.out.on hb)
        have HX10 := Lib.hid (HX9.out.on hb)
        have IP := Lib.hid (IP.out.below hb)
        have IL := Lib.hid (IL.out.below hb)
        clear hb
        have x1 := HL10.out.x1
        have x2 := HL10.out.x2
        have x3 := HX10.out.x1
        have x4 := HX10.out.x2
        have HFx := fine_any a5 c5 d (C.lateL l k l.length) w10 HX10.out.sig
        by_cases hcx : R.checkLog (d : Int) (C.lateL l k l.length) = 0
        · rw [decide_eq_true hcx] at HFx
          have HFx := Lib.hid HFx
          have HVx := Lib.hid (R.checkLog_zero hcx)
          have HTw := Lib.hid (fun dd hdd => C.late_twin l k dd hdd)
          clear hcx
          go_wp2_with fail
          refine HFx.out.mono ?_
          rintro e w11 ⟨rfl, hb⟩
          have HB11 := Lib.hid (HB10.out.trans (hb.mono HB10.out.size))
          have HL11 := Lib.hid (HL10.out.on hb)
          have HX11 := Lib.hid (HX10.out.on hb)
          have IP := Lib.hid (IP.out.below hb)
          have IL := Lib.hid (IL.out.below hb)
          clear hb x1 x2 x3 x4
          have x1 := HL11.out.x1
          have x2 := HL11.out.x2
          have x3 := HX11.out.x1
          have x4 := HX11.out.x2
          have HC12 := cCheckPath_any a cap d l A4 C4 (R.laterOf p k) w11 (by omega) (by rw [HLl.out]; omega) HL11.out.sig IL.out
          rw [checkPath_ok HV.out (by rw [HLl.out, HP.out]; omega) HLn.out, HLl.out, HP.out, later_seen, (HTw.out d hd3).on HP.out] at HC12
          have HC12 := Lib.hid HC12
          go_wp2_with fail
          refine HC12.out.mono ?_
          rintro e w12 ⟨rfl, hb⟩
          have HB12 := Lib.hid (HB11.out.trans (hb.mono HB11.out.size))
          have HL12 := Lib.hid (HL11.out.on hb)
          have HX12 := Lib.hid (HX11.out.on hb)
          have IP := Lib.hid (IP.out.below hb)
          clear hb x1 x2 x3 x4
          have x1 := HL12.out.x1
          have x2 := HL12.out.x2
          have x3 := HX12.out.x1
          have x4 := HX12.out.x2
          have HC13 := cCheckPath_any a5 c5 d (C.lateL l k l.length) A3 C3 p w12 (by rw [HT.out]; omega) (by omega) HX12.out.sig IP.out
          rw [checkPath_ok HVx.out (by rw [HP.out]; omega) HN.out, HP.out] at HC13
          have HC13 := Lib.hid HC13
          go_wp2_with fail
          refine HC13.out.mono ?_
          rintro e w13 ⟨rfl, hb⟩
          have HB13 := Lib.hid (HB12.out.trans (hb.mono HB12.out.size))
          have HL13 := Lib.hid (HL12.out.on hb)
          have HX13 := Lib.hid (HX12.out.on hb)
          clear hb x1 x2 x3 x4
          have x1 := HL13.out.x1
          have x2 := HL13.out.x2
          have x3 := HX13.out.x1
          have x4 := HX13.out.x2
          have HSm := Lib.hid (same_any d l (C.lateL l k l.length) a cap a5 c5 which false w13 HL13.out.sig HX13.out.sig HV.out HVx.out HT.out ((HTw.out d hd3).mostE HV.out HVx.out) ((HTw.out d hd3).countE HV.out HVx.out) (C.Twin.leastE HTw.out HV.out HVx.out) (fun i hi => (HTw.out d hd3).kindE HV.out HVx.out hi) HU.out)
          go_wp2_with fail
          refine HSm.out.mono ?_
          rintro e w14 ⟨rfl, hb⟩
          have HB14 := Lib.hid (HB13.out.trans (hb.mono HB13.out.size))
          clear hb
          go_wp2_with fail
          refine (works_any w14).mono ?_
          rintro e w15 ⟨rfl, hb⟩
          go_wp2_with fail
          go_ret
          exact ⟨rfl, HB14.out.trans (hb.mono HB14.out.size)⟩
        · rw [decide_eq_false hcx] at HFx
          have HFx := Lib.hid HFx
          clear hcx
          go_wp2_with fail
          refine HFx.out.mono ?_
          rintro e w11 ⟨rfl, hb⟩
          have HB11 := Lib.hid (HB10.out.trans (hb.mono HB10.out.size))
          clear hb
          go_wp2_with fail
          refine (works_any w11).mono ?_
          rintro e w12 ⟨rfl, hb⟩
          go_wp2_with fail
          go_ret
          exact ⟨rfl, HB11.out.trans (hb.mono HB11.out.size)⟩
  · rw [decide_eq_false hc] at HF
    have HF := Lib.hid HF
    clear hc
    unfold by8
    go_enter Try.func9, Try.ntmps9
    go_wp2_with fail
    refine HF.out.mono ?_
    rintro e w1 ⟨rfl, hb1⟩
    have HB1 := Lib.hid (HB.out.trans (hb1.mono HB.out.size))
    clear hb1
    go_wp2_with fail
    refine (works_any w1).mono ?_
    rintro e w2 ⟨rfl, hb2⟩
    go_wp2_with fail
    go_ret
    exact ⟨rfl, HB1.out.trans (hb2.mono HB1.out.size)⟩
end Go.Proofs.Ytkcgkfhfogdihaa
