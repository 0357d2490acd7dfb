/- Walk of the statement CometAdded. -/
import Derived.Test.YtkcgkfhfogdihaaLawN
import Derived.Test.YtkcgkfhfogdihaaLawM
namespace Go.Proofs.Ytkcgkfhfogdihaa
open Go.RowKit
theorem kind_err {deg : Int} {l : List (Int × Int)} (hv : R.Valid deg l) (hm : R.most deg l ≠ 0) {i : Nat} (hi : i < l.length) : (R.kindE deg l (i : Int)).2 = 0 := by
  rw [C.kindE_valid hv hi, if_neg hm]
  split <;> rfl
/-- A path of a log, and the path added, make a path of the log to which it is added. -/
theorem sum_found {d : Nat} {l : List (Int × Int)} {p q : List Int} (hl : R.Valid (d : Int) l) (hx : R.Valid (d : Int) (C.addL l p l.length)) (hp : p.length = d + 1) (hq : C.Found l d q) : (C.addP 1 p q).length = d + 1 ∧ (C.addP 1 p q).all R.numOk = true ∧ C.onL (C.addL l p l.length) (C.addP 1 p q) = C.onL l q := by
  have ht := C.add_twin l d p hp
  have hq1 := (hq.props hl).1
  have hg := ht.lenG q hq1
  have e := ht.FG q hq1
  have hf : C.Found (C.addL l p l.length) d (C.addP 1 p q) := (ht.found hl hx hg).1 (by rw [e]; exact hq)
  refine ⟨hg, (hf.props hx).2, ?_⟩
  have := ht.on hg
  rw [e] at this; exact this.symm
set_option maxRecDepth 100000 in
set_option maxHeartbeats 16000000 in
theorem added_walk (a : Option Addr) (cap : Nat) (deg : Int) (l : List (Int × Int)) (b : List Int) (which : Int) (w : World) (ha : Sigs w a l) (hb : Small b) (hu : (Lit.int .u8 which).wf = true) :
    Calls Try.prog 10 #[.agg #[.int .i64 deg, .slice a l.length cap], by8 b, .int .u8 which] w fun e w' => e = .returned (.bool true) ∧ Below w.heap.size w w' := by
  have hb0 := (Below.new w (.cells #[.int .i64 deg, .slice a l.length cap] 33)).alloc (by simp) (.cells #[.int .i8 (nth b 0), .int .i8 (nth b 1), .int .i8 (nth b 2), .int .i8 (nth b 3)] 47)
  have HL := Lib.hid ((Logged.new ha deg cap 33).on (Below.new _ (.cells #[.int .i8 (nth b 0), .int .i8 (nth b 1), .int .i8 (nth b 2), .int .i8 (nth b 3)] 47)))
  have HBy : Hid (∀ c, c < 4 → ((w.alloc (.cells #[.int .i64 deg, .slice a l.length cap] 33)).alloc (.cells #[.int .i8 (nth b 0), .int .i8 (nth b 1), .int .i8 (nth b 2), .int .i8 (nth b 3)] 47)).cell? ⟨w.heap.size + 1, c, none⟩ = some (.int .i8 (nth b c))) := Lib.hid (fun c hc => by
    obtain rfl | rfl | rfl | rfl : c = 0 ∨ c = 1 ∨ c = 2 ∨ c = 3 := by omega
    all_goals exact cell_top (by simp) rfl)
  have HB := Lib.hid hb0
  have HA := Lib.hid ha
  have HF := fine_any a cap deg l _ (ha.below hb0)
  have hub := u8_bd hu
  have HSb := Lib.hid hb
  have HSz0 : Hid (((w.alloc (.cells #[.int .i64 deg, .slice a l.length cap] 33)).alloc (.cells #[.int .i8 (nth b 0), .int .i8 (nth b 1), .int .i8 (nth b 2), .int .i8 (nth b 3)] 47)).heap.size = w.heap.size + 2) := Lib.hid (by simp)
  clear ha hb0 hu hb
  by_cases hc : R.checkLog deg l = 0
  · have hv := R.checkLog_zero hc
    rw [decide_eq_true hc] at HF
    have HF := Lib.hid HF
    have HV := Lib.hid hv
    have h12 := hv.len
    have hl2 : l.length ≤ 1000000 := by omega
    obtain ⟨d, rfl⟩ := hv.nat
    have hd3 : d ≤ 3 := by have := hv.d3; omega
    clear hv hc
    unfold by8
    go_enter Try.func10, Try.ntmps10
    go_wp2_with fail
    generalize (w.alloc (.cells #[.int .i64 (d : Int), .slice a l.length cap] 33)).alloc (.cells #[.int .i8 (nth b 0), .int .i8 (nth b 1), .int .i8 (nth b 2), .int .i8 (nth b 3)] 47) = w0 at *
    refine HF.out.mono ?_
    rintro e w1 ⟨rfl, hb1⟩
    have HB1 := Lib.hid (HB.out.trans (hb1.mono HB.out.size))
    have HL1 := Lib.hid (HL.out.on hb1)
    have b0 := cell_on hb1 (HBy.out 0 (by omega))
    have b1 := cell_on hb1 (HBy.out 1 (by omega))
    have b2 := cell_on hb1 (HBy.out 2 (by omega))
    have b3 := cell_on hb1 (HBy.out 3 (by omega))
    have hlt1 : w.heap.size + 2 ≤ w1.heap.size := by have := hb1.size; have := HSz0.out; omega
    clear hb1
    have x1 := HL1.out.x1
    have x2 := HL1.out.x2
    have HGv := given_any d b w1 hd3 HSb.out
    unfold by8 at HGv
    have HGv := Lib.hid HGv
    have hgl := given_length b (d + 1)
    have hgn := given_num b (d + 1)
    have hgs := given_smallP b (d + 1)
    go_wp2_with fail
    refine HGv.out.mono ?_
    rintro e w2 ⟨v2, rfl, hown2, hb2⟩
    obtain ⟨-, AP, CP, rfl, hiP, -⟩ := Ints.of_ownsRow hown2
    have hAPlt : ∀ bb off, AP = some ⟨bb, off, none⟩ → bb < w2.heap.size := fun bb off e => by subst e; exact (hown2.lt bb rfl).2
    generalize given b (d + 1) = p at *
    have HP := Lib.hid hgl
    have HN := Lib.hid hgn
    have HSm := Lib.hid hgs
    have hp4 : p.length ≤ 4 := by omega
    have HB2 := Lib.hid (HB1.out.trans (hb2.mono HB1.out.size))
    have HL2 := Lib.hid (HL1.out.on hb2)
    have hlt2 : w.heap.size < w2.heap.size := by have := hb2.size; omega
    clear hown2 hb2 b0 b1 b2 b3 x1 x2 HGv hgl hgn hgs HBy
    have x1 := HL2.out.x1
    have x2 := HL2.out.x2
    have hbn := Below.new w2 (.cells #[.int .i64 (d : Int), .slice none 0 0] 33)
    have hx0 : (w2.alloc (.cells #[.int .i64 (d : Int), .slice none 0 0] 33)).cell? ⟨w2.heap.size, 0, none⟩ = some (.int .i64 (d : Int)) := cell_top rfl rfl
    have hx1 : (w2.alloc (.cells #[.int .i64 (d : Int), .slice none 0 0] 33)).cell? ⟨w2.heap.size, 1, none⟩ = some (.slice none 0 0) := cell_top rfl rfl
    have hfz : (w2.alloc (.cells #[.int .i64 (d : Int), .slice none 0 0] 33)).frozen? ⟨w2.heap.size, 1, none⟩ = false := by simp
    have hsw : w2.heap.size < (w2.alloc (.cells #[.int .i64 (d : Int), .slice none 0 0] 33)).heap.size := by simp
    go_wp2_with fail
    obtain ⟨ws, hws⟩ : ∃ ws, ws = w2.alloc (.cells #[.int .i64 (d : Int), .slice none 0 0] 33) := ⟨_, rfl⟩
    rw [← hws] at hbn hx0 hx1 hfz hsw ⊢
    have HI : Hid (BuildI w ws w.heap.size w2.heap.size d a cap l (.slice none 0 0) (C.addL l p 0) ws) := Lib.hid ⟨cell_on hbn x1, cell_on hbn x2, hx0, hx1, hfz, World.ownsRow_nil _ _ _ _, HB2.out.trans (hbn.mono HB2.out.size), Nat.le_refl _, fun k _ _ => rfl⟩
    have IPs := Lib.hid (hiP.below hbn)
    have HAlt := Lib.hid hAPlt
    have hs0 : w.heap.size ≤ ws.heap.size := by omega
    have h2s : w.heap.size < ws.heap.size := by omega
    have hne : w.heap.size ≠ w2.heap.size := by omega
    have h0s : w.heap.size ≤ w2.heap.size := by omega
    clear x1 x2 hws hbn hx0 hx1 hfz hiP hAPlt
    have HIPw : Hid (∀ v r wi, BuildI w ws w.heap.size w2.heap.size d a cap l v r wi → Ints .i64 wi AP p) := Lib.hid (fun v r wi h i hi => by
      obtain ⟨bb, off, e, hcell⟩ := IPs.out i hi
      exact ⟨bb, off, e, h.cell hcell (by have := HAlt.out bb off e; show bb ≠ _; omega)⟩)
    go_loopw [9] (fun i wi => ∃ (j : Nat) (v : Value), j ≤ l.length ∧ i = .int .i64 (j : Int) ∧ Hid (BuildI w ws w.heap.size w2.heap.size d a cap l v (C.addL l p j) wi)) (fun i _ => l.length - (intOf i).toNat)
    case atStart => exact ⟨0, _, Nat.zero_le _, rfl, HI⟩
    case round =>
      obtain ⟨j, v, hj, rfl, HI1⟩ := hrel
      have x1 := HI1.out.l1
      by_cases hlt : j < l.length
      · have HSt : Hid (C.addL l p (j + 1) = C.addL l p j ++ [(dayN l j, plcN l j + R.atD p (dayN l j))]) := Lib.hid rfl
        have HTl : Hid ((C.addL l p j).length = j) := Lib.hid (C.bldTo_length _ _)
        have hfit := HV.out.fit j hlt
        unfold R.FitS at hfit
        obtain ⟨f1, f2, f3, f4⟩ := hfit
        obtain ⟨ba, offa, rfl, hd, hp⟩ := (HA.out.below HI1.out.bel) j hlt
        have HAt := fun W (h : Ints .i64 W AP p) => atOf_any AP CP p (dayN l j) W hp4 f1 (by omega) HN.out h
        rw [HP.out] at HAt
        have hsm := small_at HSm.out hp4 f1 (show dayN l j ≤ 63 by omega)
        generalize hdd : dayN l j = dd at *
        generalize hpp : plcN l j = pp at *
        generalize R.atD p dd = at0 at *
        have HAt := Lib.hid HAt
        have k3 : IntKind.i64.wrap (pp + at0) = pp + at0 := IntWalk.i64_in _ (by omega)
        have q1 : (0 : Int) ≤ (j : Int) := by omega
        have q2 : (j : Int) < ↑l.length := by omega
        have x3 := HI1.out.x1
        have hown := HI1.out.own
        rw [HTl.out] at hown
        have hn : j + 1 ≤ 2000000 := by omega
        have hwr1 := World.block_lt_of_cell? _ _ x3
        simp only at hwr1
        have hwsr := HI1.out.sz
        have ne1 : some w2.heap.size ≠ v.ownBlock := fun e => by have := (hown.lt _ e.symm).1; omega
        have ne2 : some wr.heap.size ≠ v.ownBlock := fun e => by have := (hown.lt _ e.symm).2; omega
        have IPr := Lib.hid (HIPw.out _ _ _ HI1.out)
        go_wp2_with fail
        have hb7 := Below.new wr (.cells #[.int .i64 dd, .int .i64 pp] 57)
        have e1 : (wr.alloc (.cells #[.int .i64 dd, .int .i64 pp] 57)).cell? ⟨wr.heap.size, 0, none⟩ = some (.int .i64 dd) := cell_top rfl rfl
        have e2 : (wr.alloc (.cells #[.int .i64 dd, .int .i64 pp] 57)).cell? ⟨wr.heap.size, 1, none⟩ = some (.int .i64 pp) := cell_top rfl rfl
        have e3 := cell_on hb7 x3
        have e4 : (wr.alloc (.cells #[.int .i64 dd, .int .i64 pp] 57)).frozen? ⟨w2.heap.size, 1, none⟩ = false := by rw [hb7.frozen (p := ⟨w2.heap.size, 1, none⟩) hwr1]; exact HI1.out.fz
        have hown7 := owns_below hown hb7
        have IP7 := Lib.hid (IPr.out.below hb7)
        obtain ⟨W7, hW7⟩ : ∃ W7, W7 = wr.alloc (.cells #[.int .i64 dd, .int .i64 pp] 57) := ⟨_, rfl⟩
        have hsz7 : W7.heap.size = wr.heap.size + 1 := by rw [hW7]; simp
        rw [← hW7] at hb7 e1 e2 e3 e4 hown7 IP7 ⊢
        clear hW7 x3 x1 hd hp
        refine wp_region_field 9 15 (fun w' => w'.cell? ⟨w2.heap.size, 1, none⟩ = some v ∧ w'.cell? ⟨wr.heap.size, 0, none⟩ = some (.int .i64 dd) ∧ w'.cell? ⟨wr.heap.size, 1, none⟩ = some (.int .i64 pp)) (by kernel_rfl) (by kernel_rfl) ⟨e3, e1, e2⟩ ?_
        simp only [List.take_succ_cons, List.take_zero, List.drop_succ_cons, List.drop_zero]
        iterate 9 (refine headH_step _ (fun w' hS' => by (obtain ⟨s1, s2, s3⟩ := hS'; simp [execOp, go_sem, *]; try rfl)) ?_)
        refine headH_nil ?_
        change tailH _ _ _ _ _ W7.drew
        refine tailH_step (fun K hK => ?_)
        go_simp
        refine (HAt.out W7.drew IP7.out).mono ?_
        rintro e w8 ⟨rfl, hdr⟩
        have hb8 : Below W7.heap.size W7 w8 := ((Below.refl _ W7).drew).trans (hdr.below _)
        have y3 := cell_on hb8 e3
        have y1 := cell_on hb8 e1
        have y2 := cell_on hb8 e2
        have y4 : w8.frozen? ⟨w2.heap.size, 1, none⟩ = false := by rw [hb8.frozen (p := ⟨w2.heap.size, 1, none⟩) (by show w2.heap.size < _; omega)]; exact e4
        have hown8 := owns_below hown7 hb8
        have hb78 := hb7.trans (hb8.mono hb7.size)
        have hwr8 : wr.heap.size < w8.heap.size := by have := hb8.size; omega
        refine hK _ _ ⟨y3, y1, y2⟩ ?_
        clear hK K e1 e2 e3 e4 hdr hown7
        refine tailH_step (fun K hK => ?_)
        go_simp
        refine hK _ _ ⟨y3, y1, y2⟩ ?_
        clear hK K
        refine tailH_step (fun K hK => ?_)
        go_simp
        refine hK _ _ ⟨y3, y1, y2⟩ ?_
        clear hK K
        refine tailH_step (fun K hK => ?_)
        go_simp
        obtain ⟨W9, hW9⟩ : ∃ W9, W9 = w8.alloc (.cells #[.int .i64 dd, .int .i64 (pp + at0)] 57) := ⟨_, rfl⟩
        rw [← hW9]
        have hb9 : Below w8.heap.size w8 W9 := by rw [hW9]; exact Below.new w8 _
        have hnews : ∀ j u, [Value.int .i64 dd, .int .i64 (pp + at0)][j]? = some u → W9.cell? ((⟨w8.heap.size, 0, none⟩ : Addr).add j) = some u := by rw [hW9]; exact news_new w8 #[.int .i64 dd, .int .i64 (pp + at0)] 57
        have hown9 := owns_below hown8 hb9
        have z3 := cell_on hb9 y3
        have z1 := cell_on hb9 y1
        have z2 := cell_on hb9 y2
        have z4 : W9.frozen? ⟨w2.heap.size, 1, none⟩ = false := by rw [hb9.frozen (p := ⟨w2.heap.size, 1, none⟩) (by show w2.heap.size < _; omega)]; exact y4
        have hb79 := hb78.trans (hb9.mono hb78.size)
        have hwr9 : wr.heap.size < W9.heap.size := by have := hb9.size; omega
        clear hW9
        refine hK _ _ ⟨z3, z1, z2⟩ ?_
        clear hK K y1 y2 y3 y4 hown8
        refine tailH_step (fun K hK => ?_)
        refine wpApp T31 (.tmp 51) (.tmp 62) rfl ws.heap.size v j (flat (C.addL l p j)) [.int .i64 dd, .int .i64 (pp + at0)] 1 1 ⟨w8.heap.size, 0, none⟩ rfl hown9 rfl rfl hnews (by simp [Value.oneCell']) hn (by omega) (fun v2 w10 hown10 hg10 hL10 => ?_)
        have t3 := hg10.cell z3 ne1
        have t1 := hg10.cell z1 ne2
        have t2 := hg10.cell z2 ne2
        have t4 := frozen_grown hg10 (a := ⟨w2.heap.size, 1, none⟩) (by show w2.heap.size < _; omega) ne1 z4
        have hown10' : w10.ownsRow ws.heap.size 57 2 v2 ((C.addL l p j).length + 1) (flat (C.addL l p j ++ [(dd, pp + at0)])) := by rw [flat_snoc, HTl.out]; exact hown10
        have HI2 := HI1.out.step h2s hsw hne h0s hs0 hb79 hg10 hown10'
        rw [← HSt.out] at HI2
        have HI2 := Lib.hid HI2
        obtain ⟨-, a2, c2, rfl, -⟩ := Sigs.of_ownsRow hown10'
        rw [HTl.out] at HI2 ⊢
        refine hK _ _ ⟨t3, t1, t2⟩ ?_
        clear hK K z1 z2 z3 z4 hown9 hnews hown hown10 hown10'
        refine tailH_step (fun K hK => ?_)
        go_simp
        refine hK _ _ ⟨t3, t1, t2⟩ ?_
        clear hK K t1 t2
        refine tailH_last (fun K hK => ?_)
        go_simp
        refine hK _ _ (NoPanic.normal ?_)
        clear hK K t3 t4
        go_wp2_with fail
        go_roundw
        case rel => exact ⟨j + 1, _, by omega, by go_num, HI2⟩
        case measure => simp [intOf]; omega
      · have hjl : j = l.length := by omega
        subst hjl
        have HT : Hid ((C.addL l p l.length).length = l.length) := Lib.hid (C.bldTo_length _ _)
        have hown := HI1.out.own
        obtain ⟨-, a5, c5, rfl, hsig, -⟩ := Sigs.of_ownsRow hown
        have HL3 : Hid (Logged wr w.heap.size d a cap l) := Lib.hid ⟨HI1.out.l0, HI1.out.l1, HA.out.below HI1.out.bel⟩
        have HX3 : Hid (Logged wr w2.heap.size d a5 c5 (C.addL l p l.length)) := Lib.hid ⟨HI1.out.x0, HI1.out.x1, hsig⟩
        have HB3 := Lib.hid HI1.out.bel
        have IP := Lib.hid (HIPw.out _ _ _ HI1.out)
        have x1 := HL3.out.x1
        have x2 := HL3.out.x2
        have x3 := HX3.out.x1
        have x4 := HX3.out.x2
        have hx12 : (C.addL l p l.length).length ≤ 1000000 := by rw [HT.out]; omega
        have HFx := fine_any a5 c5 d (C.addL l p l.length) wr HX3.out.sig
        clear hown hsig HI HI1 IPs HAlt HIPw hsw hs0 h2s hne h0s
        by_cases hcx : R.checkLog (d : Int) (C.addL l p l.length) = 0
        · rw [decide_eq_true hcx] at HFx
          have HFx := Lib.hid HFx
          have HVx := Lib.hid (R.checkLog_zero hcx)
          have HTw := Lib.hid (C.add_twin l d p HP.out)
          have HSf := Lib.hid (fun q (h : C.Found l d q) => sum_found HV.out HVx.out HP.out h)
          clear hcx
          generalize C.addL l p l.length = x at *
          go_wp2_with fail
          refine HFx.out.mono ?_
          rintro e w4 ⟨rfl, hb⟩
          have HB4 := Lib.hid (HB3.out.trans (hb.mono HB3.out.size))
          have HL4 := Lib.hid (HL3.out.on hb)
          have HX4 := Lib.hid (HX3.out.on hb)
          have IP := Lib.hid (IP.out.below hb)
          clear hb x1 x2 x3 x4
          have x1 := HL4.out.x1
          have x2 := HL4.out.x2
          have x3 := HX4.out.x1
          have x4 := HX4.out.x2
          have HC4 := Lib.hid (cMost_any a cap d l w4 hl2 HL4.out.sig)
          go_wp2_with fail
          refine HC4.out.mono ?_
          rintro e w5 ⟨rfl, hb⟩
          have HB5 := Lib.hid (HB4.out.trans (hb.mono HB4.out.size))
          have HL5 := Lib.hid (HL4.out.on hb)
          have HX5 := Lib.hid (HX4.out.on hb)
          have IP := Lib.hid (IP.out.below hb)
          clear hb x1 x2 x3 x4
          have x1 := HL5.out.x1
          have x2 := HL5.out.x2
          have x3 := HX5.out.x1
          have x4 := HX5.out.x2
          have HC5 := cMost_any a5 c5 d x w5 hx12 HX5.out.sig
          rw [← HTw.out.mostE HV.out HVx.out] at HC5
          have HC5 := Lib.hid HC5
          go_wp2_with fail
          refine HC5.out.mono ?_
          rintro e w6 ⟨rfl, hb⟩
          have HB6 := Lib.hid (HB5.out.trans (hb.mono HB5.out.size))
          have HL6 := Lib.hid (HL5.out.on hb)
          have HX6 := Lib.hid (HX5.out.on hb)
          have IP := Lib.hid (IP.out.below hb)
          clear hb x1 x2 x3 x4
          have x1 := HL6.out.x1
          have x2 := HL6.out.x2
          have x3 := HX6.out.x1
          have x4 := HX6.out.x2
          have HC6 := cCount_any a cap d l w6 hl2 HL6.out.sig
          rw [count_err] at HC6
          have HC6 := Lib.hid HC6
          go_wp2_with fail
          refine HC6.out.mono ?_
          rintro e w7 ⟨rfl, hb⟩
          have HB7 := Lib.hid (HB6.out.trans (hb.mono HB6.out.size))
          have HL7 := Lib.hid (HL6.out.on hb)
          have HX7 := Lib.hid (HX6.out.on hb)
          have IP := Lib.hid (IP.out.below hb)
          clear hb x1 x2 x3 x4
          have x1 := HL7.out.x1
          have x2 := HL7.out.x2
          have x3 := HX7.out.x1
          have x4 := HX7.out.x2
          have HC7 := cCount_any a5 c5 d x w7 hx12 HX7.out.sig
          rw [← HTw.out.countE HV.out HVx.out, count_err] at HC7
          have HC7 := Lib.hid HC7
          go_wp2_with fail
          refine HC7.out.mono ?_
          rintro e w8 ⟨rfl, hb⟩
          have HB8 := Lib.hid (HB7.out.trans (hb.mono HB7.out.size))
          have HL8 := Lib.hid (HL7.out.on hb)
          have HX8 := Lib.hid (HX7.out.on hb)
          have IP := Lib.hid (IP.out.below hb)
          clear hb x1 x2 x3 x4
          have x1 := HL8.out.x1
          have x2 := HL8.out.x2
          have x3 := HX8.out.x1
          have x4 := HX8.out.x2
          by_cases hm0 : R.most (d : Int) l = 0
          · rw [mostE_zero HV.out hm0]
            clear hm0
            go_wp2_with fail
            refine (works_any w8).mono ?_
            rintro e w9 ⟨rfl, hb⟩
            go_wp2_with fail
            go_ret
            exact ⟨rfl, HB8.out.trans (hb.mono HB8.out.size)⟩
          · have hmE := mostE_pos HV.out hm0
            have hnpos : 0 < l.length := by have := C.most_le HV.out; omega
            obtain ⟨i, hi, hi'⟩ := rem_nat hub.1 l.length hnpos
            have k1 : IntKind.i64.wrap which = which := IntWalk.i64_in _ (by omega)
            have k2 : IntKind.i64.wrap (i : Int) = (i : Int) := IntWalk.i64_in _ (by omega)
            have hzz : ¬ ((l.length : Int) = 0) := by omega
            have hke := kind_err HV.out hm0 hi
            have hHM := Lib.hid hm0
            have HPt := cPath_any a cap d l
            rw [hmE] at HPt ⊢
            have HPt := Lib.hid HPt
            have HMe : Hid ((R.mostE (d : Int) l).2 = 0) := Lib.hid (by rw [hmE])
            clear hm0 hmE
            have HK := cKind_any a cap d l (i : Int) w8 hl2 HL8.out.sig
            rw [hke] at HK
            have HK := Lib.hid HK
            have HKx := fun W h => cKind_any a5 c5 d x (i : Int) W hx12 h
            have hkk : R.kindE (d : Int) l (i : Int) = R.kindE (d : Int) x (i : Int) := HTw.out.kindE HV.out HVx.out hi
            rw [← hkk, hke] at HKx
            have HKx := Lib.hid HKx
            clear hke hkk
            generalize (R.kindE (d : Int) l (i : Int)).1 = kk at *
            go_wp2_with fail
            refine HK.out.mono ?_
            rintro e w9 ⟨rfl, hb⟩
            have HB9 := Lib.hid (HB8.out.trans (hb.mono HB8.out.size))
            have HL9 := Lib.hid (HL8.out.on hb)
            have HX9 := Lib.hid (HX8.out.on hb)
            have IP := Lib.hid (IP.out.below hb)
            clear hb x1 x2 x3 x4
            have x1 := HL9.out.x1
            have x2 := HL9.out.x2
            have x3 := HX9.out.x1
            have x4 := HX9.out.x2
            go_wp2_with fail
            refine (HKx.out w9 HX9.out.sig).mono ?_
            rintro e w10 ⟨rfl, hb⟩
            have HB10 := Lib.hid (HB9.out.trans (hb.mono HB9.out.size))
            have HL10 := Lib.hid (HL9.out.on hb)
            have HX10 := Lib.hid (HX9.out.on hb)
            have IP := Lib.hid (IP.out.below hb)
            clear hb x1 x2 x3 x4
            have x1 := HL10.out.x1
            have x2 := HL10.out.x2
            have x3 := HX10.out.x1
            have x4 := HX10.out.x2
            go_wp2_with fail
            refine (HPt.out w10 hl2 HL10.out.sig).mono ?_
            rintro e w11 ⟨v11, q, rfl, hown11, hbo, hb⟩
            obtain ⟨-, AQ, CQ, rfl, hiQ, -⟩ := Ints.of_ownsRow hown11
            have hff : C.Found l d q ∧ C.onL l q = R.most (d : Int) l := by
              rcases hbo with ⟨h, -⟩ | ⟨-, d', e, hf, hm⟩
              · exact absurd HMe.out h
              · have hdd : d' = d := by omega
                subst hdd
                exact ⟨hf, hm⟩
            have hqp := hff.1.props HV.out
            have hs := HSf.out q hff.1
            have HB11 := Lib.hid (HB10.out.trans (hb.mono HB10.out.size))
            have HL11 := Lib.hid (HL10.out.on hb)
            have HX11 := Lib.hid (HX10.out.on hb)
            have IP := Lib.hid (IP.out.below hb)
            clear hb x1 x2 x3 x4
            have x1 := HL11.out.x1
            have x2 := HL11.out.x2
            have x3 := HX11.out.x1
            have x4 := HX11.out.x2
            have IQ := Lib.hid hiQ
            have HQn := Lib.hid hqp.2
            have hql := hqp.1
            have HSum := Lib.hid hs
            have HOn := Lib.hid hff.2
            clear hown11 hbo hiQ hff hqp hs HC4 HC5 HC6 HC7 HK HKx HFx
            rw [hql]
            go_wp2_with fail
            have hbs0 := HB11.out.size
            go_loopw [23, 24] (fun v i wi => ∃ j : Nat, j ≤ d + 1 ∧ i = .int .i64 (j : Int) ∧ wi.ownsRow w11.heap.size 2 1 v j (((C.addP 1 p q).take j).map (.int .i64)) ∧ Below w11.heap.size w11 wi) (fun _ i _ => d + 1 - (intOf i).toNat)
            case atStart => exact ⟨0, Nat.zero_le _, rfl, World.ownsRow_nil _ _ _ _, Below.refl _ _⟩
            case round =>
              obtain ⟨j, hj, rfl, hown, hbl⟩ := hrel
              clear x1 x2 x3 x4
              have hbs := hbl.size
              by_cases hlt : j < d + 1
              · have hltI : (j : Int) < (d : Int) + 1 := by omega
                have h0j : (0 : Int) ≤ (j : Int) := by omega
                obtain ⟨bq, oq, rfl, cq⟩ := (IQ.out.below hbl) j (by omega)
                obtain ⟨bp, op, rfl, cp⟩ := (IP.out.below hbl) j (by have := HP.out; omega)
                have hqn := R.numOk_iff.1 (R.all_nth HQn.out (show j < q.length by omega))
                have hpn := HSm.out j (by have := HP.out; omega)
                have hSt : Hid ((C.addP 1 p q).take (j + 1) = (C.addP 1 p q).take j ++ [nth q j + nth p j]) := Lib.hid (by
                  rw [take_succ_nth _ j (by rw [C.addP_length]; omega), C.addP_nth 1 p q j (by omega)]; simp)
                generalize nth q j = qj at *
                generalize nth p j = pj at *
                have g1 : -1099511627776 ≤ qj := hqn.1
                have g2 : qj ≤ 1099511627776 := hqn.2
                have k3 : IntKind.i64.wrap (qj + pj) = qj + pj := IntWalk.i64_in _ (by omega)
                have hjn : j + 1 ≤ 2000000 := by omega
                have ne1 : some bq ≠ u23.ownBlock := fun e => by
                  have h1 := (hown.lt _ e.symm).1
                  obtain ⟨b', o', e', h⟩ := IQ.out.at (by omega)
                  cases e'; omega
                have ne2 : some bp ≠ u23.ownBlock := fun e => by
                  have h1 := (hown.lt _ e.symm).1
                  obtain ⟨b', o', e', h⟩ := IP.out.at (by have := HP.out; omega)
                  cases e'; omega
                have lb1 := World.block_lt_of_cell? _ _ cq
                have lb2 := World.block_lt_of_cell? _ _ cp
                simp only at lb1 lb2
                have hownN : (wr.drew).ownsRow w11.heap.size 2 1 u23 j (((C.addP 1 p q).take j).map (.int .i64)) := hown
                clear hqn hpn
                go_wp2_with fail
                go_region_held3 (fun w' => w'.cell? ⟨bq, oq + j, none⟩ = some (.int .i64 qj) ∧ w'.cell? ⟨bp, op + j, none⟩ = some (.int .i64 pj)) (first | go_keep | exact ⟨hg2.cell (by go_keep) ne1, hg2.cell (by go_keep) ne2⟩) ((refine stepApp T22 (by rfl) (.tmp 182) (.tmp 192) (by rfl) w11.heap.size _ _ (((C.addP 1 p q).take j).map (.int .i64)) [.int .i64 (qj + pj)] 1 1 ⟨wr.heap.size, 0, none⟩ (by rfl) (by exact hownN.alloc _) (by rfl) (by rfl) (by exact news_new _ _ _) (by simp [Value.oneCell']) hjn (by simp; omega) ?_; intro v2 wx hown2 hg2 hL2))
                go_wp2_with fail
                go_roundw
                case rel => exact ⟨j + 1, by omega, by go_num, by rw [hSt.out, List.map_append]; exact hown2, (((hbl.trans (Below.refl w11.heap.size wr).drew).alloc hbs _).grown hg2 (by simp; omega) (fun k e => (hown.lt k e).1))⟩
                case measure => simp [intOf]; omega
              · have hltI : (d : Int) + 1 ≤ (j : Int) := by omega
                obtain rfl : j = d + 1 := by omega
                have hl1 := HSum.out.1
                have hown' : wr.ownsRow w11.heap.size 2 1 u23 (d + 1) ((C.addP 1 p q).map (.int .i64)) := by
                  have := hown; rw [List.take_of_length_le (by omega)] at this; exact this
                obtain ⟨-, A12, C12, rfl, hi12, -⟩ := Ints.of_ownsRow hown'
                have HBr := Lib.hid (HB11.out.trans (hbl.mono hbs0))
                have HXr := Lib.hid (HX11.out.on hbl)
                have x3 := HXr.out.x1
                have x4 := HXr.out.x2
                have HCf := cCheckPath_any a5 c5 d x A12 C12 (C.addP 1 p q) wr hx12 (by omega) HXr.out.sig hi12
                rw [checkPath_ok HVx.out (by omega) HSum.out.2.1, HSum.out.2.2, HOn.out, hl1] at HCf
                have HCf := Lib.hid HCf
                clear hown hown' hi12
                go_wp2_with fail
                refine HCf.out.mono ?_
                rintro e w13 ⟨rfl, hb⟩
                have HB13 := Lib.hid (HBr.out.trans (hb.mono HBr.out.size))
                clear hb
                go_wp2_with fail
                refine (works_any w13).mono ?_
                rintro e w14 ⟨rfl, hb⟩
                go_wp2_with fail
                go_ret
                exact ⟨rfl, HB13.out.trans (hb.mono HB13.out.size)⟩
        · rw [decide_eq_false hcx] at HFx
          have HFx := Lib.hid HFx
          clear hcx
          go_wp2_with fail
          refine HFx.out.mono ?_
          rintro e w4 ⟨rfl, hb⟩
          have HB4 := Lib.hid (HB3.out.trans (hb.mono HB3.out.size))
          clear hb
          go_wp2_with fail
          refine (works_any w4).mono ?_
          rintro e w5 ⟨rfl, hb⟩
          go_wp2_with fail
          go_ret
          exact ⟨rfl, HB4.out.trans (hb.mono HB4.out.size)⟩
  · rw [decide_eq_false hc] at HF
    have HF := Lib.hid HF
    clear hc
    unfold by8
    go_enter Try.func10, Try.ntmps10
    go_wp2_with fail
    refine HF.out.mono ?_
    rintro e w1 ⟨rfl, hb1⟩
    have HB1 := Lib.hid (HB.out.trans (hb1.mono HB.out.size))
    clear hb1
    go_wp2_with fail
    refine (works_any w1).mono ?_
    rintro e w2 ⟨rfl, hb2⟩
    go_wp2_with fail
    go_ret
    exact ⟨rfl, HB1.out.trans (hb2.mono HB1.out.size)⟩
end Go.Proofs.Ytkcgkfhfogdihaa
