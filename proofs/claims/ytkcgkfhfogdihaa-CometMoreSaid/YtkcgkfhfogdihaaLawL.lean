/- Walk of the statement CometTurned; the worlds in which a log is built. -/
import Derived.Test.YtkcgkfhfogdihaaLawJ
namespace Go.Proofs.Ytkcgkfhfogdihaa
open Go.RowKit
/-- The worlds in which a log is built in the block H, sighting by sighting, from that in the block H2. -/
structure BuildI (w0 ws : World) (H2 H : Nat) (deg : Int) (a : Option Addr) (cap : Nat) (l : List (Int × Int)) (v : Value) (r : List (Int × Int)) (wi : World) : Prop where
  l0 : wi.cell? ⟨H2, 0, none⟩ = some (.int .i64 deg)
  l1 : wi.cell? ⟨H2, 1, none⟩ = some (.slice a l.length cap)
  x0 : wi.cell? ⟨H, 0, none⟩ = some (.int .i64 deg)
  x1 : wi.cell? ⟨H, 1, none⟩ = some v
  fz : wi.frozen? ⟨H, 1, none⟩ = false
  own : wi.ownsRow ws.heap.size 57 2 v r.length (flat r)
  bel : Below w0.heap.size w0 wi
  sz : ws.heap.size ≤ wi.heap.size
  kp : ∀ k, k < ws.heap.size → k ≠ H → wi.heap[k]? = ws.heap[k]?
theorem BuildI.step {w0 ws : World} {H2 H : Nat} {deg : Int} {a : Option Addr} {cap : Nat} {l : List (Int × Int)} {v : Value} {r : List (Int × Int)} {wi w1 w2 : World} {v2 : Value} {s : Int × Int}
    (h : BuildI w0 ws H2 H deg a cap l v r wi) (h2 : H2 < ws.heap.size) (hH : H < ws.heap.size) (hne : H2 ≠ H) (h0 : w0.heap.size ≤ H) (_hs0 : w0.heap.size ≤ ws.heap.size) (hb : Below wi.heap.size wi w1) (hg : w1.grownBy w2 v.ownBlock) (ho : w2.ownsRow ws.heap.size 57 2 v2 (r.length + 1) (flat (r ++ [s]))) :
    BuildI w0 ws H2 H deg a cap l v2 (r ++ [s]) (w2.setCell ⟨H, 1, none⟩ v2) := by
  have ne : ∀ c, c < ws.heap.size → some c ≠ v.ownBlock := fun c hc e => by have := (h.own.lt c e.symm).1; omega
  have sz := h.sz
  have bs := hb.size
  have c : ∀ {p : Addr} {u : Value}, p.block < ws.heap.size → wi.cell? p = some u → w2.cell? p = some u := fun hp hu => hg.cell (cell_on hb hu) (ne _ hp)
  have f : ∀ {p : Addr}, p.block < ws.heap.size → w2.frozen? p = wi.frozen? p := fun {p} hp => by
    rw [← hb.frozen (p := p) (by omega)]
    exact World.frozen?_of_block (hg.block _ (by omega) (ne _ hp))
  refine ⟨?_, ?_, ?_, World.cell?_setCell_same _ _ _ (c hH h.x1), by rw [World.frozen?_setCell, f hH]; exact h.fz, ?_, ?_, ?_, fun k hk hkH => ?_⟩
  · rw [World.cell?_setCell_other _ _ _ _ (by simp)]; exact c h2 h.l0
  · rw [World.cell?_setCell_other _ _ _ _ (by first | (simp; done) | (simp; omega))]; exact c h2 h.l1
  · rw [World.cell?_setCell_other _ _ _ _ (by simp)]; exact c hH h.x0
  · rw [List.length_append, List.length_singleton]; exact ownsRow_setCell_below ho hH _
  · exact ((h.bel.trans (hb.mono h.bel.size)).grown hg (by have := h.bel.size; omega) (fun k e => by have := (h.own.lt k e).1; omega)).setCell (p := ⟨H, 1, none⟩) h0 _
  · have := hg.size
    simp [World.setCell]
    omega
  · rw [Below.heap_setCell _ _ _ _ hkH, hg.block k (by omega) (ne k hk), hb.block k (by omega)]
    exact h.kp k hk hkH
set_option maxRecDepth 100000 in
set_option maxHeartbeats 4000000 in
theorem turned_walk (a : Option Addr) (cap : Nat) (deg : Int) (l : List (Int × Int)) (which : Int) (w : World) (ha : Sigs w a l) (hu : (Lit.int .u8 which).wf = true) :
    Calls Try.prog 11 #[.agg #[.int .i64 deg, .slice a l.length cap], .int .u8 which] w fun e w' => e = .returned (.bool true) ∧ Below w.heap.size w w' := by
  have hb0 := Below.new w (.cells #[.int .i64 deg, .slice a l.length cap] 33)
  have HL := Lib.hid (Logged.new ha deg cap 33)
  have HB := Lib.hid hb0
  have HA := Lib.hid ha
  have HF := fine_any a cap deg l (w.alloc (.cells #[.int .i64 deg, .slice a l.length cap] 33)) (ha.below hb0)
  have HU := Lib.hid hu
  clear ha hb0 hu
  by_cases hc : R.checkLog deg l = 0
  · have hv := R.checkLog_zero hc
    rw [decide_eq_true hc] at HF
    have HF := Lib.hid HF
    have HV := Lib.hid hv
    have h12 := hv.len
    clear hv hc
    go_enter Try.func11, Try.ntmps11
    go_wp2_with fail
    refine HF.out.mono ?_
    rintro e w1 ⟨rfl, hb1⟩
    have HB1 := Lib.hid (HB.out.trans (hb1.mono HB.out.size))
    have HL1 := Lib.hid (HL.out.on hb1)
    have hlt1 : w.heap.size < w1.heap.size := by have := hb1.size; simp at this; omega
    clear hb1
    have x1 := HL1.out.x1
    have x2 := HL1.out.x2
    have k0 : IntKind.i64.wrap ((l.length : Int) - 1) = (l.length : Int) - 1 := IntWalk.i64_in _ (by omega)
    have hbn := Below.new w1 (.cells #[.int .i64 deg, .slice none 0 0] 33)
    have hx0 : (w1.alloc (.cells #[.int .i64 deg, .slice none 0 0] 33)).cell? ⟨w1.heap.size, 0, none⟩ = some (.int .i64 deg) := cell_top rfl rfl
    have hx1 : (w1.alloc (.cells #[.int .i64 deg, .slice none 0 0] 33)).cell? ⟨w1.heap.size, 1, none⟩ = some (.slice none 0 0) := cell_top rfl rfl
    have hfz : (w1.alloc (.cells #[.int .i64 deg, .slice none 0 0] 33)).frozen? ⟨w1.heap.size, 1, none⟩ = false := by simp
    have hsw : w1.heap.size < (w1.alloc (.cells #[.int .i64 deg, .slice none 0 0] 33)).heap.size := by simp
    go_wp2_with fail
    obtain ⟨ws, hws⟩ : ∃ ws, ws = w1.alloc (.cells #[.int .i64 deg, .slice none 0 0] 33) := ⟨_, rfl⟩
    rw [← hws] at hbn hx0 hx1 hfz hsw ⊢
    have HI : Hid (BuildI w ws w.heap.size w1.heap.size deg a cap l (.slice none 0 0) (C.turnL l 0) ws) := Lib.hid ⟨cell_on hbn x1, cell_on hbn x2, hx0, hx1, hfz, World.ownsRow_nil _ _ _ _, HB1.out.trans (hbn.mono HB1.out.size), Nat.le_refl _, fun k _ _ => rfl⟩
    have hs0 : w.heap.size ≤ ws.heap.size := by omega
    have h2s : w.heap.size < ws.heap.size := by omega
    have hne : w.heap.size ≠ w1.heap.size := by omega
    have h0s : w.heap.size ≤ w1.heap.size := by omega
    clear x1 x2 k0 hws hbn hx0 hx1 hfz
    go_loopw [6] (fun i wi => ∃ (j : Nat) (v : Value), j ≤ l.length ∧ i = .int .i64 ((l.length : Int) - 1 - (j : Int)) ∧ Hid (BuildI w ws w.heap.size w1.heap.size deg a cap l v (C.turnL l j) wi)) (fun i _ => (intOf i + 1).toNat)
    case atStart => exact ⟨0, _, Nat.zero_le _, by go_num, HI⟩
    case round =>
      obtain ⟨j, v, hj, rfl, HI1⟩ := hrel
      by_cases hlt : j < l.length
      · obtain ⟨m, hm⟩ : ∃ m : Nat, m = l.length - 1 - j := ⟨_, rfl⟩
        have hmI : (l.length : Int) - 1 - (j : Int) = (m : Int) := by omega
        rw [hmI]
        have HM := Lib.hid (And.intro hm hmI)
        have hml : m < l.length := by omega
        have HSt : Hid (C.turnL l (j + 1) = C.turnL l j ++ [(60 - dayN l m, plcN l m)]) := Lib.hid (by rw [hm]; rfl)
        have HTl : Hid ((C.turnL l j).length = j) := Lib.hid (C.bldTo_length _ _)
        have hfit := HV.out.fit m hml
        unfold R.FitS at hfit
        obtain ⟨f1, f2, f3, f4⟩ := hfit
        obtain ⟨ba, offa, rfl, hd, hp⟩ := (HA.out.below HI1.out.bel) m hml
        generalize hdd : dayN l m = dd at *
        generalize hpp : plcN l m = pp at *
        have k1 : IntKind.i64.wrap (60 - dd) = 60 - dd := IntWalk.i64_in _ (by omega)
        have k2 : IntKind.i64.wrap ((m : Int) - 1) = (m : Int) - 1 := IntWalk.i64_in _ (by omega)
        have q1 : (0 : Int) ≤ (m : Int) := by omega
        have q2 : (m : Int) < ↑l.length := by omega
        have x1 := HI1.out.l1
        have hown := HI1.out.own
        rw [HTl.out] at hown
        have hn : j + 1 ≤ 2000000 := by omega
        clear hm hmI
        have x3 := HI1.out.x1
        have hb8 := Lib.hid ((Below.new wr (.cells #[.int .i64 dd, .int .i64 pp] 57)).trans ((Below.new (wr.alloc (.cells #[.int .i64 dd, .int .i64 pp] 57)) (.cells #[.int .i64 (60 - dd), .int .i64 pp] 57)).mono (Below.new wr _).size))
        have hwr1 := World.block_lt_of_cell? _ _ x3
        simp only at hwr1
        have C8 := Lib.hid (cell_on hb8.out x3)
        have F8 := Lib.hid ((hb8.out.frozen (p := ⟨w1.heap.size, 1, none⟩) hwr1).trans HI1.out.fz)
        have hne1 : some w1.heap.size ≠ v.ownBlock := fun e => by have := (hown.lt _ e.symm).1; omega
        have HNe := Lib.hid hne1
        have HOwn := Lib.hid hown
        have hwsr := HI1.out.sz
        clear hown hne1
        go_wp2_with (at_builtin; refine Shut.out ?_)
        unfold Shut
        refine listApp T31 rfl (.tmp 29) (.tmp 36) rfl ws.heap.size v j (flat (C.turnL l j)) [.int .i64 (60 - dd), .int .i64 pp] 1 1 ⟨wr.heap.size + 1, 0, none⟩ rfl ((HOwn.out.alloc _).alloc _) rfl rfl (fun j u hu => by have := news_new (wr.alloc (.cells #[.int .i64 dd, .int .i64 pp] 57)) #[.int .i64 (60 - dd), .int .i64 pp] 57 j u hu; rw [World.size_alloc] at this; exact this) (by simp [Value.oneCell']) hn (by simp; omega) ?_
        intro v2 w2 hown2 hg2 hL2
        have z3 := hg2.cell C8.out HNe.out
        have z4 := frozen_grown hg2 (a := ⟨w1.heap.size, 1, none⟩) (by first | (simp; done) | (simp; omega)) HNe.out F8.out
        have hown2' : w2.ownsRow ws.heap.size 57 2 v2 ((C.turnL l j).length + 1) (flat (C.turnL l j ++ [(60 - dd, pp)])) := by rw [flat_snoc, HTl.out]; exact hown2
        have HI2 := HI1.out.step h2s hsw hne h0s hs0 hb8.out hg2 hown2'
        rw [← HSt.out] at HI2
        have HI2 := Lib.hid HI2
        obtain ⟨_, a2, c2, rfl, _⟩ := Sigs.of_ownsRow hown2'
        rw [HTl.out] at HI2 ⊢
        clear hown2 hown2' hg2 hL2
        go_wp2_with fail
        go_roundw
        case rel => exact ⟨j + 1, _, by omega, by have := HM.out; go_num, HI2⟩
        case measure => have := HM.out; first | (simp [intOf]; done) | (simp [intOf]; omega)
      · have hjl : j = l.length := by omega
        subst hjl
        have hmI : ((l.length : Int) - 1 - (l.length : Int)) = -1 := by omega
        rw [hmI]
        have HT : Hid ((C.turnL l l.length).length = l.length) := Lib.hid (C.bldTo_length _ _)
        have hown := HI1.out.own
        obtain ⟨-, a5, c5, rfl, hsig, -⟩ := Sigs.of_ownsRow hown
        have x1 := HI1.out.l0
        have x2 := HI1.out.l1
        have x3 := HI1.out.x0
        have x4 := HI1.out.x1
        have HVx := C.turn_valid HV.out
        have HTw := fun d hd => C.turn_twin l d hd
        obtain ⟨d, hd⟩ := HV.out.nat
        have hd3 : d ≤ 3 := by have := HV.out.d3; omega
        have hm := (HTw d hd3).mostE (by rw [← hd]; exact HV.out) (by rw [← hd]; exact HVx)
        have hcc := (HTw d hd3).countE (by rw [← hd]; exact HV.out) (by rw [← hd]; exact HVx)
        have hk := fun (i : Nat) (hi : i < l.length) => (HTw d hd3).kindE (by rw [← hd]; exact HV.out) (by rw [← hd]; exact HVx) hi
        rw [← hd] at hm hcc
        have HSm := Lib.hid (same_any deg l (C.turnL l l.length) a cap a5 c5 which true wr (HA.out.below HI1.out.bel) hsig HV.out HVx HT.out hm hcc (C.Twin.leastE HTw HV.out HVx) (fun i hi => by have := hk i hi; rw [← hd] at this; exact this) HU.out)
        have HBw := Lib.hid HI1.out.bel
        clear hm hcc hk HTw HVx hsig hown hd
        go_wp2_with fail
        refine HSm.out.mono ?_
        rintro e w3 ⟨rfl, hb3⟩
        have HB3 := Lib.hid (HBw.out.trans (hb3.mono HBw.out.size))
        clear hb3
        go_wp2_with fail
        refine (works_any w3).mono ?_
        rintro e w4 ⟨rfl, hb4⟩
        go_wp2_with fail
        go_ret
        exact ⟨rfl, HB3.out.trans (hb4.mono HB3.out.size)⟩
  · rw [decide_eq_false hc] at HF
    have HF := Lib.hid HF
    clear hc
    go_enter Try.func11, Try.ntmps11
    go_wp2_with fail
    refine HF.out.mono ?_
    rintro e w1 ⟨rfl, hb1⟩
    have HB1 := Lib.hid (HB.out.trans (hb1.mono HB.out.size))
    clear hb1
    go_wp2_with fail
    refine (works_any w1).mono ?_
    rintro e w2 ⟨rfl, hb2⟩
    go_wp2_with fail
    go_ret
    exact ⟨rfl, HB1.out.trans (hb2.mono HB1.out.size)⟩
end Go.Proofs.Ytkcgkfhfogdihaa
