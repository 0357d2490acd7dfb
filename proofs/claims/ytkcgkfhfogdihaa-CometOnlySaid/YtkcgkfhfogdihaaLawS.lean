/- Walk of Seen. -/
import Derived.Test.YtkcgkfhfogdihaaLawR
namespace Go.Proofs.Ytkcgkfhfogdihaa
open Go.RowKit
theorem frozen_al' (w : World) (c : Array Value) (t : TypeId) (i : Nat) : (w.alloc (.cells c t)).frozen? ⟨w.heap.size, i, none⟩ = false := by simp
theorem SeenL.mono {p : List Int} {t t' : Nat} {r : List (Int × Int)} (h : SeenL p t r) (ht : t ≤ t') : SeenL p t' r := ⟨h.len, fun i hi => by have := h.low i hi; omega, h.inc, h.at'⟩
theorem SeenC.all {p : List Int} {r : List (Int × Int)} (h : SeenC p 0 0 r) : ∀ j, j ≤ r.length → SeenC p j 0 r := by
  intro j
  induction j with
  | zero => intro _; exact h
  | succ j ih => intro hj; exact (ih (by omega)).keep (by omega)
theorem SeenI.frozen {w0 ws : World} {Z H : Nat} {deg : Int} {v : Value} {r : List (Int × Int)} {wi : World} (h : SeenI w0 ws Z H deg v r wi) {p : Addr} (hlt : p.block < ws.heap.size) (hne : p.block ≠ H) : wi.frozen? p = ws.frozen? p := World.frozen?_of_block (h.kp p.block hlt hne)
theorem SeenI.store {w0 ws : World} {Z H : Nat} {deg : Int} {g cap : Nat} {r : List (Int × Int)} {wi : World} (h : SeenI w0 ws Z H deg (.slice (some ⟨g, 0, none⟩) r.length cap) r wi) (hH : H < ws.heap.size) (hs0 : w0.heap.size ≤ ws.heap.size) {j : Nat} (hj : j < r.length) (x : Int) :
    SeenI w0 ws Z H deg (.slice (some ⟨g, 0, none⟩) r.length cap) (r.set j (dayN r j, x)) (wi.setCell ⟨g, j * 2 + 1, none⟩ (.int .i64 x)) := by
  have hg := (h.own.lt g rfl).1
  have hn := h.own.1
  have hst := h.own.stored (j * 2 + 1) (.int .i64 x)
  refine ⟨?_, ?_, by rw [World.frozen?_setCell]; exact h.fz, ?_, h.bel.setCell (p := ⟨g, j * 2 + 1, none⟩) (by show _ ≤ g; omega) _, by have := h.sz; simp [World.setCell]; omega, fun k hk hkH => ?_⟩
  · rw [World.cell?_setCell_other _ _ _ _ (by first | (simp; done) | (simp; omega))]; exact h.x0
  · rw [World.cell?_setCell_other _ _ _ _ (by first | (simp; done) | (simp; omega))]; exact h.x1
  · rw [List.length_set, flat_set r j x hj]; exact hst.1
  · rw [Below.heap_setCell _ _ _ _ (by show k ≠ g; omega)]; exact h.kp k hk hkH
theorem SeenC.upTo {p : List Int} {j c : Nat} {r : List (Int × Int)} (h : SeenC p j c r) : ∀ k, j + k ≤ r.length → SeenC p (j + k) c r := by
  intro k
  induction k with
  | zero => intro _; exact h
  | succ k ih => intro hk; exact (ih (by omega)).keep (by omega)
set_option maxRecDepth 100000 in
set_option maxHeartbeats 8000000 in
theorem seen_any (d : Nat) (ap : Option Addr) (cp : Nat) (p : List Int) (a2 : Option Addr) (c2 : Nat) (days : List Int) (a3 : Option Addr) (c3 : Nat) (wrong : List Int) (w : World) (hd : d ≤ 3) (hpl : p.length = d + 1) (hps : SmallP p) (hpn : p.all R.numOk = true)
    (hdl : days.length ≤ 30) (hwl : wrong.length ≤ 30) (hdw : ∀ n ∈ days, (Lit.int .u8 n).wf = true) (hww : ∀ n ∈ wrong, (Lit.int .u8 n).wf = true) (hp : Ints .i64 w ap p) (h2 : Ints .u8 w a2 days) (h3 : Ints .u8 w a3 wrong) :
    Calls Try.prog 44 #[.int .i64 (d : Int), .slice ap (d + 1) cp, .slice a2 days.length c2, .slice a3 wrong.length c3] w fun e w' => ∃ v L, ∃ c : Nat, e = .returned (.tuple #[.agg #[.int .i64 (d : Int), v], .int .i64 (c : Int)]) ∧ w'.ownsRow w.heap.size 57 2 v L.length (flat L) ∧ R.Valid (d : Int) L ∧ C.onL L p + c = L.length ∧ Below w.heap.size w w' := by
  have hmk : ∀ w, (Instr.makeSlice 34 (.int .i64 61) (.int .i64 61)).run Try.prog w = .ok (.slice (some ⟨w.heap.size, 0, none⟩) 61 61) (w.alloc (.cells (madeCells #[.int .i64 0] 61) 3)) := fun w => run_make_row' (P := Try.prog) 34 3 (.int .i64 0) 8 T34.ht T34.hi rfl .i64 .i64 61 (by decide) (by decide) w
  have HP := Lib.hid hpl
  have HPS := Lib.hid hps
  have HPN := Lib.hid hpn
  have HIP := Lib.hid hp
  have HI2 := Lib.hid h2
  have HI3 := Lib.hid h3
  have HDW := Lib.hid (fun j (hj : j < days.length) => show 0 ≤ nth days j ∧ nth days j ≤ 255 from u8_bd (hdw _ (by rw [nth_eq _ _ hj]; exact List.getElem_mem hj)))
  have HWW := Lib.hid (fun j (hj : j < wrong.length) => show 0 ≤ nth wrong j ∧ nth wrong j ≤ 255 from u8_bd (hww _ (by rw [nth_eq _ _ hj]; exact List.getElem_mem hj)))
  clear hpl hps hpn hp h2 h3 hdw hww
  have hb0 := ((Below.new w (.cells #[.int .i64 0, .slice none 0 0] 33)).alloc (by simp) (.cells #[.int .i64 (d : Int), .slice none 0 0] 33)).alloc (by simp; omega) (.cells (madeCells #[.int .i64 0] 61) 3)
  go_enter Try.func44, Try.ntmps44
  go_wp2_with fail
  have hr0 := RowI.made ((w.alloc (.cells #[.int .i64 0, .slice none 0 0] 33)).alloc (.cells #[.int .i64 (d : Int), .slice none 0 0] 33)) 61 3
  have hbm := Below.new ((w.alloc (.cells #[.int .i64 0, .slice none 0 0] 33)).alloc (.cells #[.int .i64 (d : Int), .slice none 0 0] 33)) (.cells (madeCells #[.int .i64 0] 61) 3)
  have hbm0 := Below.new (w.alloc (.cells #[.int .i64 0, .slice none 0 0] 33)) (.cells #[.int .i64 (d : Int), .slice none 0 0] 33)
  rw [show ((w.alloc (.cells #[.int .i64 0, .slice none 0 0] 33)).alloc (.cells #[.int .i64 (d : Int), .slice none 0 0] 33)).heap.size = w.heap.size + 1 + 1 by simp] at hr0
  have z0 := cell_on hbm (cell_on hbm0 (cell_top (w := w) (c := #[.int .i64 0, .slice none 0 0]) (t := 33) (i := 0) rfl rfl))
  have z1 := cell_on hbm (cell_on hbm0 (cell_top (w := w) (c := #[.int .i64 0, .slice none 0 0]) (t := 33) (i := 1) rfl rfl))
  have x0 := cell_on hbm (cell_top (w := w.alloc (.cells #[.int .i64 0, .slice none 0 0] 33)) (H := w.heap.size + 1) (c := #[.int .i64 (d : Int), .slice none 0 0]) (t := 33) (i := 0) (by simp) rfl)
  have x1 := cell_on hbm (cell_top (w := w.alloc (.cells #[.int .i64 0, .slice none 0 0] 33)) (H := w.heap.size + 1) (c := #[.int .i64 (d : Int), .slice none 0 0]) (t := 33) (i := 1) (by simp) rfl)
  have y0 := frozen_al (frozen_al (frozen_al' w #[.int .i64 0, .slice none 0 0] 33 0) (by simp) (.cells #[.int .i64 (d : Int), .slice none 0 0] 33)) (by simp; omega) (.cells (madeCells #[.int .i64 0] 61) 3)
  have y1 := frozen_al (frozen_al (frozen_al' w #[.int .i64 0, .slice none 0 0] 33 1) (by simp) (.cells #[.int .i64 (d : Int), .slice none 0 0] 33)) (by simp; omega) (.cells (madeCells #[.int .i64 0] 61) 3)
  have fz := frozen_al (frozen_al' (w.alloc (.cells #[.int .i64 0, .slice none 0 0] 33)) #[.int .i64 (d : Int), .slice none 0 0] 33 1) (by simp) (.cells (madeCells #[.int .i64 0] 61) 3)
  rw [show (w.alloc (.cells #[.int .i64 0, .slice none 0 0] 33)).heap.size = w.heap.size + 1 by simp] at fz
  have hss : (((w.alloc (.cells #[.int .i64 0, .slice none 0 0] 33)).alloc (.cells #[.int .i64 (d : Int), .slice none 0 0] 33)).alloc (.cells (madeCells #[.int .i64 0] 61) 3)).heap.size = w.heap.size + 3 := by simp
  generalize (((w.alloc (.cells #[.int .i64 0, .slice none 0 0] 33)).alloc (.cells #[.int .i64 (d : Int), .slice none 0 0] 33)).alloc (.cells (madeCells #[.int .i64 0] 61) 3)) = ws at *
  have HB0 := Lib.hid hb0
  have HR0 := Lib.hid hr0
  have HZ := Lib.hid (And.intro (And.intro z0 z1) (And.intro y0 y1))
  have HX := Lib.hid (And.intro (And.intro x0 x1) fz)
  clear hmk hr0 hbm hbm0 z0 z1 x0 x1 y0 y1 fz hb0
  go_loopw [12] (fun i wi => ∃ (j : Nat) (xs : List Int), j ≤ days.length ∧ i = .int .i64 (j : Int) ∧ xs.length = 61 ∧ Hid (RowI wi (w.heap.size + 1 + 1) xs) ∧ Hid (Below (w.heap.size + 2) ws wi)) (fun i _ => days.length - (intOf i).toNat)
  case atStart => exact ⟨0, _, Nat.zero_le _, rfl, List.length_replicate, HR0, Lib.hid (Below.refl _ _)⟩
  case round =>
    obtain ⟨j, xs, hj, rfl, hxl, HRj, HBj⟩ := hrel
    by_cases hlt : j < days.length
    · obtain ⟨b2, o2, rfl, hc⟩ := (HI2.out.below (HB0.out.trans (HBj.out.mono (by omega)))) j hlt
      have hdw := HDW.out j hlt
      generalize nth days j = n at *
      obtain ⟨t, ht, ht'⟩ := rem_nat hdw.1 61 (by decide)
      have ht' : n.tmod 61 = (t : Int) := ht'
      have k1 : IntKind.i64.wrap n = n := IntWalk.i64_in _ (by omega)
      have k2 : IntKind.i64.wrap (t : Int) = (t : Int) := IntWalk.i64_in _ (by omega)
      have q1 : (j : Int) < ↑days.length := by omega
      have q2 : (0 : Int) ≤ (j : Int) := by omega
      have q3 : (0 : Int) ≤ (t : Int) := by omega
      have q4 : (t : Int) < 61 := by omega
      have ct := HRj.out.cell t (by omega)
      have ft := HRj.out.frozen t (by omega)
      have HR2 := Lib.hid (HRj.out.set t (by omega) 1)
      have HB2 := Lib.hid (HBj.out.setCell (p := ⟨w.heap.size + 1 + 1, t, none⟩) (by show w.heap.size + 2 ≤ w.heap.size + 1 + 1; omega) (.int .i64 1))
      have HXl : Hid ((xs.set t 1).length = 61) := Lib.hid (by rw [List.length_set]; exact hxl)
      clear hxl hdw
      go_wp2_with fail
      go_roundw
      case rel => exact ⟨j + 1, _, by omega, by go_num, HXl.out, HR2, HB2⟩
      case measure => simp [intOf]; omega
    · have hlt' : (days.length : Int) ≤ (j : Int) := by omega
      clear hlt hj
      have hsz1 := HBj.out.size
      have HBw := Lib.hid (HB0.out.trans (HBj.out.mono (by omega)))
      have Hx0 := (HBj.out.cell (p := ⟨w.heap.size + 1, 0, none⟩) (by show w.heap.size + 1 < _; omega)).trans HX.out.1.1
      have Hx1 := (HBj.out.cell (p := ⟨w.heap.size + 1, 1, none⟩) (by show w.heap.size + 1 < _; omega)).trans HX.out.1.2
      have Hfz := (HBj.out.frozen (p := ⟨w.heap.size + 1, 1, none⟩) (by show w.heap.size + 1 < _; omega)).trans HX.out.2
      have Hz0 := (HBj.out.cell (p := ⟨w.heap.size, 0, none⟩) (by show w.heap.size < _; omega)).trans HZ.out.1.1
      have Hz1 := (HBj.out.cell (p := ⟨w.heap.size, 1, none⟩) (by show w.heap.size < _; omega)).trans HZ.out.1.2
      have Hy0 := (HBj.out.frozen (p := ⟨w.heap.size, 0, none⟩) (by show w.heap.size < _; omega)).trans HZ.out.2.1
      have Hy1 := (HBj.out.frozen (p := ⟨w.heap.size, 1, none⟩) (by show w.heap.size < _; omega)).trans HZ.out.2.2
      have HI0 : Hid (SeenI w wr w.heap.size (w.heap.size + 1) (d : Int) (.slice none 0 0) [] wr) := Lib.hid ⟨Hx0, Hx1, Hfz, World.ownsRow_nil _ _ _ _, HBw.out, Nat.le_refl _, fun k _ _ => rfl⟩
      have HZ1 := Lib.hid (And.intro (And.intro Hz0 Hz1) (And.intro Hy0 Hy1))
      have hH : w.heap.size + 1 < wr.heap.size := by omega
      have hwr0 : w.heap.size ≤ wr.heap.size := by omega
      have HXl := Lib.hid hxl
      have HRI := Lib.hid HRj.out
      clear Hx0 Hx1 Hfz Hz0 Hz1 Hy0 Hy1 hxl HRj HBj HX HZ HB0 HR0 HI2 HDW
      clear hsz1
      go_wp2_with fail
      generalize wr = w1 at *
      rw [show decide (j < days.length) = false from decide_eq_false (by omega)]
      clear hlt'
      go_loopw [13] (fun i wi => ∃ (t : Nat), t ≤ 61 ∧ i = .int .i64 (t : Int) ∧ Hid (∃ v r, SeenL p t r ∧ SeenI w w1 w.heap.size (w.heap.size + 1) (d : Int) v r wi)) (fun i _ => 61 - (intOf i).toNat)
      case atStart => exact ⟨0, by omega, rfl, Lib.hid ⟨_, _, SeenL.nil p, HI0.out⟩⟩
      case round =>
        obtain ⟨t, ht, rfl, hrel⟩ := hrel
        obtain ⟨v, r, hl0, hi0⟩ := hrel.out
        have HL := Lib.hid hl0
        have HI := Lib.hid hi0
        clear hrel hl0 hi0
        obtain ⟨-, a5, c5, rfl, -⟩ := Sigs.of_ownsRow HI.out.own
        have x1 := HI.out.x1
        by_cases hgo : t ≤ 60 ∧ r.length < 12
        · obtain ⟨g1, g2⟩ := hgo
          have q1 : (t : Int) ≤ 60 := by omega
          have q2 : (r.length : Int) < 12 := by omega
          have k1 : IntKind.i64.wrap ((t : Int) + 1) = (t : Int) + 1 := IntWalk.i64_in _ (by omega)
          have HC := atOf_any ap cp p t wr (by rw [HP.out]; omega) (by omega) (by omega) HPN.out (HIP.out.below HI.out.bel)
          rw [HP.out] at HC
          have HC2 := Lib.hid HC
          clear HC
          go_wp2_with fail
          refine HC2.out.mono ?_
          rintro e w2 ⟨rfl, hd2⟩
          have HI2 := Lib.hid (HI.out.below hH (hd2.below _))
          have x1 := HI2.out.x1
          have x2 := HI2.out.cell (HRI.out.cell t (by rw [HXl.out]; omega)) (by show w.heap.size + 1 + 1 ≠ w.heap.size + 1; omega)
          have q3 : (0 : Int) ≤ (t : Int) := by omega
          have q4 : (t : Int) < 61 := by omega
          generalize nth xs t = z at *
          have HN := Lib.hid (Eq.refl (R.atD p (t : Int)))
          generalize hn : R.atD p (t : Int) = n at HN ⊢
          have HN : Hid (R.atD p (t : Int) = n) := Lib.hid hn
          clear hn hd2 HC2
          by_cases e1 : z = 1
          · subst e1
            by_cases e2 : -90000 ≤ n
            · by_cases e3 : n ≤ 90000
              · have hown := HI2.out.own
                have hnl : r.length + 1 ≤ 2000000 := by omega
                have hwr1 : w.heap.size + 1 < w2.heap.size := by have := HI2.out.sz; omega
                have hb8 := Lib.hid (Below.new w2 (.cells #[.int .i64 (t : Int), .int .i64 n] 57))
                have C8 := Lib.hid (cell_on hb8.out x1)
                have F8 := Lib.hid ((hb8.out.frozen (p := ⟨w.heap.size + 1, 1, none⟩) hwr1).trans HI2.out.fz)
                have hne1 : some (w.heap.size + 1) ≠ (Value.slice a5 r.length c5).ownBlock := fun e => by have := (hown.lt _ e.symm).1; omega
                have HNe := Lib.hid hne1
                have HOwn := Lib.hid hown
                have hwsr := HI2.out.sz
                have HLn := Lib.hid (HL.out.add g2 (by rw [HN.out]; exact e2) (by rw [HN.out]; exact e3))
                rw [HN.out] at HLn
                have HLn2 := Lib.hid HLn.out
                clear hown hne1 HLn
                go_wp2_with (at_builtin; refine Shut.out ?_)
                unfold Shut
                refine listApp T31 rfl (.tmp 62) (.tmp 66) rfl w1.heap.size (.slice a5 r.length c5) r.length (flat r) [.int .i64 (t : Int), .int .i64 n] 1 1 ⟨w2.heap.size, 0, none⟩ rfl (HOwn.out.alloc _) rfl rfl (fun j u hu => by exact news_new w2 #[.int .i64 (t : Int), .int .i64 n] 57 j u hu) (by simp [Value.oneCell']) hnl (by simp; omega) ?_
                intro v3 w3 hown3 hg3 hL3
                have z3 := hg3.cell C8.out HNe.out
                have z4 := frozen_grown hg3 (a := ⟨w.heap.size + 1, 1, none⟩) (by first | (simp; done) | (simp; omega)) HNe.out F8.out
                have hown3' : w3.ownsRow w1.heap.size 57 2 v3 (r.length + 1) (flat (r ++ [((t : Int), n)])) := by rw [flat_snoc]; exact hown3
                have HI3' := Lib.hid (HI2.out.step hH (by omega) hb8.out hg3 hown3')
                obtain ⟨-, a6, c6, rfl, -⟩ := Sigs.of_ownsRow hown3'
                go_simp
                clear hown3 hown3' hg3 hL3
                go_wp2_with fail
                go_roundw
                case rel => exact ⟨t + 1, by omega, by go_num, Lib.hid ⟨_, _, HLn2.out, HI3'.out⟩⟩
                case measure => simp [intOf]; omega
              · go_wp2_with fail
                go_roundw
                case rel => exact ⟨t + 1, by omega, by go_num, Lib.hid ⟨_, _, HL.out.skip, HI2.out⟩⟩
                case measure => simp [intOf]; omega
            · go_wp2_with fail
              go_roundw
              case rel => exact ⟨t + 1, by omega, by go_num, Lib.hid ⟨_, _, HL.out.skip, HI2.out⟩⟩
              case measure => simp [intOf]; omega
          · go_wp2_with fail
            go_roundw
            case rel => exact ⟨t + 1, by omega, by go_num, Lib.hid ⟨_, _, HL.out.skip, HI2.out⟩⟩
            case measure => simp [intOf]; omega
        · have HI3' : Hid (∃ r' : List (Int × Int), r'.length = r.length ∧ SeenC p 0 0 r' ∧ SeenI w w1 w.heap.size (w.heap.size + 1) (d : Int) (.slice a5 r.length c5) r' wr) := Lib.hid ⟨r, rfl, (HL.out.mono ht).start, HI.out⟩
          have hm12 : r.length ≤ 12 := HL.out.len
          have hor : 60 < t ∨ (t ≤ 60 ∧ 12 ≤ r.length) := by omega
          clear HL HI hgo
          generalize r.length = m at *
          clear r
          have hsplit : (60 : Int) < (t : Int) ∨ ((t : Int) ≤ 60 ∧ (12 : Int) ≤ (m : Int)) := by omega
          clear hor
          rcases hsplit with h60 | ⟨h60, h12⟩
          all_goals
            go_wp2_with fail
            go_loopw [15, 16] (fun o i wi => ∃ (j c : Nat), j ≤ m ∧ c ≤ j ∧ i = .int .i64 (j : Int) ∧ o = .int .i64 (c : Int) ∧ Hid (∃ r' : List (Int × Int), r'.length = m ∧ SeenC p j c r' ∧ SeenI w w1 w.heap.size (w.heap.size + 1) (d : Int) (.slice a5 m c5) r' wi)) (fun _ i _ => m - (intOf i).toNat)
            case atStart => exact ⟨0, 0, by omega, by omega, rfl, rfl, HI3'⟩
            case round =>
              obtain ⟨j2, c, hj, hc, rfl, rfl, hrel⟩ := hrel
              obtain ⟨r, hrm, hc0, hi0⟩ := hrel.out
              have HC := Lib.hid hc0
              have HI := Lib.hid hi0
              have HM := Lib.hid hrm
              clear hrel hc0 hi0 hrm
              have x1 := HI.out.x1
              by_cases hgo : j2 < m ∧ 0 < wrong.length
              · obtain ⟨g1, g2⟩ := hgo
                have q1 : (j2 : Int) < (m : Int) := by omega
                have q2 : (0 : Int) < (wrong.length : Int) := by omega
                have k1 : IntKind.i64.wrap ((j2 : Int) + 1) = (j2 : Int) + 1 := IntWalk.i64_in _ (by omega)
                have k2 : IntKind.i64.wrap ((c : Int) + 1) = (c : Int) + 1 := IntWalk.i64_in _ (by omega)
                obtain ⟨k, hk, hk'⟩ := rem_nat (n := (j2 : Int)) (by omega) wrong.length g2
                have HKW := HWW.out k hk
                obtain ⟨b2, o2, rfl, hcw⟩ := (HI3.out.below HI.out.bel) k hk
                generalize nth wrong k = x at *
                obtain ⟨y, hy, hy'⟩ := rem_nat HKW.1 8 (by decide)
                have hy' : x.tmod 8 = (y : Int) := hy'
                have k3 : IntKind.i64.wrap x = x := IntWalk.i64_in _ (by omega)
                have k4 : IntKind.i64.wrap (k : Int) = (k : Int) := IntWalk.i64_in _ (by omega)
                have k5 : IntKind.i64.wrap (y : Int) = (y : Int) := IntWalk.i64_in _ (by omega)
                have q3 : (0 : Int) ≤ (k : Int) := by omega
                have q4 : (k : Int) < (wrong.length : Int) := by omega
                have q5 : (wrong.length : Int) ≠ 0 := by omega
                by_cases h4 : 4 < (y : Int)
                · obtain ⟨g, rfl⟩ : ∃ g, a5 = some ⟨g, 0, none⟩ := by
                    rcases HI.out.own.2 with ⟨e, e'⟩ | ⟨g, cap, cur, e, -⟩
                    · have := HM.out; omega
                    · cases e; exact ⟨g, rfl⟩
                  have hjr : j2 < r.length := by rw [HM.out]; exact g1
                  have hown := HI.out.own
                  rw [HM.out] at hown
                  have x2 := (hown.cellAt (j2 * 2 + 1) (by omega)).trans (flat_get r j2 hjr).2
                  have f2 := hown.frozenAt (j2 * 2 + 1)
                  have hbd := HC.out.bd j2 hjr
                  have HCn := Lib.hid (HC.out.change hjr (x := (y : Int) - 4) (by omega) (by omega))
                  have HIn := Lib.hid ((show SeenI w w1 w.heap.size (w.heap.size + 1) (d : Int) (.slice (some ⟨g, 0, none⟩) r.length c5) r wr by rw [HM.out]; exact HI.out).store hH hwr0 hjr (plcN r j2 + ((y : Int) - 4)))
                  have HMn := Lib.hid (show (r.set j2 (dayN r j2, plcN r j2 + ((y : Int) - 4))).length = m by rw [List.length_set]; exact HM.out)
                  rw [HM.out] at HIn
                  have HIn2 := Lib.hid HIn.out
                  have k6 : IntKind.i64.wrap ((y : Int) - 4) = (y : Int) - 4 := IntWalk.i64_in _ (by omega)
                  have k7 : IntKind.i64.wrap (plcN r j2 + ((y : Int) - 4)) = plcN r j2 + ((y : Int) - 4) := IntWalk.i64_in _ (by omega)
                  have q6 : (0 : Int) ≤ (j2 : Int) := by omega
                  generalize hr' : r.set j2 (dayN r j2, plcN r j2 + ((y : Int) - 4)) = r' at *
                  generalize plcN r j2 = z at *
                  clear hown hr' HIn hjr
                  go_wp2_with fail
                  go_roundw
                  case rel => exact ⟨j2 + 1, c + 1, by omega, by omega, by go_num, by go_num, Lib.hid ⟨r', HMn.out, HCn.out, HIn2.out⟩⟩
                  case measure => simp [intOf]; omega
                · go_wp2_with fail
                  go_roundw
                  case rel => exact ⟨j2 + 1, c, by omega, by omega, by go_num, rfl, Lib.hid ⟨r, HM.out, HC.out.keep (by rw [HM.out]; exact g1), HI.out⟩⟩
                  case measure => simp [intOf]; omega
              · have HCe : Hid (R.Valid (d : Int) r ∧ C.onL r p + c = r.length) := Lib.hid (by
                  have := HC.out.upTo (r.length - j2) (by rw [HM.out]; omega)
                  rw [show j2 + (r.length - j2) = r.length by rw [HM.out]; omega] at this
                  exact this.done hd)
                have x0 := HI.out.x0
                have z0 := HI.out.cell HZ1.out.1.1 (by show w.heap.size ≠ w.heap.size + 1; omega)
                have z1 := HI.out.cell HZ1.out.1.2 (by show w.heap.size ≠ w.heap.size + 1; omega)
                have y0 := (HI.out.frozen (p := ⟨w.heap.size, 0, none⟩) (by show w.heap.size < _; omega) (by show w.heap.size ≠ w.heap.size + 1; omega)).trans HZ1.out.2.1
                have y1 := (HI.out.frozen (p := ⟨w.heap.size, 1, none⟩) (by show w.heap.size < _; omega) (by show w.heap.size ≠ w.heap.size + 1; omega)).trans HZ1.out.2.2
                have own0 := owns_mono HI.out.own (show w.heap.size + 1 ≤ w1.heap.size by omega)
                have bel0 := HI.out.bel
                have HOwn := Lib.hid (And.intro own0 bel0)
                have hsplit : (m : Int) ≤ (j2 : Int) ∨ ((j2 : Int) < (m : Int) ∧ (wrong.length : Int) = 0) := by omega
                clear HC HI own0 bel0 hgo hj hc
                rcases hsplit with h61 | ⟨h61, h62⟩
                all_goals
                  go_wp2_with fail
                  have e0 : ((wr.setCell ⟨w.heap.size, 0, none⟩ (.int .i64 (d : Int))).setCell ⟨w.heap.size, 1, none⟩ (.slice a5 m c5)).cell? ⟨w.heap.size, 0, none⟩ = some (.int .i64 (d : Int)) := by
                    rw [World.cell?_setCell_other _ _ _ _ (by simp)]; exact World.cell?_setCell_same _ _ _ z0
                  have e1 : ((wr.setCell ⟨w.heap.size, 0, none⟩ (.int .i64 (d : Int))).setCell ⟨w.heap.size, 1, none⟩ (.slice a5 m c5)).cell? ⟨w.heap.size, 1, none⟩ = some (.slice a5 m c5) :=
                    World.cell?_setCell_same _ _ _ ((World.cell?_setCell_other _ _ _ _ (by simp)).trans z1)
                  have own := ownsRow_setCell_below (ownsRow_setCell_below HOwn.out.1 (a := ⟨w.heap.size, 0, none⟩) (by simp) (.int .i64 (d : Int))) (a := ⟨w.heap.size, 1, none⟩) (by simp) (.slice a5 m c5)
                  have bel := (HOwn.out.2.setCell (p := ⟨w.heap.size, 0, none⟩) (by simp) (.int .i64 (d : Int))).setCell (p := ⟨w.heap.size, 1, none⟩) (by simp) (.slice a5 m c5)
                  generalize ((wr.setCell ⟨w.heap.size, 0, none⟩ (.int .i64 (d : Int))).setCell ⟨w.heap.size, 1, none⟩ (.slice a5 m c5)) = W at *
                  exact bodyPost_ret (v := .tuple #[.agg #[.int .i64 (d : Int), .slice a5 m c5], .int .i64 (c : Int)]) (by simp [results, Try.results44, go_sem, e0, e1]) rfl ⟨_, r, c, rfl, owns_mono own (by omega), HCe.out.1, HCe.out.2, bel⟩
end Go.Proofs.Ytkcgkfhfogdihaa
