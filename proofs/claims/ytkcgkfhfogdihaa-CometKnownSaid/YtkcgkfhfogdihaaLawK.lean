/- Walk of the statement CometKnown. -/
import Derived.Test.YtkcgkfhfogdihaaJ16
namespace Go.Proofs.Ytkcgkfhfogdihaa
open Go.RowKit
theorem Ints.setSlice {k : IntKind} {w : World} {a : Option Addr} {zs : List Int} (h : Ints k w a zs) {p : Addr} {x : Option Addr} {n c : Nat} (hp : w.cell? p = some (.slice x n c)) (v : Value) : Ints k (w.setCell p v) a zs := fun i hi => by
  obtain ⟨b, off, e, hc⟩ := h i hi
  refine ⟨b, off, e, ?_⟩
  rw [World.cell?_setCell_other _ _ _ _ (fun e2 => by rw [e2, hc] at hp; cases hp)]
  exact hc
theorem Sigs.setSlice {w : World} {a : Option Addr} {l : List (Int × Int)} (h : Sigs w a l) {p : Addr} {x : Option Addr} {n c : Nat} (hp : w.cell? p = some (.slice x n c)) (v : Value) : Sigs (w.setCell p v) a l := fun i hi => by
  obtain ⟨b, off, e, h1, h2⟩ := h i hi
  refine ⟨b, off, e, ?_, ?_⟩
  · rw [World.cell?_setCell_other _ _ _ _ (fun e2 => by rw [e2, h1] at hp; cases hp)]; exact h1
  · rw [World.cell?_setCell_other _ _ _ _ (fun e2 => by rw [e2, h2] at hp; cases hp)]; exact h2
theorem wkLeastQ (a : Option Addr) (cap : Nat) (w : World) (h : Sigs w a exQ) : Calls Try.prog 38 #[.agg #[.int .i64 2, .slice a 4 cap]] w fun e w' => e = .returned (.tuple #[.int .i64 2, .int .i64 0]) ∧ Below w.heap.size w w' := by
  have := cLeast_any a cap 2 (exQ.take 4) w (by decide) (h.take 4)
  rw [w7] at this
  exact this
theorem wkLeastM (a : Option Addr) (cap : Nat) (w : World) (h : Sigs w a exM) : Calls Try.prog 38 #[.agg #[.int .i64 1, .slice a 2 cap]] w fun e w' => e = .returned (.tuple #[.int .i64 0, .int .i64 23]) ∧ Below w.heap.size w w' := by
  have := cLeast_any a cap 1 exM w (by decide) h
  rw [w8] at this
  exact this
theorem wkLeast0 (a : Option Addr) (cap : Nat) (w : World) : Calls Try.prog 38 #[.agg #[.int .i64 2, .slice a 0 cap]] w fun e w' => e = .returned (.tuple #[.int .i64 0, .int .i64 0]) ∧ Below w.heap.size w w' := by
  have := cLeast_any a cap 2 [] w (by decide) (fun i hi => by simp at hi)
  rw [w9] at this
  exact this
/-- The two logs of the examples, in their cells. -/
structure Logs2 (w0 : World) (B1 B2 : Nat) (a1 a2 : Option Addr) (c1 c2 : Nat) (w : World) : Prop where
  x1 : w.cell? ⟨B1, 0, none⟩ = some (.int .i64 1)
  y1 : w.cell? ⟨B1, 1, none⟩ = some (.slice a1 5 c1)
  s1 : Sigs w a1 exL
  x2 : w.cell? ⟨B2, 0, none⟩ = some (.int .i64 2)
  y2 : w.cell? ⟨B2, 1, none⟩ = some (.slice a2 5 c2)
  s2 : Sigs w a2 exQ
  f2 : w.frozen? ⟨B2, 1, none⟩ = false
  bel : Below w0.heap.size w0 w
theorem Logs2.on {w0 w w' : World} {B1 B2 : Nat} {a1 a2 : Option Addr} {c1 c2 : Nat} (h : Logs2 w0 B1 B2 a1 a2 c1 c2 w) (hb : Below w.heap.size w w') : Logs2 w0 B1 B2 a1 a2 c1 c2 w' :=
  ⟨cell_on hb h.x1, cell_on hb h.y1, h.s1.below hb, cell_on hb h.x2, cell_on hb h.y2, h.s2.below hb, by rw [hb.frozen (World.block_lt_of_cell? w _ h.y2)]; exact h.f2, h.bel.trans (hb.mono h.bel.size)⟩
set_option maxRecDepth 100000 in
set_option maxHeartbeats 4000000 in
theorem known_walk (w : World) : Calls Try.prog 15 #[] w fun e w' => e = .returned (.bool true) ∧ Below w.heap.size w w' := by
  go_enter Try.func15, Try.ntmps15
  go_wp2_with fail
  refine (straight_any w).mono ?_
  rintro e wa ⟨a1, c1, rfl, hc1, hs1, -, hba⟩
  go_wp2_with fail
  refine (bent_any wa).mono ?_
  rintro e wc ⟨a2, c2, rfl, hc2, hs2, -, hbc⟩
  have hs1 := Lib.hid (hs1.below hbc)
  have hs2 := Lib.hid hs2
  have HB0 := Lib.hid (hba.trans (hbc.mono hba.size))
  clear hba hbc
  go_wp2_with fail
  have hbn : Below wc.heap.size wc ((wc.alloc (.cells #[.int .i64 1, .slice a1 5 c1] 33)).alloc (.cells #[.int .i64 2, .slice a2 5 c2] 33)) := (Below.new wc _).alloc (by simp) _
  have e1 : ((wc.alloc (.cells #[.int .i64 1, .slice a1 5 c1] 33)).alloc (.cells #[.int .i64 2, .slice a2 5 c2] 33)).cell? ⟨wc.heap.size, 0, none⟩ = some (.int .i64 1) := cell_on (Below.new _ _) (cell_top rfl rfl)
  have e2 : ((wc.alloc (.cells #[.int .i64 1, .slice a1 5 c1] 33)).alloc (.cells #[.int .i64 2, .slice a2 5 c2] 33)).cell? ⟨wc.heap.size, 1, none⟩ = some (.slice a1 5 c1) := cell_on (Below.new _ _) (cell_top rfl rfl)
  have e3 : ((wc.alloc (.cells #[.int .i64 1, .slice a1 5 c1] 33)).alloc (.cells #[.int .i64 2, .slice a2 5 c2] 33)).cell? ⟨wc.heap.size + 1, 0, none⟩ = some (.int .i64 2) := cell_top (by simp) rfl
  have e4 : ((wc.alloc (.cells #[.int .i64 1, .slice a1 5 c1] 33)).alloc (.cells #[.int .i64 2, .slice a2 5 c2] 33)).cell? ⟨wc.heap.size + 1, 1, none⟩ = some (.slice a2 5 c2) := cell_top (by simp) rfl
  have e5 : ((wc.alloc (.cells #[.int .i64 1, .slice a1 5 c1] 33)).alloc (.cells #[.int .i64 2, .slice a2 5 c2] 33)).frozen? ⟨wc.heap.size + 1, 1, none⟩ = false := by simp
  have HL : Logs2 w wc.heap.size (wc.heap.size + 1) a1 a2 c1 c2 ((wc.alloc (.cells #[.int .i64 1, .slice a1 5 c1] 33)).alloc (.cells #[.int .i64 2, .slice a2 5 c2] 33)) := ⟨e1, e2, hs1.out.below hbn, e3, e4, hs2.out.below hbn, e5, HB0.out.trans (hbn.mono HB0.out.size)⟩
  clear e1 e2 e3 e4 e5
  obtain ⟨W0, hW0⟩ : ∃ W0, ((wc.alloc (.cells #[.int .i64 1, .slice a1 5 c1] 33)).alloc (.cells #[.int .i64 2, .slice a2 5 c2] 33)) = W0 := ⟨_, rfl⟩
  have hsz : wc.heap.size + 1 + 1 = W0.heap.size := by rw [← hW0]; simp
  have hwc : w.heap.size ≤ wc.heap.size + 1 := by have := HB0.out.size; omega
  rw [hW0] at HL ⊢
  rw [hsz]
  have HL := Lib.hid HL
  have HWc := Lib.hid hwc
  clear hsz hW0 hbn hwc
  have hc4 : (4 : Int) ≤ (c2 : Int) := by omega
  refine (longsId_any _ _).mono ?_
  rintro e w' ⟨rfl, rfl⟩
  go_wp2_with fail
  refine (wkLater2 W0).mono ?_
  rintro e w1 ⟨AIa, CIa, rfl, hIa, hb⟩
  have HL := Lib.hid (HL.out.on hb)
  have Ia := Lib.hid hIa
  clear hb hIa
  go_wp2_with fail
  have x := HL.out.x1
  have y := HL.out.y1
  go_region_held3 (fun w' => w'.cell? ⟨wc.heap.size, 0, none⟩ = some (.int .i64 1) ∧ w'.cell? ⟨wc.heap.size, 1, none⟩ = some (.slice a1 5 c1)) (first | exact ⟨cell_on hb23 x, cell_on hb23 y⟩ | go_keep) (first | (go_at_call 52; refine (ofId_any _ _).mono ?_; rintro e w' ⟨rfl, rfl⟩) | (go_at_call 23; refine (wkThL2 a1 c1 w1.drew HL.out.s1).mono ?_; rintro e w2 ⟨AIb, CIb, rfl, hIb, hb23⟩))
  have hb : Below w1.heap.size w1 w2 := (Below.refl _ w1).drew.trans hb23
  clear x y
  have HL := Lib.hid (HL.out.on hb)
  have Ia := Lib.hid (Ia.out.below hb)
  have Ib := Lib.hid hIb
  clear hb hb23 hIb
  go_wp2_with fail
  have x := HL.out.x1
  have y := HL.out.y1
  go_region_held3 (fun w' => w'.cell? ⟨wc.heap.size, 0, none⟩ = some (.int .i64 1) ∧ w'.cell? ⟨wc.heap.size, 1, none⟩ = some (.slice a1 5 c1)) (first | exact ⟨cell_on hb23 x, cell_on hb23 y⟩ | go_keep) (first | (go_at_call 52; refine (ofId_any _ _).mono ?_; rintro e w' ⟨rfl, rfl⟩) | (go_at_call 23; refine (wkThL3 a1 c1 w2.drew HL.out.s1).mono ?_; rintro e w3 ⟨AIn, CIn, rfl, hIn, hb23⟩))
  have hb : Below w2.heap.size w2 w3 := (Below.refl _ w2).drew.trans hb23
  clear x y
  have HL := Lib.hid (HL.out.on hb)
  have Ia := Lib.hid (Ia.out.below hb)
  have Ib := Lib.hid (Ib.out.below hb)
  have In := Lib.hid hIn
  clear hb hb23 hIn
  go_wp2_with fail
  have x := HL.out.x1
  have y := HL.out.y1
  go_region_held3 (fun w' => w'.cell? ⟨wc.heap.size, 0, none⟩ = some (.int .i64 1) ∧ w'.cell? ⟨wc.heap.size, 1, none⟩ = some (.slice a1 5 c1)) (first | exact ⟨cell_on hb23 x, cell_on hb23 y⟩ | go_keep) (first | (go_at_call 51; refine (longsId_any _ _).mono ?_; rintro e w' ⟨rfl, rfl⟩) | (go_at_call 25; refine (wkCp2 a1 c1 w3.drew HL.out.s1).mono ?_; rintro e w4 ⟨rfl, hb23⟩))
  have hb : Below w3.heap.size w3 w4 := (Below.refl _ w3).drew.trans hb23
  clear x y
  have HL := Lib.hid (HL.out.on hb)
  have Ia := Lib.hid (Ia.out.below hb)
  have Ib := Lib.hid (Ib.out.below hb)
  have In := Lib.hid (In.out.below hb)
  clear hb hb23
  have x1 := HL.out.x1
  have y1 := HL.out.y1
  go_wp2_with fail
  clear x1 y1
  refine (wkMostL a1 c1 w4 HL.out.s1).mono ?_
  rintro e w5 ⟨rfl, hb⟩
  have HL := Lib.hid (HL.out.on hb)
  have Ia := Lib.hid (Ia.out.below hb)
  have Ib := Lib.hid (Ib.out.below hb)
  have In := Lib.hid (In.out.below hb)
  clear hb
  have x1 := HL.out.x1
  have y1 := HL.out.y1
  go_wp2_with fail
  clear x1 y1
  refine (wkKind0 a1 c1 w5 HL.out.s1).mono ?_
  rintro e w6 ⟨rfl, hb⟩
  have HL := Lib.hid (HL.out.on hb)
  have Ia := Lib.hid (Ia.out.below hb)
  have Ib := Lib.hid (Ib.out.below hb)
  have In := Lib.hid (In.out.below hb)
  clear hb
  have x2 := HL.out.x2
  have y2 := HL.out.y2
  have f2 := HL.out.f2
  have q0 := (World.cell?_setCell_other w6 ⟨wc.heap.size + 1, 1, none⟩ ⟨wc.heap.size + 1, 0, none⟩ (.slice a2 4 c2) (by simp)).trans x2
  have q1 := World.cell?_setCell_same w6 ⟨wc.heap.size + 1, 1, none⟩ (.slice a2 4 c2) y2
  have HBx := Lib.hid (HL.out.bel.setCell (p := ⟨wc.heap.size + 1, 1, none⟩) HWc.out (.slice a2 4 c2))
  have HSq := Lib.hid (HL.out.s2.setSlice y2 (.slice a2 4 c2))
  have Ia := Lib.hid (Ia.out.setSlice HL.out.y2 (.slice a2 4 c2))
  have Ib := Lib.hid (Ib.out.setSlice HL.out.y2 (.slice a2 4 c2))
  have In := Lib.hid (In.out.setSlice HL.out.y2 (.slice a2 4 c2))
  go_wp2_with fail
  generalize w6.setCell ⟨wc.heap.size + 1, 1, none⟩ (.slice a2 4 c2) = Ws at *
  refine (wkLeastQ a2 c2 Ws HSq.out).mono ?_
  rintro e w7 ⟨rfl, hb⟩
  have HBx := Lib.hid (HBx.out.trans (hb.mono HBx.out.size))
  have Ia := Lib.hid (Ia.out.below hb)
  have Ib := Lib.hid (Ib.out.below hb)
  have In := Lib.hid (In.out.below hb)
  clear hb
  clear x2 y2 f2 q0 q1
  go_wp2_with fail
  refine (half_any w7).mono ?_
  rintro e w8 ⟨a3, c3, rfl, hc3, hs3, -, hb⟩
  have HBx := Lib.hid (HBx.out.trans (hb.mono HBx.out.size))
  have Ia := Lib.hid (Ia.out.below hb)
  have Ib := Lib.hid (Ib.out.below hb)
  have In := Lib.hid (In.out.below hb)
  clear hb
  go_wp2_with fail
  refine (wkLeastM a3 c3 w8 hs3).mono ?_
  rintro e w9 ⟨rfl, hb⟩
  have HBx := Lib.hid (HBx.out.trans (hb.mono HBx.out.size))
  have Ia := Lib.hid (Ia.out.below hb)
  have Ib := Lib.hid (Ib.out.below hb)
  have In := Lib.hid (In.out.below hb)
  clear hb
  clear hs3
  go_wp2_with fail
  refine (log_any 2 none 0 [] w9 (by simp) (Ints.nil _ _ _)).mono ?_
  rintro e w10 ⟨v5, rfl, hown5, hb⟩
  obtain ⟨-, a5, c5, rfl, -⟩ := Sigs.of_ownsRow hown5
  clear hown5
  have HBx := Lib.hid (HBx.out.trans (hb.mono HBx.out.size))
  have Ia := Lib.hid (Ia.out.below hb)
  have Ib := Lib.hid (Ib.out.below hb)
  have In := Lib.hid (In.out.below hb)
  clear hb
  go_wp2_with fail
  refine (wkLeast0 a5 c5 w10).mono ?_
  rintro e w11 ⟨rfl, hb⟩
  have HBx := Lib.hid (HBx.out.trans (hb.mono HBx.out.size))
  have Ia := Lib.hid (Ia.out.below hb)
  have Ib := Lib.hid (Ib.out.below hb)
  have In := Lib.hid (In.out.below hb)
  clear hb
  go_wp2_with fail
  refine (longsId_any _ _).mono ?_
  rintro e w' ⟨rfl, rfl⟩
  go_wp2_with fail
  refine (wkLongs _ _ 2 #[.int .i64 7, .int .i64 2] [7, 2] w11 rfl (by decide) rfl Ia.out).mono ?_
  rintro e w12 ⟨rfl, hb⟩
  have HBx := Lib.hid (HBx.out.trans (hb.mono HBx.out.size))
  have Ia := Lib.hid (Ia.out.below hb)
  have Ib := Lib.hid (Ib.out.below hb)
  have In := Lib.hid (In.out.below hb)
  clear hb
  go_wp2_with fail
  refine (longsId_any _ _).mono ?_
  rintro e w' ⟨rfl, rfl⟩
  go_wp2_with fail
  refine (wkLongs _ _ 2 #[.int .i64 1, .int .i64 2] [1, 2] w12 rfl (by decide) rfl Ib.out).mono ?_
  rintro e w13 ⟨rfl, hb⟩
  have HBx := Lib.hid (HBx.out.trans (hb.mono HBx.out.size))
  have Ia := Lib.hid (Ia.out.below hb)
  have Ib := Lib.hid (Ib.out.below hb)
  have In := Lib.hid (In.out.below hb)
  clear hb
  go_wp2_with fail
  refine (works_any w13).mono ?_
  rintro e w14 ⟨rfl, hb⟩
  have HBx := Lib.hid (HBx.out.trans (hb.mono HBx.out.size))
  have Ia := Lib.hid (Ia.out.below hb)
  have Ib := Lib.hid (Ib.out.below hb)
  have In := Lib.hid (In.out.below hb)
  clear hb
  go_wp2_with fail
  go_ret
  exact ⟨rfl, HBx.out⟩
end Go.Proofs.Ytkcgkfhfogdihaa
