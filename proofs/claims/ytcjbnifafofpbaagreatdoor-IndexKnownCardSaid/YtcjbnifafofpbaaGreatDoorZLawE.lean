/- Walk of IndexKnown. -/
import Derived.Test.YtcjbnifafofpbaaGreatDoorJ21
namespace Go.Proofs.YtcjbnifafofpbaaGreatDoor
open Go.RowKit Go.Lib
set_option maxRecDepth 20000 in
set_option maxHeartbeats 8000000 in
theorem known_walk (w : World) : Calls Tryz.prog 15 #[] w fun e w' => e = .returned (.bool true) ∧ RowKit.Below w.heap.size w w' := by
  have HB0 := Lib.hid (RowKit.Below.refl w.heap.size w)
  go_enter Tryz.func15, Tryz.ntmps15
  go_wp2_with fail
  refine (four_any _).mono ?_
  rintro e w1 ⟨gl, rfl, hi, hb⟩
  have HB0 := Lib.hid (HB0.out.trans (hb.mono HB0.out.size))
  have Il := Lib.hid hi
  clear hi hb
  go_wp2_with fail
  refine (three_any _).mono ?_
  rintro e w2 ⟨gm, rfl, hi, hb⟩
  have HB1 := Lib.hid (HB0.out.trans (hb.mono HB0.out.size))
  have Il2 := Lib.hid (Il.out.below hb)
  have Im := Lib.hid hi
  clear hi hb
  have hC := tellM_any (some ⟨gl, 0, none⟩) 4 X.fourL [98] [98, 97] w2 (by decide) (rooms_of (by decide)) (by decide) (by decide) Il2.out
  rw [X.k1] at hC
  have HC := Lib.hid hC
  clear hC
  go_wp2_with fail
  refine HC.out.mono ?_
  rintro e w3 ⟨rfl, hb⟩
  have HB3 := Lib.hid (HB1.out.trans (hb.mono HB1.out.size))
  have Il4 := Lib.hid (Il2.out.below hb)
  have Im5 := Lib.hid (Im.out.below hb)
  clear hb HC
  have hC := tellM_any (some ⟨gl, 0, none⟩) 4 X.fourL [98, 97, 114] [99, 97, 116] w3 (by decide) (rooms_of (by decide)) (by decide) (by decide) Il4.out
  rw [X.k2] at hC
  have HC := Lib.hid hC
  clear hC
  go_wp2_with fail
  refine HC.out.mono ?_
  rintro e w4 ⟨rfl, hb⟩
  have HB6 := Lib.hid (HB3.out.trans (hb.mono HB3.out.size))
  have Il7 := Lib.hid (Il4.out.below hb)
  have Im8 := Lib.hid (Im5.out.below hb)
  clear hb HC
  have hC := apartM_any (some ⟨gm, 0, none⟩) 3 X.threeL w4 (by decide) (rooms_of (by decide)) Im8.out
  rw [X.k3] at hC
  have HC := Lib.hid hC
  clear hC
  go_wp2_with fail
  refine HC.out.mono ?_
  intro e w5 hG
  obtain ⟨Ab, Cb, rfl, hi, hcb, hb⟩ := hG.lit (n := 3) rfl
  have HB9 := Lib.hid (HB6.out.trans (hb.mono HB6.out.size))
  have Il10 := Lib.hid (Il7.out.below hb)
  have Im11 := Lib.hid (Im8.out.below hb)
  have Ib := Lib.hid hi
  have Kb := Lib.hid hcb
  clear hcb hi hG
  clear hb HC
  go_wp2_with fail
  refine (texts_any _ _).mono ?_
  rintro e w' ⟨rfl, hw⟩
  have hb := Below.new w5 (.cells #[sv [98, 97, 114], sv [99, 97, 114]] 9)
  have hi := strs_new w5 #[sv [98, 97, 114], sv [99, 97, 114]] [[98, 97, 114], [99, 97, 114]] rfl
  obtain ⟨gx, hgx⟩ : ∃ g, g = w5.heap.size := ⟨_, rfl⟩
  rw [← hgx] at hi ⊢
  have hw2 : w5.alloc (.cells #[sv [98, 97, 114], sv [99, 97, 114]] 9) = w' := hw
  rw [hw2] at hi hb
  clear hw hw2 hgx
  obtain ⟨w6, hV⟩ : ∃ V, V = w' := ⟨_, rfl⟩
  rw [← hV] at hi hb ⊢
  clear hV
  have HB12 := Lib.hid (HB9.out.trans (hb.mono HB9.out.size))
  have Il13 := Lib.hid (Il10.out.below hb)
  have Im14 := Lib.hid (Im11.out.below hb)
  have Ib15 := Lib.hid (Ib.out.below hb)
  have Ix := Lib.hid hi
  clear hi hb
  have hC := checkApartM_any (some ⟨gl, 0, none⟩) 4 X.fourL (some ⟨gx, 0, none⟩) 2 [[98, 97, 114], [99, 97, 114]] w6 (by decide) (rooms_of (by decide)) (by decide) (rooms_of (by decide)) Il13.out Ix.out
  rw [X.k4] at hC
  have HC := Lib.hid hC
  clear hC
  go_wp2_with fail
  refine HC.out.mono ?_
  rintro e w7 ⟨rfl, hb⟩
  have HB16 := Lib.hid (HB12.out.trans (hb.mono HB12.out.size))
  have Il17 := Lib.hid (Il13.out.below hb)
  have Im18 := Lib.hid (Im14.out.below hb)
  have Ib19 := Lib.hid (Ib15.out.below hb)
  have Ix20 := Lib.hid (Ix.out.below hb)
  clear hb HC
  go_wp2_with fail
  refine (texts_any _ _).mono ?_
  rintro e w' ⟨rfl, hw⟩
  have hb := Below.new w7 (.cells #[sv [], sv [98, 97], sv [120]] 9)
  have hi := strs_new w7 #[sv [], sv [98, 97], sv [120]] [[], [98, 97], [120]] rfl
  obtain ⟨gy, hgy⟩ : ∃ g, g = w7.heap.size := ⟨_, rfl⟩
  rw [← hgy] at hi ⊢
  have hw2 : w7.alloc (.cells #[sv [], sv [98, 97], sv [120]] 9) = w' := hw
  rw [hw2] at hi hb
  clear hw hw2 hgy
  obtain ⟨w8, hV⟩ : ∃ V, V = w' := ⟨_, rfl⟩
  rw [← hV] at hi hb ⊢
  clear hV
  have HB21 := Lib.hid (HB16.out.trans (hb.mono HB16.out.size))
  have Il22 := Lib.hid (Il17.out.below hb)
  have Im23 := Lib.hid (Im18.out.below hb)
  have Ib24 := Lib.hid (Ib19.out.below hb)
  have Iy := Lib.hid hi
  clear hi hb
  have hC := checkApartM_any (some ⟨gl, 0, none⟩) 4 X.fourL (some ⟨gy, 0, none⟩) 3 [[], [98, 97], [120]] w8 (by decide) (rooms_of (by decide)) (by decide) (rooms_of (by decide)) Il22.out Iy.out
  rw [X.k5] at hC
  have HC := Lib.hid hC
  clear hC
  go_wp2_with fail
  refine HC.out.mono ?_
  rintro e w9 ⟨rfl, hb⟩
  have HB25 := Lib.hid (HB21.out.trans (hb.mono HB21.out.size))
  have Il26 := Lib.hid (Il22.out.below hb)
  have Im27 := Lib.hid (Im23.out.below hb)
  have Ib28 := Lib.hid (Ib24.out.below hb)
  have Iy29 := Lib.hid (Iy.out.below hb)
  clear hb HC
  have hC := nearM_any (some ⟨gl, 0, none⟩) 4 X.fourL [98, 97, 114] 1 w9 (by decide) (rooms_of (by decide)) (by decide) Il26.out
  rw [X.k6] at hC
  have HC := Lib.hid hC
  clear hC
  go_wp2_with fail
  refine HC.out.mono ?_
  intro e w10 hG
  obtain ⟨Ac, Cc, rfl, hi, hcc, hb⟩ := hG.lit (n := 3) rfl
  have HB30 := Lib.hid (HB25.out.trans (hb.mono HB25.out.size))
  have Il31 := Lib.hid (Il26.out.below hb)
  have Im32 := Lib.hid (Im27.out.below hb)
  have Ib33 := Lib.hid (Ib28.out.below hb)
  have Ic := Lib.hid hi
  have Kc := Lib.hid hcc
  clear hcc hi hG
  clear hb HC
  have hC := nearM_any (some ⟨gl, 0, none⟩) 4 X.fourL [120] 2 w10 (by decide) (rooms_of (by decide)) (by decide) Il31.out
  rw [X.k7] at hC
  have HC := Lib.hid hC
  clear hC
  go_wp2_with fail
  refine HC.out.mono ?_
  intro e w11 hG
  obtain ⟨Ad, Cd, rfl, hi, hcd, hb⟩ := hG.lit (n := 0) rfl
  have HB34 := Lib.hid (HB30.out.trans (hb.mono HB30.out.size))
  have Il35 := Lib.hid (Il31.out.below hb)
  have Im36 := Lib.hid (Im32.out.below hb)
  have Ib37 := Lib.hid (Ib33.out.below hb)
  have Ic38 := Lib.hid (Ic.out.below hb)
  have Id := Lib.hid hi
  have Kd := Lib.hid hcd
  clear hcd hi hG
  clear hb HC
  have hC := buildP_any none 0 [] w11 (by decide) (rooms_of (by decide)) (Strs.nil _ _)
  rw [X.k8] at hC
  have HC := Lib.hid hC
  clear hC
  go_wp2_with fail
  refine HC.out.mono ?_
  intro e w12 hG
  obtain ⟨As, Cs, rfl, hi, hcs, hb⟩ := hG.lit (n := 1) rfl
  have HB39 := Lib.hid (HB34.out.trans (hb.mono HB34.out.size))
  have Il40 := Lib.hid (Il35.out.below hb)
  have Im41 := Lib.hid (Im36.out.below hb)
  have Ib42 := Lib.hid (Ib37.out.below hb)
  have Ic43 := Lib.hid (Ic38.out.below hb)
  have Id44 := Lib.hid (Id.out.below hb)
  have Is := Lib.hid hi
  have Ks := Lib.hid hcs
  clear hcs hi hG
  clear hb HC
  go_wp2_with fail
  refine (texts_any _ _).mono ?_
  rintro e w' ⟨rfl, hw⟩
  have hb := Below.new w12 (.cells #[sv [], sv [98], sv [98, 97], sv [99, 97, 116]] 9)
  have hi := strs_new w12 #[sv [], sv [98], sv [98, 97], sv [99, 97, 116]] [[], [98], [98, 97], [99, 97, 116]] rfl
  obtain ⟨gz, hgz⟩ : ∃ g, g = w12.heap.size := ⟨_, rfl⟩
  rw [← hgz] at hi ⊢
  have hw2 : w12.alloc (.cells #[sv [], sv [98], sv [98, 97], sv [99, 97, 116]] 9) = w' := hw
  rw [hw2] at hi hb
  clear hw hw2 hgz
  obtain ⟨w13, hV⟩ : ∃ V, V = w' := ⟨_, rfl⟩
  rw [← hV] at hi hb ⊢
  clear hV
  have HB45 := Lib.hid (HB39.out.trans (hb.mono HB39.out.size))
  have Il46 := Lib.hid (Il40.out.below hb)
  have Im47 := Lib.hid (Im41.out.below hb)
  have Ib48 := Lib.hid (Ib42.out.below hb)
  have Ic49 := Lib.hid (Ic43.out.below hb)
  have Id50 := Lib.hid (Id44.out.below hb)
  have Is51 := Lib.hid (Is.out.below hb)
  have Iz := Lib.hid hi
  clear hi hb
  have hC := checkApartM_any (some ⟨gl, 0, none⟩) 4 X.fourL (some ⟨gz, 0, none⟩) 4 [[], [98], [98, 97], [99, 97, 116]] w13 (by decide) (rooms_of (by decide)) (by decide) (rooms_of (by decide)) Il46.out Iz.out
  rw [X.k9] at hC
  have HC := Lib.hid hC
  clear hC
  go_wp2_with fail
  refine HC.out.mono ?_
  rintro e w14 ⟨rfl, hb⟩
  have HB52 := Lib.hid (HB45.out.trans (hb.mono HB45.out.size))
  have Il53 := Lib.hid (Il46.out.below hb)
  have Im54 := Lib.hid (Im47.out.below hb)
  have Ib55 := Lib.hid (Ib48.out.below hb)
  have Ic56 := Lib.hid (Ic49.out.below hb)
  have Id57 := Lib.hid (Id50.out.below hb)
  have Is58 := Lib.hid (Is51.out.below hb)
  have Iz59 := Lib.hid (Iz.out.below hb)
  clear hb HC
  go_wp2_with fail
  refine (texts_any _ _).mono ?_
  rintro e w' ⟨rfl, hw⟩
  have hb := Below.new w14 (.cells #[sv [], sv [97], sv [97, 98]] 9)
  have hi := strs_new w14 #[sv [], sv [97], sv [97, 98]] [[], [97], [97, 98]] rfl
  obtain ⟨gv, hgv⟩ : ∃ g, g = w14.heap.size := ⟨_, rfl⟩
  rw [← hgv] at hi ⊢
  have hw2 : w14.alloc (.cells #[sv [], sv [97], sv [97, 98]] 9) = w' := hw
  rw [hw2] at hi hb
  clear hw hw2 hgv
  obtain ⟨w15, hV⟩ : ∃ V, V = w' := ⟨_, rfl⟩
  rw [← hV] at hi hb ⊢
  clear hV
  have HB60 := Lib.hid (HB52.out.trans (hb.mono HB52.out.size))
  have Il61 := Lib.hid (Il53.out.below hb)
  have Im62 := Lib.hid (Im54.out.below hb)
  have Ib63 := Lib.hid (Ib55.out.below hb)
  have Ic64 := Lib.hid (Ic56.out.below hb)
  have Id65 := Lib.hid (Id57.out.below hb)
  have Is66 := Lib.hid (Is58.out.below hb)
  have Iv := Lib.hid hi
  clear hi hb
  have hC := textsS_any Ab Cb [[], [97], [97, 98]] (some ⟨gv, 0, none⟩) 3 [[], [97], [97, 98]] w15 (by decide) Ib63.out Iv.out
  rw [decide_eq_true rfl] at hC
  have HC := Lib.hid hC
  clear hC
  go_wp2_with fail
  refine HC.out.mono ?_
  rintro e w16 ⟨rfl, hd⟩
  have hb := hd.below w15.heap.size
  clear hd
  have hb := hb
  have HB67 := Lib.hid (HB60.out.trans (hb.mono HB60.out.size))
  have Il68 := Lib.hid (Il61.out.below hb)
  have Im69 := Lib.hid (Im62.out.below hb)
  have Ib70 := Lib.hid (Ib63.out.below hb)
  have Ic71 := Lib.hid (Ic64.out.below hb)
  have Id72 := Lib.hid (Id65.out.below hb)
  have Is73 := Lib.hid (Is66.out.below hb)
  have Iv74 := Lib.hid (Iv.out.below hb)
  clear hb HC
  go_wp2_with fail
  refine (texts_any _ _).mono ?_
  rintro e w' ⟨rfl, hw⟩
  have hb := Below.new w16 (.cells #[sv [98, 97, 114], sv [98, 97, 116], sv [99, 97, 114]] 9)
  have hi := strs_new w16 #[sv [98, 97, 114], sv [98, 97, 116], sv [99, 97, 114]] [[98, 97, 114], [98, 97, 116], [99, 97, 114]] rfl
  obtain ⟨gu, hgu⟩ : ∃ g, g = w16.heap.size := ⟨_, rfl⟩
  rw [← hgu] at hi ⊢
  have hw2 : w16.alloc (.cells #[sv [98, 97, 114], sv [98, 97, 116], sv [99, 97, 114]] 9) = w' := hw
  rw [hw2] at hi hb
  clear hw hw2 hgu
  obtain ⟨w17, hV⟩ : ∃ V, V = w' := ⟨_, rfl⟩
  rw [← hV] at hi hb ⊢
  clear hV
  have HB75 := Lib.hid (HB67.out.trans (hb.mono HB67.out.size))
  have Il76 := Lib.hid (Il68.out.below hb)
  have Im77 := Lib.hid (Im69.out.below hb)
  have Ib78 := Lib.hid (Ib70.out.below hb)
  have Ic79 := Lib.hid (Ic71.out.below hb)
  have Id80 := Lib.hid (Id72.out.below hb)
  have Is81 := Lib.hid (Is73.out.below hb)
  have Iu := Lib.hid hi
  clear hi hb
  have hC := textsS_any Ac Cc [[98, 97, 114], [98, 97, 116], [99, 97, 114]] (some ⟨gu, 0, none⟩) 3 [[98, 97, 114], [98, 97, 116], [99, 97, 114]] w17 (by decide) Ic79.out Iu.out
  rw [decide_eq_true rfl] at hC
  have HC := Lib.hid hC
  clear hC
  go_wp2_with fail
  refine HC.out.mono ?_
  rintro e w18 ⟨rfl, hd⟩
  have hb := hd.below w17.heap.size
  clear hd
  have hb := hb
  have HB82 := Lib.hid (HB75.out.trans (hb.mono HB75.out.size))
  have Il83 := Lib.hid (Il76.out.below hb)
  have Im84 := Lib.hid (Im77.out.below hb)
  have Ib85 := Lib.hid (Ib78.out.below hb)
  have Ic86 := Lib.hid (Ic79.out.below hb)
  have Id87 := Lib.hid (Id80.out.below hb)
  have Is88 := Lib.hid (Is81.out.below hb)
  have Iu89 := Lib.hid (Iu.out.below hb)
  clear hb HC
  go_wp2_with fail
  refine (state54_any 0 [] (.slice none 0 0) _ 0 0 rfl _).mono ?_
  rintro e w19 ⟨rfl, hb2⟩
  have hb := hb2
  have HB90 := Lib.hid (HB82.out.trans (hb.mono HB82.out.size))
  have Il91 := Lib.hid (Il83.out.below hb)
  have Im92 := Lib.hid (Im84.out.below hb)
  have Ib93 := Lib.hid (Ib85.out.below hb)
  have Ic94 := Lib.hid (Ic86.out.below hb)
  have Id95 := Lib.hid (Id87.out.below hb)
  have Is96 := Lib.hid (Is88.out.below hb)
  clear hb hb2
  go_wp2_with fail
  have hq : Sts _ _ [⟨0, [], []⟩] := sts_new w19 #[.int .i64 0, sv [], .slice none 0 0] [(⟨0, [], []⟩, none, 0)] rfl (List.forall_mem_cons.2 ⟨Ints.nil _ _ _, (fun _ h => by cases h)⟩)
  have hb1 := Below.new w19 (.cells #[.int .i64 0, sv [], .slice none 0 0] 58)
  have hC := statesS_any As Cs [⟨0, [], []⟩] (some ⟨w19.heap.size, 0, none⟩) 1 [⟨0, [], []⟩] _ (by decide) (by unfold Few; decide) (Is96.out.alloc _) hq
  rw [decide_eq_true rfl] at hC
  refine hC.mono ?_
  rintro e w20 ⟨rfl, hd⟩
  have hb := hb1.trans ((hd.below _).mono hb1.size)
  clear hd hb1 hq hC
  have HB97 := Lib.hid (HB90.out.trans (hb.mono HB90.out.size))
  have Il98 := Lib.hid (Il91.out.below hb)
  have Im99 := Lib.hid (Im92.out.below hb)
  have Ib100 := Lib.hid (Ib93.out.below hb)
  have Ic101 := Lib.hid (Ic94.out.below hb)
  have Id102 := Lib.hid (Id95.out.below hb)
  have Is103 := Lib.hid (Is96.out.below hb)
  clear hb
  have HC := Lib.hid (works_any w20)
  go_wp2_with fail
  refine HC.out.mono ?_
  rintro e w21 ⟨rfl, hb⟩
  have HB104 := Lib.hid (HB97.out.trans (hb.mono HB97.out.size))
  have Il105 := Lib.hid (Il98.out.below hb)
  have Im106 := Lib.hid (Im99.out.below hb)
  have Ib107 := Lib.hid (Ib100.out.below hb)
  have Ic108 := Lib.hid (Ic101.out.below hb)
  have Id109 := Lib.hid (Id102.out.below hb)
  have Is110 := Lib.hid (Is103.out.below hb)
  clear hb HC
  go_wp2_with fail
  go_ret
  exact ⟨rfl, HB104.out⟩
end Go.Proofs.YtcjbnifafofpbaaGreatDoor
