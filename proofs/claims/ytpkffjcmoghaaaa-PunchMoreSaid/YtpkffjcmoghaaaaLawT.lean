/- Walk of PunchMore. -/
import Derived.Test.YtpkffjcmoghaaaaLwB
namespace Go.Proofs.Ytpkffjcmoghaaaa
open Go.RowKit Go.Lib Go.Sort
theorem wpAppV {o : Oper} {a : Act} {W : World} {K : Act → World → Prop} {Q : Exit → Act → World → Prop} (s x : Operand) (ho : o.op = .call { callee := .builtin .append, args := #[s, x], argTypes := #[22, 22] }) (base : Nat) (v : Value) (n : Nat) (A B V : List P.Star) (m c : Nat) (ad : Addr) (hs : a.eval s = v)
    (hown : W.ownsRow base 59 3 v n (flatS A)) (hx : a.eval x = .slice (some ad) m c) (hl : B.length = m) (hnews : ∀ j u, (flatS B)[j]? = some u → W.cell? (ad.add j) = some u) (hn : n + m ≤ 2000000) (hbase : base ≤ W.heap.size) (hV : A ++ B = V) (hN : n + m = V.length)
    (h : ∀ a5 c5 w', w'.ownsRow base 59 3 (.slice a5 V.length c5) V.length (flatS V) → W.grownBy w' v.ownBlock → Stars w' a5 V → K (a.put o.dst (.slice a5 V.length c5)) w') : o.wp Try.prog a W K Q := by
  refine wpApp T22 s x ho base v n (flatS A) (flatS B) m c ad hs hown hx (by rw [flatS_length, hl]) hnews (flatS_one _) hn hbase ?_
  intro v' w' h2 h3 h4
  rw [← flatS_append, hV, hN] at h2
  obtain ⟨-, a5, c5, rfl, hs5, -⟩ := owns_stars h2
  exact h a5 c5 w' h2 h3 hs5
theorem more_nil {p L : Int} {S : List P.Star} (h : P.Valid p L S) (h0 : S.length = 0) : P.heavy S p L = 0 ∧ P.fitsB S p L = true := by
  have e := List.eq_nil_of_length_eq_zero h0
  subst e
  refine ⟨?_, P.fitsB_iff.2 ((P.fits_many [] L).mono (by have := h.p1; simp; omega))⟩
  obtain ⟨I, hI, hw⟩ := P.heavy_ex h
  cases I with
  | nil => exact hw.symm
  | cons x r => have := hI.inn x (by simp); simp at this
theorem Stars.part {w : World} {a : Option Addr} {S : List P.Star} {m : Nat} (h : Stars w a S) (hm : m ≤ S.length) : Stars w a (S.take m) := by
  intro i hi
  rw [List.length_take] at hi
  obtain ⟨b, off, e, c1, c2, c3⟩ := h i (by omega)
  have hs : P.star (S.take m) i = P.star S i := by simp [P.star, List.getElem?_take, show i < m by omega]
  exact ⟨b, off, e, by rw [hs]; exact ⟨c1, c2, c3⟩⟩
theorem more_tail {w : World} {sb so cap m : Nat} {S : List P.Star} (h : Stars w (some ⟨sb, so, none⟩) S) (hm : m < S.length) (hc : S.length ≤ cap) :
    ∃ (ad : Addr) (c10 : Nat), (∀ j u, (flatS (S.drop (m + 1)))[j]? = some u → w.cell? (ad.add j) = some u) ∧ (ad = ⟨sb, so + (m + 1) * 3, none⟩ ∧ c10 = cap - (m + 1) ∧ m + 1 < cap ∨ ad = ⟨sb, so, none⟩ ∧ c10 = 0 ∧ m + 1 = cap) := by
  by_cases hmc : m + 1 < cap
  · refine ⟨_, _, ?_, .inl ⟨rfl, rfl, hmc⟩⟩
    refine Stars.news (S := S.drop (m + 1)) ?_
    intro i hi
    rw [List.length_drop] at hi
    obtain ⟨b, off, e, c1, c2, c3⟩ := h (m + 1 + i) (by omega)
    cases e
    have hs : P.star (S.drop (m + 1)) i = P.star S (m + 1 + i) := by simp [P.star, List.getElem?_drop]
    refine ⟨sb, so + (m + 1) * 3, rfl, ?_⟩
    rw [hs, show so + (m + 1) * 3 + i * 3 = so + (m + 1 + i) * 3 by omega]
    exact ⟨c1, c2, c3⟩
  · refine ⟨_, _, ?_, .inr ⟨rfl, rfl, by omega⟩⟩
    intro j u hj
    rw [List.drop_of_length_le (by omega)] at hj
    simp [flatS] at hj

set_option maxRecDepth 20000 in
set_option maxHeartbeats 20000000 in
theorem more_bad (a : Option Addr) (cap : Nat) (p L : Int) (S : List P.Star) (n1 n2 : Int) (w : World) (_hc : S.length ≤ cap) (ha : Stars w a S) (h1 : (Lit.int .u8 n1).wf = true) (h2 : (Lit.int .u8 n2).wf = true) (Hc : Hid (¬ P.checkJob p L S = 0)) :
    Calls Try.prog 10 #[jobV p L a S.length cap, .int .u8 n1, .int .u8 n2] w fun e w' => e = .returned (.bool true) ∧ Below w.heap.size w w' := by
  have hn1 := u8_bd h1
  have hn2 := u8_bd h2
  clear h1 h2
  have HB0 := Lib.hid (Below.new w (.cells #[.int .i64 p, .int .i64 L, .slice a S.length cap] 24))
  have HC0 : Hid (Cells (w.alloc (.cells #[.int .i64 p, .int .i64 L, .slice a S.length cap] 24)) w.heap.size [.int .i64 p, .int .i64 L, .slice a S.length cap]) := Lib.hid (Cells.new w #[.int .i64 p, .int .i64 L, .slice a S.length cap] 24)
  have HSa := Lib.hid ha
  have HJ0 := Lib.hid (HC0.out.job (ha.alloc _))
  clear ha
  have HF := fine_any a cap p L S (w.alloc (.cells #[.int .i64 p, .int .i64 L, .slice a S.length cap] 24)) HJ0.out.st
  have hc := Hc.out
  rw [decide_eq_false hc] at HF
  have HF := Lib.hid HF
  clear hc
  have x1 := HJ0.out.x1
  have x2 := HJ0.out.x2
  have x3 := HJ0.out.x3
  go_enter Try.func10, Try.ntmps10
  go_wp2_with fail
  refine (HF.out).mono ?_
  rintro e w1 ⟨rfl, hb⟩
  have HC4 := Lib.hid (HC0.out.on hb)
  have HB5 := Lib.hid (HB0.out.trans (hb.mono HB0.out.size))
  have HJ6 := Lib.hid (HJ0.out.on hb)
  clear x1 x2 x3
  clear hb
  go_wp2_with fail
  refine (works_any _).mono ?_
  rintro e w2 ⟨rfl, hb⟩
  have HC7 := Lib.hid (HC4.out.on hb)
  have HB8 := Lib.hid (HB5.out.trans (hb.mono HB5.out.size))
  have HJ9 := Lib.hid (HJ6.out.on hb)
  clear hb
  go_wp2_with fail
  go_ret
  exact ⟨rfl, HB8.out⟩
set_option maxRecDepth 20000 in
set_option maxHeartbeats 20000000 in
theorem more_011 (a : Option Addr) (cap : Nat) (p L : Int) (S : List P.Star) (n1 n2 : Int) (w : World) (_hc : S.length ≤ cap) (ha : Stars w a S) (h1 : (Lit.int .u8 n1).wf = true) (h2 : (Lit.int .u8 n2).wf = true) (Hc : Hid (P.checkJob p L S = 0)) (H0 : Hid (S.length = 0)) :
    Calls Try.prog 10 #[jobV p L a S.length cap, .int .u8 n1, .int .u8 n2] w fun e w' => e = .returned (.bool true) ∧ Below w.heap.size w w' := by
  have hn1 := u8_bd h1
  have hn2 := u8_bd h2
  clear h1 h2
  have HB0 := Lib.hid (Below.new w (.cells #[.int .i64 p, .int .i64 L, .slice a S.length cap] 24))
  have HC0 : Hid (Cells (w.alloc (.cells #[.int .i64 p, .int .i64 L, .slice a S.length cap] 24)) w.heap.size [.int .i64 p, .int .i64 L, .slice a S.length cap]) := Lib.hid (Cells.new w #[.int .i64 p, .int .i64 L, .slice a S.length cap] 24)
  have HSa := Lib.hid ha
  have HJ0 := Lib.hid (HC0.out.job (ha.alloc _))
  clear ha
  have HF := fine_any a cap p L S (w.alloc (.cells #[.int .i64 p, .int .i64 L, .slice a S.length cap] 24)) HJ0.out.st
  have hc := Hc.out
  rw [decide_eq_true hc] at HF
  have HF := Lib.hid HF
  have HZ := Lib.hid hc
  have HV := Lib.hid (P.checkJob_iff.1 hc)
  have hl : S.length ≤ 1000000 := by have := HV.out.len; omega
  clear hc
  have hp1 := HV.out.p1
  have hp5 := HV.out.p5
  have hL1 := HV.out.l1
  have hL20 := HV.out.l20
  have k1 : IntKind.i64.wrap (p + 1) = p + 1 := IntWalk.i64_in _ (by omega)
  have q4 : n1.tmod 4 = n1 % 4 := tmod_pos hn1.1
  have k2 : IntKind.i64.wrap n1 = n1 := IntWalk.i64_in _ (by omega)
  have k5 : IntKind.i64.wrap (n1 % 4) = n1 % 4 := IntWalk.i64_in _ (by omega)
  have hr0 : 0 ≤ n1 % 4 := by omega
  have hr1 : n1 % 4 < 4 := by omega
  generalize n1 % 4 = r at *
  have k3 : IntKind.i64.wrap (L + r) = L + r := IntWalk.i64_in _ (by omega)
  obtain ⟨q, hq⟩ : ∃ q, min 5 (p + 1) = q := ⟨_, rfl⟩
  obtain ⟨M, hM⟩ : ∃ M, min 20 (L + r) = M := ⟨_, rfl⟩
  have hq1 : p ≤ q := by omega
  have hq5 : q ≤ 5 := by omega
  have hM1 : L ≤ M := by omega
  have hM20 : M ≤ 20 := by omega
  have HZq := Lib.hid (P.checkJob_iff.2 (HV.out.punches hq1 hq5))
  have HZM := Lib.hid (P.checkJob_iff.2 (HV.out.life hM1 hM20))
  have hFq : P.fitsB S p L = true → P.fitsB S q L = true := fun h => P.fitsB_iff.2 ((P.fitsB_iff.1 h).mono hq1)
  have hFM : P.fitsB S p M = P.fitsB S p L := by rw [Bool.eq_iff_iff, P.fitsB_iff, P.fitsB_iff, P.fits_life HV.out.ok hM1 (by omega)]
  have HHS := Lib.hid (heavyE_ok HZ.out)
  have HHq := Lib.hid (heavyE_ok HZq.out)
  have HHM : Hid (P.heavyE p M S = (P.heavy S p L, 0)) := Lib.hid (by rw [heavyE_ok HZM.out, P.heavy_life HV.out hM1 hM20])
  have hlq := P.heavy_punches HV.out hq1 hq5
  have hlb := P.heavy_bd HV.out
  have HWd : Hid (∀ i t, i < S.length → (P.star S i).2.1 ≤ t → t < L → P.checkJob p L (P.widen S i t) = 0 ∧ P.heavy S p L ≤ P.heavy (P.widen S i t) p L ∧ (P.fitsB S p L = true → P.fitsB (P.widen S i t) p L = true)) := Lib.hid (fun i t hi h1 h2 => ⟨P.checkJob_iff.2 (P.widen_valid HV.out hi h1 h2), P.heavy_widen HV.out hi h1 h2, fun h => P.fitsB_iff.2 (P.fits_widen hi h1 (P.fitsB_iff.1 h))⟩)
  have HLs : Hid (∀ i, i < S.length → P.checkJob p L (S.eraseIdx i) = 0 ∧ P.heavy (S.eraseIdx i) p L ≤ P.heavy S p L ∧ P.heavy S p L - (P.star S i).2.2 ≤ P.heavy (S.eraseIdx i) p L ∧ (P.fitsB S p L = true → P.fitsB (S.eraseIdx i) p L = true)) := Lib.hid (fun i hi => ⟨P.checkJob_iff.2 (P.erase_valid HV.out i), (P.heavy_less HV.out hi).1, (P.heavy_less HV.out hi).2, fun h => P.fitsB_iff.2 (P.fits_erase i (P.fitsB_iff.1 h))⟩)
  have hE : S.length = 0 → P.heavy S p L = 0 ∧ P.fitsB S p L = true := fun h => more_nil HV.out h
  generalize P.heavy S p L = Hn at *
  generalize P.heavy S q L = Hm at *
  have hd1 : decide (Hm < Hn) = false := decide_eq_false (by omega)
  have x1 := HJ0.out.x1
  have x2 := HJ0.out.x2
  have x3 := HJ0.out.x3
  go_enter Try.func10, Try.ntmps10
  go_wp2_with fail
  refine (HF.out).mono ?_
  rintro e w1 ⟨rfl, hb⟩
  have HC4 := Lib.hid (HC0.out.on hb)
  have HB5 := Lib.hid (HB0.out.trans (hb.mono HB0.out.size))
  have HJ6 := Lib.hid (HJ0.out.on hb)
  clear x1 x2 x3
  clear hb
  have x7 := HJ6.out.x1
  have x8 := HJ6.out.x2
  have x9 := HJ6.out.x3
  go_wp2_with fail
  clear x7 x8 x9
  have hj0 := HC4.out.lt
  have hjb := HB5.out.size
  refine wp_two_boxes (by kernel_rfl) HJ6.out rfl (by show 33 < 249; decide) (by kernel_rfl) ?_
  rintro w2 g7 g8 hg7 hg8 hg hC7 hC8 hb
  have HC10 := Lib.hid (HC4.out.on hb)
  have HB11 := Lib.hid (HB5.out.trans (hb.mono HB5.out.size))
  have HJ12 := Lib.hid (HJ6.out.on hb)
  have HB3 : Hid (Below w.heap.size w ((w2.setCell ⟨g7, 0, none⟩ (.int .i64 q)).setCell ⟨g8, 1, none⟩ (.int .i64 M))) := Lib.hid ((HB11.out.setCell (p := ⟨g7, 0, none⟩) (by show w.heap.size ≤ g7; omega) _).setCell (p := ⟨g8, 1, none⟩) (by show w.heap.size ≤ g8; omega) _)
  have HC3 : Hid (Cells ((w2.setCell ⟨g7, 0, none⟩ (.int .i64 q)).setCell ⟨g8, 1, none⟩ (.int .i64 M)) w.heap.size [.int .i64 p, .int .i64 L, .slice a S.length cap]) := Lib.hid ((HC10.out.setOther (c := g7) 0 (.int .i64 q) (by omega)).setOther (c := g8) 1 (.int .i64 M) (by omega))
  have HX3 : Hid (Cells ((w2.setCell ⟨g7, 0, none⟩ (.int .i64 q)).setCell ⟨g8, 1, none⟩ (.int .i64 M)) g7 [.int .i64 q, .int .i64 L, .slice a S.length cap]) := Lib.hid ((hC7.set 0 (.int .i64 q) (by simp [jobL])).setOther (c := g8) 1 (.int .i64 M) (by omega))
  have HY3 : Hid (Cells ((w2.setCell ⟨g7, 0, none⟩ (.int .i64 q)).setCell ⟨g8, 1, none⟩ (.int .i64 M)) g8 [.int .i64 p, .int .i64 M, .slice a S.length cap]) := Lib.hid ((hC8.setOther (c := g7) 0 (.int .i64 q) (by omega)).set 1 (.int .i64 M) (by simp [jobL]))
  have HS3 := HSa.out.below HB3.out
  have HJ3 := Lib.hid (HC3.out.job HS3)
  have HK3 := Lib.hid (HX3.out.job HS3)
  have HL3 := Lib.hid (HY3.out.job HS3)
  have z7 := hC7.cel 0 _ rfl
  have v7 := hC7.fr 0
  have z8 := hC8.cel 1 _ rfl
  have v8 := hC8.fr 1
  clear hC7 hC8 hb HS3 HX3 HY3
  simp only [Act.put, List.setIfInBounds_toArray, List.set_cons_zero, List.set_cons_succ, ptrV]
  go_simp
  have x13 := HJ12.out.x1
  have x14 := HJ12.out.x2
  have x15 := HJ12.out.x3
  have hS0 := H0.out
  clear H0
  have hz : ((S.length : Int) == 0) = true := by simp [hS0]
  obtain ⟨rfl, hFt⟩ := hE hS0
  clear hS0 hE
  have hf := hFt
  have HFS := Lib.hid hf
  have HFM : Hid (P.fitsB S p M = true) := Lib.hid (hFM.trans hf)
  have hf2 := hFq hf
  have HFq := Lib.hid hf2
  clear hf hf2 hFq hFM hFt
  have hC := planned_any a cap p L S ((w2.setCell ⟨g7, 0, none⟩ (.int .i64 q)).setCell ⟨g8, 1, none⟩ (.int .i64 M)) HZ.out HJ3.out.st
  rw [HFS.out] at hC
  have HC := Lib.hid hC
  clear hC
  have x16 := HJ3.out.x1
  have x17 := HJ3.out.x2
  have x18 := HJ3.out.x3
  go_wp2_with fail
  refine HC.out.mono ?_
  rintro e w3 ⟨rfl, hb⟩
  have HC19 := Lib.hid (HC3.out.on hb)
  have HB20 := Lib.hid (HB3.out.trans (hb.mono HB3.out.size))
  have HJ21 := Lib.hid (HJ3.out.on hb)
  have HK22 := Lib.hid (HK3.out.on hb)
  have HL23 := Lib.hid (HL3.out.on hb)
  clear x16 x17 x18
  clear hb HC
  clear z7 v7 z8 v8 x13 x14 x15
  have hC := planned_any a cap q L S w3 HZq.out HK22.out.st
  rw [HFq.out] at hC
  have HC := Lib.hid hC
  clear hC
  have x24 := HK22.out.x1
  have x25 := HK22.out.x2
  have x26 := HK22.out.x3
  go_wp2_with fail
  refine HC.out.mono ?_
  rintro e w4 ⟨rfl, hb⟩
  have HC27 := Lib.hid (HC19.out.on hb)
  have HB28 := Lib.hid (HB20.out.trans (hb.mono HB20.out.size))
  have HJ29 := Lib.hid (HJ21.out.on hb)
  have HK30 := Lib.hid (HK22.out.on hb)
  have HL31 := Lib.hid (HL23.out.on hb)
  clear x24 x25 x26
  clear hb HC
  have hC := planned_any a cap p M S w4 HZM.out HL31.out.st
  rw [HFM.out] at hC
  have HC := Lib.hid hC
  clear hC
  have x32 := HL31.out.x1
  have x33 := HL31.out.x2
  have x34 := HL31.out.x3
  go_wp2_with fail
  refine HC.out.mono ?_
  rintro e w5 ⟨rfl, hb⟩
  have HC35 := Lib.hid (HC27.out.on hb)
  have HB36 := Lib.hid (HB28.out.trans (hb.mono HB28.out.size))
  have HJ37 := Lib.hid (HJ29.out.on hb)
  have HK38 := Lib.hid (HK30.out.on hb)
  have HL39 := Lib.hid (HL31.out.on hb)
  clear x32 x33 x34
  clear hb HC
  have hC := heaviest_any a cap p L S w5 hl HJ37.out.st
  rw [HHS.out] at hC
  have HC := Lib.hid hC
  clear hC
  have x40 := HJ37.out.x1
  have x41 := HJ37.out.x2
  have x42 := HJ37.out.x3
  go_wp2_with fail
  refine HC.out.mono ?_
  rintro e w6 ⟨rfl, hb⟩
  have HC43 := Lib.hid (HC35.out.on hb)
  have HB44 := Lib.hid (HB36.out.trans (hb.mono HB36.out.size))
  have HJ45 := Lib.hid (HJ37.out.on hb)
  have HK46 := Lib.hid (HK38.out.on hb)
  have HL47 := Lib.hid (HL39.out.on hb)
  clear x40 x41 x42
  clear hb HC
  have hC := heaviest_any a cap q L S w6 hl HK46.out.st
  rw [HHq.out] at hC
  have HC := Lib.hid hC
  clear hC
  have x48 := HK46.out.x1
  have x49 := HK46.out.x2
  have x50 := HK46.out.x3
  go_wp2_with fail
  refine HC.out.mono ?_
  rintro e w7 ⟨rfl, hb⟩
  have HC51 := Lib.hid (HC43.out.on hb)
  have HB52 := Lib.hid (HB44.out.trans (hb.mono HB44.out.size))
  have HJ53 := Lib.hid (HJ45.out.on hb)
  have HK54 := Lib.hid (HK46.out.on hb)
  have HL55 := Lib.hid (HL47.out.on hb)
  clear x48 x49 x50
  clear hb HC
  have hC := heaviest_any a cap p M S w7 hl HL55.out.st
  rw [HHM.out] at hC
  have HC := Lib.hid hC
  clear hC
  have x56 := HL55.out.x1
  have x57 := HL55.out.x2
  have x58 := HL55.out.x3
  go_wp2_with fail
  refine HC.out.mono ?_
  rintro e w8 ⟨rfl, hb⟩
  have HC59 := Lib.hid (HC51.out.on hb)
  have HB60 := Lib.hid (HB52.out.trans (hb.mono HB52.out.size))
  have HJ61 := Lib.hid (HJ53.out.on hb)
  have HK62 := Lib.hid (HK54.out.on hb)
  have HL63 := Lib.hid (HL55.out.on hb)
  clear x56 x57 x58
  clear hb HC
  have x64 := HJ61.out.x1
  have x65 := HJ61.out.x2
  have x66 := HJ61.out.x3
  go_wp2_with fail
  refine (works_any _).mono ?_
  rintro e w9 ⟨rfl, hb⟩
  have HC67 := Lib.hid (HC59.out.on hb)
  have HB68 := Lib.hid (HB60.out.trans (hb.mono HB60.out.size))
  have HJ69 := Lib.hid (HJ61.out.on hb)
  clear hb
  clear x64 x65 x66
  go_wp2_with fail
  go_ret
  exact ⟨rfl, HB68.out⟩
set_option maxRecDepth 20000 in
set_option maxHeartbeats 20000000 in
theorem more_100 (a : Option Addr) (cap : Nat) (p L : Int) (S : List P.Star) (n1 n2 : Int) (w : World) (_hc : S.length ≤ cap) (ha : Stars w a S) (h1 : (Lit.int .u8 n1).wf = true) (h2 : (Lit.int .u8 n2).wf = true) (Hc : Hid (P.checkJob p L S = 0)) (H0 : Hid (¬ S.length = 0)) (Hf : Hid (P.fitsB S p L = false)) (Hf2 : Hid (P.fitsB S (min 5 (p + 1)) L = false)) :
    Calls Try.prog 10 #[jobV p L a S.length cap, .int .u8 n1, .int .u8 n2] w fun e w' => e = .returned (.bool true) ∧ Below w.heap.size w w' := by
  have hn1 := u8_bd h1
  have hn2 := u8_bd h2
  clear h1 h2
  have HB0 := Lib.hid (Below.new w (.cells #[.int .i64 p, .int .i64 L, .slice a S.length cap] 24))
  have HC0 : Hid (Cells (w.alloc (.cells #[.int .i64 p, .int .i64 L, .slice a S.length cap] 24)) w.heap.size [.int .i64 p, .int .i64 L, .slice a S.length cap]) := Lib.hid (Cells.new w #[.int .i64 p, .int .i64 L, .slice a S.length cap] 24)
  have HSa := Lib.hid ha
  have HJ0 := Lib.hid (HC0.out.job (ha.alloc _))
  clear ha
  have HF := fine_any a cap p L S (w.alloc (.cells #[.int .i64 p, .int .i64 L, .slice a S.length cap] 24)) HJ0.out.st
  have hc := Hc.out
  rw [decide_eq_true hc] at HF
  have HF := Lib.hid HF
  have HZ := Lib.hid hc
  have HV := Lib.hid (P.checkJob_iff.1 hc)
  have hl : S.length ≤ 1000000 := by have := HV.out.len; omega
  clear hc
  have hp1 := HV.out.p1
  have hp5 := HV.out.p5
  have hL1 := HV.out.l1
  have hL20 := HV.out.l20
  have k1 : IntKind.i64.wrap (p + 1) = p + 1 := IntWalk.i64_in _ (by omega)
  have q4 : n1.tmod 4 = n1 % 4 := tmod_pos hn1.1
  have k2 : IntKind.i64.wrap n1 = n1 := IntWalk.i64_in _ (by omega)
  have k5 : IntKind.i64.wrap (n1 % 4) = n1 % 4 := IntWalk.i64_in _ (by omega)
  have hr0 : 0 ≤ n1 % 4 := by omega
  have hr1 : n1 % 4 < 4 := by omega
  generalize n1 % 4 = r at *
  have k3 : IntKind.i64.wrap (L + r) = L + r := IntWalk.i64_in _ (by omega)
  obtain ⟨q, hq⟩ : ∃ q, min 5 (p + 1) = q := ⟨_, rfl⟩
  obtain ⟨M, hM⟩ : ∃ M, min 20 (L + r) = M := ⟨_, rfl⟩
  have hq1 : p ≤ q := by omega
  have hq5 : q ≤ 5 := by omega
  have hM1 : L ≤ M := by omega
  have hM20 : M ≤ 20 := by omega
  have HZq := Lib.hid (P.checkJob_iff.2 (HV.out.punches hq1 hq5))
  have HZM := Lib.hid (P.checkJob_iff.2 (HV.out.life hM1 hM20))
  have hFq : P.fitsB S p L = true → P.fitsB S q L = true := fun h => P.fitsB_iff.2 ((P.fitsB_iff.1 h).mono hq1)
  have hFM : P.fitsB S p M = P.fitsB S p L := by rw [Bool.eq_iff_iff, P.fitsB_iff, P.fitsB_iff, P.fits_life HV.out.ok hM1 (by omega)]
  have HHS := Lib.hid (heavyE_ok HZ.out)
  have HHq := Lib.hid (heavyE_ok HZq.out)
  have HHM : Hid (P.heavyE p M S = (P.heavy S p L, 0)) := Lib.hid (by rw [heavyE_ok HZM.out, P.heavy_life HV.out hM1 hM20])
  have hlq := P.heavy_punches HV.out hq1 hq5
  have hlb := P.heavy_bd HV.out
  have HWd : Hid (∀ i t, i < S.length → (P.star S i).2.1 ≤ t → t < L → P.checkJob p L (P.widen S i t) = 0 ∧ P.heavy S p L ≤ P.heavy (P.widen S i t) p L ∧ (P.fitsB S p L = true → P.fitsB (P.widen S i t) p L = true)) := Lib.hid (fun i t hi h1 h2 => ⟨P.checkJob_iff.2 (P.widen_valid HV.out hi h1 h2), P.heavy_widen HV.out hi h1 h2, fun h => P.fitsB_iff.2 (P.fits_widen hi h1 (P.fitsB_iff.1 h))⟩)
  have HLs : Hid (∀ i, i < S.length → P.checkJob p L (S.eraseIdx i) = 0 ∧ P.heavy (S.eraseIdx i) p L ≤ P.heavy S p L ∧ P.heavy S p L - (P.star S i).2.2 ≤ P.heavy (S.eraseIdx i) p L ∧ (P.fitsB S p L = true → P.fitsB (S.eraseIdx i) p L = true)) := Lib.hid (fun i hi => ⟨P.checkJob_iff.2 (P.erase_valid HV.out i), (P.heavy_less HV.out hi).1, (P.heavy_less HV.out hi).2, fun h => P.fitsB_iff.2 (P.fits_erase i (P.fitsB_iff.1 h))⟩)
  have hE : S.length = 0 → P.heavy S p L = 0 ∧ P.fitsB S p L = true := fun h => more_nil HV.out h
  generalize P.heavy S p L = Hn at *
  generalize P.heavy S q L = Hm at *
  have hd1 : decide (Hm < Hn) = false := decide_eq_false (by omega)
  have x1 := HJ0.out.x1
  have x2 := HJ0.out.x2
  have x3 := HJ0.out.x3
  go_enter Try.func10, Try.ntmps10
  go_wp2_with fail
  refine (HF.out).mono ?_
  rintro e w1 ⟨rfl, hb⟩
  have HC4 := Lib.hid (HC0.out.on hb)
  have HB5 := Lib.hid (HB0.out.trans (hb.mono HB0.out.size))
  have HJ6 := Lib.hid (HJ0.out.on hb)
  clear x1 x2 x3
  clear hb
  have x7 := HJ6.out.x1
  have x8 := HJ6.out.x2
  have x9 := HJ6.out.x3
  go_wp2_with fail
  clear x7 x8 x9
  have hj0 := HC4.out.lt
  have hjb := HB5.out.size
  refine wp_two_boxes (by kernel_rfl) HJ6.out rfl (by show 33 < 249; decide) (by kernel_rfl) ?_
  rintro w2 g7 g8 hg7 hg8 hg hC7 hC8 hb
  have HC10 := Lib.hid (HC4.out.on hb)
  have HB11 := Lib.hid (HB5.out.trans (hb.mono HB5.out.size))
  have HJ12 := Lib.hid (HJ6.out.on hb)
  have HB3 : Hid (Below w.heap.size w ((w2.setCell ⟨g7, 0, none⟩ (.int .i64 q)).setCell ⟨g8, 1, none⟩ (.int .i64 M))) := Lib.hid ((HB11.out.setCell (p := ⟨g7, 0, none⟩) (by show w.heap.size ≤ g7; omega) _).setCell (p := ⟨g8, 1, none⟩) (by show w.heap.size ≤ g8; omega) _)
  have HC3 : Hid (Cells ((w2.setCell ⟨g7, 0, none⟩ (.int .i64 q)).setCell ⟨g8, 1, none⟩ (.int .i64 M)) w.heap.size [.int .i64 p, .int .i64 L, .slice a S.length cap]) := Lib.hid ((HC10.out.setOther (c := g7) 0 (.int .i64 q) (by omega)).setOther (c := g8) 1 (.int .i64 M) (by omega))
  have HX3 : Hid (Cells ((w2.setCell ⟨g7, 0, none⟩ (.int .i64 q)).setCell ⟨g8, 1, none⟩ (.int .i64 M)) g7 [.int .i64 q, .int .i64 L, .slice a S.length cap]) := Lib.hid ((hC7.set 0 (.int .i64 q) (by simp [jobL])).setOther (c := g8) 1 (.int .i64 M) (by omega))
  have HY3 : Hid (Cells ((w2.setCell ⟨g7, 0, none⟩ (.int .i64 q)).setCell ⟨g8, 1, none⟩ (.int .i64 M)) g8 [.int .i64 p, .int .i64 M, .slice a S.length cap]) := Lib.hid ((hC8.setOther (c := g7) 0 (.int .i64 q) (by omega)).set 1 (.int .i64 M) (by simp [jobL]))
  have HS3 := HSa.out.below HB3.out
  have HJ3 := Lib.hid (HC3.out.job HS3)
  have HK3 := Lib.hid (HX3.out.job HS3)
  have HL3 := Lib.hid (HY3.out.job HS3)
  have z7 := hC7.cel 0 _ rfl
  have v7 := hC7.fr 0
  have z8 := hC8.cel 1 _ rfl
  have v8 := hC8.fr 1
  clear hC7 hC8 hb HS3 HX3 HY3
  simp only [Act.put, List.setIfInBounds_toArray, List.set_cons_zero, List.set_cons_succ, ptrV]
  go_simp
  have x13 := HJ12.out.x1
  have x14 := HJ12.out.x2
  have x15 := HJ12.out.x3
  have hS0 := H0.out
  clear H0
  have hz : ((S.length : Int) == 0) = false := beq_eq_false_iff_ne.2 (by omega)
  clear hE
  have hf := Hf.out
  clear Hf
  have HFS := Lib.hid hf
  have HFM : Hid (P.fitsB S p M = false) := Lib.hid (hFM.trans hf)
  have hf2 : P.fitsB S q L = false := by rw [← hq]; exact Hf2.out
  clear Hf2
  have HFq := Lib.hid hf2
  clear hf hf2 hFq hFM
  have hC := planned_any a cap p L S ((w2.setCell ⟨g7, 0, none⟩ (.int .i64 q)).setCell ⟨g8, 1, none⟩ (.int .i64 M)) HZ.out HJ3.out.st
  rw [HFS.out] at hC
  have HC := Lib.hid hC
  clear hC
  have x16 := HJ3.out.x1
  have x17 := HJ3.out.x2
  have x18 := HJ3.out.x3
  go_wp2_with fail
  refine HC.out.mono ?_
  rintro e w3 ⟨rfl, hb⟩
  have HC19 := Lib.hid (HC3.out.on hb)
  have HB20 := Lib.hid (HB3.out.trans (hb.mono HB3.out.size))
  have HJ21 := Lib.hid (HJ3.out.on hb)
  have HK22 := Lib.hid (HK3.out.on hb)
  have HL23 := Lib.hid (HL3.out.on hb)
  clear x16 x17 x18
  clear hb HC
  clear z7 v7 z8 v8 x13 x14 x15
  have hC := planned_any a cap q L S w3 HZq.out HK22.out.st
  rw [HFq.out] at hC
  have HC := Lib.hid hC
  clear hC
  have x24 := HK22.out.x1
  have x25 := HK22.out.x2
  have x26 := HK22.out.x3
  go_wp2_with fail
  refine HC.out.mono ?_
  rintro e w4 ⟨rfl, hb⟩
  have HC27 := Lib.hid (HC19.out.on hb)
  have HB28 := Lib.hid (HB20.out.trans (hb.mono HB20.out.size))
  have HJ29 := Lib.hid (HJ21.out.on hb)
  have HK30 := Lib.hid (HK22.out.on hb)
  have HL31 := Lib.hid (HL23.out.on hb)
  clear x24 x25 x26
  clear hb HC
  have hC := planned_any a cap p M S w4 HZM.out HL31.out.st
  rw [HFM.out] at hC
  have HC := Lib.hid hC
  clear hC
  have x32 := HL31.out.x1
  have x33 := HL31.out.x2
  have x34 := HL31.out.x3
  go_wp2_with fail
  refine HC.out.mono ?_
  rintro e w5 ⟨rfl, hb⟩
  have HC35 := Lib.hid (HC27.out.on hb)
  have HB36 := Lib.hid (HB28.out.trans (hb.mono HB28.out.size))
  have HJ37 := Lib.hid (HJ29.out.on hb)
  have HK38 := Lib.hid (HK30.out.on hb)
  have HL39 := Lib.hid (HL31.out.on hb)
  clear x32 x33 x34
  clear hb HC
  have hC := heaviest_any a cap p L S w5 hl HJ37.out.st
  rw [HHS.out] at hC
  have HC := Lib.hid hC
  clear hC
  have x40 := HJ37.out.x1
  have x41 := HJ37.out.x2
  have x42 := HJ37.out.x3
  go_wp2_with fail
  refine HC.out.mono ?_
  rintro e w6 ⟨rfl, hb⟩
  have HC43 := Lib.hid (HC35.out.on hb)
  have HB44 := Lib.hid (HB36.out.trans (hb.mono HB36.out.size))
  have HJ45 := Lib.hid (HJ37.out.on hb)
  have HK46 := Lib.hid (HK38.out.on hb)
  have HL47 := Lib.hid (HL39.out.on hb)
  clear x40 x41 x42
  clear hb HC
  have hC := heaviest_any a cap q L S w6 hl HK46.out.st
  rw [HHq.out] at hC
  have HC := Lib.hid hC
  clear hC
  have x48 := HK46.out.x1
  have x49 := HK46.out.x2
  have x50 := HK46.out.x3
  go_wp2_with fail
  refine HC.out.mono ?_
  rintro e w7 ⟨rfl, hb⟩
  have HC51 := Lib.hid (HC43.out.on hb)
  have HB52 := Lib.hid (HB44.out.trans (hb.mono HB44.out.size))
  have HJ53 := Lib.hid (HJ45.out.on hb)
  have HK54 := Lib.hid (HK46.out.on hb)
  have HL55 := Lib.hid (HL47.out.on hb)
  clear x48 x49 x50
  clear hb HC
  have hC := heaviest_any a cap p M S w7 hl HL55.out.st
  rw [HHM.out] at hC
  have HC := Lib.hid hC
  clear hC
  have x56 := HL55.out.x1
  have x57 := HL55.out.x2
  have x58 := HL55.out.x3
  go_wp2_with fail
  refine HC.out.mono ?_
  rintro e w8 ⟨rfl, hb⟩
  have HC59 := Lib.hid (HC51.out.on hb)
  have HB60 := Lib.hid (HB52.out.trans (hb.mono HB52.out.size))
  have HJ61 := Lib.hid (HJ53.out.on hb)
  have HK62 := Lib.hid (HK54.out.on hb)
  have HL63 := Lib.hid (HL55.out.on hb)
  clear x56 x57 x58
  clear hb HC
  obtain ⟨sb, so, hae, -⟩ := HSa.out 0 (by omega)
  subst hae
  have hi0 := Int.emod_nonneg n2 (b := (S.length : Int)) (by omega)
  have hi1 := Int.emod_lt_of_pos n2 (b := (S.length : Int)) (by omega)
  have q1 : n2.tmod (S.length : Int) = n2 % (S.length : Int) := tmod_pos hn2.1
  have e1 : ¬ (S.length : Int) = 0 := by omega
  generalize n2 % (S.length : Int) = t at *
  obtain ⟨m, rfl⟩ := Int.eq_ofNat_of_zero_le hi0
  have hmS : m < S.length := by omega
  have k0 : IntKind.i64.wrap n2 = n2 := IntWalk.i64_in _ (by omega)
  have k6 : IntKind.i64.wrap (m : Int) = (m : Int) := IntWalk.i64_in _ (by omega)
  clear hi0 hi1
  have x64 := HJ61.out.x1
  have x65 := HJ61.out.x2
  have x66 := HJ61.out.x3
  go_wp2_with fail
  clear x64 x65 x66
  have hw8 := HC59.out.lt
  refine (refAt_own (some ⟨sb, so, none⟩) cap p L S m 0 w8 hmS hl HJ61.out.st).mono ?_
  rintro e w9 ⟨g, cap2, rfl, hs, hcap2, hgw, hfr, hb⟩
  have HC67 := Lib.hid (HC59.out.on hb)
  have HB68 := Lib.hid (HB60.out.trans (hb.mono HB60.out.size))
  have HJ69 := Lib.hid (HJ61.out.on hb)
  have HT := Lib.hid hs
  clear hb
  go_wp2_with fail
  have hgl : g < w9.heap.size := hs.lt (by rw [P.atW_length]; omega) g 0 rfl
  have hbx := Below.new w9 (.cells #[.int .i64 p, .int .i64 L, .slice (some ⟨g, 0, none⟩) S.length cap2] 24)
  have hFr : ∀ o, (w9.alloc (.cells #[.int .i64 p, .int .i64 L, .slice (some ⟨g, 0, none⟩) S.length cap2] 24)).frozen? ⟨g, o, none⟩ = false := fun o => (hbx.frozen (p := ⟨g, o, none⟩) hgl).trans (hfr o)
  have hX := Cells.new w9 #[.int .i64 p, .int .i64 L, .slice (some ⟨g, 0, none⟩) S.length cap2] 24
  have hwg := HB68.out.size
  have hjb := HC67.out.lt
  obtain ⟨bx, hbxe⟩ : ∃ bx, w9.heap.size = bx := ⟨_, rfl⟩
  have hgb : g < bx := by omega
  have hbw : w.heap.size ≤ bx := by omega
  have HC70 := Lib.hid (HC67.out.on hbx)
  have HB71 := Lib.hid (HB68.out.trans (hbx.mono HB68.out.size))
  have HJ72 := Lib.hid (HJ69.out.on hbx)
  have HT73 := Lib.hid (HT.out.below hbx)
  generalize w9.alloc (.cells #[.int .i64 p, .int .i64 L, .slice (some ⟨g, 0, none⟩) S.length cap2] 24) = W4 at *
  clear hs hfr hbx
  rw [hbxe] at *
  clear hbxe
  obtain ⟨b', off', e', s1, s2, s3⟩ := HJ72.out.st m hmS
  cases e'
  obtain ⟨b2, o2, e2, u1, u2, u3⟩ := HT73.out m (by rw [P.atW_length]; exact hmS)
  cases e2
  simp only [Nat.zero_add] at u1 u2 u3
  have HX10 := Lib.hid hX
  have HFr0 := Lib.hid hFr
  have hmI : (m : Int) < (S.length : Int) := by omega
  have hm0 : (0 : Int) ≤ (m : Int) := by omega
  have hw4 := HT73.out.lt (by rw [P.atW_length]; omega) g 0 rfl
  clear hX hFr
  refine wp_region_growrow 8 [140, 141, 142, 143, 144, 145, 146, 147] [KEq (.pointer (some ⟨bx, 2, none⟩)), KEq (.slice (some ⟨g, 0, none⟩) S.length cap2), KEq (.int .i64 (m : Int)), KEq (.pointer (some ⟨w.heap.size, 2, none⟩)), KEq (.slice (some ⟨sb, so, none⟩) S.length cap), KEq (.int .i64 (m : Int)), KEq (.pointer (some ⟨sb, so + m * 3, none⟩)), KEq (.agg #[.int .i64 (P.star S m).1, .int .i64 (P.star S m).2.1, .int .i64 (P.star S m).2.2])] (by kernel_rfl) (by kernel_rfl) (by kernel_rfl) (by kernel_rfl) (by kernel_rfl) rfl ⟨KEq.st (.pointer (some ⟨bx, 2, none⟩)), KEq.st (.slice (some ⟨g, 0, none⟩) S.length cap2), KEq.st (.int .i64 (m : Int)), KEq.st (.pointer (some ⟨w.heap.size, 2, none⟩)), KEq.st (.slice (some ⟨sb, so, none⟩) S.length cap), KEq.st (.int .i64 (m : Int)), KEq.st (.pointer (some ⟨sb, so + m * 3, none⟩)), KEq.st (.agg #[.int .i64 (P.star S m).1, .int .i64 (P.star S m).2.1, .int .i64 (P.star S m).2.2]), trivial⟩ ⟨step_out (q := 22) (by decide) rfl rfl (fun a' w' e hb => by simp [execOp, go_sem, e]), step_by1 (j := 0) (q := 140) rfl (by decide +kernel) rfl rfl (fun a' w' e hb => by have x := cell_on hb (HX10.out.cel 2 _ rfl); simp [execOp, go_sem, e, x]), step_moveOut (q := 21) (by decide) rfl rfl, step_out (q := 3) (by decide) rfl rfl (fun a' w' e hb => by simp [execOp, go_sem, e]), step_by1 (j := 3) (q := 143) rfl (by decide +kernel) rfl rfl (fun a' w' e hb => by have x := cell_on hb HJ72.out.x3; simp [execOp, go_sem, e, x]), step_moveOut (q := 21) (by decide) rfl rfl, step_by2 (j1 := 4) (j2 := 5) (q1 := 144) (q2 := 145) rfl (by decide +kernel) rfl rfl (by decide +kernel) rfl rfl (fun a' w' e1 e2 hb => by simp [execOp, go_sem, e1, e2, hmI, hm0]), step_by1 (j := 6) (q := 146) rfl (by decide +kernel) rfl rfl (fun a' w' e hb => by have y1 := cell_on hb s1; have y2 := cell_on hb s2; have y3 := cell_on hb s3; simp [execOp, go_sem, e, y1, y2, y3]), trivial⟩ ?_
  rintro w5 hb _ rfl _ rfl _ rfl _ rfl _ rfl _ rfl _ rfl _ rfl
  have HFr5 : Hid (∀ o, w5.frozen? ⟨g, o, none⟩ = false) := Lib.hid (fun o => (hb.frozen (p := ⟨g, o, none⟩) hw4).trans (HFr0.out o))
  have HC74 := Lib.hid (HC70.out.on hb)
  have HB75 := Lib.hid (HB71.out.trans (hb.mono HB71.out.size))
  have HJ76 := Lib.hid (HJ72.out.on hb)
  have HT77 := Lib.hid (HT73.out.below hb)
  have HX78 := Lib.hid (HX10.out.on hb)
  have u1 := cell_on hb u1
  have u2 := cell_on hb u2
  have u3 := cell_on hb u3
  have f1 := HFr5.out (m * 3)
  have f2 := HFr5.out (m * 3 + 1)
  have f3 := HFr5.out (m * 3 + 2)
  have U1 := Lib.hid u1
  have U2 := Lib.hid u2
  have U3 := Lib.hid u3
  clear hb s1 s2 s3
  simp only [EndsG, Act.put, List.setIfInBounds_toArray, List.set_cons_zero, List.set_cons_succ, List.drop, RowWp]
  go_simp
  clear f1 f2 f3 u1 u2 u3
  have HB6 : Hid (Below w.heap.size w (((w5.setCell ⟨g, m * 3, none⟩ (.int .i64 (P.star S m).1)).setCell ⟨g, m * 3 + 1, none⟩ (.int .i64 (P.star S m).2.1)).setCell ⟨g, m * 3 + 2, none⟩ (.int .i64 (P.star S m).2.2))) := Lib.hid (((HB75.out.setCell (p := ⟨g, m * 3, none⟩) (by show w.heap.size ≤ g; omega) _).setCell (p := ⟨g, m * 3 + 1, none⟩) (by show w.heap.size ≤ g; omega) _).setCell (p := ⟨g, m * 3 + 2, none⟩) (by show w.heap.size ≤ g; omega) _)
  have HC6 : Hid (Cells (((w5.setCell ⟨g, m * 3, none⟩ (.int .i64 (P.star S m).1)).setCell ⟨g, m * 3 + 1, none⟩ (.int .i64 (P.star S m).2.1)).setCell ⟨g, m * 3 + 2, none⟩ (.int .i64 (P.star S m).2.2)) w.heap.size [.int .i64 p, .int .i64 L, .slice (some ⟨sb, so, none⟩) S.length cap]) := Lib.hid (((HC74.out.setOther (c := g) (m * 3) (.int .i64 (P.star S m).1) (by omega)).setOther (c := g) (m * 3 + 1) (.int .i64 (P.star S m).2.1) (by omega)).setOther (c := g) (m * 3 + 2) (.int .i64 (P.star S m).2.2) (by omega))
  have HX6 : Hid (Cells (((w5.setCell ⟨g, m * 3, none⟩ (.int .i64 (P.star S m).1)).setCell ⟨g, m * 3 + 1, none⟩ (.int .i64 (P.star S m).2.1)).setCell ⟨g, m * 3 + 2, none⟩ (.int .i64 (P.star S m).2.2)) bx [.int .i64 p, .int .i64 L, .slice (some ⟨g, 0, none⟩) S.length cap2]) := Lib.hid (((HX78.out.setOther (c := g) (m * 3) (.int .i64 (P.star S m).1) (by omega)).setOther (c := g) (m * 3 + 1) (.int .i64 (P.star S m).2.1) (by omega)).setOther (c := g) (m * 3 + 2) (.int .i64 (P.star S m).2.2) (by omega))
  have HFr6 : Hid (∀ o, (((w5.setCell ⟨g, m * 3, none⟩ (.int .i64 (P.star S m).1)).setCell ⟨g, m * 3 + 1, none⟩ (.int .i64 (P.star S m).2.1)).setCell ⟨g, m * 3 + 2, none⟩ (.int .i64 (P.star S m).2.2)).frozen? ⟨g, o, none⟩ = false) := Lib.hid (fun o => (((World.frozen?_setCell _ _ _ _).trans (World.frozen?_setCell _ _ _ _)).trans (World.frozen?_setCell _ _ _ _)).trans (HFr5.out o))
  have hT6 := HT77.out.putStar (w' := (((w5.setCell ⟨g, m * 3, none⟩ (.int .i64 (P.star S m).1)).setCell ⟨g, m * 3 + 1, none⟩ (.int .i64 (P.star S m).2.1)).setCell ⟨g, m * 3 + 2, none⟩ (.int .i64 (P.star S m).2.2))) (i := m) (s := P.star S m) (by rw [P.atW_length]; exact hmS) ((World.cell?_setCell_other _ _ _ _ (fun e => by have e := congrArg Addr.off e; simp only at e; omega)).trans ((World.cell?_setCell_other _ _ _ _ (fun e => by have e := congrArg Addr.off e; simp only at e; omega)).trans (World.cell?_setCell_same _ _ _ U1.out))) ((World.cell?_setCell_other _ _ _ _ (fun e => by have e := congrArg Addr.off e; simp only at e; omega)).trans (World.cell?_setCell_same _ _ _ ((World.cell?_setCell_other _ _ _ _ (fun e => by have e := congrArg Addr.off e; simp only at e; omega)).trans U2.out))) (World.cell?_setCell_same _ _ _ ((World.cell?_setCell_other _ _ _ _ (fun e => by have e := congrArg Addr.off e; simp only at e; omega)).trans ((World.cell?_setCell_other _ _ _ _ (fun e => by have e := congrArg Addr.off e; simp only at e; omega)).trans U3.out))) (fun o h1 h2 h3 => (World.cell?_setCell_other _ _ _ _ (fun e => by have e := congrArg Addr.off e; simp only at e; omega)).trans ((World.cell?_setCell_other _ _ _ _ (fun e => by have e := congrArg Addr.off e; simp only at e; omega)).trans (World.cell?_setCell_other _ _ _ _ (fun e => by have e := congrArg Addr.off e; simp only at e; omega))))
  rw [atW_back S m 0 hmS] at hT6
  have HT6 := Lib.hid hT6
  clear hT6 HFr5 U1 U2 U3
  generalize (((w5.setCell ⟨g, m * 3, none⟩ (.int .i64 (P.star S m).1)).setCell ⟨g, m * 3 + 1, none⟩ (.int .i64 (P.star S m).2.1)).setCell ⟨g, m * 3 + 2, none⟩ (.int .i64 (P.star S m).2.2)) = w6 at *
  have HJ6 := Lib.hid (HC6.out.job (HSa.out.below HB6.out))
  have hw6 := HT6.out.lt (by omega) g 0 rfl
  obtain ⟨b2, o2, e2, u1, u2, u3⟩ := HT6.out m hmS
  cases e2
  simp only [Nat.zero_add] at u1 u2 u3
  have hst := HV.out.star hmS
  obtain ⟨t, ht⟩ : ∃ t, min (L - 1) ((P.star S m).2.1 + r) = t := ⟨_, rfl⟩
  have ht1 : (P.star S m).2.1 ≤ t := by omega
  have ht2 : t < L := by omega
  have kL : IntKind.i64.wrap (L - 1) = L - 1 := IntWalk.i64_in _ (by omega)
  have kT : IntKind.i64.wrap ((P.star S m).2.1 + r) = (P.star S m).2.1 + r := IntWalk.i64_in _ (by omega)
  go_wp2_with fail
  refine wp_region_growrow 17 [149, 150, 151, 152, 153, 154, 155, 156, 157, 158, 159, 160, 161, 162, 163, 164, 165] [KEq (.pointer (some ⟨bx, 2, none⟩)), KEq (.slice (some ⟨g, 0, none⟩) S.length cap2), KEq (.int .i64 (m : Int)), KEq (.pointer (some ⟨w.heap.size, 1, none⟩)), KEq (.int .i64 (L)), KEq (.int .i64 (L - 1)), KEq (.pointer (some ⟨bx, 2, none⟩)), KEq (.slice (some ⟨g, 0, none⟩) S.length cap2), KEq (.int .i64 (m : Int)), KEq (.pointer (some ⟨g, m * 3, none⟩)), KEq (.pointer (some ⟨g, m * 3 + 1, none⟩)), KEq (.int .i64 ((P.star S m).2.1)), KEq (.int .u8 n1), KEq (.int .i64 (n1)), KEq (.int .i64 (r)), KEq (.int .i64 ((P.star S m).2.1 + r)), KEq (.int .i64 (t))] (by kernel_rfl) (by kernel_rfl) (by kernel_rfl) (by kernel_rfl) (by kernel_rfl) rfl ⟨KEq.st (.pointer (some ⟨bx, 2, none⟩)), KEq.st (.slice (some ⟨g, 0, none⟩) S.length cap2), KEq.st (.int .i64 (m : Int)), KEq.st (.pointer (some ⟨w.heap.size, 1, none⟩)), KEq.st (.int .i64 (L)), KEq.st (.int .i64 (L - 1)), KEq.st (.pointer (some ⟨bx, 2, none⟩)), KEq.st (.slice (some ⟨g, 0, none⟩) S.length cap2), KEq.st (.int .i64 (m : Int)), KEq.st (.pointer (some ⟨g, m * 3, none⟩)), KEq.st (.pointer (some ⟨g, m * 3 + 1, none⟩)), KEq.st (.int .i64 ((P.star S m).2.1)), KEq.st (.int .u8 n1), KEq.st (.int .i64 (n1)), KEq.st (.int .i64 (r)), KEq.st (.int .i64 ((P.star S m).2.1 + r)), KEq.st (.int .i64 (t)), trivial⟩ ⟨step_out (q := 22) (by decide) rfl rfl (fun a' w' e hb => by simp [execOp, go_sem, e]), step_by1 (j := 0) (q := 149) rfl (by decide +kernel) rfl rfl (fun a' w' e hb => by have x := cell_on hb (HX6.out.cel 2 _ rfl); simp [execOp, go_sem, e, x]), step_moveOut (q := 21) (by decide) rfl rfl, step_out (q := 3) (by decide) rfl rfl (fun a' w' e hb => by simp [execOp, go_sem, e]), step_by1 (j := 3) (q := 152) rfl (by decide +kernel) rfl rfl (fun a' w' e hb => by have x := cell_on hb (HC6.out.cel 1 _ rfl); simp [execOp, go_sem, e, x]), step_by1 (j := 4) (q := 153) rfl (by decide +kernel) rfl rfl (fun a' w' e hb => by simp [execOp, go_sem, e, kL]), step_out (q := 22) (by decide) rfl rfl (fun a' w' e hb => by simp [execOp, go_sem, e]), step_by1 (j := 6) (q := 155) rfl (by decide +kernel) rfl rfl (fun a' w' e hb => by have x := cell_on hb (HX6.out.cel 2 _ rfl); simp [execOp, go_sem, e, x]), step_moveOut (q := 21) (by decide) rfl rfl, step_by2 (j1 := 7) (j2 := 8) (q1 := 156) (q2 := 157) rfl (by decide +kernel) rfl rfl (by decide +kernel) rfl rfl (fun a' w' e1 e2 hb => by simp [execOp, go_sem, e1, e2, hmI, hm0]), step_by1 (j := 9) (q := 158) rfl (by decide +kernel) rfl rfl (fun a' w' e hb => by simp [execOp, go_sem, e]), step_by1 (j := 10) (q := 159) rfl (by decide +kernel) rfl rfl (fun a' w' e hb => by have x := cell_on hb u2; simp [execOp, go_sem, e, x]), step_moveOut (q := 1) (by decide) rfl rfl, step_by1 (j := 12) (q := 161) rfl (by decide +kernel) rfl rfl (fun a' w' e hb => by simp [execOp, go_sem, e, k2]), step_by1 (j := 13) (q := 162) rfl (by decide +kernel) rfl rfl (fun a' w' e hb => by simp [execOp, go_sem, e, q4]), step_by2 (j1 := 11) (j2 := 14) (q1 := 160) (q2 := 163) rfl (by decide +kernel) rfl rfl (by decide +kernel) rfl rfl (fun a' w' e1 e2 hb => by simp [execOp, go_sem, e1, e2, kT]), step_by2 (j1 := 5) (j2 := 15) (q1 := 154) (q2 := 164) rfl (by decide +kernel) rfl rfl (by decide +kernel) rfl rfl (fun a' w' e1 e2 hb => by simp [execOp, go_sem, e1, e2, ht]), trivial⟩ ?_
  rintro w7 hb _ rfl _ rfl _ rfl _ rfl _ rfl _ rfl _ rfl _ rfl _ rfl _ rfl _ rfl _ rfl _ rfl _ rfl _ rfl _ rfl _ rfl
  have HFr7 : Hid (∀ o, w7.frozen? ⟨g, o, none⟩ = false) := Lib.hid (fun o => (hb.frozen (p := ⟨g, o, none⟩) hw6).trans (HFr6.out o))
  have HB79 := Lib.hid (HB6.out.trans (hb.mono HB6.out.size))
  have HC80 := Lib.hid (HC6.out.on hb)
  have HX81 := Lib.hid (HX6.out.on hb)
  have HJ82 := Lib.hid (HJ6.out.on hb)
  have HT83 := Lib.hid (HT6.out.below hb)
  have u1 := cell_on hb u1
  have u2 := cell_on hb u2
  have u3 := cell_on hb u3
  have f2 := HFr7.out (m * 3 + 1)
  have U1 := Lib.hid u1
  have U2 := Lib.hid u2
  have U3 := Lib.hid u3
  clear hb u1 u3 HFr6
  simp only [EndsG, Act.put, List.setIfInBounds_toArray, List.set_cons_zero, List.set_cons_succ, List.drop, RowWp]
  go_simp
  clear f2 u2
  have HB8 : Hid (Below w.heap.size w (w7.setCell ⟨g, m * 3 + 1, none⟩ (.int .i64 t))) := Lib.hid (HB79.out.setCell (p := ⟨g, m * 3 + 1, none⟩) (by show w.heap.size ≤ g; omega) _)
  have HC8 : Hid (Cells (w7.setCell ⟨g, m * 3 + 1, none⟩ (.int .i64 t)) w.heap.size [.int .i64 p, .int .i64 L, .slice (some ⟨sb, so, none⟩) S.length cap]) := Lib.hid (HC80.out.setOther (c := g) (m * 3 + 1) (.int .i64 t) (by omega))
  have HX8 : Hid (Cells (w7.setCell ⟨g, m * 3 + 1, none⟩ (.int .i64 t)) bx [.int .i64 p, .int .i64 L, .slice (some ⟨g, 0, none⟩) S.length cap2]) := Lib.hid (HX81.out.setOther (c := g) (m * 3 + 1) (.int .i64 t) (by omega))
  have HT8 : Hid (Stars (w7.setCell ⟨g, m * 3 + 1, none⟩ (.int .i64 t)) (some ⟨g, 0, none⟩) (P.widen S m t)) := Lib.hid (HT83.out.putStar (w' := (w7.setCell ⟨g, m * 3 + 1, none⟩ (.int .i64 t))) (i := m) (s := ((P.star S m).1, t, (P.star S m).2.2)) hmS ((World.cell?_setCell_other _ _ _ _ (fun e => by have e := congrArg Addr.off e; simp only at e; omega)).trans U1.out) (World.cell?_setCell_same _ _ _ U2.out) ((World.cell?_setCell_other _ _ _ _ (fun e => by have e := congrArg Addr.off e; simp only at e; omega)).trans U3.out) (fun o h1 h2 h3 => (World.cell?_setCell_other _ _ _ _ (fun e => by have e := congrArg Addr.off e; simp only at e; omega))))
  clear U1 U2 U3 HFr7
  generalize (w7.setCell ⟨g, m * 3 + 1, none⟩ (.int .i64 t)) = w8' at *
  have HJ8 := Lib.hid (HC8.out.job (HSa.out.below HB8.out))
  have x84 := HJ8.out.x1
  have x85 := HJ8.out.x2
  have x86 := HJ8.out.x3
  go_wp2_with fail
  clear x84 x85 x86
  have hby := HB8.out.size
  have hwy := HC8.out.lt
  have hxy := HX8.out.lt
  have hgy := HT8.out.lt (by rw [P.widen_length]; omega) g 0 rfl
  have hbx := Below.new w8' (.cells #[.int .i64 p, .int .i64 L, .slice (some ⟨sb, so, none⟩) S.length cap] 24)
  have HY9 := Lib.hid (Cells.new w8' #[.int .i64 p, .int .i64 L, .slice (some ⟨sb, so, none⟩) S.length cap] 24)
  obtain ⟨yb, hyb⟩ : ∃ yb, w8'.heap.size = yb := ⟨_, rfl⟩
  have hybw : w.heap.size < yb := by omega
  have hybx : bx < yb := by omega
  have hybg : g < yb := by omega
  have hyb9 : yb < (w8'.alloc (.cells #[.int .i64 p, .int .i64 L, .slice (some ⟨sb, so, none⟩) S.length cap] 24)).heap.size := by simp; omega
  have HB87 := Lib.hid (HB8.out.trans (hbx.mono HB8.out.size))
  have HC88 := Lib.hid (HC8.out.on hbx)
  have HX89 := Lib.hid (HX8.out.on hbx)
  have HJ90 := Lib.hid (HJ8.out.on hbx)
  have HT91 := Lib.hid (HT8.out.below hbx)
  generalize w8'.alloc (.cells #[.int .i64 p, .int .i64 L, .slice (some ⟨sb, so, none⟩) S.length cap] 24) = w9' at *
  rw [hyb] at HY9 ⊢
  clear hbx hby hwy hxy hgy hyb
  have hTm : (S.take m).length = m := by rw [List.length_take]; omega
  have hmc : (m : Int) ≤ (cap : Int) := by omega
  have hmc1 : (m : Int) + 1 ≤ (cap : Int) := by omega
  have hm1 : (m : Int) + 1 ≤ (S.length : Int) := by omega
  have hm01 : (0 : Int) ≤ (m : Int) + 1 := by omega
  have h16 : S.length ≤ 16 := HV.out.len
  have km1 : IntKind.i64.wrap ((m : Int) + 1) = (m : Int) + 1 := IntWalk.i64_in _ (by omega)
  have hS9 := HJ90.out.st
  have hTk : Stars w9' (some ⟨sb, so, none⟩) (S.take m) := hS9.part (Nat.le_of_lt hmS)
  obtain ⟨ad, c10, hN, hAd⟩ : ∃ (ad : Addr) (c10 : Nat), (∀ j u, (flatS (S.drop (m + 1)))[j]? = some u → w9'.cell? (ad.add j) = some u) ∧ (ad = ⟨sb, so + (m + 1) * 3, none⟩ ∧ c10 = cap - (m + 1) ∧ m + 1 < cap ∨ ad = ⟨sb, so, none⟩ ∧ c10 = 0 ∧ m + 1 = cap) := more_tail hS9 hmS _hc
  have HN9 := Lib.hid hN
  clear hN
  go_wp2_with fail
  refine wp_region_growrow 11 [169, 170, 171, 172, 173, 174, 175, 176, 177, 178, 179] [KEmp w9'.heap.size, KEq (.pointer (some ⟨w.heap.size, 2, none⟩)), KEq (.slice (some ⟨sb, so, none⟩) S.length cap), KEq (.int .i64 (m : Int)), KEq (.slice (some ⟨sb, so, none⟩) (S.take m).length cap), KOwn w9'.heap.size (S.take m), KEq (.pointer (some ⟨w.heap.size, 2, none⟩)), KEq (.slice (some ⟨sb, so, none⟩) S.length cap), KEq (.int .i64 (m : Int)), KEq (.int .i64 ((m : Int) + 1)), KEq (.slice (some ad) (S.length - (m + 1)) c10)] (by kernel_rfl) (by kernel_rfl) (by kernel_rfl) (by kernel_rfl) (by kernel_rfl) rfl ⟨KEmp.st w9'.heap.size, KEq.st (.pointer (some ⟨w.heap.size, 2, none⟩)), KEq.st (.slice (some ⟨sb, so, none⟩) S.length cap), KEq.st (.int .i64 (m : Int)), KEq.st (.slice (some ⟨sb, so, none⟩) (S.take m).length cap), KOwn.st w9'.heap.size (S.take m), KEq.st (.pointer (some ⟨w.heap.size, 2, none⟩)), KEq.st (.slice (some ⟨sb, so, none⟩) S.length cap), KEq.st (.int .i64 (m : Int)), KEq.st (.int .i64 ((m : Int) + 1)), KEq.st (.slice (some ad) (S.length - (m + 1)) c10), trivial⟩ ⟨step_emp rfl, step_out (q := 3) (by decide) rfl rfl (fun a' w' e hb => by simp [execOp, go_sem, e]), step_by1 (j := 1) (q := 170) rfl (by decide +kernel) rfl rfl (fun a' w' e hb => by have x := cell_on hb HJ90.out.x3; simp [execOp, go_sem, e, x]), step_moveOut (q := 21) (by decide) rfl rfl, step_by2 (j1 := 2) (j2 := 3) (q1 := 171) (q2 := 172) rfl (by decide +kernel) rfl rfl (by decide +kernel) rfl rfl (fun a' w' e1 e2 hb => by simp [execOp, go_sem, e1, e2, hTm, hmc, hmI]), step_app0 (j1 := 0) (j2 := 4) hTk (by omega) rfl (by decide +kernel) rfl rfl (by decide +kernel) rfl rfl, step_out (q := 3) (by decide) rfl rfl (fun a' w' e hb => by simp [execOp, go_sem, e]), step_by1 (j := 6) (q := 175) rfl (by decide +kernel) rfl rfl (fun a' w' e hb => by have x := cell_on hb HJ90.out.x3; simp [execOp, go_sem, e, x]), step_moveOut (q := 21) (by decide) rfl rfl, step_by1 (j := 8) (q := 177) rfl (by decide +kernel) rfl rfl (fun a' w' e hb => by simp [execOp, go_sem, e, km1]), step_by2 (j1 := 7) (j2 := 9) (q1 := 176) (q2 := 178) rfl (by decide +kernel) rfl rfl (by decide +kernel) rfl rfl (fun a' w' e1 e2 hb => by rcases hAd with ⟨rfl, rfl, h3⟩ | ⟨rfl, rfl, h3⟩; (have h4 : ¬ cap = m + 1 := by omega); (simp [execOp, go_sem, e1, e2, hmc1, hm1, hm01, h4]); (simp [execOp, go_sem, e1, e2, hmc1, hm1, hm01, h3])), trivial⟩ ?_
  rintro w10 hb _ ⟨g0, rfl, -⟩ _ rfl _ rfl _ rfl _ rfl v5 hown0 _ rfl _ rfl _ rfl _ rfl _ rfl
  have hN10 : ∀ j u, (flatS (S.drop (m + 1)))[j]? = some u → w10.cell? (ad.add j) = some u := fun j u hj => cell_on hb (HN9.out j u hj)
  have hown : w10.ownsRow w9'.heap.size 59 3 v5 m (flatS (S.take m)) := by
    have h : w10.ownsRow w9'.heap.size 59 3 v5 (S.take m).length (flatS (S.take m)) := hown0
    rwa [hTm] at h
  clear hown0
  have hvl : m + (S.length - (m + 1)) = (S.eraseIdx m).length := by rw [P.erase_length hmS]; omega
  have hb10 := hb.size
  simp only [EndsG, Act.put, List.setIfInBounds_toArray, List.set_cons_zero, List.set_cons_succ, List.drop, RowWp]
  refine wpAppV (.tmp 174) (.tmp 179) rfl w9'.heap.size v5 m (S.take m) (S.drop (m + 1)) (S.eraseIdx m) (S.length - (m + 1)) c10 ad rfl hown rfl (by rw [List.length_drop]) hN10 (by omega) hb10 (List.eraseIdx_eq_take_drop_succ S m).symm hvl ?_
  intro a5 c5 w11 hown2 hg2 hs5
  have hb11 : Below w9'.heap.size w9' w11 := hb.grown hg2 hb10 (fun k e => (hown.lt k e).1)
  clear hN10 hown hb hS9 hTk HN9 hg2
  have HB92 := Lib.hid (HB87.out.trans (hb11.mono HB87.out.size))
  have HC93 := Lib.hid (HC88.out.on hb11)
  have HX94 := Lib.hid (HX89.out.on hb11)
  have HJ95 := Lib.hid (HJ90.out.on hb11)
  have HT96 := Lib.hid (HT91.out.below hb11)
  have HY97 := Lib.hid (HY9.out.on hb11)
  have y2 := HY97.out.cel 2 _ rfl
  have fy := HY97.out.fr 2
  go_simp
  clear y2 fy
  have HB12 : Hid (Below w.heap.size w (w11.setCell ⟨yb, 2, none⟩ (.slice a5 (S.eraseIdx m).length c5))) := Lib.hid (HB92.out.setCell (p := ⟨yb, 2, none⟩) (by show w.heap.size ≤ yb; omega) _)
  have HC12 : Hid (Cells (w11.setCell ⟨yb, 2, none⟩ (.slice a5 (S.eraseIdx m).length c5)) w.heap.size [.int .i64 p, .int .i64 L, .slice (some ⟨sb, so, none⟩) S.length cap]) := Lib.hid (HC93.out.setOther (c := yb) 2 (.slice a5 (S.eraseIdx m).length c5) (by omega))
  have HX12 : Cells (w11.setCell ⟨yb, 2, none⟩ (.slice a5 (S.eraseIdx m).length c5)) bx [.int .i64 p, .int .i64 L, .slice (some ⟨g, 0, none⟩) (P.widen S m t).length cap2] := by rw [P.widen_length]; exact HX94.out.setOther (c := yb) 2 (.slice a5 (S.eraseIdx m).length c5) (by omega)
  have HY12 : Cells (w11.setCell ⟨yb, 2, none⟩ (.slice a5 (S.eraseIdx m).length c5)) yb [.int .i64 p, .int .i64 L, .slice a5 (S.eraseIdx m).length c5] := HY97.out.set 2 (.slice a5 (S.eraseIdx m).length c5) (by simp)
  have HU12 := Lib.hid (HX12.job (HT96.out.setOther (c := yb) 2 (.slice a5 (S.eraseIdx m).length c5) (by omega)))
  have HVV := Lib.hid (HY12.job (hs5.setAside yb 2 (.slice a5 (S.eraseIdx m).length c5) (fun b off e => by have := (hown2.lt b (by rw [e]; rfl)).1; omega)))
  have HJ12 := Lib.hid (HC12.out.job (HSa.out.below HB12.out))
  clear HX12 HY12 hs5 hown2 hb11
  generalize (w11.setCell ⟨yb, 2, none⟩ (.slice a5 (S.eraseIdx m).length c5)) = w12 at *
  obtain ⟨hUc, hUh, hUf⟩ := HWd.out m t hmS ht1 ht2
  obtain ⟨hVc, hVh, hVl, hVf⟩ := HLs.out m hmS
  have hlU : (P.widen S m t).length ≤ 1000000 := by rw [P.widen_length]; exact hl
  have hlV : (S.eraseIdx m).length ≤ 1000000 := by omega
  have HZU := Lib.hid hUc
  have HZV := Lib.hid hVc
  have HHU := Lib.hid (heavyE_ok hUc)
  have HHV := Lib.hid (heavyE_ok hVc)
  have hwt := HV.out.weight hmS
  have kW : IntKind.i64.wrap (Hn - (P.star S m).2.2) = Hn - (P.star S m).2.2 := IntWalk.i64_in _ (by omega)
  have dd1 : decide (Hn ≤ P.heavy (P.widen S m t) p L) = true := decide_eq_true hUh
  have dd2 : decide (P.heavy (S.eraseIdx m) p L ≤ Hn) = true := decide_eq_true hVh
  have dd3 : decide (Hn - (P.star S m).2.2 ≤ P.heavy (S.eraseIdx m) p L) = true := decide_eq_true hVl
  have hUx : ∃ d, P.fitsB (P.widen S m t) p L = d := ⟨_, rfl⟩
  obtain ⟨du, hdu⟩ := hUx
  have hVx : ∃ d, P.fitsB (S.eraseIdx m) p L = d := ⟨_, rfl⟩
  obtain ⟨dv, hdv⟩ := hVx
  have HFU := Lib.hid hdu
  have HFV := Lib.hid hdv
  clear hdu hdv
  clear hUc hUh hUf hVc hVh hVl hVf hwt hvl HWd HLs
  generalize P.widen S m t = U at *
  generalize S.eraseIdx m = V at *
  generalize P.heavy U p L = Hu at *
  generalize P.heavy V p L = Hv at *
  have hC := planned_any (some ⟨g, 0, none⟩) cap2 p L U w12 HZU.out HU12.out.st
  rw [HFU.out] at hC
  have HC := Lib.hid hC
  clear hC
  have x98 := HU12.out.x1
  have x99 := HU12.out.x2
  have x100 := HU12.out.x3
  go_wp2_with fail
  refine HC.out.mono ?_
  rintro e w10 ⟨rfl, hb⟩
  have HB101 := Lib.hid (HB12.out.trans (hb.mono HB12.out.size))
  have HJ102 := Lib.hid (HJ12.out.on hb)
  have HU103 := Lib.hid (HU12.out.on hb)
  have HW104 := Lib.hid (HVV.out.on hb)
  clear x98 x99 x100
  clear hb HC
  have hC := planned_any a5 c5 p L V w10 HZV.out HW104.out.st
  rw [HFV.out] at hC
  have HC := Lib.hid hC
  clear hC
  have x105 := HW104.out.x1
  have x106 := HW104.out.x2
  have x107 := HW104.out.x3
  go_wp2_with fail
  refine HC.out.mono ?_
  rintro e w11 ⟨rfl, hb⟩
  have HB108 := Lib.hid (HB101.out.trans (hb.mono HB101.out.size))
  have HJ109 := Lib.hid (HJ102.out.on hb)
  have HU110 := Lib.hid (HU103.out.on hb)
  have HW111 := Lib.hid (HW104.out.on hb)
  clear x105 x106 x107
  clear hb HC
  have hC := heaviest_any (some ⟨g, 0, none⟩) cap2 p L U w11 hlU HU110.out.st
  rw [HHU.out] at hC
  have HC := Lib.hid hC
  clear hC
  have x112 := HU110.out.x1
  have x113 := HU110.out.x2
  have x114 := HU110.out.x3
  go_wp2_with fail
  refine HC.out.mono ?_
  rintro e w12 ⟨rfl, hb⟩
  have HB115 := Lib.hid (HB108.out.trans (hb.mono HB108.out.size))
  have HJ116 := Lib.hid (HJ109.out.on hb)
  have HU117 := Lib.hid (HU110.out.on hb)
  have HW118 := Lib.hid (HW111.out.on hb)
  clear x112 x113 x114
  clear hb HC
  have hC := heaviest_any a5 c5 p L V w12 hlV HW118.out.st
  rw [HHV.out] at hC
  have HC := Lib.hid hC
  clear hC
  have x119 := HW118.out.x1
  have x120 := HW118.out.x2
  have x121 := HW118.out.x3
  go_wp2_with fail
  refine HC.out.mono ?_
  rintro e w13 ⟨rfl, hb⟩
  have HB122 := Lib.hid (HB115.out.trans (hb.mono HB115.out.size))
  have HJ123 := Lib.hid (HJ116.out.on hb)
  have HU124 := Lib.hid (HU117.out.on hb)
  have HW125 := Lib.hid (HW118.out.on hb)
  clear x119 x120 x121
  clear hb HC
  obtain ⟨b2, o2, e2, s1, s2, s3⟩ := HJ123.out.st m hmS
  cases e2
  have x126 := HJ123.out.x1
  have x127 := HJ123.out.x2
  have x128 := HJ123.out.x3
  go_wp2_with fail
  refine (works_any _).mono ?_
  rintro e w14 ⟨rfl, hb⟩
  have HB129 := Lib.hid (HB122.out.trans (hb.mono HB122.out.size))
  have HJ130 := Lib.hid (HJ123.out.on hb)
  have HU131 := Lib.hid (HU124.out.on hb)
  have HW132 := Lib.hid (HW125.out.on hb)
  clear hb
  clear x126 x127 x128
  go_wp2_with fail
  go_ret
  exact ⟨rfl, HB129.out⟩
set_option maxRecDepth 20000 in
set_option maxHeartbeats 20000000 in
theorem more_101 (a : Option Addr) (cap : Nat) (p L : Int) (S : List P.Star) (n1 n2 : Int) (w : World) (_hc : S.length ≤ cap) (ha : Stars w a S) (h1 : (Lit.int .u8 n1).wf = true) (h2 : (Lit.int .u8 n2).wf = true) (Hc : Hid (P.checkJob p L S = 0)) (H0 : Hid (¬ S.length = 0)) (Hf : Hid (P.fitsB S p L = false)) (Hf2 : Hid (P.fitsB S (min 5 (p + 1)) L = true)) :
    Calls Try.prog 10 #[jobV p L a S.length cap, .int .u8 n1, .int .u8 n2] w fun e w' => e = .returned (.bool true) ∧ Below w.heap.size w w' := by
  have hn1 := u8_bd h1
  have hn2 := u8_bd h2
  clear h1 h2
  have HB0 := Lib.hid (Below.new w (.cells #[.int .i64 p, .int .i64 L, .slice a S.length cap] 24))
  have HC0 : Hid (Cells (w.alloc (.cells #[.int .i64 p, .int .i64 L, .slice a S.length cap] 24)) w.heap.size [.int .i64 p, .int .i64 L, .slice a S.length cap]) := Lib.hid (Cells.new w #[.int .i64 p, .int .i64 L, .slice a S.length cap] 24)
  have HSa := Lib.hid ha
  have HJ0 := Lib.hid (HC0.out.job (ha.alloc _))
  clear ha
  have HF := fine_any a cap p L S (w.alloc (.cells #[.int .i64 p, .int .i64 L, .slice a S.length cap] 24)) HJ0.out.st
  have hc := Hc.out
  rw [decide_eq_true hc] at HF
  have HF := Lib.hid HF
  have HZ := Lib.hid hc
  have HV := Lib.hid (P.checkJob_iff.1 hc)
  have hl : S.length ≤ 1000000 := by have := HV.out.len; omega
  clear hc
  have hp1 := HV.out.p1
  have hp5 := HV.out.p5
  have hL1 := HV.out.l1
  have hL20 := HV.out.l20
  have k1 : IntKind.i64.wrap (p + 1) = p + 1 := IntWalk.i64_in _ (by omega)
  have q4 : n1.tmod 4 = n1 % 4 := tmod_pos hn1.1
  have k2 : IntKind.i64.wrap n1 = n1 := IntWalk.i64_in _ (by omega)
  have k5 : IntKind.i64.wrap (n1 % 4) = n1 % 4 := IntWalk.i64_in _ (by omega)
  have hr0 : 0 ≤ n1 % 4 := by omega
  have hr1 : n1 % 4 < 4 := by omega
  generalize n1 % 4 = r at *
  have k3 : IntKind.i64.wrap (L + r) = L + r := IntWalk.i64_in _ (by omega)
  obtain ⟨q, hq⟩ : ∃ q, min 5 (p + 1) = q := ⟨_, rfl⟩
  obtain ⟨M, hM⟩ : ∃ M, min 20 (L + r) = M := ⟨_, rfl⟩
  have hq1 : p ≤ q := by omega
  have hq5 : q ≤ 5 := by omega
  have hM1 : L ≤ M := by omega
  have hM20 : M ≤ 20 := by omega
  have HZq := Lib.hid (P.checkJob_iff.2 (HV.out.punches hq1 hq5))
  have HZM := Lib.hid (P.checkJob_iff.2 (HV.out.life hM1 hM20))
  have hFq : P.fitsB S p L = true → P.fitsB S q L = true := fun h => P.fitsB_iff.2 ((P.fitsB_iff.1 h).mono hq1)
  have hFM : P.fitsB S p M = P.fitsB S p L := by rw [Bool.eq_iff_iff, P.fitsB_iff, P.fitsB_iff, P.fits_life HV.out.ok hM1 (by omega)]
  have HHS := Lib.hid (heavyE_ok HZ.out)
  have HHq := Lib.hid (heavyE_ok HZq.out)
  have HHM : Hid (P.heavyE p M S = (P.heavy S p L, 0)) := Lib.hid (by rw [heavyE_ok HZM.out, P.heavy_life HV.out hM1 hM20])
  have hlq := P.heavy_punches HV.out hq1 hq5
  have hlb := P.heavy_bd HV.out
  have HWd : Hid (∀ i t, i < S.length → (P.star S i).2.1 ≤ t → t < L → P.checkJob p L (P.widen S i t) = 0 ∧ P.heavy S p L ≤ P.heavy (P.widen S i t) p L ∧ (P.fitsB S p L = true → P.fitsB (P.widen S i t) p L = true)) := Lib.hid (fun i t hi h1 h2 => ⟨P.checkJob_iff.2 (P.widen_valid HV.out hi h1 h2), P.heavy_widen HV.out hi h1 h2, fun h => P.fitsB_iff.2 (P.fits_widen hi h1 (P.fitsB_iff.1 h))⟩)
  have HLs : Hid (∀ i, i < S.length → P.checkJob p L (S.eraseIdx i) = 0 ∧ P.heavy (S.eraseIdx i) p L ≤ P.heavy S p L ∧ P.heavy S p L - (P.star S i).2.2 ≤ P.heavy (S.eraseIdx i) p L ∧ (P.fitsB S p L = true → P.fitsB (S.eraseIdx i) p L = true)) := Lib.hid (fun i hi => ⟨P.checkJob_iff.2 (P.erase_valid HV.out i), (P.heavy_less HV.out hi).1, (P.heavy_less HV.out hi).2, fun h => P.fitsB_iff.2 (P.fits_erase i (P.fitsB_iff.1 h))⟩)
  have hE : S.length = 0 → P.heavy S p L = 0 ∧ P.fitsB S p L = true := fun h => more_nil HV.out h
  generalize P.heavy S p L = Hn at *
  generalize P.heavy S q L = Hm at *
  have hd1 : decide (Hm < Hn) = false := decide_eq_false (by omega)
  have x1 := HJ0.out.x1
  have x2 := HJ0.out.x2
  have x3 := HJ0.out.x3
  go_enter Try.func10, Try.ntmps10
  go_wp2_with fail
  refine (HF.out).mono ?_
  rintro e w1 ⟨rfl, hb⟩
  have HC4 := Lib.hid (HC0.out.on hb)
  have HB5 := Lib.hid (HB0.out.trans (hb.mono HB0.out.size))
  have HJ6 := Lib.hid (HJ0.out.on hb)
  clear x1 x2 x3
  clear hb
  have x7 := HJ6.out.x1
  have x8 := HJ6.out.x2
  have x9 := HJ6.out.x3
  go_wp2_with fail
  clear x7 x8 x9
  have hj0 := HC4.out.lt
  have hjb := HB5.out.size
  refine wp_two_boxes (by kernel_rfl) HJ6.out rfl (by show 33 < 249; decide) (by kernel_rfl) ?_
  rintro w2 g7 g8 hg7 hg8 hg hC7 hC8 hb
  have HC10 := Lib.hid (HC4.out.on hb)
  have HB11 := Lib.hid (HB5.out.trans (hb.mono HB5.out.size))
  have HJ12 := Lib.hid (HJ6.out.on hb)
  have HB3 : Hid (Below w.heap.size w ((w2.setCell ⟨g7, 0, none⟩ (.int .i64 q)).setCell ⟨g8, 1, none⟩ (.int .i64 M))) := Lib.hid ((HB11.out.setCell (p := ⟨g7, 0, none⟩) (by show w.heap.size ≤ g7; omega) _).setCell (p := ⟨g8, 1, none⟩) (by show w.heap.size ≤ g8; omega) _)
  have HC3 : Hid (Cells ((w2.setCell ⟨g7, 0, none⟩ (.int .i64 q)).setCell ⟨g8, 1, none⟩ (.int .i64 M)) w.heap.size [.int .i64 p, .int .i64 L, .slice a S.length cap]) := Lib.hid ((HC10.out.setOther (c := g7) 0 (.int .i64 q) (by omega)).setOther (c := g8) 1 (.int .i64 M) (by omega))
  have HX3 : Hid (Cells ((w2.setCell ⟨g7, 0, none⟩ (.int .i64 q)).setCell ⟨g8, 1, none⟩ (.int .i64 M)) g7 [.int .i64 q, .int .i64 L, .slice a S.length cap]) := Lib.hid ((hC7.set 0 (.int .i64 q) (by simp [jobL])).setOther (c := g8) 1 (.int .i64 M) (by omega))
  have HY3 : Hid (Cells ((w2.setCell ⟨g7, 0, none⟩ (.int .i64 q)).setCell ⟨g8, 1, none⟩ (.int .i64 M)) g8 [.int .i64 p, .int .i64 M, .slice a S.length cap]) := Lib.hid ((hC8.setOther (c := g7) 0 (.int .i64 q) (by omega)).set 1 (.int .i64 M) (by simp [jobL]))
  have HS3 := HSa.out.below HB3.out
  have HJ3 := Lib.hid (HC3.out.job HS3)
  have HK3 := Lib.hid (HX3.out.job HS3)
  have HL3 := Lib.hid (HY3.out.job HS3)
  have z7 := hC7.cel 0 _ rfl
  have v7 := hC7.fr 0
  have z8 := hC8.cel 1 _ rfl
  have v8 := hC8.fr 1
  clear hC7 hC8 hb HS3 HX3 HY3
  simp only [Act.put, List.setIfInBounds_toArray, List.set_cons_zero, List.set_cons_succ, ptrV]
  go_simp
  have x13 := HJ12.out.x1
  have x14 := HJ12.out.x2
  have x15 := HJ12.out.x3
  have hS0 := H0.out
  clear H0
  have hz : ((S.length : Int) == 0) = false := beq_eq_false_iff_ne.2 (by omega)
  clear hE
  have hf := Hf.out
  clear Hf
  have HFS := Lib.hid hf
  have HFM : Hid (P.fitsB S p M = false) := Lib.hid (hFM.trans hf)
  have hf2 : P.fitsB S q L = true := by rw [← hq]; exact Hf2.out
  clear Hf2
  have HFq := Lib.hid hf2
  clear hf hf2 hFq hFM
  have hC := planned_any a cap p L S ((w2.setCell ⟨g7, 0, none⟩ (.int .i64 q)).setCell ⟨g8, 1, none⟩ (.int .i64 M)) HZ.out HJ3.out.st
  rw [HFS.out] at hC
  have HC := Lib.hid hC
  clear hC
  have x16 := HJ3.out.x1
  have x17 := HJ3.out.x2
  have x18 := HJ3.out.x3
  go_wp2_with fail
  refine HC.out.mono ?_
  rintro e w3 ⟨rfl, hb⟩
  have HC19 := Lib.hid (HC3.out.on hb)
  have HB20 := Lib.hid (HB3.out.trans (hb.mono HB3.out.size))
  have HJ21 := Lib.hid (HJ3.out.on hb)
  have HK22 := Lib.hid (HK3.out.on hb)
  have HL23 := Lib.hid (HL3.out.on hb)
  clear x16 x17 x18
  clear hb HC
  clear z7 v7 z8 v8 x13 x14 x15
  have hC := planned_any a cap q L S w3 HZq.out HK22.out.st
  rw [HFq.out] at hC
  have HC := Lib.hid hC
  clear hC
  have x24 := HK22.out.x1
  have x25 := HK22.out.x2
  have x26 := HK22.out.x3
  go_wp2_with fail
  refine HC.out.mono ?_
  rintro e w4 ⟨rfl, hb⟩
  have HC27 := Lib.hid (HC19.out.on hb)
  have HB28 := Lib.hid (HB20.out.trans (hb.mono HB20.out.size))
  have HJ29 := Lib.hid (HJ21.out.on hb)
  have HK30 := Lib.hid (HK22.out.on hb)
  have HL31 := Lib.hid (HL23.out.on hb)
  clear x24 x25 x26
  clear hb HC
  have hC := planned_any a cap p M S w4 HZM.out HL31.out.st
  rw [HFM.out] at hC
  have HC := Lib.hid hC
  clear hC
  have x32 := HL31.out.x1
  have x33 := HL31.out.x2
  have x34 := HL31.out.x3
  go_wp2_with fail
  refine HC.out.mono ?_
  rintro e w5 ⟨rfl, hb⟩
  have HC35 := Lib.hid (HC27.out.on hb)
  have HB36 := Lib.hid (HB28.out.trans (hb.mono HB28.out.size))
  have HJ37 := Lib.hid (HJ29.out.on hb)
  have HK38 := Lib.hid (HK30.out.on hb)
  have HL39 := Lib.hid (HL31.out.on hb)
  clear x32 x33 x34
  clear hb HC
  have hC := heaviest_any a cap p L S w5 hl HJ37.out.st
  rw [HHS.out] at hC
  have HC := Lib.hid hC
  clear hC
  have x40 := HJ37.out.x1
  have x41 := HJ37.out.x2
  have x42 := HJ37.out.x3
  go_wp2_with fail
  refine HC.out.mono ?_
  rintro e w6 ⟨rfl, hb⟩
  have HC43 := Lib.hid (HC35.out.on hb)
  have HB44 := Lib.hid (HB36.out.trans (hb.mono HB36.out.size))
  have HJ45 := Lib.hid (HJ37.out.on hb)
  have HK46 := Lib.hid (HK38.out.on hb)
  have HL47 := Lib.hid (HL39.out.on hb)
  clear x40 x41 x42
  clear hb HC
  have hC := heaviest_any a cap q L S w6 hl HK46.out.st
  rw [HHq.out] at hC
  have HC := Lib.hid hC
  clear hC
  have x48 := HK46.out.x1
  have x49 := HK46.out.x2
  have x50 := HK46.out.x3
  go_wp2_with fail
  refine HC.out.mono ?_
  rintro e w7 ⟨rfl, hb⟩
  have HC51 := Lib.hid (HC43.out.on hb)
  have HB52 := Lib.hid (HB44.out.trans (hb.mono HB44.out.size))
  have HJ53 := Lib.hid (HJ45.out.on hb)
  have HK54 := Lib.hid (HK46.out.on hb)
  have HL55 := Lib.hid (HL47.out.on hb)
  clear x48 x49 x50
  clear hb HC
  have hC := heaviest_any a cap p M S w7 hl HL55.out.st
  rw [HHM.out] at hC
  have HC := Lib.hid hC
  clear hC
  have x56 := HL55.out.x1
  have x57 := HL55.out.x2
  have x58 := HL55.out.x3
  go_wp2_with fail
  refine HC.out.mono ?_
  rintro e w8 ⟨rfl, hb⟩
  have HC59 := Lib.hid (HC51.out.on hb)
  have HB60 := Lib.hid (HB52.out.trans (hb.mono HB52.out.size))
  have HJ61 := Lib.hid (HJ53.out.on hb)
  have HK62 := Lib.hid (HK54.out.on hb)
  have HL63 := Lib.hid (HL55.out.on hb)
  clear x56 x57 x58
  clear hb HC
  obtain ⟨sb, so, hae, -⟩ := HSa.out 0 (by omega)
  subst hae
  have hi0 := Int.emod_nonneg n2 (b := (S.length : Int)) (by omega)
  have hi1 := Int.emod_lt_of_pos n2 (b := (S.length : Int)) (by omega)
  have q1 : n2.tmod (S.length : Int) = n2 % (S.length : Int) := tmod_pos hn2.1
  have e1 : ¬ (S.length : Int) = 0 := by omega
  generalize n2 % (S.length : Int) = t at *
  obtain ⟨m, rfl⟩ := Int.eq_ofNat_of_zero_le hi0
  have hmS : m < S.length := by omega
  have k0 : IntKind.i64.wrap n2 = n2 := IntWalk.i64_in _ (by omega)
  have k6 : IntKind.i64.wrap (m : Int) = (m : Int) := IntWalk.i64_in _ (by omega)
  clear hi0 hi1
  have x64 := HJ61.out.x1
  have x65 := HJ61.out.x2
  have x66 := HJ61.out.x3
  go_wp2_with fail
  clear x64 x65 x66
  have hw8 := HC59.out.lt
  refine (refAt_own (some ⟨sb, so, none⟩) cap p L S m 0 w8 hmS hl HJ61.out.st).mono ?_
  rintro e w9 ⟨g, cap2, rfl, hs, hcap2, hgw, hfr, hb⟩
  have HC67 := Lib.hid (HC59.out.on hb)
  have HB68 := Lib.hid (HB60.out.trans (hb.mono HB60.out.size))
  have HJ69 := Lib.hid (HJ61.out.on hb)
  have HT := Lib.hid hs
  clear hb
  go_wp2_with fail
  have hgl : g < w9.heap.size := hs.lt (by rw [P.atW_length]; omega) g 0 rfl
  have hbx := Below.new w9 (.cells #[.int .i64 p, .int .i64 L, .slice (some ⟨g, 0, none⟩) S.length cap2] 24)
  have hFr : ∀ o, (w9.alloc (.cells #[.int .i64 p, .int .i64 L, .slice (some ⟨g, 0, none⟩) S.length cap2] 24)).frozen? ⟨g, o, none⟩ = false := fun o => (hbx.frozen (p := ⟨g, o, none⟩) hgl).trans (hfr o)
  have hX := Cells.new w9 #[.int .i64 p, .int .i64 L, .slice (some ⟨g, 0, none⟩) S.length cap2] 24
  have hwg := HB68.out.size
  have hjb := HC67.out.lt
  obtain ⟨bx, hbxe⟩ : ∃ bx, w9.heap.size = bx := ⟨_, rfl⟩
  have hgb : g < bx := by omega
  have hbw : w.heap.size ≤ bx := by omega
  have HC70 := Lib.hid (HC67.out.on hbx)
  have HB71 := Lib.hid (HB68.out.trans (hbx.mono HB68.out.size))
  have HJ72 := Lib.hid (HJ69.out.on hbx)
  have HT73 := Lib.hid (HT.out.below hbx)
  generalize w9.alloc (.cells #[.int .i64 p, .int .i64 L, .slice (some ⟨g, 0, none⟩) S.length cap2] 24) = W4 at *
  clear hs hfr hbx
  rw [hbxe] at *
  clear hbxe
  obtain ⟨b', off', e', s1, s2, s3⟩ := HJ72.out.st m hmS
  cases e'
  obtain ⟨b2, o2, e2, u1, u2, u3⟩ := HT73.out m (by rw [P.atW_length]; exact hmS)
  cases e2
  simp only [Nat.zero_add] at u1 u2 u3
  have HX10 := Lib.hid hX
  have HFr0 := Lib.hid hFr
  have hmI : (m : Int) < (S.length : Int) := by omega
  have hm0 : (0 : Int) ≤ (m : Int) := by omega
  have hw4 := HT73.out.lt (by rw [P.atW_length]; omega) g 0 rfl
  clear hX hFr
  refine wp_region_growrow 8 [140, 141, 142, 143, 144, 145, 146, 147] [KEq (.pointer (some ⟨bx, 2, none⟩)), KEq (.slice (some ⟨g, 0, none⟩) S.length cap2), KEq (.int .i64 (m : Int)), KEq (.pointer (some ⟨w.heap.size, 2, none⟩)), KEq (.slice (some ⟨sb, so, none⟩) S.length cap), KEq (.int .i64 (m : Int)), KEq (.pointer (some ⟨sb, so + m * 3, none⟩)), KEq (.agg #[.int .i64 (P.star S m).1, .int .i64 (P.star S m).2.1, .int .i64 (P.star S m).2.2])] (by kernel_rfl) (by kernel_rfl) (by kernel_rfl) (by kernel_rfl) (by kernel_rfl) rfl ⟨KEq.st (.pointer (some ⟨bx, 2, none⟩)), KEq.st (.slice (some ⟨g, 0, none⟩) S.length cap2), KEq.st (.int .i64 (m : Int)), KEq.st (.pointer (some ⟨w.heap.size, 2, none⟩)), KEq.st (.slice (some ⟨sb, so, none⟩) S.length cap), KEq.st (.int .i64 (m : Int)), KEq.st (.pointer (some ⟨sb, so + m * 3, none⟩)), KEq.st (.agg #[.int .i64 (P.star S m).1, .int .i64 (P.star S m).2.1, .int .i64 (P.star S m).2.2]), trivial⟩ ⟨step_out (q := 22) (by decide) rfl rfl (fun a' w' e hb => by simp [execOp, go_sem, e]), step_by1 (j := 0) (q := 140) rfl (by decide +kernel) rfl rfl (fun a' w' e hb => by have x := cell_on hb (HX10.out.cel 2 _ rfl); simp [execOp, go_sem, e, x]), step_moveOut (q := 21) (by decide) rfl rfl, step_out (q := 3) (by decide) rfl rfl (fun a' w' e hb => by simp [execOp, go_sem, e]), step_by1 (j := 3) (q := 143) rfl (by decide +kernel) rfl rfl (fun a' w' e hb => by have x := cell_on hb HJ72.out.x3; simp [execOp, go_sem, e, x]), step_moveOut (q := 21) (by decide) rfl rfl, step_by2 (j1 := 4) (j2 := 5) (q1 := 144) (q2 := 145) rfl (by decide +kernel) rfl rfl (by decide +kernel) rfl rfl (fun a' w' e1 e2 hb => by simp [execOp, go_sem, e1, e2, hmI, hm0]), step_by1 (j := 6) (q := 146) rfl (by decide +kernel) rfl rfl (fun a' w' e hb => by have y1 := cell_on hb s1; have y2 := cell_on hb s2; have y3 := cell_on hb s3; simp [execOp, go_sem, e, y1, y2, y3]), trivial⟩ ?_
  rintro w5 hb _ rfl _ rfl _ rfl _ rfl _ rfl _ rfl _ rfl _ rfl
  have HFr5 : Hid (∀ o, w5.frozen? ⟨g, o, none⟩ = false) := Lib.hid (fun o => (hb.frozen (p := ⟨g, o, none⟩) hw4).trans (HFr0.out o))
  have HC74 := Lib.hid (HC70.out.on hb)
  have HB75 := Lib.hid (HB71.out.trans (hb.mono HB71.out.size))
  have HJ76 := Lib.hid (HJ72.out.on hb)
  have HT77 := Lib.hid (HT73.out.below hb)
  have HX78 := Lib.hid (HX10.out.on hb)
  have u1 := cell_on hb u1
  have u2 := cell_on hb u2
  have u3 := cell_on hb u3
  have f1 := HFr5.out (m * 3)
  have f2 := HFr5.out (m * 3 + 1)
  have f3 := HFr5.out (m * 3 + 2)
  have U1 := Lib.hid u1
  have U2 := Lib.hid u2
  have U3 := Lib.hid u3
  clear hb s1 s2 s3
  simp only [EndsG, Act.put, List.setIfInBounds_toArray, List.set_cons_zero, List.set_cons_succ, List.drop, RowWp]
  go_simp
  clear f1 f2 f3 u1 u2 u3
  have HB6 : Hid (Below w.heap.size w (((w5.setCell ⟨g, m * 3, none⟩ (.int .i64 (P.star S m).1)).setCell ⟨g, m * 3 + 1, none⟩ (.int .i64 (P.star S m).2.1)).setCell ⟨g, m * 3 + 2, none⟩ (.int .i64 (P.star S m).2.2))) := Lib.hid (((HB75.out.setCell (p := ⟨g, m * 3, none⟩) (by show w.heap.size ≤ g; omega) _).setCell (p := ⟨g, m * 3 + 1, none⟩) (by show w.heap.size ≤ g; omega) _).setCell (p := ⟨g, m * 3 + 2, none⟩) (by show w.heap.size ≤ g; omega) _)
  have HC6 : Hid (Cells (((w5.setCell ⟨g, m * 3, none⟩ (.int .i64 (P.star S m).1)).setCell ⟨g, m * 3 + 1, none⟩ (.int .i64 (P.star S m).2.1)).setCell ⟨g, m * 3 + 2, none⟩ (.int .i64 (P.star S m).2.2)) w.heap.size [.int .i64 p, .int .i64 L, .slice (some ⟨sb, so, none⟩) S.length cap]) := Lib.hid (((HC74.out.setOther (c := g) (m * 3) (.int .i64 (P.star S m).1) (by omega)).setOther (c := g) (m * 3 + 1) (.int .i64 (P.star S m).2.1) (by omega)).setOther (c := g) (m * 3 + 2) (.int .i64 (P.star S m).2.2) (by omega))
  have HX6 : Hid (Cells (((w5.setCell ⟨g, m * 3, none⟩ (.int .i64 (P.star S m).1)).setCell ⟨g, m * 3 + 1, none⟩ (.int .i64 (P.star S m).2.1)).setCell ⟨g, m * 3 + 2, none⟩ (.int .i64 (P.star S m).2.2)) bx [.int .i64 p, .int .i64 L, .slice (some ⟨g, 0, none⟩) S.length cap2]) := Lib.hid (((HX78.out.setOther (c := g) (m * 3) (.int .i64 (P.star S m).1) (by omega)).setOther (c := g) (m * 3 + 1) (.int .i64 (P.star S m).2.1) (by omega)).setOther (c := g) (m * 3 + 2) (.int .i64 (P.star S m).2.2) (by omega))
  have HFr6 : Hid (∀ o, (((w5.setCell ⟨g, m * 3, none⟩ (.int .i64 (P.star S m).1)).setCell ⟨g, m * 3 + 1, none⟩ (.int .i64 (P.star S m).2.1)).setCell ⟨g, m * 3 + 2, none⟩ (.int .i64 (P.star S m).2.2)).frozen? ⟨g, o, none⟩ = false) := Lib.hid (fun o => (((World.frozen?_setCell _ _ _ _).trans (World.frozen?_setCell _ _ _ _)).trans (World.frozen?_setCell _ _ _ _)).trans (HFr5.out o))
  have hT6 := HT77.out.putStar (w' := (((w5.setCell ⟨g, m * 3, none⟩ (.int .i64 (P.star S m).1)).setCell ⟨g, m * 3 + 1, none⟩ (.int .i64 (P.star S m).2.1)).setCell ⟨g, m * 3 + 2, none⟩ (.int .i64 (P.star S m).2.2))) (i := m) (s := P.star S m) (by rw [P.atW_length]; exact hmS) ((World.cell?_setCell_other _ _ _ _ (fun e => by have e := congrArg Addr.off e; simp only at e; omega)).trans ((World.cell?_setCell_other _ _ _ _ (fun e => by have e := congrArg Addr.off e; simp only at e; omega)).trans (World.cell?_setCell_same _ _ _ U1.out))) ((World.cell?_setCell_other _ _ _ _ (fun e => by have e := congrArg Addr.off e; simp only at e; omega)).trans (World.cell?_setCell_same _ _ _ ((World.cell?_setCell_other _ _ _ _ (fun e => by have e := congrArg Addr.off e; simp only at e; omega)).trans U2.out))) (World.cell?_setCell_same _ _ _ ((World.cell?_setCell_other _ _ _ _ (fun e => by have e := congrArg Addr.off e; simp only at e; omega)).trans ((World.cell?_setCell_other _ _ _ _ (fun e => by have e := congrArg Addr.off e; simp only at e; omega)).trans U3.out))) (fun o h1 h2 h3 => (World.cell?_setCell_other _ _ _ _ (fun e => by have e := congrArg Addr.off e; simp only at e; omega)).trans ((World.cell?_setCell_other _ _ _ _ (fun e => by have e := congrArg Addr.off e; simp only at e; omega)).trans (World.cell?_setCell_other _ _ _ _ (fun e => by have e := congrArg Addr.off e; simp only at e; omega))))
  rw [atW_back S m 0 hmS] at hT6
  have HT6 := Lib.hid hT6
  clear hT6 HFr5 U1 U2 U3
  generalize (((w5.setCell ⟨g, m * 3, none⟩ (.int .i64 (P.star S m).1)).setCell ⟨g, m * 3 + 1, none⟩ (.int .i64 (P.star S m).2.1)).setCell ⟨g, m * 3 + 2, none⟩ (.int .i64 (P.star S m).2.2)) = w6 at *
  have HJ6 := Lib.hid (HC6.out.job (HSa.out.below HB6.out))
  have hw6 := HT6.out.lt (by omega) g 0 rfl
  obtain ⟨b2, o2, e2, u1, u2, u3⟩ := HT6.out m hmS
  cases e2
  simp only [Nat.zero_add] at u1 u2 u3
  have hst := HV.out.star hmS
  obtain ⟨t, ht⟩ : ∃ t, min (L - 1) ((P.star S m).2.1 + r) = t := ⟨_, rfl⟩
  have ht1 : (P.star S m).2.1 ≤ t := by omega
  have ht2 : t < L := by omega
  have kL : IntKind.i64.wrap (L - 1) = L - 1 := IntWalk.i64_in _ (by omega)
  have kT : IntKind.i64.wrap ((P.star S m).2.1 + r) = (P.star S m).2.1 + r := IntWalk.i64_in _ (by omega)
  go_wp2_with fail
  refine wp_region_growrow 17 [149, 150, 151, 152, 153, 154, 155, 156, 157, 158, 159, 160, 161, 162, 163, 164, 165] [KEq (.pointer (some ⟨bx, 2, none⟩)), KEq (.slice (some ⟨g, 0, none⟩) S.length cap2), KEq (.int .i64 (m : Int)), KEq (.pointer (some ⟨w.heap.size, 1, none⟩)), KEq (.int .i64 (L)), KEq (.int .i64 (L - 1)), KEq (.pointer (some ⟨bx, 2, none⟩)), KEq (.slice (some ⟨g, 0, none⟩) S.length cap2), KEq (.int .i64 (m : Int)), KEq (.pointer (some ⟨g, m * 3, none⟩)), KEq (.pointer (some ⟨g, m * 3 + 1, none⟩)), KEq (.int .i64 ((P.star S m).2.1)), KEq (.int .u8 n1), KEq (.int .i64 (n1)), KEq (.int .i64 (r)), KEq (.int .i64 ((P.star S m).2.1 + r)), KEq (.int .i64 (t))] (by kernel_rfl) (by kernel_rfl) (by kernel_rfl) (by kernel_rfl) (by kernel_rfl) rfl ⟨KEq.st (.pointer (some ⟨bx, 2, none⟩)), KEq.st (.slice (some ⟨g, 0, none⟩) S.length cap2), KEq.st (.int .i64 (m : Int)), KEq.st (.pointer (some ⟨w.heap.size, 1, none⟩)), KEq.st (.int .i64 (L)), KEq.st (.int .i64 (L - 1)), KEq.st (.pointer (some ⟨bx, 2, none⟩)), KEq.st (.slice (some ⟨g, 0, none⟩) S.length cap2), KEq.st (.int .i64 (m : Int)), KEq.st (.pointer (some ⟨g, m * 3, none⟩)), KEq.st (.pointer (some ⟨g, m * 3 + 1, none⟩)), KEq.st (.int .i64 ((P.star S m).2.1)), KEq.st (.int .u8 n1), KEq.st (.int .i64 (n1)), KEq.st (.int .i64 (r)), KEq.st (.int .i64 ((P.star S m).2.1 + r)), KEq.st (.int .i64 (t)), trivial⟩ ⟨step_out (q := 22) (by decide) rfl rfl (fun a' w' e hb => by simp [execOp, go_sem, e]), step_by1 (j := 0) (q := 149) rfl (by decide +kernel) rfl rfl (fun a' w' e hb => by have x := cell_on hb (HX6.out.cel 2 _ rfl); simp [execOp, go_sem, e, x]), step_moveOut (q := 21) (by decide) rfl rfl, step_out (q := 3) (by decide) rfl rfl (fun a' w' e hb => by simp [execOp, go_sem, e]), step_by1 (j := 3) (q := 152) rfl (by decide +kernel) rfl rfl (fun a' w' e hb => by have x := cell_on hb (HC6.out.cel 1 _ rfl); simp [execOp, go_sem, e, x]), step_by1 (j := 4) (q := 153) rfl (by decide +kernel) rfl rfl (fun a' w' e hb => by simp [execOp, go_sem, e, kL]), step_out (q := 22) (by decide) rfl rfl (fun a' w' e hb => by simp [execOp, go_sem, e]), step_by1 (j := 6) (q := 155) rfl (by decide +kernel) rfl rfl (fun a' w' e hb => by have x := cell_on hb (HX6.out.cel 2 _ rfl); simp [execOp, go_sem, e, x]), step_moveOut (q := 21) (by decide) rfl rfl, step_by2 (j1 := 7) (j2 := 8) (q1 := 156) (q2 := 157) rfl (by decide +kernel) rfl rfl (by decide +kernel) rfl rfl (fun a' w' e1 e2 hb => by simp [execOp, go_sem, e1, e2, hmI, hm0]), step_by1 (j := 9) (q := 158) rfl (by decide +kernel) rfl rfl (fun a' w' e hb => by simp [execOp, go_sem, e]), step_by1 (j := 10) (q := 159) rfl (by decide +kernel) rfl rfl (fun a' w' e hb => by have x := cell_on hb u2; simp [execOp, go_sem, e, x]), step_moveOut (q := 1) (by decide) rfl rfl, step_by1 (j := 12) (q := 161) rfl (by decide +kernel) rfl rfl (fun a' w' e hb => by simp [execOp, go_sem, e, k2]), step_by1 (j := 13) (q := 162) rfl (by decide +kernel) rfl rfl (fun a' w' e hb => by simp [execOp, go_sem, e, q4]), step_by2 (j1 := 11) (j2 := 14) (q1 := 160) (q2 := 163) rfl (by decide +kernel) rfl rfl (by decide +kernel) rfl rfl (fun a' w' e1 e2 hb => by simp [execOp, go_sem, e1, e2, kT]), step_by2 (j1 := 5) (j2 := 15) (q1 := 154) (q2 := 164) rfl (by decide +kernel) rfl rfl (by decide +kernel) rfl rfl (fun a' w' e1 e2 hb => by simp [execOp, go_sem, e1, e2, ht]), trivial⟩ ?_
  rintro w7 hb _ rfl _ rfl _ rfl _ rfl _ rfl _ rfl _ rfl _ rfl _ rfl _ rfl _ rfl _ rfl _ rfl _ rfl _ rfl _ rfl _ rfl
  have HFr7 : Hid (∀ o, w7.frozen? ⟨g, o, none⟩ = false) := Lib.hid (fun o => (hb.frozen (p := ⟨g, o, none⟩) hw6).trans (HFr6.out o))
  have HB79 := Lib.hid (HB6.out.trans (hb.mono HB6.out.size))
  have HC80 := Lib.hid (HC6.out.on hb)
  have HX81 := Lib.hid (HX6.out.on hb)
  have HJ82 := Lib.hid (HJ6.out.on hb)
  have HT83 := Lib.hid (HT6.out.below hb)
  have u1 := cell_on hb u1
  have u2 := cell_on hb u2
  have u3 := cell_on hb u3
  have f2 := HFr7.out (m * 3 + 1)
  have U1 := Lib.hid u1
  have U2 := Lib.hid u2
  have U3 := Lib.hid u3
  clear hb u1 u3 HFr6
  simp only [EndsG, Act.put, List.setIfInBounds_toArray, List.set_cons_zero, List.set_cons_succ, List.drop, RowWp]
  go_simp
  clear f2 u2
  have HB8 : Hid (Below w.heap.size w (w7.setCell ⟨g, m * 3 + 1, none⟩ (.int .i64 t))) := Lib.hid (HB79.out.setCell (p := ⟨g, m * 3 + 1, none⟩) (by show w.heap.size ≤ g; omega) _)
  have HC8 : Hid (Cells (w7.setCell ⟨g, m * 3 + 1, none⟩ (.int .i64 t)) w.heap.size [.int .i64 p, .int .i64 L, .slice (some ⟨sb, so, none⟩) S.length cap]) := Lib.hid (HC80.out.setOther (c := g) (m * 3 + 1) (.int .i64 t) (by omega))
  have HX8 : Hid (Cells (w7.setCell ⟨g, m * 3 + 1, none⟩ (.int .i64 t)) bx [.int .i64 p, .int .i64 L, .slice (some ⟨g, 0, none⟩) S.length cap2]) := Lib.hid (HX81.out.setOther (c := g) (m * 3 + 1) (.int .i64 t) (by omega))
  have HT8 : Hid (Stars (w7.setCell ⟨g, m * 3 + 1, none⟩ (.int .i64 t)) (some ⟨g, 0, none⟩) (P.widen S m t)) := Lib.hid (HT83.out.putStar (w' := (w7.setCell ⟨g, m * 3 + 1, none⟩ (.int .i64 t))) (i := m) (s := ((P.star S m).1, t, (P.star S m).2.2)) hmS ((World.cell?_setCell_other _ _ _ _ (fun e => by have e := congrArg Addr.off e; simp only at e; omega)).trans U1.out) (World.cell?_setCell_same _ _ _ U2.out) ((World.cell?_setCell_other _ _ _ _ (fun e => by have e := congrArg Addr.off e; simp only at e; omega)).trans U3.out) (fun o h1 h2 h3 => (World.cell?_setCell_other _ _ _ _ (fun e => by have e := congrArg Addr.off e; simp only at e; omega))))
  clear U1 U2 U3 HFr7
  generalize (w7.setCell ⟨g, m * 3 + 1, none⟩ (.int .i64 t)) = w8' at *
  have HJ8 := Lib.hid (HC8.out.job (HSa.out.below HB8.out))
  have x84 := HJ8.out.x1
  have x85 := HJ8.out.x2
  have x86 := HJ8.out.x3
  go_wp2_with fail
  clear x84 x85 x86
  have hby := HB8.out.size
  have hwy := HC8.out.lt
  have hxy := HX8.out.lt
  have hgy := HT8.out.lt (by rw [P.widen_length]; omega) g 0 rfl
  have hbx := Below.new w8' (.cells #[.int .i64 p, .int .i64 L, .slice (some ⟨sb, so, none⟩) S.length cap] 24)
  have HY9 := Lib.hid (Cells.new w8' #[.int .i64 p, .int .i64 L, .slice (some ⟨sb, so, none⟩) S.length cap] 24)
  obtain ⟨yb, hyb⟩ : ∃ yb, w8'.heap.size = yb := ⟨_, rfl⟩
  have hybw : w.heap.size < yb := by omega
  have hybx : bx < yb := by omega
  have hybg : g < yb := by omega
  have hyb9 : yb < (w8'.alloc (.cells #[.int .i64 p, .int .i64 L, .slice (some ⟨sb, so, none⟩) S.length cap] 24)).heap.size := by simp; omega
  have HB87 := Lib.hid (HB8.out.trans (hbx.mono HB8.out.size))
  have HC88 := Lib.hid (HC8.out.on hbx)
  have HX89 := Lib.hid (HX8.out.on hbx)
  have HJ90 := Lib.hid (HJ8.out.on hbx)
  have HT91 := Lib.hid (HT8.out.below hbx)
  generalize w8'.alloc (.cells #[.int .i64 p, .int .i64 L, .slice (some ⟨sb, so, none⟩) S.length cap] 24) = w9' at *
  rw [hyb] at HY9 ⊢
  clear hbx hby hwy hxy hgy hyb
  have hTm : (S.take m).length = m := by rw [List.length_take]; omega
  have hmc : (m : Int) ≤ (cap : Int) := by omega
  have hmc1 : (m : Int) + 1 ≤ (cap : Int) := by omega
  have hm1 : (m : Int) + 1 ≤ (S.length : Int) := by omega
  have hm01 : (0 : Int) ≤ (m : Int) + 1 := by omega
  have h16 : S.length ≤ 16 := HV.out.len
  have km1 : IntKind.i64.wrap ((m : Int) + 1) = (m : Int) + 1 := IntWalk.i64_in _ (by omega)
  have hS9 := HJ90.out.st
  have hTk : Stars w9' (some ⟨sb, so, none⟩) (S.take m) := hS9.part (Nat.le_of_lt hmS)
  obtain ⟨ad, c10, hN, hAd⟩ : ∃ (ad : Addr) (c10 : Nat), (∀ j u, (flatS (S.drop (m + 1)))[j]? = some u → w9'.cell? (ad.add j) = some u) ∧ (ad = ⟨sb, so + (m + 1) * 3, none⟩ ∧ c10 = cap - (m + 1) ∧ m + 1 < cap ∨ ad = ⟨sb, so, none⟩ ∧ c10 = 0 ∧ m + 1 = cap) := more_tail hS9 hmS _hc
  have HN9 := Lib.hid hN
  clear hN
  go_wp2_with fail
  refine wp_region_growrow 11 [169, 170, 171, 172, 173, 174, 175, 176, 177, 178, 179] [KEmp w9'.heap.size, KEq (.pointer (some ⟨w.heap.size, 2, none⟩)), KEq (.slice (some ⟨sb, so, none⟩) S.length cap), KEq (.int .i64 (m : Int)), KEq (.slice (some ⟨sb, so, none⟩) (S.take m).length cap), KOwn w9'.heap.size (S.take m), KEq (.pointer (some ⟨w.heap.size, 2, none⟩)), KEq (.slice (some ⟨sb, so, none⟩) S.length cap), KEq (.int .i64 (m : Int)), KEq (.int .i64 ((m : Int) + 1)), KEq (.slice (some ad) (S.length - (m + 1)) c10)] (by kernel_rfl) (by kernel_rfl) (by kernel_rfl) (by kernel_rfl) (by kernel_rfl) rfl ⟨KEmp.st w9'.heap.size, KEq.st (.pointer (some ⟨w.heap.size, 2, none⟩)), KEq.st (.slice (some ⟨sb, so, none⟩) S.length cap), KEq.st (.int .i64 (m : Int)), KEq.st (.slice (some ⟨sb, so, none⟩) (S.take m).length cap), KOwn.st w9'.heap.size (S.take m), KEq.st (.pointer (some ⟨w.heap.size, 2, none⟩)), KEq.st (.slice (some ⟨sb, so, none⟩) S.length cap), KEq.st (.int .i64 (m : Int)), KEq.st (.int .i64 ((m : Int) + 1)), KEq.st (.slice (some ad) (S.length - (m + 1)) c10), trivial⟩ ⟨step_emp rfl, step_out (q := 3) (by decide) rfl rfl (fun a' w' e hb => by simp [execOp, go_sem, e]), step_by1 (j := 1) (q := 170) rfl (by decide +kernel) rfl rfl (fun a' w' e hb => by have x := cell_on hb HJ90.out.x3; simp [execOp, go_sem, e, x]), step_moveOut (q := 21) (by decide) rfl rfl, step_by2 (j1 := 2) (j2 := 3) (q1 := 171) (q2 := 172) rfl (by decide +kernel) rfl rfl (by decide +kernel) rfl rfl (fun a' w' e1 e2 hb => by simp [execOp, go_sem, e1, e2, hTm, hmc, hmI]), step_app0 (j1 := 0) (j2 := 4) hTk (by omega) rfl (by decide +kernel) rfl rfl (by decide +kernel) rfl rfl, step_out (q := 3) (by decide) rfl rfl (fun a' w' e hb => by simp [execOp, go_sem, e]), step_by1 (j := 6) (q := 175) rfl (by decide +kernel) rfl rfl (fun a' w' e hb => by have x := cell_on hb HJ90.out.x3; simp [execOp, go_sem, e, x]), step_moveOut (q := 21) (by decide) rfl rfl, step_by1 (j := 8) (q := 177) rfl (by decide +kernel) rfl rfl (fun a' w' e hb => by simp [execOp, go_sem, e, km1]), step_by2 (j1 := 7) (j2 := 9) (q1 := 176) (q2 := 178) rfl (by decide +kernel) rfl rfl (by decide +kernel) rfl rfl (fun a' w' e1 e2 hb => by rcases hAd with ⟨rfl, rfl, h3⟩ | ⟨rfl, rfl, h3⟩; (have h4 : ¬ cap = m + 1 := by omega); (simp [execOp, go_sem, e1, e2, hmc1, hm1, hm01, h4]); (simp [execOp, go_sem, e1, e2, hmc1, hm1, hm01, h3])), trivial⟩ ?_
  rintro w10 hb _ ⟨g0, rfl, -⟩ _ rfl _ rfl _ rfl _ rfl v5 hown0 _ rfl _ rfl _ rfl _ rfl _ rfl
  have hN10 : ∀ j u, (flatS (S.drop (m + 1)))[j]? = some u → w10.cell? (ad.add j) = some u := fun j u hj => cell_on hb (HN9.out j u hj)
  have hown : w10.ownsRow w9'.heap.size 59 3 v5 m (flatS (S.take m)) := by
    have h : w10.ownsRow w9'.heap.size 59 3 v5 (S.take m).length (flatS (S.take m)) := hown0
    rwa [hTm] at h
  clear hown0
  have hvl : m + (S.length - (m + 1)) = (S.eraseIdx m).length := by rw [P.erase_length hmS]; omega
  have hb10 := hb.size
  simp only [EndsG, Act.put, List.setIfInBounds_toArray, List.set_cons_zero, List.set_cons_succ, List.drop, RowWp]
  refine wpAppV (.tmp 174) (.tmp 179) rfl w9'.heap.size v5 m (S.take m) (S.drop (m + 1)) (S.eraseIdx m) (S.length - (m + 1)) c10 ad rfl hown rfl (by rw [List.length_drop]) hN10 (by omega) hb10 (List.eraseIdx_eq_take_drop_succ S m).symm hvl ?_
  intro a5 c5 w11 hown2 hg2 hs5
  have hb11 : Below w9'.heap.size w9' w11 := hb.grown hg2 hb10 (fun k e => (hown.lt k e).1)
  clear hN10 hown hb hS9 hTk HN9 hg2
  have HB92 := Lib.hid (HB87.out.trans (hb11.mono HB87.out.size))
  have HC93 := Lib.hid (HC88.out.on hb11)
  have HX94 := Lib.hid (HX89.out.on hb11)
  have HJ95 := Lib.hid (HJ90.out.on hb11)
  have HT96 := Lib.hid (HT91.out.below hb11)
  have HY97 := Lib.hid (HY9.out.on hb11)
  have y2 := HY97.out.cel 2 _ rfl
  have fy := HY97.out.fr 2
  go_simp
  clear y2 fy
  have HB12 : Hid (Below w.heap.size w (w11.setCell ⟨yb, 2, none⟩ (.slice a5 (S.eraseIdx m).length c5))) := Lib.hid (HB92.out.setCell (p := ⟨yb, 2, none⟩) (by show w.heap.size ≤ yb; omega) _)
  have HC12 : Hid (Cells (w11.setCell ⟨yb, 2, none⟩ (.slice a5 (S.eraseIdx m).length c5)) w.heap.size [.int .i64 p, .int .i64 L, .slice (some ⟨sb, so, none⟩) S.length cap]) := Lib.hid (HC93.out.setOther (c := yb) 2 (.slice a5 (S.eraseIdx m).length c5) (by omega))
  have HX12 : Cells (w11.setCell ⟨yb, 2, none⟩ (.slice a5 (S.eraseIdx m).length c5)) bx [.int .i64 p, .int .i64 L, .slice (some ⟨g, 0, none⟩) (P.widen S m t).length cap2] := by rw [P.widen_length]; exact HX94.out.setOther (c := yb) 2 (.slice a5 (S.eraseIdx m).length c5) (by omega)
  have HY12 : Cells (w11.setCell ⟨yb, 2, none⟩ (.slice a5 (S.eraseIdx m).length c5)) yb [.int .i64 p, .int .i64 L, .slice a5 (S.eraseIdx m).length c5] := HY97.out.set 2 (.slice a5 (S.eraseIdx m).length c5) (by simp)
  have HU12 := Lib.hid (HX12.job (HT96.out.setOther (c := yb) 2 (.slice a5 (S.eraseIdx m).length c5) (by omega)))
  have HVV := Lib.hid (HY12.job (hs5.setAside yb 2 (.slice a5 (S.eraseIdx m).length c5) (fun b off e => by have := (hown2.lt b (by rw [e]; rfl)).1; omega)))
  have HJ12 := Lib.hid (HC12.out.job (HSa.out.below HB12.out))
  clear HX12 HY12 hs5 hown2 hb11
  generalize (w11.setCell ⟨yb, 2, none⟩ (.slice a5 (S.eraseIdx m).length c5)) = w12 at *
  obtain ⟨hUc, hUh, hUf⟩ := HWd.out m t hmS ht1 ht2
  obtain ⟨hVc, hVh, hVl, hVf⟩ := HLs.out m hmS
  have hlU : (P.widen S m t).length ≤ 1000000 := by rw [P.widen_length]; exact hl
  have hlV : (S.eraseIdx m).length ≤ 1000000 := by omega
  have HZU := Lib.hid hUc
  have HZV := Lib.hid hVc
  have HHU := Lib.hid (heavyE_ok hUc)
  have HHV := Lib.hid (heavyE_ok hVc)
  have hwt := HV.out.weight hmS
  have kW : IntKind.i64.wrap (Hn - (P.star S m).2.2) = Hn - (P.star S m).2.2 := IntWalk.i64_in _ (by omega)
  have dd1 : decide (Hn ≤ P.heavy (P.widen S m t) p L) = true := decide_eq_true hUh
  have dd2 : decide (P.heavy (S.eraseIdx m) p L ≤ Hn) = true := decide_eq_true hVh
  have dd3 : decide (Hn - (P.star S m).2.2 ≤ P.heavy (S.eraseIdx m) p L) = true := decide_eq_true hVl
  have hUx : ∃ d, P.fitsB (P.widen S m t) p L = d := ⟨_, rfl⟩
  obtain ⟨du, hdu⟩ := hUx
  have hVx : ∃ d, P.fitsB (S.eraseIdx m) p L = d := ⟨_, rfl⟩
  obtain ⟨dv, hdv⟩ := hVx
  have HFU := Lib.hid hdu
  have HFV := Lib.hid hdv
  clear hdu hdv
  clear hUc hUh hUf hVc hVh hVl hVf hwt hvl HWd HLs
  generalize P.widen S m t = U at *
  generalize S.eraseIdx m = V at *
  generalize P.heavy U p L = Hu at *
  generalize P.heavy V p L = Hv at *
  have hC := planned_any (some ⟨g, 0, none⟩) cap2 p L U w12 HZU.out HU12.out.st
  rw [HFU.out] at hC
  have HC := Lib.hid hC
  clear hC
  have x98 := HU12.out.x1
  have x99 := HU12.out.x2
  have x100 := HU12.out.x3
  go_wp2_with fail
  refine HC.out.mono ?_
  rintro e w10 ⟨rfl, hb⟩
  have HB101 := Lib.hid (HB12.out.trans (hb.mono HB12.out.size))
  have HJ102 := Lib.hid (HJ12.out.on hb)
  have HU103 := Lib.hid (HU12.out.on hb)
  have HW104 := Lib.hid (HVV.out.on hb)
  clear x98 x99 x100
  clear hb HC
  have hC := planned_any a5 c5 p L V w10 HZV.out HW104.out.st
  rw [HFV.out] at hC
  have HC := Lib.hid hC
  clear hC
  have x105 := HW104.out.x1
  have x106 := HW104.out.x2
  have x107 := HW104.out.x3
  go_wp2_with fail
  refine HC.out.mono ?_
  rintro e w11 ⟨rfl, hb⟩
  have HB108 := Lib.hid (HB101.out.trans (hb.mono HB101.out.size))
  have HJ109 := Lib.hid (HJ102.out.on hb)
  have HU110 := Lib.hid (HU103.out.on hb)
  have HW111 := Lib.hid (HW104.out.on hb)
  clear x105 x106 x107
  clear hb HC
  have hC := heaviest_any (some ⟨g, 0, none⟩) cap2 p L U w11 hlU HU110.out.st
  rw [HHU.out] at hC
  have HC := Lib.hid hC
  clear hC
  have x112 := HU110.out.x1
  have x113 := HU110.out.x2
  have x114 := HU110.out.x3
  go_wp2_with fail
  refine HC.out.mono ?_
  rintro e w12 ⟨rfl, hb⟩
  have HB115 := Lib.hid (HB108.out.trans (hb.mono HB108.out.size))
  have HJ116 := Lib.hid (HJ109.out.on hb)
  have HU117 := Lib.hid (HU110.out.on hb)
  have HW118 := Lib.hid (HW111.out.on hb)
  clear x112 x113 x114
  clear hb HC
  have hC := heaviest_any a5 c5 p L V w12 hlV HW118.out.st
  rw [HHV.out] at hC
  have HC := Lib.hid hC
  clear hC
  have x119 := HW118.out.x1
  have x120 := HW118.out.x2
  have x121 := HW118.out.x3
  go_wp2_with fail
  refine HC.out.mono ?_
  rintro e w13 ⟨rfl, hb⟩
  have HB122 := Lib.hid (HB115.out.trans (hb.mono HB115.out.size))
  have HJ123 := Lib.hid (HJ116.out.on hb)
  have HU124 := Lib.hid (HU117.out.on hb)
  have HW125 := Lib.hid (HW118.out.on hb)
  clear x119 x120 x121
  clear hb HC
  obtain ⟨b2, o2, e2, s1, s2, s3⟩ := HJ123.out.st m hmS
  cases e2
  have x126 := HJ123.out.x1
  have x127 := HJ123.out.x2
  have x128 := HJ123.out.x3
  go_wp2_with fail
  refine (works_any _).mono ?_
  rintro e w14 ⟨rfl, hb⟩
  have HB129 := Lib.hid (HB122.out.trans (hb.mono HB122.out.size))
  have HJ130 := Lib.hid (HJ123.out.on hb)
  have HU131 := Lib.hid (HU124.out.on hb)
  have HW132 := Lib.hid (HW125.out.on hb)
  clear hb
  clear x126 x127 x128
  go_wp2_with fail
  go_ret
  exact ⟨rfl, HB129.out⟩
set_option maxRecDepth 20000 in
set_option maxHeartbeats 20000000 in
theorem more_111 (a : Option Addr) (cap : Nat) (p L : Int) (S : List P.Star) (n1 n2 : Int) (w : World) (_hc : S.length ≤ cap) (ha : Stars w a S) (h1 : (Lit.int .u8 n1).wf = true) (h2 : (Lit.int .u8 n2).wf = true) (Hc : Hid (P.checkJob p L S = 0)) (H0 : Hid (¬ S.length = 0)) (Hf : Hid (P.fitsB S p L = true)) :
    Calls Try.prog 10 #[jobV p L a S.length cap, .int .u8 n1, .int .u8 n2] w fun e w' => e = .returned (.bool true) ∧ Below w.heap.size w w' := by
  have hn1 := u8_bd h1
  have hn2 := u8_bd h2
  clear h1 h2
  have HB0 := Lib.hid (Below.new w (.cells #[.int .i64 p, .int .i64 L, .slice a S.length cap] 24))
  have HC0 : Hid (Cells (w.alloc (.cells #[.int .i64 p, .int .i64 L, .slice a S.length cap] 24)) w.heap.size [.int .i64 p, .int .i64 L, .slice a S.length cap]) := Lib.hid (Cells.new w #[.int .i64 p, .int .i64 L, .slice a S.length cap] 24)
  have HSa := Lib.hid ha
  have HJ0 := Lib.hid (HC0.out.job (ha.alloc _))
  clear ha
  have HF := fine_any a cap p L S (w.alloc (.cells #[.int .i64 p, .int .i64 L, .slice a S.length cap] 24)) HJ0.out.st
  have hc := Hc.out
  rw [decide_eq_true hc] at HF
  have HF := Lib.hid HF
  have HZ := Lib.hid hc
  have HV := Lib.hid (P.checkJob_iff.1 hc)
  have hl : S.length ≤ 1000000 := by have := HV.out.len; omega
  clear hc
  have hp1 := HV.out.p1
  have hp5 := HV.out.p5
  have hL1 := HV.out.l1
  have hL20 := HV.out.l20
  have k1 : IntKind.i64.wrap (p + 1) = p + 1 := IntWalk.i64_in _ (by omega)
  have q4 : n1.tmod 4 = n1 % 4 := tmod_pos hn1.1
  have k2 : IntKind.i64.wrap n1 = n1 := IntWalk.i64_in _ (by omega)
  have k5 : IntKind.i64.wrap (n1 % 4) = n1 % 4 := IntWalk.i64_in _ (by omega)
  have hr0 : 0 ≤ n1 % 4 := by omega
  have hr1 : n1 % 4 < 4 := by omega
  generalize n1 % 4 = r at *
  have k3 : IntKind.i64.wrap (L + r) = L + r := IntWalk.i64_in _ (by omega)
  obtain ⟨q, hq⟩ : ∃ q, min 5 (p + 1) = q := ⟨_, rfl⟩
  obtain ⟨M, hM⟩ : ∃ M, min 20 (L + r) = M := ⟨_, rfl⟩
  have hq1 : p ≤ q := by omega
  have hq5 : q ≤ 5 := by omega
  have hM1 : L ≤ M := by omega
  have hM20 : M ≤ 20 := by omega
  have HZq := Lib.hid (P.checkJob_iff.2 (HV.out.punches hq1 hq5))
  have HZM := Lib.hid (P.checkJob_iff.2 (HV.out.life hM1 hM20))
  have hFq : P.fitsB S p L = true → P.fitsB S q L = true := fun h => P.fitsB_iff.2 ((P.fitsB_iff.1 h).mono hq1)
  have hFM : P.fitsB S p M = P.fitsB S p L := by rw [Bool.eq_iff_iff, P.fitsB_iff, P.fitsB_iff, P.fits_life HV.out.ok hM1 (by omega)]
  have HHS := Lib.hid (heavyE_ok HZ.out)
  have HHq := Lib.hid (heavyE_ok HZq.out)
  have HHM : Hid (P.heavyE p M S = (P.heavy S p L, 0)) := Lib.hid (by rw [heavyE_ok HZM.out, P.heavy_life HV.out hM1 hM20])
  have hlq := P.heavy_punches HV.out hq1 hq5
  have hlb := P.heavy_bd HV.out
  have HWd : Hid (∀ i t, i < S.length → (P.star S i).2.1 ≤ t → t < L → P.checkJob p L (P.widen S i t) = 0 ∧ P.heavy S p L ≤ P.heavy (P.widen S i t) p L ∧ (P.fitsB S p L = true → P.fitsB (P.widen S i t) p L = true)) := Lib.hid (fun i t hi h1 h2 => ⟨P.checkJob_iff.2 (P.widen_valid HV.out hi h1 h2), P.heavy_widen HV.out hi h1 h2, fun h => P.fitsB_iff.2 (P.fits_widen hi h1 (P.fitsB_iff.1 h))⟩)
  have HLs : Hid (∀ i, i < S.length → P.checkJob p L (S.eraseIdx i) = 0 ∧ P.heavy (S.eraseIdx i) p L ≤ P.heavy S p L ∧ P.heavy S p L - (P.star S i).2.2 ≤ P.heavy (S.eraseIdx i) p L ∧ (P.fitsB S p L = true → P.fitsB (S.eraseIdx i) p L = true)) := Lib.hid (fun i hi => ⟨P.checkJob_iff.2 (P.erase_valid HV.out i), (P.heavy_less HV.out hi).1, (P.heavy_less HV.out hi).2, fun h => P.fitsB_iff.2 (P.fits_erase i (P.fitsB_iff.1 h))⟩)
  have hE : S.length = 0 → P.heavy S p L = 0 ∧ P.fitsB S p L = true := fun h => more_nil HV.out h
  generalize P.heavy S p L = Hn at *
  generalize P.heavy S q L = Hm at *
  have hd1 : decide (Hm < Hn) = false := decide_eq_false (by omega)
  have x1 := HJ0.out.x1
  have x2 := HJ0.out.x2
  have x3 := HJ0.out.x3
  go_enter Try.func10, Try.ntmps10
  go_wp2_with fail
  refine (HF.out).mono ?_
  rintro e w1 ⟨rfl, hb⟩
  have HC4 := Lib.hid (HC0.out.on hb)
  have HB5 := Lib.hid (HB0.out.trans (hb.mono HB0.out.size))
  have HJ6 := Lib.hid (HJ0.out.on hb)
  clear x1 x2 x3
  clear hb
  have x7 := HJ6.out.x1
  have x8 := HJ6.out.x2
  have x9 := HJ6.out.x3
  go_wp2_with fail
  clear x7 x8 x9
  have hj0 := HC4.out.lt
  have hjb := HB5.out.size
  refine wp_two_boxes (by kernel_rfl) HJ6.out rfl (by show 33 < 249; decide) (by kernel_rfl) ?_
  rintro w2 g7 g8 hg7 hg8 hg hC7 hC8 hb
  have HC10 := Lib.hid (HC4.out.on hb)
  have HB11 := Lib.hid (HB5.out.trans (hb.mono HB5.out.size))
  have HJ12 := Lib.hid (HJ6.out.on hb)
  have HB3 : Hid (Below w.heap.size w ((w2.setCell ⟨g7, 0, none⟩ (.int .i64 q)).setCell ⟨g8, 1, none⟩ (.int .i64 M))) := Lib.hid ((HB11.out.setCell (p := ⟨g7, 0, none⟩) (by show w.heap.size ≤ g7; omega) _).setCell (p := ⟨g8, 1, none⟩) (by show w.heap.size ≤ g8; omega) _)
  have HC3 : Hid (Cells ((w2.setCell ⟨g7, 0, none⟩ (.int .i64 q)).setCell ⟨g8, 1, none⟩ (.int .i64 M)) w.heap.size [.int .i64 p, .int .i64 L, .slice a S.length cap]) := Lib.hid ((HC10.out.setOther (c := g7) 0 (.int .i64 q) (by omega)).setOther (c := g8) 1 (.int .i64 M) (by omega))
  have HX3 : Hid (Cells ((w2.setCell ⟨g7, 0, none⟩ (.int .i64 q)).setCell ⟨g8, 1, none⟩ (.int .i64 M)) g7 [.int .i64 q, .int .i64 L, .slice a S.length cap]) := Lib.hid ((hC7.set 0 (.int .i64 q) (by simp [jobL])).setOther (c := g8) 1 (.int .i64 M) (by omega))
  have HY3 : Hid (Cells ((w2.setCell ⟨g7, 0, none⟩ (.int .i64 q)).setCell ⟨g8, 1, none⟩ (.int .i64 M)) g8 [.int .i64 p, .int .i64 M, .slice a S.length cap]) := Lib.hid ((hC8.setOther (c := g7) 0 (.int .i64 q) (by omega)).set 1 (.int .i64 M) (by simp [jobL]))
  have HS3 := HSa.out.below HB3.out
  have HJ3 := Lib.hid (HC3.out.job HS3)
  have HK3 := Lib.hid (HX3.out.job HS3)
  have HL3 := Lib.hid (HY3.out.job HS3)
  have z7 := hC7.cel 0 _ rfl
  have v7 := hC7.fr 0
  have z8 := hC8.cel 1 _ rfl
  have v8 := hC8.fr 1
  clear hC7 hC8 hb HS3 HX3 HY3
  simp only [Act.put, List.setIfInBounds_toArray, List.set_cons_zero, List.set_cons_succ, ptrV]
  go_simp
  have x13 := HJ12.out.x1
  have x14 := HJ12.out.x2
  have x15 := HJ12.out.x3
  have hS0 := H0.out
  clear H0
  have hz : ((S.length : Int) == 0) = false := beq_eq_false_iff_ne.2 (by omega)
  clear hE
  have hf := Hf.out
  clear Hf
  have HFS := Lib.hid hf
  have HFM : Hid (P.fitsB S p M = true) := Lib.hid (hFM.trans hf)
  have hf2 := hFq hf
  have HFq := Lib.hid hf2
  clear hf hf2 hFq hFM
  have hC := planned_any a cap p L S ((w2.setCell ⟨g7, 0, none⟩ (.int .i64 q)).setCell ⟨g8, 1, none⟩ (.int .i64 M)) HZ.out HJ3.out.st
  rw [HFS.out] at hC
  have HC := Lib.hid hC
  clear hC
  have x16 := HJ3.out.x1
  have x17 := HJ3.out.x2
  have x18 := HJ3.out.x3
  go_wp2_with fail
  refine HC.out.mono ?_
  rintro e w3 ⟨rfl, hb⟩
  have HC19 := Lib.hid (HC3.out.on hb)
  have HB20 := Lib.hid (HB3.out.trans (hb.mono HB3.out.size))
  have HJ21 := Lib.hid (HJ3.out.on hb)
  have HK22 := Lib.hid (HK3.out.on hb)
  have HL23 := Lib.hid (HL3.out.on hb)
  clear x16 x17 x18
  clear hb HC
  clear z7 v7 z8 v8 x13 x14 x15
  have hC := planned_any a cap q L S w3 HZq.out HK22.out.st
  rw [HFq.out] at hC
  have HC := Lib.hid hC
  clear hC
  have x24 := HK22.out.x1
  have x25 := HK22.out.x2
  have x26 := HK22.out.x3
  go_wp2_with fail
  refine HC.out.mono ?_
  rintro e w4 ⟨rfl, hb⟩
  have HC27 := Lib.hid (HC19.out.on hb)
  have HB28 := Lib.hid (HB20.out.trans (hb.mono HB20.out.size))
  have HJ29 := Lib.hid (HJ21.out.on hb)
  have HK30 := Lib.hid (HK22.out.on hb)
  have HL31 := Lib.hid (HL23.out.on hb)
  clear x24 x25 x26
  clear hb HC
  have hC := planned_any a cap p M S w4 HZM.out HL31.out.st
  rw [HFM.out] at hC
  have HC := Lib.hid hC
  clear hC
  have x32 := HL31.out.x1
  have x33 := HL31.out.x2
  have x34 := HL31.out.x3
  go_wp2_with fail
  refine HC.out.mono ?_
  rintro e w5 ⟨rfl, hb⟩
  have HC35 := Lib.hid (HC27.out.on hb)
  have HB36 := Lib.hid (HB28.out.trans (hb.mono HB28.out.size))
  have HJ37 := Lib.hid (HJ29.out.on hb)
  have HK38 := Lib.hid (HK30.out.on hb)
  have HL39 := Lib.hid (HL31.out.on hb)
  clear x32 x33 x34
  clear hb HC
  have hC := heaviest_any a cap p L S w5 hl HJ37.out.st
  rw [HHS.out] at hC
  have HC := Lib.hid hC
  clear hC
  have x40 := HJ37.out.x1
  have x41 := HJ37.out.x2
  have x42 := HJ37.out.x3
  go_wp2_with fail
  refine HC.out.mono ?_
  rintro e w6 ⟨rfl, hb⟩
  have HC43 := Lib.hid (HC35.out.on hb)
  have HB44 := Lib.hid (HB36.out.trans (hb.mono HB36.out.size))
  have HJ45 := Lib.hid (HJ37.out.on hb)
  have HK46 := Lib.hid (HK38.out.on hb)
  have HL47 := Lib.hid (HL39.out.on hb)
  clear x40 x41 x42
  clear hb HC
  have hC := heaviest_any a cap q L S w6 hl HK46.out.st
  rw [HHq.out] at hC
  have HC := Lib.hid hC
  clear hC
  have x48 := HK46.out.x1
  have x49 := HK46.out.x2
  have x50 := HK46.out.x3
  go_wp2_with fail
  refine HC.out.mono ?_
  rintro e w7 ⟨rfl, hb⟩
  have HC51 := Lib.hid (HC43.out.on hb)
  have HB52 := Lib.hid (HB44.out.trans (hb.mono HB44.out.size))
  have HJ53 := Lib.hid (HJ45.out.on hb)
  have HK54 := Lib.hid (HK46.out.on hb)
  have HL55 := Lib.hid (HL47.out.on hb)
  clear x48 x49 x50
  clear hb HC
  have hC := heaviest_any a cap p M S w7 hl HL55.out.st
  rw [HHM.out] at hC
  have HC := Lib.hid hC
  clear hC
  have x56 := HL55.out.x1
  have x57 := HL55.out.x2
  have x58 := HL55.out.x3
  go_wp2_with fail
  refine HC.out.mono ?_
  rintro e w8 ⟨rfl, hb⟩
  have HC59 := Lib.hid (HC51.out.on hb)
  have HB60 := Lib.hid (HB52.out.trans (hb.mono HB52.out.size))
  have HJ61 := Lib.hid (HJ53.out.on hb)
  have HK62 := Lib.hid (HK54.out.on hb)
  have HL63 := Lib.hid (HL55.out.on hb)
  clear x56 x57 x58
  clear hb HC
  obtain ⟨sb, so, hae, -⟩ := HSa.out 0 (by omega)
  subst hae
  have hi0 := Int.emod_nonneg n2 (b := (S.length : Int)) (by omega)
  have hi1 := Int.emod_lt_of_pos n2 (b := (S.length : Int)) (by omega)
  have q1 : n2.tmod (S.length : Int) = n2 % (S.length : Int) := tmod_pos hn2.1
  have e1 : ¬ (S.length : Int) = 0 := by omega
  generalize n2 % (S.length : Int) = t at *
  obtain ⟨m, rfl⟩ := Int.eq_ofNat_of_zero_le hi0
  have hmS : m < S.length := by omega
  have k0 : IntKind.i64.wrap n2 = n2 := IntWalk.i64_in _ (by omega)
  have k6 : IntKind.i64.wrap (m : Int) = (m : Int) := IntWalk.i64_in _ (by omega)
  clear hi0 hi1
  have x64 := HJ61.out.x1
  have x65 := HJ61.out.x2
  have x66 := HJ61.out.x3
  go_wp2_with fail
  clear x64 x65 x66
  have hw8 := HC59.out.lt
  refine (refAt_own (some ⟨sb, so, none⟩) cap p L S m 0 w8 hmS hl HJ61.out.st).mono ?_
  rintro e w9 ⟨g, cap2, rfl, hs, hcap2, hgw, hfr, hb⟩
  have HC67 := Lib.hid (HC59.out.on hb)
  have HB68 := Lib.hid (HB60.out.trans (hb.mono HB60.out.size))
  have HJ69 := Lib.hid (HJ61.out.on hb)
  have HT := Lib.hid hs
  clear hb
  go_wp2_with fail
  have hgl : g < w9.heap.size := hs.lt (by rw [P.atW_length]; omega) g 0 rfl
  have hbx := Below.new w9 (.cells #[.int .i64 p, .int .i64 L, .slice (some ⟨g, 0, none⟩) S.length cap2] 24)
  have hFr : ∀ o, (w9.alloc (.cells #[.int .i64 p, .int .i64 L, .slice (some ⟨g, 0, none⟩) S.length cap2] 24)).frozen? ⟨g, o, none⟩ = false := fun o => (hbx.frozen (p := ⟨g, o, none⟩) hgl).trans (hfr o)
  have hX := Cells.new w9 #[.int .i64 p, .int .i64 L, .slice (some ⟨g, 0, none⟩) S.length cap2] 24
  have hwg := HB68.out.size
  have hjb := HC67.out.lt
  obtain ⟨bx, hbxe⟩ : ∃ bx, w9.heap.size = bx := ⟨_, rfl⟩
  have hgb : g < bx := by omega
  have hbw : w.heap.size ≤ bx := by omega
  have HC70 := Lib.hid (HC67.out.on hbx)
  have HB71 := Lib.hid (HB68.out.trans (hbx.mono HB68.out.size))
  have HJ72 := Lib.hid (HJ69.out.on hbx)
  have HT73 := Lib.hid (HT.out.below hbx)
  generalize w9.alloc (.cells #[.int .i64 p, .int .i64 L, .slice (some ⟨g, 0, none⟩) S.length cap2] 24) = W4 at *
  clear hs hfr hbx
  rw [hbxe] at *
  clear hbxe
  obtain ⟨b', off', e', s1, s2, s3⟩ := HJ72.out.st m hmS
  cases e'
  obtain ⟨b2, o2, e2, u1, u2, u3⟩ := HT73.out m (by rw [P.atW_length]; exact hmS)
  cases e2
  simp only [Nat.zero_add] at u1 u2 u3
  have HX10 := Lib.hid hX
  have HFr0 := Lib.hid hFr
  have hmI : (m : Int) < (S.length : Int) := by omega
  have hm0 : (0 : Int) ≤ (m : Int) := by omega
  have hw4 := HT73.out.lt (by rw [P.atW_length]; omega) g 0 rfl
  clear hX hFr
  refine wp_region_growrow 8 [140, 141, 142, 143, 144, 145, 146, 147] [KEq (.pointer (some ⟨bx, 2, none⟩)), KEq (.slice (some ⟨g, 0, none⟩) S.length cap2), KEq (.int .i64 (m : Int)), KEq (.pointer (some ⟨w.heap.size, 2, none⟩)), KEq (.slice (some ⟨sb, so, none⟩) S.length cap), KEq (.int .i64 (m : Int)), KEq (.pointer (some ⟨sb, so + m * 3, none⟩)), KEq (.agg #[.int .i64 (P.star S m).1, .int .i64 (P.star S m).2.1, .int .i64 (P.star S m).2.2])] (by kernel_rfl) (by kernel_rfl) (by kernel_rfl) (by kernel_rfl) (by kernel_rfl) rfl ⟨KEq.st (.pointer (some ⟨bx, 2, none⟩)), KEq.st (.slice (some ⟨g, 0, none⟩) S.length cap2), KEq.st (.int .i64 (m : Int)), KEq.st (.pointer (some ⟨w.heap.size, 2, none⟩)), KEq.st (.slice (some ⟨sb, so, none⟩) S.length cap), KEq.st (.int .i64 (m : Int)), KEq.st (.pointer (some ⟨sb, so + m * 3, none⟩)), KEq.st (.agg #[.int .i64 (P.star S m).1, .int .i64 (P.star S m).2.1, .int .i64 (P.star S m).2.2]), trivial⟩ ⟨step_out (q := 22) (by decide) rfl rfl (fun a' w' e hb => by simp [execOp, go_sem, e]), step_by1 (j := 0) (q := 140) rfl (by decide +kernel) rfl rfl (fun a' w' e hb => by have x := cell_on hb (HX10.out.cel 2 _ rfl); simp [execOp, go_sem, e, x]), step_moveOut (q := 21) (by decide) rfl rfl, step_out (q := 3) (by decide) rfl rfl (fun a' w' e hb => by simp [execOp, go_sem, e]), step_by1 (j := 3) (q := 143) rfl (by decide +kernel) rfl rfl (fun a' w' e hb => by have x := cell_on hb HJ72.out.x3; simp [execOp, go_sem, e, x]), step_moveOut (q := 21) (by decide) rfl rfl, step_by2 (j1 := 4) (j2 := 5) (q1 := 144) (q2 := 145) rfl (by decide +kernel) rfl rfl (by decide +kernel) rfl rfl (fun a' w' e1 e2 hb => by simp [execOp, go_sem, e1, e2, hmI, hm0]), step_by1 (j := 6) (q := 146) rfl (by decide +kernel) rfl rfl (fun a' w' e hb => by have y1 := cell_on hb s1; have y2 := cell_on hb s2; have y3 := cell_on hb s3; simp [execOp, go_sem, e, y1, y2, y3]), trivial⟩ ?_
  rintro w5 hb _ rfl _ rfl _ rfl _ rfl _ rfl _ rfl _ rfl _ rfl
  have HFr5 : Hid (∀ o, w5.frozen? ⟨g, o, none⟩ = false) := Lib.hid (fun o => (hb.frozen (p := ⟨g, o, none⟩) hw4).trans (HFr0.out o))
  have HC74 := Lib.hid (HC70.out.on hb)
  have HB75 := Lib.hid (HB71.out.trans (hb.mono HB71.out.size))
  have HJ76 := Lib.hid (HJ72.out.on hb)
  have HT77 := Lib.hid (HT73.out.below hb)
  have HX78 := Lib.hid (HX10.out.on hb)
  have u1 := cell_on hb u1
  have u2 := cell_on hb u2
  have u3 := cell_on hb u3
  have f1 := HFr5.out (m * 3)
  have f2 := HFr5.out (m * 3 + 1)
  have f3 := HFr5.out (m * 3 + 2)
  have U1 := Lib.hid u1
  have U2 := Lib.hid u2
  have U3 := Lib.hid u3
  clear hb s1 s2 s3
  simp only [EndsG, Act.put, List.setIfInBounds_toArray, List.set_cons_zero, List.set_cons_succ, List.drop, RowWp]
  go_simp
  clear f1 f2 f3 u1 u2 u3
  have HB6 : Hid (Below w.heap.size w (((w5.setCell ⟨g, m * 3, none⟩ (.int .i64 (P.star S m).1)).setCell ⟨g, m * 3 + 1, none⟩ (.int .i64 (P.star S m).2.1)).setCell ⟨g, m * 3 + 2, none⟩ (.int .i64 (P.star S m).2.2))) := Lib.hid (((HB75.out.setCell (p := ⟨g, m * 3, none⟩) (by show w.heap.size ≤ g; omega) _).setCell (p := ⟨g, m * 3 + 1, none⟩) (by show w.heap.size ≤ g; omega) _).setCell (p := ⟨g, m * 3 + 2, none⟩) (by show w.heap.size ≤ g; omega) _)
  have HC6 : Hid (Cells (((w5.setCell ⟨g, m * 3, none⟩ (.int .i64 (P.star S m).1)).setCell ⟨g, m * 3 + 1, none⟩ (.int .i64 (P.star S m).2.1)).setCell ⟨g, m * 3 + 2, none⟩ (.int .i64 (P.star S m).2.2)) w.heap.size [.int .i64 p, .int .i64 L, .slice (some ⟨sb, so, none⟩) S.length cap]) := Lib.hid (((HC74.out.setOther (c := g) (m * 3) (.int .i64 (P.star S m).1) (by omega)).setOther (c := g) (m * 3 + 1) (.int .i64 (P.star S m).2.1) (by omega)).setOther (c := g) (m * 3 + 2) (.int .i64 (P.star S m).2.2) (by omega))
  have HX6 : Hid (Cells (((w5.setCell ⟨g, m * 3, none⟩ (.int .i64 (P.star S m).1)).setCell ⟨g, m * 3 + 1, none⟩ (.int .i64 (P.star S m).2.1)).setCell ⟨g, m * 3 + 2, none⟩ (.int .i64 (P.star S m).2.2)) bx [.int .i64 p, .int .i64 L, .slice (some ⟨g, 0, none⟩) S.length cap2]) := Lib.hid (((HX78.out.setOther (c := g) (m * 3) (.int .i64 (P.star S m).1) (by omega)).setOther (c := g) (m * 3 + 1) (.int .i64 (P.star S m).2.1) (by omega)).setOther (c := g) (m * 3 + 2) (.int .i64 (P.star S m).2.2) (by omega))
  have HFr6 : Hid (∀ o, (((w5.setCell ⟨g, m * 3, none⟩ (.int .i64 (P.star S m).1)).setCell ⟨g, m * 3 + 1, none⟩ (.int .i64 (P.star S m).2.1)).setCell ⟨g, m * 3 + 2, none⟩ (.int .i64 (P.star S m).2.2)).frozen? ⟨g, o, none⟩ = false) := Lib.hid (fun o => (((World.frozen?_setCell _ _ _ _).trans (World.frozen?_setCell _ _ _ _)).trans (World.frozen?_setCell _ _ _ _)).trans (HFr5.out o))
  have hT6 := HT77.out.putStar (w' := (((w5.setCell ⟨g, m * 3, none⟩ (.int .i64 (P.star S m).1)).setCell ⟨g, m * 3 + 1, none⟩ (.int .i64 (P.star S m).2.1)).setCell ⟨g, m * 3 + 2, none⟩ (.int .i64 (P.star S m).2.2))) (i := m) (s := P.star S m) (by rw [P.atW_length]; exact hmS) ((World.cell?_setCell_other _ _ _ _ (fun e => by have e := congrArg Addr.off e; simp only at e; omega)).trans ((World.cell?_setCell_other _ _ _ _ (fun e => by have e := congrArg Addr.off e; simp only at e; omega)).trans (World.cell?_setCell_same _ _ _ U1.out))) ((World.cell?_setCell_other _ _ _ _ (fun e => by have e := congrArg Addr.off e; simp only at e; omega)).trans (World.cell?_setCell_same _ _ _ ((World.cell?_setCell_other _ _ _ _ (fun e => by have e := congrArg Addr.off e; simp only at e; omega)).trans U2.out))) (World.cell?_setCell_same _ _ _ ((World.cell?_setCell_other _ _ _ _ (fun e => by have e := congrArg Addr.off e; simp only at e; omega)).trans ((World.cell?_setCell_other _ _ _ _ (fun e => by have e := congrArg Addr.off e; simp only at e; omega)).trans U3.out))) (fun o h1 h2 h3 => (World.cell?_setCell_other _ _ _ _ (fun e => by have e := congrArg Addr.off e; simp only at e; omega)).trans ((World.cell?_setCell_other _ _ _ _ (fun e => by have e := congrArg Addr.off e; simp only at e; omega)).trans (World.cell?_setCell_other _ _ _ _ (fun e => by have e := congrArg Addr.off e; simp only at e; omega))))
  rw [atW_back S m 0 hmS] at hT6
  have HT6 := Lib.hid hT6
  clear hT6 HFr5 U1 U2 U3
  generalize (((w5.setCell ⟨g, m * 3, none⟩ (.int .i64 (P.star S m).1)).setCell ⟨g, m * 3 + 1, none⟩ (.int .i64 (P.star S m).2.1)).setCell ⟨g, m * 3 + 2, none⟩ (.int .i64 (P.star S m).2.2)) = w6 at *
  have HJ6 := Lib.hid (HC6.out.job (HSa.out.below HB6.out))
  have hw6 := HT6.out.lt (by omega) g 0 rfl
  obtain ⟨b2, o2, e2, u1, u2, u3⟩ := HT6.out m hmS
  cases e2
  simp only [Nat.zero_add] at u1 u2 u3
  have hst := HV.out.star hmS
  obtain ⟨t, ht⟩ : ∃ t, min (L - 1) ((P.star S m).2.1 + r) = t := ⟨_, rfl⟩
  have ht1 : (P.star S m).2.1 ≤ t := by omega
  have ht2 : t < L := by omega
  have kL : IntKind.i64.wrap (L - 1) = L - 1 := IntWalk.i64_in _ (by omega)
  have kT : IntKind.i64.wrap ((P.star S m).2.1 + r) = (P.star S m).2.1 + r := IntWalk.i64_in _ (by omega)
  go_wp2_with fail
  refine wp_region_growrow 17 [149, 150, 151, 152, 153, 154, 155, 156, 157, 158, 159, 160, 161, 162, 163, 164, 165] [KEq (.pointer (some ⟨bx, 2, none⟩)), KEq (.slice (some ⟨g, 0, none⟩) S.length cap2), KEq (.int .i64 (m : Int)), KEq (.pointer (some ⟨w.heap.size, 1, none⟩)), KEq (.int .i64 (L)), KEq (.int .i64 (L - 1)), KEq (.pointer (some ⟨bx, 2, none⟩)), KEq (.slice (some ⟨g, 0, none⟩) S.length cap2), KEq (.int .i64 (m : Int)), KEq (.pointer (some ⟨g, m * 3, none⟩)), KEq (.pointer (some ⟨g, m * 3 + 1, none⟩)), KEq (.int .i64 ((P.star S m).2.1)), KEq (.int .u8 n1), KEq (.int .i64 (n1)), KEq (.int .i64 (r)), KEq (.int .i64 ((P.star S m).2.1 + r)), KEq (.int .i64 (t))] (by kernel_rfl) (by kernel_rfl) (by kernel_rfl) (by kernel_rfl) (by kernel_rfl) rfl ⟨KEq.st (.pointer (some ⟨bx, 2, none⟩)), KEq.st (.slice (some ⟨g, 0, none⟩) S.length cap2), KEq.st (.int .i64 (m : Int)), KEq.st (.pointer (some ⟨w.heap.size, 1, none⟩)), KEq.st (.int .i64 (L)), KEq.st (.int .i64 (L - 1)), KEq.st (.pointer (some ⟨bx, 2, none⟩)), KEq.st (.slice (some ⟨g, 0, none⟩) S.length cap2), KEq.st (.int .i64 (m : Int)), KEq.st (.pointer (some ⟨g, m * 3, none⟩)), KEq.st (.pointer (some ⟨g, m * 3 + 1, none⟩)), KEq.st (.int .i64 ((P.star S m).2.1)), KEq.st (.int .u8 n1), KEq.st (.int .i64 (n1)), KEq.st (.int .i64 (r)), KEq.st (.int .i64 ((P.star S m).2.1 + r)), KEq.st (.int .i64 (t)), trivial⟩ ⟨step_out (q := 22) (by decide) rfl rfl (fun a' w' e hb => by simp [execOp, go_sem, e]), step_by1 (j := 0) (q := 149) rfl (by decide +kernel) rfl rfl (fun a' w' e hb => by have x := cell_on hb (HX6.out.cel 2 _ rfl); simp [execOp, go_sem, e, x]), step_moveOut (q := 21) (by decide) rfl rfl, step_out (q := 3) (by decide) rfl rfl (fun a' w' e hb => by simp [execOp, go_sem, e]), step_by1 (j := 3) (q := 152) rfl (by decide +kernel) rfl rfl (fun a' w' e hb => by have x := cell_on hb (HC6.out.cel 1 _ rfl); simp [execOp, go_sem, e, x]), step_by1 (j := 4) (q := 153) rfl (by decide +kernel) rfl rfl (fun a' w' e hb => by simp [execOp, go_sem, e, kL]), step_out (q := 22) (by decide) rfl rfl (fun a' w' e hb => by simp [execOp, go_sem, e]), step_by1 (j := 6) (q := 155) rfl (by decide +kernel) rfl rfl (fun a' w' e hb => by have x := cell_on hb (HX6.out.cel 2 _ rfl); simp [execOp, go_sem, e, x]), step_moveOut (q := 21) (by decide) rfl rfl, step_by2 (j1 := 7) (j2 := 8) (q1 := 156) (q2 := 157) rfl (by decide +kernel) rfl rfl (by decide +kernel) rfl rfl (fun a' w' e1 e2 hb => by simp [execOp, go_sem, e1, e2, hmI, hm0]), step_by1 (j := 9) (q := 158) rfl (by decide +kernel) rfl rfl (fun a' w' e hb => by simp [execOp, go_sem, e]), step_by1 (j := 10) (q := 159) rfl (by decide +kernel) rfl rfl (fun a' w' e hb => by have x := cell_on hb u2; simp [execOp, go_sem, e, x]), step_moveOut (q := 1) (by decide) rfl rfl, step_by1 (j := 12) (q := 161) rfl (by decide +kernel) rfl rfl (fun a' w' e hb => by simp [execOp, go_sem, e, k2]), step_by1 (j := 13) (q := 162) rfl (by decide +kernel) rfl rfl (fun a' w' e hb => by simp [execOp, go_sem, e, q4]), step_by2 (j1 := 11) (j2 := 14) (q1 := 160) (q2 := 163) rfl (by decide +kernel) rfl rfl (by decide +kernel) rfl rfl (fun a' w' e1 e2 hb => by simp [execOp, go_sem, e1, e2, kT]), step_by2 (j1 := 5) (j2 := 15) (q1 := 154) (q2 := 164) rfl (by decide +kernel) rfl rfl (by decide +kernel) rfl rfl (fun a' w' e1 e2 hb => by simp [execOp, go_sem, e1, e2, ht]), trivial⟩ ?_
  rintro w7 hb _ rfl _ rfl _ rfl _ rfl _ rfl _ rfl _ rfl _ rfl _ rfl _ rfl _ rfl _ rfl _ rfl _ rfl _ rfl _ rfl _ rfl
  have HFr7 : Hid (∀ o, w7.frozen? ⟨g, o, none⟩ = false) := Lib.hid (fun o => (hb.frozen (p := ⟨g, o, none⟩) hw6).trans (HFr6.out o))
  have HB79 := Lib.hid (HB6.out.trans (hb.mono HB6.out.size))
  have HC80 := Lib.hid (HC6.out.on hb)
  have HX81 := Lib.hid (HX6.out.on hb)
  have HJ82 := Lib.hid (HJ6.out.on hb)
  have HT83 := Lib.hid (HT6.out.below hb)
  have u1 := cell_on hb u1
  have u2 := cell_on hb u2
  have u3 := cell_on hb u3
  have f2 := HFr7.out (m * 3 + 1)
  have U1 := Lib.hid u1
  have U2 := Lib.hid u2
  have U3 := Lib.hid u3
  clear hb u1 u3 HFr6
  simp only [EndsG, Act.put, List.setIfInBounds_toArray, List.set_cons_zero, List.set_cons_succ, List.drop, RowWp]
  go_simp
  clear f2 u2
  have HB8 : Hid (Below w.heap.size w (w7.setCell ⟨g, m * 3 + 1, none⟩ (.int .i64 t))) := Lib.hid (HB79.out.setCell (p := ⟨g, m * 3 + 1, none⟩) (by show w.heap.size ≤ g; omega) _)
  have HC8 : Hid (Cells (w7.setCell ⟨g, m * 3 + 1, none⟩ (.int .i64 t)) w.heap.size [.int .i64 p, .int .i64 L, .slice (some ⟨sb, so, none⟩) S.length cap]) := Lib.hid (HC80.out.setOther (c := g) (m * 3 + 1) (.int .i64 t) (by omega))
  have HX8 : Hid (Cells (w7.setCell ⟨g, m * 3 + 1, none⟩ (.int .i64 t)) bx [.int .i64 p, .int .i64 L, .slice (some ⟨g, 0, none⟩) S.length cap2]) := Lib.hid (HX81.out.setOther (c := g) (m * 3 + 1) (.int .i64 t) (by omega))
  have HT8 : Hid (Stars (w7.setCell ⟨g, m * 3 + 1, none⟩ (.int .i64 t)) (some ⟨g, 0, none⟩) (P.widen S m t)) := Lib.hid (HT83.out.putStar (w' := (w7.setCell ⟨g, m * 3 + 1, none⟩ (.int .i64 t))) (i := m) (s := ((P.star S m).1, t, (P.star S m).2.2)) hmS ((World.cell?_setCell_other _ _ _ _ (fun e => by have e := congrArg Addr.off e; simp only at e; omega)).trans U1.out) (World.cell?_setCell_same _ _ _ U2.out) ((World.cell?_setCell_other _ _ _ _ (fun e => by have e := congrArg Addr.off e; simp only at e; omega)).trans U3.out) (fun o h1 h2 h3 => (World.cell?_setCell_other _ _ _ _ (fun e => by have e := congrArg Addr.off e; simp only at e; omega))))
  clear U1 U2 U3 HFr7
  generalize (w7.setCell ⟨g, m * 3 + 1, none⟩ (.int .i64 t)) = w8' at *
  have HJ8 := Lib.hid (HC8.out.job (HSa.out.below HB8.out))
  have x84 := HJ8.out.x1
  have x85 := HJ8.out.x2
  have x86 := HJ8.out.x3
  go_wp2_with fail
  clear x84 x85 x86
  have hby := HB8.out.size
  have hwy := HC8.out.lt
  have hxy := HX8.out.lt
  have hgy := HT8.out.lt (by rw [P.widen_length]; omega) g 0 rfl
  have hbx := Below.new w8' (.cells #[.int .i64 p, .int .i64 L, .slice (some ⟨sb, so, none⟩) S.length cap] 24)
  have HY9 := Lib.hid (Cells.new w8' #[.int .i64 p, .int .i64 L, .slice (some ⟨sb, so, none⟩) S.length cap] 24)
  obtain ⟨yb, hyb⟩ : ∃ yb, w8'.heap.size = yb := ⟨_, rfl⟩
  have hybw : w.heap.size < yb := by omega
  have hybx : bx < yb := by omega
  have hybg : g < yb := by omega
  have hyb9 : yb < (w8'.alloc (.cells #[.int .i64 p, .int .i64 L, .slice (some ⟨sb, so, none⟩) S.length cap] 24)).heap.size := by simp; omega
  have HB87 := Lib.hid (HB8.out.trans (hbx.mono HB8.out.size))
  have HC88 := Lib.hid (HC8.out.on hbx)
  have HX89 := Lib.hid (HX8.out.on hbx)
  have HJ90 := Lib.hid (HJ8.out.on hbx)
  have HT91 := Lib.hid (HT8.out.below hbx)
  generalize w8'.alloc (.cells #[.int .i64 p, .int .i64 L, .slice (some ⟨sb, so, none⟩) S.length cap] 24) = w9' at *
  rw [hyb] at HY9 ⊢
  clear hbx hby hwy hxy hgy hyb
  have hTm : (S.take m).length = m := by rw [List.length_take]; omega
  have hmc : (m : Int) ≤ (cap : Int) := by omega
  have hmc1 : (m : Int) + 1 ≤ (cap : Int) := by omega
  have hm1 : (m : Int) + 1 ≤ (S.length : Int) := by omega
  have hm01 : (0 : Int) ≤ (m : Int) + 1 := by omega
  have h16 : S.length ≤ 16 := HV.out.len
  have km1 : IntKind.i64.wrap ((m : Int) + 1) = (m : Int) + 1 := IntWalk.i64_in _ (by omega)
  have hS9 := HJ90.out.st
  have hTk : Stars w9' (some ⟨sb, so, none⟩) (S.take m) := hS9.part (Nat.le_of_lt hmS)
  obtain ⟨ad, c10, hN, hAd⟩ : ∃ (ad : Addr) (c10 : Nat), (∀ j u, (flatS (S.drop (m + 1)))[j]? = some u → w9'.cell? (ad.add j) = some u) ∧ (ad = ⟨sb, so + (m + 1) * 3, none⟩ ∧ c10 = cap - (m + 1) ∧ m + 1 < cap ∨ ad = ⟨sb, so, none⟩ ∧ c10 = 0 ∧ m + 1 = cap) := more_tail hS9 hmS _hc
  have HN9 := Lib.hid hN
  clear hN
  go_wp2_with fail
  refine wp_region_growrow 11 [169, 170, 171, 172, 173, 174, 175, 176, 177, 178, 179] [KEmp w9'.heap.size, KEq (.pointer (some ⟨w.heap.size, 2, none⟩)), KEq (.slice (some ⟨sb, so, none⟩) S.length cap), KEq (.int .i64 (m : Int)), KEq (.slice (some ⟨sb, so, none⟩) (S.take m).length cap), KOwn w9'.heap.size (S.take m), KEq (.pointer (some ⟨w.heap.size, 2, none⟩)), KEq (.slice (some ⟨sb, so, none⟩) S.length cap), KEq (.int .i64 (m : Int)), KEq (.int .i64 ((m : Int) + 1)), KEq (.slice (some ad) (S.length - (m + 1)) c10)] (by kernel_rfl) (by kernel_rfl) (by kernel_rfl) (by kernel_rfl) (by kernel_rfl) rfl ⟨KEmp.st w9'.heap.size, KEq.st (.pointer (some ⟨w.heap.size, 2, none⟩)), KEq.st (.slice (some ⟨sb, so, none⟩) S.length cap), KEq.st (.int .i64 (m : Int)), KEq.st (.slice (some ⟨sb, so, none⟩) (S.take m).length cap), KOwn.st w9'.heap.size (S.take m), KEq.st (.pointer (some ⟨w.heap.size, 2, none⟩)), KEq.st (.slice (some ⟨sb, so, none⟩) S.length cap), KEq.st (.int .i64 (m : Int)), KEq.st (.int .i64 ((m : Int) + 1)), KEq.st (.slice (some ad) (S.length - (m + 1)) c10), trivial⟩ ⟨step_emp rfl, step_out (q := 3) (by decide) rfl rfl (fun a' w' e hb => by simp [execOp, go_sem, e]), step_by1 (j := 1) (q := 170) rfl (by decide +kernel) rfl rfl (fun a' w' e hb => by have x := cell_on hb HJ90.out.x3; simp [execOp, go_sem, e, x]), step_moveOut (q := 21) (by decide) rfl rfl, step_by2 (j1 := 2) (j2 := 3) (q1 := 171) (q2 := 172) rfl (by decide +kernel) rfl rfl (by decide +kernel) rfl rfl (fun a' w' e1 e2 hb => by simp [execOp, go_sem, e1, e2, hTm, hmc, hmI]), step_app0 (j1 := 0) (j2 := 4) hTk (by omega) rfl (by decide +kernel) rfl rfl (by decide +kernel) rfl rfl, step_out (q := 3) (by decide) rfl rfl (fun a' w' e hb => by simp [execOp, go_sem, e]), step_by1 (j := 6) (q := 175) rfl (by decide +kernel) rfl rfl (fun a' w' e hb => by have x := cell_on hb HJ90.out.x3; simp [execOp, go_sem, e, x]), step_moveOut (q := 21) (by decide) rfl rfl, step_by1 (j := 8) (q := 177) rfl (by decide +kernel) rfl rfl (fun a' w' e hb => by simp [execOp, go_sem, e, km1]), step_by2 (j1 := 7) (j2 := 9) (q1 := 176) (q2 := 178) rfl (by decide +kernel) rfl rfl (by decide +kernel) rfl rfl (fun a' w' e1 e2 hb => by rcases hAd with ⟨rfl, rfl, h3⟩ | ⟨rfl, rfl, h3⟩; (have h4 : ¬ cap = m + 1 := by omega); (simp [execOp, go_sem, e1, e2, hmc1, hm1, hm01, h4]); (simp [execOp, go_sem, e1, e2, hmc1, hm1, hm01, h3])), trivial⟩ ?_
  rintro w10 hb _ ⟨g0, rfl, -⟩ _ rfl _ rfl _ rfl _ rfl v5 hown0 _ rfl _ rfl _ rfl _ rfl _ rfl
  have hN10 : ∀ j u, (flatS (S.drop (m + 1)))[j]? = some u → w10.cell? (ad.add j) = some u := fun j u hj => cell_on hb (HN9.out j u hj)
  have hown : w10.ownsRow w9'.heap.size 59 3 v5 m (flatS (S.take m)) := by
    have h : w10.ownsRow w9'.heap.size 59 3 v5 (S.take m).length (flatS (S.take m)) := hown0
    rwa [hTm] at h
  clear hown0
  have hvl : m + (S.length - (m + 1)) = (S.eraseIdx m).length := by rw [P.erase_length hmS]; omega
  have hb10 := hb.size
  simp only [EndsG, Act.put, List.setIfInBounds_toArray, List.set_cons_zero, List.set_cons_succ, List.drop, RowWp]
  refine wpAppV (.tmp 174) (.tmp 179) rfl w9'.heap.size v5 m (S.take m) (S.drop (m + 1)) (S.eraseIdx m) (S.length - (m + 1)) c10 ad rfl hown rfl (by rw [List.length_drop]) hN10 (by omega) hb10 (List.eraseIdx_eq_take_drop_succ S m).symm hvl ?_
  intro a5 c5 w11 hown2 hg2 hs5
  have hb11 : Below w9'.heap.size w9' w11 := hb.grown hg2 hb10 (fun k e => (hown.lt k e).1)
  clear hN10 hown hb hS9 hTk HN9 hg2
  have HB92 := Lib.hid (HB87.out.trans (hb11.mono HB87.out.size))
  have HC93 := Lib.hid (HC88.out.on hb11)
  have HX94 := Lib.hid (HX89.out.on hb11)
  have HJ95 := Lib.hid (HJ90.out.on hb11)
  have HT96 := Lib.hid (HT91.out.below hb11)
  have HY97 := Lib.hid (HY9.out.on hb11)
  have y2 := HY97.out.cel 2 _ rfl
  have fy := HY97.out.fr 2
  go_simp
  clear y2 fy
  have HB12 : Hid (Below w.heap.size w (w11.setCell ⟨yb, 2, none⟩ (.slice a5 (S.eraseIdx m).length c5))) := Lib.hid (HB92.out.setCell (p := ⟨yb, 2, none⟩) (by show w.heap.size ≤ yb; omega) _)
  have HC12 : Hid (Cells (w11.setCell ⟨yb, 2, none⟩ (.slice a5 (S.eraseIdx m).length c5)) w.heap.size [.int .i64 p, .int .i64 L, .slice (some ⟨sb, so, none⟩) S.length cap]) := Lib.hid (HC93.out.setOther (c := yb) 2 (.slice a5 (S.eraseIdx m).length c5) (by omega))
  have HX12 : Cells (w11.setCell ⟨yb, 2, none⟩ (.slice a5 (S.eraseIdx m).length c5)) bx [.int .i64 p, .int .i64 L, .slice (some ⟨g, 0, none⟩) (P.widen S m t).length cap2] := by rw [P.widen_length]; exact HX94.out.setOther (c := yb) 2 (.slice a5 (S.eraseIdx m).length c5) (by omega)
  have HY12 : Cells (w11.setCell ⟨yb, 2, none⟩ (.slice a5 (S.eraseIdx m).length c5)) yb [.int .i64 p, .int .i64 L, .slice a5 (S.eraseIdx m).length c5] := HY97.out.set 2 (.slice a5 (S.eraseIdx m).length c5) (by simp)
  have HU12 := Lib.hid (HX12.job (HT96.out.setOther (c := yb) 2 (.slice a5 (S.eraseIdx m).length c5) (by omega)))
  have HVV := Lib.hid (HY12.job (hs5.setAside yb 2 (.slice a5 (S.eraseIdx m).length c5) (fun b off e => by have := (hown2.lt b (by rw [e]; rfl)).1; omega)))
  have HJ12 := Lib.hid (HC12.out.job (HSa.out.below HB12.out))
  clear HX12 HY12 hs5 hown2 hb11
  generalize (w11.setCell ⟨yb, 2, none⟩ (.slice a5 (S.eraseIdx m).length c5)) = w12 at *
  obtain ⟨hUc, hUh, hUf⟩ := HWd.out m t hmS ht1 ht2
  obtain ⟨hVc, hVh, hVl, hVf⟩ := HLs.out m hmS
  have hlU : (P.widen S m t).length ≤ 1000000 := by rw [P.widen_length]; exact hl
  have hlV : (S.eraseIdx m).length ≤ 1000000 := by omega
  have HZU := Lib.hid hUc
  have HZV := Lib.hid hVc
  have HHU := Lib.hid (heavyE_ok hUc)
  have HHV := Lib.hid (heavyE_ok hVc)
  have hwt := HV.out.weight hmS
  have kW : IntKind.i64.wrap (Hn - (P.star S m).2.2) = Hn - (P.star S m).2.2 := IntWalk.i64_in _ (by omega)
  have dd1 : decide (Hn ≤ P.heavy (P.widen S m t) p L) = true := decide_eq_true hUh
  have dd2 : decide (P.heavy (S.eraseIdx m) p L ≤ Hn) = true := decide_eq_true hVh
  have dd3 : decide (Hn - (P.star S m).2.2 ≤ P.heavy (S.eraseIdx m) p L) = true := decide_eq_true hVl
  have HFU := Lib.hid (hUf HFS.out)
  have HFV := Lib.hid (hVf HFS.out)
  clear hUc hUh hUf hVc hVh hVl hVf hwt hvl HWd HLs
  generalize P.widen S m t = U at *
  generalize S.eraseIdx m = V at *
  generalize P.heavy U p L = Hu at *
  generalize P.heavy V p L = Hv at *
  have hC := planned_any (some ⟨g, 0, none⟩) cap2 p L U w12 HZU.out HU12.out.st
  rw [HFU.out] at hC
  have HC := Lib.hid hC
  clear hC
  have x98 := HU12.out.x1
  have x99 := HU12.out.x2
  have x100 := HU12.out.x3
  go_wp2_with fail
  refine HC.out.mono ?_
  rintro e w10 ⟨rfl, hb⟩
  have HB101 := Lib.hid (HB12.out.trans (hb.mono HB12.out.size))
  have HJ102 := Lib.hid (HJ12.out.on hb)
  have HU103 := Lib.hid (HU12.out.on hb)
  have HW104 := Lib.hid (HVV.out.on hb)
  clear x98 x99 x100
  clear hb HC
  have hC := planned_any a5 c5 p L V w10 HZV.out HW104.out.st
  rw [HFV.out] at hC
  have HC := Lib.hid hC
  clear hC
  have x105 := HW104.out.x1
  have x106 := HW104.out.x2
  have x107 := HW104.out.x3
  go_wp2_with fail
  refine HC.out.mono ?_
  rintro e w11 ⟨rfl, hb⟩
  have HB108 := Lib.hid (HB101.out.trans (hb.mono HB101.out.size))
  have HJ109 := Lib.hid (HJ102.out.on hb)
  have HU110 := Lib.hid (HU103.out.on hb)
  have HW111 := Lib.hid (HW104.out.on hb)
  clear x105 x106 x107
  clear hb HC
  have hC := heaviest_any (some ⟨g, 0, none⟩) cap2 p L U w11 hlU HU110.out.st
  rw [HHU.out] at hC
  have HC := Lib.hid hC
  clear hC
  have x112 := HU110.out.x1
  have x113 := HU110.out.x2
  have x114 := HU110.out.x3
  go_wp2_with fail
  refine HC.out.mono ?_
  rintro e w12 ⟨rfl, hb⟩
  have HB115 := Lib.hid (HB108.out.trans (hb.mono HB108.out.size))
  have HJ116 := Lib.hid (HJ109.out.on hb)
  have HU117 := Lib.hid (HU110.out.on hb)
  have HW118 := Lib.hid (HW111.out.on hb)
  clear x112 x113 x114
  clear hb HC
  have hC := heaviest_any a5 c5 p L V w12 hlV HW118.out.st
  rw [HHV.out] at hC
  have HC := Lib.hid hC
  clear hC
  have x119 := HW118.out.x1
  have x120 := HW118.out.x2
  have x121 := HW118.out.x3
  go_wp2_with fail
  refine HC.out.mono ?_
  rintro e w13 ⟨rfl, hb⟩
  have HB122 := Lib.hid (HB115.out.trans (hb.mono HB115.out.size))
  have HJ123 := Lib.hid (HJ116.out.on hb)
  have HU124 := Lib.hid (HU117.out.on hb)
  have HW125 := Lib.hid (HW118.out.on hb)
  clear x119 x120 x121
  clear hb HC
  obtain ⟨b2, o2, e2, s1, s2, s3⟩ := HJ123.out.st m hmS
  cases e2
  have x126 := HJ123.out.x1
  have x127 := HJ123.out.x2
  have x128 := HJ123.out.x3
  go_wp2_with fail
  refine (works_any _).mono ?_
  rintro e w14 ⟨rfl, hb⟩
  have HB129 := Lib.hid (HB122.out.trans (hb.mono HB122.out.size))
  have HJ130 := Lib.hid (HJ123.out.on hb)
  have HU131 := Lib.hid (HU124.out.on hb)
  have HW132 := Lib.hid (HW125.out.on hb)
  clear hb
  clear x126 x127 x128
  go_wp2_with fail
  go_ret
  exact ⟨rfl, HB129.out⟩
theorem more_walk (a : Option Addr) (cap : Nat) (p L : Int) (S : List P.Star) (n1 n2 : Int) (w : World) (_hc : S.length ≤ cap) (ha : Stars w a S) (h1 : (Lit.int .u8 n1).wf = true) (h2 : (Lit.int .u8 n2).wf = true) :
    Calls Try.prog 10 #[jobV p L a S.length cap, .int .u8 n1, .int .u8 n2] w fun e w' => e = .returned (.bool true) ∧ Below w.heap.size w w' := by
  by_cases hc : P.checkJob p L S = 0
  · have HV := P.checkJob_iff.1 hc
    have hq1 : p ≤ min 5 (p + 1) := by have := HV.p5; omega
    have hq5 : min 5 (p + 1) ≤ 5 := by omega
    by_cases h0 : S.length = 0
    · exact more_011 a cap p L S n1 n2 w _hc ha h1 h2 (Lib.hid hc) (Lib.hid h0)
    · cases hf : P.fitsB S p L with
      | true => exact more_111 a cap p L S n1 n2 w _hc ha h1 h2 (Lib.hid hc) (Lib.hid h0) (Lib.hid hf)
      | false =>
        cases hf2 : P.fitsB S (min 5 (p + 1)) L with
        | true => exact more_101 a cap p L S n1 n2 w _hc ha h1 h2 (Lib.hid hc) (Lib.hid h0) (Lib.hid hf) (Lib.hid hf2)
        | false => exact more_100 a cap p L S n1 n2 w _hc ha h1 h2 (Lib.hid hc) (Lib.hid h0) (Lib.hid hf) (Lib.hid hf2)
  · exact more_bad a cap p L S n1 n2 w _hc ha h1 h2 (Lib.hid hc)
end Go.Proofs.Ytpkffjcmoghaaaa
