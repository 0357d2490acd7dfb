/- One text of ComT. -/
import Derived.Test.YtkcgkfhfogdihaaJ13
import Derived.Laws.CopyOwn
/- Walk of the program's CheckPath. -/
namespace Go.Proofs.Ytkcgkfhfogdihaa
open Go.RowKit
theorem splice_track {q : List Int} (h : q.length ≤ 4) : splice [Value.int .i64 0, .int .i64 0, .int .i64 0, .int .i64 0] 0 (q.map (Value.int .i64)) = [Value.int .i64 (nth q 0), .int .i64 (nth q 1), .int .i64 (nth q 2), .int .i64 (nth q 3)] := by
  rcases R.list4 h with rfl | ⟨a, rfl⟩ | ⟨a, b, rfl⟩ | ⟨a, b, c, rfl⟩ | ⟨a, b, c, e, rfl⟩ <;> simp [splice, nth]
theorem heap_cells4 {w : World} {H : Nat} {x0 x1 x2 x3 : Value} {t : TypeId} (h : w.heap[H]? = some (.cells [x0, x1, x2, x3].toArray t (0, 0))) :
    w.cell? ⟨H, 0, none⟩ = some x0 ∧ w.cell? ⟨H, 1, none⟩ = some x1 ∧ w.cell? ⟨H, 2, none⟩ = some x2 ∧ w.cell? ⟨H, 3, none⟩ = some x3 := by
  simp [World.cell?, h]
set_option maxRecDepth 100000 in
set_option maxHeartbeats 2000000 in
theorem cCheckPath_any (a : Option Addr) (cap : Nat) (deg : Int) (l : List (Int × Int)) (b : Option Addr) (cap2 : Nat) (q : List Int) (w : World) (hl : l.length ≤ 1000000) (hs : q.length ≤ 1000000) (ha : Sigs w a l) (hb : Ints .i64 w b q) :
    Calls Try.prog 25 #[.agg #[.int .i64 deg, .slice a l.length cap], .slice b q.length cap2] w fun e w' => e = .returned (.tuple #[.int .i64 (R.checkPath deg l q).1, .int .i64 (R.checkPath deg l q).2]) ∧ Below w.heap.size w w' := by
  have hb0 := Below.new w (.cells #[.int .i64 deg, .slice a l.length cap] 33)
  have HLb := Lib.hid (Logged.new ha deg cap 33)
  have HA := Lib.hid (ha.below hb0)
  have HS := Lib.hid (hb.below hb0)
  have HB := Lib.hid hb0
  clear ha hb hb0
  by_cases hc : R.checkLog deg l = 0
  · have hv := R.checkLog_zero hc
    obtain ⟨d, rfl⟩ := hv.nat
    have HV := Lib.hid hv
    have HCk := Lib.hid hc
    have h12 := hv.len
    have hd3 := hv.d3
    clear hv hc
    have HOp := Lib.hid (open_ok a cap (d : Int) l _ hl HA.out HCk.out)
    go_enter Try.func25, Try.ntmps25
    go_wp2_with fail
    refine HOp.out.mono ?_
    rintro e w1 ⟨B, rfl, hL1, hb1⟩
    have HL1 := Lib.hid hL1
    have HLb1 := Lib.hid (HLb.out.on hb1)
    have HS1 := Lib.hid (HS.out.below hb1)
    have HB1 := Lib.hid (HB.out.trans (hb1.mono HB.out.size))
    have hx1 := HLb1.out.x1
    clear hL1 hb1
    have k1 : IntKind.i64.wrap ((d : Int) + 1) = (d : Int) + 1 := IntWalk.i64_in _ (by omega)
    by_cases hq : q.length = d + 1
    · have hq' : ((q.length : Int) != (d : Int) + 1) = false := by simp [hq]
      have HQ := Lib.hid hq
      have hs4 : q.length ≤ 4 := by omega
      clear hq
      have HN := Lib.hid (numbers_any b cap2 q w1 hs HS1.out)
      cases hn : q.all R.numOk with
      | false =>
        have HF : Hid (R.checkPath (d : Int) l q = (0, 3)) := by
          unfold R.checkPath; rw [if_neg (not_not_intro HCk.out), if_neg (by have := HQ.out; omega), if_pos (by rw [hn]; simp)]; trivial
        rw [hn] at HN
        clear hn
        go_wp2_with fail
        refine HN.out.mono ?_
        rintro e w2 ⟨rfl, hb2⟩
        go_wp2_with fail
        go_ret2
        exact ⟨by rw [HF.out]; first | done | rfl, HB1.out.trans (hb2.mono HB1.out.size)⟩
      | true =>
        have HZ := Lib.hid hn
        have HF : Hid (R.checkPath (d : Int) l q = ((C.onL l q : Int), 0)) := by
          unfold R.checkPath; rw [if_neg (not_not_intro HCk.out), if_neg (by have := HQ.out; omega), if_neg (by rw [hn]; simp), C.onL_size (by omega)]; trivial
        rw [hn] at HN
        clear hn
        go_wp2_with fail
        refine HN.out.mono ?_
        rintro e w2 ⟨rfl, hb2⟩
        have HL2 := Lib.hid (HL1.out.on hb2)
        have HS2 := Lib.hid (HS1.out.below hb2)
        have HB2 := Lib.hid (HB1.out.trans (hb2.mono HB1.out.size))
        clear hb2
        have HBel3 := Lib.hid (Below.new w2 (.cells #[.int .i64 0, .int .i64 0, .int .i64 0, .int .i64 0] 76))
        have HMin : Hid ((q.map (Value.int .i64)).length = Nat.min q.length 4) := Lib.hid (by rw [List.length_map]; exact (Nat.min_eq_left hs4).symm)
        have HPos : Hid (0 < (q.map (Value.int .i64)).length → ∃ ad, b = some ad ∧ ∀ j v, (q.map (Value.int .i64))[j]? = some v → (w2.alloc (.cells #[.int .i64 0, .int .i64 0, .int .i64 0, .int .i64 0] 76)).cell? (ad.add j) = some v) := Lib.hid (fun h => by
            have hS := HS2.out.alloc (.cells #[.int .i64 0, .int .i64 0, .int .i64 0, .int .i64 0] 76)
            cases b with
            | none => exfalso; obtain ⟨b, o, h, -⟩ := hS 0 (by simpa using h); cases h
            | some b => exact ⟨b, rfl, hS.news⟩)
        have HFit : Hid (0 + (q.map (Value.int .i64)).length ≤ [Value.int .i64 0, .int .i64 0, .int .i64 0, .int .i64 0].length) := Lib.hid (by simp; omega)
        have HOne : Hid (∀ v ∈ (q.map (Value.int .i64)), v.oneCell' = true) := Lib.hid (by intro v hv; simp at hv; obtain ⟨x, -, rfl⟩ := hv; rfl)
        have HHp : Hid ((w2.alloc (.cells #[.int .i64 0, .int .i64 0, .int .i64 0, .int .i64 0] 76)).heap[w2.heap.size]? = some (.cells [Value.int .i64 0, .int .i64 0, .int .i64 0, .int .i64 0].toArray 76 (0, 0))) := Lib.hid (World.alloc_heap_new w2 _)
        go_wp2_with (refine wpList_copy_splice (o := ⟨some 31, _, _, _, _, _⟩) rfl (.tmp 29) (.tmp 30) 22 22 rfl 2 rfl (by kernel_rfl) (some ⟨w2.heap.size, 0, none⟩) b 4 4 q.length cap2 rfl rfl w2.heap.size 0 [.int .i64 0, .int .i64 0, .int .i64 0, .int .i64 0] 76 HHp.out (q.map (.int .i64)) HMin.out (fun h => ⟨rfl, HPos.out h⟩) HFit.out HOne.out w2.heap.size w2 HBel3.out (Nat.le_refl _) ?_; intro w3 hg3 hb3; have hg4 := hg3.out; rw [splice_track hs4] at hg4; obtain ⟨c0, c1, c2, c3⟩ := heap_cells4 hg4; clear hg3 hg4)
        clear HHp HMin HPos HFit HOne
        have HL3 := Lib.hid (HL2.out.on hb3)
        have HB3 := Lib.hid (HB2.out.trans (hb3.mono HB2.out.size))
        clear hb3
        have HC := con_any B (d : Int) a cap l q w3 HL3.out HV.out hs4 HZ.out
        unfold trackV at HC
        have HC := Lib.hid HC
        refine HC.out.mono ?_
        rintro e w4 ⟨rfl, hb4⟩
        go_wp2_with fail
        go_ret2
        exact ⟨by rw [HF.out]; first | done | rfl, HB3.out.trans (hb4.mono HB3.out.size)⟩
    · have hq' : ((q.length : Int) != (d : Int) + 1) = true := by rw [bne_iff_ne]; omega
      have HF : Hid (R.checkPath (d : Int) l q = (0, 15)) := by
        unfold R.checkPath; rw [if_neg (not_not_intro HCk.out), if_pos (by omega)]; trivial
      clear hq
      go_wp2_with fail
      go_ret2
      exact ⟨by rw [HF.out]; first | done | rfl, HB1.out⟩
  · have HF : Hid (R.checkPath deg l q = (0, R.checkLog deg l)) := by unfold R.checkPath; rw [if_pos hc]; trivial
    have hc' : (R.checkLog deg l != 0) = true := by rw [bne_iff_ne]; exact hc
    have HOp := Lib.hid (open_err a cap deg l _ hl HA.out hc)
    clear hc
    go_enter Try.func25, Try.ntmps25
    go_wp2_with fail
    refine HOp.out.mono ?_
    rintro e w1 ⟨rfl, hb1⟩
    go_wp2_with fail
    go_ret2
    exact ⟨by rw [HF.out]; first | done | rfl, HB.out.trans (hb1.mono HB.out.size)⟩
end Go.Proofs.Ytkcgkfhfogdihaa
