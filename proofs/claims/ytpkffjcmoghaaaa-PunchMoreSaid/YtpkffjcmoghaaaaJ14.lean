/- One text of ComZ. -/
import Derived.Test.YtpkffjcmoghaaaaJ13
import Derived.RangeFuncLeaves
import Derived.RangeFuncBox
import Derived.Shelf.RegionOpen
import Derived.TacticsInMore
import Derived.LoopNIn
import Derived.LoopIn
import Derived.Lib.QuietBelow
import Derived.Laws.EntriesVeiled
/- Walks of the program's functions: windows; Window. -/
namespace Go.Proofs.Ytpkffjcmoghaaaa
open Go.RowKit Go.Lib Go.Sort
attribute [local go_sem] Oper.semAt_some
theorem KeepsFrom.of_below {N : Nat} {W W' : World} (h : RowKit.Below W.heap.size W W') : KeepsFrom N W W' := ⟨h.size, fun k _ _ hk _ => (h.block k (Array.getElem?_eq_some_iff.1 hk).1).trans hk⟩
theorem windows_any (B : Nat) (w : World) : Calls Try.prog 64 #[.pointer (some ⟨B, 0, none⟩)] w fun e w' => e = .returned (.func (.func 81) #[] #[.pointer (some ⟨w.heap.size, 0, none⟩)]) ∧ w' = w.alloc (.cells #[.pointer (some ⟨B, 0, none⟩)] 72) := by
  go_enter Try.func64, Try.ntmps64
  go_wp2_with fail
  go_ret
  exact ⟨rfl, rfl⟩
/-- A window of a life. -/
structure Wn (L : Nat) where
  f : Nat
  t : Nat
  h1 : f ≤ t
  h2 : t < L
set_option maxRecDepth 20000 in
set_option maxHeartbeats 2000000 in
theorem win_seq (F : Fence) (n : Nat) (h81 : F.fn 81) (hro : F.round = none) (hn : 1 ≤ n) (Bx n₀ B L : Nat) (hL : L ≤ 20) (w : World) (hBx : Bx < n₀) (hB : B < n₀) (hbx : w.cell? ⟨Bx, 0, none⟩ = some (.pointer (some ⟨B, 0, none⟩))) (hx2 : w.cell? ⟨B, 1, none⟩ = some (.int .i64 L)) :
    SeqStopsK F n Try.prog 81 #[.pointer (some ⟨Bx, 0, none⟩)] (fun x : Wn L => #[.agg #[.int .i64 x.f, .int .i64 x.t]]) (Below n₀) (fun xs => ∀ x : Wn L, x ∈ xs) (fun _ => True) (L * L) w := fun l J Jx W hW hJ hJx hY h0 => by
  have HX := Lib.hid (cell_on hW hbx)
  have HX2 := Lib.hid (cell_on hW hx2)
  have HY := Lib.hid hY
  clear hbx hx2 hY hJ hJx hW
  show CallsIn F n Try.prog 81 #[.func (.yield l) #[] #[], .pointer (some ⟨Bx, 0, none⟩)] W _
  refine callsIn_of_wp Try.func81 rfl h81 ?_ hro
  simp only [Try.ntmps81, List.size_toArray, List.length_cons, List.length_nil, Nat.reduceAdd, Nat.reduceSub, Array.replicate_succ, Array.replicate_zero, List.push_toArray, List.append_toArray, List.nil_append, List.cons_append]
  have c1 := HX.out
  have c2 := HX2.out
  gi_wp2
  clear c1 c2
  gi_loopw [10] (fun i wr => ∃ (f : Nat) (pre : List (Wn L)), i = .int .i64 f ∧ f ≤ L ∧ Hid (J pre wr) ∧ Hid (Below n₀ W wr) ∧ Hid (∀ x : Wn L, x.f < f → x ∈ pre) ∧ Hid (pre.length ≤ f * L)) (fun i _ => L - (intOf i).toNat)
  case atStart => exact ⟨0, [], rfl, by omega, Lib.hid h0, Lib.hid (Below.refl _ _), Lib.hid (fun x h => by omega), Lib.hid (by simp)⟩
  case round =>
    obtain ⟨f, pre, rfl, hf, HJ, HB, HM, HN⟩ := hrel
    by_cases hlt : f < L
    · have hltI : (f : Int) < (L : Int) := by omega
      gi_wp2
      gi_loopw [4] (fun i wr => ∃ (t : Nat) (pre : List (Wn L)), i = .int .i64 t ∧ f ≤ t ∧ t ≤ L ∧ Hid (J pre wr) ∧ Hid (Below n₀ W wr) ∧ Hid (∀ x : Wn L, (x.f < f ∨ (x.f = f ∧ x.t < t)) → x ∈ pre) ∧ Hid (pre.length ≤ f * L + (t - f))) (fun i _ => L - (intOf i).toNat)
      case atStart => exact ⟨f, pre, rfl, by omega, by omega, HJ, HB, Lib.hid (fun x h => HM.out x (by have := x.h1; omega)), Lib.hid (by have := HN.out; omega)⟩
      case round =>
        clear HJ HB HM HN
        obtain ⟨t, pre, rfl, hft, htL, HJ, HB, HM, HN⟩ := hrel
        have c1 := (HB.out.cell (p := ⟨Bx, 0, none⟩) hBx).trans HX.out
        have c2 := (HB.out.cell (p := ⟨B, 1, none⟩) hB).trans HX2.out
        by_cases hlt2 : t < L
        · have hlt2I : (t : Int) < (L : Int) := by omega
          have hN2 : (f + 1) * L ≤ L * L := Nat.mul_le_mul_right L (by omega)
          rw [Nat.add_mul, Nat.one_mul] at hN2
          obtain ⟨fn, tmps, assign, body, hy, hR⟩ := HY.out pre ⟨f, t, hft, hlt2⟩ wr HJ.out (by have := HN.out; omega)
          dsimp only at hy
          have HR := Lib.hid hR
          have HNl : Hid (pre.length + 1 ≤ f * L + (t + 1 - f)) := Lib.hid (by have := HN.out; omega)
          clear hR hN2 HN
          gi_wp2
          refine HR.out.mono ?_
          rintro e W3 (⟨rfl, hJ3, hk3⟩ | ⟨rfl, hJx3⟩)
          · have HB3 := Lib.hid (HB.out.trans hk3)
            have HJ3 := Lib.hid hJ3
            clear hk3 hJ3 c1 c2 hy
            gi_wp2
            go_roundw
            case rel => exact ⟨t + 1, pre ++ [⟨f, t, hft, hlt2⟩], by go_num, by omega, by omega, HJ3, HB3, Lib.hid (fun x hx => by
              by_cases e : x.f = f ∧ x.t = t
              · obtain ⟨xf, xt, x1, x2⟩ := x
                simp only at e
                obtain ⟨rfl, rfl⟩ := e
                exact List.mem_append_right _ (by simp)
              · exact List.mem_append_left _ (HM.out x (by omega))), Lib.hid (by rw [List.length_append, List.length_singleton]; exact HNl.out)⟩
            case measure => simp [intOf]; omega
          · gi_wp2
            refine bodyPost_ret (results_none rfl _ _ _) rfl ?_
            exact ⟨⟨_, rfl⟩, .inr ⟨_, trivial, hJx3⟩⟩
        · have hlt2I : ¬ (t : Int) < (L : Int) := by omega
          have HM2 : Hid (∀ x : Wn L, x.f < f + 1 → x ∈ pre) := Lib.hid (fun x hx => HM.out x (by have := x.h2; omega))
          have HN2 : Hid (pre.length ≤ (f + 1) * L) := Lib.hid (by rw [Nat.add_mul, Nat.one_mul]; have := HN.out; omega)
          gi_wp2
          go_roundw
          case rel => exact ⟨f + 1, pre, by go_num, by omega, HJ, HB, HM2, HN2⟩
          case measure => simp [intOf]; omega
    · have hltI : ¬ (f : Int) < (L : Int) := by omega
      gi_wp2
      go_end0
      exact ⟨⟨_, rfl⟩, .inl ⟨pre, fun x => HM.out x (by have := x.h1; have := x.h2; omega), HJ.out⟩⟩
theorem win_all {p L : Nat} {S : List P.Star} {xs : List (Wn L)} (_hv : P.Valid p L S) (h : ∀ x : Wn L, x ∈ xs) (hall : ∀ x ∈ xs, (P.cnt S x.f x.t : Int) ≤ p * (x.t - x.f + 1)) : P.Fits S p L := by
  intro a b h0 h1 h2
  obtain ⟨f, rfl⟩ := Int.eq_ofNat_of_zero_le h0
  obtain ⟨t, rfl⟩ := Int.eq_ofNat_of_zero_le (show 0 ≤ b by omega)
  exact hall ⟨f, t, by omega, by omega⟩ (h _)
/-- What Window gives. -/
def WinE (p L : Int) (S : List P.Star) (x y c : Int) : Prop :=
  (c = P.checkJob p L S ∧ c ≠ 0 ∧ x = 0 ∧ y = 0) ∨ (P.checkJob p L S = 0 ∧ P.Fits S p L ∧ x = 0 ∧ y = 0 ∧ c = 5) ∨ (P.checkJob p L S = 0 ∧ c = 0 ∧ 0 ≤ x ∧ x ≤ y ∧ y < L ∧ p * (y - x + 1) < (P.cnt S x y : Int))
set_option maxRecDepth 20000 in
set_option maxHeartbeats 4000000 in
theorem window_any (a : Option Addr) (cap : Nat) (p L : Int) (S : List P.Star) (w : World) (hl : S.length ≤ 1000000) (ha : Stars w a S) :
    Calls Try.prog 32 #[jobV p L a S.length cap] w fun e w' => ∃ x y c, e = .returned (.tuple #[.int .i64 x, .int .i64 y, .int .i64 c]) ∧ WinE p L S x y c ∧ Below w.heap.size w w' := by
  obtain ⟨W0, hW0⟩ : ∃ W0, (((w.alloc (.cells #[.int .i64 p, .int .i64 L, .slice a S.length cap] 24)).alloc (.cells #[.int .i64 0] 3)).alloc (.cells #[.int .i64 0] 3)).alloc (.cells #[.int .i64 0] 28) = W0 := ⟨_, rfl⟩
  have hs0 : W0.heap.size = w.heap.size + 4 := by rw [← hW0]; simp
  have hb0 : Below w.heap.size w W0 := by rw [← hW0]; exact (((Below.new w _).alloc (by simp) _).alloc (by simp; omega) _).alloc (by simp; omega) _
  have hc0 : Cells W0 w.heap.size [.int .i64 p, .int .i64 L, .slice a S.length cap] := by
    rw [← hW0]; exact (((Cells.new w #[.int .i64 p, .int .i64 L, .slice a S.length cap] 24).on (Below.new _ _)).on (Below.new _ _)).on (Below.new _ _)
  have hc2 : Cells W0 (w.heap.size + 1) [.int .i64 0] := by
    rw [← hW0]
    have := Cells.new (w.alloc (.cells #[.int .i64 p, .int .i64 L, .slice a S.length cap] 24)) #[.int .i64 0] 3
    rw [World.size_alloc] at this
    exact (this.on (Below.new _ _)).on (Below.new _ _)
  have hc3 : Cells W0 (w.heap.size + 1 + 1) [.int .i64 0] := by
    rw [← hW0]
    have := Cells.new ((w.alloc (.cells #[.int .i64 p, .int .i64 L, .slice a S.length cap] 24)).alloc (.cells #[.int .i64 0] 3)) #[.int .i64 0] 3
    rw [World.size_alloc, World.size_alloc] at this
    exact this.on (Below.new _ _)
  have hc4 : Cells W0 (w.heap.size + 1 + 1 + 1) [.int .i64 0] := by
    rw [← hW0]
    have := Cells.new (((w.alloc (.cells #[.int .i64 p, .int .i64 L, .slice a S.length cap] 24)).alloc (.cells #[.int .i64 0] 3)).alloc (.cells #[.int .i64 0] 3)) #[.int .i64 0] 28
    rw [World.size_alloc, World.size_alloc, World.size_alloc] at this
    exact this
  have HO := open_any a cap p L S none 0 [] W0 hl (by simp) (ha.below hb0) (Ints.nil _ _ _)
  rw [openC_nil] at HO
  have HO := Lib.hid HO
  have HS0 := Lib.hid (ha.below hb0)
  have HB0 := Lib.hid hb0
  have HC0 := Lib.hid hc0
  have HC2 := Lib.hid hc2
  have HC3 := Lib.hid hc3
  have HC4 := Lib.hid hc4
  have HW0 := Lib.hid hW0
  have e0 := hc0.cel 0 _ rfl
  have e1 := hc0.cel 1 _ rfl
  have e2 := hc0.cel 2 _ rfl
  clear ha hb0 hc0 hc2 hc3 hc4
  by_cases hc : P.checkJob p L S = 0
  · have HV := Lib.hid (P.checkJob_iff.1 hc)
    have HZ := Lib.hid hc
    rw [hc] at HO
    obtain ⟨pn, rfl⟩ := Int.eq_ofNat_of_zero_le (show 0 ≤ p by have := HV.out.p1; omega)
    obtain ⟨Ln, rfl⟩ := Int.eq_ofNat_of_zero_le (show 0 ≤ L by have := HV.out.l1; omega)
    clear hc
    refine (callsIn_wide (n := 3)).1 ?_
    refine callsIn_of_wp_marks Try.func32 rfl trivial ?_ rfl
    simp only [Try.ntmps32, List.size_toArray, List.length_cons, List.length_nil, Nat.reduceAdd, Nat.reduceSub, Array.replicate_succ, Array.replicate_zero, List.push_toArray, List.append_toArray, List.nil_append, List.cons_append]
    refine wpIn_wide.2 ?_
    go_wp2_with fail
    refine HO.out.mono ?_
    rintro e w1 ⟨hcase, hb1⟩
    rcases hcase with ⟨h, -⟩ | ⟨-, B, rfl, hcl, hge⟩
    · exact absurd rfl h
    have HB1 := Lib.hid (HB0.out.trans (hb1.mono HB0.out.size))
    have HJ1 := Lib.hid (hcl.job (HS0.out.below hb1))
    have HC01 := Lib.hid (HC0.out.on hb1)
    have HC21 := Lib.hid (HC2.out.on hb1)
    have HC31 := Lib.hid (HC3.out.on hb1)
    have HC41 := Lib.hid (HC4.out.on hb1)
    have HGe := Lib.hid hge
    have HS1 := Lib.hid hb1.size
    clear hb1 hcl HO HB0 HS0 HC0 HC2 HC3 HC4 hge e0 e1 e2 hW0
    go_wp2_with fail
    refine (windows_any B _).mono ?_
    rintro e w2 ⟨rfl, hw2⟩
    have hb12 : RowKit.Below w1.heap.size w1 w2 := by rw [hw2]; exact (Below.new w1 _).alloc (by simp) _
    have hfv : w2.cell? ⟨w1.heap.size, 0, none⟩ = some (.func (.func 62) #[.pointer (some ⟨B, 0, none⟩)] #[]) := by rw [hw2]; exact cell_on (Below.new _ _) (cell_new1 _ _ _)
    have hbx : w2.cell? ⟨w1.heap.size + 1, 0, none⟩ = some (.pointer (some ⟨B, 0, none⟩)) := by
      rw [hw2]
      have := cell_new1 (w1.alloc (.cells #[.func (.func 62) #[.pointer (some ⟨B, 0, none⟩)] #[]] 81)) (.pointer (some ⟨B, 0, none⟩)) 72
      rw [World.size_alloc] at this; exact this
    have hs2 : w2.heap.size = w1.heap.size + 1 + 1 := by rw [hw2]; simp
    have HS2e := Lib.hid hs2
    rw [World.size_alloc]
    have hHs : w.heap.size + 4 ≤ w1.heap.size := by have := HS1.out; omega
    have hBl := HJ1.out.lt
    have HFv := Lib.hid hfv
    have HJ2 := Lib.hid (HJ1.out.on hb12)
    have HB2 := Lib.hid (HB1.out.trans (hb12.mono HB1.out.size))
    have HC02 := Lib.hid (HC01.out.on hb12)
    have HC22 := Lib.hid (HC21.out.on hb12)
    have HC32 := Lib.hid (HC31.out.on hb12)
    have HC42 := Lib.hid (HC41.out.on hb12)
    have hL20 : Ln ≤ 20 := by have := HV.out.l20; omega
    clear hw2 hfv hs2 hb12 HB1 HJ1 HC01 HC21 HC31 HC41
    go_wp2_with fail
    refine (wpIn_wide (n := 3)).1 ?_
    refine wpIn_rangeFunc_ownH (F := Fence.wide) (n := 3) rfl (by omega) (gf := 81) (lb := #[.pointer (some ⟨w1.heap.size + 1, 0, none⟩)]) rfl trivial (enters_of Try.func81 (by kernel_rfl) rfl)
      (win_seq Fence.wide 2 trivial rfl (by omega) (w1.heap.size + 1) w2.heap.size B Ln hL20 w2 (by have := HS2e.out; omega) (by have := HS2e.out; omega) hbx HJ2.out.x2) belowK_t (belowK_b (Nat.le_refl _)) (Below.refl _ _) (fun _ => rfl)
      (fun pre W => RowKit.Below w2.heap.size w2 W ∧ ∀ x ∈ pre, (P.cnt S x.f x.t : Int) ≤ pn * (x.t - x.f + 1))
      (fun c _ W => ∃ x : Wn Ln, c = .ret ∧ (pn * (x.t - x.f + 1) : Int) < P.cnt S x.f x.t ∧ W.cell? ⟨w.heap.size + 1, 0, none⟩ = some (.int .i64 x.f) ∧ W.cell? ⟨w.heap.size + 1 + 1, 0, none⟩ = some (.int .i64 x.t) ∧ W.cell? ⟨w.heap.size + 1 + 1 + 1, 0, none⟩ = some (.int .i64 0) ∧ RowKit.Below w.heap.size w W)
      ?hI ?hIx ⟨Below.refl _ _, by simp⟩
      (fun x a' W => ∃ Bv, w2.heap.size ≤ Bv ∧ W.cell? ⟨Bv, 0, none⟩ = some (.int .i64 x.f) ∧ W.cell? ⟨Bv, 1, none⟩ = some (.int .i64 x.t) ∧ a' = { tmps := #[jobV (pn : Int) (Ln : Int) a S.length cap, .pointer (some ⟨w.heap.size, 0, none⟩), .pointer (some ⟨w.heap.size + 1, 0, none⟩), .pointer (some ⟨w.heap.size + 1 + 1, 0, none⟩), .pointer (some ⟨w.heap.size + 1 + 1 + 1, 0, none⟩), .pointer (some ⟨B, 0, none⟩), .int .i64 0, .pointer (some ⟨w1.heap.size, 0, none⟩), .pointer (some ⟨Bv, 0, none⟩), .tuple #[.pointer (some ⟨B, 0, none⟩), .int .i64 0], .agg #[.int .i64 (pn : Int), .int .i64 (Ln : Int), .slice a S.length cap], .tuple #[.pointer (some ⟨B, 0, none⟩), .int .i64 0], .pointer (some ⟨B, 0, none⟩), .int .i64 0, .int .i64 0, .bool false, undef, .pointer (some ⟨B, 0, none⟩), .func (.func 62) #[.pointer (some ⟨B, 0, none⟩)] #[], .pointer (some ⟨B, 0, none⟩), .func (.func 81) #[] #[.pointer (some ⟨w1.heap.size + 1, 0, none⟩)], .agg #[.int .i64 x.f, .int .i64 x.t], undef, undef, undef, undef, undef, undef, undef, undef, undef, undef, undef, undef, undef, undef, undef, undef, undef], defers := [] })
      ?hAx ?assign ?body ?done ?stop
    case hI => exact fun s X Y row h hg hr => ⟨h.1.grown hg h.1.size (fun k e => (hr k e).1), h.2⟩
    case hIx =>
      intro c s X Y row h hg hr
      obtain ⟨x, h0, h1, h2, h3, h4, h5⟩ := h
      exact ⟨x, h0, h1, cell_kept h2 hg (fun r e => (hr r e).2), cell_kept h3 hg (fun r e => (hr r e).2), cell_kept h4 hg (fun r e => (hr r e).2), h5.grown hg h5.size (fun k e => by have := (hr k e).1; have := HS2e.out; omega)⟩
    case hAx =>
      intro x a' s X Y row h hg hr
      obtain ⟨Bv, h0, h1, h2, h3⟩ := h
      exact ⟨Bv, h0, cell_kept h1 hg (fun r e => (hr r e).2), cell_kept h2 hg (fun r e => (hr r e).2), h3⟩
    case assign =>
      intro l pre x W K hi hK
      gi_wp2
      have hn := Below.new W (.cells #[.int .i64 (x.f : Int), .int .i64 (x.t : Int)] 83)
      exact hK _ _ ((KeepsOthers.alloc _ _).from _) (hn.mono hi.1.size) ⟨hi.1.trans (hn.mono hi.1.size), hi.2⟩ ⟨W.heap.size, hi.1.size, by simp, by simp, rfl⟩
    case body =>
      rintro l pre x a' W hlw ⟨r, hr⟩ ⟨hbW, hall⟩ ⟨Bv, hBv, v0, v1, rfl⟩ hlen
      have hx1 := x.h1
      have hx2 := x.h2
      have p0 := (HC02.out.on hbW).cel 0 _ rfl
      have pf := cell_on hbW HFv.out
      have cH : ∀ dd os, Calls Try.prog 62 #[.pointer (some ⟨B, 0, none⟩), .agg #[.int .i64 (x.f : Int), .int .i64 (x.t : Int)]] (Go.Sort.grow (redrawn W dd) os) fun e w'' => e = .returned (.int .i64 (P.cnt S x.f x.t : Nat)) ∧ ∃ p : Regrown, w'' = Go.Sort.grow (redrawn W p.d) p.os := fun dd os =>
        Calls.regrown_of (hasP_any B pn Ln a cap S x.f x.t _ hl ((HJ2.out.on hbW).on (below_regrown W dd os)))
      have r0 := cell_regrown p0
      have r1 := cell_regrown pf
      have r2 := cell_regrown v0
      have r3 := cell_regrown v1
      have kd : IntKind.i64.wrap ((x.t : Int) - x.f) = (x.t : Int) - x.f := IntWalk.i64_in _ (by omega)
      have kd1 : IntKind.i64.wrap ((x.t : Int) - x.f + 1) = (x.t : Int) - x.f + 1 := IntWalk.i64_in _ (by omega)
      have kb := mul_bd (p := (pn : Int)) (d := (x.t : Int) - x.f + 1) (by omega) HV.out.p5 (by omega) (by omega)
      have km : IntKind.i64.wrap ((pn : Int) * ((x.t : Int) - x.f + 1)) = (pn : Int) * ((x.t : Int) - x.f + 1) := IntWalk.i64_in _ (by omega)
      have HBW := Lib.hid hbW
      have HAll := Lib.hid hall
      have HV0 := Lib.hid v0
      have HV1 := Lib.hid v1
      clear hall v0 v1 p0 pf hr hbW
      by_cases hc : (pn : Int) * ((x.t : Int) - x.f + 1) < P.cnt S x.f x.t
      · refine wpIn_block ?_
        refine wpIn_seq_k fun K1 hK1 => ?_
        refine wpIn_region_quiet_tail (l₀ := l) (C := fun w' => ∃ p : Regrown, w' = Go.Sort.grow (redrawn W p.d) p.os) 12 (by kernel_rfl) (by kernel_rfl) (by kernel_rfl) ⟨⟨_, #[]⟩, by rw [Go.Sort.grow_empty]; rfl⟩ ?_
        simp only [List.take_succ_cons, List.take_zero, List.drop_succ_cons, List.drop_zero]
        repeat (quiet_step (exact cH _ _))
        refine wpQuiet_nil ?_
        intro W6' hw'
        obtain ⟨⟨dq, osq⟩, hw''⟩ := hw'
        have hb6 : RowKit.Below W.heap.size W W6' := by rw [hw'']; exact below_regrown W dq osq
        clear hw'' r0 r1 r2 r3 cH
        obtain ⟨W6, rfl⟩ : ∃ W6, W6 = W6' := ⟨_, rfl⟩
        have HB6 := Lib.hid (HBW.out.trans (hb6.mono HBW.out.size))
        have HK6 := Lib.hid (KeepsFrom.of_below (N := w2.heap.size) hb6)
        have z0 := cell_on hb6 HV0.out
        have z1 := cell_on hb6 HV1.out
        have y2 := (HC22.out.on HB6.out).cel 0 _ rfl
        have y3 := (HC32.out.on HB6.out).cel 0 _ rfl
        have y4 := (HC42.out.on HB6.out).cel 0 _ rfl
        have f2 := (HC22.out.on HB6.out).fr 0
        have f3 := (HC32.out.on HB6.out).fr 0
        have f4 := (HC42.out.on HB6.out).fr 0
        have HC := Lib.hid hc
        have hg2 := ((((HC22.out.on HB6.out).set 0 (.int .i64 (x.f : Int)) (by simp)).setOther (c := w.heap.size + 1 + 1) 0 (.int .i64 (x.t : Int)) (by omega)).setOther (c := w.heap.size + 1 + 1 + 1) 0 (.int .i64 0) (by omega)).cel 0 _ rfl
        have hg3 := ((((HC32.out.on HB6.out).setOther (c := w.heap.size + 1) 0 (.int .i64 (x.f : Int)) (by omega)).set 0 (.int .i64 (x.t : Int)) (by simp)).setOther (c := w.heap.size + 1 + 1 + 1) 0 (.int .i64 0) (by omega)).cel 0 _ rfl
        have hg4 := ((((HC42.out.on HB6.out).setOther (c := w.heap.size + 1) 0 (.int .i64 (x.f : Int)) (by omega)).setOther (c := w.heap.size + 1 + 1) 0 (.int .i64 (x.t : Int)) (by omega)).set 0 (.int .i64 0) (by simp)).cel 0 _ rfl
        have hgb := ((((HB2.out.trans (HB6.out.mono HB2.out.size)).setCell (p := ⟨w.heap.size + 1, 0, none⟩) (by show w.heap.size ≤ w.heap.size + 1; omega) (.int .i64 (x.f : Int))).setCell (p := ⟨w.heap.size + 1 + 1, 0, none⟩) (by show w.heap.size ≤ w.heap.size + 1 + 1; omega) (.int .i64 (x.t : Int))).setCell (p := ⟨w.heap.size + 1 + 1 + 1, 0, none⟩) (by show w.heap.size ≤ w.heap.size + 1 + 1 + 1; omega) (.int .i64 0)).drew
        have hgk := (((HK6.out.trans ((KeepsOthers.setCell W6 ⟨w.heap.size + 1, 0, none⟩ (.int .i64 (x.f : Int))).from _)).trans ((KeepsOthers.setCell _ ⟨w.heap.size + 1 + 1, 0, none⟩ (.int .i64 (x.t : Int))).from _)).trans ((KeepsOthers.setCell _ ⟨w.heap.size + 1 + 1 + 1, 0, none⟩ (.int .i64 0)).from _)).trans ((KeepsOthers.drew _).from _)
        have HG2 := Lib.hid hg2
        have HG3 := Lib.hid hg3
        have HG4 := Lib.hid hg4
        have HGb := Lib.hid hgb
        have HGk := Lib.hid hgk
        clear hb6 hg2 hg3 hg4 hgb hgk
        have hmix : Try.prog.follows .mixedOrders = true := by kernel_rfl
        gi_wp2
        gi_region_elder_o
        all_goals gi_wp2
        all_goals exact ⟨HGk.out, x, rfl, HC.out, HG2.out, HG3.out, HG4.out, HGb.out⟩
      · refine wpIn_block ?_
        refine wpIn_seq_k fun K1 hK1 => ?_
        refine wpIn_region_quiet_tail (l₀ := l) (C := fun w' => ∃ p : Regrown, w' = Go.Sort.grow (redrawn W p.d) p.os) 12 (by kernel_rfl) (by kernel_rfl) (by kernel_rfl) ⟨⟨_, #[]⟩, by rw [Go.Sort.grow_empty]; rfl⟩ ?_
        simp only [List.take_succ_cons, List.take_zero, List.drop_succ_cons, List.drop_zero]
        repeat (quiet_step (exact cH _ _))
        refine wpQuiet_nil ?_
        intro W6' hw'
        obtain ⟨⟨dq, osq⟩, hw''⟩ := hw'
        have hb6 : RowKit.Below W.heap.size W W6' := by rw [hw'']; exact below_regrown W dq osq
        clear hw'' r0 r1 r2 r3 cH
        obtain ⟨W6, rfl⟩ : ∃ W6, W6 = W6' := ⟨_, rfl⟩
        have HB6 := Lib.hid (HBW.out.trans (hb6.mono HBW.out.size))
        have HK6 := Lib.hid (KeepsFrom.of_below (N := w2.heap.size) hb6)
        have HW6 := Lib.hid (hb6.mono HBW.out.size)
        have HC : Hid (∀ y ∈ pre ++ [x], (P.cnt S y.f y.t : Int) ≤ pn * (y.t - y.f + 1)) := Lib.hid (fun y hy => by
          rcases List.mem_append.1 hy with h | h
          · exact HAll.out y h
          · rw [List.mem_singleton] at h; subst h; omega)
        clear hb6
        gi_wp2
        exact ⟨HK6.out, HW6.out, HB6.out, HC.out⟩
    case done =>
      rintro D xs W hD hS ⟨hbW, hall⟩ hdf
      have HF := Lib.hid (win_all HV.out hS hall)
      clear hall hS
      have y2 := (HC22.out.on hbW).cel 0 _ rfl
      have y3 := (HC32.out.on hbW).cel 0 _ rfl
      have y4 := (HC42.out.on hbW).cel 0 _ rfl
      have f2 := (HC22.out.on hbW).fr 0
      have f3 := (HC32.out.on hbW).fr 0
      have f4 := (HC42.out.on hbW).fr 0
      have HBw := Lib.hid (HB2.out.trans (hbW.mono HB2.out.size))
      have HDl : Hid (w2.heap.size ≤ D) := Lib.hid hD
      have hk := (((KeepsOthers.setCell W ⟨w.heap.size + 1, 0, none⟩ (.int .i64 0)).trans (KeepsOthers.setCell _ ⟨w.heap.size + 1 + 1, 0, none⟩ (.int .i64 0))).trans (KeepsOthers.setCell _ ⟨w.heap.size + 1 + 1 + 1, 0, none⟩ (.int .i64 5))).same D _ hdf rfl
      have hg2 := ((((HC22.out.on hbW).set 0 (.int .i64 0) (by simp)).setOther (c := w.heap.size + 1 + 1) 0 (.int .i64 0) (by omega)).setOther (c := w.heap.size + 1 + 1 + 1) 0 (.int .i64 5) (by omega)).cel 0 _ rfl
      have hg3 := ((((HC32.out.on hbW).setOther (c := w.heap.size + 1) 0 (.int .i64 0) (by omega)).set 0 (.int .i64 0) (by simp)).setOther (c := w.heap.size + 1 + 1 + 1) 0 (.int .i64 5) (by omega)).cel 0 _ rfl
      have hg4 := ((((HC42.out.on hbW).setOther (c := w.heap.size + 1) 0 (.int .i64 0) (by omega)).setOther (c := w.heap.size + 1 + 1) 0 (.int .i64 0) (by omega)).set 0 (.int .i64 5) (by simp)).cel 0 _ rfl
      have hgb := (((HBw.out.setCell (p := ⟨w.heap.size + 1, 0, none⟩) (by show w.heap.size ≤ w.heap.size + 1; omega) (.int .i64 0)).setCell (p := ⟨w.heap.size + 1 + 1, 0, none⟩) (by show w.heap.size ≤ w.heap.size + 1 + 1; omega) (.int .i64 0)).setCell (p := ⟨w.heap.size + 1 + 1 + 1, 0, none⟩) (by show w.heap.size ≤ w.heap.size + 1 + 1 + 1; omega) (.int .i64 5))
      have HK := Lib.hid hk
      have HG2 := Lib.hid hg2
      have HG3 := Lib.hid hg3
      have HG4 := Lib.hid hg4
      have HGb := Lib.hid hgb
      clear hk hg2 hg3 hg4 hgb hbW
      go_wp2_with fail
      generalize ((W.setCell ⟨w.heap.size + 1, 0, none⟩ (.int .i64 0)).setCell ⟨w.heap.size + 1 + 1, 0, none⟩ (.int .i64 0)).setCell ⟨w.heap.size + 1 + 1 + 1, 0, none⟩ (.int .i64 5) = W' at *
      refine ⟨by simp, .inl ⟨_, _, rfl, run_takeDeferred HK.out, ?_⟩⟩
      have k2 := cell_kept HG2.out (grownBy_putObj' W' D (.deferred none)) (fun r e => by cases e; exact ⟨_, HK.out, rfl⟩)
      have k3 := cell_kept HG3.out (grownBy_putObj' W' D (.deferred none)) (fun r e => by cases e; exact ⟨_, HK.out, rfl⟩)
      have k4 := cell_kept HG4.out (grownBy_putObj' W' D (.deferred none)) (fun r e => by cases e; exact ⟨_, HK.out, rfl⟩)
      refine ⟨.tuple #[.int .i64 0, .int .i64 0, .int .i64 5], by simp [results, Try.results32, go_sem, k2, k3, k4], 0, 0, 5, rfl, .inr (.inl ⟨HZ.out, HF.out, rfl, rfl, rfl⟩), HGb.out.grown (grownBy_putObj' W' D (.deferred none)) HGb.out.size (fun k e => by cases e; have := HDl.out; have := HS2e.out; omega)⟩
    case stop =>
      rintro D c pre W hD - ⟨x, rfl, hx, c1, c2, c3, hb⟩ hdf
      have HX := Lib.hid hx
      have HDl : Hid (w2.heap.size ≤ D) := Lib.hid hD
      have hx1 := x.h1
      have hx2 := x.h2
      clear hx
      gi_wp2
      refine ⟨by simp, .inl ⟨_, _, rfl, run_takeDeferred hdf, ?_⟩⟩
      have k2 := cell_kept c1 (grownBy_putObj' W D (.deferred none)) (fun r e => by cases e; exact ⟨_, hdf, rfl⟩)
      have k3 := cell_kept c2 (grownBy_putObj' W D (.deferred none)) (fun r e => by cases e; exact ⟨_, hdf, rfl⟩)
      have k4 := cell_kept c3 (grownBy_putObj' W D (.deferred none)) (fun r e => by cases e; exact ⟨_, hdf, rfl⟩)
      refine ⟨.tuple #[.int .i64 x.f, .int .i64 x.t, .int .i64 0], by simp [results, Try.results32, go_sem, k2, k3, k4], x.f, x.t, 0, rfl, .inr (.inr ⟨HZ.out, rfl, by omega, by omega, by omega, HX.out⟩), hb.grown (grownBy_putObj' W D (.deferred none)) hb.size (fun k e => by cases e; have := HDl.out; have := HS2e.out; omega)⟩
  · have hc' := ne_bool hc
    have HCn := Lib.hid hc
    have hcc : ∃ C, P.checkJob p L S = C := ⟨_, rfl⟩
    obtain ⟨C, hC⟩ := hcc
    have HCe := Lib.hid hC
    rw [hC] at hc hc' HO
    clear hC
    go_enter Try.func32, Try.ntmps32
    go_wp2_with fail
    refine HO.out.mono ?_
    rintro e w1 ⟨hcase, hb1⟩
    rcases hcase with ⟨-, rfl⟩ | ⟨h, -⟩
    · have HB1 := Lib.hid (HB0.out.trans (hb1.mono HB0.out.size))
      have y2 := (HC2.out.on hb1).cel 0 _ rfl
      have y3 := (HC3.out.on hb1).cel 0 _ rfl
      have y4 := (HC4.out.on hb1).cel 0 _ rfl
      have f2 := (HC2.out.on hb1).fr 0
      have f3 := (HC3.out.on hb1).fr 0
      have f4 := (HC4.out.on hb1).fr 0
      have hg2 := ((((HC2.out.on hb1).set 0 (.int .i64 0) (by simp)).setOther (c := w.heap.size + 1 + 1) 0 (.int .i64 0) (by omega)).setOther (c := w.heap.size + 1 + 1 + 1) 0 (.int .i64 C) (by omega)).cel 0 _ rfl
      have hg3 := ((((HC3.out.on hb1).setOther (c := w.heap.size + 1) 0 (.int .i64 0) (by omega)).set 0 (.int .i64 0) (by simp)).setOther (c := w.heap.size + 1 + 1 + 1) 0 (.int .i64 C) (by omega)).cel 0 _ rfl
      have hg4 := ((((HC4.out.on hb1).setOther (c := w.heap.size + 1) 0 (.int .i64 0) (by omega)).setOther (c := w.heap.size + 1 + 1) 0 (.int .i64 0) (by omega)).set 0 (.int .i64 C) (by simp)).cel 0 _ rfl
      have hgb := (((HB1.out.setCell (p := ⟨w.heap.size + 1, 0, none⟩) (by show w.heap.size ≤ w.heap.size + 1; omega) (.int .i64 0)).setCell (p := ⟨w.heap.size + 1 + 1, 0, none⟩) (by show w.heap.size ≤ w.heap.size + 1 + 1; omega) (.int .i64 0)).setCell (p := ⟨w.heap.size + 1 + 1 + 1, 0, none⟩) (by show w.heap.size ≤ w.heap.size + 1 + 1 + 1; omega) (.int .i64 C))
      have HG2 := Lib.hid hg2
      have HG3 := Lib.hid hg3
      have HG4 := Lib.hid hg4
      have HGb := Lib.hid hgb
      clear hb1 HO hg2 hg3 hg4 hgb e0 e1 e2
      go_wp2_with fail
      have k2 := HG2.out
      have k3 := HG3.out
      have k4 := HG4.out
      exact bodyPost_ret (v := .tuple #[.int .i64 0, .int .i64 0, .int .i64 C]) (by simp [results, Try.results32, go_sem, k2, k3, k4]) rfl ⟨0, 0, C, rfl, .inl ⟨HCe.out.symm, by rw [← HCe.out]; exact HCn.out, rfl, rfl⟩, HGb.out⟩
    · exact absurd h hc
end Go.Proofs.Ytpkffjcmoghaaaa
