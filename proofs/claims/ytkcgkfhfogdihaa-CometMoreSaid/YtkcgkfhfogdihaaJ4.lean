/- One text of ComI. -/
import Derived.Test.YtkcgkfhfogdihaaJ3
/- Walk of the program's path through sightings. -/
namespace Go.Proofs.Ytkcgkfhfogdihaa
open Go.RowKit
/-- The numbers of a path in an array of four. -/
def trackV (q : List Int) : Value := .agg #[.int .i64 (nth q 0), .int .i64 (nth q 1), .int .i64 (nth q 2), .int .i64 (nth q 3)]
theorem wrow_ints {w : World} {H : Nat} {l : List (Int × Int)} {m i : Nat} (hm : m ≤ 4) {d : Int} (hd : dayN l i = d) (h : ∀ k, k < 4 → w.cell? ⟨H, k, none⟩ = some (.int .i64 (R.ways d k))) : Ints .i64 w (some ⟨H, 0, none⟩) (C.wrow l m i) := by
  intro k hk
  rw [C.wrow_length] at hk
  refine ⟨H, 0, rfl, ?_⟩
  rw [Nat.zero_add, h k (by omega), C.wrow_nth _ _ _ _ hk, hd]
/-- Four cells of a block are written. -/
def set4 (w : World) (H : Nat) (x0 x1 x2 x3 : Value) : World := (((w.setCell ⟨H, 0, none⟩ x0).setCell ⟨H, 1, none⟩ x1).setCell ⟨H, 2, none⟩ x2).setCell ⟨H, 3, none⟩ x3
theorem set4_cells {w : World} {H : Nat} {u0 u1 u2 u3 : Value} (x0 x1 x2 x3 : Value) (h0 : w.cell? ⟨H, 0, none⟩ = some u0) (h1 : w.cell? ⟨H, 1, none⟩ = some u1) (h2 : w.cell? ⟨H, 2, none⟩ = some u2) (h3 : w.cell? ⟨H, 3, none⟩ = some u3) :
    (set4 w H x0 x1 x2 x3).cell? ⟨H, 0, none⟩ = some x0 ∧ (set4 w H x0 x1 x2 x3).cell? ⟨H, 1, none⟩ = some x1 ∧ (set4 w H x0 x1 x2 x3).cell? ⟨H, 2, none⟩ = some x2 ∧ (set4 w H x0 x1 x2 x3).cell? ⟨H, 3, none⟩ = some x3 := by
  have ot : ∀ (W : World) (i j : Nat) (v : Value), i ≠ j → (W.setCell ⟨H, i, none⟩ v).cell? ⟨H, j, none⟩ = W.cell? ⟨H, j, none⟩ := fun W i j v h => World.cell?_setCell_other W _ _ v (fun e => h (by cases e; rfl))
  unfold set4
  refine ⟨?_, ?_, ?_, ?_⟩
  · rw [ot _ 3 0 _ (by omega), ot _ 2 0 _ (by omega), ot _ 1 0 _ (by omega)]; exact World.cell?_setCell_same' _ _ _ (by rw [h0]; rfl)
  · rw [ot _ 3 1 _ (by omega), ot _ 2 1 _ (by omega)]; exact World.cell?_setCell_same' _ _ _ (by rw [ot _ 0 1 _ (by omega), h1]; rfl)
  · rw [ot _ 3 2 _ (by omega)]; exact World.cell?_setCell_same' _ _ _ (by rw [ot _ 1 2 _ (by omega), ot _ 0 2 _ (by omega), h2]; rfl)
  · exact World.cell?_setCell_same' _ _ _ (by rw [ot _ 2 3 _ (by omega), ot _ 1 3 _ (by omega), ot _ 0 3 _ (by omega), h3]; rfl)
theorem set4_below {B : Nat} {a w : World} (h : Below B a w) {H : Nat} (hH : B ≤ H) (x0 x1 x2 x3 : Value) : Below B a (set4 w H x0 x1 x2 x3) := (((h.setCell (show B ≤ (⟨H, 0, none⟩ : Addr).block from hH) x0).setCell (show B ≤ (⟨H, 1, none⟩ : Addr).block from hH) x1).setCell (show B ≤ (⟨H, 2, none⟩ : Addr).block from hH) x2).setCell (show B ≤ (⟨H, 3, none⟩ : Addr).block from hH) x3
theorem grown_drew {w w' : World} {r : Option Nat} (h : w.grownBy w' r) : w.grownBy w'.drew r := ⟨h.os, h.tape, h.output, h.size, h.block⟩
/-- One row more, one of whose numbers is then turned. -/
theorem TabO.app_set {wold w w4 : World} {base : Nat} {v v' : Value} {t : List (List Int)} {vals : List Value} {g rcap : Nat} {r : List Int} (h : TabO wold base v t vals) (hb : Below wold.heap.size wold w) (hge : wold.heap.size ≤ g)
    (hr : w.ownsRow base 2 1 (.slice (some ⟨g, 0, none⟩) r.length rcap) r.length (r.map (.int .i64))) (hne : v.ownBlock ≠ some g)
    (hown : w4.ownsRow base 22 1 v' (t.length + 1) (vals ++ [.slice (some ⟨g, 0, none⟩) r.length rcap])) (hg : w.grownBy w4 v.ownBlock) (hl : Lies v v' w.heap.size) (k : Nat) (x : Int) :
    TabO (w4.setCell ⟨g, k, none⟩ (.int .i64 x)) base v' (t ++ [r.set k x]) (vals ++ [.slice (some ⟨g, 0, none⟩) r.length rcap]) ∧ w4.grownBy (w4.setCell ⟨g, k, none⟩ (.int .i64 x)) (some g) := by
  have hvl := h.1.1
  have off : ∀ g', g' < w.heap.size → v.ownBlock ≠ some g' → v'.ownBlock ≠ some g' := fun g' h1 h2 h3 => by
    rcases hl with hl | hl
    · exact h2 (hl ▸ h3)
    · rw [h3] at hl; cases hl; omega
  have hr4 := hr.kept hg (.inr (fun e => hne e.symm))
  have hst := hr4.stored k (.int .i64 x)
  have hg5 := hst.2
  refine ⟨⟨by rw [List.length_append]; exact hown.kept hg5 (.inr (off g (hr.lt g rfl).2 hne)), fun i hi => ?_⟩, hg5⟩
  by_cases h1 : i < t.length
  · obtain ⟨g', rcap', e, ho, hn⟩ := h.2 i h1
    have hlt := (ho.lt g' rfl).2
    have hng : g' ≠ g := by omega
    rw [C.row_left _ _ _ h1]
    refine ⟨g', rcap', by rw [List.getElem?_append_left (by omega)]; exact e, ?_, off g' (by have := hb.size; omega) hn⟩
    exact ((owns_below ho hb).kept hg (.inr (fun e => hn e.symm))).kept hg5 (.inr (fun e => hng (by cases e; rfl)))
  · have : i = t.length := by simp at hi; omega
    subst this
    rw [C.row_right, List.length_set, List.map_set]
    exact ⟨g, rcap, by rw [List.getElem?_append_right (by omega), hvl]; simp, hst.1, off g (hr.lt g rfl).2 hne⟩
set_option maxRecDepth 100000 in
set_option maxHeartbeats 2000000 in
theorem through_any (B : Nat) (deg : Int) (a : Option Addr) (cap : Nat) (l : List (Int × Int)) (b : Option Addr) (cap2 : Nat) (ss : List Int) (w : World) (hL : Logged w B deg a cap l) (hv : R.Valid deg l) (hS : Ints .i64 w b ss) (hO : R.Ord l.length ss) (h1 : 1 ≤ ss.length) (h4 : ss.length ≤ 4) :
    Calls Try.prog 59 #[.pointer (some ⟨B, 0, none⟩), .slice b ss.length cap2] w fun e w' => e = .returned (.tuple #[trackV ((C.out (R.sel l ss)).getD []), .bool (C.out (R.sel l ss)).isSome]) ∧ Below w.heap.size w w' := by
  have hP := R.sel_piece hv.fit hv.inc hO h4
  have hsel : ∀ i, i < ss.length → dayN (R.sel l ss) i = dayN l (nth ss i).toNat ∧ plcN (R.sel l ss) i = plcN l (nth ss i).toNat := fun i hi => R.selTo_get l ss ss.length i hi
  have hln : (R.sel l ss).length = ss.length := R.selTo_length _ _ _
  have HL := Lib.hid hL
  have HV := Lib.hid hv
  have HSS := Lib.hid hS
  have HOr := Lib.hid hO
  have HP := Lib.hid hP
  have HSel := Lib.hid hsel
  have HLn := Lib.hid hln
  have hb0 := Lib.hid (Below.new w (.cells #[.int .i64 0, .int .i64 0, .int .i64 0, .int .i64 0] 76))
  have h12 := hv.len
  clear hL hv hS hO hP hsel hln
  generalize R.sel l ss = p at *
  go_enter Try.func59, Try.ntmps59
  go_wp2_with fail
  have hW : ∃ W0, W0 = w.alloc (.cells #[.int .i64 0, .int .i64 0, .int .i64 0, .int .i64 0] 76) := ⟨_, rfl⟩
  obtain ⟨W0, hW0⟩ := hW
  have HL0 := Lib.hid (show Logged W0 B deg a cap l by rw [hW0]; exact HL.out.on (Below.new _ _))
  have HS0 := Lib.hid (show Ints .i64 W0 b ss by rw [hW0]; exact HSS.out.alloc _)
  have HC0 := Lib.hid (show ∀ k, k < 4 → W0.cell? ⟨w.heap.size, k, none⟩ = some (.int .i64 0) by
    rw [hW0]; intro k hk
    have : k = 0 ∨ k = 1 ∨ k = 2 ∨ k = 3 := by omega
    rcases this with rfl | rfl | rfl | rfl <;> simp)
  have HFr := Lib.hid (show ∀ k, W0.frozen? ⟨w.heap.size, k, none⟩ = false by rw [hW0]; intro k; simp)
  have hb1 := hb0.out
  rw [← hW0] at hb1 ⊢
  have HB1 := Lib.hid hb1
  clear hW0 HL HSS hb0 hb1
  go_loopw [6, 19] (fun v i wi => ∃ (j : Nat) (vals : List Value), j ≤ ss.length ∧ i = .int .i64 j ∧ TabO wi W0.heap.size v (C.matTo p ss.length j) vals ∧ Below W0.heap.size W0 wi) (fun _ i _ => ss.length - (intOf i).toNat)
  case atStart => exact ⟨0, [], Nat.zero_le _, rfl, TabO.nil _ _, Below.refl _ _⟩
  case round =>
    obtain ⟨j, vals, hj, rfl, hrows, hb⟩ := hrel
    by_cases hlt : j < ss.length
    · obtain ⟨b, off, rfl, hc⟩ := (HS0.out.below hb) j hlt
      have ho := HOr.out j hlt
      obtain ⟨s, hs⟩ := Int.eq_ofNat_of_zero_le ho.1
      have hsl : s < l.length := by omega
      have hd := (HSel.out j hlt).1
      rw [hs] at hc hd
      rw [Int.toNat_natCast] at hd
      have HL1 := Lib.hid (HL0.out.on hb)
      have hx2 := HL1.out.x2
      obtain ⟨ba, offa, rfl, hday, -⟩ := HL1.out.sig s hsl
      have hfit := HV.out.fit s hsl
      unfold R.FitS at hfit
      obtain ⟨f0, f1, -, -⟩ := hfit
      have HD := Lib.hid hd
      have HRows := Lib.hid hrows
      have hbs := hb.size
      have HB := Lib.hid hb
      have hltI : (j : Int) < ↑ss.length := by omega
      have hslI : (s : Int) < ↑l.length := by omega
      clear ho hs hd hrows hb
      go_wp2_with fail
      refine (cways_any _ _ f0 f1).mono ?_
      rintro e w1 ⟨rfl, hb1⟩
      have hb2 := (hb1.mono hbs).alloc (by have := hb1.size; omega : W0.heap.size ≤ w1.heap.size) (.cells #[.int .i64 (R.ways (dayN l s) 0), .int .i64 (R.ways (dayN l s) 1), .int .i64 (R.ways (dayN l s) 2), .int .i64 (R.ways (dayN l s) 3)] 76)
      have hb3 := hb1.alloc (hb1.size) (.cells #[.int .i64 (R.ways (dayN l s) 0), .int .i64 (R.ways (dayN l s) 1), .int .i64 (R.ways (dayN l s) 2), .int .i64 (R.ways (dayN l s) 3)] 76)
      have hcl := fun W2 (hW2 : W2 = w1.alloc (.cells #[.int .i64 (R.ways (dayN l s) 0), .int .i64 (R.ways (dayN l s) 1), .int .i64 (R.ways (dayN l s) 2), .int .i64 (R.ways (dayN l s) 3)] 76)) =>
        clone_any (some ⟨w1.heap.size, 0, none⟩) 4 (C.wrow p ss.length j) W2 (by rw [C.wrow_length]; omega) (wrow_ints h4 HD.out (by
          intro k hk
          rw [hW2]
          have : k = 0 ∨ k = 1 ∨ k = 2 ∨ k = 3 := by omega
          rcases this with rfl | rfl | rfl | rfl <;> simp))
      rw [C.wrow_length] at hcl
      have HCl := Lib.hid hcl
      have HB3 := Lib.hid hb3
      have h4I : (ss.length : Int) ≤ 4 := by omega
      clear hcl hb2 hb3 hb1 hc hday
      clear hx2
      go_wp2_with fail
      refine (HCl.out _ rfl).mono ?_
      rintro e w3 ⟨v3, rfl, hown3, hb4⟩
      obtain ⟨g, cap3, rfl⟩ : ∃ g cap3, v3 = .slice (some ⟨g, 0, none⟩) ss.length cap3 := by
        rcases hown3.2 with ⟨_, h⟩ | ⟨g, cap2, cur, h, _⟩
        · omega
        · exact ⟨g, cap2, h⟩
      have hb5 : Below wr.heap.size wr w3 := HB3.out.trans (hb4.mono HB3.out.size)
      have HR3 := Lib.hid (HRows.out.below hb5)
      have hgl := (hown3.lt g rfl).1
      have hne : u6.ownBlock ≠ some g := fun e => by have := (HRows.out.1.lt g e).2; have := HB3.out.size; omega
      have hb6 := HB.out.trans (hb5.mono hbs)
      have HO3 := Lib.hid (owns_mono hown3 (show W0.heap.size ≤ _ by have := HB3.out.size; omega))
      have hwl : W0.heap.size ≤ w3.heap.size := hb6.size
      have hown0 : w3.ownsRow W0.heap.size 22 1 u6 j vals := by have := HR3.out.1; rw [C.matTo_length] at this; exact this
      have HOwn := Lib.hid hown0
      have hjn : j + 1 ≤ 2000000 := by omega
      clear hown0 hown3 hb4 hb5 HCl HRows
      go_wp2_with (at_builtin; refine listApp T101 rfl (.tmp 33) (.tmp 38) rfl W0.heap.size u6 j vals [.slice (some ⟨g, 0, none⟩) ss.length cap3] 1 1 ⟨w3.heap.size, 0, none⟩ rfl (HOwn.out.alloc _) rfl rfl (news_new _ _ _) (by simp [Value.oneCell']) hjn (by simp; omega) ?_; intro v1 w4 hown4 hg4 hL4)
      have hrow := TabO.app (HR3.out.below (Below.new w3 _)) (g := g) (rcap := cap3) (r := C.wrow p ss.length j) (by rw [C.wrow_length]; exact HO3.out.alloc _) hne (by rw [C.matTo_length, C.wrow_length]; exact hown4) hg4 hL4
      have hb7 : Below W0.heap.size W0 w4 := (hb6.alloc hwl _).grown hg4 (by simp; omega) (fun k e => (HOwn.out.lt k e).1)
      go_roundw
      case rel => exact ⟨j + 1, _, by omega, by go_num, hrow, hb7⟩
      case measure => simp [intOf]; omega
    · have hjm : j = ss.length := by omega
      subst hjm
      obtain ⟨a2, capt, rfl, hcapt, htab⟩ := hrows.tab
      rw [C.matTo_length] at hcapt
      have hdet := det_any ss.length a2 capt (C.matTo p ss.length ss.length) wr h4 (C.matTo_length _ _ _) hcapt (fun i hi => by rw [C.matTo_row _ _ _ _ hi, C.wrow_length]) htab
      have hall : C.D ss.length (C.matTo p ss.length ss.length) = C.all p := by unfold C.all; rw [HLn.out]
      have hA0 := C.all_pos HP.out
      have hA1 := (C.all_bd HP.out).2
      rw [hall, wrap64_id (by omega)] at hdet
      have hN : ∃ A, Hid (C.all p = A) := ⟨_, rfl⟩
      obtain ⟨A, HA⟩ := hN
      rw [HA.out] at hdet hA0 hA1
      have HDet := Lib.hid hdet
      have hA2 : (A == 0) = false := by simp; omega
      have HB := Lib.hid hb
      have hbs := hb.size
      have HTab := Lib.hid htab
      rw [C.matTo_length]
      clear hdet hall hrows htab hlt hj hb
      go_wp2_with fail
      refine HDet.out.mono ?_
      rintro e w1 ⟨rfl, hb1⟩
      have HT1 := Lib.hid (HTab.out.below hb1)
      have HBB := Lib.hid (HB.out.trans (hb1.mono hbs))
      have hsz1 : W0.heap.size ≤ w1.heap.size := HBB.out.size
      have HL1 := Lib.hid (HL0.out.on HBB.out)
      have HS1 := Lib.hid (HS0.out.below HBB.out)
      clear HDet HTab HB hb1
      go_wp2_with fail
      have hC11 : ∀ k, k < 4 → (w1.alloc (.cells #[.int .i64 0, .int .i64 0, .int .i64 0, .int .i64 0] 76)).cell? ⟨w1.heap.size, k, none⟩ = some (.int .i64 (nth [] k)) := by
        intro k hk
        have : k = 0 ∨ k = 1 ∨ k = 2 ∨ k = 3 := by omega
        rcases this with rfl | rfl | rfl | rfl <;> simp [nth]
      have hF11 : ∀ k, (w1.alloc (.cells #[.int .i64 0, .int .i64 0, .int .i64 0, .int .i64 0] 76)).frozen? ⟨w1.heap.size, k, none⟩ = false := by intro k; simp
      have hbel := Below.new w1 (.cells #[.int .i64 0, .int .i64 0, .int .i64 0, .int .i64 0] 76)
      go_loopw [48] (fun i wi => ∃ (k : Nat) (q : List Int), k ≤ ss.length ∧ i = .int .i64 k ∧ Hid (C.outTo p k = some q ∧ q.length = k) ∧ (∀ c, c < 4 → wi.cell? ⟨w1.heap.size, c, none⟩ = some (.int .i64 (nth q c))) ∧ (∀ c, wi.frozen? ⟨w1.heap.size, c, none⟩ = false) ∧ w1.heap.size < wi.heap.size ∧ Below w1.heap.size w1 wi) (fun i _ => ss.length - (intOf i).toNat)
      case atStart => exact ⟨0, [], Nat.zero_le _, rfl, Lib.hid ⟨rfl, rfl⟩, hC11, hF11, by simp, hbel⟩
      case round =>
        clear hC11 hF11 hbel
        obtain ⟨k, q, hk, rfl, HQ, hcell, hfr, hlt1, hb⟩ := hrel
        have HCell := Lib.hid hcell
        have HFr1 := Lib.hid hfr
        have HB2 := Lib.hid hb
        clear hcell hfr hb
        by_cases hlt : k < ss.length
        · have hltI : (k : Int) < ↑ss.length := by omega
          have HT2 := Lib.hid (HT1.out.below HB2.out)
          have HL2 := Lib.hid (HL1.out.on HB2.out)
          have HS2 := Lib.hid (HS1.out.below HB2.out)
          go_wp2_with fail
          obtain ⟨W2, rfl⟩ : ∃ W2, W2 = wr := ⟨_, rfl⟩
          go_loopw [13, 53] (fun v i wi => ∃ (j : Nat) (vals : List Value), j ≤ ss.length ∧ i = .int .i64 j ∧ TabO wi W2.heap.size v (C.withTo p ss.length k j) vals ∧ Below W2.heap.size W2 wi) (fun _ i _ => ss.length - (intOf i).toNat)
          case atStart => exact ⟨0, [], Nat.zero_le _, rfl, TabO.nil _ _, Below.refl _ _⟩
          case round =>
            obtain ⟨j, vals, hj, rfl, hrows, hb⟩ := hrel
            by_cases hltj : j < ss.length
            · obtain ⟨bt, offt, ra, rcap2, rfl, hcj, hij⟩ := (HT2.out.below hb) j (by rw [C.matTo_length]; exact hltj)
              rw [C.matTo_row _ _ _ _ hltj] at hcj hij
              have hcl := clone_any ra rcap2 (C.wrow p ss.length j) wr (by rw [C.wrow_length]; omega) hij
              rw [C.wrow_length] at hcl hcj
              have HCl := Lib.hid hcl
              have HRows := Lib.hid hrows
              have HB3 := Lib.hid hb
              have hbs3 := hb.size
              have hltjI : (j : Int) < ↑ss.length := by omega
              clear hcl hrows hb hij
              go_wp2_with fail
              refine HCl.out.mono ?_
              rintro e w3 ⟨v3, rfl, hown3, hb4⟩
              obtain ⟨g, cap3, rfl⟩ : ∃ g cap3, v3 = .slice (some ⟨g, 0, none⟩) ss.length cap3 := by
                rcases hown3.2 with ⟨_, h⟩ | ⟨g, cap2, cur, h, _⟩
                · omega
                · exact ⟨g, cap2, h⟩
              have hgl := (hown3.lt g rfl).1
              have hne : u13.ownBlock ≠ some g := fun e => by have := (HRows.out.1.lt g e).2; omega
              have hb6 := HB3.out.trans (hb4.mono hbs3)
              have HO3 := Lib.hid (owns_mono hown3 hbs3)
              have hwl : W2.heap.size ≤ w3.heap.size := hb6.size
              have hown0 : w3.ownsRow W2.heap.size 22 1 u13 j vals := by have := (HRows.out.below hb4).1; rw [C.withTo_length] at this; exact this
              have HOwn := Lib.hid hown0
              have hjn : j + 1 ≤ 2000000 := by omega
              have HB4 := Lib.hid hb4
              have HB6 := Lib.hid hb6
              clear hown0 hown3 hb4 hb6 HCl hcj
              go_wp2_with (at_builtin; refine listApp T101 rfl (.tmp 58) (.tmp 61) rfl W2.heap.size u13 j vals [.slice (some ⟨g, 0, none⟩) ss.length cap3] 1 1 ⟨w3.heap.size, 0, none⟩ rfl (HOwn.out.alloc _) rfl rfl (news_new _ _ _) (by simp [Value.oneCell']) hjn (by simp; omega) ?_; intro v1 w4 hown4 hg4 hL4)
              have hb7 : Below W2.heap.size W2 w4 := (HB6.out.alloc hwl _).grown hg4 (by simp; omega) (fun k e => (HOwn.out.lt k e).1)
              have hap := TabO.app_set (v' := v1) HRows.out ((HB4.out.alloc (by have := HB4.out.size; omega) (.cells #[.slice (some ⟨g, 0, none⟩) ss.length cap3] 22))) hgl (by rw [C.wrow_length]; exact HO3.out.alloc _) hne (w4 := w4.drew) (by rw [C.withTo_length, C.wrow_length]; exact hown4.drew) (grown_drew hg4) hL4 k (plcN p j)
              obtain ⟨gv, capv, rfl⟩ : ∃ gv capv, v1 = .slice (some ⟨gv, 0, none⟩) (j + 1) capv := by
                rcases hown4.2 with ⟨_, h⟩ | ⟨g, cap2, cur, h, _⟩
                · omega
                · exact ⟨g, cap2, h⟩
              have hcv := hown4.cellAt j (by omega)
              rw [List.getElem?_append_right (by have := HOwn.out.1; omega), HOwn.out.1] at hcv
              simp only [Nat.mul_one, Nat.sub_self, List.getElem?_cons_zero] at hcv
              have hr4 := (HO3.out.alloc (.cells #[.slice (some ⟨g, 0, none⟩) ss.length cap3] 22)).kept hg4 (.inr (fun e => hne e.symm))
              have hck : ∃ u, w4.cell? ⟨g, k, none⟩ = some u := owns_there hr4 k (by have := (owns_cap hr4).1; omega)
              obtain ⟨u, hck⟩ := hck
              have hfk := hr4.frozenAt k
              have hL7 := HL2.out.on hb7
              have hx2 := hL7.x2
              obtain ⟨b, off, rfl, hcs⟩ := (HS2.out.below hb7) j hltj
              have ho := HOr.out j hltj
              obtain ⟨s, hs⟩ := Int.eq_ofNat_of_zero_le ho.1
              have hsl : s < l.length := by omega
              have hd := (HSel.out j hltj).2
              rw [hs] at hcs hd
              rw [Int.toNat_natCast] at hd
              obtain ⟨ba, offa, rfl, -, hplc⟩ := hL7.sig s hsl
              rw [← hd] at hplc
              have hslI : (s : Int) < ↑l.length := by omega
              have HAp := Lib.hid hap
              have HB7 := Lib.hid hb7
              have HG4 := Lib.hid hr4
              have k1 : (j : Int) < ↑j + 1 := by omega
              clear hap hb7 hr4 hL7 ho hs hd hown4 hg4 hL4
              go_still_tail 18, (by kernel_rfl)
              change wpList _ _ _ _ _ w4.drew
              have hW5 : ∃ W5, w4.drew = W5 := ⟨_, rfl⟩
              obtain ⟨W5, hW5⟩ := hW5
              have hck' : W5.cell? ⟨g, k, none⟩ = some u := by rw [← hW5]; exact hck
              have hfk' : W5.frozen? ⟨g, k, none⟩ = false := by rw [← hW5]; exact hfk
              have hb8 : Below W2.heap.size W2 W5 := by rw [← hW5]; exact HB7.out.drew
              rw [hW5] at HAp ⊢
              clear hW5 hcv hck hfk hx2 hcs hplc HG4
              go_wp2_with fail
              go_roundw
              case rel => exact ⟨j + 1, _, by omega, by go_num, HAp.out.1, hb8.setCell (show W2.heap.size ≤ g by omega) _⟩
              case measure => simp [intOf]; omega
            · have hjm : j = ss.length := by omega
              subst hjm
              obtain ⟨a3, cap3, rfl, hcap3, htab⟩ := hrows.tab
              rw [C.withTo_length] at hcap3
              have hdet := det_any ss.length a3 cap3 (C.withTo p ss.length k ss.length) wr h4 (C.withTo_length _ _ _ _) hcap3 (fun i hi => by rw [C.withTo_row _ _ _ _ _ hi, List.length_set, C.wrow_length]) htab
              have hone : C.D ss.length (C.withTo p ss.length k ss.length) = C.one p k := by unfold C.one; rw [HLn.out]
              have hO1 := C.one_bd HP.out (k := k) (by rw [HLn.out]; exact hlt)
              unfold R.Abs at hO1
              rw [hone, wrap64_id (by omega)] at hdet
              have HSt : Hid (C.outTo p (k + 1) = if (C.one p k).tmod A = 0 then some (q ++ [(C.one p k).tdiv A]) else none) := Lib.hid (by
                show (match C.outTo p k with | none => none | some out => if (C.one p k).tmod (C.all p) = 0 then some (out ++ [(C.one p k).tdiv (C.all p)]) else none) = _
                rw [HQ.out.1, HA.out])
              have hN : ∃ X, Hid (C.one p k = X) := ⟨_, rfl⟩
              obtain ⟨X, HX⟩ := hN
              rw [HX.out] at hdet hO1 HSt
              have HDet := Lib.hid hdet
              have HB3 := Lib.hid hb
              have hbs3 := hb.size
              have HN : Hid (∀ j, k < j → (X.tmod A ≠ 0) → C.outTo p j = none) := Lib.hid (fun j hj h => C.outTo_none j k hj (by rw [HX.out, HA.out]; exact h))
              rw [C.withTo_length]
              clear hdet hone hrows htab hltj hj hb
              cases hz : (X.tmod A != 0) with
              | true =>
                have HZ := Lib.hid hz
                go_wp2_with fail
                refine HDet.out.mono ?_
                rintro e w5 ⟨rfl, hb1⟩
                have hb5 := HB3.out.trans (hb1.mono hbs3)
                have HB5 := Lib.hid (HBB.out.trans ((HB2.out.trans (hb5.mono (Nat.le_of_lt hlt1))).mono hsz1))
                have hs0 := HB1.out.size
                have hc0 := cell_on HB5.out (HC0.out 0 (by omega))
                have hc1 := cell_on HB5.out (HC0.out 1 (by omega))
                have hc2 := cell_on HB5.out (HC0.out 2 (by omega))
                have hc3 := cell_on HB5.out (HC0.out 3 (by omega))
                have hwl : w.heap.size < W0.heap.size := World.block_lt_of_cell? W0 _ (HC0.out 0 (by omega))
                have hf0 := (HB5.out.frozen (p := ⟨w.heap.size, 0, none⟩) hwl).trans (HFr.out 0)
                have hf1 := (HB5.out.frozen (p := ⟨w.heap.size, 1, none⟩) hwl).trans (HFr.out 1)
                have hf2 := (HB5.out.frozen (p := ⟨w.heap.size, 2, none⟩) hwl).trans (HFr.out 2)
                have hf3 := (HB5.out.frozen (p := ⟨w.heap.size, 3, none⟩) hwl).trans (HFr.out 3)
                go_wp2_with fail
                have hfin := set4_cells (.int .i64 0) (.int .i64 0) (.int .i64 0) (.int .i64 0) hc0 hc1 hc2 hc3
                have hbf := set4_below (HB1.out.trans (HB5.out.mono hs0)) (Nat.le_refl w.heap.size) (.int .i64 0) (.int .i64 0) (.int .i64 0) (.int .i64 0)
                have HOut : Hid (C.out p = none) := Lib.hid (by unfold C.out; rw [HLn.out]; exact HN.out _ hlt (by have := HZ.out; simpa using this))
                change bodyPost Try.prog Try.f59 _ Exit.ret _ (set4 w5 w.heap.size (.int .i64 0) (.int .i64 0) (.int .i64 0) (.int .i64 0))
                generalize set4 w5 w.heap.size (.int .i64 0) (.int .i64 0) (.int .i64 0) (.int .i64 0) = WF at *
                obtain ⟨z0, z1, z2, z3⟩ := hfin
                clear hc0 hc1 hc2 hc3
                refine bodyPost_ret (v := .tuple #[.agg #[.int .i64 0, .int .i64 0, .int .i64 0, .int .i64 0], .bool false]) (by simp [results, Try.results59, go_sem, z0, z1, z2, z3]) rfl ⟨by rw [HOut.out]; rfl, hbf⟩
              | false =>
                have HZ := Lib.hid hz
                have k4 : (k : Int) < 4 := by omega
                go_wp2_with fail
                refine HDet.out.mono ?_
                rintro e w5 ⟨rfl, hb1⟩
                have hb5 := HB3.out.trans (hb1.mono hbs3)
                have hck := cell_on hb5 (HCell.out k (by omega))
                have hfk := (hb5.frozen (p := ⟨w1.heap.size, k, none⟩) hlt1).trans (HFr1.out k)
                go_wp2_with fail
                have HR := Lib.hid (show C.outTo p (k + 1) = some (q ++ [X.tdiv A]) by
                  rw [HSt.out, if_pos (by have := HZ.out; simpa using this)])
                have hql := HQ.out.2
                have hbr := HB2.out.trans (hb5.mono (Nat.le_of_lt hlt1))
                go_roundw
                case rel =>
                  refine ⟨k + 1, q ++ [X.tdiv A], by omega, by go_num, Lib.hid ⟨HR.out, by simp [hql]⟩, fun c hc => ?_, fun c => ?_, ?_, ?_⟩
                  · have hcc := cell_on hb5 (HCell.out c hc)
                    by_cases e : c = k
                    · subst e
                      rw [World.cell?_setCell_same' _ _ _ (by rw [hck]; rfl)]
                      rw [← hql]; simp [nth]
                    · rw [World.cell?_setCell_other w5 _ _ _ (fun h => e (by cases h; rfl)), hcc]
                      congr 2
                      unfold nth
                      simp only [List.getD_eq_getElem?_getD]
                      by_cases h : c < q.length
                      · rw [List.getElem?_append_left h]
                      · rw [List.getElem?_eq_none (by omega), List.getElem?_eq_none (by simp; omega)]
                  · rw [World.frozen?_setCell]; exact (hb5.frozen (p := ⟨w1.heap.size, c, none⟩) hlt1).trans (HFr1.out c)
                  · have := hbr.size; have := hb5.size; simp; omega
                  · exact hbr.setCell (Nat.le_refl _) _
                case measure => simp [intOf]; omega
        · have hkm : k = ss.length := by omega
          subst hkm
          have HO : Hid (C.out p = some q) := Lib.hid (by unfold C.out; rw [HLn.out]; exact HQ.out.1)
          have HB5 := Lib.hid (HBB.out.trans (HB2.out.mono hsz1))
          have hs0 := HB1.out.size
          have hc0 := cell_on HB5.out (HC0.out 0 (by omega))
          have hc1 := cell_on HB5.out (HC0.out 1 (by omega))
          have hc2 := cell_on HB5.out (HC0.out 2 (by omega))
          have hc3 := cell_on HB5.out (HC0.out 3 (by omega))
          have hwl : w.heap.size < W0.heap.size := World.block_lt_of_cell? W0 _ (HC0.out 0 (by omega))
          have hf0 := (HB5.out.frozen (p := ⟨w.heap.size, 0, none⟩) hwl).trans (HFr.out 0)
          have hf1 := (HB5.out.frozen (p := ⟨w.heap.size, 1, none⟩) hwl).trans (HFr.out 1)
          have hf2 := (HB5.out.frozen (p := ⟨w.heap.size, 2, none⟩) hwl).trans (HFr.out 2)
          have hf3 := (HB5.out.frozen (p := ⟨w.heap.size, 3, none⟩) hwl).trans (HFr.out 3)
          have hq0 := HCell.out 0 (by omega)
          have hq1 := HCell.out 1 (by omega)
          have hq2 := HCell.out 2 (by omega)
          have hq3 := HCell.out 3 (by omega)
          have hgg : (C.out p).getD [] = q := by rw [HO.out]; rfl
          have HT : Hid (Ending.returned (.tuple #[trackV ((C.out p).getD []), .bool (C.out p).isSome]) = Ending.returned (.tuple #[.agg #[.int .i64 (nth q 0), .int .i64 (nth q 1), .int .i64 (nth q 2), .int .i64 (nth q 3)], .bool true])) := Lib.hid (by rw [HO.out]; rfl)
          clear hgg
          generalize nth q 0 = y0 at *
          generalize nth q 1 = y1 at *
          generalize nth q 2 = y2 at *
          generalize nth q 3 = y3 at *
          go_wp2_with fail
          have hfin := set4_cells (.int .i64 y0) (.int .i64 y1) (.int .i64 y2) (.int .i64 y3) hc0 hc1 hc2 hc3
          have hbf := set4_below (HB1.out.trans (HB5.out.mono hs0)) (Nat.le_refl w.heap.size) (.int .i64 y0) (.int .i64 y1) (.int .i64 y2) (.int .i64 y3)
          change bodyPost Try.prog Try.f59 _ Exit.ret _ (set4 wr w.heap.size (.int .i64 y0) (.int .i64 y1) (.int .i64 y2) (.int .i64 y3))
          generalize set4 wr w.heap.size (.int .i64 y0) (.int .i64 y1) (.int .i64 y2) (.int .i64 y3) = WF at *
          obtain ⟨z0, z1, z2, z3⟩ := hfin
          clear hc0 hc1 hc2 hc3
          refine bodyPost_ret (v := .tuple #[.agg #[.int .i64 y0, .int .i64 y1, .int .i64 y2, .int .i64 y3], .bool true]) (by simp [results, Try.results59, go_sem, z0, z1, z2, z3]) rfl ⟨HT.out.symm, hbf⟩
end Go.Proofs.Ytkcgkfhfogdihaa
