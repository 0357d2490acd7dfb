/- One text of ComX, ComY, XN, LawC, LawD. -/
import Derived.Test.YtcjbnifafofpbaaGreatDoorJ19
import Derived.WalkMore
/- Walk of the program's function states: the least automaton. -/
namespace Go.Proofs.YtcjbnifafofpbaaGreatDoor
open Go.RowKit Go.Lib
/-- The state so far: its cells, and its row of ways. -/
structure Stt (l : List X.W) (u : X.W) (k b : Nat) (v : Value) (w : World) : Prop where
  cel : Cells w b [.int .i64 (if u ∈ l then 1 else 0), sv (X.outsTo l u k), v]
  row : w.ownsRow (b + 1) 3 1 v (X.nextTo l u k).length ((X.nextTo l u k).map (.int .i64))
theorem Stt.below {l : List X.W} {u : X.W} {k b : Nat} {v : Value} {w w' : World} (h : Stt l u k b v w) (hb : RowKit.Below w.heap.size w w') : Stt l u k b v w' := ⟨h.cel.on hb, owns_below h.row hb⟩
theorem Stt.skip {l : List X.W} {u : X.W} {k b : Nat} {v : Value} {w : World} (h : Stt l u k b v w) (hk : k < 26) (he : X.ends l (u ++ [UInt8.ofNat (97 + k)]) = []) : Stt l u (k + 1) b v w := ⟨by rw [X.outsTo_skip hk he]; exact h.cel, by rw [X.nextTo_skip hk he]; exact h.row⟩
theorem List_.fit {l : List X.W} (h : X.List_ l) : l.length ≤ 1000 ∧ (∀ s ∈ l, s.length ≤ 1000) ∧ ∀ u ∈ X.tops l, u.length ≤ 1000000 := by
  refine ⟨by have := h.many; omega, fun s hs => by have := h.long s hs; omega, fun u hu => ?_⟩
  rcases X.mem_scan.1 ((X.firsts_kept h.up).sub _ ((X.mem_tops h.long).1 hu)) with rfl | ⟨s, hs, hp⟩
  · simp
  · have := h.long s hs
    have := hp.length_le
    omega
theorem build58 (W : World) : (Instr.build 58 #[]).run Tryz.prog W = .ok (.agg #[.int .i64 0, .string ByteArray.empty, .slice none 0 0]) W := by kernel_rfl
attribute [local go_sem] build58
set_option maxRecDepth 20000 in
set_option maxHeartbeats 4000000 in
theorem statesP_any (B : Nat) (a : Option Addr) (cap : Nat) (l : List X.W) (w : World) (hL : X.List_ l) (hsh : ShelfAt a cap l B w) (hs : Strs w a l) :
    Calls Tryz.prog 56 #[.pointer (some ⟨B, 0, none⟩)] w fun e w' => ∃ a2 c2, e = .returned (.slice a2 (X.build l).length c2) ∧ Sts w' a2 (X.build l) ∧ ((X.build l).length ≤ c2 ∧ (a2 = none → c2 = 0)) ∧ RowKit.Below w.heap.size w w' := by
  obtain ⟨cs, n0, a3, c3, hci, -, -, hcel, hst⟩ := hsh
  obtain ⟨W0, hW0⟩ : ∃ W0, w.alloc (.cells #[.pointer (some ⟨B, 0, none⟩)] 63) = W0 := ⟨_, rfl⟩
  have hbn : RowKit.Below w.heap.size w W0 := by rw [← hW0]; exact Below.new _ _
  have hx0 : W0.cell? ⟨B, 0, none⟩ = some (.slice a l.length cap) := cell_on hbn (hcel.cel 0 _ rfl)
  have hx27 : W0.cell? ⟨B, 27, none⟩ = some (.slice a3 (X.tops l).length c3) := cell_on hbn (hcel.cel 27 _ (by
    have := hci.1
    rw [List.getElem?_cons_succ, List.getElem?_append_right (by simp [this])]
    simp [this]))
  have hbx : W0.cell? ⟨w.heap.size, 0, none⟩ = some (.pointer (some ⟨B, 0, none⟩)) := by rw [← hW0]; simp
  have HB0 := Lib.hid hbn
  have HX0 := Lib.hid hx0
  have HX27 := Lib.hid hx27
  have HBx := Lib.hid hbx
  have HS := Lib.hid (hs.below hbn)
  have HT := Lib.hid (hst.below hbn)
  have HL := Lib.hid hL
  have HFit := Lib.hid (List_.fit hL)
  have HTl : Hid (∀ j, j < (X.tops l).length → wat (X.tops l) j ∈ X.tops l) := Lib.hid (fun j hj => wat_mem hj)
  have hTn : (X.tops l).length ≤ 1000000 := by have := X.tops_len hL; have := X.scan_len hL; omega
  have HBd : Hid (∀ j, j < (X.tops l).length → ((X.tops l).take (j + 1)).map (X.state l) = ((X.tops l).take j).map (X.state l) ++ [X.state l (wat (X.tops l) j)]) := Lib.hid (fun j hj => X.build_take l hj)
  have HAll : Hid (((X.tops l).take (X.tops l).length).map (X.state l) = X.build l) := Lib.hid (by rw [List.take_length]; rfl)
  have HIx := Lib.hid (fun u (h : X.ends l u ≠ []) => X.idx_hit hL h)
  have hl3 := (List_.fit hL).1
  clear hbn hx0 hs hst hcel hci hL
  go_enter Tryz.func56, Tryz.ntmps56
  go_wp2_with fail
  clear hW0 hbx
  go_loopw [3, 5, 6, 7, 8, 9, 15] (fun o _ _ _ _ _ i wr => ∃ (j : Nat) (q : List Q3), j ≤ (X.tops l).length ∧ i = .int .i64 j ∧ Hid (q.map (·.1) = ((X.tops l).take j).map (X.state l)) ∧ Hid (Outs W0.heap.size wr o q) ∧ Hid (RowKit.Below W0.heap.size W0 wr)) (fun _ _ _ _ _ _ i _ => (X.tops l).length - (RowKit.intOf i).toNat)
  case atStart => exact ⟨0, [], by omega, rfl, Lib.hid rfl, Lib.hid (Outs.nil _ _), Lib.hid (RowKit.Below.refl _ _)⟩
  case round =>
    clear hx27
    obtain ⟨j, q, hj, rfl, HQ, HO, HBl⟩ := hrel
    obtain ⟨V, rfl⟩ : ∃ V, V = wr := ⟨_, rfl⟩
    by_cases hlt : j < (X.tops l).length
    · have hltI : (j : Int) < ((X.tops l).length : Int) := by omega
      obtain ⟨b1, off1, rfl, c1⟩ := (HT.out.below HBl.out) j hlt
      have HBj := Lib.hid (HBd.out j hlt)
      have hul := HFit.out.2.2 _ (HTl.out j hlt)
      generalize wat (X.tops l) j = u at *
      have bx := cell_on HBl.out HBx.out
      have b0 := cell_on HBl.out HX0.out
      have hb1 := Below.new V (.cells #[.int .i64 0, .string ⟨#[]⟩, .slice none 0 0] 58)
      have hcl : Cells (V.alloc (.cells #[.int .i64 0, .string ⟨#[]⟩, .slice none 0 0] 58)) V.heap.size [.int .i64 0, .string ⟨#[]⟩, .slice none 0 0] := Cells.new V #[.int .i64 0, .string ⟨#[]⟩, .slice none 0 0] 58
      have bx := cell_on hb1 bx
      have b0 := cell_on hb1 b0
      have HCl := Lib.hid hcl
      have HB1 := Lib.hid hb1
      have HCn := Lib.hid (contains_any a cap l u _ (by omega) ((HS.out.below HBl.out).below hb1))
      clear hb1 hcl
      go_wp2_with fail
      go_step3
      go_wp2_with fail
      refine HCn.out.mono ?_
      rintro e W1 ⟨rfl, hW1⟩
      rw [hW1] at HCl HB1
      clear hW1 bx b0 HCn
      have z0 := HCl.out.cel 0 _ rfl
      have f0 := HCl.out.fr 0
      have h2 : ∃ W2, (W2 = if u ∈ l then W1.setCell ⟨V.heap.size, 0, none⟩ (.int .i64 1) else W1) ∧ Stt l u 0 V.heap.size (.slice none 0 0) W2 ∧ RowKit.Below V.heap.size V W2 := by
        refine ⟨_, rfl, ?_⟩
        by_cases hm : u ∈ l
        · rw [if_pos hm]
          refine ⟨⟨?_, World.ownsRow_nil _ _ _ _⟩, HB1.out.setCell (p := ⟨V.heap.size, 0, none⟩) (Nat.le_refl _) _⟩
          rw [if_pos hm]
          exact HCl.out.set 0 (.int .i64 1) (by simp)
        · rw [if_neg hm]
          refine ⟨⟨?_, World.ownsRow_nil _ _ _ _⟩, HB1.out⟩
          rw [if_neg hm]
          exact HCl.out
      obtain ⟨W2, hW2, hS2, hB2⟩ := h2
      have HS2 := Lib.hid hS2
      have HB2 := Lib.hid hB2
      clear hS2 hB2 HCl HB1
      by_cases hm : u ∈ l
      case' pos =>
        rw [decide_eq_true hm]
        rw [if_pos hm] at hW2
        subst hW2
        go_wp2_with fail
        go_step3
        go_wp2_with fail
        clear z0 f0 hm
        generalize W1.setCell ⟨V.heap.size, 0, none⟩ (.int .i64 1) = W2 at *
      case' neg =>
        rw [decide_eq_false hm]
        rw [if_neg hm] at hW2
        subst hW2
        go_wp2_with fail
        go_step3
        go_wp2_with fail
        clear z0 f0 hm
      all_goals (
        go_loopw [7, 8, 9] (fun c _ _ wi => ∃ (k : Nat) (v : Value), k ≤ 26 ∧ c = .int .u8 (97 + (k : Int)) ∧ Hid (Stt l u k V.heap.size v wi) ∧ Hid (RowKit.Below V.heap.size V wi)) (fun c _ _ _ => (123 - RowKit.intOf c).toNat)
        case atStart => exact ⟨0, _, by omega, rfl, HS2, HB2⟩
        case round =>
          clear HS2 HB2
          obtain ⟨k, v, hk, rfl, HSt, HBi⟩ := hrel
          have HBw := Lib.hid (HBl.out.trans (HBi.out.mono HBl.out.size))
          by_cases hk26 : k < 26
          · have hle : (97 : Int) + (k : Int) ≤ 122 := by omega
            have r1 := conv_rune (97 + (k : Int)) (by omega) (by omega)
            have r2 := conv_str (97 + (k : Int))
            have r3 := enc_letter hk26
            have HSk := Lib.hid (fun he => HSt.out.skip hk26 he)
            have HOt := Lib.hid (fun he => X.outsTo_take (l := l) (w := u) hk26 he)
            have HNt := Lib.hid (fun he => X.nextTo_take (l := l) (w := u) hk26 he)
            have kU : IntKind.u8.wrap (97 + (k : Int) + 1) = 97 + (k : Int) + 1 := IntWalk.u8_in _ (by omega)
            have hol := X.outsTo_len l u k
            generalize UInt8.ofNat (97 + k) = c at *
            have hadd : (ByteArray.mk u.toArray) ++ (ByteArray.mk #[c]) = ⟨(u ++ [c]).toArray⟩ := ByteArray.mk_append_mk u [c]
            have hsz : ¬ 9223372036854775807 < u.length + 1 := by omega
            have bx := cell_on HBw.out HBx.out
            have b0 := cell_on HBw.out HX0.out
            have HFo := form_any a cap l (u ++ [c]) _ hl3 HFit.out.2.1 (HS.out.below HBw.out)
            by_cases he : X.ends l (u ++ [c]) = []
            · rw [X.cat_nil.2 he] at HFo
              have HFo := Lib.hid HFo
              have HSk := Lib.hid (HSk.out he)
              clear he
              go_wp2_with fail
              refine HFo.out.mono ?_
              rintro e w3 ⟨rfl, hb3⟩
              have HS3 := Lib.hid (HSk.out.below hb3)
              have HB3 := Lib.hid (HBi.out.trans (hb3.mono HBi.out.size))
              clear hb3 bx b0 hadd hsz r1 r2 r3 hle hul
              go_wp2_with fail
              go_roundw
              case rel => exact ⟨k + 1, v, by omega, by simp; omega, Lib.hid (HS3.out.below (Below.new _ _)), Lib.hid (HB3.out.alloc HB3.out.size _)⟩
              case measure => simp [RowKit.intOf]; omega
            · obtain ⟨hx, hx1, hx0⟩ := HIx.out _ he
              have HNt := Lib.hid (HNt.out he)
              have HOt := Lib.hid (HOt.out he)
              have hf0 : X.cat (X.ends l (u ++ [c])) ≠ [] := fun e => he (X.cat_nil.1 e)
              generalize X.idx l (X.ends l (u ++ [c])) = x at *
              generalize X.cat (X.ends l (u ++ [c])) = f at *
              have hf1 : f.isEmpty = false := by cases f; exact absurd rfl hf0; rfl
              have hf2 : (f == []) = false := by cases f; exact absurd rfl hf0; rfl
              have HFo := Lib.hid HFo
              have HX1 := Lib.hid hx1
              have HX0' := Lib.hid hx0
              clear he HSk hx1 hx0 hf0
              go_wp2_with fail
              refine HFo.out.mono ?_
              rintro e w3 ⟨rfl, hb3⟩
              have hb4 := hb3.trans ((Below.new w3 (.cells #[sv f] 9)).mono hb3.size)
              have hS4 := HSt.out.below hb4
              have z1 := hS4.cel.cel 1 _ rfl
              have f1 := hS4.cel.fr 1
              have hadd2 : (ByteArray.mk (X.outsTo l u k).toArray) ++ (ByteArray.mk #[c]) = ⟨(X.outsTo l u k ++ [c]).toArray⟩ := ByteArray.mk_append_mk _ [c]
              have hsz2 : ¬ 9223372036854775807 < (X.outsTo l u k).length + 1 := by omega
              have HS3 := Lib.hid (HSt.out.below hb3)
              have HB3 := Lib.hid (HBi.out.trans (hb3.mono HBi.out.size))
              have hd3 : V.heap.size < w3.heap.size := by have := HSt.out.cel.lt; have := hb3.size; omega
              clear hb3 hb4 hS4 bx b0 hadd hsz HFo
              go_wp2_with fail
              have hs3 : (w3.setCell ⟨V.heap.size, 1, none⟩ (.string ⟨(X.outsTo l u k ++ [c]).toArray⟩)).heap.size = w3.heap.size := by simp [World.setCell]
              generalize hv5 : (w3.setCell ⟨V.heap.size, 1, none⟩ (.string ⟨(X.outsTo l u k ++ [c]).toArray⟩)).alloc (.cells #[sv f] 9) = w5
              have hC5 : Cells w5 V.heap.size [.int .i64 (if u ∈ l then 1 else 0), sv (X.outsTo l u k ++ [c]), v] := by rw [← hv5]; exact (HS3.out.cel.set 1 _ (by simp)).on (Below.new _ _)
              have hO5 : w5.ownsRow (V.heap.size + 1) 3 1 v (X.nextTo l u k).length ((X.nextTo l u k).map (.int .i64)) := by
                rw [← hv5]; exact owns_below (owns_setOther HS3.out.row _ _ _ (fun e => by have := (HS3.out.row.lt _ e).1; omega)) (Below.new _ _)
              have hB5 : RowKit.Below V.heap.size V w5 := by rw [← hv5]; exact (HB3.out.setCell (p := ⟨V.heap.size, 1, none⟩) (Nat.le_refl _) _).alloc (by rw [hs3]; omega) _
              have hC9 : w5.cell? ⟨w3.heap.size, 0, none⟩ = some (sv f) := by
                have := cell_new1 (w3.setCell ⟨V.heap.size, 1, none⟩ (.string ⟨(X.outsTo l u k ++ [c]).toArray⟩)) (sv f) 9
                rwa [hs3, hv5] at this
              clear hv5 HS3 HB3 z1 f1 hadd2 hsz2 hs3 r1 r2 r3 hle hul hf1 hf2
              have hW5 := HBl.out.trans (hB5.mono HBl.out.size)
              have HBx5 := Lib.hid (cell_on hW5 HBx.out)
              have HX05 := Lib.hid (cell_on hW5 HX0.out)
              have HX275 := Lib.hid (cell_on hW5 HX27.out)
              have HS5 := Lib.hid (HS.out.below hW5)
              have HT5 := Lib.hid (HT.out.below hW5)
              have HC5 := Lib.hid hC5
              have HO5 := Lib.hid hO5
              have HB5 := Lib.hid hB5
              have HC95 := Lib.hid hC9
              clear hC5 hO5 hB5 hC9 hW5
              have HCall : Hid (∀ w', RowKit.Below w5.heap.size w5 w' → Calls Tryz.prog 90 #[.slice (some ⟨b1, off1, none⟩) (X.tops l).length c3, .func (.func 91) #[] #[.pointer (some ⟨w.heap.size, 0, none⟩), .pointer (some ⟨w3.heap.size, 0, none⟩)]] w' fun e w'' => e = .returned (.int .i64 (x : Int)) ∧ RowKit.Below w'.heap.size w' w'') :=
                Lib.hid (fun w' hb => first_hit 91 _ (fun s => X.cat (X.ends l s) == f) _ c3 (X.tops l) x w' hTn (HT5.out.below hb) hx (by have := HX1.out; simpa [wat] using this) (fun i hi => by have := HX0'.out i hi; simpa [wat] using this)
                  (enters_of Tryz.func91 (by kernel_rfl) rfl) (fun s W hs hbW => statesC_any w.heap.size w3.heap.size B a cap l s f W hl3 HFit.out.2.1 (cell_on hbW (cell_on hb HBx5.out)) (cell_on hbW (cell_on hb HX05.out)) (cell_on hbW (cell_on hb HC95.out)) ((HS5.out.below hb).below hbW)))
              refine wp_region_growrow 9 [52, 53, 54, 55, 56, 57, 58, 59, 60] [KEq (.pointer (some ⟨V.heap.size, 2, none⟩)), KEq v, KEq (.pointer (some ⟨B, 0, none⟩)), KEq (.pointer (some ⟨B, 0, none⟩)), KEq (.pointer (some ⟨B, 27, none⟩)), KEq (.slice (some ⟨b1, off1, none⟩) (X.tops l).length c3), KEq (.func (.func 91) #[] #[.pointer (some ⟨w.heap.size, 0, none⟩), .pointer (some ⟨w3.heap.size, 0, none⟩)]), KEq (.int .i64 (x : Int)), KSl 1 [(x : Int)]] (by kernel_rfl) (by kernel_rfl) (by kernel_rfl) (by kernel_rfl) (by kernel_rfl) rfl
                ⟨KEq.st _, KEq.st _, KEq.st _, KEq.st _, KEq.st _, KEq.st _, KEq.st _, KEq.st _, KSl.st _ _, trivial⟩
                ⟨step_out (q := 6) (by decide) rfl rfl (fun a' w' e hb => by simp [execOp, go_sem, e]), step_by1 (j := 0) (q := 52) rfl (by decide +kernel) rfl rfl (fun a' w' e hb => by have y := cell_on hb (HC5.out.cel 2 _ rfl); simp [execOp, go_sem, e, y]),
                  step_out (q := 1) (by decide) rfl rfl (fun a' w' e hb => by have y := cell_on hb HBx5.out; simp [execOp, go_sem, e, y]), step_by1 (j := 2) (q := 54) rfl (by decide +kernel) rfl rfl (fun a' w' e hb => by simp [execOp, go_sem, e]),
                  step_by1 (j := 3) (q := 55) rfl (by decide +kernel) rfl rfl (fun a' w' e hb => by simp [execOp, go_sem, e]), step_by1 (j := 4) (q := 56) rfl (by decide +kernel) rfl rfl (fun a' w' e hb => by have y := cell_on hb HX275.out; simp [execOp, go_sem, e, y]),
                  step_out2 (q := 1) (p := 9) (by decide) rfl (by decide) rfl rfl (fun a' w' e1 e2 hb => by simp [execOp, go_sem, e1, e2]), step_call2 (j1 := 5) (j2 := 6) rfl (by decide +kernel) rfl rfl (by decide +kernel) rfl rfl (enters_of Tryz.func90 (by kernel_rfl) rfl) (fun w' hb => HCall.out w' hb),
                  step_new (j := 7) (q := 59) (c := #[.int .i64 (x : Int)]) (t := 3) rfl (by decide +kernel) rfl rfl (fun a' w' e => by simp [execOp, go_sem, e]) rfl, trivial⟩ ?_
              rintro w6 hb6 _ rfl v rfl _ rfl _ rfl _ rfl _ rfl _ rfl _ rfl _ ⟨g, rfl, hg⟩
              simp only [EndsG, Act.put, List.setIfInBounds_toArray, List.set_cons_zero, List.set_cons_succ, List.drop, RowWp]
              have hnews : ∀ (jj : Nat) (uu : Value), ([.int .i64 (x : Int)] : List Value)[jj]? = some uu → w6.cell? ((⟨g, 0, none⟩ : Addr).add jj) = some uu := by
                intro jj uu hj
                cases jj with
                | zero =>
                  simp only [List.getElem?_cons_zero, Option.some.injEq] at hj
                  subst hj
                  rw [addr_add]
                  exact hg.cellAt 0 (by simp)
                | succ n => simp at hj
              have hO6 := owns_below HO5.out hb6
              have hC6 := HC5.out.on hb6
              have hB6 := HB5.out.trans (hb6.mono HB5.out.size)
              have hnl : (X.nextTo l u k).length + 1 ≤ 2000000 := by rw [X.nextTo_len]; omega
              have hbs : V.heap.size + 1 ≤ w6.heap.size := hC6.lt
              have hvb : some V.heap.size ≠ v.ownBlock := fun e => by have := (hO6.lt _ e.symm).1; omega
              refine wpApp T56 (.tmp 53) (.tmp 60) rfl (V.heap.size + 1) v _ _ [.int .i64 (x : Int)] 1 1 ⟨g, 0, none⟩ rfl hO6 rfl rfl hnews (by simp [Value.oneCell']) hnl hbs ?_
              intro v7 w7 hown7 hg7 hL7
              have hown8 : w7.ownsRow (V.heap.size + 1) 3 1 v7 (X.nextTo l u (k + 1)).length ((X.nextTo l u (k + 1)).map (.int .i64)) := by
                rw [HNt.out, List.length_append, List.map_append]; exact hown7
              have hC7 := hC6.grown hg7 hvb
              have hB7 := hB6.grown hg7 hB6.size (fun q e => by have := (hO6.lt q e).1; omega)
              obtain ⟨-, a7, c7, rfl, -, -⟩ := Ints.of_ownsRow hown8
              have z2 := hC7.cel 2 _ rfl
              have f2 := hC7.fr 2
              have HS8 : Hid (Stt l u (k + 1) V.heap.size (.slice a7 (X.nextTo l u (k + 1)).length c7) (w7.setCell ⟨V.heap.size, 2, none⟩ (.slice a7 (X.nextTo l u (k + 1)).length c7))) := Lib.hid ⟨by rw [HOt.out]; exact hC7.set 2 _ (by simp), owns_setOther hown8 _ _ _ (fun e => by have := (hown8.lt _ e).1; omega)⟩
              have HB8 : Hid (RowKit.Below V.heap.size V (w7.setCell ⟨V.heap.size, 2, none⟩ (.slice a7 (X.nextTo l u (k + 1)).length c7))) := Lib.hid (hB7.setCell (p := ⟨V.heap.size, 2, none⟩) (Nat.le_refl _) _)
              clear hnews hO6 hC6 hB6 hnl hbs hvb hown7 hown8 hg7 hL7 hC7 hB7 hb6 hg HCall HC95 HB5 HO5 HC5 HT5 HS5 HX275 HX05 HBx5 HX0' HX1 HNt HOt
              go_simp
              go_wp2_with fail
              go_roundw
              case rel => exact ⟨k + 1, _, by omega, by simp; omega, HS8, HB8⟩
              case measure => simp [RowKit.intOf]; omega
          · have hk : k = 26 := by omega
            subst hk
            have hle : ¬ ((97 : Int) + ((26 : Nat) : Int) ≤ 122) := by omega
            obtain ⟨-, a5, c5, rfl, hi5, -⟩ := Ints.of_ownsRow (k := .i64) HSt.out.row
            have z0 := HSt.out.cel.cel 0 _ rfl
            have z1 := HSt.out.cel.cel 1 _ rfl
            have z2 := HSt.out.cel.cel 2 _ rfl
            have hqn : q.length = j := by
              have := congrArg List.length HQ.out
              rw [List.length_map, List.length_map, List.length_take] at this; omega
            have hOo := HO.out.below HBi.out
            have hf5 : Off wr u3 a5 := Off.behind V.heap.size (fun g e => (HO.out.row.lt g e).2) (fun b off e => by
              subst e
              have := HSt.out.row.lt b rfl
              omega)
            obtain ⟨p, hp⟩ : ∃ p : Q3, p = (⟨if u ∈ l then 1 else 0, X.outsTo l u 26, X.nextTo l u 26⟩, a5, c5) := ⟨_, rfl⟩
            have HQ1 : Hid ((q ++ [p]).map (·.1) = ((X.tops l).take (j + 1)).map (X.state l)) := Lib.hid (by rw [HBj.out, List.map_append, HQ.out, hp, X.state_all]; rfl)
            have hpc : [.int .i64 (if u ∈ l then 1 else 0), sv (X.outsTo l u 26), .slice a5 (X.nextTo l u 26).length c5] = cellsQ p := by rw [hp]
            have hOa := hOo.below (Below.new wr (.cells #[.int .i64 (if u ∈ l then 1 else 0), sv (X.outsTo l u 26), .slice a5 (X.nextTo l u 26).length c5] 58))
            have hfa := hf5.below (w' := wr.alloc (.cells #[.int .i64 (if u ∈ l then 1 else 0), sv (X.outsTo l u 26), .slice a5 (X.nextTo l u 26).length c5] 58)) (by simp)
            have hia := hi5.alloc (.cells #[.int .i64 (if u ∈ l then 1 else 0), sv (X.outsTo l u 26), .slice a5 (X.nextTo l u 26).length c5] 58)
            have hnews : ∀ jj uu, (cellsQ p)[jj]? = some uu → (wr.alloc (.cells #[.int .i64 (if u ∈ l then 1 else 0), sv (X.outsTo l u 26), .slice a5 (X.nextTo l u 26).length c5] 58)).cell? ((⟨wr.heap.size, 0, none⟩ : Addr).add jj) = some uu := by
              rw [← hpc]; exact news_new wr #[.int .i64 (if u ∈ l then 1 else 0), sv (X.outsTo l u 26), .slice a5 (X.nextTo l u 26).length c5] 58
            have h1c : ∀ uu ∈ cellsQ p, uu.oneCell' = true := by rw [← hpc]; simp [Value.oneCell']
            have hbs : W0.heap.size ≤ (wr.alloc (.cells #[.int .i64 (if u ∈ l then 1 else 0), sv (X.outsTo l u 26), .slice a5 (X.nextTo l u 26).length c5] 58)).heap.size := by have := HBw.out.size; simp; omega
            have hia' : Ints .i64 (wr.alloc (.cells #[.int .i64 (if u ∈ l then 1 else 0), sv (X.outsTo l u 26), .slice a5 (X.nextTo l u 26).length c5] 58)) p.2.1 p.1.next := by rw [hp]; exact hia
            have hfa' : Off (wr.alloc (.cells #[.int .i64 (if u ∈ l then 1 else 0), sv (X.outsTo l u 26), .slice a5 (X.nextTo l u 26).length c5] 58)) u3 p.2.1 := by rw [hp]; exact hfa
            have HOa := Lib.hid hOa
            have HIa := Lib.hid hia'
            have HFa := Lib.hid hfa'
            have HNe := Lib.hid hnews
            have H1c := Lib.hid h1c
            have HBa := Lib.hid (HBw.out.alloc HBw.out.size (.cells #[.int .i64 (if u ∈ l then 1 else 0), sv (X.outsTo l u 26), .slice a5 (X.nextTo l u 26).length c5] 58))
            have hqn1 : q.length + 1 ≤ 2000000 := by omega
            clear hOo hf5 hi5 hp hpc hOa hfa hia hnews h1c hia' hfa'
            go_wp2_with (at_builtin; refine listApp T25 rfl (.tmp 63) (.tmp 65) rfl W0.heap.size u3 q.length (rowOf q) (cellsQ p) 1 1 ⟨wr.heap.size, 0, none⟩ rfl HOa.out.row rfl (by simp [cellsQ]) HNe.out H1c.out hqn1 hbs ?_; intro o8 w8 hown8 hg8 hL8)
            go_roundw
            case rel => exact ⟨j + 1, q ++ [p], by omega, by go_num, HQ1, Lib.hid (HOa.out.app hown8 hg8 hL8 HIa.out HFa.out), Lib.hid (HBa.out.grown hg8 hbs (fun g e => (HOa.out.row.lt g e).1))⟩
            case measure => simp [RowKit.intOf]; omega)
    · have hj2 : j = (X.tops l).length := by omega
      subst hj2
      have hq := HQ.out
      rw [HAll.out] at hq
      obtain ⟨a6, c6, rfl, hs6, hc6⟩ := HO.out.sts
      have hqn : q.length = (X.build l).length := by rw [← hq, List.length_map]
      rw [hq] at hs6
      rw [hqn] at hc6
      have HS6 := Lib.hid hs6
      have HBe := Lib.hid (HB0.out.trans (HBl.out.mono HB0.out.size))
      rw [hqn]
      clear hq hs6
      go_wp2_with fail
      go_ret
      exact ⟨a6, c6, rfl, HS6.out, hc6, HBe.out⟩
end Go.Proofs.YtcjbnifafofpbaaGreatDoor
/- Walk of the program's function Build. -/
namespace Go.Proofs.YtcjbnifafofpbaaGreatDoor
open Go.RowKit Go.Lib
/-- States and an error that a call gives. -/
def OutBE (w w' : World) (e : Ending) (r : List X.St × Int) : Prop := ∃ a cap, e = .returned (.tuple #[.slice a r.1.length cap, .int .i64 r.2]) ∧ Sts w' a r.1 ∧ (r.1.length ≤ cap ∧ (a = none → cap = 0)) ∧ RowKit.Below w.heap.size w w'
set_option maxRecDepth 20000 in
theorem buildP_any (a : Option Addr) (cap : Nat) (l : List X.W) (w : World) (hl : l.length ≤ 1000000) (hrl : Rooms l) (ha : Strs w a l) :
    Calls Tryz.prog 18 #[.slice a l.length cap] w fun e w' => OutBE w w' e (X.buildE l) := by
  have hE := openE_nil l
  have hx1 : Rooms [] := fun t ht => by cases ht
  by_cases h : X.listE l = 0
  case neg =>
    have HO := Lib.hid (open_err a cap l none 0 [] w hl (by simp) hrl hx1 ha (Strs.nil _ _) (by rw [hE]; exact h))
    rw [hE] at HO
    have HE : Hid (X.buildE l = ([], X.listE l)) := Lib.hid (by unfold X.buildE; rw [if_neg h])
    have hn := ne_bool h
    generalize X.listE l = q at *
    clear h ha hE hx1
    go_enter Tryz.func18, Tryz.ntmps18
    go_wp2_with fail
    refine HO.out.mono ?_
    rintro e w1 ⟨rfl, hb1⟩
    go_wp2_with fail
    go_ret2
    rw [HE.out]
    exact ⟨none, 0, rfl, fun i hi => by simp at hi, by simp, hb1⟩
  have HO := Lib.hid (open_ok a cap l none 0 [] w (by simp) hx1 ha (Strs.nil _ _) (by rw [hE]; exact h))
  have HE : Hid (X.buildE l = (X.build l, 0)) := Lib.hid (by unfold X.buildE; rw [if_pos h])
  have HLi := Lib.hid (X.listE_iff.1 h)
  have HA := Lib.hid ha
  clear h ha hE hx1 hrl
  go_enter Tryz.func18, Tryz.ntmps18
  go_wp2_with fail
  refine HO.out.mono ?_
  rintro e w1 ⟨B, rfl, -, hsh, hb1⟩
  have HP := Lib.hid (statesP_any B a cap l w1 HLi.out hsh (HA.out.below hb1))
  have HB1 := Lib.hid hb1
  clear hsh hb1
  go_wp2_with fail
  refine HP.out.mono ?_
  rintro e w2 ⟨a2, c2, rfl, hs2, hc2, hb2⟩
  have HS2 := Lib.hid hs2
  have HB2 := Lib.hid (HB1.out.trans (hb2.mono HB1.out.size))
  clear hs2 hb2
  go_wp2_with fail
  go_ret2
  rw [HE.out]
  exact ⟨a2, c2, rfl, HS2.out, hc2, HB2.out⟩
end Go.Proofs.YtcjbnifafofpbaaGreatDoor
/- Plain Lean: the examples of the chapter. -/
namespace X
abbrev fourL : List W := [[98, 97, 114], [98, 97, 116], [99, 97, 114], [99, 97, 116]]
abbrev threeL : List W := [[97], [97, 98], [98]]
abbrev B4 : List St := [⟨0, [98, 99], [1, 1]⟩, ⟨0, [97], [2]⟩, ⟨0, [114, 116], [3, 3]⟩, ⟨1, [], []⟩]
abbrev B3 : List St := [⟨0, [97, 98], [1, 2]⟩, ⟨1, [98], [2]⟩, ⟨1, [], []⟩]
theorem w1 : buildE fourL = (B4, 0) := by decide +kernel
theorem w2 : buildE threeL = (B3, 0) := by decide +kernel
theorem w4 : numberE B4 [99, 97, 114] = (2, 0) := by decide +kernel
theorem w3 : namesE B3 = (threeL, 0) := by decide +kernel
theorem w5 : numberE B4 [99, 97, 98] = (0, 5) := by decide +kernel
theorem w6 : nameE B4 3 = ([99, 97, 116], 0) := by decide +kernel
theorem w7 : nameE B4 4 = ([], 3) := by decide +kernel
theorem w8 : tellE threeL [97] [98] = ([98], 0) := by decide +kernel
theorem w9 : tellE fourL [98] [99] = ([], 5) := by decide +kernel
theorem w10 : apartE fourL = ([[], [98], [98, 97], [98, 97, 114]], 0) := by decide +kernel
theorem w11 : checkApartE fourL [[], [98], [99]] = (0, 25) := by decide +kernel
theorem w12 : nearE fourL [98, 97] 1 = ([[98, 97, 114], [98, 97, 116]], 0) := by decide +kernel
theorem w13 : nearE fourL [98, 97, 114] 3 = ([], 3) := by decide +kernel
theorem w14 : joinE fourL threeL = ([[97], [97, 98], [98], [98, 97, 114], [98, 97, 116], [99, 97, 114], [99, 97, 116]], 0) := by decide +kernel
theorem w15 : bothE fourL [[98, 97, 116], [99, 97, 98]] = ([[98, 97, 116]], 0) := by decide +kernel

theorem k1 : tellE fourL [98] [98, 97] = ([114], 0) := by decide +kernel
theorem k2 : tellE fourL [98, 97, 114] [99, 97, 116] = ([], 5) := by decide +kernel
theorem k3 : apartE threeL = ([[], [97], [97, 98]], 0) := by decide +kernel
theorem k4 : checkApartE fourL [[98, 97, 114], [99, 97, 114]] = (0, 25) := by decide +kernel
theorem k5 : checkApartE fourL [[], [98, 97], [120]] = (0, 25) := by decide +kernel
theorem k6 : nearE fourL [98, 97, 114] 1 = ([[98, 97, 114], [98, 97, 116], [99, 97, 114]], 0) := by decide +kernel
theorem k7 : nearE fourL [120] 2 = ([], 0) := by decide +kernel
theorem k8 : buildE [] = ([⟨0, [], []⟩], 0) := by decide +kernel
theorem k9 : checkApartE fourL [[], [98], [98, 97], [99, 97, 116]] = (4, 0) := by decide +kernel
end X
/- Words for the statements' walks: fresh slices of words and of states; the lists of the chapter's examples. -/
namespace Go.Proofs.YtcjbnifafofpbaaGreatDoor
open Go.RowKit Go.Lib
theorem strs_new (w : World) (c : Array Value) (l : List X.W) (hc : c.toList = l.map sv) : Strs (w.alloc (.cells c 9)) (some ⟨w.heap.size, 0, none⟩) l := by
  intro i hi
  refine ⟨_, _, rfl, ?_⟩
  have := news_new w c 9 i (sv (wat l i)) (by rw [hc]; simp [wat, hi])
  rw [addr_add] at this; exact this
theorem sts_new (w : World) (c : Array Value) (q : List Q3) (hc : c.toList = rowOf q) (hq : ∀ p ∈ q, Ints .i64 w p.2.1 p.1.next) : Sts (w.alloc (.cells c 58)) (some ⟨w.heap.size, 0, none⟩) (q.map (·.1)) := by
  intro i hi
  rw [List.length_map] at hi
  have hat : X.at_ (q.map (·.1)) i = (q[i]'hi).1 := by unfold X.at_; simp [hi]
  have hp : q[i]? = some (q[i]'hi) := List.getElem?_eq_getElem hi
  have cc (k : Nat) (u : Value) (hk : k < 3) (hu : (cellsQ (q[i]'hi))[k]? = some u) : (w.alloc (.cells c 58)).cell? ⟨w.heap.size, 0 + (i * 3 + k), none⟩ = some u := by
    have := news_new w c 58 (i * 3 + k) u (by rw [hc, rowOf_at q i k _ hp hk]; exact hu)
    rw [addr_add] at this; exact this
  rw [hat]
  refine ⟨_, 0, rfl, cc 0 _ (by omega) rfl, ?_, (q[i]'hi).2.1, (q[i]'hi).2.2, ?_, (hq _ (List.getElem_mem hi)).alloc _⟩
  · have := cc 1 _ (by omega) rfl
    rwa [← Nat.add_assoc] at this
  · have := cc 2 _ (by omega) rfl
    rwa [← Nat.add_assoc] at this
theorem Strs.lit {w : World} {a : Option Addr} {l : List X.W} (h : Strs w a l) {m : List X.W} (e : l = m) : Strs w a m := e ▸ h
theorem OutSE.lit {w w' : World} {e : Ending} {r : List X.W × Int} {n : Nat} (h : OutSE w w' e r) (hn : r.1.length = n) : ∃ a c, e = .returned (.tuple #[.slice a n c, .int .i64 r.2]) ∧ Strs w' a r.1 ∧ (n ≤ c ∧ (a = none → c = 0)) ∧ RowKit.Below w.heap.size w w' := by
  subst hn; exact h
theorem OutBE.lit {w w' : World} {e : Ending} {r : List X.St × Int} {n : Nat} (h : OutBE w w' e r) (hn : r.1.length = n) : ∃ a c, e = .returned (.tuple #[.slice a n c, .int .i64 r.2]) ∧ Sts w' a r.1 ∧ (n ≤ c ∧ (a = none → c = 0)) ∧ RowKit.Below w.heap.size w w' := by
  subst hn; exact h
theorem OutSE.of {w w' : World} {e : Ending} {r s : List X.W × Int} (h : OutSE w w' e r) (hr : r = s) : OutSE w w' e s := hr ▸ h
theorem rooms_of {l : List X.W} (h : ∀ s ∈ l, s.length ≤ 1000) : Rooms l := fun s hs => by have := h s hs; omega
theorem few_B4 : Few X.B4 := by unfold Few; decide
theorem few_B3 : Few X.B3 := by unfold Few; decide
theorem four_any (w : World) : Calls Tryz.prog 51 #[] w fun e w' => ∃ g, e = .returned (.slice (some ⟨g, 0, none⟩) 4 4) ∧ Strs w' (some ⟨g, 0, none⟩) X.fourL ∧ RowKit.Below w.heap.size w w' := by
  go_enter Tryz.func51, Tryz.ntmps51
  go_wp2_with fail
  refine (texts_any _ _).mono ?_
  rintro e w1 ⟨rfl, rfl⟩
  go_wp2_with fail
  go_ret
  exact ⟨_, rfl, strs_new _ _ _ rfl, Below.new _ _⟩
theorem three_any (w : World) : Calls Tryz.prog 52 #[] w fun e w' => ∃ g, e = .returned (.slice (some ⟨g, 0, none⟩) 3 3) ∧ Strs w' (some ⟨g, 0, none⟩) X.threeL ∧ RowKit.Below w.heap.size w w' := by
  go_enter Tryz.func52, Tryz.ntmps52
  go_wp2_with fail
  refine (texts_any _ _).mono ?_
  rintro e w1 ⟨rfl, rfl⟩
  go_wp2_with fail
  go_ret
  exact ⟨_, rfl, strs_new _ _ _ rfl, Below.new _ _⟩
end Go.Proofs.YtcjbnifafofpbaaGreatDoor
/- Walk of Works: the examples hold. -/
namespace Go.Proofs.YtcjbnifafofpbaaGreatDoor
open Go.RowKit Go.Lib
set_option maxRecDepth 20000 in
set_option maxHeartbeats 8000000 in
theorem works_any (w : World) : Calls Tryz.prog 17 #[] w fun e w' => e = .returned (.bool true) ∧ RowKit.Below w.heap.size w w' := by
  have HB0 := Lib.hid (RowKit.Below.refl w.heap.size w)
  go_enter Tryz.func17, Tryz.ntmps17
  go_wp2_with fail
  refine (four_any _).mono ?_
  rintro e w1 ⟨gl, rfl, hi, hb⟩
  have HB0 := Lib.hid (HB0.out.trans (hb.mono HB0.out.size))
  have Il := Lib.hid hi
  clear hi hb
  go_wp2_with fail
  refine (three_any _).mono ?_
  rintro e w2 ⟨gm, rfl, hi, hb⟩
  have HB1 := Lib.hid (HB0.out.trans (hb.mono HB0.out.size))
  have Il2 := Lib.hid (Il.out.below hb)
  have Im := Lib.hid hi
  clear hi hb
  have hC := buildP_any (some ⟨gl, 0, none⟩) 4 X.fourL w2 (by decide) (rooms_of (by decide)) Il2.out
  rw [X.w1] at hC
  have HC := Lib.hid hC
  clear hC
  go_wp2_with fail
  refine HC.out.mono ?_
  intro e w3 hG
  obtain ⟨As, Cs, rfl, hi, hcs, hb⟩ := hG.lit (n := 4) rfl
  have HB3 := Lib.hid (HB1.out.trans (hb.mono HB1.out.size))
  have Il4 := Lib.hid (Il2.out.below hb)
  have Im5 := Lib.hid (Im.out.below hb)
  have Is := Lib.hid hi
  have Ks := Lib.hid hcs
  clear hcs hi hG
  clear hb HC
  have hC := buildP_any (some ⟨gm, 0, none⟩) 3 X.threeL w3 (by decide) (rooms_of (by decide)) Im5.out
  rw [X.w2] at hC
  have HC := Lib.hid hC
  clear hC
  go_wp2_with fail
  refine HC.out.mono ?_
  intro e w4 hG
  obtain ⟨At, Ct, rfl, hi, hct, hb⟩ := hG.lit (n := 3) rfl
  have HB6 := Lib.hid (HB3.out.trans (hb.mono HB3.out.size))
  have Il7 := Lib.hid (Il4.out.below hb)
  have Im8 := Lib.hid (Im5.out.below hb)
  have Is9 := Lib.hid (Is.out.below hb)
  have It := Lib.hid hi
  have Kt := Lib.hid hct
  clear hct hi hG
  clear hb HC
  have hC := namesP_any At Ct X.B3 w4 (by decide) few_B3 It.out
  rw [X.w3] at hC
  have HC := Lib.hid hC
  clear hC
  go_wp2_with fail
  refine HC.out.mono ?_
  intro e w5 hG
  obtain ⟨Aa, Ca, rfl, hi, hca, hb⟩ := hG.lit (n := 3) rfl
  have HB10 := Lib.hid (HB6.out.trans (hb.mono HB6.out.size))
  have Il11 := Lib.hid (Il7.out.below hb)
  have Im12 := Lib.hid (Im8.out.below hb)
  have Is13 := Lib.hid (Is9.out.below hb)
  have It14 := Lib.hid (It.out.below hb)
  have Ia := Lib.hid hi
  have Ka := Lib.hid hca
  clear hca hi hG
  clear hb HC
  have hC := numberP_any As Cs X.B4 [99, 97, 114] w5 (by decide) few_B4 (by decide) Is13.out
  rw [X.w4] at hC
  have HC := Lib.hid hC
  clear hC
  go_wp2_with fail
  refine HC.out.mono ?_
  rintro e w6 ⟨rfl, hb⟩
  have HB15 := Lib.hid (HB10.out.trans (hb.mono HB10.out.size))
  have Il16 := Lib.hid (Il11.out.below hb)
  have Im17 := Lib.hid (Im12.out.below hb)
  have Is18 := Lib.hid (Is13.out.below hb)
  have It19 := Lib.hid (It14.out.below hb)
  have Ia20 := Lib.hid (Ia.out.below hb)
  clear hb HC
  have hC := numberP_any As Cs X.B4 [99, 97, 98] w6 (by decide) few_B4 (by decide) Is18.out
  rw [X.w5] at hC
  have HC := Lib.hid hC
  clear hC
  go_wp2_with fail
  refine HC.out.mono ?_
  rintro e w7 ⟨rfl, hb⟩
  have HB21 := Lib.hid (HB15.out.trans (hb.mono HB15.out.size))
  have Il22 := Lib.hid (Il16.out.below hb)
  have Im23 := Lib.hid (Im17.out.below hb)
  have Is24 := Lib.hid (Is18.out.below hb)
  have It25 := Lib.hid (It19.out.below hb)
  have Ia26 := Lib.hid (Ia20.out.below hb)
  clear hb HC
  have hC := nameP_any As Cs X.B4 3 w7 (by decide) few_B4 Is24.out
  rw [X.w6] at hC
  have HC := Lib.hid hC
  clear hC
  go_wp2_with fail
  refine HC.out.mono ?_
  rintro e w8 ⟨rfl, hb⟩
  have HB27 := Lib.hid (HB21.out.trans (hb.mono HB21.out.size))
  have Il28 := Lib.hid (Il22.out.below hb)
  have Im29 := Lib.hid (Im23.out.below hb)
  have Is30 := Lib.hid (Is24.out.below hb)
  have It31 := Lib.hid (It25.out.below hb)
  have Ia32 := Lib.hid (Ia26.out.below hb)
  clear hb HC
  have hC := nameP_any As Cs X.B4 4 w8 (by decide) few_B4 Is30.out
  rw [X.w7] at hC
  have HC := Lib.hid hC
  clear hC
  go_wp2_with fail
  refine HC.out.mono ?_
  rintro e w9 ⟨rfl, hb⟩
  have HB33 := Lib.hid (HB27.out.trans (hb.mono HB27.out.size))
  have Il34 := Lib.hid (Il28.out.below hb)
  have Im35 := Lib.hid (Im29.out.below hb)
  have Is36 := Lib.hid (Is30.out.below hb)
  have It37 := Lib.hid (It31.out.below hb)
  have Ia38 := Lib.hid (Ia32.out.below hb)
  clear hb HC
  have hC := tellM_any (some ⟨gm, 0, none⟩) 3 X.threeL [97] [98] w9 (by decide) (rooms_of (by decide)) (by decide) (by decide) Im35.out
  rw [X.w8] at hC
  have HC := Lib.hid hC
  clear hC
  go_wp2_with fail
  refine HC.out.mono ?_
  rintro e w10 ⟨rfl, hb⟩
  have HB39 := Lib.hid (HB33.out.trans (hb.mono HB33.out.size))
  have Il40 := Lib.hid (Il34.out.below hb)
  have Im41 := Lib.hid (Im35.out.below hb)
  have Is42 := Lib.hid (Is36.out.below hb)
  have It43 := Lib.hid (It37.out.below hb)
  have Ia44 := Lib.hid (Ia38.out.below hb)
  clear hb HC
  have hC := tellM_any (some ⟨gl, 0, none⟩) 4 X.fourL [98] [99] w10 (by decide) (rooms_of (by decide)) (by decide) (by decide) Il40.out
  rw [X.w9] at hC
  have HC := Lib.hid hC
  clear hC
  go_wp2_with fail
  refine HC.out.mono ?_
  rintro e w11 ⟨rfl, hb⟩
  have HB45 := Lib.hid (HB39.out.trans (hb.mono HB39.out.size))
  have Il46 := Lib.hid (Il40.out.below hb)
  have Im47 := Lib.hid (Im41.out.below hb)
  have Is48 := Lib.hid (Is42.out.below hb)
  have It49 := Lib.hid (It43.out.below hb)
  have Ia50 := Lib.hid (Ia44.out.below hb)
  clear hb HC
  have hC := apartM_any (some ⟨gl, 0, none⟩) 4 X.fourL w11 (by decide) (rooms_of (by decide)) Il46.out
  rw [X.w10] at hC
  have HC := Lib.hid hC
  clear hC
  go_wp2_with fail
  refine HC.out.mono ?_
  intro e w12 hG
  obtain ⟨Ad, Cd, rfl, hi, hcd, hb⟩ := hG.lit (n := 4) rfl
  have HB51 := Lib.hid (HB45.out.trans (hb.mono HB45.out.size))
  have Il52 := Lib.hid (Il46.out.below hb)
  have Im53 := Lib.hid (Im47.out.below hb)
  have Is54 := Lib.hid (Is48.out.below hb)
  have It55 := Lib.hid (It49.out.below hb)
  have Ia56 := Lib.hid (Ia50.out.below hb)
  have Id := Lib.hid hi
  have Kd := Lib.hid hcd
  clear hcd hi hG
  clear hb HC
  go_wp2_with fail
  refine (texts_any _ _).mono ?_
  rintro e w' ⟨rfl, hw⟩
  have hb := Below.new w12 (.cells #[sv [], sv [98], sv [99]] 9)
  have hi := strs_new w12 #[sv [], sv [98], sv [99]] [[], [98], [99]] rfl
  obtain ⟨gx, hgx⟩ : ∃ g, g = w12.heap.size := ⟨_, rfl⟩
  rw [← hgx] at hi ⊢
  have hw2 : w12.alloc (.cells #[sv [], sv [98], sv [99]] 9) = w' := hw
  rw [hw2] at hi hb
  clear hw hw2 hgx
  obtain ⟨w13, hV⟩ : ∃ V, V = w' := ⟨_, rfl⟩
  rw [← hV] at hi hb ⊢
  clear hV
  have HB57 := Lib.hid (HB51.out.trans (hb.mono HB51.out.size))
  have Il58 := Lib.hid (Il52.out.below hb)
  have Im59 := Lib.hid (Im53.out.below hb)
  have Is60 := Lib.hid (Is54.out.below hb)
  have It61 := Lib.hid (It55.out.below hb)
  have Ia62 := Lib.hid (Ia56.out.below hb)
  have Id63 := Lib.hid (Id.out.below hb)
  have Ix := Lib.hid hi
  clear hi hb
  have hC := checkApartM_any (some ⟨gl, 0, none⟩) 4 X.fourL (some ⟨gx, 0, none⟩) 3 [[], [98], [99]] w13 (by decide) (rooms_of (by decide)) (by decide) (rooms_of (by decide)) Il58.out Ix.out
  rw [X.w11] at hC
  have HC := Lib.hid hC
  clear hC
  go_wp2_with fail
  refine HC.out.mono ?_
  rintro e w14 ⟨rfl, hb⟩
  have HB64 := Lib.hid (HB57.out.trans (hb.mono HB57.out.size))
  have Il65 := Lib.hid (Il58.out.below hb)
  have Im66 := Lib.hid (Im59.out.below hb)
  have Is67 := Lib.hid (Is60.out.below hb)
  have It68 := Lib.hid (It61.out.below hb)
  have Ia69 := Lib.hid (Ia62.out.below hb)
  have Id70 := Lib.hid (Id63.out.below hb)
  have Ix71 := Lib.hid (Ix.out.below hb)
  clear hb HC
  have hC := nearM_any (some ⟨gl, 0, none⟩) 4 X.fourL [98, 97] 1 w14 (by decide) (rooms_of (by decide)) (by decide) Il65.out
  rw [X.w12] at hC
  have HC := Lib.hid hC
  clear hC
  go_wp2_with fail
  refine HC.out.mono ?_
  intro e w15 hG
  obtain ⟨Af, Cf, rfl, hi, hcf, hb⟩ := hG.lit (n := 2) rfl
  have HB72 := Lib.hid (HB64.out.trans (hb.mono HB64.out.size))
  have Il73 := Lib.hid (Il65.out.below hb)
  have Im74 := Lib.hid (Im66.out.below hb)
  have Is75 := Lib.hid (Is67.out.below hb)
  have It76 := Lib.hid (It68.out.below hb)
  have Ia77 := Lib.hid (Ia69.out.below hb)
  have Id78 := Lib.hid (Id70.out.below hb)
  have Ix79 := Lib.hid (Ix71.out.below hb)
  have If := Lib.hid hi
  have Kf := Lib.hid hcf
  clear hcf hi hG
  clear hb HC
  have hC := nearM_any (some ⟨gl, 0, none⟩) 4 X.fourL [98, 97, 114] 3 w15 (by decide) (rooms_of (by decide)) (by decide) Il73.out
  rw [X.w13] at hC
  have HC := Lib.hid hC
  clear hC
  go_wp2_with fail
  refine HC.out.mono ?_
  intro e w16 hG
  obtain ⟨An, Cn, rfl, hi, hcn, hb⟩ := hG.lit (n := 0) rfl
  have HB80 := Lib.hid (HB72.out.trans (hb.mono HB72.out.size))
  have Il81 := Lib.hid (Il73.out.below hb)
  have Im82 := Lib.hid (Im74.out.below hb)
  have Is83 := Lib.hid (Is75.out.below hb)
  have It84 := Lib.hid (It76.out.below hb)
  have Ia85 := Lib.hid (Ia77.out.below hb)
  have Id86 := Lib.hid (Id78.out.below hb)
  have Ix87 := Lib.hid (Ix79.out.below hb)
  have If88 := Lib.hid (If.out.below hb)
  have In := Lib.hid hi
  have Kn := Lib.hid hcn
  clear hcn hi hG
  clear hb HC
  have hC := joinP_any (some ⟨gl, 0, none⟩) 4 X.fourL (some ⟨gm, 0, none⟩) 3 X.threeL w16 (by decide) (by decide) (rooms_of (by decide)) (rooms_of (by decide)) Il81.out Im82.out (fun h => by cases h)
  rw [X.w14] at hC
  have HC := Lib.hid hC
  clear hC
  go_wp2_with fail
  refine HC.out.mono ?_
  intro e w17 hG
  obtain ⟨Ag, Cg, rfl, hi, hcg, hb⟩ := hG.lit (n := 7) rfl
  have HB89 := Lib.hid (HB80.out.trans (hb.mono HB80.out.size))
  have Il90 := Lib.hid (Il81.out.below hb)
  have Im91 := Lib.hid (Im82.out.below hb)
  have Is92 := Lib.hid (Is83.out.below hb)
  have It93 := Lib.hid (It84.out.below hb)
  have Ia94 := Lib.hid (Ia85.out.below hb)
  have Id95 := Lib.hid (Id86.out.below hb)
  have Ix96 := Lib.hid (Ix87.out.below hb)
  have If97 := Lib.hid (If88.out.below hb)
  have In98 := Lib.hid (In.out.below hb)
  have Ig := Lib.hid hi
  have Kg := Lib.hid hcg
  clear hcg hi hG
  clear hb HC
  go_wp2_with fail
  refine (texts_any _ _).mono ?_
  rintro e w' ⟨rfl, hw⟩
  have hb := Below.new w17 (.cells #[sv [98, 97, 116], sv [99, 97, 98]] 9)
  have hi := strs_new w17 #[sv [98, 97, 116], sv [99, 97, 98]] [[98, 97, 116], [99, 97, 98]] rfl
  obtain ⟨gy, hgy⟩ : ∃ g, g = w17.heap.size := ⟨_, rfl⟩
  rw [← hgy] at hi ⊢
  have hw2 : w17.alloc (.cells #[sv [98, 97, 116], sv [99, 97, 98]] 9) = w' := hw
  rw [hw2] at hi hb
  clear hw hw2 hgy
  obtain ⟨w18, hV⟩ : ∃ V, V = w' := ⟨_, rfl⟩
  rw [← hV] at hi hb ⊢
  clear hV
  have HB99 := Lib.hid (HB89.out.trans (hb.mono HB89.out.size))
  have Il100 := Lib.hid (Il90.out.below hb)
  have Im101 := Lib.hid (Im91.out.below hb)
  have Is102 := Lib.hid (Is92.out.below hb)
  have It103 := Lib.hid (It93.out.below hb)
  have Ia104 := Lib.hid (Ia94.out.below hb)
  have Id105 := Lib.hid (Id95.out.below hb)
  have Ix106 := Lib.hid (Ix96.out.below hb)
  have If107 := Lib.hid (If97.out.below hb)
  have In108 := Lib.hid (In98.out.below hb)
  have Ig109 := Lib.hid (Ig.out.below hb)
  have Iy := Lib.hid hi
  clear hi hb
  have hC := bothP_any (some ⟨gl, 0, none⟩) 4 X.fourL (some ⟨gy, 0, none⟩) 2 [[98, 97, 116], [99, 97, 98]] w18 (by decide) (by decide) (rooms_of (by decide)) (rooms_of (by decide)) Il100.out Iy.out
  rw [X.w15] at hC
  have HC := Lib.hid hC
  clear hC
  go_wp2_with fail
  refine HC.out.mono ?_
  intro e w19 hG
  obtain ⟨Ah, Ch, rfl, hi, hch, hb⟩ := hG.lit (n := 1) rfl
  have HB110 := Lib.hid (HB99.out.trans (hb.mono HB99.out.size))
  have Il111 := Lib.hid (Il100.out.below hb)
  have Im112 := Lib.hid (Im101.out.below hb)
  have Is113 := Lib.hid (Is102.out.below hb)
  have It114 := Lib.hid (It103.out.below hb)
  have Ia115 := Lib.hid (Ia104.out.below hb)
  have Id116 := Lib.hid (Id105.out.below hb)
  have Ix117 := Lib.hid (Ix106.out.below hb)
  have If118 := Lib.hid (If107.out.below hb)
  have In119 := Lib.hid (In108.out.below hb)
  have Ig120 := Lib.hid (Ig109.out.below hb)
  have Iy121 := Lib.hid (Iy.out.below hb)
  have Ih := Lib.hid hi
  have Kh := Lib.hid hch
  clear hch hi hG
  clear hb HC
  go_wp2_with fail
  have hb1 := Below.new w19 (.cells #[.int .i64 1, .int .i64 1] 3)
  have hi := ints_new w19 #[.int .i64 1, .int .i64 1] 3 [1, 1] rfl
  obtain ⟨gp, hg⟩ : ∃ g, g = w19.heap.size := ⟨_, rfl⟩
  rw [← hg] at hi ⊢
  clear hg
  refine (state54_any 0 [98, 99] (.slice (some ⟨gp, 0, none⟩) 2 2) _ 2 2 rfl _).mono ?_
  rintro e w20 ⟨rfl, hb2⟩
  have hb := hb1.trans (hb2.mono hb1.size)
  have hi := hi.below hb2
  have HB122 := Lib.hid (HB110.out.trans (hb.mono HB110.out.size))
  have Il123 := Lib.hid (Il111.out.below hb)
  have Im124 := Lib.hid (Im112.out.below hb)
  have Is125 := Lib.hid (Is113.out.below hb)
  have It126 := Lib.hid (It114.out.below hb)
  have Ia127 := Lib.hid (Ia115.out.below hb)
  have Id128 := Lib.hid (Id116.out.below hb)
  have Ix129 := Lib.hid (Ix117.out.below hb)
  have If130 := Lib.hid (If118.out.below hb)
  have In131 := Lib.hid (In119.out.below hb)
  have Ig132 := Lib.hid (Ig120.out.below hb)
  have Iy133 := Lib.hid (Iy121.out.below hb)
  have Ih134 := Lib.hid (Ih.out.below hb)
  have Ip := Lib.hid hi
  clear hi hb1
  clear hb hb2
  go_wp2_with fail
  have hb1 := Below.new w20 (.cells #[.int .i64 2] 3)
  have hi := ints_new w20 #[.int .i64 2] 3 [2] rfl
  obtain ⟨gq, hg⟩ : ∃ g, g = w20.heap.size := ⟨_, rfl⟩
  rw [← hg] at hi ⊢
  clear hg
  refine (state54_any 0 [97] (.slice (some ⟨gq, 0, none⟩) 1 1) _ 1 1 rfl _).mono ?_
  rintro e w21 ⟨rfl, hb2⟩
  have hb := hb1.trans (hb2.mono hb1.size)
  have hi := hi.below hb2
  have HB135 := Lib.hid (HB122.out.trans (hb.mono HB122.out.size))
  have Il136 := Lib.hid (Il123.out.below hb)
  have Im137 := Lib.hid (Im124.out.below hb)
  have Is138 := Lib.hid (Is125.out.below hb)
  have It139 := Lib.hid (It126.out.below hb)
  have Ia140 := Lib.hid (Ia127.out.below hb)
  have Id141 := Lib.hid (Id128.out.below hb)
  have Ix142 := Lib.hid (Ix129.out.below hb)
  have If143 := Lib.hid (If130.out.below hb)
  have In144 := Lib.hid (In131.out.below hb)
  have Ig145 := Lib.hid (Ig132.out.below hb)
  have Iy146 := Lib.hid (Iy133.out.below hb)
  have Ih147 := Lib.hid (Ih134.out.below hb)
  have Ip148 := Lib.hid (Ip.out.below hb)
  have Iq := Lib.hid hi
  clear hi hb1
  clear hb hb2
  go_wp2_with fail
  have hb1 := Below.new w21 (.cells #[.int .i64 3, .int .i64 3] 3)
  have hi := ints_new w21 #[.int .i64 3, .int .i64 3] 3 [3, 3] rfl
  obtain ⟨gr, hg⟩ : ∃ g, g = w21.heap.size := ⟨_, rfl⟩
  rw [← hg] at hi ⊢
  clear hg
  refine (state54_any 0 [114, 116] (.slice (some ⟨gr, 0, none⟩) 2 2) _ 2 2 rfl _).mono ?_
  rintro e w22 ⟨rfl, hb2⟩
  have hb := hb1.trans (hb2.mono hb1.size)
  have hi := hi.below hb2
  have HB149 := Lib.hid (HB135.out.trans (hb.mono HB135.out.size))
  have Il150 := Lib.hid (Il136.out.below hb)
  have Im151 := Lib.hid (Im137.out.below hb)
  have Is152 := Lib.hid (Is138.out.below hb)
  have It153 := Lib.hid (It139.out.below hb)
  have Ia154 := Lib.hid (Ia140.out.below hb)
  have Id155 := Lib.hid (Id141.out.below hb)
  have Ix156 := Lib.hid (Ix142.out.below hb)
  have If157 := Lib.hid (If143.out.below hb)
  have In158 := Lib.hid (In144.out.below hb)
  have Ig159 := Lib.hid (Ig145.out.below hb)
  have Iy160 := Lib.hid (Iy146.out.below hb)
  have Ih161 := Lib.hid (Ih147.out.below hb)
  have Ip162 := Lib.hid (Ip148.out.below hb)
  have Iq163 := Lib.hid (Iq.out.below hb)
  have Ir := Lib.hid hi
  clear hi hb1
  clear hb hb2
  go_wp2_with fail
  refine (state54_any 1 [] (.slice none 0 0) _ 0 0 rfl _).mono ?_
  rintro e w23 ⟨rfl, hb2⟩
  have hb := hb2
  have HB164 := Lib.hid (HB149.out.trans (hb.mono HB149.out.size))
  have Il165 := Lib.hid (Il150.out.below hb)
  have Im166 := Lib.hid (Im151.out.below hb)
  have Is167 := Lib.hid (Is152.out.below hb)
  have It168 := Lib.hid (It153.out.below hb)
  have Ia169 := Lib.hid (Ia154.out.below hb)
  have Id170 := Lib.hid (Id155.out.below hb)
  have Ix171 := Lib.hid (Ix156.out.below hb)
  have If172 := Lib.hid (If157.out.below hb)
  have In173 := Lib.hid (In158.out.below hb)
  have Ig174 := Lib.hid (Ig159.out.below hb)
  have Iy175 := Lib.hid (Iy160.out.below hb)
  have Ih176 := Lib.hid (Ih161.out.below hb)
  have Ip177 := Lib.hid (Ip162.out.below hb)
  have Iq178 := Lib.hid (Iq163.out.below hb)
  have Ir179 := Lib.hid (Ir.out.below hb)
  clear hb hb2
  go_wp2_with fail
  have hq : Sts _ _ X.B4 := sts_new w23 #[.int .i64 0, sv [98, 99], .slice (some ⟨gp, 0, none⟩) 2 2, .int .i64 0, sv [97], .slice (some ⟨gq, 0, none⟩) 1 1, .int .i64 0, sv [114, 116], .slice (some ⟨gr, 0, none⟩) 2 2, .int .i64 1, sv [], .slice none 0 0] [(⟨0, [98, 99], [1, 1]⟩, (some ⟨gp, 0, none⟩), 2), (⟨0, [97], [2]⟩, (some ⟨gq, 0, none⟩), 1), (⟨0, [114, 116], [3, 3]⟩, (some ⟨gr, 0, none⟩), 2), (⟨1, [], []⟩, none, 0)] rfl (List.forall_mem_cons.2 ⟨Ip177.out, (List.forall_mem_cons.2 ⟨Iq178.out, (List.forall_mem_cons.2 ⟨Ir179.out, (List.forall_mem_cons.2 ⟨Ints.nil _ _ _, (fun _ h => by cases h)⟩)⟩)⟩)⟩)
  have hb1 := Below.new w23 (.cells #[.int .i64 0, sv [98, 99], .slice (some ⟨gp, 0, none⟩) 2 2, .int .i64 0, sv [97], .slice (some ⟨gq, 0, none⟩) 1 1, .int .i64 0, sv [114, 116], .slice (some ⟨gr, 0, none⟩) 2 2, .int .i64 1, sv [], .slice none 0 0] 58)
  have hC := statesS_any As Cs X.B4 (some ⟨w23.heap.size, 0, none⟩) 4 X.B4 _ (by decide) few_B4 (Is167.out.alloc _) hq
  rw [decide_eq_true rfl] at hC
  refine hC.mono ?_
  rintro e w24 ⟨rfl, hd⟩
  have hb := hb1.trans ((hd.below _).mono hb1.size)
  clear hd hb1 hq hC
  have HB180 := Lib.hid (HB164.out.trans (hb.mono HB164.out.size))
  have Il181 := Lib.hid (Il165.out.below hb)
  have Im182 := Lib.hid (Im166.out.below hb)
  have Is183 := Lib.hid (Is167.out.below hb)
  have It184 := Lib.hid (It168.out.below hb)
  have Ia185 := Lib.hid (Ia169.out.below hb)
  have Id186 := Lib.hid (Id170.out.below hb)
  have Ix187 := Lib.hid (Ix171.out.below hb)
  have If188 := Lib.hid (If172.out.below hb)
  have In189 := Lib.hid (In173.out.below hb)
  have Ig190 := Lib.hid (Ig174.out.below hb)
  have Iy191 := Lib.hid (Iy175.out.below hb)
  have Ih192 := Lib.hid (Ih176.out.below hb)
  have Ip193 := Lib.hid (Ip177.out.below hb)
  have Iq194 := Lib.hid (Iq178.out.below hb)
  have Ir195 := Lib.hid (Ir179.out.below hb)
  clear hb
  go_wp2_with fail
  have hb1 := Below.new w24 (.cells #[.int .i64 1, .int .i64 2] 3)
  have hi := ints_new w24 #[.int .i64 1, .int .i64 2] 3 [1, 2] rfl
  obtain ⟨gp, hg⟩ : ∃ g, g = w24.heap.size := ⟨_, rfl⟩
  rw [← hg] at hi ⊢
  clear hg
  refine (state54_any 0 [97, 98] (.slice (some ⟨gp, 0, none⟩) 2 2) _ 2 2 rfl _).mono ?_
  rintro e w25 ⟨rfl, hb2⟩
  have hb := hb1.trans (hb2.mono hb1.size)
  have hi := hi.below hb2
  have HB196 := Lib.hid (HB180.out.trans (hb.mono HB180.out.size))
  have Il197 := Lib.hid (Il181.out.below hb)
  have Im198 := Lib.hid (Im182.out.below hb)
  have Is199 := Lib.hid (Is183.out.below hb)
  have It200 := Lib.hid (It184.out.below hb)
  have Ia201 := Lib.hid (Ia185.out.below hb)
  have Id202 := Lib.hid (Id186.out.below hb)
  have Ix203 := Lib.hid (Ix187.out.below hb)
  have If204 := Lib.hid (If188.out.below hb)
  have In205 := Lib.hid (In189.out.below hb)
  have Ig206 := Lib.hid (Ig190.out.below hb)
  have Iy207 := Lib.hid (Iy191.out.below hb)
  have Ih208 := Lib.hid (Ih192.out.below hb)
  have Ip209 := Lib.hid (Ip193.out.below hb)
  have Iq210 := Lib.hid (Iq194.out.below hb)
  have Ir211 := Lib.hid (Ir195.out.below hb)
  have Ip := Lib.hid hi
  clear hi hb1
  clear hb hb2
  go_wp2_with fail
  have hb1 := Below.new w25 (.cells #[.int .i64 2] 3)
  have hi := ints_new w25 #[.int .i64 2] 3 [2] rfl
  obtain ⟨gq, hg⟩ : ∃ g, g = w25.heap.size := ⟨_, rfl⟩
  rw [← hg] at hi ⊢
  clear hg
  refine (state54_any 1 [98] (.slice (some ⟨gq, 0, none⟩) 1 1) _ 1 1 rfl _).mono ?_
  rintro e w26 ⟨rfl, hb2⟩
  have hb := hb1.trans (hb2.mono hb1.size)
  have hi := hi.below hb2
  have HB212 := Lib.hid (HB196.out.trans (hb.mono HB196.out.size))
  have Il213 := Lib.hid (Il197.out.below hb)
  have Im214 := Lib.hid (Im198.out.below hb)
  have Is215 := Lib.hid (Is199.out.below hb)
  have It216 := Lib.hid (It200.out.below hb)
  have Ia217 := Lib.hid (Ia201.out.below hb)
  have Id218 := Lib.hid (Id202.out.below hb)
  have Ix219 := Lib.hid (Ix203.out.below hb)
  have If220 := Lib.hid (If204.out.below hb)
  have In221 := Lib.hid (In205.out.below hb)
  have Ig222 := Lib.hid (Ig206.out.below hb)
  have Iy223 := Lib.hid (Iy207.out.below hb)
  have Ih224 := Lib.hid (Ih208.out.below hb)
  have Ip225 := Lib.hid (Ip.out.below hb)
  have Iq226 := Lib.hid (Iq210.out.below hb)
  have Ir227 := Lib.hid (Ir211.out.below hb)
  have Iq := Lib.hid hi
  clear hi hb1
  clear hb hb2
  go_wp2_with fail
  refine (state54_any 1 [] (.slice none 0 0) _ 0 0 rfl _).mono ?_
  rintro e w27 ⟨rfl, hb2⟩
  have hb := hb2
  have HB228 := Lib.hid (HB212.out.trans (hb.mono HB212.out.size))
  have Il229 := Lib.hid (Il213.out.below hb)
  have Im230 := Lib.hid (Im214.out.below hb)
  have Is231 := Lib.hid (Is215.out.below hb)
  have It232 := Lib.hid (It216.out.below hb)
  have Ia233 := Lib.hid (Ia217.out.below hb)
  have Id234 := Lib.hid (Id218.out.below hb)
  have Ix235 := Lib.hid (Ix219.out.below hb)
  have If236 := Lib.hid (If220.out.below hb)
  have In237 := Lib.hid (In221.out.below hb)
  have Ig238 := Lib.hid (Ig222.out.below hb)
  have Iy239 := Lib.hid (Iy223.out.below hb)
  have Ih240 := Lib.hid (Ih224.out.below hb)
  have Ip241 := Lib.hid (Ip225.out.below hb)
  have Iq242 := Lib.hid (Iq.out.below hb)
  have Ir243 := Lib.hid (Ir227.out.below hb)
  clear hb hb2
  go_wp2_with fail
  have hq : Sts _ _ X.B3 := sts_new w27 #[.int .i64 0, sv [97, 98], .slice (some ⟨gp, 0, none⟩) 2 2, .int .i64 1, sv [98], .slice (some ⟨gq, 0, none⟩) 1 1, .int .i64 1, sv [], .slice none 0 0] [(⟨0, [97, 98], [1, 2]⟩, (some ⟨gp, 0, none⟩), 2), (⟨1, [98], [2]⟩, (some ⟨gq, 0, none⟩), 1), (⟨1, [], []⟩, none, 0)] rfl (List.forall_mem_cons.2 ⟨Ip241.out, (List.forall_mem_cons.2 ⟨Iq242.out, (List.forall_mem_cons.2 ⟨Ints.nil _ _ _, (fun _ h => by cases h)⟩)⟩)⟩)
  have hb1 := Below.new w27 (.cells #[.int .i64 0, sv [97, 98], .slice (some ⟨gp, 0, none⟩) 2 2, .int .i64 1, sv [98], .slice (some ⟨gq, 0, none⟩) 1 1, .int .i64 1, sv [], .slice none 0 0] 58)
  have hC := statesS_any At Ct X.B3 (some ⟨w27.heap.size, 0, none⟩) 3 X.B3 _ (by decide) few_B3 (It232.out.alloc _) hq
  rw [decide_eq_true rfl] at hC
  refine hC.mono ?_
  rintro e w28 ⟨rfl, hd⟩
  have hb := hb1.trans ((hd.below _).mono hb1.size)
  clear hd hb1 hq hC
  have HB244 := Lib.hid (HB228.out.trans (hb.mono HB228.out.size))
  have Il245 := Lib.hid (Il229.out.below hb)
  have Im246 := Lib.hid (Im230.out.below hb)
  have Is247 := Lib.hid (Is231.out.below hb)
  have It248 := Lib.hid (It232.out.below hb)
  have Ia249 := Lib.hid (Ia233.out.below hb)
  have Id250 := Lib.hid (Id234.out.below hb)
  have Ix251 := Lib.hid (Ix235.out.below hb)
  have If252 := Lib.hid (If236.out.below hb)
  have In253 := Lib.hid (In237.out.below hb)
  have Ig254 := Lib.hid (Ig238.out.below hb)
  have Iy255 := Lib.hid (Iy239.out.below hb)
  have Ih256 := Lib.hid (Ih240.out.below hb)
  have Ip257 := Lib.hid (Ip241.out.below hb)
  have Iq258 := Lib.hid (Iq242.out.below hb)
  have Ir259 := Lib.hid (Ir243.out.below hb)
  clear hb
  have hC := textsS_any Aa Ca [[97], [97, 98], [98]] (some ⟨gm, 0, none⟩) 3 [[97], [97, 98], [98]] w28 (by decide) Ia249.out Im246.out
  rw [decide_eq_true rfl] at hC
  have HC := Lib.hid hC
  clear hC
  go_wp2_with fail
  refine HC.out.mono ?_
  rintro e w29 ⟨rfl, hd⟩
  have hb := hd.below w28.heap.size
  clear hd
  have hb := hb
  have HB260 := Lib.hid (HB244.out.trans (hb.mono HB244.out.size))
  have Il261 := Lib.hid (Il245.out.below hb)
  have Im262 := Lib.hid (Im246.out.below hb)
  have Is263 := Lib.hid (Is247.out.below hb)
  have It264 := Lib.hid (It248.out.below hb)
  have Ia265 := Lib.hid (Ia249.out.below hb)
  have Id266 := Lib.hid (Id250.out.below hb)
  have Ix267 := Lib.hid (Ix251.out.below hb)
  have If268 := Lib.hid (If252.out.below hb)
  have In269 := Lib.hid (In253.out.below hb)
  have Ig270 := Lib.hid (Ig254.out.below hb)
  have Iy271 := Lib.hid (Iy255.out.below hb)
  have Ih272 := Lib.hid (Ih256.out.below hb)
  have Ip273 := Lib.hid (Ip257.out.below hb)
  have Iq274 := Lib.hid (Iq258.out.below hb)
  have Ir275 := Lib.hid (Ir259.out.below hb)
  clear hb HC
  go_wp2_with fail
  refine (texts_any _ _).mono ?_
  rintro e w' ⟨rfl, hw⟩
  have hb := Below.new w29 (.cells #[sv [], sv [98], sv [98, 97], sv [98, 97, 114]] 9)
  have hi := strs_new w29 #[sv [], sv [98], sv [98, 97], sv [98, 97, 114]] [[], [98], [98, 97], [98, 97, 114]] rfl
  obtain ⟨gv, hgv⟩ : ∃ g, g = w29.heap.size := ⟨_, rfl⟩
  rw [← hgv] at hi ⊢
  have hw2 : w29.alloc (.cells #[sv [], sv [98], sv [98, 97], sv [98, 97, 114]] 9) = w' := hw
  rw [hw2] at hi hb
  clear hw hw2 hgv
  obtain ⟨w30, hV⟩ : ∃ V, V = w' := ⟨_, rfl⟩
  rw [← hV] at hi hb ⊢
  clear hV
  have HB276 := Lib.hid (HB260.out.trans (hb.mono HB260.out.size))
  have Il277 := Lib.hid (Il261.out.below hb)
  have Im278 := Lib.hid (Im262.out.below hb)
  have Is279 := Lib.hid (Is263.out.below hb)
  have It280 := Lib.hid (It264.out.below hb)
  have Ia281 := Lib.hid (Ia265.out.below hb)
  have Id282 := Lib.hid (Id266.out.below hb)
  have Ix283 := Lib.hid (Ix267.out.below hb)
  have If284 := Lib.hid (If268.out.below hb)
  have In285 := Lib.hid (In269.out.below hb)
  have Ig286 := Lib.hid (Ig270.out.below hb)
  have Iy287 := Lib.hid (Iy271.out.below hb)
  have Ih288 := Lib.hid (Ih272.out.below hb)
  have Ip289 := Lib.hid (Ip273.out.below hb)
  have Iq290 := Lib.hid (Iq274.out.below hb)
  have Ir291 := Lib.hid (Ir275.out.below hb)
  have Iv := Lib.hid hi
  clear hi hb
  have hC := textsS_any Ad Cd [[], [98], [98, 97], [98, 97, 114]] (some ⟨gv, 0, none⟩) 4 [[], [98], [98, 97], [98, 97, 114]] w30 (by decide) Id282.out Iv.out
  rw [decide_eq_true rfl] at hC
  have HC := Lib.hid hC
  clear hC
  go_wp2_with fail
  refine HC.out.mono ?_
  rintro e w31 ⟨rfl, hd⟩
  have hb := hd.below w30.heap.size
  clear hd
  have hb := hb
  have HB292 := Lib.hid (HB276.out.trans (hb.mono HB276.out.size))
  have Il293 := Lib.hid (Il277.out.below hb)
  have Im294 := Lib.hid (Im278.out.below hb)
  have Is295 := Lib.hid (Is279.out.below hb)
  have It296 := Lib.hid (It280.out.below hb)
  have Ia297 := Lib.hid (Ia281.out.below hb)
  have Id298 := Lib.hid (Id282.out.below hb)
  have Ix299 := Lib.hid (Ix283.out.below hb)
  have If300 := Lib.hid (If284.out.below hb)
  have In301 := Lib.hid (In285.out.below hb)
  have Ig302 := Lib.hid (Ig286.out.below hb)
  have Iy303 := Lib.hid (Iy287.out.below hb)
  have Ih304 := Lib.hid (Ih288.out.below hb)
  have Ip305 := Lib.hid (Ip289.out.below hb)
  have Iq306 := Lib.hid (Iq290.out.below hb)
  have Ir307 := Lib.hid (Ir291.out.below hb)
  have Iv308 := Lib.hid (Iv.out.below hb)
  clear hb HC
  go_wp2_with fail
  refine (texts_any _ _).mono ?_
  rintro e w' ⟨rfl, hw⟩
  have hb := Below.new w31 (.cells #[sv [98, 97, 114], sv [98, 97, 116]] 9)
  have hi := strs_new w31 #[sv [98, 97, 114], sv [98, 97, 116]] [[98, 97, 114], [98, 97, 116]] rfl
  obtain ⟨gv, hgv⟩ : ∃ g, g = w31.heap.size := ⟨_, rfl⟩
  rw [← hgv] at hi ⊢
  have hw2 : w31.alloc (.cells #[sv [98, 97, 114], sv [98, 97, 116]] 9) = w' := hw
  rw [hw2] at hi hb
  clear hw hw2 hgv
  obtain ⟨w32, hV⟩ : ∃ V, V = w' := ⟨_, rfl⟩
  rw [← hV] at hi hb ⊢
  clear hV
  have HB309 := Lib.hid (HB292.out.trans (hb.mono HB292.out.size))
  have Il310 := Lib.hid (Il293.out.below hb)
  have Im311 := Lib.hid (Im294.out.below hb)
  have Is312 := Lib.hid (Is295.out.below hb)
  have It313 := Lib.hid (It296.out.below hb)
  have Ia314 := Lib.hid (Ia297.out.below hb)
  have Id315 := Lib.hid (Id298.out.below hb)
  have Ix316 := Lib.hid (Ix299.out.below hb)
  have If317 := Lib.hid (If300.out.below hb)
  have In318 := Lib.hid (In301.out.below hb)
  have Ig319 := Lib.hid (Ig302.out.below hb)
  have Iy320 := Lib.hid (Iy303.out.below hb)
  have Ih321 := Lib.hid (Ih304.out.below hb)
  have Ip322 := Lib.hid (Ip305.out.below hb)
  have Iq323 := Lib.hid (Iq306.out.below hb)
  have Ir324 := Lib.hid (Ir307.out.below hb)
  have Iv325 := Lib.hid (Iv308.out.below hb)
  have Iv := Lib.hid hi
  clear hi hb
  have hC := textsS_any Af Cf [[98, 97, 114], [98, 97, 116]] (some ⟨gv, 0, none⟩) 2 [[98, 97, 114], [98, 97, 116]] w32 (by decide) If317.out Iv.out
  rw [decide_eq_true rfl] at hC
  have HC := Lib.hid hC
  clear hC
  go_wp2_with fail
  refine HC.out.mono ?_
  rintro e w33 ⟨rfl, hd⟩
  have hb := hd.below w32.heap.size
  clear hd
  have hb := hb
  have HB326 := Lib.hid (HB309.out.trans (hb.mono HB309.out.size))
  have Il327 := Lib.hid (Il310.out.below hb)
  have Im328 := Lib.hid (Im311.out.below hb)
  have Is329 := Lib.hid (Is312.out.below hb)
  have It330 := Lib.hid (It313.out.below hb)
  have Ia331 := Lib.hid (Ia314.out.below hb)
  have Id332 := Lib.hid (Id315.out.below hb)
  have Ix333 := Lib.hid (Ix316.out.below hb)
  have If334 := Lib.hid (If317.out.below hb)
  have In335 := Lib.hid (In318.out.below hb)
  have Ig336 := Lib.hid (Ig319.out.below hb)
  have Iy337 := Lib.hid (Iy320.out.below hb)
  have Ih338 := Lib.hid (Ih321.out.below hb)
  have Ip339 := Lib.hid (Ip322.out.below hb)
  have Iq340 := Lib.hid (Iq323.out.below hb)
  have Ir341 := Lib.hid (Ir324.out.below hb)
  have Iv342 := Lib.hid (Iv.out.below hb)
  clear hb HC
  go_wp2_with fail
  refine (texts_any _ _).mono ?_
  rintro e w' ⟨rfl, hw⟩
  have hb := Below.new w33 (.cells #[sv [97], sv [97, 98], sv [98], sv [98, 97, 114], sv [98, 97, 116], sv [99, 97, 114], sv [99, 97, 116]] 9)
  have hi := strs_new w33 #[sv [97], sv [97, 98], sv [98], sv [98, 97, 114], sv [98, 97, 116], sv [99, 97, 114], sv [99, 97, 116]] [[97], [97, 98], [98], [98, 97, 114], [98, 97, 116], [99, 97, 114], [99, 97, 116]] rfl
  obtain ⟨gv, hgv⟩ : ∃ g, g = w33.heap.size := ⟨_, rfl⟩
  rw [← hgv] at hi ⊢
  have hw2 : w33.alloc (.cells #[sv [97], sv [97, 98], sv [98], sv [98, 97, 114], sv [98, 97, 116], sv [99, 97, 114], sv [99, 97, 116]] 9) = w' := hw
  rw [hw2] at hi hb
  clear hw hw2 hgv
  obtain ⟨w34, hV⟩ : ∃ V, V = w' := ⟨_, rfl⟩
  rw [← hV] at hi hb ⊢
  clear hV
  have HB343 := Lib.hid (HB326.out.trans (hb.mono HB326.out.size))
  have Il344 := Lib.hid (Il327.out.below hb)
  have Im345 := Lib.hid (Im328.out.below hb)
  have Is346 := Lib.hid (Is329.out.below hb)
  have It347 := Lib.hid (It330.out.below hb)
  have Ia348 := Lib.hid (Ia331.out.below hb)
  have Id349 := Lib.hid (Id332.out.below hb)
  have Ix350 := Lib.hid (Ix333.out.below hb)
  have If351 := Lib.hid (If334.out.below hb)
  have In352 := Lib.hid (In335.out.below hb)
  have Ig353 := Lib.hid (Ig336.out.below hb)
  have Iy354 := Lib.hid (Iy337.out.below hb)
  have Ih355 := Lib.hid (Ih338.out.below hb)
  have Ip356 := Lib.hid (Ip339.out.below hb)
  have Iq357 := Lib.hid (Iq340.out.below hb)
  have Ir358 := Lib.hid (Ir341.out.below hb)
  have Iv359 := Lib.hid (Iv342.out.below hb)
  have Iv := Lib.hid hi
  clear hi hb
  have hC := textsS_any Ag Cg [[97], [97, 98], [98], [98, 97, 114], [98, 97, 116], [99, 97, 114], [99, 97, 116]] (some ⟨gv, 0, none⟩) 7 [[97], [97, 98], [98], [98, 97, 114], [98, 97, 116], [99, 97, 114], [99, 97, 116]] w34 (by decide) Ig353.out Iv.out
  rw [decide_eq_true rfl] at hC
  have HC := Lib.hid hC
  clear hC
  go_wp2_with fail
  refine HC.out.mono ?_
  rintro e w35 ⟨rfl, hd⟩
  have hb := hd.below w34.heap.size
  clear hd
  have hb := hb
  have HB360 := Lib.hid (HB343.out.trans (hb.mono HB343.out.size))
  have Il361 := Lib.hid (Il344.out.below hb)
  have Im362 := Lib.hid (Im345.out.below hb)
  have Is363 := Lib.hid (Is346.out.below hb)
  have It364 := Lib.hid (It347.out.below hb)
  have Ia365 := Lib.hid (Ia348.out.below hb)
  have Id366 := Lib.hid (Id349.out.below hb)
  have Ix367 := Lib.hid (Ix350.out.below hb)
  have If368 := Lib.hid (If351.out.below hb)
  have In369 := Lib.hid (In352.out.below hb)
  have Ig370 := Lib.hid (Ig353.out.below hb)
  have Iy371 := Lib.hid (Iy354.out.below hb)
  have Ih372 := Lib.hid (Ih355.out.below hb)
  have Ip373 := Lib.hid (Ip356.out.below hb)
  have Iq374 := Lib.hid (Iq357.out.below hb)
  have Ir375 := Lib.hid (Ir358.out.below hb)
  have Iv376 := Lib.hid (Iv.out.below hb)
  clear hb HC
  go_wp2_with fail
  refine (texts_any _ _).mono ?_
  rintro e w' ⟨rfl, hw⟩
  have hb := Below.new w35 (.cells #[sv [98, 97, 116]] 9)
  have hi := strs_new w35 #[sv [98, 97, 116]] [[98, 97, 116]] rfl
  obtain ⟨gv, hgv⟩ : ∃ g, g = w35.heap.size := ⟨_, rfl⟩
  rw [← hgv] at hi ⊢
  have hw2 : w35.alloc (.cells #[sv [98, 97, 116]] 9) = w' := hw
  rw [hw2] at hi hb
  clear hw hw2 hgv
  obtain ⟨w36, hV⟩ : ∃ V, V = w' := ⟨_, rfl⟩
  rw [← hV] at hi hb ⊢
  clear hV
  have HB377 := Lib.hid (HB360.out.trans (hb.mono HB360.out.size))
  have Il378 := Lib.hid (Il361.out.below hb)
  have Im379 := Lib.hid (Im362.out.below hb)
  have Is380 := Lib.hid (Is363.out.below hb)
  have It381 := Lib.hid (It364.out.below hb)
  have Ia382 := Lib.hid (Ia365.out.below hb)
  have Id383 := Lib.hid (Id366.out.below hb)
  have Ix384 := Lib.hid (Ix367.out.below hb)
  have If385 := Lib.hid (If368.out.below hb)
  have In386 := Lib.hid (In369.out.below hb)
  have Ig387 := Lib.hid (Ig370.out.below hb)
  have Iy388 := Lib.hid (Iy371.out.below hb)
  have Ih389 := Lib.hid (Ih372.out.below hb)
  have Ip390 := Lib.hid (Ip373.out.below hb)
  have Iq391 := Lib.hid (Iq374.out.below hb)
  have Ir392 := Lib.hid (Ir375.out.below hb)
  have Iv393 := Lib.hid (Iv376.out.below hb)
  have Iv := Lib.hid hi
  clear hi hb
  have hC := textsS_any Ah Ch [[98, 97, 116]] (some ⟨gv, 0, none⟩) 1 [[98, 97, 116]] w36 (by decide) Ih389.out Iv.out
  rw [decide_eq_true rfl] at hC
  have HC := Lib.hid hC
  clear hC
  go_wp2_with fail
  refine HC.out.mono ?_
  rintro e w37 ⟨rfl, hd⟩
  have hb := hd.below w36.heap.size
  clear hd
  have hb := hb
  have HB394 := Lib.hid (HB377.out.trans (hb.mono HB377.out.size))
  have Il395 := Lib.hid (Il378.out.below hb)
  have Im396 := Lib.hid (Im379.out.below hb)
  have Is397 := Lib.hid (Is380.out.below hb)
  have It398 := Lib.hid (It381.out.below hb)
  have Ia399 := Lib.hid (Ia382.out.below hb)
  have Id400 := Lib.hid (Id383.out.below hb)
  have Ix401 := Lib.hid (Ix384.out.below hb)
  have If402 := Lib.hid (If385.out.below hb)
  have In403 := Lib.hid (In386.out.below hb)
  have Ig404 := Lib.hid (Ig387.out.below hb)
  have Iy405 := Lib.hid (Iy388.out.below hb)
  have Ih406 := Lib.hid (Ih389.out.below hb)
  have Ip407 := Lib.hid (Ip390.out.below hb)
  have Iq408 := Lib.hid (Iq391.out.below hb)
  have Ir409 := Lib.hid (Ir392.out.below hb)
  have Iv410 := Lib.hid (Iv.out.below hb)
  clear hb HC
  go_wp2_with fail
  go_ret
  exact ⟨rfl, HB394.out⟩
end Go.Proofs.YtcjbnifafofpbaaGreatDoor
