/- Walk of the reference's Join. -/
import Derived.Test.YtcjbnifafofpbaaGreatDoorJ24
import Derived.Test.YtcjbnifafofpbaaGreatDoorZRefO
import Derived.BigRegion
namespace Go.Proofs.YtcjbnifafofpbaaGreatDoor
open Go.RowKit Go.Lib
attribute [local go_sem] bytesLess_lt
theorem map_swap (q : List X.W) (x : X.W) {p : Nat} (hp : p < q.length) : (((q.take (p + 1) ++ x :: q.drop (p + 1)).map sv).set (p + 1) (sv (wat q p))).set p (sv x) = (q.take p ++ x :: q.drop p).map sv := by
  rw [wat_eq q p hp, ← List.map_set, ← List.map_set, X.swap_at q x hp]
theorem at_mid (q : List X.W) (x : X.W) {p : Nat} (hp : p ≤ q.length) : ((q.take p ++ x :: q.drop p).map sv)[p]? = some (sv x) := by
  rw [List.getElem?_map, List.getElem?_append_right (by rw [List.length_take]; omega)]
  have : p - (q.take p).length = 0 := by rw [List.length_take]; omega
  rw [this]; rfl
theorem at_low (q : List X.W) (x : X.W) {p j : Nat} (hp : p ≤ q.length) (hj : j < p) : ((q.take p ++ x :: q.drop p).map sv)[j]? = some (sv (wat q j)) := by
  rw [List.getElem?_map, List.getElem?_append_left (by rw [List.length_take]; omega), List.getElem?_take_of_lt hj, List.getElem?_eq_getElem (by omega), wat_eq q j (by omega)]; rfl
theorem len_mid (q : List X.W) (x : X.W) (p : Nat) : (q.take p ++ x :: q.drop p).length = q.length + 1 := by
  simp only [List.length_append, List.length_take, List.length_cons, List.length_drop]; omega
set_option maxRecDepth 20000 in
set_option maxHeartbeats 4000000 in
theorem joinR_any (a : Option Addr) (cap : Nat) (l : List X.W) (b : Option Addr) (cap2 : Nat) (m : List X.W) (w : World) (hl : l.length ≤ 1000000) (hm : m.length ≤ 1000000) (hrl : Rooms l) (hrm : Rooms m) (ha : Strs w a l) (hb : Strs w b m) (z0 : a = none → cap = 0) :
    Calls Tryz.prog 42 #[.slice a l.length cap, .slice b m.length cap2] w fun e w' => OutSE w w' e (X.joinE l m) := by
  have HT := Lib.hid (fun W hd => two_any a cap l b cap2 m W hl hm hrl hrm (ha.drew hd) (hb.drew hd))
  have HH := Lib.hid (fun W s hs => has_any a cap l s W hl hs)
  have HA := Lib.hid ha
  have HB := Lib.hid hb
  have HZ0 := Lib.hid z0
  clear ha hb z0
  by_cases h : X.twoE l m = 0
  · have hlist : X.List_ l ∧ X.List_ m := by
      unfold X.twoE at h
      split at h
      · rename_i h1; exact absurd h h1
      · rename_i h1; exact ⟨X.listE_iff.1 (Decidable.not_not.1 h1), X.listE_iff.1 h⟩
    have e0 := hlist.1.many
    have e1 := hlist.2.many
    have HE : Hid (X.joinE l m = if 30 < (X.joinL l m).length then ([], 6) else (X.joinL l m, 0)) := Lib.hid (by unfold X.joinE; rw [if_neg (not_not_intro h)])
    have HJ : Hid (∀ j, j ≤ m.length → X.Rises (X.joinL l (m.take j)) ∧ (∀ x, x ∈ X.joinL l (m.take j) ↔ x ∈ l ∨ x ∈ m.take j) ∧ (X.joinL l (m.take j)).length ≤ 60) := Lib.hid (fun j hj => by
      have hr : X.Rises (m.take j) := List.Pairwise.sublist (List.take_sublist _ _) hlist.2.up
      have h1 := X.join_spec hlist.1.up hr
      have h2 := X.join_len hlist.1.up hr
      refine ⟨h1.1, h1.2.1, ?_⟩
      have : (m.take j).length ≤ m.length := by rw [List.length_take]; omega
      omega)
    have HNo : Hid (∀ j, j < m.length → wat m j ∉ m.take j) := Lib.hid (fun j hj hmem => by
      have hp := hlist.2.up
      unfold X.Rises at hp
      obtain ⟨i, hi, e⟩ := List.getElem_of_mem hmem
      have hij : i < j := by rw [List.length_take] at hi; omega
      rw [List.getElem_take] at e
      have := List.pairwise_iff_getElem.1 hp i j (by omega) hj hij
      rw [e, wat_eq m j hj, X.lt_irrefl] at this
      cases this)
    rw [h] at HT
    clear h hlist
    go_enter Tryz.func42, Tryz.ntmps42
    go_wp2_with fail
    refine (HT.out _ (Drew.refl _)).mono ?_
    rintro e w1 ⟨rfl, hd1⟩
    have hb1 := hd1.below w.heap.size
    have HA1 := Lib.hid ((HA.out.drew hd1).alloc (.cells #[] 9))
    have hOl := World.ownsRow_lit (base := w.heap.size) (e := 9) (size := 1) w1 #[] 0 hb1.size (by decide) rfl
    have HOl := Lib.hid hOl
    have hsz1 : w.heap.size ≤ (w1.alloc (.cells #[] 9)).heap.size := by have := hb1.size; simp; omega
    have HB1 := Lib.hid (hb1.alloc hb1.size (.cells #[] 9))
    clear hd1 hb1 hOl
    go_wp2_with (at_builtin; refine listAppS rfl (.tmp 16) (.tmp 17) rfl w.heap.size (.slice (some ⟨w1.heap.size, 0, none⟩) 0 0) [] l a cap rfl HOl.out rfl HA1.out HZ0.out (by simp; omega) hsz1 ?_; intro v8 w8 hown8 hg8)
    have HO8 := Lib.hid hown8
    have HB8 := Lib.hid (HB1.out.grown hg8 hsz1 (fun g e => (HOl.out.lt g e).1))
    clear hown8 hg8 hsz1 HOl HB1 HA1
    go_loopw [6, 7, 8] (fun o i _ wr => ∃ j : Nat, j ≤ m.length ∧ i = .int .i64 j ∧ Hid (wr.ownsRow w.heap.size 9 1 o (X.joinL l (m.take j)).length ((X.joinL l (m.take j)).map sv)) ∧ Hid (Below w.heap.size w wr)) (fun _ i _ _ => m.length - (intOf i).toNat)
    case atStart => exact ⟨0, by omega, rfl, by rw [List.take_zero]; exact HO8, HB8⟩
    case round =>
      clear HO8 HB8
      obtain ⟨j, hj, rfl, HO, HBl⟩ := hrel
      have hq := HJ.out j hj
      by_cases hlt : j < m.length
      · have hltI : (j : Int) < (m.length : Int) := by omega
        obtain ⟨b1, off, rfl, c0⟩ := HB.out j hlt
        have c1 := cell_on HBl.out c0
        have HC0 := Lib.hid c0
        have HS : Hid (X.joinL l (m.take (j + 1)) = X.joinStep l (X.joinL l (m.take j)) (wat m j)) := Lib.hid (by rw [take_succ_wat m j hlt, X.joinL_snoc])
        have hno := HNo.out j hlt
        have hmem := hq.2.1 (wat m j)
        have hl60 := hq.2.2
        have HRi := Lib.hid hq.1
        have kk1 : IntKind.i64.wrap ((j : Int) + 1) = (j : Int) + 1 := IntWalk.i64_in _ (by omega)
        generalize wat m j = x at *
        generalize X.joinL l (m.take j) = q at *
        have HC := Lib.hid (HH.out _ x (HA.out.below HBl.out))
        clear c0 hq
        by_cases hx : x ∈ l
        · rw [decide_eq_true hx] at HC
          have HS2 : Hid (X.joinL l (m.take (j + 1)) = q) := Lib.hid (by rw [HS.out]; unfold X.joinStep; rw [if_pos (by simpa using hx)])
          clear hx HS hno hmem
          go_wp2_with (go_at_call 49; refine HC.out.mono ?_; rintro e w3 ⟨rfl, rfl⟩)
          go_roundw
          case rel => exact ⟨j + 1, by omega, by go_num, by rw [HS2.out]; exact HO, HBl⟩
          case measure => simp [intOf]; omega
        · rw [decide_eq_false hx] at HC
          have HS2 : Hid (X.joinL l (m.take (j + 1)) = X.ins x q) := Lib.hid (by rw [HS.out]; unfold X.joinStep; rw [if_neg (by simpa using hx)])
          have HNq : Hid (x ∉ q) := Lib.hid (fun e => by
            rcases hmem.1 e with e | e
            · exact hx e
            · exact hno e)
          have O5 := Lib.hid (HO.out.alloc (.cells #[sv x] 9))
          have hnews := Lib.hid (news_new wr #[sv x] 9)
          have hsz := HBl.out.size
          have hszW : w.heap.size ≤ (wr.alloc (.cells #[sv x] 9)).heap.size := by simp; omega
          have hq2 : q.length + 1 ≤ 2000000 := by omega
          have kn1 : IntKind.i64.wrap (((q.length + 1 : Nat) : Int) - 1) = (q.length : Int) := by rw [IntWalk.i64_in _ (by omega)]; omega
          have kn2 : IntKind.i64.wrap ((q.length : Int) + 1 - 1) = (q.length : Int) := by rw [IntWalk.i64_in _ (by omega)]; omega
          clear hx HS hno hmem
          go_wp2_with (first | (go_at_call 49; refine HC.out.mono ?_; rintro e w3 ⟨rfl, rfl⟩) | (at_builtin; refine listApp T22 rfl (.tmp 31) (.tmp 36) rfl w.heap.size u6 q.length (q.map sv) [sv x] 1 1 ⟨wr.heap.size, 0, none⟩ rfl O5.out rfl rfl hnews.out (by simp [Value.oneCell']) hq2 hszW ?_; intro v8 w8 hown8 hg8 hL8; obtain ⟨g, cap8, rfl, hg0⟩ := hown8.form (by omega)))
          have HB8 := Lib.hid ((HBl.out.alloc hsz _).grown hg8 hszW (fun g e => (HO.out.lt g e).1))
          have HO8 : Hid (w8.ownsRow w.heap.size 9 1 (.slice (some ⟨g, 0, none⟩) (q.length + 1) cap8) (q.length + 1) ((q.take q.length ++ x :: q.drop q.length).map sv)) := Lib.hid (by
            rw [List.take_length, List.drop_length, List.map_append]; exact hown8)
          clear hown8 hg8 hL8 O5 hnews HO kn1 kn2 hsz hszW c1
          go_loopw [8] (fun k wr => ∃ p : Nat, p ≤ q.length ∧ k = .int .i64 p ∧ Hid (wr.ownsRow w.heap.size 9 1 (.slice (some ⟨g, 0, none⟩) (q.length + 1) cap8) (q.length + 1) ((q.take p ++ x :: q.drop p).map sv)) ∧ Hid (∀ y ∈ q.drop p, X.lt x y = true) ∧ Hid (Below w.heap.size w wr)) (fun k _ => (intOf k).toNat)
          case atStart => exact ⟨q.length, Nat.le_refl _, rfl, HO8, Lib.hid (fun y hy => by rw [List.drop_length] at hy; simp at hy), HB8⟩
          case round =>
            clear HO8 HB8 HBl
            obtain ⟨p, hp, rfl, HO, HLt, HBl⟩ := hrel
            cases p with
            | zero =>
              have HF := Lib.hid (X.ins_at (w := x) (q := q) 0 (by omega) HRi.out HNq.out HLt.out (fun y hy h => by omega))
              have HO5 := HO
              rw [HF.out] at HO5
              go_wp2_with fail
              go_quiet (fail)
              have hd5 : Drew wr (wr.drewN nq) := ⟨nq, rfl⟩
              have HO6 := Lib.hid (owns_below HO5.out (hd5.below _))
              have HB6 := Lib.hid (HBl.out.trans ((hd5.below _).mono HBl.out.size))
              go_wp2_with fail
              go_roundw
              case rel => exact ⟨j + 1, by omega, by go_num, by rw [HS2.out, X.ins_len]; exact HO6, HB6⟩
              case measure => simp [intOf]; omega
            | succ p =>
              have hpq : p < q.length := by omega
              rw [show ((p + 1 : Nat) : Int) = (p : Int) + 1 by omega]
              have c1 := (HO.out.cellAt (p + 1) (by omega)).trans (at_mid q x hp)
              have c2 := (HO.out.cellAt p (by omega)).trans (at_low q x hp (by omega))
              have f1 := HO.out.frozenAt (p + 1)
              have f2 := HO.out.frozenAt p
              have hp0 : (0 : Int) ≤ (p : Int) := by omega
              have hp1 : (0 : Int) < (p : Int) + 1 := by omega
              have hp2 : (0 : Int) ≤ (p : Int) + 1 := by omega
              have hp3 : (p : Int) + 1 < (q.length : Int) + 1 := by omega
              have hp4 : (p : Int) < (q.length : Int) + 1 := by omega
              have hp5 : (p : Int) < (q.length : Int) := by omega
              have hp6 : ((p : Int) + 1).toNat = p + 1 := by omega
              have kp : IntKind.i64.wrap ((p : Int) + 1 - 1) = (p : Int) := by rw [IntWalk.i64_in _ (by omega)]; omega
              have kp2 : IntKind.i64.wrap (p : Int) = (p : Int) := IntWalk.i64_in _ (by omega)
              have ht1 := bs_tl x
              have ht2 := bs_tl (wat q p)
              have HSw := Lib.hid (map_swap q x hpq)
              have HGe : Hid (∀ y, q[p + 1 - 1]? = some y → 0 < p + 1 → X.lt x y = X.lt x (wat q p)) := Lib.hid (fun y hy _ => by
                rw [Nat.add_sub_cancel, List.getElem?_eq_getElem hpq] at hy
                rw [wat_eq q p hpq, Option.some.inj hy])
              have HDr : Hid (q.drop p = wat q p :: q.drop (p + 1)) := Lib.hid (by rw [List.drop_eq_getElem_cons hpq, wat_eq q p hpq])
              generalize wat q p = y at *
              cases hxy : X.lt x y with
              | true =>
                have HLt2 : Hid (∀ z ∈ q.drop p, X.lt x z = true) := Lib.hid (fun z hz => by
                  rw [HDr.out] at hz
                  rcases List.mem_cons.1 hz with rfl | hz
                  · exact hxy
                  · exact HLt.out z hz)
                have HP : Hid (∀ W, Drew wr W → W.cell? ⟨g, p + 1, none⟩ = some (sv x) ∧ W.cell? ⟨g, p, none⟩ = some (sv y) ∧ W.frozen? ⟨g, p + 1, none⟩ = false ∧ W.frozen? ⟨g, p, none⟩ = false) := Lib.hid (fun W hd => by
                  obtain ⟨n, rfl⟩ := hd
                  exact ⟨c1, c2, f1, f2⟩)
                clear HGe HDr
                go_wp2_with fail
                go_quiet (fail)
                obtain ⟨W5, hW5⟩ : ∃ W5, W5 = wr.drewN nq := ⟨_, rfl⟩
                rw [← hW5]
                have hd5 : Drew wr W5 := ⟨nq, hW5⟩
                have HO5 := Lib.hid (owns_below HO.out (hd5.below _))
                have HB5 := Lib.hid (HBl.out.trans ((hd5.below _).mono HBl.out.size))
                obtain ⟨x1, x2, x3, x4⟩ := HP.out W5 hd5
                clear hW5 HP c1 c2 f1 f2 hd5
                go_wp2_with fail
                go_region
                have HO6 := Lib.hid ((HO5.out.stored (p + 1) (sv y)).1.stored p (sv x)).1
                rw [HSw.out] at HO6
                have HB6 := Lib.hid ((HB5.out.setCell (p := ⟨g, p + 1, none⟩) hg0.1 (sv y)).setCell (p := ⟨g, p, none⟩) hg0.1 (sv x))
                go_wp2_with fail
                go_roundw
                case rel => exact ⟨p, by omega, rfl, Lib.hid HO6.out.drew, HLt2, Lib.hid HB6.out.drew⟩
                case measure => simp [intOf]
              | false =>
                have HF := Lib.hid (X.ins_at (w := x) (q := q) (p + 1) hp HRi.out HNq.out HLt.out (fun z hz h => by rw [HGe.out z hz h]; exact hxy))
                clear HGe HDr HSw f1 f2
                go_wp2_with fail
                go_quiet (fail)
                have hd5 : Drew wr (wr.drewN nq) := ⟨nq, rfl⟩
                have HO5 := Lib.hid (owns_below HO.out (hd5.below _))
                have HB5 := Lib.hid (HBl.out.trans ((hd5.below _).mono HBl.out.size))
                rw [HF.out] at HO5
                go_wp2_with fail
                go_roundw
                case rel => exact ⟨j + 1, by omega, by go_num, by rw [HS2.out, X.ins_len]; exact HO5, HB5⟩
                case measure => simp [intOf]; omega
      · have e : m.take j = m := List.take_of_length_le (by omega)
        rw [e] at HO hq
        obtain ⟨-, a5, c5, rfl, hs5, hc5⟩ := Strs.of_ownsRow HO.out
        have HS5 := Lib.hid hs5
        have hl60 := hq.2.2
        clear hs5 HO e hq
        generalize X.joinL l m = q at *
        by_cases h30 : 30 < q.length
        · have hI : (30 : Int) < (q.length : Int) := by omega
          have HE2 : Hid (X.joinE l m = ([], 6)) := Lib.hid (by rw [HE.out, if_pos h30])
          go_wp2_with fail
          go_ret2
          rw [HE2.out]
          exact ⟨none, 0, rfl, Strs.nil _ _, by simp, HBl.out⟩
        · have hI : ¬ (30 : Int) < (q.length : Int) := by omega
          have HE2 : Hid (X.joinE l m = (q, 0)) := Lib.hid (by rw [HE.out, if_neg h30])
          go_wp2_with fail
          go_ret2
          rw [HE2.out]
          exact ⟨a5, c5, rfl, HS5.out, hc5, HBl.out⟩
  · have HE : Hid (X.joinE l m = ([], X.twoE l m)) := Lib.hid (by unfold X.joinE; rw [if_pos h])
    generalize X.twoE l m = t at *
    have hb : (t != 0) = true := by simpa using h
    go_enter Tryz.func42, Tryz.ntmps42
    go_wp2_with fail
    refine (HT.out _ (Drew.refl _)).mono ?_
    rintro e w1 ⟨rfl, hd1⟩
    have HD1 := Lib.hid hd1
    clear hd1
    go_wp2_with fail
    refine (HT.out _ HD1.out).mono ?_
    rintro e w2 ⟨rfl, hd2⟩
    have HD := Lib.hid (HD1.out.trans hd2)
    clear hd2
    go_wp2_with fail
    go_ret2
    rw [HE.out]
    exact ⟨none, 0, rfl, Strs.nil _ _, by simp, HD.out.below _⟩
end Go.Proofs.YtcjbnifafofpbaaGreatDoor
