/- One text of ComP. -/
import Derived.Test.YtcjbnifafofpbaaGreatDoorJ16
import Derived.ArgAppend
/- Walks of the program's functions: open, Near. -/
namespace Go.Proofs.YtcjbnifafofpbaaGreatDoor
open Go.RowKit Go.Lib Go.Sort
/-- The error of a list and of words. -/
def openE (l ws : List X.W) : Int := if X.listE l ≠ 0 then X.listE l else X.wordsE ws
set_option maxRecDepth 20000 in
theorem open_err (a : Option Addr) (cap : Nat) (l : List X.W) (b : Option Addr) (cap2 : Nat) (ws : List X.W) (w : World) (hl : l.length ≤ 1000000) (hw : ws.length ≤ 1000000) (hrl : Rooms l) (hrw : Rooms ws) (ha : Strs w a l) (hb : Strs w b ws) (h : openE l ws ≠ 0) :
    Calls Tryz.prog 55 #[.slice a l.length cap, .slice b ws.length cap2] w fun e w' => e = .returned (.tuple #[.pointer none, .int .i64 (openE l ws)]) ∧ RowKit.Below w.heap.size w w' := by
  have HA := Lib.hid (checkListP_any a cap l w hl hrl ha)
  have HB := Lib.hid (fun W hd => checkWord_any b cap2 ws W hw hrw (hb.below hd))
  clear ha hb
  by_cases hp : X.listE l = 0
  · have HT : Hid (openE l ws = X.wordsE ws) := Lib.hid (by unfold openE; rw [if_neg (not_not_intro hp)])
    rw [HT.out] at h
    have hn := ne_bool h
    rw [hp] at HA
    generalize X.wordsE ws = q at *
    clear h hp
    go_enter Tryz.func55, Tryz.ntmps55
    go_wp2_with fail
    refine HA.out.mono ?_
    rintro e w1 ⟨rfl, hb1⟩
    have HB1 := Lib.hid hb1
    clear hb1
    go_wp2_with fail
    refine (HB.out _ HB1.out).mono ?_
    rintro e w2 ⟨rfl, hb2⟩
    go_wp2_with fail
    go_ret2
    rw [HT.out]
    exact ⟨rfl, HB1.out.trans (hb2.mono HB1.out.size)⟩
  · have HT : Hid (openE l ws = X.listE l) := Lib.hid (by unfold openE; rw [if_pos hp])
    have hn := ne_bool hp
    generalize X.listE l = p at *
    clear hp h
    go_enter Tryz.func55, Tryz.ntmps55
    go_wp2_with fail
    refine HA.out.mono ?_
    rintro e w1 ⟨rfl, hb1⟩
    go_wp2_with fail
    go_ret2
    rw [HT.out]
    exact ⟨rfl, hb1⟩
theorem openE_iff {l ws : List X.W} : openE l ws = 0 ↔ X.List_ l ∧ X.wordsE ws = 0 := by
  unfold openE
  by_cases hp : X.listE l = 0
  · rw [if_neg (not_not_intro hp)]; exact ⟨fun h => ⟨X.listE_iff.1 hp, h⟩, fun h => h.2⟩
  · rw [if_pos hp]; exact ⟨fun h => absurd h hp, fun h => absurd (X.listE_iff.2 h.1) hp⟩
set_option maxRecDepth 20000 in
theorem open_ok (a : Option Addr) (cap : Nat) (l : List X.W) (b : Option Addr) (cap2 : Nat) (ws : List X.W) (w : World) (hw : ws.length ≤ 1000000) (hrw : Rooms ws) (ha : Strs w a l) (hb : Strs w b ws) (h : openE l ws = 0) :
    Calls Tryz.prog 55 #[.slice a l.length cap, .slice b ws.length cap2] w fun e w' => ∃ B, e = .returned (.tuple #[.pointer (some ⟨B, 0, none⟩), .int .i64 0]) ∧ w.heap.size ≤ B ∧ ShelfAt a cap l B w' ∧ RowKit.Below w.heap.size w w' := by
  obtain ⟨hL, hE⟩ := openE_iff.1 h
  have h0 : X.listE l = 0 := X.listE_iff.2 hL
  have HA := Lib.hid (checkListP_any a cap l w (by have := hL.many; omega) (fun s hs => by have := hL.long s hs; omega) ha)
  have HB := Lib.hid (fun W hd => checkWord_any b cap2 ws W hw hrw (hb.below hd))
  have HC := Lib.hid (fun W hd => newShelf_any a cap l W hL (ha.below hd))
  rw [h0] at HA
  rw [hE] at HB
  clear ha hb h h0 hE
  go_enter Tryz.func55, Tryz.ntmps55
  go_wp2_with fail
  refine HA.out.mono ?_
  rintro e w1 ⟨rfl, hb1⟩
  have HB1 := Lib.hid hb1
  clear hb1
  go_wp2_with fail
  refine (HB.out _ HB1.out).mono ?_
  rintro e w2 ⟨rfl, hb2⟩
  have HB2 := Lib.hid (HB1.out.trans (hb2.mono HB1.out.size))
  clear hb2
  go_wp2_with fail
  refine (HC.out _ HB2.out).mono ?_
  rintro e w3 ⟨rfl, hsh, hb3⟩
  have HS := Lib.hid hsh
  have HB3 := Lib.hid (HB2.out.trans (hb3.mono HB2.out.size))
  clear hsh hb3
  go_wp2_with fail
  go_ret2
  exact ⟨_, rfl, HB2.out.size, HS.out, HB3.out⟩
/-- 'append(s[:len(s):len(s)], x)': a new row. -/
theorem listGrowS {ops : Array Oper} {rest : List Oper} {o : Oper} {A : Act} {W : World} {Q : Exit → Act → World → Prop} (hgd : o.guard = none) (s x : Operand)
    (ho : o.op = .call { callee := .builtin .append, args := #[s, x], argTypes := #[22, 22] }) (ad : Option Addr) (l : List X.W) (u : X.W) (n c : Nat) (hs : A.eval s = .slice ad n c) (hnl : n = l.length) (hcl : c = l.length) (had : ad = none → l = []) (hS : Strs W ad l)
    (b : Nat) (hx : A.eval x = .slice (some ⟨b, 0, none⟩) 1 1) (hc : W.cell? ⟨b, 0, none⟩ = some (sv u)) (hn : l.length ≤ 1000000)
    (h : ∀ b' cap' w', l.length + 1 ≤ cap' → Strs w' (some b') (l ++ [u]) → RowKit.Below W.heap.size W w' → wpList Tryz.prog ops Q rest (A.put o.dst (.slice (some b') (l.length + 1) cap')) w') :
    wpList Tryz.prog ops Q (o :: rest) A W := by
  subst hnl hcl
  obtain ⟨i0, hi, hz0, hz1, hz2⟩ := info_parts T22.hi
  refine wpList_append_grows W hgd s x 22 ho 9 i0 (.string ByteArray.empty) 1 16 T22.ht hi hz0 hz1 hz2 rfl (by decide) ad l.length l.length (l.map sv) hs (fun e => by rw [had e]; exact ⟨rfl, rfl⟩) (by simp) (fun bb e j v hj => ?_)
    ⟨b, 0, none⟩ 1 1 [sv u] hx rfl (fun j v hj => ?_) (by simp [Value.oneCell']) (by omega) (by unfold maxLen; omega) (by omega) (fun v' w' hown hg => ?_)
  · have hjl : j < l.length := by have := (List.getElem?_eq_some_iff.1 hj).1; simpa using this
    obtain ⟨b1, off, e1, hc1⟩ := hS j hjl
    rw [e] at e1
    cases e1
    rw [addr_add, hc1]
    rw [List.getElem?_map, List.getElem?_eq_getElem hjl] at hj
    rw [← hj, wat_eq l j hjl]; rfl
  · cases j with
    | zero => rw [addr_add]; simp at hj; rw [← hj]; exact hc
    | succ j => simp at hj
  · have hb : RowKit.Below W.heap.size W w' := ⟨hg.os, hg.tape, hg.output, hg.size, fun k hk => hg.block k hk (by simp)⟩
    have hown' : w'.ownsRow W.heap.size 9 1 v' (l.length + 1) ((l ++ [u]).map sv) := by rw [List.map_append]; exact hown
    obtain ⟨-, a', c', rfl, hs', hc', h0⟩ := Strs.of_ownsRow hown'
    cases a' with
    | none => exact absurd (h0 rfl) (by omega)
    | some b' => exact h b' c' w' hc' hs' hb
theorem nearE_bad {l : List X.W} {x : X.W} {n : Int} (h : openE l [x] ≠ 0) : X.nearE l x n = ([], openE l [x]) := by
  unfold X.nearE openE at *
  by_cases hp : X.listE l = 0
  · rw [if_neg (not_not_intro hp)] at h
    rw [if_neg (not_not_intro hp), if_neg (not_not_intro hp)]
    have e : X.wordsE [x] = X.wordE x := by
      unfold X.wordsE
      split
      · rename_i h0; rw [h0]; rfl
      · rfl
    rw [e] at h ⊢
    rw [if_pos h]
  · rw [if_pos hp, if_pos hp]
theorem wordsE_one (x : X.W) : X.wordsE [x] = X.wordE x := by
  unfold X.wordsE
  split
  · rename_i h0; rw [h0]; rfl
  · rfl
theorem nearE_ok {l : List X.W} {x : X.W} {n : Int} (h : openE l [x] = 0) : X.nearE l x n = if n < 0 ∨ 2 < n then ([], 3) else (l.filter (fun s => X.near n.toNat s x), 0) := by
  obtain ⟨hL, hw⟩ := openE_iff.1 h
  unfold X.nearE
  rw [if_neg (not_not_intro (X.listE_iff.2 hL)), if_neg (not_not_intro (by rw [← wordsE_one]; exact hw))]
/-- The names so far that are near. -/
def nearTo (l : List X.W) (x : X.W) (n j : Nat) : List X.W := (l.take j).filter (fun s => X.near n s x)
theorem nearTo_succ {l : List X.W} {x : X.W} {n j : Nat} (h : j < l.length) : nearTo l x n (j + 1) = if X.near n (wat l j) x = true then nearTo l x n j ++ [wat l j] else nearTo l x n j := by
  unfold nearTo
  rw [take_succ_wat l j h, List.filter_append]
  split
  · rename_i h1; simp [h1]
  · rename_i h1; simp [h1]
theorem nearTo_len (l : List X.W) (x : X.W) (n j : Nat) : (nearTo l x n j).length ≤ l.length := by
  unfold nearTo
  exact Nat.le_trans (List.length_filter_le _ _) (by rw [List.length_take]; omega)
set_option maxRecDepth 20000 in
set_option maxHeartbeats 4000000 in
theorem nearM_any (a : Option Addr) (cap : Nat) (l : List X.W) (x : X.W) (n : Int) (w : World) (hl : l.length ≤ 1000000) (hrl : Rooms l) (hx : x.length ≤ 1000000) (ha : Strs w a l) :
    Calls Tryz.prog 39 #[.slice a l.length cap, sv x, .int .i64 n] w fun e w' => OutSE w w' e (X.nearE l x n) := by
  have hx1 : Rooms [x] := fun t ht => by rw [List.mem_singleton.1 ht]; omega
  have hs1 : Strs (w.alloc (.cells #[sv x] 9)) (some ⟨w.heap.size, 0, none⟩) [x] := fun i hi => ⟨w.heap.size, 0, rfl, by
    obtain rfl : i = 0 := by simpa using hi
    exact cell_new1 w (sv x) 9⟩
  have HB0 := Lib.hid (Below.new w (.cells #[sv x] 9))
  by_cases h : openE l [x] = 0
  case neg =>
    have HO := Lib.hid (open_err a cap l (some ⟨w.heap.size, 0, none⟩) 1 [x] (w.alloc (.cells #[sv x] 9)) hl (by simp) hrl hx1 (ha.alloc _) hs1 h)
    have HE := Lib.hid (nearE_bad (n := n) h)
    have hn := ne_bool h
    generalize openE l [x] = q at *
    clear h ha hs1 hx1
    go_enter Tryz.func39, Tryz.ntmps39
    go_wp2_with fail
    refine HO.out.mono ?_
    rintro e w1 ⟨rfl, hb1⟩
    go_wp2_with fail
    go_ret2
    rw [HE.out]
    exact ⟨none, 0, rfl, Strs.nil _ _, by simp, HB0.out.trans (hb1.mono HB0.out.size)⟩
  have HO := Lib.hid (open_ok a cap l (some ⟨w.heap.size, 0, none⟩) 1 [x] (w.alloc (.cells #[sv x] 9)) (by simp) hx1 (ha.alloc _) hs1 h)
  have HE := Lib.hid (nearE_ok (n := n) h)
  have HW := Lib.hid (fun (W : World) => within_any 0 2 (some ⟨W.heap.size, 0, none⟩) 1 [n] (W.alloc (.cells #[.int .i64 n] 3)) (by simp) (fun i hi => ⟨W.heap.size, 0, rfl, by
    obtain rfl : i = 0 := by simpa using hi
    exact cell_new1 W (.int .i64 n) 3⟩))
  have HA := Lib.hid ha
  have HLo := Lib.hid (openE_iff.1 h).1.long
  clear h ha hs1 hx1 hrl
  by_cases hn2 : n < 0 ∨ 2 < n
  · have HWb : Hid (withinB 0 2 [n] = false) := Lib.hid (by unfold withinB; simp; omega)
    rw [HWb.out] at HW
    rw [if_pos hn2] at HE
    clear hn2
    go_enter Tryz.func39, Tryz.ntmps39
    go_wp2_with fail
    refine HO.out.mono ?_
    rintro e w1 ⟨B, rfl, -, -, hb1⟩
    have HB1 := Lib.hid (HB0.out.trans (hb1.mono HB0.out.size))
    clear hb1
    go_wp2_with fail
    refine (HW.out _).mono ?_
    rintro e w2 ⟨rfl, hb2⟩
    have HB2 := Lib.hid ((HB1.out.trans ((Below.new w1 _).mono HB1.out.size)).trans (hb2.mono (by have := HB1.out.size; simp; omega)))
    clear hb2
    go_wp2_with fail
    go_ret2
    rw [HE.out]
    exact ⟨none, 0, rfl, Strs.nil _ _, by simp, HB2.out⟩
  · have HWb : Hid (withinB 0 2 [n] = true) := Lib.hid (by unfold withinB; simp; omega)
    rw [HWb.out] at HW
    rw [if_neg hn2] at HE
    obtain ⟨k, rfl⟩ : ∃ k : Nat, n = (k : Int) := ⟨n.toNat, by omega⟩
    have hk2 : k ≤ 2 := by omega
    have HNe := Lib.hid (fun (j : Nat) (hj : j < l.length) W => nearP_any k (by omega) (wat l j) x W (by have := HLo.out _ (wat_mem hj); omega) (by omega))
    clear hn2
    go_enter Tryz.func39, Tryz.ntmps39
    go_wp2_with fail
    refine HO.out.mono ?_
    rintro e w1 ⟨B, rfl, -, -, hb1⟩
    have HB1 := Lib.hid (HB0.out.trans (hb1.mono HB0.out.size))
    clear hb1
    go_wp2_with fail
    refine (HW.out _).mono ?_
    rintro e w2 ⟨rfl, hb2⟩
    have HB2 := Lib.hid ((HB1.out.trans ((Below.new w1 _).mono HB1.out.size)).trans (hb2.mono (by have := HB1.out.size; simp; omega)))
    clear hb2
    go_wp2_with fail
    go_loopw [10, 12, 31] (fun o _ i wr => ∃ (j : Nat) (ad : Option Addr) (cp : Nat), j ≤ l.length ∧ i = .int .i64 j ∧ o = .slice ad (nearTo l x k j).length cp ∧ Hid (ad = none → nearTo l x k j = [] ∧ cp = 0) ∧ (nearTo l x k j).length ≤ cp ∧ Hid (Strs wr ad (nearTo l x k j)) ∧ Hid (RowKit.Below w.heap.size w wr)) (fun _ _ i _ => l.length - (RowKit.intOf i).toNat)
    case atStart => exact ⟨0, none, 0, by omega, rfl, rfl, Lib.hid (fun _ => ⟨rfl, rfl⟩), by simp [nearTo], Lib.hid (Strs.nil _ _), HB2⟩
    case round =>
      clear HB2 HB1
      obtain ⟨j, ad, cp, hj, rfl, rfl, HAd, hcp, HS, HB⟩ := hrel
      by_cases hlt : j < l.length
      · have hltI : (j : Int) < (l.length : Int) := by omega
        obtain ⟨b, off, rfl, c1⟩ := (HA.out.below HB.out) j hlt
        have HNj := Lib.hid (HNe.out j hlt)
        have HSu := Lib.hid (nearTo_succ (x := x) (n := k) hlt)
        have hol : (nearTo l x k j).length ≤ 1000000 := Nat.le_trans (nearTo_len l x k j) hl
        generalize hT : nearTo l x k (j + 1) = T at *
        generalize nearTo l x k j = O at *
        generalize wat l j = y at *
        cases hnr : X.near k y x with
        | false =>
          rw [hnr] at HNj
          have HT : Hid (T = O) := Lib.hid (by rw [HSu.out, hnr]; rfl)
          clear hnr HSu
          go_wp2_with fail
          refine (HNj.out _).mono ?_
          rintro e w3 ⟨rfl, hd⟩
          have HB3 := Lib.hid (HB.out.trans (hd.below _))
          have HS3 := Lib.hid (HS.out.drew hd)
          clear hd
          go_wp2_with fail
          go_roundw
          case rel => exact ⟨j + 1, ad, cp, by omega, by go_num, by rw [hT, HT.out], by rw [hT, HT.out]; exact HAd, by rw [hT, HT.out]; exact hcp, by rw [hT, HT.out]; exact HS3, HB3⟩
          case measure => simp [RowKit.intOf]; omega
        | true =>
          rw [hnr] at HNj
          have HT : Hid (T = O ++ [y]) := Lib.hid (by rw [HSu.out, hnr]; rfl)
          clear hnr HSu
          cases ad with
          | none =>
            obtain ⟨hO, rfl⟩ := HAd.out rfl
            subst hO
            go_wp2_with fail
            refine (HNj.out _).mono ?_
            rintro e w3 ⟨rfl, hd⟩
            have HB3 := Lib.hid (HB.out.trans (hd.below _))
            have HB4 := Lib.hid (HB3.out.trans ((Below.new w3 (.cells #[sv y] 9)).mono HB3.out.size))
            clear hd
            go_wp2_with (at_builtin; refine listGrowS rfl (.tmp 44) (.tmp 46) rfl none [] y 0 0 rfl rfl rfl (fun _ => rfl) (Strs.nil _ _) w3.heap.size rfl (cell_new1 _ _ _) (by simp) ?_; intro b8 c8 w8 hc8 hs8 hb8)
            have HB8 := Lib.hid (HB4.out.trans (hb8.mono HB4.out.size))
            have HS8 := Lib.hid hs8
            clear hs8 hb8
            go_roundw
            case rel => exact ⟨j + 1, some b8, c8, by omega, by go_num, by rw [hT, HT.out]; rfl, Lib.hid (fun e => by cases e), by rw [hT, HT.out]; exact hc8, by rw [hT, HT.out]; exact HS8, HB8⟩
            case measure => simp [RowKit.intOf]; omega
          | some ad =>
            go_wp2_with fail
            refine (HNj.out _).mono ?_
            rintro e w3 ⟨rfl, hd⟩
            have HB3 := Lib.hid (HB.out.trans (hd.below _))
            have HB4 := Lib.hid (HB3.out.trans ((Below.new w3 (.cells #[sv y] 9)).mono HB3.out.size))
            have HS4 := Lib.hid ((HS.out.drew hd).alloc (.cells #[sv y] 9))
            clear hd
            go_wp2_with (at_builtin; refine listGrowS rfl (.tmp 44) (.tmp 46) rfl (some ad) O y O.length O.length rfl rfl rfl (fun e => by cases e) HS4.out w3.heap.size rfl (cell_new1 _ _ _) hol ?_; intro b8 c8 w8 hc8 hs8 hb8)
            have HB8 := Lib.hid (HB4.out.trans (hb8.mono HB4.out.size))
            have HS8 := Lib.hid hs8
            clear hs8 hb8
            go_roundw
            case rel => exact ⟨j + 1, some b8, c8, by omega, by go_num, by rw [hT, HT.out, List.length_append]; rfl, Lib.hid (fun e => by cases e), by rw [hT, HT.out, List.length_append]; exact hc8, by rw [hT, HT.out]; exact HS8, HB8⟩
            case measure => simp [RowKit.intOf]; omega
      · have HF : Hid (X.nearE l x (k : Int) = (nearTo l x k j, 0)) := Lib.hid (by rw [HE.out]; unfold nearTo; rw [List.take_of_length_le (by omega)]; rfl)
        have hltI : ¬ (j : Int) < (l.length : Int) := by omega
        go_wp2_with fail
        go_ret2
        rw [HF.out]
        exact ⟨ad, cp, rfl, HS.out, ⟨hcp, fun h => (HAd.out h).2⟩, HB.out⟩
end Go.Proofs.YtcjbnifafofpbaaGreatDoor
