/- One text of ComG. -/
import Derived.Test.YtpkffjcmoghaaaaJ7
import Derived.OwnWalk
/- Walks of the program's functions: strikes. -/
namespace Go.Proofs.Ytpkffjcmoghaaaa
open Go.RowKit Go.Shelf Go.Maps Go.Sort
theorem intsN_erase (I : List Nat) (k : Nat) : intsN (I.eraseIdx k) = (intsN I).take k ++ (intsN I).drop (k + 1) := by
  unfold intsN
  rw [List.eraseIdx_eq_take_drop_succ, List.map_append, List.map_take, List.map_drop]
theorem delete_any (g cap k : Nat) (I : List Nat) (w : World) (hO : Ord w g cap I) (hk : k < I.length) :
    Calls Try.prog 94 #[.slice (some ⟨g, 0, none⟩) I.length cap, .int .i64 (k : Int), .int .i64 ((k : Int) + 1)] w fun e w' => e = .returned (.slice (some ⟨g, 0, none⟩) (I.eraseIdx k).length cap) ∧ Ord w' g cap (I.eraseIdx k) ∧ w.grownBy w' (some g) := by
  have hl := intsN_length I
  have h := lay_slices_Delete_int g 0 cap k (k + 1) (intsN I) w hO.holds (by rw [hl]; exact hO.le) hO.max (by omega) (by rw [hl]; omega)
  have hle : (I.eraseIdx k).length = I.length - 1 := by rw [List.length_eraseIdx, if_pos hk]
  rw [hl] at h
  have e1 : ((k + 1 : Nat) : Int) = (k : Int) + 1 := by omega
  rw [e1] at h
  have e2 : I.length - (k + 1 - k) = (I.eraseIdx k).length := by rw [hle]; omega
  rw [e2] at h
  refine h.mono ?_
  rintro e w' ⟨rfl, q, rfl⟩
  have hsz : ((intsN I).take k ++ (intsN I).drop (k + 1) ++ List.replicate (k + 1 - k) (0 : Int)).length = I.length := by
    simp [hl]; omega
  refine ⟨rfl, ?_, ?_⟩
  · have hH : Holds (Value.int .i64) (putRow (Value.int .i64) (Sort.ahead w q) g 0 ((intsN I).take k ++ (intsN I).drop (k + 1) ++ List.replicate (k + 1 - k) (0 : Int)).toArray) g 0 ((intsN I).take k ++ (intsN I).drop (k + 1) ++ List.replicate (k + 1 - k) (0 : Int)).toArray := by
      have hH0 : Holds (Value.int .i64) (Sort.ahead w q) g 0 (intsN I).toArray := fun j hj => hO.holds j hj
      exact holds_putRow _ _ _ _ _ _ hH0 (by simp [hl]; omega)
    refine ⟨fun j hj => ?_, ?_, hO.max, ?_⟩
    · have hj1 : j < (I.eraseIdx k).length := by simpa [intsN_length] using hj
      have := hH j (by rw [List.size_toArray, hsz]; omega)
      refine ⟨?_, this.2⟩
      rw [this.1]
      congr 1
      have hj2 : j < (intsN (I.eraseIdx k)).length := by rw [intsN_length]; exact hj1
      have : ((intsN I).take k ++ (intsN I).drop (k + 1) ++ List.replicate (k + 1 - k) (0 : Int)) = intsN (I.eraseIdx k) ++ List.replicate (k + 1 - k) (0 : Int) := by rw [intsN_erase]
      rw [this]
      simp [getElem!_pos, hj2, List.getElem?_append_left hj2]
    · rw [hle]; have := hO.le; omega
    · have := (heap_putRow (Value.int .i64) (Sort.ahead w q) g 0 ((intsN I).take k ++ (intsN I).drop (k + 1) ++ List.replicate (k + 1 - k) (0 : Int)).toArray).1
      rw [this]; exact hO.lt
  · exact grownBy_putRow _ _ _ _ _ _
theorem owns_map_below {w w' : World} {k : TypeId} {R : Value → Option (DataW Unit × List MemPlace)} {b n : Nat} {D : DataW Unit} (h : w.ownsMap Try.prog k R b n D) (hb : Below w.heap.size w w') : w'.ownsMap Try.prog k R b n D :=
  h.kept (grownBy_of_below hb none) (by simp)
theorem picks_stay {S : List P.Star} {w : Int} {s : P.St} {m : Nat} (h : ∀ i ∈ (P.picks S w s m).1, w < (P.star S i).1) : ∀ k, P.picks S w s (m + k) = P.picks S w s m
  | 0 => rfl
  | k + 1 => by
    show P.pick S w _ (P.picks S w s (m + k)) = _
    rw [picks_stay h k, P.pick_none h]
/-- What lies there while the strikes are made. -/
structure Str (w0 : World) (b1 bm g cap : Nat) (B : Nat) (p L : Int) (a : Option Addr) (c0 : Nat) (S : List P.Star) (s : P.St) (w : World) : Prop where
  map : ∃ D, w.ownsMap Try.prog 112 (plainElem (H := Unit) Try.prog 3) bm s.2.length D ∧ Good S.length D s.2
  ord : Ord w g cap s.1
  held : Held w b1 B p L a c0 S
  bel : Below b1 w0 w
theorem Str.on {w0 : World} {b1 bm g cap B : Nat} {p L : Int} {a : Option Addr} {c0 : Nat} {S : List P.Star} {s : P.St} {w w' : World} (h : Str w0 b1 bm g cap B p L a c0 S s w) (hb : Below w.heap.size w w') (h1 : b1 ≤ w.heap.size) : Str w0 b1 bm g cap B p L a c0 S s w' :=
  ⟨by obtain ⟨D, h1, h2⟩ := h.map; exact ⟨D, owns_map_below h1 hb, h2⟩, h.ord.below hb, h.held.on hb, h.bel.trans (hb.mono h1)⟩
/-- The state: the punches below m at the wear n are made. -/
def stAt (S : List P.Star) (p n m : Nat) : P.St := P.picks S n (P.sweep S p (P.orderT S, []) n) m
theorem stAt_zero (S : List P.Star) (p n : Nat) : stAt S p n 0 = P.sweep S p (P.orderT S, []) n := rfl
theorem stAt_full (S : List P.Star) (p n : Nat) : stAt S p n p = P.sweep S p (P.orderT S, []) (n + 1) := rfl
theorem stAt_succ (S : List P.Star) (p n m : Nat) : stAt S p n (m + 1) = P.pick S n m (stAt S p n m) := rfl
theorem stAt_sub (S : List P.Star) (p n m : Nat) : (stAt S p n m).1.Sublist (P.orderT S) := (((P.Inv.start S p (P.orderT S)).sweep n).picks n m).sub
theorem stAt_lt {S : List P.Star} {p n m i : Nat} (h : i ∈ (stAt S p n m).1) : i < S.length := by
  have := (stAt_sub S p n m).subset h
  rw [(P.orderT_perm S).mem_iff] at this
  simpa using this
theorem stAt_len {S : List P.Star} {p n m : Nat} : (stAt S p n m).1.length ≤ S.length := by
  have := (stAt_sub S p n m).length_le
  rw [(P.orderT_perm S).length_eq, List.length_range] at this
  exact this
theorem stAt_bef (S : List P.Star) (p n : Nat) : ∀ m, ∀ e ∈ (stAt S p n m).2, e.1 < (n : Int) ∨ (e.1 = n ∧ e.2.1 < (m : Int))
  | 0, e, he => .inl ((P.Stk.sweep (S := S) (p := p) (P.orderT S) n).by_ e he).2.2
  | m + 1, e, he => by
    rw [stAt_succ] at he
    rcases P.pick_out (S := S) (w := n) (c := m) (s := stAt S p n m) with e1 | ⟨i, -, -, e1⟩
    · rw [e1] at he
      rcases stAt_bef S p n m e he with h | h
      · exact .inl h
      · exact .inr ⟨h.1, by omega⟩
    · rw [e1] at he
      rcases List.mem_append.1 he with he | he
      · rcases stAt_bef S p n m e he with h | h
        · exact .inl h
        · exact .inr ⟨h.1, by omega⟩
      · rw [List.mem_singleton] at he; subst he; exact .inr ⟨rfl, by show (m : Int) < _; omega⟩
theorem stAt_room (S : List P.Star) (p n m : Nat) : (stAt S p n m).2.length ≤ S.length := by
  have h := (((P.Inv.start S p (P.orderT S)).sweep n).picks n m).perm.length_eq
  rw [List.length_append, List.length_map, (P.orderT_perm S).length_eq, List.length_range] at h
  have e : stAt S p n m = P.picks S n (P.sweep S p (P.orderT S, []) n) m := rfl
  rw [e]; omega
set_option maxRecDepth 20000 in
set_option maxHeartbeats 4000000 in
theorem strikes_any (B : Nat) (p L : Nat) (a : Option Addr) (cap : Nat) (S : List P.Star) (w : World) (hn : S.length ≤ 16) (h : Job w B (p : Int) (L : Int) a cap S) (hp : p < 100) (hL : L < 100) (hS : P.Ok L S) :
    Calls Try.prog 79 #[.pointer (some ⟨B, 0, none⟩)] w fun e w' => ∃ bm D n, e = .returned (.map (some bm)) ∧ w'.ownsMap Try.prog 112 (plainElem (H := Unit) Try.prog 3) bm n D ∧ Maps.size D = (P.inTime S (P.sweep S p (P.orderT S, []) L).2).length ∧ Below w.heap.size w w' := by
  have hH1 : Held (w.alloc (.cells #[.pointer (some ⟨B, 0, none⟩)] 72)) w.heap.size B p L a cap S := ⟨cell_new1 w _ 72, h.on (Below.new w _)⟩
  have hH2 := hH1.on (Below.new _ (.map #[] 0))
  have hbl2 : Below w.heap.size w ((w.alloc (.cells #[.pointer (some ⟨B, 0, none⟩)] 72)).alloc (.map #[] 0)) := (Below.new w _).alloc (by simp) _
  have hmap : ((w.alloc (.cells #[.pointer (some ⟨B, 0, none⟩)] 72)).alloc (.map #[] 0)).ownsMap Try.prog 112 (plainElem (H := Unit) Try.prog 3) (w.heap.size + 1) 0 (.map []) := by
    have h := World.ownsMap_made (H := Unit) (w.alloc (.cells #[.pointer (some ⟨B, 0, none⟩)] 72)) Try.prog 112 (plainElem Try.prog 3)
    rw [World.size_alloc] at h
    exact h
  have x3 := hH2.job.x3
  have c1 := hH2.ptr
  have hlt := h.lt
  have hab : 0 < S.length → ∀ b off, a = some ⟨b, off, none⟩ → b < w.heap.size := h.st.lt
  have hmm := @run_makeMap Try.prog
  have HH := Lib.hid hH2
  have HB := Lib.hid hbl2
  have HM := Lib.hid hmap
  clear hH1 hH2 hbl2 hmap h
  obtain ⟨i0, hi, hz0, hz1, hz2⟩ := info_parts T25.hi
  have hby : i0.bytes * S.length ≤ 281474976710656 := by rw [hz2]; omega
  have hmx : S.length ≤ maxLen := by unfold maxLen; omega
  have hba : w.heap.size + 2 ≤ ((w.alloc (.cells #[.pointer (some ⟨B, 0, none⟩)] 72)).alloc (.map #[] 0)).heap.size := by simp
  go_enter Try.func79, Try.ntmps79
  go_wp2_with (at_make; refine wpList_make_own _ rfl _ _ 25 rfl (w.heap.size + 2) 3 i0 (.int .i64 0) 1 Try.underlying25 hi hz0 hz1 _ _ _ S.length rfl rfl (by omega) ?bytes ?maxLen ?base ?_)
  case bytes => exact hby
  case maxLen => exact hmx
  case base => exact hba
  intro w3 hrow hg3
  have hH3 := HH.out.kept hg3 (by simp) (by simp) (fun _ _ _ _ => by simp)
  have hM3 := HM.out.kept hg3 (by simp)
  have hB3 := HB.out.grown hg3 (by simp; omega) (fun j e => by cases e)
  have hs3 := hg3.size
  have hsz2 : ((w.alloc (.cells #[.pointer (some ⟨B, 0, none⟩)] 72)).alloc (.map #[] 0)).heap.size = w.heap.size + 1 + 1 := by simp
  rw [hsz2] at hs3
  have hb1 : ∃ b1, w.heap.size = b1 := ⟨_, rfl⟩
  obtain ⟨b1, hb1⟩ := hb1
  rw [hb1] at hH3 hB3 hM3 hs3 hlt hrow hab ⊢
  have x3 := hH3.job.x3
  have x2 := hH3.job.x2
  have c1 := hH3.ptr
  have HH3 := Lib.hid hH3
  have HM3 := Lib.hid hM3
  have HB3 := Lib.hid hB3
  have HR3 : Hid (Row3 w3 (b1 + 2) (b1 + 1 + 1) S.length (List.range 0)) := Lib.hid hrow
  have HA := Lib.hid hab
  clear hH3 hM3 hB3 hg3 HH HM HB hsz2 hmm hz0 hz1 hz2 hi hby hmx hba hrow hab
  go_wp2_with fail
  go_loopw [4, 5, 25] (fun v _ i wr => ∃ (j g cap2 : Nat), j ≤ S.length ∧ i = .int .i64 j ∧ v = .slice (some ⟨g, 0, none⟩) j cap2 ∧ Hid (Row3 wr (b1 + 2) g cap2 (List.range j)) ∧ Hid (Held wr b1 B p L a cap S) ∧ Hid (wr.ownsMap Try.prog 112 (plainElem (H := Unit) Try.prog 3) (b1 + 1) 0 (.map [])) ∧ Hid (Below b1 w wr) ∧ b1 + 2 ≤ wr.heap.size) (fun _ _ i _ => S.length - (intOf i).toNat)
  case atStart => exact ⟨0, b1 + 1 + 1, S.length, by omega, rfl, rfl, HR3, HH3, HM3, HB3, by omega⟩
  case round =>
    clear HR3 HH3 HM3 HB3
    obtain ⟨j, g, cap2, hj, rfl, rfl, HO, HH, HM, HB, hsz⟩ := hrel
    by_cases hlt2 : j < S.length
    · have hI : (j : Int) < (S.length : Int) := by omega
      have hjo : j + 1 ≤ 2000000 := by omega
      have hO : wr.ownsRow (b1 + 2) 3 1 (.slice (some ⟨g, 0, none⟩) j cap2) j ((intsN (List.range j)).map (.int .i64)) := by
        have := HO.out
        unfold Row3 at this
        rw [List.length_range] at this
        exact this
      have hO5 := Lib.hid (hO.alloc (.cells #[.int .i64 (j : Int)] 3))
      have hnews := Lib.hid (news_new wr #[.int .i64 (j : Int)] 3)
      have hszW : b1 + 2 ≤ (wr.alloc (.cells #[.int .i64 (j : Int)] 3)).heap.size := by simp; omega
      have hgb := (hO.lt g rfl).1
      clear hO
      go_wp2_with (at_builtin; refine listApp T25 rfl (.tmp 28) (.tmp 30) rfl (b1 + 2) (.slice (some ⟨g, 0, none⟩) j cap2) j ((intsN (List.range j)).map (.int .i64)) [.int .i64 (j : Int)] 1 1 ⟨wr.heap.size, 0, none⟩ rfl hO5.out rfl rfl hnews.out (by simp [Value.oneCell']) hjo hszW ?_; intro v8 w8 hown8 hg8 hL8)
      have hbn := Below.new wr (.cells #[.int .i64 (j : Int)] 3)
      obtain ⟨g', cap', rfl⟩ := owns_row3 hown8 hL8
      have hH8 := (HH.out.on hbn).kept hg8 (by simp [Value.ownBlock]; omega) (by simp [Value.ownBlock]; omega) (fun hp b off e => by have := HA.out hp b off e; simp [Value.ownBlock]; omega)
      have hM8 := (owns_map_below HM.out hbn).kept hg8 (by simp [Value.ownBlock]; omega)
      have hB8 := (HB.out.trans (hbn.mono (by omega))).grown hg8 (by simp; omega) (fun q e => by simp [Value.ownBlock] at e; omega)
      have hs8 := hg8.size
      have hR8 : Row3 w8 (b1 + 2) g' cap' (List.range (j + 1)) := by
        unfold Row3
        rw [List.length_range, List.range_succ, intsN_snoc, List.map_append]
        exact hown8
      go_roundw
      case rel => exact ⟨j + 1, g', cap', by omega, by go_num, rfl, Lib.hid hR8, Lib.hid hH8, Lib.hid hM8, Lib.hid hB8, by simp at hs8; omega⟩
      case measure => simp [intOf]; omega
    · have hI : ¬ (j : Int) < (S.length : Int) := by omega
      have hjn : j = S.length := by omega
      subst hjn
      have hgb : b1 + 2 ≤ g := HO.out.lt.1
      have hsort := sortT_any b1 B (p : Int) (L : Int) a cap S g cap2 wr hn (Ord.of_row HO.out) HH.out (by omega) (by omega) (fun hp b off e => by have := HA.out hp b off e; omega)
      have HSort := Lib.hid hsort
      clear hsort
      go_wp2_with fail
      refine HSort.out.mono ?_
      rintro e w4 ⟨rfl, hO4, hg4⟩
      have hS4 : Str w b1 (b1 + 1) g cap2 B (p : Int) (L : Int) a cap S (P.sweep S p (P.orderT S, []) 0) w4 :=
        ⟨⟨_, HM.out.kept hg4 (by simp; omega), Good.start S.length⟩, hO4, HH.out.kept hg4 (by simp; omega) (by simp; omega) (fun hp b off e => by have := HA.out hp b off e; simp; omega), HB.out.grown hg4 (by omega) (fun q e => by cases e; omega)⟩
      have c4 := hS4.held.ptr
      have x2 := hS4.held.job.x2
      have hl0 : S.length = (P.sweep S p (P.orderT S, []) 0).1.length := by
        show S.length = (P.orderT S).length
        rw [(P.orderT_perm S).length_eq, List.length_range]
      have HS4 := Lib.hid hS4
      have HL0 := Lib.hid hl0
      clear HSort hO4 hg4 hS4 HO HH HM HB hl0
      have hsz4 : b1 + 2 ≤ w4.heap.size := by have := HS4.out.ord.lt; omega
      go_wp2_with fail
      go_loopw [4, 6, 7, 8, 41, 49] (fun v _ _ _ k _ wr => ∃ (n : Nat), n ≤ L ∧ k = .int .i64 n ∧ v = .slice (some ⟨g, 0, none⟩) (P.sweep S p (P.orderT S, []) n).1.length cap2 ∧ Hid (Str w b1 (b1 + 1) g cap2 B (p : Int) (L : Int) a cap S (P.sweep S p (P.orderT S, []) n) wr)) (fun _ _ _ _ k _ _ => L - (intOf k).toNat)
      case atStart => exact ⟨0, by omega, rfl, by rw [← HL0.out], HS4⟩
      case round =>
        clear HS4 HL0 c4 x2 hsz4
        obtain ⟨n, hnL, rfl, rfl, HS⟩ := hrel
        by_cases hlt3 : n < L
        · have hI3 : (n : Int) < (L : Int) := by omega
          have hS5 := Lib.hid (HS.out.held.on (Below.new wr (.cells #[.int .i64 (n : Int)] 3)))
          have d5 := cell_new1 wr (.int .i64 (n : Int)) 3
          have c5 := hS5.out.ptr
          have x15 := hS5.out.job.x1
          go_wp2_with fail
          have hS5' := Lib.hid (HS.out.on (Below.new wr (.cells #[.int .i64 (n : Int)] 3)) (by have := HS.out.ord.lt; omega))
          have hgd := HS.out.ord.lt
          have hW5 : ∃ W5, wr.alloc (.cells #[.int .i64 (n : Int)] 3) = W5 := ⟨_, rfl⟩
          obtain ⟨W5, hW5⟩ := hW5
          have hdd : ∃ d, wr.heap.size = d := ⟨_, rfl⟩
          obtain ⟨d, hdd⟩ := hdd
          rw [hW5, hdd] at d5
          rw [hW5] at hS5' ⊢
          rw [hdd] at hgd ⊢
          have D5 := Lib.hid d5
          clear hW5 hdd hS5 c5 x15 d5 HS
          go_loopw [4, 7, 8, 49] (fun v _ _ c w2 => ∃ (m : Nat), m ≤ p ∧ c = .int .i64 m ∧ v = .slice (some ⟨g, 0, none⟩) (stAt S p n m).1.length cap2 ∧ Hid (Str w b1 (b1 + 1) g cap2 B (p : Int) (L : Int) a cap S (stAt S p n m) w2) ∧ Hid (w2.cell? ⟨d, 0, none⟩ = some (.int .i64 (n : Int)))) (fun _ _ _ c _ => p - (intOf c).toNat)
          case atStart => exact ⟨0, by omega, rfl, rfl, hS5', D5⟩
          case round =>
            clear hS5' D5
            obtain ⟨m, hmp, rfl, rfl, HS2, HD⟩ := hrel
            by_cases hlt4 : m < p
            · have hI4 : (m : Int) < (p : Int) := by omega
              have hgb2 := HS2.out.ord.lt
              have hfirst := firstF_any b1 B d (p : Int) (L : Int) a cap S (n : Int) g cap2 (stAt S p n m).1 wr (fun i hi => stAt_lt hi) (Nat.le_trans stAt_len hn) HS2.out.ord HS2.out.held HD.out
              rcases P.pick_or S (n : Int) (stAt S p n m) with h0 | h0
              · have hnone : (stAt S p n m).1.findIdx? (fun i => decide ((P.star S i).1 ≤ (n : Int))) = none := by
                  rw [List.findIdx?_eq_none_iff]; intro i hi; have := h0 i hi; simp; omega
                rw [hnone] at hfirst
                have HF := Lib.hid hfirst
                have hst : stAt S p n m = stAt S p n p := by
                  have := picks_stay h0 (p - m)
                  rw [show m + (p - m) = p by omega] at this
                  exact this.symm
                rw [hst] at HS2 HF ⊢
                clear hfirst hnone h0 hst
                go_wp2_with fail
                refine HF.out.mono ?_
                rintro e w3 ⟨rfl, hd3⟩
                have HS3 := Lib.hid (HS2.out.on (hd3.below _) (by omega))
                clear hd3
                go_wp2_with fail
                go_roundw
                case rel => exact ⟨n + 1, by omega, by go_num, rfl, HS3⟩
                case measure => simp [intOf]; omega
              · obtain ⟨k, hk, hks, -, hfi, hpk⟩ := P.pick_some (c := (m : Int)) h0
                rw [hfi] at hfirst
                have HF : Hid (Calls Try.prog 92 #[.slice (some ⟨g, 0, none⟩) (stAt S p n m).1.length cap2, .func (.func 93) #[] #[.pointer (some ⟨b1, 0, none⟩), .pointer (some ⟨d, 0, none⟩)]] wr fun e w' => e = .returned (.int .i64 (k : Int)) ∧ Drew wr w') := Lib.hid hfirst
                have HPk : Hid (stAt S p n (m + 1) = ((stAt S p n m).1.eraseIdx k, (stAt S p n m).2 ++ [((n : Int), (m : Int), (stAt S p n m).1[k])])) := Lib.hid hpk
                have hsl : (stAt S p n m).1[k] < S.length := stAt_lt (List.getElem_mem hk)
                have HBf := Lib.hid (stAt_bef S p n m)
                have HRm := Lib.hid (stAt_room S p n m)
                generalize hsv : (stAt S p n m).1[k] = sv at *
                have hlenI := stAt_len (S := S) (p := p) (n := n) (m := m)
                generalize stAt S p n m = st at *
                have hk0 : ¬ (k : Int) < 0 := by omega
                have hk1 : (0 : Int) ≤ (k : Int) := by omega
                have hk2 : (k : Int) < (st.1.length : Int) := by omega
                clear hfirst h0 hks hfi hpk
                go_wp2_with fail
                refine HF.out.mono ?_
                rintro e w3 ⟨rfl, hd3⟩
                have HS3 := Lib.hid (HS2.out.on (hd3.below _) (by omega))
                have d3 := (hd3.cell _).trans HD.out
                have i3 : w3.cell? ⟨g, k, none⟩ = some (.int .i64 (sv : Int)) := by
                  have := HS3.out.ord.ints.cellAt k (by rw [intsN_length]; exact hk)
                  rw [Nat.zero_add] at this
                  rw [this]
                  simp [nth, intsN, hk, hsv]
                have HSv := Lib.hid hsv
                clear hd3 HF HS2 HD hsv
                go_wp2_with fail
                go_still_tail 8, (by kernel_rfl)
                change wpList _ _ _ _ _ w3.drew
                obtain ⟨D, hown, hgood⟩ := HS3.out.map
                have hbd : Below w3.heap.size w3 w3.drew := (Below.refl _ _).drew
                have hown' := owns_map_below hown hbd
                have hok : EntOk S.length ((n : Int), (m : Int), sv) := ⟨⟨by show (0 : Int) ≤ n; omega, by show (n : Int) < 100; omega⟩, ⟨by show (0 : Int) ≤ m; omega, by show (m : Int) < 100; omega⟩, hsl⟩
                have hnew : ∀ f ∈ st.2, ¬ (f.1 = (n : Int) ∧ f.2.1 = (m : Int)) := fun f hf ⟨e1, e2⟩ => by
                  rcases HBf.out f hf with h | h <;> omega
                have hroom : st.2.length < maxLen := by have := HRm.out; unfold maxLen; omega
                have hwf : (Lit.int .i64 (sv : Int)).wf = true := WalkArith.wf_i64 (by omega)
                have hS3' := Lib.hid (HS3.out.on hbd (by have := HS3.out.ord.lt; omega))
                refine wpList_mapUpdate_own _ rfl _ _ _ 99 rfl 112 3 K112 Try.underlying99 (plainElem (H := Unit) Try.prog 3) (b1 + 1) st.2.length D rfl hown' hroom (keyV (n : Int) (m : Int)) (.int .i64 (sv : Int)) (klE ((n : Int), (m : Int), sv)) rfl rfl (klE_key hok) (.lit (.int .i64 (sv : Int))) [] (plainElem_int Try.underlying3 hwf) ?_
                intro w5 hown5 hg5
                have hgood5 := hgood.step hok hnew
                have hO5 := hS3'.out.ord.grown hg5 (by simp; omega)
                have hH5 := hS3'.out.held.kept hg5 (by simp) (by simp; omega) (fun hp b off e => by have := HA.out hp b off e; simp; omega)
                have hB5 := hS3'.out.bel.grown hg5 (by have := HS3.out.ord.lt; show b1 ≤ w3.heap.size; omega) (fun q e => by cases e; omega)
                have HDel := Lib.hid (delete_any g cap2 k st.1 w5 hO5 hk)
                have HM5 := Lib.hid hown5
                have HG5 := Lib.hid hgood5
                have HH5 := Lib.hid hH5
                have HB5 := Lib.hid hB5
                have hs5 := hg5.size
                have d5 : w5.cell? ⟨d, 0, none⟩ = some (.int .i64 (n : Int)) := hg5.cell (cell_on hbd d3) (by simp; omega)
                have HD5 := Lib.hid d5
                clear hown hgood hbd hown' hnew hroom hwf hS3' hown5 hg5 hgood5 hO5 hH5 hB5 d5 d3 i3 HBf HRm HS3
                go_wp2_with fail
                refine HDel.out.mono ?_
                rintro e w6 ⟨rfl, hO6, hg6⟩
                have hS6 : Str w b1 (b1 + 1) g cap2 B (p : Int) (L : Int) a cap S (st.1.eraseIdx k, st.2 ++ [((n : Int), (m : Int), sv)]) w6 :=
                  ⟨⟨_, by rw [List.length_append, List.length_singleton]; exact HM5.out.kept hg6 (by simp; omega), HG5.out⟩, hO6, HH5.out.kept hg6 (by simp; omega) (by simp; omega) (fun hp b off e => by have := HA.out hp b off e; simp; omega), HB5.out.grown hg6 (by have := HB5.out.size; omega) (fun q e => by cases e; omega)⟩
                have HS6 := Lib.hid hS6
                have HD6 := Lib.hid (hg6.cell HD5.out (by simp; omega))
                clear hS6 hO6 hg6
                go_wp2_with fail
                go_roundw
                case rel => exact ⟨m + 1, by omega, by go_num, by rw [HPk.out], by rw [HPk.out]; exact HS6, HD6⟩
                case measure => simp [intOf]; omega
            · have hI4 : ¬ (m : Int) < (p : Int) := by omega
              have hmp2 : m = p := by omega
              subst hmp2
              go_wp2_with fail
              go_roundw
              case rel => exact ⟨n + 1, by omega, by go_num, rfl, HS2⟩
              case measure => simp [intOf]; omega
        · have hI3 : ¬ (n : Int) < (L : Int) := by omega
          have hnL2 : n = L := by omega
          subst hnL2
          obtain ⟨D, hown, hgood⟩ := HS.out.map
          have hH := HS.out.held
          have hlen : (P.sweep S p (P.orderT S, []) n).2.length ≤ S.length := stAt_room S p n 0
          have hgr := HS.out.ord.lt
          obtain ⟨o, ho⟩ : ∃ o, (P.sweep S p (P.orderT S, []) n).2 = o := ⟨_, rfl⟩
          rw [ho] at hown hgood hlen
          have HG := Lib.hid hgood
          have HB := Lib.hid HS.out.bel
          have HOo := Lib.hid ho
          clear HS hgood ho
          go_wp2_with (at_range; refine wpList_range_own _ rfl _ 99 rfl 112 3 K112 Try.underlying99 _ (b1 + 1) o.length D rfl hown ?_; intro w5 hrg5 hg5 hs5)
          have hr : ∃ r, wr.heap.size = r := ⟨_, rfl⟩
          obtain ⟨r, hr⟩ := hr
          rw [hr] at hrg5 hs5 hgr ⊢
          have hbr : b1 + 2 ≤ r := by omega
          have hH5 := hH.kept hg5 (by simp) (by simp) (fun _ _ _ _ => by simp)
          have hB5 := HB.out.grown hg5 (by omega) (fun q e => by cases e)
          have HLt := Lib.hid (Late.start (tm := fun e => decide (e.1 ≤ (P.star S e.2.2).2.1)) HG.out)
          have HOk := Lib.hid HG.out.ok
          have hH0 := Lib.hid hH5
          have hB0 := Lib.hid hB5
          have hRg0 := Lib.hid hrg5
          clear hH HG HB hown hg5 hH5 hB5 hrg5 hr
          have hsz5 : r + 1 ≤ w5.heap.size := by omega
          clear hs5
          go_loopw [9, 10] (fun _ _ wr => ∃ D' left cnt, Hid (wr.ranges Try.prog 112 (plainElem (H := Unit) Try.prog 3) (b1 + 1) r o.length D' left cnt) ∧ Hid (Late S.length (fun e => decide (e.1 ≤ (P.star S e.2.2).2.1)) o D' left) ∧ Hid (Held wr b1 B (p : Int) (n : Int) a cap S) ∧ Hid (Below b1 w wr)) (fun _ _ wr => wr.rangeLeft (b1 + 1) r)
          case atStart => exact ⟨_, _, _, hRg0, HLt, hH0, hB0⟩
          case round =>
            clear hRg0 HLt hH0 hB0
            obtain ⟨D', left, cnt, HRg, HL, HH, HB⟩ := hrel
            have hAt : ∀ e ∈ o, left (klE e) = true → ∀ z, D'.atKey (klE e) z = .lit (.int .i64 (e.2.2 : Int)) := fun e he hl z => HL.out.at_ e he ((HL.out.has _).2 ⟨e, he, rfl, .inl hl⟩) z
            have HAt := Lib.hid hAt
            clear hAt
            go_wp2_with (at_next; refine wpNextS rfl _ rfl o (b1 + 1) r o.length D' left cnt rfl HRg.out HOk.out HL.out.sub HAt.out ?_ ?_)
            · intro _ hl0
              have hdone := HL.out.done hl0
              have hown := HRg.out.owns
              have HD := Lib.hid hdone
              have HOw := Lib.hid hown
              clear hdone hown
              go_wp2_with fail
              go_ret
              exact ⟨b1 + 1, D', _, rfl, HOw.out, by rw [HD.out, HOo.out, List.countP_eq_length_filter]; rfl, by rw [hb1]; exact HB.out⟩
            · intro ew ec ei he hle w1 cnt1 hrg1 hlt1 hg1 hs1 hen
              have hok := HOk.out _ he
              have hei : ei < S.length := hok.2.2
              have hH1 := HH.out.kept hg1 (by simp; omega) (by simp; omega) (fun hp b off e => by have := HA.out hp b off e; simp; omega)
              have hB1 := HB.out.grown hg1 (by have := HB.out.size; omega) (fun q e => by cases e; omega)
              have hnw := Below.new w1 (.cells #[.int .i64 ew, .int .i64 ec] 112)
              have hH2 := hH1.on hnw
              have hB2 := hB1.trans (hnw.mono (by have := hB1.size; omega))
              have hrg2 := hrg1.alloc (.cells #[.int .i64 ew, .int .i64 ec] 112)
              have q0 : (w1.alloc (.cells #[.int .i64 ew, .int .i64 ec] 112)).cell? ⟨w1.heap.size, 0, none⟩ = some (.int .i64 ew) := by simp
              have q1 : (w1.alloc (.cells #[.int .i64 ew, .int .i64 ec] 112)).cell? ⟨w1.heap.size, 1, none⟩ = some (.int .i64 ec) := by simp
              have y1 := hH2.ptr
              have y3 := hH2.job.x3
              have hst := hH2.job.st ei hei
              have k1 : (0 : Int) ≤ (ei : Int) := by omega
              have k2 : (ei : Int) < (S.length : Int) := by omega
              have HRg2 := Lib.hid hrg2
              have HH2 := Lib.hid hH2
              have HB2 := Lib.hid hB2
              have HOke := Lib.hid hok
              obtain ⟨sb, soff, hae, -, s2, -⟩ := hst
              rw [hae] at y3
              have HAe := Lib.hid hae
              clear hae
              clear hrg2 hH2 hB2 hnw hH1 hB1 hrg1 hg1 hok hs1
              have hH' : ∃ H, w1.heap.size = H := ⟨_, rfl⟩
              obtain ⟨H, hH'⟩ := hH'
              have hW' : ∃ W1, w1.alloc (.cells #[.int .i64 ew, .int .i64 ec] 112) = W1 := ⟨_, rfl⟩
              obtain ⟨W1, hW'⟩ := hW'
              rw [hW'] at HRg2 HH2 HB2 q0 q1 y1 y3 s2
              rw [hH'] at q0 q1
              cases htm : decide (ew ≤ (P.star S ei).2.1) with
              | true =>
                have HP := Lib.hid (HL.out.pass he htm)
                have hI : ¬ (P.star S ei).2.1 < ew := by have := of_decide_eq_true htm; omega
                clear htm
                go_wp2_with fail
                clear hW' hH' hen
                go_quiet (fail)
                go_wp2_with fail
                go_roundw
                case rel => exact ⟨D', _, cnt1, Lib.hid (HRg2.out.kept (grownBy_drewN W1 nq none) (by simp) (by simp)), HP, Lib.hid (HH2.out.on ((Drew.drewN (Drew.refl W1) nq).below _)), Lib.hid (HB2.out.trans ((Drew.drewN (Drew.refl W1) nq).below _))⟩
                case measure => rw [(HRg2.out.kept (grownBy_drewN W1 nq none) (by simp) (by simp)).left_eq, HRg.out.left_eq]; exact hlt1
              | false =>
                have HP := Lib.hid (HL.out.struck he htm hle)
                have hI : (P.star S ei).2.1 < ew := by have := of_decide_eq_false htm; omega
                clear htm
                go_wp2_with fail
                clear hW' hH' hen
                go_quiet (fail)
                have hrg3 := HRg2.out.kept (grownBy_drewN W1 nq none) (by simp) (by simp)
                go_wp2_with (at_delete; refine wpList_delete_ranges _ rfl _ _ 99 112 rfl 3 K112 Try.underlying99 (plainElem (H := Unit) Try.prog 3) (b1 + 1) r o.length D' _ cnt1 rfl hrg3 (keyV ew ec) (klE (ew, ec, ei)) rfl (klE_key HOke.out) ?_; intro w2 cnt2 hrg3 hle hturn; go_frame)
                have hH3 := (HH2.out.on ((Drew.drewN (Drew.refl W1) nq).below _)).kept hturn.grown (by simp) (by simp; omega) (fun hp b off e => by have := HA.out hp b off e; simp; omega)
                have hB3 := (HB2.out.trans ((Drew.drewN (Drew.refl W1) nq).below _)).grown hturn.grown (by have := HB2.out.size; have := hb1; show b1 ≤ W1.heap.size; omega) (fun j e => by cases e; omega)
                rw [strike_twice] at hrg3
                go_roundw
                case rel => exact ⟨_, _, cnt2, Lib.hid hrg3, HP, Lib.hid hH3, Lib.hid hB3⟩
                case measure => rw [hrg3.left_eq, HRg.out.left_eq]; omega
end Go.Proofs.Ytpkffjcmoghaaaa
