/- One text of ComF, ComG. -/
import Derived.Test.YtcjbnifafofpbaaGreatDoorJ7
import Derived.Deep.OwnRows
/- Walks of the program's functions: read, Names. -/
namespace Go.Proofs.YtcjbnifafofpbaaGreatDoor
open Go.RowKit
theorem anyI_max (p q : List X.W) (c : UInt8) : max (X.anyI p) (X.anyI q) = X.anyI (p ++ q.map (c :: ·)) := by
  rw [← X.anyI_app]
  split <;> omega
theorem Cells.drew {w w' : World} {b : Nat} {l : List Value} (h : Cells w b l) (hd : Drew w w') : Cells w' b l := by obtain ⟨n, rfl⟩ := hd; exact ⟨h.cel, h.fr, h.lt⟩
theorem Boxed.drew {w w' : World} {b : Nat} {t : TypeId} {v : Value} (h : Boxed w b t v) (hd : Drew w w') : Boxed w' b t v := by obtain ⟨n, rfl⟩ := hd; exact h
theorem Boxed.on {w w' : World} {b : Nat} {t : TypeId} {v : Value} (h : Boxed w b t v) (hb : Below w.heap.size w w') : Boxed w' b t v := (hb.block b h.lt).trans h
theorem Boxed.setOther {w : World} {b c o : Nat} {t : TypeId} {v u : Value} (h : Boxed w b t v) (hne : b ≠ c) : Boxed (w.setCell ⟨c, o, none⟩ u) b t v := by
  have := (grownBy_setCell w c o u).block b h.lt (fun e => hne (by injection e))
  exact this.trans h
/-- How far the live ones are known. -/
structure Lv (s : List X.St) (i : Nat) (lv : List Int) : Prop where
  len : lv.length = s.length
  live : ∀ j, i ≤ j → j < s.length → nth lv j = X.anyI (X.reads s j)
/-- The blocks of read. -/
structure LvW (s : List X.St) (a : Option Addr) (cap : Nat) (w wr : World) (lv : List Int) : Prop where
  cel : Cells wr (w.heap.size + 1) (lv.map (.int .i64))
  b1 : Boxed wr w.heap.size 25 (.slice a s.length cap)
  b3 : Boxed wr (w.heap.size + 1 + 1) 56 (.slice (some ⟨w.heap.size + 1, 0, none⟩) s.length s.length)
  bel : Below w.heap.size w wr
theorem LvW.drew {s : List X.St} {a : Option Addr} {cap : Nat} {w wr wr' : World} {lv : List Int} (h : LvW s a cap w wr lv) (hd : Drew wr wr') : LvW s a cap w wr' lv := ⟨h.cel.drew hd, Boxed.drew h.b1 hd, Boxed.drew h.b3 hd, h.bel.trans (hd.below _)⟩
theorem LvW.put {s : List X.St} {a : Option Addr} {cap : Nat} {w wr : World} {lv : List Int} (h : LvW s a cap w wr lv) (i : Nat) (x : Int) (hi : i < lv.length) : LvW s a cap w (wr.setCell ⟨w.heap.size + 1, i, none⟩ (.int .i64 x)) (lv.set i x) :=
  ⟨h.cel.put i x hi, Boxed.setOther h.b1 (by omega), Boxed.setOther h.b3 (by omega), h.bel.setCell (p := ⟨w.heap.size + 1, i, none⟩) (by show w.heap.size ≤ w.heap.size + 1; omega) _⟩
theorem nth_set_eq {l : List Int} {i : Nat} (h : i < l.length) (x : Int) : nth (l.set i x) i = x := by simp [nth, h]
theorem nth_set_ne {l : List Int} {i j : Nat} (h : i ≠ j) (x : Int) : nth (l.set i x) j = nth l j := by simp [nth, h]
theorem run_store_func (P : Program) (w : World) (a : Addr) (f : Fn) (c b : Array Value) (m : Mode) : (store a (.func f c b) m).run P w = stored P w a (.func f c b) m := run_store P w a _ m rfl
attribute [local go_sem] run_store_func
set_option maxRecDepth 20000 in
set_option maxHeartbeats 4000000 in
theorem readP_any (a : Option Addr) (cap : Nat) (s : List X.St) (w : World) (hA : X.Auto s) (hfew : Few s) (ha : Sts w a s) :
    Calls Tryz.prog 65 #[.slice a s.length cap] w fun e w' => ∃ a' n c, e = .returned (.tuple #[.slice a' n c, .bool (!X.overB s)]) ∧ (X.overB s = false → n = (X.reads s 0).length ∧ Strs w' a' (X.reads s 0) ∧ (n ≤ c ∧ (a' = none → c = 0))) ∧ Below w.heap.size w w' := by
  have hs1 := hA.n1
  have hs2 := hA.n2
  obtain ⟨i0, hi, hz0, hz1, hz2⟩ := info_parts T56.hi
  have hby : i0.bytes * s.length ≤ 281474976710656 := by rw [hz2]; omega
  have h63 : s.length ≤ 9223372036854775807 := by omega
  have HIi := Lib.hid (And.intro hi (And.intro hz0 hz1))
  have e1 : (w.alloc (.cells #[.slice a s.length cap] 25)).heap.size = w.heap.size + 1 := by simp
  have HB1 := Lib.hid (Boxed.new w 25 (.slice a s.length cap))
  have HBl := Lib.hid (((Below.new w (.cells #[.slice a s.length cap] 25)).alloc (by simp) (.cells (madeCells #[.int .i64 0] s.length) 3)).alloc (by simp; omega) (.cells #[.slice (some ⟨w.heap.size + 1, 0, none⟩) s.length s.length] 56))
  have hm := Cells.made (w.alloc (.cells #[.slice a s.length cap] 25)) s.length
  rw [e1] at hm
  have HM := Lib.hid (hm.on (Below.new _ (.cells #[.slice (some ⟨w.heap.size + 1, 0, none⟩) s.length s.length] 56)))
  have hb3 := Boxed.new ((w.alloc (.cells #[.slice a s.length cap] 25)).alloc (.cells (madeCells #[.int .i64 0] s.length) 3)) 56 (.slice (some ⟨w.heap.size + 1, 0, none⟩) s.length s.length)
  rw [World.size_alloc, World.size_alloc] at hb3
  have HB3 := Lib.hid hb3
  have HB1b := Lib.hid ((HB1.out.alloc (.cells (madeCells #[.int .i64 0] s.length) 3)).alloc (.cells #[.slice (some ⟨w.heap.size + 1, 0, none⟩) s.length s.length] 56))
  clear hi hz0 hz1 hz2 hm hb3
  have HSt := Lib.hid ha
  have HAu := Lib.hid hA
  have HFew := Lib.hid hfew
  clear ha hA hfew
  have kn : IntKind.i64.wrap ((s.length : Int) - 1) = (s.length : Int) - 1 := IntWalk.i64_in _ (by omega)
  have hp1 := (HB1.out).cell
  go_enter Tryz.func65, Tryz.ntmps65
  go_wp2_with (at_make; refine wpList_make_row _ rfl _ _ 56 rfl 3 i0 (.int .i64 0) Tryz.underlying56 HIi.out.1 HIi.out.2.1 HIi.out.2.2 rfl _ _ s.length rfl rfl hby h63 ?_)
  have HL0 : Hid (LvW s a cap w (((w.alloc (.cells #[.slice a s.length cap] 25)).alloc (.cells (madeCells #[.int .i64 0] s.length) 3)).alloc (.cells #[.slice (some ⟨w.heap.size + 1, 0, none⟩) s.length s.length] 56)) (List.replicate s.length 0)) := Lib.hid ⟨HM.out, HB1b.out, HB3.out, HBl.out⟩
  have HV0 : Hid (Lv s s.length (List.replicate s.length 0)) := Lib.hid ⟨by simp, fun j h1 h2 => by omega⟩
  clear HB1 HBl HM HB3 HB1b hp1 e1 hby h63 HIi
  go_loopw [5] (fun x wr => ∃ i : Nat, i ≤ s.length ∧ x = .int .i64 ((i : Int) - 1) ∧ ∃ lv, Hid (Lv s i lv) ∧ Hid (LvW s a cap w wr lv)) (fun x _ => (intOf x + 1).toNat)
  case atStart => exact ⟨s.length, Nat.le_refl _, rfl, _, HV0, HL0⟩
  case round =>
    clear HL0 HV0
    obtain ⟨i, hi, rfl, lv, HV, HL⟩ := hrel
    cases i with
    | succ i =>
      have hil : i < s.length := by omega
      have hiI : (i : Int) < (s.length : Int) := by omega
      have hi0 : (0 : Int) ≤ (i : Int) := by omega
      have ei : (((i + 1 : Nat) : Int) - 1) = (i : Int) := by omega
      have hll := HV.out.len
      rw [ei]
      have p1 := HL.out.b1.cell
      have p3 := HL.out.b3.cell
      obtain ⟨b, off, rfl, q1, -, a2, cap2, q3, hi3⟩ := HSt.out i hil
      have Q3 := Lib.hid q3
      have HI3 := Lib.hid hi3
      have q1 := cell_on HL.out.bel q1
      have z1 := HL.out.cel.nth i (by omega)
      have z2 := HL.out.cel.fr i
      have HL2 := Lib.hid (HL.out.put i (X.at_ s i).ends (by omega))
      have HZ : Hid (nth (lv.set i (X.at_ s i).ends) i = X.anyI (X.part s i 0)) := Lib.hid (by rw [nth_set_eq (by omega), X.anyI_zero HAu.out hil])
      have HVs : Hid (∀ x, Lv s (i + 1) (lv.set i x)) := Lib.hid (fun x => ⟨by rw [List.length_set]; exact hll, fun j h1 h2 => by rw [nth_set_ne (by omega)]; exact HV.out.live j h1 h2⟩)
      have HPs := Lib.hid (fun k h1 h2 => X.part_succ s i (k := k) h1 h2)
      have HPa := Lib.hid (X.part_all HAu.out hil)
      have heq := Lib.hid (HAu.out.eq _ (X.at_mem hil))
      have HNx : Hid (∀ k, k < (X.at_ s i).next.length → (i : Int) < nth (X.at_ s i).next k ∧ nth (X.at_ s i).next k < s.length) := Lib.hid (fun k hk => by
        rw [nth_eq _ k hk]; exact HAu.out.nx i hil _ (List.getElem_mem hk))
      have hNl : (X.at_ s i).next.length ≤ 1000000 := (HFew.out _ (X.at_mem hil)).2
      generalize hEx : (X.at_ s i).ends = E at *
      have q3b := cell_on HL2.out.bel Q3.out
      have p1b := HL2.out.b1.cell
      have HL3 : Hid (LvW s (some ⟨b, off, none⟩) cap w ((wr.setCell ⟨w.heap.size + 1, i, none⟩ (.int .i64 E)).drewN 1) (lv.set i E)) := Lib.hid (HL2.out.drew ⟨1, rfl⟩)
      have HVn := Lib.hid (HVs.out E)
      clear hi3 q3 HL HVs HV
      go_wp2_with fail
      go_still_tail 7, (by kernel_rfl)
      go_wp2_with fail
      clear p1 p3 q1 z1 z2 q3b p1b HL2
      go_loopw [35] (fun x wr => ∃ k : Nat, k ≤ (X.at_ s i).next.length ∧ x = .int .i64 k ∧ ∃ lv, Hid (Lv s (i + 1) lv) ∧ Hid (nth lv i = X.anyI (X.part s i k)) ∧ Hid (LvW s (some ⟨b, off, none⟩) cap w wr lv)) (fun x _ => (X.at_ s i).next.length - (intOf x).toNat)
      case atStart => exact ⟨0, by omega, rfl, _, HVn, HZ, HL3⟩
      case round =>
        clear HL3 HVn HZ hll
        obtain ⟨k, hk, rfl, lv, HV, HZ, HL⟩ := hrel
        have hll := HV.out.len
        by_cases hkl : k < (X.at_ s i).next.length
        · have hkI : (k : Int) < ((X.at_ s i).next.length : Int) := by omega
          have hk0 : (0 : Int) ≤ (k : Int) := by omega
          obtain ⟨b3, off3, rfl, q4⟩ := (HI3.out.below HL.out.bel) k hkl
          have hkA' : k < (X.at_ s i).letters.length := by rw [heq.out]; exact hkl
          have hps := HPs.out k hkA' hkl
          have hv := HNx.out k hkl
          obtain ⟨n, hn⟩ := Int.eq_ofNat_of_zero_le (show 0 ≤ nth (X.at_ s i).next k by omega)
          rw [← nth_eq _ k hkl] at hps
          rw [hn] at q4 hv hps
          rw [Int.toNat_natCast] at hps
          have hns : n < s.length := by omega
          have hnI : (n : Int) < (s.length : Int) := by omega
          have hn0 : (0 : Int) ≤ (n : Int) := by omega
          have p3 := HL.out.b3.cell
          have z1 := HL.out.cel.nth i (by omega)
          have z2 := HL.out.cel.fr i
          have z3 := HL.out.cel.nth n (by omega)
          have HMx : Hid (max (nth lv i) (nth lv n) = X.anyI (X.part s i (k + 1))) := Lib.hid (by
            rw [HZ.out, HV.out.live n (by omega) hns, hps, anyI_max])
          have HVx := Lib.hid (fun x => (⟨by rw [List.length_set]; exact hll, fun j h1 h2 => by rw [nth_set_ne (by omega)]; exact HV.out.live j h1 h2⟩ : Lv s (i + 1) (lv.set i x)))
          have HLx := Lib.hid (fun x => (HL.out.put i x (by omega)).drew (⟨1, rfl⟩ : Drew _ (World.drewN _ 1)))
          have HZx := Lib.hid (fun x => nth_set_eq (l := lv) (i := i) (by omega) x)
          generalize nth lv i = A1 at *
          generalize nth lv n = A2 at *
          clear hps hn hv hkA'
          go_wp2_with fail
          go_still_tail 11, (by kernel_rfl)
          go_wp2_with fail
          go_roundw
          case rel => exact ⟨k + 1, by omega, by go_num, _, HVx.out _, Lib.hid (by rw [← HMx.out]; exact HZx.out _), HLx.out _⟩
          case measure => simp [intOf]; omega
        · have ek : k = (X.at_ s i).next.length := by omega
          subst ek
          rw [HPa.out] at HZ
          have HVf : Hid (Lv s i lv) := Lib.hid ⟨hll, fun j h1 h2 => by
            by_cases e : j = i
            · subst e; exact HZ.out
            · exact HV.out.live j (by omega) h2⟩
          have hkI : ¬ ((X.at_ s i).next.length : Int) < ((X.at_ s i).next.length : Int) := by omega
          have ki : IntKind.i64.wrap ((i : Int) - 1) = (i : Int) - 1 := IntWalk.i64_in _ (by omega)
          go_wp2_with fail
          go_roundw
          case rel => exact ⟨i, by omega, rfl, lv, HVf, HL⟩
          case measure => simp [intOf]
    | zero =>
      have e0 : (((0 : Nat) : Int) - 1) = -1 := rfl
      rw [e0]
      obtain ⟨b, off, rfl, q1, -, -⟩ := HSt.out 0 (by omega)
      rw [Nat.zero_mul, Nat.add_zero] at q1
      have Q1 := Lib.hid q1
      have h0I : (0 : Int) < (s.length : Int) := by omega
      have hr3 : w.heap.size + 1 + 1 < wr.heap.size := Boxed.lt HL.out.b3
      have HE : Hid (Env s (some ⟨b, off, none⟩) cap lv w.heap.size w.heap.size wr.heap.size (w.heap.size + 1 + 1) (wr.heap.size + 1) (w.heap.size + 1) s.length (wr.heap.size + 2) w ((wr.alloc (.cells #[.slice none 0 0] 22)).alloc (.cells #[.func (.func 97) #[] #[.pointer (some ⟨w.heap.size, 0, none⟩), .pointer (some ⟨wr.heap.size, 0, none⟩), .pointer (some ⟨w.heap.size + 1 + 1, 0, none⟩), .pointer (some ⟨wr.heap.size + 1, 0, none⟩)]] 102))) := Lib.hid (by
        have hll := HV.out.len
        have hb := (Below.new wr (.cells #[.slice none 0 0] 22)).alloc (by simp) (.cells #[.func (.func 97) #[] #[.pointer (some ⟨w.heap.size, 0, none⟩), .pointer (some ⟨wr.heap.size, 0, none⟩), .pointer (some ⟨w.heap.size + 1 + 1, 0, none⟩), .pointer (some ⟨wr.heap.size + 1, 0, none⟩)]] 102)
        have hx := Boxed.new (wr.alloc (.cells #[.slice none 0 0] 22)) 102 (.func (.func 97) #[] #[.pointer (some ⟨w.heap.size, 0, none⟩), .pointer (some ⟨wr.heap.size, 0, none⟩), .pointer (some ⟨w.heap.size + 1 + 1, 0, none⟩), .pointer (some ⟨wr.heap.size + 1, 0, none⟩)])
        rw [World.size_alloc] at hx
        refine ⟨HL.out.bel.trans (hb.mono HL.out.bel.size), Boxed.on HL.out.b1 hb, by rw [hll]; exact Boxed.on HL.out.b3 hb, hx, fun i hi => cell_on hb (HL.out.cel.nth i hi), by omega⟩)
      have HO : Hid (OutB (wr.heap.size + 2) wr.heap.size ((wr.alloc (.cells #[.slice none 0 0] 22)).alloc (.cells #[.func (.func 97) #[] #[.pointer (some ⟨w.heap.size, 0, none⟩), .pointer (some ⟨wr.heap.size, 0, none⟩), .pointer (some ⟨w.heap.size + 1 + 1, 0, none⟩), .pointer (some ⟨wr.heap.size + 1, 0, none⟩)]] 102)) []) :=
        Lib.hid ⟨.slice none 0 0, (Boxed.new wr 22 (.slice none 0 0)).alloc _, World.ownsRow_nil _ _ _ _, by omega, by simp⟩
      have HC := Lib.hid (walkP_any s HAu.out HFew.out (some ⟨b, off, none⟩) cap lv HV.out.len (fun i hi => HV.out.live i (by omega) hi) w.heap.size wr.heap.size (w.heap.size + 1 + 1) (wr.heap.size + 1) (w.heap.size + 1) s.length (wr.heap.size + 2) w HSt.out s.length 0 (by omega) (by omega) [] _ [] (by simp) (fun h => by simp at h) (by simp) HE.out HO.out)
      have em : (X.reads s 0).map (([] : X.W) ++ ·) = X.reads s 0 := by
        have : (fun x : X.W => [] ++ x) = id := by funext x; rfl
        rw [this, List.map_id]
      rw [em] at HC
      have HBo : Hid (X.Bad [] (X.reads s 0) → X.overB s = true) := Lib.hid X.Bad.over
      have HGo : Hid (X.Good [] (X.reads s 0) → X.overB s = decide ((X.at_ s 0).ends = 1)) := Lib.hid X.Good.over
      have hen := HAu.out.en _ (X.at_mem (s := s) (i := 0) (by omega))
      have HBel := Lib.hid HL.out.bel
      have HBn : Hid (w.heap.size ≤ wr.heap.size + 2) := Lib.hid (by omega)
      have HBc : Hid (w.heap.size ≤ wr.heap.size) := Lib.hid (by omega)
      clear em HV HL q1 HSt HAu HFew HO
      go_wp2_with fail
      refine HC.out.mono ?_
      rintro e w3 ⟨ok, rfl, hk3, ht3, hf3⟩
      have hE3 := HE.out.kept hk3
      have HB3 := Lib.hid hE3.bel
      have p1 := hE3.b1.cell
      have q1 := cell_on hE3.bel Q1.out
      clear hE3 hk3 HE HC
      cases ok with
      | false =>
        have HB := Lib.hid (HBo.out (hf3 rfl))
        clear ht3 hf3 hen q1
        go_wp2_with fail
        go_ret2
        exact ⟨none, 0, 0, by rw [HB.out]; rfl, fun h => (by rw [HB.out] at h; cases h), HB3.out⟩
      | true =>
        obtain ⟨hg3, v, hv3, hrow3, -, -⟩ := ht3 rfl
        have HB := Lib.hid (HGo.out hg3)
        clear ht3 hf3 hg3
        rcases hen with he | he
        · rw [he] at q1 HB
          have hvc := Boxed.cell hv3
          obtain ⟨hl3, av, cv, rfl, hs3, hc3⟩ := Strs.of_ownsRow hrow3
          rw [List.nil_append] at hs3 hvc
          have HS3 := Lib.hid hs3
          have HC3 := Lib.hid hc3
          clear hv3 hrow3 hs3 hl3 hc3 he
          go_wp2_with fail
          go_ret2
          exact ⟨av, _, cv, by rw [HB.out]; rfl, fun _ => ⟨rfl, HS3.out, HC3.out⟩, HB3.out⟩
        · rw [he] at q1 HB
          clear hv3 hrow3 he
          go_wp2_with fail
          go_ret2
          exact ⟨none, 0, 0, by rw [HB.out]; rfl, fun h => (by rw [HB.out] at h; cases h), HB3.out⟩
end Go.Proofs.YtcjbnifafofpbaaGreatDoor
/- Walks of the program's functions: Names, Number, Name. -/
namespace Go.Proofs.YtcjbnifafofpbaaGreatDoor
open Go.RowKit
theorem ne_bool {x : Int} (h : x ≠ 0) : (x != 0) = true := by rw [bne_iff_ne]; exact h
theorem rises_at {R : List X.W} (h : X.Rises R) {i j : Nat} (hij : i < j) (hj : j < R.length) : X.lt (wat R i) (wat R j) = true := by
  rw [wat_eq R i (by omega), wat_eq R j hj]
  exact List.pairwise_iff_getElem.1 h i j (by omega) hj hij
/-- Where a word would stand. -/
theorem place_ex {R : List X.W} (h : X.Rises R) (x : X.W) : ∃ k, k ≤ R.length ∧ (∀ t, t < k → t < R.length ∧ X.lt (wat R t) x = true) ∧ (∀ t, k ≤ t → t < R.length → X.lt (wat R t) x = false) := by
  obtain ⟨k, hk, hmin⟩ := least_ex (q := fun t => ¬ (t < R.length ∧ X.lt (wat R t) x = true)) R.length (by simp)
  have h1 : ∀ t, t < k → t < R.length ∧ X.lt (wat R t) x = true := fun t ht => Classical.byContradiction (hmin t ht)
  refine ⟨k, ?_, h1, fun t ht hl => ?_⟩
  · cases Nat.lt_or_ge R.length k with
    | inl hlt => exact absurd (h1 R.length hlt).1 (by omega)
    | inr hge => exact hge
  · cases hx : X.lt (wat R t) x with
    | false => rfl
    | true =>
      exfalso
      apply hk
      refine ⟨by omega, ?_⟩
      rcases Nat.lt_or_ge k t with hkt | hkt
      · exact X.lt_trans (rises_at h hkt hl) hx
      · obtain rfl : k = t := by omega
        exact hx
def SxOf (R : List X.W) (x : X.W) (t : Nat) : ByteArray := if t < R.length then bs (wat R t) else bs x
theorem bs_inj {a b : X.W} (h : bs a = bs b) : a = b := by
  have := congrArg (fun s : ByteArray => s.toList) h
  rw [show (bs a).toList = a from bs_tl a, show (bs b).toList = b from bs_tl b] at this
  exact this
theorem search_spec {R : List X.W} (h : X.Rises R) (x : X.W) : ∃ k, Lib.bsGo (fun t => Op.bytesLess (SxOf R x t).toList (bs x).toList) R.length 0 R.length = k ∧ decide (k < R.length ∧ SxOf R x k = bs x) = decide (x ∈ R) ∧ (x ∈ R → k = R.idxOf x) := by
  obtain ⟨k, hk, h1, h2⟩ := place_ex h x
  refine ⟨k, Lib.bsGo_spec _ k (fun t ht => ?_) (fun t ht => ?_) _ _ _ (by omega) (by omega) hk, ?_, ?_⟩
  · obtain ⟨a, b⟩ := h1 t ht
    unfold SxOf; rw [if_pos a, bytesLess_lt]
    rw [show (bs (wat R t)).toList = wat R t from bs_tl _, show (bs x).toList = x from bs_tl _]; exact b
  · unfold SxOf
    rw [bytesLess_lt, show (bs x).toList = x from bs_tl _]
    split
    · rename_i a
      rw [show (bs (wat R t)).toList = wat R t from bs_tl _]; exact h2 t ht a
    · rw [show (bs x).toList = x from bs_tl _]; exact X.lt_irrefl x
  · rw [decide_eq_decide]
    constructor
    · rintro ⟨a, b⟩
      unfold SxOf at b; rw [if_pos a] at b
      rw [← bs_inj b]; exact wat_mem a
    · intro hx
      obtain ⟨i, hi, e⟩ := List.getElem_of_mem hx
      have hki : k = i := by
        have hxi : wat R i = x := by rw [wat_eq R i hi, e]
        rcases Nat.lt_trichotomy k i with c | c | c
        · have := h2 k (Nat.le_refl _) (by omega)
          rw [← hxi, rises_at h c hi] at this; cases this
        · exact c
        · have := (h1 i c).2
          rw [hxi, X.lt_irrefl] at this; cases this
      subst hki
      refine ⟨hi, ?_⟩
      unfold SxOf; rw [if_pos hi, wat_eq R k hi, e]
  · intro hx
    have hi := List.idxOf_lt_length_iff.2 hx
    have e : wat R (R.idxOf x) = x := by rw [wat_eq R _ hi]; exact List.getElem_idxOf hi
    rcases Nat.lt_trichotomy k (R.idxOf x) with c | c | c
    · have := h2 k (Nat.le_refl _) (by omega)
      have h3 := rises_at h c hi
      rw [e] at h3
      rw [h3] at this; cases this
    · exact c
    · have := (h1 _ c).2
      rw [e, X.lt_irrefl] at this; cases this
set_option maxRecDepth 20000 in
set_option maxHeartbeats 1000000 in
theorem namesP_any (a : Option Addr) (cap : Nat) (s : List X.St) (w : World) (hl : s.length ≤ 1000000) (hf : Few s) (ha : Sts w a s) :
    Calls Tryz.prog 24 #[.slice a s.length cap] w fun e w' => OutSE w w' e (X.namesE s) := by
  have HC := Lib.hid (checkStatesP_any a cap s w hl hf ha)
  by_cases h : X.statesE s = 0
  · have HR := Lib.hid (fun W hb => readP_any a cap s W (X.statesE_iff.1 h) hf (ha.below hb))
    have HE : Hid (X.namesE s = if X.overB s = true then ([], 4) else (X.reads s 0, 0)) := Lib.hid (by unfold X.namesE; rw [if_pos h])
    rw [h] at HC
    clear h hf ha
    cases ho : X.overB s with
    | true =>
      rw [ho] at HE HR
      go_enter Tryz.func24, Tryz.ntmps24
      go_wp2_with fail
      refine HC.out.mono ?_
      rintro e w1 ⟨rfl, hb1⟩
      have HB1 := Lib.hid hb1
      clear hb1
      go_wp2_with fail
      refine (HR.out w1 HB1.out).mono ?_
      rintro e w2 ⟨a', n, c, rfl, -, hb2⟩
      go_wp2_with fail
      go_ret2
      rw [HE.out]
      exact ⟨none, 0, rfl, Strs.nil _ _, by simp, HB1.out.trans (hb2.mono HB1.out.size)⟩
    | false =>
      rw [ho] at HE HR
      go_enter Tryz.func24, Tryz.ntmps24
      go_wp2_with fail
      refine HC.out.mono ?_
      rintro e w1 ⟨rfl, hb1⟩
      have HB1 := Lib.hid hb1
      clear hb1
      go_wp2_with fail
      refine (HR.out w1 HB1.out).mono ?_
      rintro e w2 ⟨a', n, c, rfl, hx, hb2⟩
      have HX := Lib.hid (hx (by trivial))
      clear hx
      go_wp2_with fail
      go_ret2
      obtain ⟨rfl, h2, h3⟩ := HX.out
      rw [HE.out]
      exact ⟨a', c, rfl, h2, h3, HB1.out.trans (hb2.mono HB1.out.size)⟩
  · have HE : Hid (X.namesE s = ([], X.statesE s)) := Lib.hid (by unfold X.namesE; rw [if_neg h])
    have hn := ne_bool h
    clear h hf ha
    go_enter Tryz.func24, Tryz.ntmps24
    go_wp2_with fail
    refine HC.out.mono ?_
    rintro e w1 ⟨rfl, hb1⟩
    go_wp2_with fail
    go_ret2
    rw [HE.out]
    exact ⟨none, 0, rfl, Strs.nil _ _, by simp, hb1⟩
theorem names_rises {s : List X.St} : X.Rises (X.namesE s).1 := by
  unfold X.namesE
  split
  · rename_i h
    have hA := X.statesE_iff.1 h
    split
    · exact List.Pairwise.nil
    · exact X.reads_rises hA _ 0 hA.n1 (Nat.le_refl _)
  · exact List.Pairwise.nil
theorem names_len {s : List X.St} : (X.namesE s).1.length ≤ 30 := by
  unfold X.namesE
  split
  · split
    · simp
    · rename_i h
      have h : X.overB s = false := by simpa using h
      unfold X.overB at h
      simp only [Bool.or_eq_false_iff, decide_eq_false_iff_not] at h
      have := h.1.1
      simp only; omega
  · simp
set_option maxRecDepth 20000 in
set_option maxHeartbeats 1000000 in
theorem numberP_any (a : Option Addr) (cap : Nat) (s : List X.St) (x : X.W) (w : World) (hl : s.length ≤ 1000000) (hf : Few s) (hx : x.length ≤ 140737488355328) (ha : Sts w a s) :
    Calls Tryz.prog 26 #[.slice a s.length cap, sv x] w fun e w' => e = .returned (.tuple #[.int .i64 (X.numberE s x).1, .int .i64 (X.numberE s x).2]) ∧ Below w.heap.size w w' := by
  have HN := Lib.hid (namesP_any a cap s w hl hf ha)
  have HRi := Lib.hid (names_rises (s := s))
  have HLe := names_len (s := s)
  have HW := Lib.hid (fun (W : World) h => checkWord_any (some ⟨W.heap.size, 0, none⟩) 1 [x] (W.alloc (.cells #[sv x] 9)) (by simp) (fun t ht => by rw [List.mem_singleton.1 ht]; exact hx) h)
  have HWe : Hid (X.wordsE [x] = X.wordE x) := Lib.hid (by unfold X.wordsE X.wordsE; split <;> simp_all)
  clear hf ha hx
  by_cases h1 : (X.namesE s).2 = 0
  case neg =>
    have HE : Hid (X.numberE s x = (0, (X.namesE s).2)) := Lib.hid (by unfold X.numberE; rw [if_pos h1])
    have hn := ne_bool h1
    clear h1
    go_enter Tryz.func26, Tryz.ntmps26
    go_wp2_with fail
    refine HN.out.mono ?_
    rintro e w1 ⟨a', c', rfl, -, -, hb1⟩
    go_wp2_with fail
    go_ret2
    rw [HE.out]
    exact ⟨rfl, hb1⟩
  have HE0 : Hid (X.numberE s x = if X.wordE x ≠ 0 then ((0 : Int), X.wordE x) else if x ∈ (X.namesE s).1 then ((((X.namesE s).1.idxOf x : Nat) : Int), (0 : Int)) else ((0 : Int), (5 : Int))) := Lib.hid (by unfold X.numberE; rw [if_neg (by simpa using h1)])
  have HN1 : Hid (Calls Tryz.prog 24 #[.slice a s.length cap] w fun e w' => OutSE w w' e ((X.namesE s).1, 0)) := Lib.hid (by have := HN.out; rw [← h1]; exact this)
  clear HN h1
  generalize (X.namesE s).1 = R at *
  by_cases h2 : X.wordE x = 0
  case neg =>
    have HE : Hid (X.numberE s x = (0, X.wordE x)) := Lib.hid (by rw [HE0.out, if_pos h2])
    rw [HWe.out] at HW
    have hn := ne_bool h2
    clear h2
    go_enter Tryz.func26, Tryz.ntmps26
    go_wp2_with fail
    refine HN1.out.mono ?_
    rintro e w1 ⟨a', c', rfl, -, -, hb1⟩
    have HB1 := Lib.hid hb1
    have HWw := Lib.hid (HW.out w1 (fun i hi => ⟨w1.heap.size, 0, rfl, by
      have : i = 0 := by simpa using hi
      subst this; simp [wat]⟩))
    clear hb1
    go_wp2_with fail
    refine HWw.out.mono ?_
    rintro e w2 ⟨rfl, hb2⟩
    go_wp2_with fail
    go_ret2
    rw [HE.out]
    exact ⟨rfl, (HB1.out.alloc HB1.out.size _).trans (hb2.mono (by have := HB1.out.size; simp; omega))⟩
  rw [HWe.out, h2] at HW
  rw [if_neg (not_not_intro h2)] at HE0
  clear h2
  obtain ⟨k, hk, hd, hi⟩ := search_spec HRi.out x
  have HK := Lib.hid hk
  have HIx := Lib.hid hi
  have HD := Lib.hid hd
  have HBs : Hid (∀ W a' c', Strs W a' R → Calls Tryz.prog 69 #[.slice a' R.length c', sv x] W fun e W' => e = .returned (.tuple #[.int .i64 (k : Int), .bool (decide (x ∈ R))]) ∧ Below W.heap.size W W') := Lib.hid (fun W a' c' hS => by
    cases hR : R with
    | nil =>
      subst hR
      refine (lay_slices_BinarySearch_none a' c' (bs x) W).mono ?_
      rintro e W' ⟨rfl, rfl⟩
      have hk0 : k = 0 := by rw [← hk]; rfl
      subst hk0
      exact ⟨by simp, Below.refl _ _⟩
    | cons y r =>
      have hpos : 0 < R.length := by rw [hR]; simp
      obtain ⟨b0, off0, rfl, -⟩ := hS 0 hpos
      rw [← hR]
      refine (lay_slices_BinarySearch b0 off0 R.length c' (SxOf R x) (bs x) W (by omega) (fun j hj => by unfold SxOf; rw [if_pos hj]; exact hS.cellAt j hj)).mono ?_
      rintro e W' ⟨rfl, q, rfl⟩
      rw [hk, hd]
      exact ⟨rfl, Drew.below ⟨q, rfl⟩ _⟩)
  clear hk hd hi HK HRi
  by_cases hm : x ∈ R
  · have HE : Hid (X.numberE s x = ((k : Int), 0)) := Lib.hid (by rw [HE0.out, if_pos hm, HIx.out hm])
    rw [decide_eq_true hm] at HBs
    clear hm HE0 HIx HD
    go_enter Tryz.func26, Tryz.ntmps26
    go_wp2_with fail
    refine HN1.out.mono ?_
    rintro e w1 ⟨a', c', rfl, hs1, -, hb1⟩
    have HB1 := Lib.hid hb1
    have HS1 := Lib.hid hs1
    have HWw := Lib.hid (HW.out w1 (fun i hi => ⟨w1.heap.size, 0, rfl, by
      have : i = 0 := by simpa using hi
      subst this; simp [wat]⟩))
    clear hb1 hs1
    go_wp2_with fail
    refine HWw.out.mono ?_
    rintro e w2 ⟨rfl, hb2⟩
    have HB2 : Hid (Below w.heap.size w w2) := Lib.hid ((HB1.out.alloc HB1.out.size _).trans (hb2.mono (by have := HB1.out.size; simp; omega)))
    have HS2 := Lib.hid ((HS1.out.alloc _).below hb2)
    clear hb2
    go_wp2_with fail
    refine (HBs.out w2 a' c' HS2.out).mono ?_
    rintro e w3 ⟨rfl, hb3⟩
    go_wp2_with fail
    go_ret2
    rw [HE.out]
    exact ⟨rfl, HB2.out.trans (hb3.mono HB2.out.size)⟩
  · have HE : Hid (X.numberE s x = (0, 5)) := Lib.hid (by rw [HE0.out, if_neg hm])
    rw [decide_eq_false hm] at HBs
    clear hm HE0 HIx HD
    go_enter Tryz.func26, Tryz.ntmps26
    go_wp2_with fail
    refine HN1.out.mono ?_
    rintro e w1 ⟨a', c', rfl, hs1, -, hb1⟩
    have HB1 := Lib.hid hb1
    have HS1 := Lib.hid hs1
    have HWw := Lib.hid (HW.out w1 (fun i hi => ⟨w1.heap.size, 0, rfl, by
      have : i = 0 := by simpa using hi
      subst this; simp [wat]⟩))
    clear hb1 hs1
    go_wp2_with fail
    refine HWw.out.mono ?_
    rintro e w2 ⟨rfl, hb2⟩
    have HB2 : Hid (Below w.heap.size w w2) := Lib.hid ((HB1.out.alloc HB1.out.size _).trans (hb2.mono (by have := HB1.out.size; simp; omega)))
    have HS2 := Lib.hid ((HS1.out.alloc _).below hb2)
    clear hb2
    go_wp2_with fail
    refine (HBs.out w2 a' c' HS2.out).mono ?_
    rintro e w3 ⟨rfl, hb3⟩
    go_wp2_with fail
    go_ret2
    rw [HE.out]
    exact ⟨rfl, HB2.out.trans (hb3.mono HB2.out.size)⟩
set_option maxRecDepth 20000 in
set_option maxHeartbeats 1000000 in
theorem nameP_any (a : Option Addr) (cap : Nat) (s : List X.St) (n : Int) (w : World) (hl : s.length ≤ 1000000) (hf : Few s) (ha : Sts w a s) :
    Calls Tryz.prog 28 #[.slice a s.length cap, .int .i64 n] w fun e w' => OutWE w w' e (X.nameE s n) := by
  have HN := Lib.hid (namesP_any a cap s w hl hf ha)
  have HLe := names_len (s := s)
  clear hf ha
  by_cases h1 : (X.namesE s).2 = 0
  case neg =>
    have HE : Hid (X.nameE s n = ([], (X.namesE s).2)) := Lib.hid (by unfold X.nameE; rw [if_pos h1])
    have hn := ne_bool h1
    clear h1
    go_enter Tryz.func28, Tryz.ntmps28
    go_wp2_with fail
    refine HN.out.mono ?_
    rintro e w1 ⟨a', c', rfl, -, -, hb1⟩
    go_wp2_with fail
    go_ret2
    rw [HE.out]
    exact ⟨rfl, hb1⟩
  have HE0 : Hid (X.nameE s n = if n < 0 ∨ ((X.namesE s).1.length : Int) ≤ n then ([], 3) else ((X.namesE s).1.getD n.toNat [], 0)) := Lib.hid (by unfold X.nameE; rw [if_neg (by simpa using h1)])
  have HN1 : Hid (Calls Tryz.prog 24 #[.slice a s.length cap] w fun e w' => OutSE w w' e ((X.namesE s).1, 0)) := Lib.hid (by have := HN.out; rw [← h1]; exact this)
  clear HN h1
  generalize (X.namesE s).1 = R at *
  have HWi := Lib.hid (fun (W : World) => within_one 0 ((R.length : Int) - 1) n (W.alloc (.cells #[.int .i64 n] 3)) W.heap.size (cell_new1 _ _ _))
  have kl : IntKind.i64.wrap ((R.length : Int) - 1) = (R.length : Int) - 1 := IntWalk.i64_in _ (by omega)
  by_cases hin : 0 ≤ n ∧ n ≤ (R.length : Int) - 1
  · obtain ⟨m, rfl⟩ := Int.eq_ofNat_of_zero_le hin.1
    have hm : m < R.length := by omega
    have hmI : (m : Int) < (R.length : Int) := by omega
    have hm0 : (0 : Int) ≤ (m : Int) := by omega
    have HE : Hid (X.nameE s (m : Int) = (wat R m, 0)) := Lib.hid (by rw [HE0.out, if_neg (by omega)]; rfl)
    rw [decide_eq_true hin] at HWi
    clear HE0 hin
    go_enter Tryz.func28, Tryz.ntmps28
    go_wp2_with fail
    refine HN1.out.mono ?_
    rintro e w1 ⟨a', c', rfl, hs1, -, hb1⟩
    have HB1 := Lib.hid hb1
    have HS1 := Lib.hid hs1
    have HWw := Lib.hid (HWi.out w1)
    clear hb1 hs1
    go_wp2_with fail
    refine HWw.out.mono ?_
    rintro e w2 ⟨rfl, hb2⟩
    have HB2 : Hid (Below w.heap.size w w2) := Lib.hid ((HB1.out.alloc HB1.out.size _).trans (hb2.mono (by have := HB1.out.size; simp; omega)))
    obtain ⟨b, off, rfl, c1⟩ := ((HS1.out.alloc _).below hb2) m hm
    clear hb2
    go_wp2_with fail
    go_ret2
    rw [HE.out]
    exact ⟨rfl, HB2.out⟩
  · have HE : Hid (X.nameE s n = ([], 3)) := Lib.hid (by rw [HE0.out, if_pos (by omega)])
    rw [decide_eq_false hin] at HWi
    clear HE0 hin
    go_enter Tryz.func28, Tryz.ntmps28
    go_wp2_with fail
    refine HN1.out.mono ?_
    rintro e w1 ⟨a', c', rfl, hs1, -, hb1⟩
    have HB1 := Lib.hid hb1
    have HWw := Lib.hid (HWi.out w1)
    clear hb1 hs1
    go_wp2_with fail
    refine HWw.out.mono ?_
    rintro e w2 ⟨rfl, hb2⟩
    have HB2 : Hid (Below w.heap.size w w2) := Lib.hid ((HB1.out.alloc HB1.out.size _).trans (hb2.mono (by have := HB1.out.size; simp; omega)))
    clear hb2
    go_wp2_with fail
    go_ret2
    rw [HE.out]
    exact ⟨rfl, HB2.out⟩
end Go.Proofs.YtcjbnifafofpbaaGreatDoor
