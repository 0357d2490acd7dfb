/- One text of ComH, ComI. -/
import Derived.Test.YtcjbnifafofpbaaGreatDoorJ10
import Derived.RangeFuncLeaves
import Derived.Shelf.RegionOpen
import Derived.TacticsInMore
import Derived.LoopNIn
import Derived.LoopIn
import Derived.Lib.QuietBelow
import Derived.Laws.EntriesVeiled
/- Walks of the program's functions: endings, form, longest. -/
namespace Go.Proofs.YtcjbnifafofpbaaGreatDoor
open Go.RowKit Go.Lib Go.Sort
attribute [local go_sem] Oper.semAt_some
/-- An ending of a word. -/
abbrev Ew (l : List X.W) (u : X.W) : Type := {e : X.W // e ∈ X.ends l u}
def raw {l : List X.W} {u : X.W} (pre : List (Ew l u)) : List X.W := pre.map (fun y => y.1)
theorem raw_snoc {l : List X.W} {u : X.W} (pre : List (Ew l u)) (x : Ew l u) : raw (pre ++ [x]) = raw pre ++ [x.1] := by simp [raw]
theorem raw_len {l : List X.W} {u : X.W} (pre : List (Ew l u)) : (raw pre).length = pre.length := by simp [raw]
theorem raw_mem {l : List X.W} {u : X.W} {pre : List (Ew l u)} {e : X.W} (h : e ∈ raw pre) : e ∈ X.ends l u := by
  unfold raw at h; obtain ⟨y, -, rfl⟩ := List.mem_map.1 h; exact y.2
theorem ends_more {l : List X.W} {u : X.W} {j : Nat} (h : j < l.length) : X.ends (l.take (j + 1)) u = X.ends (l.take j) u ++ if u.isPrefixOf (wat l j) then [(wat l j).drop u.length] else [] := by
  unfold X.ends
  rw [take_succ_wat l j h, List.filter_append, List.map_append]
  congr 1
  cases hp : u.isPrefixOf (wat l j) <;> simp [hp]
theorem ends_le {l : List X.W} {u : X.W} (j : Nat) : (X.ends (l.take j) u).length ≤ (X.ends l u).length := by
  unfold X.ends
  rw [List.length_map, List.length_map]
  exact ((List.take_sublist j l).filter _).length_le
theorem pre_mem {l : List X.W} {u : X.W} {j : Nat} (h : j < l.length) (hp : u.isPrefixOf (wat l j) = true) : (wat l j).drop u.length ∈ X.ends l u := by
  unfold X.ends
  exact List.mem_map.2 ⟨wat l j, List.mem_filter.2 ⟨wat_mem h, hp⟩, rfl⟩
/-- What the iterator reads. -/
structure EF (Bx By : Nat) (a : Option Addr) (cap : Nat) (l : List X.W) (u : X.W) (W : World) : Prop where
  x : W.cell? ⟨Bx, 0, none⟩ = some (.slice a l.length cap)
  y : W.cell? ⟨By, 0, none⟩ = some (sv u)
  s : Strs W a l
theorem EF.below {Bx By : Nat} {a : Option Addr} {cap : Nat} {l : List X.W} {u : X.W} {W W' : World} (h : EF Bx By a cap l u W) (hb : RowKit.Below W.heap.size W W') : EF Bx By a cap l u W' := ⟨cell_on hb h.x, cell_on hb h.y, h.s.below hb⟩
theorem EF.put {Bx By : Nat} {a : Option Addr} {cap : Nat} {l : List X.W} {u : X.W} {W : World} (h : EF Bx By a cap l u W) {k : Nat} {o : Obj} (o' : Obj) (hk : W.heap[k]? = some o) (ho : o.isCells = false) : EF Bx By a cap l u (W.putObj k o') := by
  have hc : ∀ {p : Addr} {v : Value}, W.cell? p = some v → (W.putObj k o').cell? p = some v := fun hp => cell_kept hp (grownBy_putObj' W k o') (fun r e => by cases e; exact ⟨_, hk, ho⟩)
  exact ⟨hc h.x, hc h.y, fun i hi => by obtain ⟨b, off, e, c⟩ := h.s i hi; exact ⟨b, off, e, hc c⟩⟩
theorem EF.aside {Bx By : Nat} {a : Option Addr} {cap : Nat} {l : List X.W} {u : X.W} {W : World} (h : EF Bx By a cap l u W) (c o : Nat) (v : Value) (hx : c ≠ Bx) (hy : c ≠ By) (hab : ∀ b off, a = some ⟨b, off, none⟩ → 0 < l.length → c ≠ b) : EF Bx By a cap l u (W.setCell ⟨c, o, none⟩ v) := by
  have hc : ∀ {p : Addr} {u : Value}, c ≠ p.block → W.cell? p = some u → (W.setCell ⟨c, o, none⟩ v).cell? p = some u := fun hne hp => (World.cell?_of_block ((grownBy_setCell W c o v).block _ (World.block_lt_of_cell? W _ hp) (fun e => hne (by injection e with e; exact e.symm)))).trans hp
  exact ⟨hc hx h.x, hc hy h.y, fun i hi => by obtain ⟨b, off, e, c1⟩ := h.s i hi; exact ⟨b, off, e, hc (hab b off e (by omega)) c1⟩⟩
abbrev KpE (Bx By : Nat) (a : Option Addr) (cap : Nat) (l : List X.W) (u : X.W) (W W' : World) : Prop := EF Bx By a cap l u W → EF Bx By a cap l u W'
set_option maxRecDepth 20000 in
set_option maxHeartbeats 2000000 in
theorem ends_core (n : Nat) (hn : 1 ≤ n) (Bx By : Nat) (a : Option Addr) (cap : Nat) (l : List X.W) (u : X.W) (w : World) (hl : l.length ≤ 1000000) (he : EF Bx By a cap l u w) (ll : Nat) (J Jx : List (Ew l u) → World → Prop) (W : World) (hW : RowKit.Below w.heap.size w W)
    (hY : ∀ pre x W1, J pre W1 → pre.length < (X.ends l u).length → YieldAt Fence.wide (n - 1) Tryz.prog ll #[sv x.1] W1 fun e W' => (e = .returned (.bool true) ∧ J (pre ++ [x]) W' ∧ KpE Bx By a cap l u W1 W') ∨ (e = .returned (.bool false) ∧ Jx (pre ++ [x]) W')) (h0 : J [] W) :
    CallsIn Fence.wide n Tryz.prog 124 (#[.func (.yield ll) #[] #[]] ++ #[.pointer (some ⟨Bx, 0, none⟩), .pointer (some ⟨By, 0, none⟩)]) W fun e W' => (∃ v, e = .returned v) ∧ ((∃ xs, raw xs = X.ends l u ∧ J xs W') ∨ (∃ pre, True ∧ Jx pre W')) := by
  have HF := Lib.hid (he.below hW)
  have HY := Lib.hid hY
  clear he hY hW
  show CallsIn Fence.wide n Tryz.prog 124 #[.func (.yield ll) #[] #[], .pointer (some ⟨Bx, 0, none⟩), .pointer (some ⟨By, 0, none⟩)] W _
  refine callsIn_of_wp Tryz.func124 rfl trivial ?_ rfl
  simp only [Tryz.ntmps124, List.size_toArray, List.length_cons, List.length_nil, Nat.reduceAdd, Nat.reduceSub, Array.replicate_succ, Array.replicate_zero, List.push_toArray, List.append_toArray, List.nil_append, List.cons_append]
  have c1 := HF.out.x
  gi_wp2
  clear c1
  gi_loopw [5, 6, 7, 11] (fun _ _ _ i wr => ∃ (j : Nat) (pre : List (Ew l u)), i = .int .i64 j ∧ j ≤ l.length ∧ Hid (J pre wr) ∧ Hid (EF Bx By a cap l u wr) ∧ Hid (raw pre = X.ends (l.take j) u)) (fun _ _ _ i _ => l.length - (RowKit.intOf i).toNat)
  case atStart => exact ⟨0, [], rfl, by omega, Lib.hid h0, HF, Lib.hid rfl⟩
  case round =>
    obtain ⟨j, pre, rfl, hj, HJ, HB, HP⟩ := hrel
    by_cases hlt : j < l.length
    · have hltI : (j : Int) < (l.length : Int) := by omega
      obtain ⟨b, off, rfl, c1⟩ := HB.out.s j hlt
      have c2 := HB.out.y
      have hm := ends_more (u := u) hlt
      have hcp := fun W => lay_strings_CutPrefix (bs (wat l j)) (bs u) W
      rw [show (bs (wat l j)).data.toList = wat l j from bs_list _, show (bs u).data.toList = u from bs_list _] at hcp
      have hmem := pre_mem (u := u) hlt
      unfold Lib.trimPrefix Lib.hasPrefix at hcp
      have hpl : pre.length = (X.ends (l.take j) u).length := by rw [← HP.out, raw_len]
      have hle := ends_le (l := l) (u := u) (j + 1)
      generalize hxx : wat l j = x at *
      clear hxx
      cases hp : u.isPrefixOf x with
      | true =>
        rw [hp, if_pos rfl] at hcp hm
        have HP2 : Hid (pre.length < (X.ends l u).length) := Lib.hid (by rw [hpl]; rw [hm, List.length_append, List.length_singleton] at hle; omega)
        have HM2 := Lib.hid (hmem hp)
        generalize x.drop u.length = rest at *
        obtain ⟨fn, tmps, assign, body, hy, hR⟩ := HY.out pre ⟨rest, HM2.out⟩ wr HJ.out HP2.out
        dsimp only at hy
        have HRd := Lib.hid hR
        have HC := Lib.hid hcp
        have HM := Lib.hid hm
        clear hR hcp hm hmem hpl hle hp HP2
        gi_wp2
        refine ⟨trivial, callsIn_wide.2 ((HC.out _).mono ?_)⟩
        rintro e w3 ⟨rfl, rfl⟩
        gi_wp2
        refine HRd.out.mono ?_
        rintro e W3 (⟨rfl, hJ3, hk3⟩ | ⟨rfl, hJx3⟩)
        · have HB3 := Lib.hid (hk3 HB.out)
          have HJ3 := Lib.hid hJ3
          clear hk3 hJ3 c1 c2 hy
          gi_wp2
          go_roundw
          case rel => exact ⟨j + 1, pre ++ [⟨rest, HM2.out⟩], by go_num, by omega, HJ3, HB3, Lib.hid (by rw [raw_snoc, HP.out, HM.out])⟩
          case measure => simp [RowKit.intOf]; omega
        · gi_wp2
          refine bodyPost_ret (results_none rfl _ _ _) rfl ?_
          exact ⟨⟨_, rfl⟩, .inr ⟨_, trivial, hJx3⟩⟩
      | false =>
        rw [hp, if_neg (by simp)] at hcp hm
        rw [List.append_nil] at hm
        have HC := Lib.hid hcp
        have HM := Lib.hid hm
        clear hcp hm hmem hpl hle hp
        gi_wp2
        refine ⟨trivial, callsIn_wide.2 ((HC.out _).mono ?_)⟩
        rintro e w3 ⟨rfl, rfl⟩
        gi_wp2
        refine ⟨fun _ h => (by cases h), ?_⟩
        gi_wp2
        go_roundw
        case rel => exact ⟨j + 1, pre, by go_num, by omega, HJ, HB, Lib.hid (by rw [HP.out, HM.out])⟩
        case measure => simp [RowKit.intOf]; omega
    · have hltI : ¬ (j : Int) < (l.length : Int) := by omega
      have e : l.take j = l := List.take_of_length_le (by omega)
      rw [e] at HP
      gi_wp2
      go_end0
      exact ⟨⟨_, rfl⟩, .inl ⟨pre, HP.out, HJ.out⟩⟩
theorem ends_seq (n : Nat) (hn : 1 ≤ n) (Bx By : Nat) (a : Option Addr) (cap : Nat) (l : List X.W) (u : X.W) (w : World) (hl : l.length ≤ 1000000) (he : EF Bx By a cap l u w) :
    SeqStopsK Fence.wide n Tryz.prog 124 #[.pointer (some ⟨Bx, 0, none⟩), .pointer (some ⟨By, 0, none⟩)] (fun x : Ew l u => #[sv x.1]) (KpE Bx By a cap l u) (fun xs => raw xs = X.ends l u) (fun _ => True) (X.ends l u).length w :=
  fun ll J Jx W hW _ _ hY h0 => ends_core n hn Bx By a cap l u w hl he ll J Jx W hW hY h0
theorem ends_plain (n : Nat) (hn : 1 ≤ n) (Bx By : Nat) (a : Option Addr) (cap : Nat) (l : List X.W) (u : X.W) (w : World) (hl : l.length ≤ 1000000) (he : EF Bx By a cap l u w) :
    SeqPlain Fence.wide n Tryz.prog 124 #[.pointer (some ⟨Bx, 0, none⟩), .pointer (some ⟨By, 0, none⟩)] (fun x : Ew l u => #[sv x.1]) (KpE Bx By a cap l u) (fun xs => raw xs = X.ends l u) (X.ends l u).length w := fun ll J W hW hY h0 => by
  refine (ends_core n hn Bx By a cap l u w hl he ll J (fun _ _ => False) W hW (fun pre x W1 hj hlt => ?_) h0).mono ?_
  · obtain ⟨fn, tmps, assign, body, hy, hR⟩ := hY pre x W1 hj hlt
    exact ⟨fn, tmps, assign, body, hy, hR.mono (fun e W' h => .inl h)⟩
  · rintro e W' ⟨hv, h | ⟨_, _, h⟩⟩
    · exact ⟨hv, h⟩
    · exact h.elim
theorem endingsP_any (a : Option Addr) (cap : Nat) (l : List X.W) (u : X.W) (w : World) : Calls Tryz.prog 103 #[.agg #[.slice a l.length cap], sv u] w fun e w' => e = .returned (.func (.func 124) #[] #[.pointer (some ⟨w.heap.size, 0, none⟩), .pointer (some ⟨w.heap.size + 1, 0, none⟩)]) ∧ w' = (w.alloc (.cells #[.slice a l.length cap] 87)).alloc (.cells #[sv u] 9) := by
  go_enter Tryz.func103, Tryz.ntmps103
  go_wp2_with fail
  go_ret
  exact ⟨rfl, rfl⟩
theorem EF.new {a : Option Addr} {cap : Nat} {l : List X.W} {u : X.W} {w : World} (h : Strs w a l) : EF w.heap.size (w.heap.size + 1) a cap l u ((w.alloc (.cells #[.slice a l.length cap] 87)).alloc (.cells #[sv u] 9)) := by
  refine ⟨cell_on (Below.new _ _) (cell_new1 _ _ _), ?_, (h.alloc _).alloc _⟩
  have := cell_new1 (w.alloc (.cells #[.slice a l.length cap] 87)) (sv u) 9
  rw [World.size_alloc] at this; exact this
theorem cat_snoc (p : List X.W) (e : X.W) : X.cat (p ++ [e]) = X.cat p ++ (e ++ [59]) := by unfold X.cat; simp
theorem cat_len {p : List X.W} (h : ∀ e ∈ p, e.length ≤ 1000) : (X.cat p).length ≤ p.length * 1001 := by
  induction p with
  | nil => simp [X.cat]
  | cons e p ih =>
    have h1 := ih (fun x hx => h x (List.mem_cons_of_mem _ hx))
    have h2 := h e (by simp)
    unfold X.cat at *
    rw [List.flatMap_cons, List.length_append, List.length_append]
    simp only [List.length_cons, List.length_nil]
    omega
set_option maxRecDepth 20000 in
set_option maxHeartbeats 2000000 in
theorem form_any (a : Option Addr) (cap : Nat) (l : List X.W) (u : X.W) (w : World) (hl : l.length ≤ 1000) (hr : ∀ s ∈ l, s.length ≤ 1000) (hs : Strs w a l) :
    Calls Tryz.prog 78 #[.agg #[.slice a l.length cap], sv u] w fun e w' => e = .returned (.string ⟨(X.cat (X.ends l u)).toArray⟩) ∧ RowKit.Below w.heap.size w w' := by
  have HS := Lib.hid hs
  have hb1 := (Below.new w (.cells #[.slice a l.length cap] 87)).alloc (by simp) (.cells #[sv []] 9)
  have HB1 := Lib.hid hb1
  have HBx := Lib.hid (Boxed.new (w.alloc (.cells #[.slice a l.length cap] 87)) 9 (sv []))
  have x1 := cell_on (Below.new (w.alloc (.cells #[.slice a l.length cap] 87)) (.cells #[sv []] 9)) (cell_new1 w (.slice a l.length cap) 87)
  clear hs hb1
  refine (callsIn_wide (n := 3)).1 ?_
  refine callsIn_of_wp_marks Tryz.func78 rfl trivial ?_ rfl
  simp only [Tryz.ntmps78, List.size_toArray, List.length_cons, List.length_nil, Nat.reduceAdd, Nat.reduceSub, Array.replicate_succ, Array.replicate_zero, List.push_toArray, List.append_toArray, List.nil_append, List.cons_append]
  refine wpIn_wide.2 ?_
  go_wp2_with fail
  refine (endingsP_any a cap l u _).mono ?_
  rintro e w2 ⟨rfl, hw2⟩
  have hEF : EF (w.heap.size + 1 + 1) (w.heap.size + 1 + 1 + 1) a cap l u w2 := by
    rw [hw2]
    have := EF.new (cap := cap) (u := u) (w := (w.alloc (.cells #[.slice a l.length cap] 87)).alloc (.cells #[sv []] 9)) ((HS.out.alloc _).alloc _)
    rw [World.size_alloc, World.size_alloc] at this; exact this
  have hb2 : RowKit.Below ((w.alloc (.cells #[.slice a l.length cap] 87)).alloc (.cells #[sv []] 9)).heap.size ((w.alloc (.cells #[.slice a l.length cap] 87)).alloc (.cells #[sv []] 9)) w2 := by rw [hw2]; exact (Below.new _ _).alloc (by simp) _
  have HB2 : Hid (RowKit.Below w.heap.size w w2) := Lib.hid (HB1.out.trans (hb2.mono HB1.out.size))
  have hbx : Boxed w2 (w.heap.size + 1) 9 (sv []) := by have := Boxed.on HBx.out hb2; rw [World.size_alloc] at this; exact this
  have HBx2 := Lib.hid hbx
  have hs2 : w2.heap.size = w.heap.size + 1 + 1 + 1 + 1 := by rw [hw2]; simp
  have HEF := Lib.hid hEF
  have HSz := Lib.hid hs2
  have HAb : Hid (∀ b off, a = some ⟨b, off, none⟩ → 0 < l.length → b < w.heap.size) := Lib.hid (fun b off e h => by
    obtain ⟨b', off', e', c⟩ := HS.out 0 h
    rw [e] at e'; cases e'
    exact World.block_lt_of_cell? w _ c)
  have HLen : Hid (∀ e ∈ X.ends l u, e.length ≤ 1000) := Lib.hid (fun e he => by
    have := hr _ (X.mem_ends.1 he)
    rw [List.length_append] at this; omega)
  have HN : Hid ((X.ends l u).length ≤ 1000) := Lib.hid (Nat.le_trans (ends_len_le l u) hl)
  clear hw2 hEF hb2 hbx hs2 x1 HBx HB1 hr
  go_wp2_with fail
  refine (wpIn_wide (n := 3)).1 ?_
  refine wpIn_rangeFunc_ownF (F := Fence.wide) (n := 3) rfl (by omega) (gf := 124) (lb := #[.pointer (some ⟨w.heap.size + 1 + 1, 0, none⟩), .pointer (some ⟨w.heap.size + 1 + 1 + 1, 0, none⟩)]) rfl trivial (enters_of Tryz.func124 (by kernel_rfl) rfl)
    (ends_seq 2 (by omega) (w.heap.size + 1 + 1) (w.heap.size + 1 + 1 + 1) a cap l u w2 (by omega) HEF.out) (fun h k x => k (h x)) (fun W k o o' _ hk ho _ he => he.put o' hk ho) (Below.refl _ _) (fun _ => rfl)
    (fun pre W => Boxed W (w.heap.size + 1) 9 (sv (X.cat (raw pre))) ∧ RowKit.Below w.heap.size w W)
    (fun _ _ _ => False) ?hI (fun c s X Y row h hg hr => h) ⟨HBx2.out, HB2.out⟩
    (fun x => { tmps := #[.agg #[.slice a l.length cap], sv u, .pointer (some ⟨w.heap.size, 0, none⟩), undef, .string ⟨#[]⟩, .pointer (some ⟨w.heap.size + 1, 0, none⟩), sv x.1, .agg #[.slice a l.length cap], sv u, .func (.func 124) #[] #[.pointer (some ⟨w.heap.size + 1 + 1, 0, none⟩), .pointer (some ⟨w.heap.size + 1 + 1 + 1, 0, none⟩)], sv x.1, undef, undef, undef, undef, undef], defers := [] })
    ?assign ?body ?done ?stop
  case hI =>
    exact fun s X Y row h hg hr => ⟨h.1.kept hg (fun e => by
      obtain ⟨-, o, ho, hc⟩ := hr _ e.symm
      rw [show X.heap[w.heap.size + 1]? = _ from h.1] at ho; cases ho; cases hc), h.2.grown hg h.2.size (fun k e => by have := (hr k e).1; have := HSz.out; omega)⟩
  case assign =>
    intro ll x W K hK
    gi_wp2
    exact hK
  case body =>
    rintro ll pre x W ⟨hbx, hbel⟩ hlen
    have hx := HLen.out _ x.2
    have hcl : (X.cat (raw pre)).length ≤ 1001000 := by
      have h1 := cat_len (p := raw pre) (fun e he => HLen.out _ (raw_mem he))
      rw [raw_len] at h1
      have := HN.out
      omega
    have c1 := hbx.cell
    have c2 := hbx.frozen
    have hcat : X.cat (raw (pre ++ [x])) = X.cat (raw pre) ++ (x.1 ++ [59]) := by rw [raw_snoc]; exact cat_snoc _ _
    have hadd1 : (ByteArray.mk x.1.toArray) ++ (ByteArray.mk #[59]) = ⟨(x.1 ++ [59]).toArray⟩ := ByteArray.mk_append_mk x.1 [59]
    have hadd2 : (ByteArray.mk (X.cat (raw pre)).toArray) ++ (ByteArray.mk (x.1 ++ [59]).toArray) = ⟨(X.cat (raw pre) ++ (x.1 ++ [59])).toArray⟩ := ByteArray.mk_append_mk _ _
    have hsz1 : ¬ 9223372036854775807 < x.1.length + 1 := by omega
    have hsz2 : ¬ 9223372036854775807 < (X.cat (raw pre)).length + (x.1.length + 1) := by omega
    have HCat := Lib.hid hcat
    have HBx := Lib.hid hbx
    have HBl := Lib.hid hbel
    obtain ⟨xe, hxe⟩ := x
    simp only at *
    clear hcat hbx hbel
    generalize X.cat (raw pre) = C at *
    gi_wp2
    exact ⟨KeepsOthers.setCell _ _ _, fun he => he.aside _ _ _ (by omega) (by omega) (fun b off e h => by have := HAb.out b off e h; omega), by rw [HCat.out]; exact Boxed.set _ HBx.out, HBl.out.setCell (p := ⟨w.heap.size + 1, 0, none⟩) (by show w.heap.size ≤ w.heap.size + 1; omega) _⟩
  case done =>
    rintro D xs W hD hS ⟨hbx, hbel⟩ hdf
    rw [hS] at hbx
    have c1 := hbx.cell
    have HBl := Lib.hid hbel
    have HDf := Lib.hid hdf
    have HD := Lib.hid hD
    clear hbx hbel hS
    go_wp2_with fail
    refine ⟨by simp, .inl ⟨_, _, rfl, run_takeDeferred HDf.out, ?_⟩⟩
    refine ⟨.string ⟨(X.cat (X.ends l u)).toArray⟩, by simp [results, Tryz.results78, go_sem], rfl, HBl.out.grown (grownBy_putObj' W D (.deferred none)) HBl.out.size (fun k e => by cases e; have := HD.out; have := HSz.out; omega)⟩
  case stop =>
    rintro D c pre W hD - h
    exact h.elim
end Go.Proofs.YtcjbnifafofpbaaGreatDoor
/- Walks of the program's functions: longest; Contains, cmp.Or, the comparisons. -/
namespace Go.Proofs.YtcjbnifafofpbaaGreatDoor
open Go.RowKit Go.Lib Go.Sort
attribute [local go_sem] Oper.semAt_some
theorem contains_any (a : Option Addr) (cap : Nat) (l : List X.W) (u : X.W) (w : World) (hl : l.length ≤ 1000000) (hs : Strs w a l) : Calls Tryz.prog 79 #[.slice a l.length cap, sv u] w fun e w' => e = .returned (.bool (decide (u ∈ l))) ∧ w = w' := by
  cases hL : l with
  | nil =>
    refine (lay_slices_Contains_none a cap (bs u) w).mono ?_
    rintro e w' ⟨rfl, rfl⟩
    exact ⟨rfl, rfl⟩
  | cons x r =>
    have hpos : 0 < l.length := by rw [hL]; simp
    obtain ⟨b, off, rfl, -⟩ := hs 0 hpos
    rw [← hL]
    refine (lay_slices_Contains b off l.length cap (l.map bs) (bs u) w (by simp) (by omega) (fun j hj => ?_)).mono ?_
    · have hj' : j < l.length := by simpa using hj
      rw [hs.cellAt j hj']
      simp [wat, hj']
    · rintro e w' ⟨rfl, rfl⟩
      refine ⟨ret_bool ?_, rfl⟩
      rw [Bool.eq_iff_iff, Lib.containsS_iff, decide_eq_true_iff, List.take_of_length_le (by simp), List.mem_map]
      constructor
      · rintro ⟨y, hy, e⟩; rw [← bs_inj e]; exact hy
      · intro h; exact ⟨u, h, rfl⟩
theorem longest_snoc (p : List X.W) (e : X.W) : ((X.longest (p ++ [e]) : Nat) : Int) = max ((X.longest p : Nat) : Int) ((e.length : Nat) : Int) := by
  rw [X.longest_app]
  have : X.longest [e] = e.length := by
    apply Nat.le_antisymm
    · exact X.longest_bd (fun w hw => by rw [List.mem_singleton.1 hw]; exact Nat.le_refl _)
    · exact X.longest_le (by simp)
  rw [this]; omega
set_option maxRecDepth 20000 in
set_option maxHeartbeats 2000000 in
theorem longestP_any (B : Nat) (a : Option Addr) (cap : Nat) (l : List X.W) (u : X.W) (w : World) (hl : l.length ≤ 1000) (hr : ∀ s ∈ l, s.length ≤ 1000) (hc : w.cell? ⟨B, 0, none⟩ = some (.slice a l.length cap)) (hs : Strs w a l) :
    Calls Tryz.prog 114 #[.pointer (some ⟨B, 0, none⟩), sv u] w fun e w' => e = .returned (.int .i64 (X.longest (X.ends l u) : Nat)) ∧ RowKit.Below w.heap.size w w' ∧ w'.drawn = w.drawn := by
  have HS := Lib.hid hs
  have hBl := World.block_lt_of_cell? w _ hc
  simp only at hBl
  have HB1 := Lib.hid (Below.new w (.cells #[.int .i64 0] 3))
  have HBx := Lib.hid (Boxed.new w 3 (.int .i64 0))
  clear hs
  refine (callsIn_wide (n := 3)).1 ?_
  refine callsIn_of_wp_marks Tryz.func114 rfl trivial ?_ rfl
  simp only [Tryz.ntmps114, List.size_toArray, List.length_cons, List.length_nil, Nat.reduceAdd, Nat.reduceSub, Array.replicate_succ, Array.replicate_zero, List.push_toArray, List.append_toArray, List.nil_append, List.cons_append]
  refine wpIn_wide.2 ?_
  go_wp2_with fail
  refine (endingsP_any a cap l u _).mono ?_
  rintro e w2 ⟨rfl, hw2⟩
  have hEF : EF (w.heap.size + 1) (w.heap.size + 1 + 1) a cap l u w2 := by
    rw [hw2]
    have := EF.new (cap := cap) (u := u) (w := w.alloc (.cells #[.int .i64 0] 3)) (HS.out.alloc _)
    rw [World.size_alloc] at this; exact this
  have hb2 : RowKit.Below (w.alloc (.cells #[.int .i64 0] 3)).heap.size (w.alloc (.cells #[.int .i64 0] 3)) w2 := by rw [hw2]; exact (Below.new _ _).alloc (by simp) _
  have HB2 : Hid (RowKit.Below w.heap.size w w2) := Lib.hid (HB1.out.trans (hb2.mono HB1.out.size))
  have HDr : Hid (w2.drawn = w.drawn) := Lib.hid (by rw [hw2]; rfl)
  have HBx2 : Hid (Boxed w2 w.heap.size 3 (.int .i64 0)) := Lib.hid (Boxed.on HBx.out hb2)
  have hs2 : w2.heap.size = w.heap.size + 1 + 1 + 1 := by rw [hw2]; simp
  have HEF := Lib.hid hEF
  have HSz := Lib.hid hs2
  have HAb : Hid (∀ b off, a = some ⟨b, off, none⟩ → 0 < l.length → b < w.heap.size) := Lib.hid (fun b off e h => by
    obtain ⟨b', off', e', c⟩ := HS.out 0 h
    rw [e] at e'; cases e'
    exact World.block_lt_of_cell? w _ c)
  have HLen : Hid (∀ e ∈ X.ends l u, e.length ≤ 1000) := Lib.hid (fun e he => by
    have := hr _ (X.mem_ends.1 he)
    rw [List.length_append] at this; omega)
  clear hw2 hEF hb2 hs2 HBx HB1 hr
  go_wp2_with fail
  refine (wpIn_wide (n := 3)).1 ?_
  refine wpIn_range_plain (F := Fence.wide) (n := 3) rfl (by omega) (gf := 124) (lb := #[.pointer (some ⟨w.heap.size + 1, 0, none⟩), .pointer (some ⟨w.heap.size + 1 + 1, 0, none⟩)]) rfl trivial (enters_of Tryz.func124 (by kernel_rfl) rfl)
    (ends_plain 2 (by omega) (w.heap.size + 1) (w.heap.size + 1 + 1) a cap l u w2 (by omega) HEF.out) (fun h k x => k (h x)) (fun W k o o' _ hk ho _ he => he.put o' hk ho) (Below.refl _ _) (fun _ => rfl)
    (fun pre W => Boxed W w.heap.size 3 (.int .i64 (X.longest (raw pre) : Nat)) ∧ RowKit.Below w.heap.size w W ∧ W.drawn = w.drawn)
    ?hIa ?hIp ⟨HBx2.out, HB2.out, HDr.out⟩
    (fun x => { tmps := #[.pointer (some ⟨B, 0, none⟩), sv u, undef, undef, .int .i64 0, .pointer (some ⟨w.heap.size, 0, none⟩), .func (.func 103) #[.agg #[.slice a l.length cap]] #[], sv x.1, .pointer (some ⟨B, 0, none⟩), .pointer (some ⟨B, 0, none⟩), .pointer (some ⟨B, 0, none⟩), .agg #[.slice a l.length cap], .func (.func 103) #[.agg #[.slice a l.length cap]] #[], .func (.func 103) #[.agg #[.slice a l.length cap]] #[], sv u, .func (.func 124) #[] #[.pointer (some ⟨w.heap.size + 1, 0, none⟩), .pointer (some ⟨w.heap.size + 1 + 1, 0, none⟩)], sv x.1, undef, undef, undef, undef, undef], defers := [] })
    ?assign ?body ?done
  case hIa => exact fun s W o h => ⟨h.1.alloc o, h.2.1.alloc h.2.1.size o, h.2.2⟩
  case hIp =>
    exact fun s W k o o' hk ho hc h => ⟨h.1.kept (grownBy_putObj' W k o') (fun e => by
      injection e with e; subst e
      rw [show W.heap[w.heap.size]? = _ from h.1] at ho; cases ho; cases hc), h.2.1.grown (grownBy_putObj' W k o') h.2.1.size (fun r e => by injection e with e; subst e; have := HSz.out; omega), h.2.2⟩
  case assign =>
    intro ll x W K hK
    gi_wp2
    exact hK
  case body =>
    rintro ll pre x W ⟨hbx, hbel, hdr⟩ hlen
    have hx := HLen.out _ x.2
    have c1 := hbx.cell
    have c2 := hbx.frozen
    have hmx : ((X.longest (raw (pre ++ [x])) : Nat) : Int) = max ((X.longest (raw pre) : Nat) : Int) ((x.1.length : Nat) : Int) := by rw [raw_snoc]; exact longest_snoc _ _
    have HMx := Lib.hid hmx
    have HBx := Lib.hid hbx
    have HBl := Lib.hid hbel
    have HDr := Lib.hid hdr
    obtain ⟨xe, hxe⟩ := x
    simp only at *
    clear hmx hbx hbel hdr
    generalize X.longest (raw pre) = C at *
    gi_wp2
    exact ⟨KeepsOthers.setCell _ _ _, fun he => he.aside _ _ _ (by omega) (by omega) (fun b off e h => by have := HAb.out b off e h; omega), by rw [HMx.out]; exact Boxed.set _ HBx.out, HBl.out.setCell (p := ⟨w.heap.size, 0, none⟩) (Nat.le_refl _) _, HDr.out⟩
  case done =>
    rintro D xs W hD hS ⟨hbx, hbel, hdr⟩ hdf
    rw [hS] at hbx
    have c1 := hbx.cell
    have HBl := Lib.hid hbel
    have HDf := Lib.hid hdf
    have HD := Lib.hid hD
    have HDr := Lib.hid hdr
    clear hbx hbel hS hdr
    go_wp2_with fail
    refine ⟨by simp, .inl ⟨_, _, rfl, run_takeDeferred HDf.out, ?_⟩⟩
    refine ⟨.int .i64 (X.longest (X.ends l u) : Nat), by simp [results, Tryz.results114, go_sem], rfl, HBl.out.grown (grownBy_putObj' W D (.deferred none)) HBl.out.size (fun k e => by cases e; have := HD.out; have := HSz.out; omega), HDr.out⟩
set_option maxRecDepth 20000 in
theorem or_any (b : Nat) (x y : Int) (w : World) (h1 : w.cell? ⟨b, 0, none⟩ = some (.int .i64 x)) (h2 : w.cell? ⟨b, 1, none⟩ = some (.int .i64 y)) : Calls Tryz.prog 106 #[.slice (some ⟨b, 0, none⟩) 2 2] w fun e w' => e = .returned (.int .i64 (if x ≠ 0 then x else y)) ∧ w = w' := by
  by_cases hx : x = 0
  · subst hx
    by_cases hy : y = 0
    · subst hy
      go_enter Tryz.func106, Tryz.ntmps106
      go_wp2_with fail
      go_loop [5, 8] (fun _ i => i = .int .i64 0 ∨ i = .int .i64 1 ∨ i = .int .i64 2) (fun _ i => 2 - (RowKit.intOf i).toNat)
      case atStart => exact .inl rfl
      case round =>
        rcases hrel with rfl | rfl | rfl
        · go_wp2_with fail
          go_round
          case rel => exact .inr (.inl rfl)
          case measure => simp [RowKit.intOf]
        · go_wp2_with fail
          go_round
          case rel => exact .inr (.inr rfl)
          case measure => simp [RowKit.intOf]
        · go_wp2_with fail
          go_ret
          exact ⟨rfl, rfl⟩
    · have hn := ne_bool hy
      go_enter Tryz.func106, Tryz.ntmps106
      go_wp2_with fail
      go_loop [5, 8] (fun _ i => i = .int .i64 0 ∨ i = .int .i64 1) (fun _ i => 2 - (RowKit.intOf i).toNat)
      case atStart => exact .inl rfl
      case round =>
        rcases hrel with rfl | rfl
        · go_wp2_with fail
          go_round
          case rel => exact .inr rfl
          case measure => simp [RowKit.intOf]
        · go_wp2_with fail
          go_ret
          exact ⟨rfl, rfl⟩
  · have hn := ne_bool hx
    rw [if_pos hx]
    go_enter Tryz.func106, Tryz.ntmps106
    go_wp2_with fail
    go_loop [5, 8] (fun _ i => i = .int .i64 0) (fun _ _ => 0)
    case atStart => rfl
    case round =>
      obtain rfl := hrel
      go_wp2_with fail
      go_ret
      exact ⟨rfl, rfl⟩
end Go.Proofs.YtcjbnifafofpbaaGreatDoor
