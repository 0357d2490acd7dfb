/- One text of Base, RefA, RefB, RefC, RefD, RefE, RefF. -/
import Derived.Test.YtcjbnifafofpbaaGreatDoorJ1
import Derived.Test.YtcjbnifafofpbaaGreatDoorRows
import Derived.WalkKit
import Derived.WalkSpells
import Derived.WalkLawsBesides
import Derived.Deep.QuietTactic
import Derived.BigQuiet
import Derived.Handy
import Derived.Lib.Hide
import Derived.Deep.RegionWith
import Derived.Deep.RegionHeld3
import Derived.Deep.LoopGhost
import Derived.StillTailTactics
import Derived.Deep.AppendLies
import Derived.Maps.AppendAt
import Derived.Outline
import Derived.Deep.Cut
/- Words for walks: what slices of integers, of words and of states read as, in whatever world. -/
namespace Go.Proofs.YtcjbnifafofpbaaGreatDoor
open Go.RowKit

/-- The element at an index; 0 beyond the end. -/
def nth (zs : List Int) (i : Nat) : Int := zs.getD i 0
theorem nth_eq (zs : List Int) (i : Nat) (h : i < zs.length) : nth zs i = zs[i] := by simp [nth, h]
theorem nth_append_left (xs ys : List Int) (i : Nat) (h : i < xs.length) : nth (xs ++ ys) i = nth xs i := by
  unfold nth; simp [List.getD, List.getElem?_append_left h]
theorem take_succ_nth (zs : List Int) (i : Nat) (h : i < zs.length) : zs.take (i + 1) = zs.take i ++ [nth zs i] := by
  rw [List.take_succ_eq_append_getElem h, nth_eq zs i h]

/-- A slice at the address a reads, from its first cell on, as integers of a kind. -/
def Ints (k : IntKind) (w : World) (a : Option Addr) (zs : List Int) : Prop :=
  ∀ i, i < zs.length → ∃ b off, a = some ⟨b, off, none⟩ ∧ w.cell? ⟨b, off + i, none⟩ = some (.int k (nth zs i))

theorem Ints.nil (k : IntKind) (w : World) (a : Option Addr) : Ints k w a [] := fun i h => by simp at h
theorem Ints.cellAt {k : IntKind} {w : World} {b off : Nat} {zs : List Int} (h : Ints k w (some ⟨b, off, none⟩) zs) (i : Nat) (hi : i < zs.length) : w.cell? ⟨b, off + i, none⟩ = some (.int k (nth zs i)) := by
  obtain ⟨b', off', e, hc⟩ := h i hi; cases e; exact hc
theorem Ints.at {k : IntKind} {w : World} {a : Option Addr} {zs : List Int} (h : Ints k w a zs) (hp : 0 < zs.length) : ∃ b off, a = some ⟨b, off, none⟩ ∧ b < w.heap.size := by
  obtain ⟨b, off, e, hc⟩ := h 0 hp; exact ⟨b, off, e, World.block_lt_of_cell? w _ hc⟩
theorem Ints.below {k : IntKind} {w w' : World} {a : Option Addr} {zs : List Int} (h : Ints k w a zs) (hb : Below w.heap.size w w') : Ints k w' a zs := by
  intro i hi
  obtain ⟨b, off, ha, hc⟩ := h i hi
  exact ⟨b, off, ha, (hb.cell (p := ⟨b, off + i, none⟩) (World.block_lt_of_cell? w _ hc)).trans hc⟩
theorem Ints.drewN {k : IntKind} {w : World} {a : Option Addr} {zs : List Int} (h : Ints k w a zs) (n : Nat) : Ints k (w.drewN n) a zs := h
theorem Ints.of_ownsRow {k : IntKind} {w : World} {base : Nat} {e : TypeId} {v : Value} {n : Nat} {zs : List Int} (h : w.ownsRow base e 1 v n (zs.map (.int k))) :
    n = zs.length ∧ ∃ a cap, v = .slice a n cap ∧ Ints k w a zs ∧ n ≤ cap := by
  have hl : n = zs.length := by have := h.1; simp at this; omega
  refine ⟨hl, ?_⟩
  rcases h.2 with ⟨rfl, rfl⟩ | ⟨g, cap, cur, rfl, hb, hg, hn, hm, hs, ht⟩
  · exact ⟨none, 0, rfl, fun i hi => by omega, Nat.le_refl _⟩
  · refine ⟨_, cap, rfl, fun i hi => ⟨g, 0, rfl, ?_⟩, hn⟩
    have := h.cells (g := g) rfl i (.int k (nth zs i)) (by simp [nth, hi])
    have e : (⟨g, 0, none⟩ : Addr).add i = ⟨g, 0 + i, none⟩ := by unfold Addr.add; split <;> simp_all
    rw [e] at this; exact this

theorem ret_bool {a b : Bool} (h : a = b) : Ending.returned (.bool a) = Ending.returned (.bool b) := by rw [h]
theorem ret_int {k : IntKind} {a b : Int} (h : a = b) : Ending.returned (.int k a) = Ending.returned (.int k b) := by rw [h]
/-- The world has only drawn. -/
def Drew (w w' : World) : Prop := ∃ n, w' = w.drewN n
theorem Drew.refl (w : World) : Drew w w := ⟨0, rfl⟩
theorem Drew.trans {a b c : World} (h : Drew a b) (k : Drew b c) : Drew a c := by
  obtain ⟨n, rfl⟩ := h; obtain ⟨m, rfl⟩ := k; exact ⟨n + m, by rw [World.drewN_drewN]⟩
theorem Drew.drewN {a b : World} (h : Drew a b) (n : Nat) : Drew a (b.drewN n) := h.trans ⟨n, rfl⟩
theorem Drew.cell {w w' : World} (h : Drew w w') (a : Addr) : w'.cell? a = w.cell? a := by obtain ⟨n, rfl⟩ := h; rfl
theorem Drew.below {w w' : World} (h : Drew w w') (B : Nat) : Below B w w' := by obtain ⟨n, rfl⟩ := h; exact ⟨rfl, rfl, rfl, Nat.le_refl _, fun _ _ => rfl⟩
theorem Ints.drew {k : IntKind} {w w' : World} {a : Option Addr} {zs : List Int} (h : Ints k w a zs) (hd : Drew w w') : Ints k w' a zs := by
  intro i hi; obtain ⟨b, off, ha, hc⟩ := h i hi; exact ⟨b, off, ha, (hd.cell _).trans hc⟩
/-- A contract that leaves the world be, or only draws, serves in a region that draws. -/
theorem quiet_same {P : Program} {f : FuncId} {args : Array Value} {w : World} {v : Value} {n : Nat} (h : Calls P f args (w.drewN n) fun e w' => e = .returned v ∧ w.drewN n = w') :
    Calls P f args (w.drewN n) fun e w'' => e = .returned v ∧ ∃ m, w'' = w.drewN m := h.mono fun _ _ ⟨he, hm⟩ => ⟨he, n, hm.symm⟩
theorem quiet_drew {P : Program} {f : FuncId} {args : Array Value} {w : World} {v : Value} {n : Nat} (h : Calls P f args (w.drewN n) fun e w' => e = .returned v ∧ Drew (w.drewN n) w') :
    Calls P f args (w.drewN n) fun e w'' => e = .returned v ∧ ∃ m, w'' = w.drewN m := h.mono fun _ _ ⟨he, m, hm⟩ => ⟨he, n + m, by rw [hm, World.drewN_drewN]⟩

theorem grownBy_of_below {w w' : World} (h : Below w.heap.size w w') (row : Option Nat) : w.grownBy w' row := ⟨h.os, h.tape, h.output, h.size, fun k hk _ => h.block k hk⟩
theorem owns_below {w w' : World} {base : Nat} {e : TypeId} {size : Nat} {v : Value} {n : Nat} {xs : List Value} (h : w.ownsRow base e size v n xs) (hb : Below w.heap.size w w') : w'.ownsRow base e size v n xs :=
  h.kept (grownBy_of_below hb none) (by cases v.ownBlock <;> simp)
theorem owns_mono {w : World} {base base' : Nat} {e : TypeId} {size : Nat} {v : Value} {n : Nat} {xs : List Value} (h : w.ownsRow base e size v n xs) (hb : base' ≤ base) : w.ownsRow base' e size v n xs := by
  refine ⟨h.1, ?_⟩
  rcases h.2 with h | ⟨g, cap, cur, hv, hg, r⟩
  · exact .inl h
  · exact .inr ⟨g, cap, cur, hv, Nat.le_trans hb hg, r⟩
/-- The length of a slice's value: for measures. -/
def lenV : Value → Nat | .slice _ n _ => n | _ => 0

/-- A slice type and its element's type, as the program's tables have them. -/
structure RowT (t e : TypeId) (z : Value) (size bytes : Nat) : Prop where
  ht : Tryz.prog.underlying t = some (.slice e)
  hi : (Tryz.prog.info? e).map (fun i => (i.zero, i.size, i.bytes)) = some (some z, size, bytes)
  hz : z.cells.size = size
  hs : 0 < size ∧ bytes ≤ 1000
theorem T56 : RowT 56 3 (.int .i64 0) 1 8 := ⟨Tryz.underlying56, by kernel_rfl, rfl, by decide⟩
theorem T22 : RowT 22 9 (.string ByteArray.empty) 1 16 := ⟨Tryz.underlying22, by kernel_rfl, rfl, by decide⟩
theorem cell_new1 (w : World) (x : Value) (t : TypeId) : (w.alloc (.cells #[x] t)).cell? ⟨w.heap.size, 0, none⟩ = some x := by simp
/-- What a block that was just laid holds. -/
theorem news_new (w : World) (c : Array Value) (t : TypeId) : ∀ j u, c.toList[j]? = some u → (w.alloc (.cells c t)).cell? ((⟨w.heap.size, 0, none⟩ : Addr).add j) = some u := by
  intro j u hj
  have e : (⟨w.heap.size, 0, none⟩ : Addr).add j = ⟨w.heap.size, j, none⟩ := by unfold Addr.add; split <;> simp_all
  rw [e]
  simpa using hj
/-- Where the value of a row lies behind an append. -/
def Lies (v v' : Value) (H : Nat) : Prop := v'.ownBlock = v.ownBlock ∨ v'.ownBlock = some H
/-- 'append(s, x ..)' onto a row of the call's own; what is appended lies in cells of its own. -/
theorem wpApp {t e : TypeId} {z : Value} {size bytes : Nat} (R : RowT t e z size bytes) {o : Oper} {a : Act} {W : World} {K : Act → World → Prop} {Q : Exit → Act → World → Prop} (s x : Operand)
    (ho : o.op = .call { callee := .builtin .append, args := #[s, x], argTypes := #[t, t] }) (base : Nat) (v : Value) (n : Nat) (xs : List Value) (news : List Value) (m c : Nat) (ad : Addr) (hs : a.eval s = v)
    (hown : W.ownsRow base e size v n xs) (hx : a.eval x = .slice (some ad) m c) (hl : news.length = m * size) (hnews : ∀ j u, news[j]? = some u → W.cell? (ad.add j) = some u) (h1 : ∀ u ∈ news, u.oneCell' = true) (hn : n + m ≤ 2000000) (hbase : base ≤ W.heap.size)
    (h : ∀ v' w', w'.ownsRow base e size v' (n + m) (xs ++ news) → W.grownBy w' v.ownBlock → Lies v v' W.heap.size → K (a.put o.dst v') w') : o.wp Tryz.prog a W K Q := by
  obtain ⟨i0, hi, hz0, hz1, hz2⟩ := info_parts R.hi
  have hb := R.hs.2
  have hbytes : (n + m) * bytes ≤ 140737488355328 := Nat.le_trans (Nat.mul_le_mul hn hb) (by decide)
  obtain ⟨v', w', hr, h2, h3, _, h5⟩ := run_append_own_at (P := Tryz.prog) W base t o.type e i0 z size bytes R.ht hi hz0 hz1 hz2 R.hz R.hs.1 v n xs hown ad m c news hl hnews h1 (by unfold maxLen; omega) hbytes hbase
  unfold Oper.wp execOp
  simp only [ho, resolve, invoke, builtin, Sem.run_bind, Sem.run_pure, Result.andThen_ok, List.map_toArray, List.map_cons, List.map_nil, hs, hx, hr]
  exact h v' w' h2 h3 h5
theorem listApp {t e : TypeId} {z : Value} {size bytes : Nat} (R : RowT t e z size bytes) {ops : Array Oper} {rest : List Oper} {o : Oper} {a : Act} {W : World} {Q : Exit → Act → World → Prop} (hgd : o.guard = none) (s x : Operand)
    (ho : o.op = .call { callee := .builtin .append, args := #[s, x], argTypes := #[t, t] }) (base : Nat) (v : Value) (n : Nat) (xs : List Value) (news : List Value) (m c : Nat) (ad : Addr) (hs : a.eval s = v)
    (hown : W.ownsRow base e size v n xs) (hx : a.eval x = .slice (some ad) m c) (hl : news.length = m * size) (hnews : ∀ j u, news[j]? = some u → W.cell? (ad.add j) = some u) (h1 : ∀ u ∈ news, u.oneCell' = true) (hn : n + m ≤ 2000000) (hbase : base ≤ W.heap.size)
    (h : ∀ v' w', w'.ownsRow base e size v' (n + m) (xs ++ news) → W.grownBy w' v.ownBlock → Lies v v' W.heap.size → wpList Tryz.prog ops Q rest (a.put o.dst v') w') :
    wpList Tryz.prog ops Q (o :: rest) a W :=
  wpList_plain hgd fun _ hK => wpApp R s x ho base v n xs news m c ad hs hown hx hl hnews h1 hn hbase fun v' w' h1 h2 h3 => hK _ _ (h v' w' h1 h2 h3)
/-- The same at a step of a region that draws its order. -/
theorem stepApp {t e : TypeId} {z : Value} {size bytes : Nat} (R : RowT t e z size bytes) {ops : Array Oper} {o : Oper} {a : Act} {W : World} {K : Act → World → Prop} {Q : Exit → Act → World → Prop} {E : Prop} (hgd : o.guard = none) (s x : Operand)
    (ho : o.op = .call { callee := .builtin .append, args := #[s, x], argTypes := #[t, t] }) (base : Nat) (v : Value) (n : Nat) (xs : List Value) (news : List Value) (m c : Nat) (ad : Addr) (hs : a.eval s = v)
    (hown : W.ownsRow base e size v n xs) (hx : a.eval x = .slice (some ad) m c) (hl : news.length = m * size) (hnews : ∀ j u, news[j]? = some u → W.cell? (ad.add j) = some u) (h1 : ∀ u ∈ news, u.oneCell' = true) (hn : n + m ≤ 2000000) (hbase : base ≤ W.heap.size)
    (h : ∀ v' w', w'.ownsRow base e size v' (n + m) (xs ++ news) → W.grownBy w' v.ownBlock → Lies v v' W.heap.size → K (a.put o.dst v') w') :
    if Region.wanted o (yielded ops a.tmps) = true then Oper.wp Tryz.prog o a W K Q else E := by
  have hw : Region.wanted o (yielded ops a.tmps) = true := by simp [Region.wanted, hgd]
  rw [if_pos hw]
  exact wpApp R s x ho base v n xs news m c ad hs hown hx hl hnews h1 hn hbase h
/-- A slice that does not lie in the row of the call's own, and there already. -/
def Off (w : World) (v : Value) (a : Option Addr) : Prop := ∀ b off, a = some ⟨b, off, none⟩ → v.ownBlock ≠ some b ∧ b < w.heap.size
theorem Off.app {w w' : World} {v v' : Value} {a : Option Addr} (h : Off w v a) (hg : w.grownBy w' v.ownBlock) (hl : Lies v v' w.heap.size) : Off w' v' a := by
  intro b off e
  obtain ⟨h1, h2⟩ := h b off e
  refine ⟨fun e' => ?_, Nat.lt_of_lt_of_le h2 hg.size⟩
  rcases hl with hl | hl
  · exact h1 (hl ▸ e')
  · rw [e'] at hl; cases hl; omega
theorem Off.below {w w' : World} {v : Value} {a : Option Addr} (h : Off w v a) (hb : w.heap.size ≤ w'.heap.size) : Off w' v a := fun b off e => ⟨(h b off e).1, Nat.lt_of_lt_of_le (h b off e).2 hb⟩
theorem Off.nil {w : World} {a : Option Addr} (h : ∀ b off, a = some ⟨b, off, none⟩ → b < w.heap.size) : Off w (.slice none 0 0) a := fun b off e => ⟨by simp [Value.ownBlock], h b off e⟩
/-- A slice that lies behind the row, the row being there since before. -/
theorem Off.behind {w : World} {v : Value} {a : Option Addr} (B : Nat) (hv : ∀ g, v.ownBlock = some g → g < B) (ha : ∀ b off, a = some ⟨b, off, none⟩ → B ≤ b ∧ b < w.heap.size) : Off w v a := fun b off e =>
  ⟨fun e' => by have := hv b e'; have := (ha b off e).1; omega, (ha b off e).2⟩
theorem Off.ahead {w : World} {base : Nat} {e : TypeId} {size : Nat} {v : Value} {n : Nat} {xs : List Value} (h : w.ownsRow base e size v n xs) {a : Option Addr} (ha : ∀ b off, a = some ⟨b, off, none⟩ → b < base) (hb : base ≤ w.heap.size) : Off w v a := fun b off e1 =>
  ⟨fun e2 => by have := (h.lt b e2).1; have := ha b off e1; omega, by have := ha b off e1; omega⟩
theorem Ints.grown {k : IntKind} {w w' : World} {a : Option Addr} {zs : List Int} {v : Value} (h : Ints k w a zs) (hg : w.grownBy w' v.ownBlock) (hr : Off w v a) : Ints k w' a zs := by
  intro i hi
  obtain ⟨b, off, ha, hc⟩ := h i hi
  exact ⟨b, off, ha, hg.cell hc (fun e => (hr b off ha).1 e.symm)⟩
theorem Ints.alloc {k : IntKind} {w : World} {a : Option Addr} {zs : List Int} (h : Ints k w a zs) (o : Obj) : Ints k (w.alloc o) a zs := by
  intro i hi
  obtain ⟨b, off, ha, hc⟩ := h i hi
  exact ⟨b, off, ha, (World.grownBy_alloc w o none).cell hc (by simp)⟩
/-- n rounds of a counted loop: the round k makes of x what f k makes of it. -/
def up {α : Sort _} (f : Nat → α → α) (x : α) : Nat → α
  | 0 => x
  | k + 1 => f k (up f x k)
theorem up_succ {α : Sort _} (f : Nat → α → α) (x : α) (k : Nat) : up f x (k + 1) = f k (up f x k) := rfl
theorem Below.new (w : World) (o : Obj) : Below w.heap.size w (w.alloc o) := (Below.refl _ _).alloc (Nat.le_refl _) o
/-- A cell that was there is as it was. -/
theorem cell_on {w w' : World} (hb : Below w.heap.size w w') {p : Addr} {v : Value} (h : w.cell? p = some v) : w'.cell? p = some v := (hb.cell (World.block_lt_of_cell? w _ h)).trans h
theorem bel_drewN {B : Nat} {w w' : World} (h : Below B w w') (n : Nat) : Below B w (w'.drewN n) := h.trans (Drew.below ⟨n, rfl⟩ B)
theorem addr_add (b off j : Nat) : (⟨b, off, none⟩ : Addr).add j = ⟨b, off + j, none⟩ := by unfold Addr.add; split <;> simp_all
/-- A word as a Go string. -/
abbrev bs (w : X.W) : ByteArray := ⟨w.toArray⟩
abbrev sv (w : X.W) : Value := .string ⟨w.toArray⟩
theorem bs_list (w : X.W) : (bs w).data.toList = w := by simp
theorem bs_of (s : ByteArray) : bs s.data.toList = s := by cases s; simp [bs]
theorem bs_size (w : X.W) : (bs w).size = w.length := by simp [ByteArray.size]
theorem bs_tl (w : X.W) : (bs w).toList = w := by rw [ByteArray.toList_eq]
/-- The word at an index; the empty one beyond the end. -/
def wat (l : List X.W) (i : Nat) : X.W := l.getD i []
theorem wat_eq (l : List X.W) (i : Nat) (h : i < l.length) : wat l i = l[i] := by simp [wat, h]
theorem wat_mem {l : List X.W} {i : Nat} (h : i < l.length) : wat l i ∈ l := by rw [wat_eq l i h]; exact List.getElem_mem h
theorem take_succ_wat (l : List X.W) (i : Nat) (h : i < l.length) : l.take (i + 1) = l.take i ++ [wat l i] := by rw [List.take_succ_eq_append_getElem h, wat_eq l i h]
/-- The byte at an index; 0 beyond the end. -/
def wc (s : X.W) (i : Nat) : UInt8 := s.getD i 0
theorem wc_eq (s : X.W) (i : Nat) (h : i < s.length) : wc s i = s[i] := by simp [wc, h]
theorem wc_mem {s : X.W} {i : Nat} (h : i < s.length) : wc s i ∈ s := by rw [wc_eq s i h]; exact List.getElem_mem h
theorem take_succ_wc (s : X.W) (i : Nat) (h : i < s.length) : s.take (i + 1) = s.take i ++ [wc s i] := by rw [List.take_succ_eq_append_getElem h, wc_eq s i h]
/-- What the model reads at an index of a string. -/
theorem bs_at (s : X.W) (i : Nat) (h : i < (bs s).size) : (bs s)[i]'h = wc s i := by
  have h' : i < s.length := by rw [bs_size] at h; exact h
  rw [wc_eq s i h']
  simp [bs, ByteArray.getElem_eq_getElem_data]
/-- A slice at the address a reads as words. -/
def Strs (w : World) (a : Option Addr) (l : List X.W) : Prop := ∀ i, i < l.length → ∃ b off, a = some ⟨b, off, none⟩ ∧ w.cell? ⟨b, off + i, none⟩ = some (sv (wat l i))
theorem Strs.nil (w : World) (a : Option Addr) : Strs w a [] := fun i h => by simp at h
theorem Strs.cellAt {w : World} {b off : Nat} {l : List X.W} (h : Strs w (some ⟨b, off, none⟩) l) (i : Nat) (hi : i < l.length) : w.cell? ⟨b, off + i, none⟩ = some (sv (wat l i)) := by
  obtain ⟨b', off', e, hc⟩ := h i hi; cases e; exact hc
theorem Strs.below {w w' : World} {a : Option Addr} {l : List X.W} (h : Strs w a l) (hb : Below w.heap.size w w') : Strs w' a l := by
  intro i hi
  obtain ⟨b, off, ha, hc⟩ := h i hi
  exact ⟨b, off, ha, cell_on hb hc⟩
theorem Strs.alloc {w : World} {a : Option Addr} {l : List X.W} (h : Strs w a l) (o : Obj) : Strs (w.alloc o) a l := h.below (Below.new w o)
theorem Strs.drew {w w' : World} {a : Option Addr} {l : List X.W} (h : Strs w a l) (hd : Drew w w') : Strs w' a l := h.below (hd.below _)
theorem Strs.grown {w w' : World} {a : Option Addr} {l : List X.W} {v : Value} (h : Strs w a l) (hg : w.grownBy w' v.ownBlock) (hr : Off w v a) : Strs w' a l := by
  intro i hi
  obtain ⟨b, off, ha, hc⟩ := h i hi
  exact ⟨b, off, ha, hg.cell hc (fun e => (hr b off ha).1 e.symm)⟩
theorem Strs.of_ownsRow {w : World} {base : Nat} {e : TypeId} {v : Value} {n : Nat} {l : List X.W} (h : w.ownsRow base e 1 v n (l.map sv)) :
    n = l.length ∧ ∃ a cap, v = .slice a n cap ∧ Strs w a l ∧ (n ≤ cap ∧ (a = none → cap = 0)) := by
  have hl : n = l.length := by have := h.1; simp at this; omega
  refine ⟨hl, ?_⟩
  rcases h.2 with ⟨rfl, rfl⟩ | ⟨g, cap, cur, rfl, hb, hg, hn, hm, hs, ht⟩
  · exact ⟨none, 0, rfl, fun i hi => by omega, Nat.le_refl _, fun _ => rfl⟩
  · refine ⟨_, cap, rfl, fun i hi => ⟨g, 0, rfl, ?_⟩, hn, fun h => by cases h⟩
    have := h.cells (g := g) rfl i (sv (wat l i)) (by simp [wat, hi])
    rw [addr_add] at this; exact this
/-- A slice at the address a reads as states. -/
def Sts (w : World) (a : Option Addr) (s : List X.St) : Prop := ∀ i, i < s.length → ∃ b off, a = some ⟨b, off, none⟩ ∧ w.cell? ⟨b, off + i * 3, none⟩ = some (.int .i64 (X.at_ s i).ends) ∧ w.cell? ⟨b, off + i * 3 + 1, none⟩ = some (sv (X.at_ s i).letters) ∧
  ∃ a2 cap2, w.cell? ⟨b, off + i * 3 + 2, none⟩ = some (.slice a2 (X.at_ s i).next.length cap2) ∧ Ints .i64 w a2 (X.at_ s i).next
theorem Sts.below {w w' : World} {a : Option Addr} {s : List X.St} (h : Sts w a s) (hb : Below w.heap.size w w') : Sts w' a s := by
  intro i hi
  obtain ⟨b, off, ha, h1, h2, a2, cap2, h3, h4⟩ := h i hi
  exact ⟨b, off, ha, cell_on hb h1, cell_on hb h2, a2, cap2, cell_on hb h3, h4.below hb⟩
theorem Sts.alloc {w : World} {a : Option Addr} {s : List X.St} (h : Sts w a s) (o : Obj) : Sts (w.alloc o) a s := h.below (Below.new w o)
end Go.Proofs.YtcjbnifafofpbaaGreatDoor
/- Walks of the reference's functions: letters, Word, Has, begins, Endings, Same, CheckList. -/
namespace Go.Proofs.YtcjbnifafofpbaaGreatDoor
open Go.RowKit
/-- No Go string is longer. -/
def Room (s : X.W) : Prop := s.length ≤ 140737488355328
theorem letters_no {s : X.W} {j : Nat} (hj : j < s.length) (h : X.letter (wc s j) = false) : X.letters s = false := by
  unfold X.letters
  rw [List.all_eq_false]
  exact ⟨_, wc_mem hj, by simp [h]⟩
theorem letter_low {c : UInt8} (h : (c.toNat : Int) < 97) : X.letter c = false := by unfold X.letter; rw [Bool.and_eq_false_iff]; exact .inl (decide_eq_false (by omega))
theorem letter_high {c : UInt8} (h : 122 < (c.toNat : Int)) : X.letter c = false := by unfold X.letter; rw [Bool.and_eq_false_iff]; exact .inr (decide_eq_false (by omega))
theorem letter_yes {c : UInt8} (h : ¬ (c.toNat : Int) < 97) (k : ¬ 122 < (c.toNat : Int)) : X.letter c = true := by unfold X.letter; rw [Bool.and_eq_true, decide_eq_true_iff, decide_eq_true_iff]; omega
theorem letters_any (s : X.W) (w : World) (hl : s.length ≤ 140737488355328) :
    Calls Tryz.prog 64 #[sv s] w fun e w' => e = .returned (.bool (X.letters s)) ∧ w = w' := by
  go_enter Tryz.func64, Tryz.ntmps64
  go_wp2
  go_loop [3] (fun i => ∃ j : Nat, j ≤ s.length ∧ i = .int .i64 j ∧ Hid (X.letters (s.take j) = true)) (fun i => s.length - (intOf i).toNat)
  case atStart => exact ⟨0, by omega, rfl, Lib.hid rfl⟩
  case round =>
    obtain ⟨j, hj, rfl, HL⟩ := hrel
    by_cases hlt : j < s.length
    · have hltI : (j : Int) < (s.length : Int) := by omega
      have ec := bs_at s j
      have HN := Lib.hid (fun h => letters_no (s := s) hlt h)
      have HS := Lib.hid (take_succ_wc s j hlt)
      generalize wc s j = c at *
      by_cases c1 : (c.toNat : Int) < 97
      · have HF := Lib.hid (HN.out (letter_low c1))
        go_wp2
        go_ret
        exact ⟨ret_bool HF.out.symm, rfl⟩
      · by_cases c2 : 122 < (c.toNat : Int)
        · have HF := Lib.hid (HN.out (letter_high c2))
          go_wp2
          go_ret
          exact ⟨ret_bool HF.out.symm, rfl⟩
        · have HT := Lib.hid (letter_yes c1 c2)
          go_wp2
          go_round
          case rel => exact ⟨j + 1, by omega, by go_num, Lib.hid (by rw [HS.out, X.letters_snoc, HL.out, HT.out]; rfl)⟩
          case measure => simp [intOf]; omega
    · have e : s.take j = s := List.take_of_length_le (by omega)
      rw [e] at HL
      go_wp2
      go_ret
      exact ⟨ret_bool HL.out.symm, rfl⟩
theorem word_any (s : X.W) (w : World) (hl : s.length ≤ 140737488355328) :
    Calls Tryz.prog 48 #[sv s] w fun e w' => e = .returned (.int .i64 (X.wordE s)) ∧ w = w' := by
  have HL := fun w => letters_any s w hl
  by_cases h : 10 < s.length
  · have e : X.wordE s = 7 := by unfold X.wordE; rw [if_pos h]
    rw [e]
    clear e
    go_enter Tryz.func48, Tryz.ntmps48
    go_wp2_with fail
    go_ret
    exact ⟨rfl, rfl⟩
  · have e : X.wordE s = if X.letters s = true then 0 else 8 := by unfold X.wordE; rw [if_neg h]
    rw [e]
    clear e
    generalize X.letters s = b at *
    go_enter Tryz.func48, Tryz.ntmps48
    go_wp2_with (go_at_call 64; refine (HL _).mono ?_; rintro e w' ⟨rfl, rfl⟩)
    all_goals go_ret
    all_goals (cases b <;> first | exact ⟨rfl, rfl⟩ | simp_all)
theorem has_any (a : Option Addr) (cap : Nat) (l : List X.W) (s : X.W) (w : World) (hl : l.length ≤ 1000000) (ha : Strs w a l) :
    Calls Tryz.prog 49 #[.slice a l.length cap, sv s] w fun e w' => e = .returned (.bool (decide (s ∈ l))) ∧ w = w' := by
  have HA := Lib.hid ha; clear ha
  go_enter Tryz.func49, Tryz.ntmps49
  go_wp2
  go_loop [5] (fun i => ∃ j : Nat, j ≤ l.length ∧ i = .int .i64 j ∧ Hid (s ∉ l.take j)) (fun i => l.length - (intOf i).toNat)
  case atStart => exact ⟨0, by omega, rfl, Lib.hid (by simp)⟩
  case round =>
    obtain ⟨j, hj, rfl, HL⟩ := hrel
    by_cases hlt : j < l.length
    · have hltI : (j : Int) < (l.length : Int) := by omega
      obtain ⟨b, off, rfl, c1⟩ := HA.out j hlt
      have HM := Lib.hid (wat_mem hlt)
      have HS := Lib.hid (take_succ_wat l j hlt)
      generalize wat l j = x at *
      by_cases hx : x = s
      · subst hx
        have HF : Hid (decide (x ∈ l) = true) := Lib.hid (decide_eq_true HM.out)
        go_wp2
        go_ret
        exact ⟨ret_bool HF.out.symm, rfl⟩
      · have hb : ((⟨x.toArray⟩ : ByteArray).toList == (⟨s.toArray⟩ : ByteArray).toList) = false := by rw [bs_tl, bs_tl]; exact beq_eq_false_iff_ne.2 hx
        have hx2 : (x == s) = false := beq_eq_false_iff_ne.2 hx
        have HX := Lib.hid hx
        clear hx
        go_wp2
        go_round
        case rel => exact ⟨j + 1, by omega, by go_num, Lib.hid (by rw [HS.out]; simp [HL.out]; exact fun e => HX.out e.symm)⟩
        case measure => simp [intOf]; omega
    · have e : l.take j = l := List.take_of_length_le (by omega)
      rw [e] at HL
      have HF : Hid (decide (s ∈ l) = false) := Lib.hid (decide_eq_false HL.out)
      go_wp2
      go_ret
      exact ⟨ret_bool HF.out.symm, rfl⟩
theorem begins_is (s u : X.W) : (decide (u.length ≤ s.length) && (s.take u.length == u)) = u.isPrefixOf s := by
  rw [Bool.eq_iff_iff, Bool.and_eq_true, decide_eq_true_iff, beq_iff_eq, List.isPrefixOf_iff_prefix]
  constructor
  · rintro ⟨-, h⟩; exact ⟨s.drop u.length, by conv => { rhs; rw [← List.take_append_drop u.length s] }; rw [h]⟩
  · intro h; exact ⟨h.length_le, (List.prefix_iff_eq_take.1 h).symm⟩
theorem begins_any (s u : X.W) (w : World) (_hs : s.length ≤ 140737488355328) (_hu : u.length ≤ 140737488355328) :
    Calls Tryz.prog 94 #[sv s, sv u] w fun e w' => e = .returned (.bool (u.isPrefixOf s)) ∧ w = w' := by
  have HB := Lib.hid (begins_is s u)
  by_cases h : u.length ≤ s.length
  · have hI : (u.length : Int) ≤ (s.length : Int) := by omega
    have ex : (ByteArray.mk s.toArray).extract 0 u.length = ⟨(s.take u.length).toArray⟩ := by rw [ByteArray.extract_mk]; simp
    have hb : (ByteArray.mk (s.take u.length).toArray).toList = s.take u.length := bs_tl _
    have hb2 : (ByteArray.mk u.toArray).toList = u := bs_tl _
    have HF : Hid ((s.take u.length == u) = u.isPrefixOf s) := Lib.hid (by have := HB.out; rw [decide_eq_true h, Bool.true_and] at this; exact this)
    generalize u.isPrefixOf s = b at *
    generalize s.take u.length = t at *
    go_enter Tryz.func94, Tryz.ntmps94
    go_wp2
    all_goals go_ret
    all_goals exact ⟨ret_bool HF.out, rfl⟩
  · have hI : ¬ (u.length : Int) ≤ (s.length : Int) := by omega
    have HF : Hid (u.isPrefixOf s = false) := Lib.hid (by have := HB.out; rw [decide_eq_false h, Bool.false_and] at this; exact this.symm)
    generalize u.isPrefixOf s = b at *
    go_enter Tryz.func94, Tryz.ntmps94
    go_wp2
    go_ret
    exact ⟨ret_bool HF.out.symm, rfl⟩
/-- All words have room. -/
def Rooms (l : List X.W) : Prop := ∀ s ∈ l, s.length ≤ 140737488355328
/-- A slice that a call gives. -/
def OutS (w w' : World) (e : Ending) (l : List X.W) : Prop := ∃ a cap, e = .returned (.slice a l.length cap) ∧ Strs w' a l ∧ (l.length ≤ cap ∧ (a = none → cap = 0)) ∧ Below w.heap.size w w'
theorem ends_len_le (l : List X.W) (u : X.W) : (X.ends l u).length ≤ l.length := by unfold X.ends; rw [List.length_map]; exact List.length_filter_le _ _
set_option maxRecDepth 20000 in
theorem endings_any (a : Option Addr) (cap : Nat) (l : List X.W) (u : X.W) (w : World) (hl : l.length ≤ 1000000) (hr : Rooms l) (hu : u.length ≤ 140737488355328) (ha : Strs w a l) :
    Calls Tryz.prog 58 #[.slice a l.length cap, sv u] w fun e w' => OutS w w' e (X.ends l u) := by
  have HA := Lib.hid ha; have HR := Lib.hid hr; clear ha hr
  go_enter Tryz.func58, Tryz.ntmps58
  go_wp2
  go_loopw [5, 6] (fun o i wr => ∃ j : Nat, j ≤ l.length ∧ i = .int .i64 j ∧ Hid (wr.ownsRow w.heap.size 9 1 o (X.ends (l.take j) u).length ((X.ends (l.take j) u).map sv)) ∧ Hid (Below w.heap.size w wr)) (fun _ i _ => l.length - (intOf i).toNat)
  case atStart => exact ⟨0, by omega, rfl, Lib.hid (World.ownsRow_nil _ _ _ _), Lib.hid (Below.refl _ _)⟩
  case round =>
    obtain ⟨j, hj, rfl, HO, HB⟩ := hrel
    by_cases hlt : j < l.length
    · have hltI : (j : Int) < (l.length : Int) := by omega
      obtain ⟨b, off, rfl, c0⟩ := HA.out j hlt
      have c1 := cell_on HB.out c0
      have hx := HR.out _ (wat_mem hlt)
      have HS := Lib.hid (X.ends_snoc (l.take j) (wat l j) u)
      rw [← take_succ_wat l j hlt] at HS
      have hn : (X.ends (l.take j) u).length + 1 ≤ 2000000 := by have := ends_len_le (l.take j) u; rw [List.length_take] at this; omega
      generalize wat l j = x at *
      have HC := Lib.hid (fun W => begins_any x u W hx hu)
      clear c0
      cases hp : u.isPrefixOf x with
      | true =>
        have hle : u.length ≤ x.length := (List.isPrefixOf_iff_prefix.1 hp).length_le
        have hle2 : (u.length : Int) ≤ (x.length : Int) := by omega
        have ex : (ByteArray.mk x.toArray).extract u.length x.length = ⟨(x.drop u.length).toArray⟩ := by rw [ByteArray.extract_mk, List.take_of_length_le (by simp)]
        have HS2 : Hid (X.ends (l.take (j + 1)) u = X.ends (l.take j) u ++ [x.drop u.length]) := Lib.hid (by rw [HS.out, hp]; rfl)
        rw [hp] at HC
        clear hp HS
        generalize x.drop u.length = y at *
        have O5 := Lib.hid (HO.out.alloc (.cells #[sv y] 9))
        have hnews := Lib.hid (news_new wr #[sv y] 9)
        have hszW : w.heap.size ≤ (wr.alloc (.cells #[sv y] 9)).heap.size := by have := HB.out.size; simp; omega
        have hsz := HB.out.size
        go_wp2_with (first | (go_at_call 94; refine (HC.out _).mono ?_; rintro e w3 ⟨rfl, rfl⟩) | (at_builtin; refine listApp T22 rfl (.tmp 19) (.tmp 27) rfl w.heap.size u5 (X.ends (l.take j) u).length ((X.ends (l.take j) u).map sv) [sv y] 1 1 ⟨wr.heap.size, 0, none⟩ rfl O5.out rfl rfl hnews.out (by simp [Value.oneCell']) hn hszW ?_; intro v8 w8 hown8 hg8 hL8))
        go_roundw
        case rel => exact ⟨j + 1, by omega, by go_num, by rw [HS2.out, List.length_append, List.map_append]; exact Lib.hid hown8, Lib.hid ((HB.out.alloc hsz _).grown hg8 hszW (fun g e => (HO.out.lt g e).1))⟩
        case measure => simp [intOf]; omega
      | false =>
        have HS2 : Hid (X.ends (l.take (j + 1)) u = X.ends (l.take j) u) := Lib.hid (by rw [HS.out, hp]; simp)
        rw [hp] at HC
        clear hp HS
        go_wp2_with (go_at_call 94; refine (HC.out _).mono ?_; rintro e w3 ⟨rfl, rfl⟩)
        go_roundw
        case rel => exact ⟨j + 1, by omega, by go_num, by rw [HS2.out]; exact HO, HB⟩
        case measure => simp [intOf]; omega
    · have e : l.take j = l := List.take_of_length_le (by omega)
      rw [e] at HO
      obtain ⟨-, a5, c5, rfl, hs5, hc5⟩ := Strs.of_ownsRow HO.out
      have HS5 := Lib.hid hs5
      clear hs5 HO
      go_wp2
      go_ret
      exact ⟨a5, c5, rfl, HS5.out, hc5, HB.out⟩
theorem same_any (a : Option Addr) (cap : Nat) (l : List X.W) (b : Option Addr) (cap2 : Nat) (m : List X.W) (w : World) (hl : l.length ≤ 1000000) (ha : Strs w a l) (hb : Strs w b m) :
    Calls Tryz.prog 59 #[.slice a l.length cap, .slice b m.length cap2] w fun e w' => e = .returned (.bool (decide (l = m))) ∧ Drew w w' := by
  have HA := Lib.hid ha; have HB := Lib.hid hb; clear ha hb
  by_cases hlen : l.length = m.length
  · have hI : ((l.length : Int) != (m.length : Int)) = false := by rw [hlen]; simp
    go_enter Tryz.func59, Tryz.ntmps59
    go_wp2
    go_loopw [5] (fun i wr => ∃ j : Nat, j ≤ l.length ∧ i = .int .i64 j ∧ Hid (l.take j = m.take j) ∧ Hid (Drew w wr)) (fun i _ => l.length - (intOf i).toNat)
    case atStart => exact ⟨0, by omega, rfl, Lib.hid (by simp), Lib.hid (Drew.refl _)⟩
    case round =>
      obtain ⟨j, hj, rfl, HL, HD⟩ := hrel
      by_cases hlt : j < l.length
      · have hltI : (j : Int) < (l.length : Int) := by omega
        have hltM : (j : Int) < (m.length : Int) := by omega
        have hj0 : (0 : Int) ≤ (j : Int) := by omega
        obtain ⟨b1, off1, rfl, c1⟩ := HA.out j hlt
        obtain ⟨b2, off2, rfl, c2⟩ := HB.out j (by omega)
        have c1 := (HD.out.cell _).trans c1
        have c2 := (HD.out.cell _).trans c2
        have HS1 := Lib.hid (take_succ_wat l j hlt)
        have HS2 := Lib.hid (take_succ_wat m j (by omega))
        have HN : Hid (wat l j ≠ wat m j → l ≠ m) := Lib.hid (fun h e => h (by rw [e]))
        generalize wat l j = x at *
        generalize wat m j = y at *
        by_cases hxy : x = y
        · subst hxy
          go_wp2
          go_quiet (fail)
          go_wp2
          go_roundw
          case rel => exact ⟨j + 1, by omega, by go_num, Lib.hid (by rw [HS1.out, HS2.out, HL.out]), Lib.hid (HD.out.drewN _)⟩
          case measure => simp [intOf]; omega
        · have HF : Hid (decide (l = m) = false) := Lib.hid (decide_eq_false (HN.out hxy))
          have hb : ((⟨x.toArray⟩ : ByteArray).toList == (⟨y.toArray⟩ : ByteArray).toList) = false := by rw [bs_tl, bs_tl]; exact beq_eq_false_iff_ne.2 hxy
          have hx2 : (x == y) = false := beq_eq_false_iff_ne.2 hxy
          clear hxy
          go_wp2
          go_quiet (fail)
          go_wp2
          go_ret
          exact ⟨ret_bool HF.out.symm, HD.out.drewN _⟩
      · have e1 : l.take j = l := List.take_of_length_le (by omega)
        have e2 : m.take j = m := List.take_of_length_le (by omega)
        rw [e1, e2] at HL
        have HF : Hid (decide (l = m) = true) := Lib.hid (decide_eq_true HL.out)
        go_wp2
        go_ret
        exact ⟨ret_bool HF.out.symm, HD.out⟩
  · have hI : ((l.length : Int) != (m.length : Int)) = true := by simp; omega
    have HF : Hid (decide (l = m) = false) := Lib.hid (decide_eq_false (fun e => hlen (by rw [e])))
    go_enter Tryz.func59, Tryz.ntmps59
    go_wp2
    go_ret
    exact ⟨ret_bool HF.out.symm, Drew.refl _⟩
end Go.Proofs.YtcjbnifafofpbaaGreatDoor
/- Walks of the reference's functions: CheckList. -/
namespace Go.Proofs.YtcjbnifafofpbaaGreatDoor
open Go.RowKit
theorem bytesLess_lt : ∀ a b : X.W, Op.bytesLess a b = X.lt a b
  | a, [] => by cases a <;> rfl
  | [], _ :: _ => rfl
  | a :: x, b :: y => by
    rw [Bool.eq_iff_iff, X.lt_cons]
    show (decide (a < b) || (a == b && Op.bytesLess x y)) = true ↔ _
    rw [bytesLess_lt x y]
    simp
theorem binOp_string_leq (t : TypeId) (a b : ByteArray) : binOp .leq t (.string a) (.string b) = pure (.bool (Op.bytesLess a.toList b.toList || a.toList == b.toList)) := by simp [binOp, Op.stringOp]
theorem binOp_string_geq (t : TypeId) (a b : ByteArray) : binOp .geq t (.string a) (.string b) = pure (.bool (!Op.bytesLess a.toList b.toList)) := by simp [binOp, Op.stringOp]
theorem lt_or_eq (a b : X.W) : (X.lt a b || a == b) = !X.lt b a := by
  rw [Bool.eq_iff_iff, Bool.or_eq_true, beq_iff_eq, Bool.not_eq_true']
  constructor
  · rintro (h | rfl)
    · exact X.lt_asymm h
    · exact X.lt_irrefl _
  · intro h
    rcases X.lt_total a b with k | k | k
    · exact .inl k
    · exact .inr k
    · rw [h] at k; cases k
theorem rises_wat : ∀ {l : List X.W}, X.risesB l = true ↔ ∀ k, k + 1 < l.length → X.lt (wat l k) (wat l (k + 1)) = true
  | [] => by simp [X.risesB]
  | [x] => by simp [X.risesB]
  | x :: y :: r => by
    have ih := rises_wat (l := y :: r)
    unfold X.risesB
    rw [Bool.and_eq_true, ih]
    constructor
    · rintro ⟨h, k⟩ i hi
      cases i with
      | zero => exact h
      | succ i => exact k i (by simpa using hi)
    · intro h
      exact ⟨h 0 (by simp), fun k hk => h (k + 1) (by simpa using hk)⟩
theorem any_snoc {p : X.W → Bool} {l : List X.W} {j : Nat} (h : j < l.length) : (l.take (j + 1)).any p = ((l.take j).any p || p (wat l j)) := by rw [take_succ_wat l j h, List.any_append]; simp
theorem any_hit {p : X.W → Bool} {l : List X.W} {j : Nat} (h : j < l.length) (k : p (wat l j) = true) : l.any p = true := List.any_eq_true.2 ⟨_, wat_mem h, k⟩
attribute [local go_sem] binOp_string_leq bytesLess_lt
set_option maxRecDepth 20000 in
theorem checkList_any (a : Option Addr) (cap : Nat) (l : List X.W) (w : World) (hl : l.length ≤ 1000000) (hr : Rooms l) (ha : Strs w a l) :
    Calls Tryz.prog 21 #[.slice a l.length cap] w fun e w' => e = .returned (.int .i64 (X.listE l)) ∧ Drew w w' := by
  have HA := Lib.hid ha; have HR := Lib.hid hr; clear ha hr
  by_cases h30 : 30 < l.length
  · have HF : Hid (X.listE l = 6) := Lib.hid (by unfold X.listE; rw [if_pos h30])
    have hI : (30 : Int) < (l.length : Int) := by omega
    go_enter Tryz.func21, Tryz.ntmps21
    go_wp2
    go_ret
    exact ⟨ret_int HF.out.symm, Drew.refl _⟩
  · have HF0 : Hid (X.listE l = if l.any (fun s => decide (10 < s.length)) = true then 7 else if l.any (fun s => s.isEmpty || !X.letters s) = true then 8 else if X.risesB l = true then 0 else 16) := Lib.hid (by unfold X.listE; rw [if_neg h30])
    have hI : ¬ (30 : Int) < (l.length : Int) := by omega
    clear h30
    go_enter Tryz.func21, Tryz.ntmps21
    go_wp2
    go_loop [3] (fun i => ∃ j : Nat, j ≤ l.length ∧ i = .int .i64 j ∧ Hid ((l.take j).any (fun s => decide (10 < s.length)) = false)) (fun i => l.length - (intOf i).toNat)
    case atStart => exact ⟨0, by omega, rfl, Lib.hid (by simp)⟩
    case round =>
      obtain ⟨j, hj, rfl, HL⟩ := hrel
      by_cases hlt : j < l.length
      · have hltI : (j : Int) < (l.length : Int) := by omega
        obtain ⟨b, off, rfl, c1⟩ := HA.out j hlt
        have HS := Lib.hid (any_snoc (p := fun s => decide (10 < s.length)) hlt)
        have HH := Lib.hid (any_hit (p := fun s => decide (10 < s.length)) hlt)
        have hxr := HR.out _ (wat_mem hlt)
        generalize wat l j = x at *
        by_cases hx : 10 < x.length
        · have HF : Hid (X.listE l = 7) := Lib.hid (by rw [HF0.out, if_pos (HH.out (decide_eq_true hx))])
          have hxI : (10 : Int) < (x.length : Int) := by omega
          go_wp2
          go_ret
          exact ⟨ret_int HF.out.symm, Drew.refl _⟩
        · have HX : Hid (decide (10 < x.length) = false) := Lib.hid (decide_eq_false hx)
          have hxI : ¬ (10 : Int) < (x.length : Int) := by omega
          go_wp2
          go_round
          case rel => exact ⟨j + 1, by omega, by go_num, Lib.hid (by rw [HS.out, HL.out, HX.out]; rfl)⟩
          case measure => simp [intOf]; omega
      · have e : l.take j = l := List.take_of_length_le (by omega)
        rw [e] at HL
        have HF1 : Hid (X.listE l = if l.any (fun s => s.isEmpty || !X.letters s) = true then 8 else if X.risesB l = true then 0 else 16) := Lib.hid (by rw [HF0.out, HL.out]; rfl)
        have HLong : Hid (∀ s ∈ l, s.length ≤ 10) := Lib.hid (fun s hs => by
          have := HL.out
          rw [List.any_eq_false] at this
          have := this s hs
          simp at this; omega)
        clear HL e HF0
        go_wp2
        clear hlt hj
        go_loop [4] (fun i => ∃ j : Nat, j ≤ l.length ∧ i = .int .i64 j ∧ Hid ((l.take j).any (fun s => s.isEmpty || !X.letters s) = false)) (fun i => l.length - (intOf i).toNat)
        case atStart => exact ⟨0, by omega, rfl, Lib.hid (by simp)⟩
        case round =>
          obtain ⟨j, hj, rfl, HL⟩ := hrel
          by_cases hlt : j < l.length
          · have hltI : (j : Int) < (l.length : Int) := by omega
            obtain ⟨b, off, rfl, c1⟩ := HA.out j hlt
            have HS := Lib.hid (any_snoc (p := fun s => s.isEmpty || !X.letters s) hlt)
            have HH := Lib.hid (any_hit (p := fun s => s.isEmpty || !X.letters s) hlt)
            have hxr := HR.out _ (wat_mem hlt)
            generalize wat l j = x at *
            have HC := Lib.hid (fun W => letters_any x W hxr)
            cases x with
            | nil =>
              have HF : Hid (X.listE l = 8) := Lib.hid (by rw [HF1.out, if_pos (HH.out rfl)])
              go_wp2
              go_ret
              exact ⟨ret_int HF.out.symm, Drew.refl _⟩
            | cons c r =>
              have hb : ((⟨(c :: r).toArray⟩ : ByteArray).toList) = c :: r := bs_tl _
              have hne : ((c :: r : X.W) == []) = false := rfl
              cases hlet : X.letters (c :: r) with
              | false =>
                have HF : Hid (X.listE l = 8) := Lib.hid (by rw [HF1.out, if_pos (HH.out (by rw [hlet]; rfl))])
                rw [hlet] at HC
                clear hlet
                generalize (c :: r : X.W) = x at *
                go_wp2_with (go_at_call 64; refine (HC.out _).mono ?_; rintro e w3 ⟨rfl, rfl⟩)
                go_ret
                exact ⟨ret_int HF.out.symm, Drew.refl _⟩
              | true =>
                have HX : Hid (((c :: r : X.W).isEmpty || !X.letters (c :: r)) = false) := Lib.hid (by rw [hlet]; rfl)
                rw [hlet] at HC
                clear hlet
                generalize (c :: r : X.W) = x at *
                go_wp2_with (go_at_call 64; refine (HC.out _).mono ?_; rintro e w3 ⟨rfl, rfl⟩)
                go_round
                case rel => exact ⟨j + 1, by omega, by go_num, Lib.hid (by rw [HS.out, HL.out, HX.out]; rfl)⟩
                case measure => simp [intOf]; omega
          · have e : l.take j = l := List.take_of_length_le (by omega)
            rw [e] at HL
            have HF2 : Hid (X.listE l = if X.risesB l = true then 0 else 16) := Lib.hid (by rw [HF1.out, HL.out]; rfl)
            clear HL e HF1
            go_wp2
            clear hlt hj
            go_loopw [5] (fun i wr => ∃ j : Nat, (j ≤ l.length ∨ j = 1) ∧ 1 ≤ j ∧ i = .int .i64 j ∧ Hid (∀ k, k + 1 < j → k + 1 < l.length → X.lt (wat l k) (wat l (k + 1)) = true) ∧ Hid (Drew w wr)) (fun i _ => l.length + 1 - (intOf i).toNat)
            case atStart => exact ⟨1, .inr rfl, by omega, rfl, Lib.hid (fun k h => by omega), Lib.hid (Drew.refl _)⟩
            case round =>
              obtain ⟨j, hj, hj1, rfl, HL, HD⟩ := hrel
              by_cases hlt : j < l.length
              · have hltI : (j : Int) < (l.length : Int) := by omega
                obtain ⟨i, rfl⟩ : ∃ i, j = i + 1 := ⟨j - 1, by omega⟩
                have hi0 : (0 : Int) ≤ (i : Int) := by omega
                have hiI : (i : Int) < (l.length : Int) := by omega
                have hj0 : (0 : Int) ≤ ((i + 1 : Nat) : Int) := by omega
                have kw : IntKind.i64.wrap (((i + 1 : Nat) : Int) - 1) = (i : Int) := by rw [IntWalk.i64_in _ (by omega)]; omega
                obtain ⟨b, off, rfl, c1⟩ := HA.out (i + 1) hlt
                have c2 := HA.out.cellAt i (by omega)
                have c1 := (HD.out.cell _).trans c1
                have c2 := (HD.out.cell _).trans c2
                have HN : Hid (∀ v, X.lt (wat l i) (wat l (i + 1)) = v → (v = false → X.risesB l = false) ∧ (v = true → ∀ k, k + 1 < i + 1 + 1 → k + 1 < l.length → X.lt (wat l k) (wat l (k + 1)) = true)) := Lib.hid (by
                  intro v hv
                  constructor
                  · intro e
                    cases hrb : X.risesB l with
                    | false => rfl
                    | true => have h2 := rises_wat.1 hrb i hlt; rw [hv, e] at h2; cases h2
                  · intro e k hk hkl
                    by_cases hki : k = i
                    · subst hki; rw [hv, e]
                    · exact HL.out k (by omega) hkl)
                have ht1 := bs_tl (wat l (i + 1))
                have ht2 := bs_tl (wat l i)
                have hor := lt_or_eq (wat l (i + 1)) (wat l i)
                cases hv : X.lt (wat l i) (wat l (i + 1)) with
                | true =>
                  have HN2 := Lib.hid ((HN.out _ hv).2 rfl)
                  rw [hv] at hor
                  clear hv HN
                  generalize wat l i = x at *
                  generalize wat l (i + 1) = y at *
                  go_wp2
                  go_quiet (fail)
                  go_wp2
                  go_roundw
                  case rel => exact ⟨i + 1 + 1, .inl (by omega), by omega, by go_num, HN2, Lib.hid (HD.out.drewN _)⟩
                  case measure => simp [intOf]; omega
                | false =>
                  have HF : Hid (X.listE l = 16) := Lib.hid (by rw [HF2.out, (HN.out _ hv).1 rfl]; rfl)
                  rw [hv] at hor
                  clear hv HN
                  generalize wat l i = x at *
                  generalize wat l (i + 1) = y at *
                  go_wp2
                  go_quiet (fail)
                  go_wp2
                  go_ret
                  exact ⟨ret_int HF.out.symm, HD.out.drewN _⟩
              · have HF : Hid (X.listE l = 0) := Lib.hid (by rw [HF2.out, rises_wat.2 (fun k hk => HL.out k (by omega) hk)]; rfl)
                have hltI : ¬ (j : Int) < (l.length : Int) := by omega
                go_wp2
                go_ret
                exact ⟨ret_int HF.out.symm, HD.out⟩
end Go.Proofs.YtcjbnifafofpbaaGreatDoor
/- Walks of the reference's functions: longest, firsts, Beginnings. -/
namespace Go.Proofs.YtcjbnifafofpbaaGreatDoor
open Go.RowKit
theorem owns_b {w w' : World} {base : Nat} {v : Value} {n : Nat} {xs : List Value} (h : w.ownsRow base 9 1 v n xs) (hb : Below w.heap.size w w') : w'.ownsRow base 9 1 v n xs := owns_below h hb
theorem longest_any (a : Option Addr) (cap : Nat) (l : List X.W) (w : World) (hl : l.length ≤ 1000000) (hr : Rooms l) (ha : Strs w a l) :
    Calls Tryz.prog 93 #[.slice a l.length cap] w fun e w' => e = .returned (.int .i64 (X.longest l : Nat)) ∧ w = w' := by
  have HA := Lib.hid ha; have HR := Lib.hid hr; clear ha hr
  go_enter Tryz.func93, Tryz.ntmps93
  go_wp2
  go_loop [3, 4] (fun n i => ∃ j : Nat, j ≤ l.length ∧ i = .int .i64 j ∧ n = .int .i64 (X.longest (l.take j) : Nat)) (fun _ i => l.length - (intOf i).toNat)
  case atStart => exact ⟨0, by omega, rfl, rfl⟩
  case round =>
    obtain ⟨j, hj, rfl, rfl⟩ := hrel
    by_cases hlt : j < l.length
    · have hltI : (j : Int) < (l.length : Int) := by omega
      obtain ⟨b, off, rfl, c1⟩ := HA.out j hlt
      have HS := Lib.hid (X.longest_snoc (l.take j) (wat l j))
      rw [← take_succ_wat l j hlt] at HS
      have hxr := HR.out _ (wat_mem hlt)
      generalize wat l j = x at *
      generalize X.longest (l.take j) = m at *
      go_wp2
      go_round
      case rel => exact ⟨j + 1, by omega, by go_num, by rw [HS.out]; first | rfl | (simp [Nat.max_def]; done) | (congr 1; omega)⟩
      case measure => simp [intOf]; omega
    · have e : l.take j = l := List.take_of_length_le (by omega)
      rw [e]
      go_wp2
      go_ret
      exact ⟨rfl, rfl⟩
theorem firstsOf_len (l : List X.W) (q : List X.W) : (X.firstsOf l q).length ≤ q.length + 1 := by
  have h : ∀ (q out : List X.W), (q.foldl (X.keepStep l) out).length ≤ out.length + q.length := by
    intro q
    induction q with
    | nil => intro out; simp
    | cons w q ih =>
      intro out
      rw [List.foldl_cons]
      refine Nat.le_trans (ih _) ?_
      unfold X.keepStep
      split <;> simp <;> omega
  have := h q [[]]
  unfold X.firstsOf
  simp at this; omega
theorem flat_len : ∀ {q : List X.W}, (∀ s ∈ q, s.length ≤ 100) → (q.flatMap X.begs).length ≤ 100 * q.length
  | [], _ => by simp
  | s :: q, h => by
    rw [List.flatMap_cons, List.length_append, List.length_cons]
    have h1 := flat_len (q := q) (fun t ht => h t (List.mem_cons_of_mem _ ht))
    have h2 := h s (by simp)
    have : (X.begs s).length = s.length := by simp [X.begs]
    omega
/-- The words looked at, up to a name and a length. -/
def part (l : List X.W) (i n : Nat) : List X.W := (l.take i).flatMap X.begs ++ (X.begs (wat l i)).take n
theorem part_zero (l : List X.W) (i : Nat) : part l i 0 = (l.take i).flatMap X.begs := by unfold part; simp
theorem part_next (l : List X.W) {i : Nat} (h : i < l.length) : part l i (wat l i).length = part l (i + 1) 0 := by
  rw [part_zero, X.flat_take h]
  unfold part
  rw [X.begs_all]; rfl
theorem part_len {l : List X.W} (hr : ∀ s ∈ l, s.length ≤ 100) (i n : Nat) (hl : l.length ≤ 100) (hi : i < l.length) : (part l i n).length ≤ 10100 := by
  unfold part
  have h1 := flat_len (q := l.take i) (fun s hs => hr s (List.mem_of_mem_take hs))
  have h2 := hr _ (wat_mem hi)
  have h3 : (X.begs (wat l i)).length = (wat l i).length := by simp [X.begs]
  rw [List.length_append, List.length_take]
  rw [List.length_take] at h1
  omega
theorem part_succ (l : List X.W) (i : Nat) {n : Nat} (h : n < (wat l i).length) : part l i (n + 1) = part l i n ++ [(wat l i).take (n + 1)] := by
  unfold part; rw [X.begs_take h, List.append_assoc]
theorem owns_one (w : World) {base : Nat} (x : Value) (e : TypeId) (hb : base ≤ w.heap.size) : (w.alloc (.cells #[x] e)).ownsRow base e 1 (.slice (some ⟨w.heap.size, 0, none⟩) 1 1) 1 [x] :=
  ⟨by simp, .inr ⟨w.heap.size, 1, #[x], rfl, hb, heap_alloc_new w _, Nat.le_refl _, by decide, rfl, by simp⟩⟩
theorem fresh_take (l out : List X.W) (u : X.W) {j : Nat} (h : j < out.length) : X.freshB l (out.take (j + 1)) u = (X.freshB l (out.take j) u && !decide (X.ends l (wat out j) = X.ends l u)) := by
  rw [take_succ_wat out j h, X.freshB_snoc]
  congr 2
  rw [Bool.eq_iff_iff]; simp
theorem firstsOf_mem (l : List X.W) : ∀ (q : List X.W) (v : X.W), v ∈ X.firstsOf l q → v = [] ∨ v ∈ q := by
  have h : ∀ (q out : List X.W) (v : X.W), v ∈ q.foldl (X.keepStep l) out → v ∈ out ∨ v ∈ q := by
    intro q
    induction q with
    | nil => intro out v h; exact .inl h
    | cons w q ih =>
      intro out v hv
      rw [List.foldl_cons] at hv
      rcases ih _ v hv with h1 | h1
      · unfold X.keepStep at h1
        split at h1
        · exact .inl h1
        · rcases List.mem_append.1 h1 with h2 | h2
          · exact .inl h2
          · exact .inr (by rw [List.mem_singleton.1 h2]; simp)
      · exact .inr (List.mem_cons_of_mem _ h1)
  intro q v hv
  rcases h q [[]] v hv with h1 | h1
  · exact .inl (List.mem_singleton.1 h1)
  · exact .inr h1
theorem firsts_short {l : List X.W} (hr : ∀ s ∈ l, s.length ≤ 100) {i n : Nat} (hi : i < l.length) : ∀ v ∈ X.firstsOf l (part l i n), v.length ≤ 100 := by
  intro v hv
  rcases firstsOf_mem l _ v hv with rfl | h
  · simp
  · unfold part at h
    rcases List.mem_append.1 h with h | h
    · obtain ⟨s, hs, hm⟩ := List.mem_flatMap.1 h
      exact Nat.le_trans (X.mem_begs.1 hm).2.length_le (hr s (List.mem_of_mem_take hs))
    · exact Nat.le_trans (X.mem_begs.1 (List.mem_of_mem_take h)).2.length_le (hr _ (wat_mem hi))
set_option maxRecDepth 20000 in
set_option maxHeartbeats 1000000 in
theorem firsts_any (a : Option Addr) (cap : Nat) (l : List X.W) (w : World) (hl : l.length ≤ 100) (hr : ∀ s ∈ l, s.length ≤ 100) (ha : Strs w a l) :
    Calls Tryz.prog 92 #[.slice a l.length cap] w fun e w' => OutS w w' e (X.firsts l) := by
  have hRm : Rooms l := fun s hs => by have := hr s hs; omega
  have HE : Hid (∀ W u, u.length ≤ 140737488355328 → Strs W a l → Calls Tryz.prog 58 #[.slice a l.length cap, sv u] W fun e w' => OutS W w' e (X.ends l u)) := Lib.hid (fun W u h1 h2 => endings_any a cap l u W (by omega) hRm h1 h2)
  have HA := Lib.hid ha
  have HR := Lib.hid hr
  have HB0 := Lib.hid (Below.new w (.cells #[sv []] 9))
  have HO0 : Hid ((w.alloc (.cells #[sv []] 9)).ownsRow w.heap.size 9 1 (.slice (some ⟨w.heap.size, 0, none⟩) (X.firstsOf l (part l 0 0)).length 1) (X.firstsOf l (part l 0 0)).length ((X.firstsOf l (part l 0 0)).map sv)) := Lib.hid (by
    have e : part l 0 0 = [] := by rw [part_zero]; rfl
    rw [e]
    exact owns_one w (sv []) 9 (Nat.le_refl _))
  clear ha hr hRm
  go_enter Tryz.func92, Tryz.ntmps92
  go_wp2
  go_loopw [3, 4, 5, 6, 7, 8] (fun o i _ _ _ _ wr => ∃ j : Nat, j ≤ l.length ∧ i = .int .i64 j ∧ Hid (wr.ownsRow w.heap.size 9 1 o (X.firstsOf l (part l j 0)).length ((X.firstsOf l (part l j 0)).map sv)) ∧ Hid (Below w.heap.size w wr)) (fun _ i _ _ _ _ _ => l.length - (intOf i).toNat)
  case atStart => exact ⟨0, by omega, rfl, HO0, HB0⟩
  case round =>
    obtain ⟨j, hj, rfl, HO, HB⟩ := hrel
    clear HO0 HB0
    by_cases hlt : j < l.length
    · have hltI : (j : Int) < (l.length : Int) := by omega
      obtain ⟨b, off, rfl, c0⟩ := HA.out j hlt
      have HPl := Lib.hid (fun n => part_len HR.out j n hl hlt)
      have HSh := Lib.hid (fun n => firsts_short HR.out (i := j) (n := n) hlt)
      have HPs := Lib.hid (fun (n : Nat) h => part_succ l j (n := n) h)
      have HPn := Lib.hid (part_next l hlt)
      have hx100 := HR.out _ (wat_mem hlt)
      have HC0 := Lib.hid c0
      clear c0
      generalize wat l j = x at *
      go_wp2
      go_loopw [3, 5, 6, 7, 8] (fun o n _ _ _ wi => ∃ k : Nat, k ≤ x.length ∧ n = .int .i64 ((k : Int) + 1) ∧ Hid (wi.ownsRow w.heap.size 9 1 o (X.firstsOf l (part l j k)).length ((X.firstsOf l (part l j k)).map sv)) ∧ Hid (Below w.heap.size w wi)) (fun _ n _ _ _ _ => x.length + 1 - (intOf n).toNat)
      case atStart => exact ⟨0, by omega, rfl, HO, HB⟩
      case round =>
        clear HO HB
        obtain ⟨k, hk, rfl, HO, HB⟩ := hrel
        obtain ⟨wi, rfl⟩ : ∃ wi : World, wi = wr := ⟨_, rfl⟩
        have c1 := cell_on HB.out HC0.out
        by_cases hkl : k < x.length
        · have hkI : (k : Int) + 1 ≤ (x.length : Int) := by omega
          have hk0 : (0 : Int) ≤ (k : Int) + 1 := by omega
          have ex : (ByteArray.mk x.toArray).extract 0 (k + 1) = ⟨(x.take (k + 1)).toArray⟩ := by rw [ByteArray.extract_mk]; simp
          have HP1 := Lib.hid (HPs.out _ hkl)
          have hul : (x.take (k + 1)).length ≤ 100 := by rw [List.length_take]; omega
          have hol : (X.firstsOf l (part l j k)).length ≤ 10101 := Nat.le_trans (firstsOf_len _ _) (by have := HPl.out k; omega)
          have HK : Hid (X.firstsOf l (part l j (k + 1)) = if X.freshB l (X.firstsOf l (part l j k)) (x.take (k + 1)) = true then X.firstsOf l (part l j k) ++ [x.take (k + 1)] else X.firstsOf l (part l j k)) := Lib.hid (by rw [HP1.out, X.firstsOf_snoc, X.keepStep_eq])
          have kx : ((k : Int) + 1).toNat = k + 1 := by omega
          have HSO := Lib.hid (HSh.out k)
          generalize x.take (k + 1) = u at *
          generalize X.firstsOf l (part l j k) = O at *
          obtain ⟨-, a5, c5, rfl, hs5, hc5⟩ := Strs.of_ownsRow HO.out
          have HS5 := Lib.hid hs5
          clear hs5 HP1
          go_wp2
          clear c1 ex
          go_loopw [7, 8] (fun f i wf => ∃ t : Nat, t ≤ O.length ∧ i = .int .i64 t ∧ f = .bool (X.freshB l (O.take t) u) ∧ Hid (Below wi.heap.size wi wf)) (fun _ i _ => O.length - (intOf i).toNat)
          case atStart => exact ⟨0, by omega, rfl, rfl, Lib.hid (Below.refl _ _)⟩
          case round =>
            obtain ⟨t, ht, rfl, rfl, HBf⟩ := hrel
            by_cases htl : t < O.length
            · have htI : (t : Int) < (O.length : Int) := by omega
              have HF := Lib.hid (fresh_take l O u htl)
              cases hf : X.freshB l (O.take t) u with
              | false =>
                have HF2 : Hid (X.freshB l (O.take (t + 1)) u = false) := Lib.hid (by rw [HF.out, hf]; rfl)
                clear hf HF
                go_wp2
                go_roundw
                case rel => exact ⟨t + 1, by omega, by go_num, by rw [HF2.out], HBf⟩
                case measure => simp [intOf]; omega
              | true =>
                have HF2 : Hid (X.freshB l (O.take (t + 1)) u = !decide (X.ends l (wat O t) = X.ends l u)) := Lib.hid (by rw [HF.out, hf]; rfl)
                clear hf HF
                obtain ⟨b2, off2, rfl, c2⟩ := HS5.out t htl
                have c2 := cell_on HBf.out c2
                have hvl := HSO.out _ (wat_mem htl)
                have HAf := Lib.hid (HA.out.below (HB.out.trans (HBf.out.mono HB.out.size)))
                generalize wat O t = v at *
                go_wp2_with fail
                refine (HE.out _ v (by omega) HAf.out).mono ?_
                rintro e w3 ⟨a6, c6, rfl, hs6, -, hb6⟩
                have HA3 := Lib.hid (HAf.out.below hb6)
                have HB3 := Lib.hid (HBf.out.trans (hb6.mono HBf.out.size))
                have HS6 := Lib.hid hs6
                clear hb6 hs6
                go_wp2_with fail
                refine (HE.out _ u (by omega) HA3.out).mono ?_
                rintro e w4 ⟨a7, c7, rfl, hs7, -, hb7⟩
                have HB4 := Lib.hid (HB3.out.trans (hb7.mono HB3.out.size))
                have HS6b := Lib.hid (HS6.out.below hb7)
                have HS7 := Lib.hid hs7
                have hn1 : (X.ends l v).length ≤ 1000000 := by have := ends_len_le l v; omega
                clear hb7 hs7
                generalize X.ends l v = E1 at *
                generalize X.ends l u = E2 at *
                go_wp2_with fail
                refine (same_any a6 c6 E1 a7 c7 E2 _ hn1 HS6b.out HS7.out).mono ?_
                rintro e w5 ⟨rfl, hd⟩
                have HB5 := Lib.hid (HB4.out.trans (hd.below _))
                clear hd
                go_wp2
                go_roundw
                case rel => exact ⟨t + 1, by omega, by go_num, by rw [HF2.out], HB5⟩
                case measure => simp [intOf]; omega
            · have e : O.take t = O := List.take_of_length_le (by omega)
              rw [e]
              clear e
              have HOf := Lib.hid (owns_b HO.out HBf.out)
              have HBt := Lib.hid (HB.out.trans (HBf.out.mono HB.out.size))
              cases hf : X.freshB l O u with
              | true =>
                rw [hf] at HK
                have O5 := Lib.hid (HOf.out.alloc (.cells #[sv u] 9))
                have hnews := Lib.hid (news_new wr #[sv u] 9)
                have hszW : w.heap.size ≤ (wr.alloc (.cells #[sv u] 9)).heap.size := by have := HBt.out.size; simp; omega
                have hsz := HBt.out.size
                have hn : O.length + 1 ≤ 2000000 := by omega
                clear hf
                go_wp2_with (at_builtin; refine listApp T22 rfl (.tmp 52) (.tmp 54) rfl w.heap.size (.slice a5 O.length c5) O.length (O.map sv) [sv u] 1 1 ⟨wr.heap.size, 0, none⟩ rfl O5.out rfl rfl hnews.out (by simp [Value.oneCell']) hn hszW ?_; intro v8 w8 hown8 hg8 hL8)
                go_roundw
                case rel => exact ⟨k + 1, by omega, by go_num, by rw [HK.out, if_pos rfl, List.length_append, List.map_append]; exact Lib.hid hown8, Lib.hid ((HBt.out.alloc hsz _).grown hg8 hszW (fun g e => (HOf.out.lt g e).1))⟩
                case measure => simp [intOf]; omega
              | false =>
                rw [hf] at HK
                clear hf
                go_wp2
                go_roundw
                case rel => exact ⟨k + 1, by omega, by go_num, by rw [HK.out, if_neg (by simp)]; exact HOf, HBt⟩
                case measure => simp [intOf]; omega
        · have hkI : ¬ (k : Int) + 1 ≤ (x.length : Int) := by omega
          have ek : k = x.length := by omega
          subst ek
          rw [HPn.out] at HO
          go_wp2
          go_roundw
          case rel => exact ⟨j + 1, by omega, by go_num, HO, HB⟩
          case measure => simp [intOf]; omega
    · have e : X.firstsOf l (part l j 0) = X.firsts l := by rw [part_zero, List.take_of_length_le (by omega)]; rfl
      rw [e] at HO
      obtain ⟨-, a5, c5, rfl, hs5, hc5⟩ := Strs.of_ownsRow HO.out
      have HS5 := Lib.hid hs5
      clear hs5 HO
      go_wp2
      go_ret
      exact ⟨a5, c5, rfl, HS5.out, hc5, HB.out⟩
end Go.Proofs.YtcjbnifafofpbaaGreatDoor
/- Walk of the reference's Beginnings. -/
namespace Go.Proofs.YtcjbnifafofpbaaGreatDoor
open Go.RowKit
theorem topsFrom_len (l : List X.W) (m : Nat) : (X.topsFrom l m).length ≤ 11 * (X.firsts l).length := by
  unfold X.topsFrom
  rw [List.length_flatMap]
  have h : ∀ q : List Nat, (q.map (fun m => ((X.firsts l).filter (fun w => X.longest (X.ends l w) == m)).length)).sum ≤ q.length * (X.firsts l).length := by
    intro q
    induction q with
    | nil => simp
    | cons a q ih =>
      rw [List.map_cons, List.sum_cons, List.length_cons, Nat.add_mul, Nat.one_mul]
      have := List.length_filter_le (fun w => X.longest (X.ends l w) == a) (X.firsts l)
      omega
  have h2 := h ((List.range (11 - m)).map (fun k => 10 - k))
  have h3 : ((List.range (11 - m)).map (fun k => 10 - k)).length * (X.firsts l).length ≤ 11 * (X.firsts l).length := Nat.mul_le_mul_right _ (by simp)
  omega
theorem firsts_len {l : List X.W} (hl : l.length ≤ 100) (hr : ∀ s ∈ l, s.length ≤ 100) : (X.firsts l).length ≤ 10101 := by
  have h1 := firstsOf_len l (l.flatMap X.begs)
  have h2 := flat_len hr
  rw [X.firsts_eq]; omega
theorem firsts_word {l : List X.W} (hr : ∀ s ∈ l, s.length ≤ 100) : ∀ v ∈ X.firsts l, v.length ≤ 100 := by
  intro v hv
  rcases firstsOf_mem l _ v hv with rfl | h
  · simp
  · obtain ⟨s, hs, hm⟩ := List.mem_flatMap.1 h
    exact Nat.le_trans (X.mem_begs.1 hm).2.length_le (hr s hs)
theorem filter_take {p : X.W → Bool} {l : List X.W} {j : Nat} (h : j < l.length) : (l.take (j + 1)).filter p = (l.take j).filter p ++ if p (wat l j) = true then [wat l j] else [] := by
  rw [take_succ_wat l j h, List.filter_append]
  congr 1
  split
  · rename_i k; rw [List.filter_cons_of_pos k]; rfl
  · rename_i k; rw [List.filter_cons_of_neg k]; rfl
set_option maxRecDepth 20000 in
set_option maxHeartbeats 1000000 in
theorem beginnings_any (a : Option Addr) (cap : Nat) (l : List X.W) (w : World) (hl : l.length ≤ 100) (hr : ∀ s ∈ l, s.length ≤ 100) (ha : Strs w a l) :
    Calls Tryz.prog 57 #[.slice a l.length cap] w fun e w' => OutS w w' e (X.tops l) := by
  have hRm : Rooms l := fun s hs => by have := hr s hs; omega
  have HE : Hid (∀ W u, u.length ≤ 140737488355328 → Strs W a l → Calls Tryz.prog 58 #[.slice a l.length cap, sv u] W fun e w' => OutS W w' e (X.ends l u)) := Lib.hid (fun W u h1 h2 => endings_any a cap l u W (by omega) hRm h1 h2)
  have HA := Lib.hid ha
  have HFw := Lib.hid (firsts_word hr)
  have hFl := firsts_len hl hr
  have hTl := topsFrom_len l
  have HER : Hid (∀ u, Rooms (X.ends l u)) := Lib.hid (fun u e he => by have := hr _ (X.mem_ends.1 he); simp at this; omega)
  have HT0 := Lib.hid (X.topsFrom_zero l)
  have HTs := Lib.hid (fun (n : Nat) h => X.topsFrom_step l (n := n) h)
  have HTl := Lib.hid hTl
  have hF := firsts_any a cap l w hl hr ha
  generalize X.firsts l = T at *
  have HF := Lib.hid hF
  clear ha hr hRm hTl hF
  go_enter Tryz.func57, Tryz.ntmps57
  go_wp2_with fail
  refine HF.out.mono ?_
  rintro e w1 ⟨a1, c1, rfl, hs1, -, hb1⟩
  have HA1 := Lib.hid (HA.out.below hb1)
  have HB1 := Lib.hid hb1
  have HS1 := Lib.hid hs1
  clear hb1 hs1 HF HA
  go_wp2
  go_loopw [4, 5, 6] (fun o n _ wr => ∃ m : Nat, m ≤ 11 ∧ n = .int .i64 ((m : Int) - 1) ∧ Hid (wr.ownsRow w1.heap.size 9 1 o (X.topsFrom l m).length ((X.topsFrom l m).map sv)) ∧ Hid (Below w1.heap.size w1 wr)) (fun _ n _ _ => (intOf n + 1).toNat)
  case atStart => exact ⟨11, by omega, rfl, Lib.hid (World.ownsRow_nil _ _ _ _), Lib.hid (Below.refl _ _)⟩
  case round =>
    obtain ⟨m, hm, rfl, HO, HB⟩ := hrel
    by_cases h0 : 0 < m
    · obtain ⟨n, rfl⟩ : ∃ n, m = n + 1 := ⟨m - 1, by omega⟩
      have en : ((n + 1 : Nat) : Int) - 1 = (n : Int) := by omega
      rw [en]
      clear en
      have hn0 : (0 : Int) ≤ (n : Int) := by omega
      have HT := Lib.hid (HTs.out n (by omega))
      go_wp2
      go_loopw [4, 6] (fun o i wi => ∃ j : Nat, j ≤ T.length ∧ i = .int .i64 j ∧ Hid (wi.ownsRow w1.heap.size 9 1 o (X.topsFrom l (n + 1) ++ (T.take j).filter (fun w => X.longest (X.ends l w) == n)).length ((X.topsFrom l (n + 1) ++ (T.take j).filter (fun w => X.longest (X.ends l w) == n)).map sv)) ∧ Hid (Below w1.heap.size w1 wi)) (fun _ i _ => T.length - (intOf i).toNat)
      case atStart => exact ⟨0, by omega, rfl, by simpa using HO, HB⟩
      case round =>
        clear HO HB
        obtain ⟨j, hj, rfl, HO, HB⟩ := hrel
        by_cases hlt : j < T.length
        · have hltI : (j : Int) < (T.length : Int) := by omega
          obtain ⟨b, off, rfl, c2⟩ := HS1.out j hlt
          have c2 := cell_on HB.out c2
          have hvl := HFw.out _ (wat_mem hlt)
          have HS := Lib.hid (filter_take (p := fun w => X.longest (X.ends l w) == n) hlt)
          have hlen : (X.topsFrom l (n + 1) ++ (T.take j).filter (fun w => X.longest (X.ends l w) == n)).length + 1 ≤ 2000000 := by
            have h1 := HTl.out (n + 1)
            have h2 := List.length_filter_le (fun w => X.longest (X.ends l w) == n) (T.take j)
            rw [List.length_take] at h2
            rw [List.length_append]; omega
          generalize wat T j = v at *
          have HC2 := Lib.hid c2
          go_wp2_with fail
          clear c2
          refine (HE.out _ v (by omega) (HA1.out.below HB.out)).mono ?_
          rintro e w3 ⟨a6, c6, rfl, hs6, -, hb6⟩
          have HB3 := Lib.hid (HB.out.trans (hb6.mono HB.out.size))
          have HO3 := Lib.hid (owns_b HO.out hb6)
          have HC3 := Lib.hid (cell_on hb6 HC2.out)
          have HL := Lib.hid (longest_any a6 c6 (X.ends l v) w3 (by have := ends_len_le l v; omega) (HER.out v) hs6)
          clear hb6 hs6
          cases hp : X.longest (X.ends l v) == n with
          | true =>
            have hS2 : (T.take (j + 1)).filter (fun w => X.longest (X.ends l w) == n) = (T.take j).filter (fun w => X.longest (X.ends l w) == n) ++ [v] := by rw [HS.out, hp]; rfl
            have HS2 := Lib.hid hS2
            have he : X.longest (X.ends l v) = n := by simpa using hp
            rw [he] at HL
            have O5 := Lib.hid (HO3.out.alloc (.cells #[sv v] 9))
            have hnews := Lib.hid (news_new w3 #[sv v] 9)
            have hszW : w1.heap.size ≤ (w3.alloc (.cells #[sv v] 9)).heap.size := by have := HB3.out.size; simp; omega
            have hsz := HB3.out.size
            have c3 := HC3.out
            clear hp hS2 HS he
            go_wp2_with fail
            refine HL.out.mono ?_
            rintro e w4 ⟨rfl, rfl⟩
            go_wp2_with (at_builtin; refine listApp T22 rfl (.tmp 28) (.tmp 33) rfl w1.heap.size u4 (X.topsFrom l (n + 1) ++ (T.take j).filter (fun w => X.longest (X.ends l w) == n)).length ((X.topsFrom l (n + 1) ++ (T.take j).filter (fun w => X.longest (X.ends l w) == n)).map sv) [sv v] 1 1 ⟨w3.heap.size, 0, none⟩ rfl O5.out rfl rfl hnews.out (by simp [Value.oneCell']) hlen hszW ?_; intro v8 w8 hown8 hg8 hL8)
            go_roundw
            case rel => exact ⟨j + 1, by omega, by go_num, by rw [HS2.out, ← List.append_assoc, List.length_append, List.map_append]; exact Lib.hid hown8, Lib.hid ((HB3.out.alloc hsz _).grown hg8 hszW (fun g e => (HO3.out.lt g e).1))⟩
            case measure => simp [intOf]; omega
          | false =>
            have hS2 : (T.take (j + 1)).filter (fun w => X.longest (X.ends l w) == n) = (T.take j).filter (fun w => X.longest (X.ends l w) == n) := by rw [HS.out, hp]; simp
            have HS2 := Lib.hid hS2
            have he : X.longest (X.ends l v) ≠ n := by simpa using hp
            generalize X.longest (X.ends l v) = q at *
            have kn : ((q : Int) == (n : Int)) = false := by rw [beq_eq_false_iff_ne]; omega
            clear hp hS2 HS
            go_wp2_with fail
            refine HL.out.mono ?_
            rintro e w4 ⟨rfl, rfl⟩
            clear he
            go_wp2_with fail
            go_roundw
            case rel => exact ⟨j + 1, by omega, by go_num, by rw [HS2.out]; exact HO3, HB3⟩
            case measure => simp [intOf]; omega
        · have e : T.take j = T := List.take_of_length_le (by omega)
          rw [e, ← HT.out] at HO
          have hltI : ¬ (j : Int) < (T.length : Int) := by omega
          go_wp2
          go_roundw
          case rel => exact ⟨n, by omega, by first | go_num | (congr 1; omega), HO, HB⟩
          case measure => simp [intOf]
    · have e : m = 0 := by omega
      subst e
      rw [HT0.out] at HO
      obtain ⟨-, a5, c5, rfl, hs5, hc5⟩ := Strs.of_ownsRow HO.out
      have HS5 := Lib.hid hs5
      clear hs5 HO
      go_wp2
      go_ret
      exact ⟨a5, c5, rfl, HS5.out, hc5, HB1.out.trans (HB.out.mono HB1.out.size)⟩
end Go.Proofs.YtcjbnifafofpbaaGreatDoor
/- Walks of the reference's functions: two, Both, Apart. -/
namespace Go.Proofs.YtcjbnifafofpbaaGreatDoor
open Go.RowKit
/-- A slice and an error that a call gives. -/
def OutSE (w w' : World) (e : Ending) (r : List X.W × Int) : Prop := ∃ a cap, e = .returned (.tuple #[.slice a r.1.length cap, .int .i64 r.2]) ∧ Strs w' a r.1 ∧ (r.1.length ≤ cap ∧ (a = none → cap = 0)) ∧ Below w.heap.size w w'
theorem two_any (a : Option Addr) (cap : Nat) (l : List X.W) (b : Option Addr) (cap2 : Nat) (m : List X.W) (w : World) (hl : l.length ≤ 1000000) (hm : m.length ≤ 1000000) (hrl : Rooms l) (hrm : Rooms m) (ha : Strs w a l) (hb : Strs w b m) :
    Calls Tryz.prog 86 #[.slice a l.length cap, .slice b m.length cap2] w fun e w' => e = .returned (.int .i64 (X.twoE l m)) ∧ Drew w w' := by
  have HA := Lib.hid (fun W hd => checkList_any a cap l W hl hrl (ha.drew hd))
  have HB := Lib.hid (fun W hd => checkList_any b cap2 m W hm hrm (hb.drew hd))
  clear ha hb
  have HT : Hid (X.twoE l m = if X.listE l ≠ 0 then X.listE l else X.listE m) := Lib.hid rfl
  generalize X.twoE l m = t at *
  generalize X.listE l = p at *
  generalize X.listE m = q at *
  by_cases hp : p = 0
  · subst hp
    go_enter Tryz.func86, Tryz.ntmps86
    go_wp2_with fail
    refine (HA.out _ (Drew.refl _)).mono ?_
    rintro e w1 ⟨rfl, hd1⟩
    go_wp2_with fail
    refine (HB.out _ hd1).mono ?_
    rintro e w2 ⟨rfl, hd2⟩
    have HD := Lib.hid (hd1.trans hd2)
    clear hd1 hd2
    go_wp2_with fail
    go_ret
    exact ⟨ret_int HT.out.symm, HD.out⟩
  · have hb : (p != 0) = true := by simpa using hp
    have HT2 : Hid (t = p) := Lib.hid (by rw [HT.out, if_pos hp])
    go_enter Tryz.func86, Tryz.ntmps86
    go_wp2_with fail
    refine (HA.out _ (Drew.refl _)).mono ?_
    rintro e w1 ⟨rfl, hd1⟩
    have HD1 := Lib.hid hd1
    clear hd1
    go_wp2_with fail
    refine (HA.out _ HD1.out).mono ?_
    rintro e w2 ⟨rfl, hd2⟩
    have HD := Lib.hid (HD1.out.trans hd2)
    clear hd2
    go_wp2_with fail
    go_ret
    exact ⟨ret_int HT2.out.symm, HD.out⟩
set_option maxRecDepth 20000 in
theorem both_any (a : Option Addr) (cap : Nat) (l : List X.W) (b : Option Addr) (cap2 : Nat) (m : List X.W) (w : World) (hl : l.length ≤ 1000000) (hm : m.length ≤ 1000000) (hrl : Rooms l) (hrm : Rooms m) (ha : Strs w a l) (hb : Strs w b m) :
    Calls Tryz.prog 44 #[.slice a l.length cap, .slice b m.length cap2] w fun e w' => OutSE w w' e (X.bothE l m) := by
  have HT := Lib.hid (fun W hd => two_any a cap l b cap2 m W hl hm hrl hrm (ha.drew hd) (hb.drew hd))
  have HH := Lib.hid (fun W s hs => has_any b cap2 m s W hm hs)
  have HA := Lib.hid ha
  have HB := Lib.hid hb
  clear ha hb
  by_cases h : X.twoE l m = 0
  · have HE : Hid (X.bothE l m = (X.bothL l m, 0)) := Lib.hid (by unfold X.bothE; rw [if_neg (not_not_intro h)])
    rw [h] at HT
    clear h
    go_enter Tryz.func44, Tryz.ntmps44
    go_wp2_with fail
    refine (HT.out _ (Drew.refl _)).mono ?_
    rintro e w1 ⟨rfl, hd1⟩
    have HD := Lib.hid hd1
    clear hd1
    go_wp2
    go_loopw [6, 7] (fun o i wr => ∃ j : Nat, j ≤ l.length ∧ i = .int .i64 j ∧ Hid (wr.ownsRow w.heap.size 9 1 o ((l.take j).filter (fun w => m.contains w)).length (((l.take j).filter (fun w => m.contains w)).map sv)) ∧ Hid (Below w.heap.size w wr)) (fun _ i _ => l.length - (intOf i).toNat)
    case atStart => exact ⟨0, by omega, rfl, Lib.hid (World.ownsRow_nil _ _ _ _), Lib.hid (HD.out.below _)⟩
    case round =>
      obtain ⟨j, hj, rfl, HO, HBl⟩ := hrel
      by_cases hlt : j < l.length
      · have hltI : (j : Int) < (l.length : Int) := by omega
        obtain ⟨b1, off, rfl, c0⟩ := HA.out j hlt
        have c1 := cell_on HBl.out c0
        have HS := Lib.hid (filter_take (p := fun w => m.contains w) hlt)
        have hn : ((l.take j).filter (fun w => m.contains w)).length + 1 ≤ 2000000 := by
          have := List.length_filter_le (fun w => m.contains w) (l.take j)
          rw [List.length_take] at this; omega
        generalize wat l j = x at *
        have HC := Lib.hid (HH.out _ x (HB.out.below HBl.out))
        clear c0
        by_cases hx : x ∈ m
        · rw [decide_eq_true hx] at HC
          have HS2 : Hid ((l.take (j + 1)).filter (fun w => m.contains w) = (l.take j).filter (fun w => m.contains w) ++ [x]) := Lib.hid (by rw [HS.out, if_pos (by simpa using hx)])
          have O5 := Lib.hid (HO.out.alloc (.cells #[sv x] 9))
          have hnews := Lib.hid (news_new wr #[sv x] 9)
          have hszW : w.heap.size ≤ (wr.alloc (.cells #[sv x] 9)).heap.size := by have := HBl.out.size; simp; omega
          have hsz := HBl.out.size
          clear hx HS
          go_wp2_with (first | (go_at_call 49; refine HC.out.mono ?_; rintro e w3 ⟨rfl, rfl⟩) | (at_builtin; refine listApp T22 rfl (.tmp 27) (.tmp 32) rfl w.heap.size u6 ((l.take j).filter (fun w => m.contains w)).length (((l.take j).filter (fun w => m.contains w)).map sv) [sv x] 1 1 ⟨wr.heap.size, 0, none⟩ rfl O5.out rfl rfl hnews.out (by simp [Value.oneCell']) hn hszW ?_; intro v8 w8 hown8 hg8 hL8))
          go_roundw
          case rel => exact ⟨j + 1, by omega, by go_num, by rw [HS2.out, List.length_append, List.map_append]; exact Lib.hid hown8, Lib.hid ((HBl.out.alloc hsz _).grown hg8 hszW (fun g e => (HO.out.lt g e).1))⟩
          case measure => simp [intOf]; omega
        · rw [decide_eq_false hx] at HC
          have HS2 : Hid ((l.take (j + 1)).filter (fun w => m.contains w) = (l.take j).filter (fun w => m.contains w)) := Lib.hid (by rw [HS.out, if_neg (by simpa using hx)]; simp)
          clear hx HS
          go_wp2_with (go_at_call 49; refine HC.out.mono ?_; rintro e w3 ⟨rfl, rfl⟩)
          go_roundw
          case rel => exact ⟨j + 1, by omega, by go_num, by rw [HS2.out]; exact HO, HBl⟩
          case measure => simp [intOf]; omega
      · have e : l.take j = l := List.take_of_length_le (by omega)
        rw [e] at HO
        obtain ⟨-, a5, c5, rfl, hs5, hc5⟩ := Strs.of_ownsRow HO.out
        have HS5 := Lib.hid hs5
        clear hs5 HO
        go_wp2
        go_ret2
        rw [HE.out]
        exact ⟨a5, c5, rfl, HS5.out, hc5, HBl.out⟩
  · have HE : Hid (X.bothE l m = ([], X.twoE l m)) := Lib.hid (by unfold X.bothE; rw [if_pos h])
    generalize X.twoE l m = t at *
    have hb : (t != 0) = true := by simpa using h
    go_enter Tryz.func44, Tryz.ntmps44
    go_wp2_with fail
    refine (HT.out _ (Drew.refl _)).mono ?_
    rintro e w1 ⟨rfl, hd1⟩
    have HD1 := Lib.hid hd1
    clear hd1
    go_wp2_with fail
    refine (HT.out _ HD1.out).mono ?_
    rintro e w2 ⟨rfl, hd2⟩
    have HD := Lib.hid (HD1.out.trans hd2)
    clear hd2
    go_wp2_with fail
    go_ret2
    rw [HE.out]
    exact ⟨none, 0, rfl, Strs.nil _ _, by simp, HD.out.below _⟩
theorem tops_any (a : Option Addr) (cap : Nat) (l : List X.W) (w : World) (hl : X.List_ l) (ha : Strs w a l) :
    Calls Tryz.prog 57 #[.slice a l.length cap] w fun e w' => OutS w w' e (X.tops l) := beginnings_any a cap l w (by have := hl.many; omega) (fun s hs => by have := hl.long s hs; omega) ha
theorem apart_any (a : Option Addr) (cap : Nat) (l : List X.W) (w : World) (hl : l.length ≤ 1000000) (hr : Rooms l) (ha : Strs w a l) :
    Calls Tryz.prog 38 #[.slice a l.length cap] w fun e w' => OutSE w w' e (X.apartE l) := by
  have HC := Lib.hid (fun W hd => checkList_any a cap l W hl hr (ha.drew hd))
  have HA := Lib.hid ha
  clear ha
  by_cases h : X.listE l = 0
  · have HL := Lib.hid (X.listE_iff.1 h)
    have HB := Lib.hid (fun W hs => tops_any a cap l W HL.out hs)
    have HE : Hid (X.apartE l = if l = [] then ([], 0) else (X.tops l, 0)) := Lib.hid (by unfold X.apartE; rw [if_neg (not_not_intro h)])
    rw [h] at HC
    clear h
    by_cases h0 : l.length = 0
    · have HE2 : Hid (X.apartE l = ([], 0)) := Lib.hid (by rw [HE.out, if_pos (List.eq_nil_of_length_eq_zero h0)])
      have hz : ((l.length : Int) == 0) = true := by simp [h0]
      clear h0
      go_enter Tryz.func38, Tryz.ntmps38
      go_wp2_with fail
      refine (HC.out _ (Drew.refl _)).mono ?_
      rintro e w1 ⟨rfl, hd1⟩
      have HD := Lib.hid hd1
      clear hd1
      go_wp2_with fail
      go_ret2
      rw [HE2.out]
      exact ⟨none, 0, rfl, Strs.nil _ _, by simp, HD.out.below _⟩
    · have HE2 : Hid (X.apartE l = (X.tops l, 0)) := Lib.hid (by rw [HE.out, if_neg (fun e => h0 (by rw [e]; rfl))])
      have hz : ((l.length : Int) == 0) = false := by rw [beq_eq_false_iff_ne]; omega
      clear h0
      go_enter Tryz.func38, Tryz.ntmps38
      go_wp2_with fail
      refine (HC.out _ (Drew.refl _)).mono ?_
      rintro e w1 ⟨rfl, hd1⟩
      have HD := Lib.hid hd1
      clear hd1
      go_wp2_with fail
      refine (HB.out _ (HA.out.drew HD.out)).mono ?_
      rintro e w2 ⟨a5, c5, rfl, hs5, hc5, hb5⟩
      have HS5 := Lib.hid hs5
      have HB5 := Lib.hid ((HD.out.below _).trans (hb5.mono (HD.out.below w.heap.size).size))
      clear hs5 hb5
      go_wp2_with fail
      go_ret2
      rw [HE2.out]
      exact ⟨a5, c5, rfl, HS5.out, hc5, HB5.out⟩
  · have HE : Hid (X.apartE l = ([], X.listE l)) := Lib.hid (by unfold X.apartE; rw [if_pos h])
    generalize X.listE l = t at *
    have hb : (t != 0) = true := by simpa using h
    go_enter Tryz.func38, Tryz.ntmps38
    go_wp2_with fail
    refine (HC.out _ (Drew.refl _)).mono ?_
    rintro e w1 ⟨rfl, hd1⟩
    have HD1 := Lib.hid hd1
    clear hd1
    go_wp2_with fail
    refine (HC.out _ HD1.out).mono ?_
    rintro e w2 ⟨rfl, hd2⟩
    have HD := Lib.hid (HD1.out.trans hd2)
    clear hd2
    go_wp2_with fail
    go_ret2
    rw [HE.out]
    exact ⟨none, 0, rfl, Strs.nil _ _, by simp, HD.out.below _⟩
end Go.Proofs.YtcjbnifafofpbaaGreatDoor
/- Walk of the reference's CheckApart. -/
namespace Go.Proofs.YtcjbnifafofpbaaGreatDoor
open Go.RowKit
theorem wordsE_first : ∀ {ws : List X.W} {j : Nat}, j < ws.length → (∀ k, k < j → X.wordE (wat ws k) = 0) → X.wordE (wat ws j) ≠ 0 → X.wordsE ws = X.wordE (wat ws j)
  | [], j, h, _, _ => by simp at h
  | x :: r, 0, _, _, h => by
    unfold X.wordsE
    exact if_neg (show ¬ X.wordE x = 0 from h)
  | x :: r, j + 1, hj, h1, h2 => by
    have h0 : X.wordE x = 0 := h1 0 (by omega)
    unfold X.wordsE
    rw [if_pos h0]
    exact wordsE_first (by simpa using hj) (fun k hk => h1 (k + 1) (by omega)) h2
theorem wordsE_all {ws : List X.W} (h : ∀ k, k < ws.length → X.wordE (wat ws k) = 0) : X.wordsE ws = 0 := X.wordsE_ok.2 (fun w hw => by
  obtain ⟨k, hk, rfl⟩ := List.getElem_of_mem hw
  rw [← wat_eq ws k hk]; exact h k hk)
theorem tells_iff (l : List X.W) : ∀ {ws : List X.W} {seen : List (List X.W)}, X.tellsB l ws seen = true ↔ ∀ i, i < ws.length → X.ends l (wat ws i) ≠ [] ∧ X.ends l (wat ws i) ∉ seen ∧ ∀ k, k < i → X.ends l (wat ws k) ≠ X.ends l (wat ws i)
  | [], seen => by simp [X.tellsB]
  | x :: r, seen => by
    have ih := tells_iff l (ws := r) (seen := seen ++ [X.ends l x])
    unfold X.tellsB
    constructor
    · intro h
      split at h
      · cases h
      · rename_i hc
        simp only [Bool.or_eq_true, List.isEmpty_iff, List.contains_eq_mem, decide_eq_true_eq, not_or] at hc
        rw [ih] at h
        intro i hi
        cases i with
        | zero => exact ⟨hc.1, hc.2, fun k hk => by omega⟩
        | succ i =>
          obtain ⟨h1, h2, h3⟩ := h i (by simpa using hi)
          rw [List.mem_append, not_or] at h2
          refine ⟨h1, h2.1, fun k hk => ?_⟩
          cases k with
          | zero => exact fun e => h2.2 (by rw [List.mem_singleton]; exact e.symm)
          | succ k => exact h3 k (by omega)
    · intro h
      have h0 := h 0 (by simp)
      rw [if_neg]
      · rw [ih]
        intro i hi
        obtain ⟨h1, h2, h3⟩ := h (i + 1) (by simpa using hi)
        refine ⟨h1, fun hm => ?_, fun k hk => h3 (k + 1) (by omega)⟩
        rcases List.mem_append.1 hm with hm | hm
        · exact h2 hm
        · exact h3 0 (by omega) (List.mem_singleton.1 hm).symm
      · simp only [Bool.or_eq_true, List.isEmpty_iff, List.contains_eq_mem, decide_eq_true_eq, not_or]
        exact ⟨h0.1, h0.2.1⟩
/-- What has been seen of the words ahead of the i-th one. -/
def Told (l ws : List X.W) (i : Nat) : Prop := ∀ j, j < i → X.ends l (wat ws j) ≠ [] ∧ ∀ k, k < j → X.ends l (wat ws k) ≠ X.ends l (wat ws j)
theorem told_all {l ws : List X.W} (h : Told l ws ws.length) : X.tellsB l ws [] = true := (tells_iff l).2 (fun i hi => ⟨(h i hi).1, by simp, (h i hi).2⟩)
theorem told_none {l ws : List X.W} {i : Nat} (hi : i < ws.length) (h : X.ends l (wat ws i) = []) : X.tellsB l ws [] = false := by
  cases k : X.tellsB l ws [] with
  | false => rfl
  | true => exact absurd h (((tells_iff l).1 k) i hi).1
theorem told_same {l ws : List X.W} {i k : Nat} (hi : i < ws.length) (hk : k < i) (h : X.ends l (wat ws k) = X.ends l (wat ws i)) : X.tellsB l ws [] = false := by
  cases q : X.tellsB l ws [] with
  | false => rfl
  | true => exact absurd h ((((tells_iff l).1 q) i hi).2.2 k hk)
set_option maxRecDepth 20000 in
set_option maxHeartbeats 1000000 in
theorem checkApart_any (a : Option Addr) (cap : Nat) (l : List X.W) (b : Option Addr) (cap2 : Nat) (ws : List X.W) (w : World) (hl : l.length ≤ 1000000) (hm : ws.length ≤ 1000000) (hrl : Rooms l) (hrm : Rooms ws) (ha : Strs w a l) (hb : Strs w b ws) :
    Calls Tryz.prog 36 #[.slice a l.length cap, .slice b ws.length cap2] w fun e w' => e = .returned (.tuple #[.int .i64 (X.checkApartE l ws).1, .int .i64 (X.checkApartE l ws).2]) ∧ Below w.heap.size w w' := by
  have HC := Lib.hid (fun W hd => checkList_any a cap l W hl hrl (ha.drew hd))
  have HE : Hid (∀ W u, u.length ≤ 140737488355328 → Strs W a l → Calls Tryz.prog 58 #[.slice a l.length cap, sv u] W fun e w' => OutS W w' e (X.ends l u)) := Lib.hid (fun W u h1 h2 => endings_any a cap l u W hl hrl h1 h2)
  have HA := Lib.hid ha
  have HB := Lib.hid hb
  have HR := Lib.hid hrm
  clear ha hb hrl hrm
  by_cases h : X.listE l = 0
  · have HF0 : Hid (X.checkApartE l ws = if 301 < ws.length then (0, 6) else if X.wordsE ws ≠ 0 then (0, X.wordsE ws) else if X.tellsB l ws [] = true then ((ws.length : Int), 0) else (0, 25)) := Lib.hid (by unfold X.checkApartE; rw [if_neg (not_not_intro h)])
    rw [h] at HC
    clear h
    by_cases h3 : 301 < ws.length
    · have HF : Hid (X.checkApartE l ws = (0, 6)) := Lib.hid (by rw [HF0.out, if_pos h3])
      have hI : (301 : Int) < (ws.length : Int) := by omega
      go_enter Tryz.func36, Tryz.ntmps36
      go_wp2_with fail
      refine (HC.out _ (Drew.refl _)).mono ?_
      rintro e w1 ⟨rfl, hd1⟩
      have HD := Lib.hid hd1
      clear hd1
      go_wp2_with fail
      go_ret2
      rw [HF.out]
      exact ⟨rfl, HD.out.below _⟩
    · have HF1 : Hid (X.checkApartE l ws = if X.wordsE ws ≠ 0 then (0, X.wordsE ws) else if X.tellsB l ws [] = true then ((ws.length : Int), 0) else (0, 25)) := Lib.hid (by rw [HF0.out, if_neg h3])
      have hI : ¬ (301 : Int) < (ws.length : Int) := by omega
      clear HF0 h3
      go_enter Tryz.func36, Tryz.ntmps36
      go_wp2_with fail
      refine (HC.out _ (Drew.refl _)).mono ?_
      rintro e w1 ⟨rfl, hd1⟩
      have HD := Lib.hid (hd1.below w.heap.size)
      clear hd1 HC
      go_wp2
      go_loop [6] (fun i => ∃ j : Nat, j ≤ ws.length ∧ i = .int .i64 j ∧ Hid (∀ k, k < j → X.wordE (wat ws k) = 0)) (fun i => ws.length - (intOf i).toNat)
      case atStart => exact ⟨0, by omega, rfl, Lib.hid (fun k h => by omega)⟩
      case round =>
        obtain ⟨j, hj, rfl, HL⟩ := hrel
        by_cases hlt : j < ws.length
        · have hltI : (j : Int) < (ws.length : Int) := by omega
          obtain ⟨b1, off, rfl, c0⟩ := HB.out j hlt
          have c1 := cell_on HD.out c0
          have hxr := HR.out _ (wat_mem hlt)
          have HFst := Lib.hid (fun h => wordsE_first hlt HL.out h)
          have HNx : Hid (X.wordE (wat ws j) = 0 → ∀ k, k < j + 1 → X.wordE (wat ws k) = 0) := Lib.hid (fun h k hk => by
            by_cases e : k = j
            · subst e; exact h
            · exact HL.out k (by omega))
          generalize wat ws j = x at *
          have HW := Lib.hid (fun W => word_any x W hxr)
          clear c0
          by_cases hx : X.wordE x = 0
          · have HN := Lib.hid (HNx.out hx)
            rw [hx] at HW
            clear hx HFst HNx
            go_wp2_with (go_at_call 48; refine (HW.out _).mono ?_; rintro e w3 ⟨rfl, rfl⟩)
            go_round
            case rel => exact ⟨j + 1, by omega, by go_num, HN⟩
            case measure => simp [intOf]; omega
          · have HF : Hid (X.checkApartE l ws = (0, X.wordE x)) := Lib.hid (by rw [HF1.out, HFst.out hx, if_pos hx])
            clear HFst HNx
            generalize X.wordE x = q at *
            have hq : (q != 0) = true := by simpa using hx
            go_wp2_with (go_at_call 48; refine (HW.out _).mono ?_; rintro e w3 ⟨rfl, rfl⟩)
            go_ret2
            rw [HF.out]
            exact ⟨rfl, HD.out⟩
        · have HF2 : Hid (X.checkApartE l ws = if X.tellsB l ws [] = true then ((ws.length : Int), 0) else (0, 25)) := Lib.hid (by rw [HF1.out, wordsE_all (fun k hk => HL.out k (by omega))]; rfl)
          clear HL HF1
          go_wp2
          clear hlt hj
          go_loopw [7, 8, 9] (fun i _ _ wr => ∃ j : Nat, j ≤ ws.length ∧ i = .int .i64 j ∧ Hid (Told l ws j) ∧ Hid (Below w.heap.size w wr)) (fun i _ _ _ => ws.length - (intOf i).toNat)
          case atStart => exact ⟨0, by omega, rfl, Lib.hid (fun k h => by omega), HD⟩
          case round =>
            obtain ⟨j, hj, rfl, HL, HBl⟩ := hrel
            by_cases hlt : j < ws.length
            · have hltI : (j : Int) < (ws.length : Int) := by omega
              obtain ⟨b1, off, rfl, c0⟩ := HB.out j hlt
              have c1 := cell_on HBl.out c0
              have hxr := HR.out _ (wat_mem hlt)
              have HN0 := Lib.hid (fun h => told_none (l := l) hlt h)
              have HN1 := Lib.hid (fun k hk h => told_same (l := l) (k := k) hlt hk h)
              have HNx : Hid (X.ends l (wat ws j) ≠ [] → (∀ k, k < j → X.ends l (wat ws k) ≠ X.ends l (wat ws j)) → Told l ws (j + 1)) := Lib.hid (fun h1 h2 q hq => by
                by_cases e : q = j
                · subst e; exact ⟨h1, h2⟩
                · exact HL.out q (by omega))
              generalize wat ws j = x at *
              have hEl := ends_len_le l x
              clear c0 HL
              go_wp2_with fail
              refine (HE.out _ x hxr (HA.out.below HBl.out)).mono ?_
              rintro e w3 ⟨a6, c6, rfl, hs6, -, hb6⟩
              have HB3 := Lib.hid (HBl.out.trans (hb6.mono HBl.out.size))
              have HS6 := Lib.hid hs6
              clear hb6 hs6 c1
              generalize X.ends l x = Ex at *
              by_cases h0 : Ex.length = 0
              · have HF : Hid (X.checkApartE l ws = (0, 25)) := Lib.hid (by rw [HF2.out, HN0.out (List.eq_nil_of_length_eq_zero h0)]; rfl)
                have hz : ((Ex.length : Int) == 0) = true := by simp [h0]
                clear h0
                go_wp2_with fail
                go_ret2
                rw [HF.out]
                exact ⟨rfl, HB3.out⟩
              · have HNx2 := Lib.hid (HNx.out (fun e => h0 (by rw [e]; rfl)))
                have hz : ((Ex.length : Int) == 0) = false := by rw [beq_eq_false_iff_ne]; omega
                clear h0 HNx HN0
                go_wp2_with fail
                go_loopw [9] (fun i wi => ∃ k : Nat, k ≤ j ∧ i = .int .i64 k ∧ Hid (∀ q, q < k → X.ends l (wat ws q) ≠ Ex) ∧ Hid (Below w3.heap.size w3 wi)) (fun i _ => j - (intOf i).toNat)
                case atStart => exact ⟨0, by omega, rfl, Lib.hid (fun q h => by omega), Lib.hid (Below.refl _ _)⟩
                case round =>
                  obtain ⟨k, hk, rfl, HK, HBi⟩ := hrel
                  have HBw := Lib.hid (HB3.out.trans (HBi.out.mono HB3.out.size))
                  by_cases hkj : k < j
                  · have hkI : (k : Int) < (j : Int) := by omega
                    have hk0 : (0 : Int) ≤ (k : Int) := by omega
                    have hkw : (k : Int) < (ws.length : Int) := by omega
                    have c2 := cell_on HBw.out (HB.out.cellAt k (by omega))
                    have hyr := HR.out _ (wat_mem (show k < ws.length by omega))
                    have HN2 := Lib.hid (HN1.out k hkj)
                    have HKn : Hid (X.ends l (wat ws k) ≠ Ex → ∀ q, q < k + 1 → X.ends l (wat ws q) ≠ Ex) := Lib.hid (fun h q hq => by
                      by_cases e : q = k
                      · subst e; exact h
                      · exact HK.out q (by omega))
                    generalize wat ws k = y at *
                    have hEy := ends_len_le l y
                    clear HK
                    go_wp2_with fail
                    refine (HE.out _ y hyr (HA.out.below HBw.out)).mono ?_
                    rintro e w4 ⟨a7, c7, rfl, hs7, -, hb7⟩
                    have HB4 := Lib.hid (HBi.out.trans (hb7.mono HBi.out.size))
                    have HSm := Lib.hid (fun h => same_any a7 c7 (X.ends l y) a6 c6 Ex w4 h hs7 ((HS6.out.below HBi.out).below hb7))
                    have HBw4 := Lib.hid (HBw.out.trans (hb7.mono HBw.out.size))
                    clear hb7 hs7 c2
                    generalize X.ends l y = Ey at *
                    go_wp2_with fail
                    refine (HSm.out (by omega)).mono ?_
                    rintro e w5 ⟨rfl, hd⟩
                    have HB5 := Lib.hid (HB4.out.trans (hd.below _))
                    have HBw5 := Lib.hid (HBw4.out.trans (hd.below _))
                    clear hd
                    by_cases hxy : Ey = Ex
                    · have HF : Hid (X.checkApartE l ws = (0, 25)) := Lib.hid (by rw [HF2.out, HN2.out hxy]; rfl)
                      rw [decide_eq_true hxy]
                      clear hxy
                      go_wp2_with fail
                      go_ret2
                      rw [HF.out]
                      exact ⟨rfl, HBw5.out⟩
                    · have HKn2 := Lib.hid (HKn.out hxy)
                      rw [decide_eq_false hxy]
                      clear hxy
                      go_wp2_with fail
                      go_roundw
                      case rel => exact ⟨k + 1, by omega, by go_num, HKn2, HB5⟩
                      case measure => simp [intOf]; omega
                  · have e : k = j := by omega
                    subst e
                    have HT := Lib.hid (HNx2.out HK.out)
                    clear HK
                    go_wp2_with fail
                    go_roundw
                    case rel => exact ⟨k + 1, by omega, by go_num, HT, HBw⟩
                    case measure => simp [intOf]; omega
            · have e : j = ws.length := by omega
              subst e
              have HF : Hid (X.checkApartE l ws = ((ws.length : Int), 0)) := Lib.hid (by rw [HF2.out, told_all HL.out]; rfl)
              go_wp2_with fail
              go_ret2
              rw [HF.out]
              exact ⟨rfl, HBl.out⟩
  · have HF : Hid (X.checkApartE l ws = (0, X.listE l)) := Lib.hid (by unfold X.checkApartE; rw [if_pos h])
    generalize X.listE l = t at *
    have hb : (t != 0) = true := by simpa using h
    go_enter Tryz.func36, Tryz.ntmps36
    go_wp2_with fail
    refine (HC.out _ (Drew.refl _)).mono ?_
    rintro e w1 ⟨rfl, hd1⟩
    have HD1 := Lib.hid hd1
    clear hd1
    go_wp2_with fail
    refine (HC.out _ HD1.out).mono ?_
    rintro e w2 ⟨rfl, hd2⟩
    have HD := Lib.hid (HD1.out.trans hd2)
    clear hd2
    go_wp2_with fail
    go_ret2
    rw [HF.out]
    exact ⟨rfl, HD.out.below _⟩
end Go.Proofs.YtcjbnifafofpbaaGreatDoor
