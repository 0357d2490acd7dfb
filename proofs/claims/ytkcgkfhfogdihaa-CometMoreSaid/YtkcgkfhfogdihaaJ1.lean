/- One text of Base, Plain, RefA, RefB, RefC, RefD, RefE, MathA, MathB, RefF, RefG, RefH, RefI. -/
import Derived.Test.YtkcgkfhfogdihaaRows
import Derived.WalkKit
import Derived.WalkSpells
import Derived.WalkLawsBesides
import Derived.Deep.QuietTactic
import Derived.BigQuiet
import Derived.Handy
import Derived.Lib.Hide
import Derived.Deep.RegionWith
import Derived.Deep.RegionHeld3
import Derived.Deep.LoopGhost
import Derived.StillTailTactics
import Derived.Deep.AppendLies
import Derived.Maps.AppendAt
import Derived.Outline
/- Words for walks: what a slice of integers reads as, in whatever world. -/
namespace Go.Proofs.Ytkcgkfhfogdihaa
open Go.RowKit

/-- The element at an index; 0 beyond the end. -/
def nth (zs : List Int) (i : Nat) : Int := zs.getD i 0
theorem nth_eq (zs : List Int) (i : Nat) (h : i < zs.length) : nth zs i = zs[i] := by simp [nth, h]
theorem nth_append_left (xs ys : List Int) (i : Nat) (h : i < xs.length) : nth (xs ++ ys) i = nth xs i := by
  unfold nth; simp [List.getD, List.getElem?_append_left h]
theorem take_succ_nth (zs : List Int) (i : Nat) (h : i < zs.length) : zs.take (i + 1) = zs.take i ++ [nth zs i] := by
  rw [List.take_succ_eq_append_getElem h, nth_eq zs i h]

/-- A slice at the address a reads, from its first cell on, as integers of a kind. -/
def Ints (k : IntKind) (w : World) (a : Option Addr) (zs : List Int) : Prop :=
  ∀ i, i < zs.length → ∃ b off, a = some ⟨b, off, none⟩ ∧ w.cell? ⟨b, off + i, none⟩ = some (.int k (nth zs i))

theorem Ints.nil (k : IntKind) (w : World) (a : Option Addr) : Ints k w a [] := fun i h => by simp at h
theorem Ints.cellAt {k : IntKind} {w : World} {b off : Nat} {zs : List Int} (h : Ints k w (some ⟨b, off, none⟩) zs) (i : Nat) (hi : i < zs.length) : w.cell? ⟨b, off + i, none⟩ = some (.int k (nth zs i)) := by
  obtain ⟨b', off', e, hc⟩ := h i hi; cases e; exact hc
theorem Ints.at {k : IntKind} {w : World} {a : Option Addr} {zs : List Int} (h : Ints k w a zs) (hp : 0 < zs.length) : ∃ b off, a = some ⟨b, off, none⟩ ∧ b < w.heap.size := by
  obtain ⟨b, off, e, hc⟩ := h 0 hp; exact ⟨b, off, e, World.block_lt_of_cell? w _ hc⟩
theorem Ints.below {k : IntKind} {w w' : World} {a : Option Addr} {zs : List Int} (h : Ints k w a zs) (hb : Below w.heap.size w w') : Ints k w' a zs := by
  intro i hi
  obtain ⟨b, off, ha, hc⟩ := h i hi
  exact ⟨b, off, ha, (hb.cell (p := ⟨b, off + i, none⟩) (World.block_lt_of_cell? w _ hc)).trans hc⟩
theorem Ints.drewN {k : IntKind} {w : World} {a : Option Addr} {zs : List Int} (h : Ints k w a zs) (n : Nat) : Ints k (w.drewN n) a zs := h
theorem Ints.of_ownsRow {k : IntKind} {w : World} {base : Nat} {e : TypeId} {v : Value} {n : Nat} {zs : List Int} (h : w.ownsRow base e 1 v n (zs.map (.int k))) :
    n = zs.length ∧ ∃ a cap, v = .slice a n cap ∧ Ints k w a zs ∧ n ≤ cap := by
  have hl : n = zs.length := by have := h.1; simp at this; omega
  refine ⟨hl, ?_⟩
  rcases h.2 with ⟨rfl, rfl⟩ | ⟨g, cap, cur, rfl, hb, hg, hn, hm, hs, ht⟩
  · exact ⟨none, 0, rfl, fun i hi => by omega, Nat.le_refl _⟩
  · refine ⟨_, cap, rfl, fun i hi => ⟨g, 0, rfl, ?_⟩, hn⟩
    have := h.cells (g := g) rfl i (.int k (nth zs i)) (by simp [nth, hi])
    have e : (⟨g, 0, none⟩ : Addr).add i = ⟨g, 0 + i, none⟩ := by unfold Addr.add; split <;> simp_all
    rw [e] at this; exact this

theorem ret_bool {a b : Bool} (h : a = b) : Ending.returned (.bool a) = Ending.returned (.bool b) := by rw [h]
theorem ret_int {k : IntKind} {a b : Int} (h : a = b) : Ending.returned (.int k a) = Ending.returned (.int k b) := by rw [h]
/-- The world has only drawn. -/
def Drew (w w' : World) : Prop := ∃ n, w' = w.drewN n
theorem Drew.refl (w : World) : Drew w w := ⟨0, rfl⟩
theorem Drew.trans {a b c : World} (h : Drew a b) (k : Drew b c) : Drew a c := by
  obtain ⟨n, rfl⟩ := h; obtain ⟨m, rfl⟩ := k; exact ⟨n + m, by rw [World.drewN_drewN]⟩
theorem Drew.drewN {a b : World} (h : Drew a b) (n : Nat) : Drew a (b.drewN n) := h.trans ⟨n, rfl⟩
theorem Drew.cell {w w' : World} (h : Drew w w') (a : Addr) : w'.cell? a = w.cell? a := by obtain ⟨n, rfl⟩ := h; rfl
theorem Drew.below {w w' : World} (h : Drew w w') (B : Nat) : Below B w w' := by obtain ⟨n, rfl⟩ := h; exact ⟨rfl, rfl, rfl, Nat.le_refl _, fun _ _ => rfl⟩
theorem Ints.drew {k : IntKind} {w w' : World} {a : Option Addr} {zs : List Int} (h : Ints k w a zs) (hd : Drew w w') : Ints k w' a zs := by
  intro i hi; obtain ⟨b, off, ha, hc⟩ := h i hi; exact ⟨b, off, ha, (hd.cell _).trans hc⟩
/-- A contract that leaves the world be, or only draws, serves in a region that draws. -/
theorem quiet_same {P : Program} {f : FuncId} {args : Array Value} {w : World} {v : Value} {n : Nat} (h : Calls P f args (w.drewN n) fun e w' => e = .returned v ∧ w.drewN n = w') :
    Calls P f args (w.drewN n) fun e w'' => e = .returned v ∧ ∃ m, w'' = w.drewN m := h.mono fun _ _ ⟨he, hm⟩ => ⟨he, n, hm.symm⟩
theorem quiet_drew {P : Program} {f : FuncId} {args : Array Value} {w : World} {v : Value} {n : Nat} (h : Calls P f args (w.drewN n) fun e w' => e = .returned v ∧ Drew (w.drewN n) w') :
    Calls P f args (w.drewN n) fun e w'' => e = .returned v ∧ ∃ m, w'' = w.drewN m := h.mono fun _ _ ⟨he, m, hm⟩ => ⟨he, n + m, by rw [hm, World.drewN_drewN]⟩

theorem grownBy_of_below {w w' : World} (h : Below w.heap.size w w') (row : Option Nat) : w.grownBy w' row := ⟨h.os, h.tape, h.output, h.size, fun k hk _ => h.block k hk⟩
theorem owns_below {w w' : World} {base : Nat} {e : TypeId} {size : Nat} {v : Value} {n : Nat} {xs : List Value} (h : w.ownsRow base e size v n xs) (hb : Below w.heap.size w w') : w'.ownsRow base e size v n xs :=
  h.kept (grownBy_of_below hb none) (by cases v.ownBlock <;> simp)
theorem owns_mono {w : World} {base base' : Nat} {e : TypeId} {size : Nat} {v : Value} {n : Nat} {xs : List Value} (h : w.ownsRow base e size v n xs) (hb : base' ≤ base) : w.ownsRow base' e size v n xs := by
  refine ⟨h.1, ?_⟩
  rcases h.2 with h | ⟨g, cap, cur, hv, hg, r⟩
  · exact .inl h
  · exact .inr ⟨g, cap, cur, hv, Nat.le_trans hb hg, r⟩
/-- The length of a slice's value: for measures. -/
def lenV : Value → Nat | .slice _ n _ => n | _ => 0

/-- A slice type and its element's type, as the program's tables have them. -/
structure RowT (t e : TypeId) (z : Value) (size bytes : Nat) : Prop where
  ht : Try.prog.underlying t = some (.slice e)
  hi : (Try.prog.info? e).map (fun i => (i.zero, i.size, i.bytes)) = some (some z, size, bytes)
  hz : z.cells.size = size
  hs : 0 < size ∧ bytes ≤ 1000
theorem T22 : RowT 22 2 (.int .i64 0) 1 8 := ⟨Try.underlying22, by kernel_rfl, rfl, by decide⟩
theorem T34 : RowT 34 3 (.int .i64 0) 1 8 := ⟨Try.underlying34, by kernel_rfl, rfl, by decide⟩
theorem T31 : RowT 31 57 (.agg #[.int .i64 0, .int .i64 0]) 2 16 := ⟨Try.underlying31, by kernel_rfl, rfl, by decide⟩
theorem T101 : RowT 101 22 (.slice none 0 0) 1 24 := ⟨Try.underlying101, by kernel_rfl, rfl, by decide⟩
theorem T87 : RowT 87 76 (.agg #[.int .i64 0, .int .i64 0, .int .i64 0, .int .i64 0]) 4 32 := ⟨Try.underlying87, by kernel_rfl, rfl, by decide⟩
theorem cell_new1 (w : World) (x : Value) (t : TypeId) : (w.alloc (.cells #[x] t)).cell? ⟨w.heap.size, 0, none⟩ = some x := by simp
/-- What a block that was just laid holds. -/
theorem news_new (w : World) (c : Array Value) (t : TypeId) : ∀ j u, c.toList[j]? = some u → (w.alloc (.cells c t)).cell? ((⟨w.heap.size, 0, none⟩ : Addr).add j) = some u := by
  intro j u hj
  have e : (⟨w.heap.size, 0, none⟩ : Addr).add j = ⟨w.heap.size, j, none⟩ := by unfold Addr.add; split <;> simp_all
  rw [e]
  simpa using hj
/-- Where the value of a row lies behind an append. -/
def Lies (v v' : Value) (H : Nat) : Prop := v'.ownBlock = v.ownBlock ∨ v'.ownBlock = some H
/-- 'append(s, x ..)' onto a row of the call's own; what is appended lies in cells of its own. -/
theorem wpApp {t e : TypeId} {z : Value} {size bytes : Nat} (R : RowT t e z size bytes) {o : Oper} {a : Act} {W : World} {K : Act → World → Prop} {Q : Exit → Act → World → Prop} (s x : Operand)
    (ho : o.op = .call { callee := .builtin .append, args := #[s, x], argTypes := #[t, t] }) (base : Nat) (v : Value) (n : Nat) (xs : List Value) (news : List Value) (m c : Nat) (ad : Addr) (hs : a.eval s = v)
    (hown : W.ownsRow base e size v n xs) (hx : a.eval x = .slice (some ad) m c) (hl : news.length = m * size) (hnews : ∀ j u, news[j]? = some u → W.cell? (ad.add j) = some u) (h1 : ∀ u ∈ news, u.oneCell' = true) (hn : n + m ≤ 2000000) (hbase : base ≤ W.heap.size)
    (h : ∀ v' w', w'.ownsRow base e size v' (n + m) (xs ++ news) → W.grownBy w' v.ownBlock → Lies v v' W.heap.size → K (a.put o.dst v') w') : o.wp Try.prog a W K Q := by
  obtain ⟨i0, hi, hz0, hz1, hz2⟩ := info_parts R.hi
  have hb := R.hs.2
  have hbytes : (n + m) * bytes ≤ 140737488355328 := Nat.le_trans (Nat.mul_le_mul hn hb) (by decide)
  obtain ⟨v', w', hr, h2, h3, _, h5⟩ := run_append_own_at (P := Try.prog) W base t o.type e i0 z size bytes R.ht hi hz0 hz1 hz2 R.hz R.hs.1 v n xs hown ad m c news hl hnews h1 (by unfold maxLen; omega) hbytes hbase
  unfold Oper.wp execOp
  simp only [ho, resolve, invoke, builtin, Sem.run_bind, Sem.run_pure, Result.andThen_ok, List.map_toArray, List.map_cons, List.map_nil, hs, hx, hr]
  exact h v' w' h2 h3 h5
theorem listApp {t e : TypeId} {z : Value} {size bytes : Nat} (R : RowT t e z size bytes) {ops : Array Oper} {rest : List Oper} {o : Oper} {a : Act} {W : World} {Q : Exit → Act → World → Prop} (hgd : o.guard = none) (s x : Operand)
    (ho : o.op = .call { callee := .builtin .append, args := #[s, x], argTypes := #[t, t] }) (base : Nat) (v : Value) (n : Nat) (xs : List Value) (news : List Value) (m c : Nat) (ad : Addr) (hs : a.eval s = v)
    (hown : W.ownsRow base e size v n xs) (hx : a.eval x = .slice (some ad) m c) (hl : news.length = m * size) (hnews : ∀ j u, news[j]? = some u → W.cell? (ad.add j) = some u) (h1 : ∀ u ∈ news, u.oneCell' = true) (hn : n + m ≤ 2000000) (hbase : base ≤ W.heap.size)
    (h : ∀ v' w', w'.ownsRow base e size v' (n + m) (xs ++ news) → W.grownBy w' v.ownBlock → Lies v v' W.heap.size → wpList Try.prog ops Q rest (a.put o.dst v') w') :
    wpList Try.prog ops Q (o :: rest) a W :=
  wpList_plain hgd fun _ hK => wpApp R s x ho base v n xs news m c ad hs hown hx hl hnews h1 hn hbase fun v' w' h1 h2 h3 => hK _ _ (h v' w' h1 h2 h3)
/-- The same at a step of a region that draws its order. -/
theorem stepApp {t e : TypeId} {z : Value} {size bytes : Nat} (R : RowT t e z size bytes) {ops : Array Oper} {o : Oper} {a : Act} {W : World} {K : Act → World → Prop} {Q : Exit → Act → World → Prop} {E : Prop} (hgd : o.guard = none) (s x : Operand)
    (ho : o.op = .call { callee := .builtin .append, args := #[s, x], argTypes := #[t, t] }) (base : Nat) (v : Value) (n : Nat) (xs : List Value) (news : List Value) (m c : Nat) (ad : Addr) (hs : a.eval s = v)
    (hown : W.ownsRow base e size v n xs) (hx : a.eval x = .slice (some ad) m c) (hl : news.length = m * size) (hnews : ∀ j u, news[j]? = some u → W.cell? (ad.add j) = some u) (h1 : ∀ u ∈ news, u.oneCell' = true) (hn : n + m ≤ 2000000) (hbase : base ≤ W.heap.size)
    (h : ∀ v' w', w'.ownsRow base e size v' (n + m) (xs ++ news) → W.grownBy w' v.ownBlock → Lies v v' W.heap.size → K (a.put o.dst v') w') :
    if Region.wanted o (yielded ops a.tmps) = true then Oper.wp Try.prog o a W K Q else E := by
  have hw : Region.wanted o (yielded ops a.tmps) = true := by simp [Region.wanted, hgd]
  rw [if_pos hw]
  exact wpApp R s x ho base v n xs news m c ad hs hown hx hl hnews h1 hn hbase h
/-- A slice that does not lie in the row of the call's own, and there already. -/
def Off (w : World) (v : Value) (a : Option Addr) : Prop := ∀ b off, a = some ⟨b, off, none⟩ → v.ownBlock ≠ some b ∧ b < w.heap.size
theorem Off.app {w w' : World} {v v' : Value} {a : Option Addr} (h : Off w v a) (hg : w.grownBy w' v.ownBlock) (hl : Lies v v' w.heap.size) : Off w' v' a := by
  intro b off e
  obtain ⟨h1, h2⟩ := h b off e
  refine ⟨fun e' => ?_, Nat.lt_of_lt_of_le h2 hg.size⟩
  rcases hl with hl | hl
  · exact h1 (hl ▸ e')
  · rw [e'] at hl; cases hl; omega
theorem Off.below {w w' : World} {v : Value} {a : Option Addr} (h : Off w v a) (hb : w.heap.size ≤ w'.heap.size) : Off w' v a := fun b off e => ⟨(h b off e).1, Nat.lt_of_lt_of_le (h b off e).2 hb⟩
theorem Off.nil {w : World} {a : Option Addr} (h : ∀ b off, a = some ⟨b, off, none⟩ → b < w.heap.size) : Off w (.slice none 0 0) a := fun b off e => ⟨by simp [Value.ownBlock], h b off e⟩
/-- A slice that lies behind the row, the row being there since before. -/
theorem Off.behind {w : World} {v : Value} {a : Option Addr} (B : Nat) (hv : ∀ g, v.ownBlock = some g → g < B) (ha : ∀ b off, a = some ⟨b, off, none⟩ → B ≤ b ∧ b < w.heap.size) : Off w v a := fun b off e =>
  ⟨fun e' => by have := hv b e'; have := (ha b off e).1; omega, (ha b off e).2⟩
theorem Off.ahead {w : World} {base : Nat} {e : TypeId} {size : Nat} {v : Value} {n : Nat} {xs : List Value} (h : w.ownsRow base e size v n xs) {a : Option Addr} (ha : ∀ b off, a = some ⟨b, off, none⟩ → b < base) (hb : base ≤ w.heap.size) : Off w v a := fun b off e1 =>
  ⟨fun e2 => by have := (h.lt b e2).1; have := ha b off e1; omega, by have := ha b off e1; omega⟩
theorem Ints.grown {k : IntKind} {w w' : World} {a : Option Addr} {zs : List Int} {v : Value} (h : Ints k w a zs) (hg : w.grownBy w' v.ownBlock) (hr : Off w v a) : Ints k w' a zs := by
  intro i hi
  obtain ⟨b, off, ha, hc⟩ := h i hi
  exact ⟨b, off, ha, hg.cell hc (fun e => (hr b off ha).1 e.symm)⟩
theorem Ints.alloc {k : IntKind} {w : World} {a : Option Addr} {zs : List Int} (h : Ints k w a zs) (o : Obj) : Ints k (w.alloc o) a zs := by
  intro i hi
  obtain ⟨b, off, ha, hc⟩ := h i hi
  exact ⟨b, off, ha, (World.grownBy_alloc w o none).cell hc (by simp)⟩
/-- n rounds of a counted loop: the round k makes of x what f k makes of it. -/
def up {α : Sort _} (f : Nat → α → α) (x : α) : Nat → α
  | 0 => x
  | k + 1 => f k (up f x k)
theorem up_succ {α : Sort _} (f : Nat → α → α) (x : α) (k : Nat) : up f x (k + 1) = f k (up f x k) := rfl
/-- A sighting's day, and its place. -/
def dayN (l : List (Int × Int)) (i : Nat) : Int := (l.getD i (0, 0)).1
def plcN (l : List (Int × Int)) (i : Nat) : Int := (l.getD i (0, 0)).2
/-- A slice at the address a reads as sightings. -/
def Sigs (w : World) (a : Option Addr) (l : List (Int × Int)) : Prop :=
  ∀ i, i < l.length → ∃ b off, a = some ⟨b, off, none⟩ ∧ w.cell? ⟨b, off + i * 2, none⟩ = some (.int .i64 (dayN l i)) ∧ w.cell? ⟨b, off + i * 2 + 1, none⟩ = some (.int .i64 (plcN l i))
theorem Sigs.below {w w' : World} {a : Option Addr} {l : List (Int × Int)} (h : Sigs w a l) (hb : Below w.heap.size w w') : Sigs w' a l := by
  intro i hi
  obtain ⟨b, off, ha, h1, h2⟩ := h i hi
  exact ⟨b, off, ha, (hb.cell (p := ⟨b, off + i * 2, none⟩) (World.block_lt_of_cell? w _ h1)).trans h1, (hb.cell (p := ⟨b, off + i * 2 + 1, none⟩) (World.block_lt_of_cell? w _ h2)).trans h2⟩
theorem Below.new (w : World) (o : Obj) : Below w.heap.size w (w.alloc o) := (Below.refl _ _).alloc (Nat.le_refl _) o
theorem Sigs.alloc {w : World} {a : Option Addr} {l : List (Int × Int)} (h : Sigs w a l) (o : Obj) : Sigs (w.alloc o) a l := h.below (Below.new w o)
/-- A cell that was there is as it was. -/
theorem cell_on {w w' : World} (hb : Below w.heap.size w w') {p : Addr} {v : Value} (h : w.cell? p = some v) : w'.cell? p = some v := (hb.cell (World.block_lt_of_cell? w _ h)).trans h
end Go.Proofs.Ytkcgkfhfogdihaa
/- Plain Lean: what the reference's functions compute; no program in sight. -/
namespace Go.Proofs.Ytkcgkfhfogdihaa
open Go.RowKit
/-! ### wraps -/
theorem wrap64_mod {a b : Int} (h : a % 18446744073709551616 = b % 18446744073709551616) : wrap64 a = wrap64 b := by
  unfold wrap64; omega
theorem mod_wrap64 (a : Int) : wrap64 a % 18446744073709551616 = a % 18446744073709551616 := by unfold wrap64; omega
theorem wrap64_mul_l (a b : Int) : wrap64 (wrap64 a * b) = wrap64 (a * b) := by
  apply wrap64_mod; rw [Int.mul_emod, mod_wrap64, ← Int.mul_emod]
theorem wrap64_mul_r (a b : Int) : wrap64 (a * wrap64 b) = wrap64 (a * b) := by rw [Int.mul_comm, wrap64_mul_l, Int.mul_comm]
theorem wrap64_add_l (a b : Int) : wrap64 (wrap64 a + b) = wrap64 (a + b) := by unfold wrap64; omega
theorem wrap64_add_r (a b : Int) : wrap64 (a + wrap64 b) = wrap64 (a + b) := by unfold wrap64; omega
theorem wrap64_neg (a : Int) : wrap64 (-wrap64 a) = wrap64 (-a) := by unfold wrap64; omega
theorem wrap64_id {n : Int} (h : -9223372036854775808 ≤ n ∧ n ≤ 9223372036854775807) : wrap64 n = n := IntWalk.wrap64_in n h
namespace R
/-- A bound that keeps sums of few numbers in range. -/
def big : Int := 288230376151711744
def numOk (n : Int) : Bool := decide (-1099511627776 ≤ n ∧ n ≤ 1099511627776)
theorem numOk_true {n : Int} (h1 : -1099511627776 ≤ n) (h2 : n ≤ 1099511627776) : numOk n = true := by simp [numOk]; omega
theorem numOk_false {n : Int} (h1 : n < -1099511627776 ∨ 1099511627776 < n) : numOk n = false := by simp [numOk]; omega
theorem numOk_iff {n : Int} : numOk n = true ↔ -1099511627776 ≤ n ∧ n ≤ 1099511627776 := by simp [numOk]
theorem all_take {zs : List Int} {p : Int → Bool} {j : Nat} (h : j < zs.length) (h1 : (zs.take j).all p = true) (h2 : p (nth zs j) = true) : (zs.take (j+1)).all p = true := by
  rw [take_succ_nth zs j h, List.all_append]; simp [h1, h2]
theorem all_false {zs : List Int} {p : Int → Bool} {j : Nat} (h : j < zs.length) (h2 : p (nth zs j) = false) : zs.all p = false := by
  rw [List.all_eq_false]; exact ⟨nth zs j, by rw [nth_eq zs j h]; exact List.getElem_mem h, by simp [h2]⟩
theorem all_nth {zs : List Int} {p : Int → Bool} (h : zs.all p = true) {j : Nat} (hj : j < zs.length) : p (nth zs j) = true := by
  rw [nth_eq zs j hj]; exact (List.all_eq_true.1 h) _ (List.getElem_mem hj)
def isPath (zs : List Int) : Int := if zs.length < 1 ∨ 4 < zs.length then 6 else if zs.all numOk then 0 else 3
/-- In how many ways: by the reference's product. -/
def ways (n : Int) (k : Nat) : Int := up (fun i o => (o * (n - i)).tdiv (i + 1)) 1 k
theorem ways_tab : ∀ n : Nat, n < 201 → ∀ k : Nat, k < 4 → 0 ≤ ways n k ∧ ways n k ≤ 1313400 := by decide +kernel
theorem ways_tab3 : ∀ n : Nat, n < 64 → ∀ k : Nat, k < 4 → 0 ≤ ways n k ∧ ways n k ≤ 39711 := by decide +kernel
theorem ways_bd {n : Int} (h0 : 0 ≤ n) (h1 : n ≤ 200) {k : Nat} (hk : k ≤ 3) : 0 ≤ ways n k ∧ ways n k ≤ 1313400 := by
  obtain ⟨m, rfl⟩ := Int.eq_ofNat_of_zero_le h0
  exact ways_tab m (by omega) k (by omega)
theorem ways_bd3 {n : Int} (h0 : 0 ≤ n) (h1 : n ≤ 63) {k : Nat} (hk : k ≤ 3) : 0 ≤ ways n k ∧ ways n k ≤ 39711 := by
  obtain ⟨m, rfl⟩ := Int.eq_ofNat_of_zero_le h0
  exact ways_tab3 m (by omega) k (by omega)
/-- The place of a path on a day: the first j terms. -/
def atFrom (zs : List Int) (day : Int) (j : Nat) : Int := up (fun k n => n + nth zs k * ways day k) 0 j
def atD (zs : List Int) (day : Int) : Int := atFrom zs day zs.length
theorem mul_bd {a b A B : Int} (ha : -A ≤ a ∧ a ≤ A) (hb : 0 ≤ b ∧ b ≤ B) : -(A * B) ≤ a * b ∧ a * b ≤ A * B := by
  obtain ⟨h1, h2⟩ := ha; obtain ⟨h3, h4⟩ := hb
  have hA : 0 ≤ A := by omega
  constructor
  · have e1 : -A * b ≤ a * b := Int.mul_le_mul_of_nonneg_right h1 h3
    have e2 : A * b ≤ A * B := Int.mul_le_mul_of_nonneg_left h4 hA
    rw [Int.neg_mul] at e1; omega
  · have e1 : a * b ≤ A * b := Int.mul_le_mul_of_nonneg_right h2 h3
    have e2 : A * b ≤ A * B := Int.mul_le_mul_of_nonneg_left h4 hA
    omega
theorem atFrom_bd {zs : List Int} (hz : zs.all numOk = true) {day : Int} (h0 : 0 ≤ day) (h1 : day ≤ 63) : ∀ j : Nat, j ≤ zs.length → j ≤ 4 → -(j * 43662708248678400) ≤ atFrom zs day j ∧ atFrom zs day j ≤ j * 43662708248678400 := by
  intro j
  induction j with
  | zero => intro _ _; simp [atFrom, up]
  | succ j ih =>
    intro hj h4
    have h := ih (by omega) (by omega)
    have hb := mul_bd (A := 1099511627776) (B := 39711) (numOk_iff.1 (all_nth hz (show j < zs.length by omega))) (ways_bd3 h0 h1 (show j ≤ 3 by omega))
    have e : atFrom zs day (j + 1) = atFrom zs day j + nth zs j * ways day j := rfl
    rw [e]
    generalize nth zs j * ways day j = p at *
    generalize atFrom zs day j = q at *
    omega
theorem atD_bd {zs : List Int} (hz : zs.all numOk = true) (hl : zs.length ≤ 4) {day : Int} (h0 : 0 ≤ day) (h1 : day ≤ 63) : -big ≤ atD zs day ∧ atD zs day ≤ big := by
  have h := atFrom_bd hz h0 h1 zs.length (Nat.le_refl _) hl
  unfold atD big
  omega
/-- The differences of the elements that follow each other. -/
def steps : List Int → List Int
  | a :: b :: l => (b - a) :: steps (b :: l)
  | _ => []
theorem steps_length (l : List Int) : (steps l).length = l.length - 1 := by
  match l with
  | [] => rfl
  | [_] => rfl
  | a :: b :: l => simp [steps, steps_length (b :: l)]
theorem steps_nth (l : List Int) (j : Nat) (h : j + 1 < l.length) : nth (steps l) j = nth l (j + 1) - nth l j := by
  match l with
  | [] => simp at h
  | [_] => simp at h
  | a :: b :: l =>
    cases j with
    | zero => simp [steps, nth]
    | succ j => have := steps_nth (b :: l) j (by simpa using h); simpa [steps, nth] using this
theorem steps_take (l : List Int) (j : Nat) (h : j + 1 < l.length) : (steps l).take (j + 1) = (steps l).take j ++ [nth l (j + 1) - nth l j] := by
  rw [take_succ_nth _ j (by rw [steps_length]; omega), steps_nth l j h]
/-- The first number of a list, of its differences, and so on. -/
def diffsF : Nat → List Int → List Int
  | 0, _ => []
  | n + 1, l => match l with | [] => [] | a :: r => a :: diffsF n (steps (a :: r))
def diffs (l : List Int) : List Int := diffsF l.length l
theorem diffs_cons (a : Int) (r : List Int) : diffs (a :: r) = a :: diffs (steps (a :: r)) := by
  have : (steps (a :: r)).length = r.length := by rw [steps_length]; simp
  simp [diffs, diffsF, this]
theorem diffsF_length : ∀ (n : Nat) (l : List Int), l.length = n → (diffsF n l).length = n
  | 0, _, _ => rfl
  | n + 1, [], h => by simp at h
  | n + 1, a :: r, h => by simp [diffsF]; exact diffsF_length n _ (by rw [steps_length]; simpa using h)
theorem diffs_length (l : List Int) : (diffs l).length = l.length := diffsF_length _ l rfl
/-- All numbers are at most B. -/
def Bd (B : Int) (l : List Int) : Prop := ∀ i, i < l.length → -B ≤ nth l i ∧ nth l i ≤ B
theorem Bd.steps {B : Int} {l : List Int} (h : Bd B l) : Bd (2 * B) (steps l) := by
  intro i hi
  rw [steps_length] at hi
  have h1 := h i (by omega); have h2 := h (i + 1) (by omega)
  rw [steps_nth l i (by omega)]; omega
/-- The list of f 0, f 1 .. f (n - 1). -/
def tab (f : Nat → Int) (n : Nat) : List Int := up (fun k l => l ++ [f k]) [] n
theorem tab_succ (f : Nat → Int) (n : Nat) : tab f (n + 1) = tab f n ++ [f n] := rfl
theorem tab_length (f : Nat → Int) (n : Nat) : (tab f n).length = n := by
  induction n with
  | zero => rfl
  | succ n ih => rw [tab_succ]; simp [ih]
theorem tab_nth (f : Nat → Int) (n i : Nat) (h : i < n) : nth (tab f n) i = f i := by
  induction n with
  | zero => omega
  | succ n ih =>
    rw [tab_succ]
    by_cases hi : i < n
    · rw [nth_append_left _ _ _ (by rw [tab_length]; exact hi)]; exact ih hi
    · have : i = n := by omega
      subst this
      simp [nth, tab_length]
theorem diffs_tab_bd {B : Int} {f : Nat → Int} {n : Nat} (h : ∀ i, i < n → -B ≤ f i ∧ f i ≤ B) : Bd B (tab f n) := by
  intro i hi; rw [tab_length] at hi; rw [tab_nth f n i hi]; exact h i hi
def laterOf (zs : List Int) (days : Int) : List Int := diffs (tab (fun k => atD zs (days + k)) zs.length)
def at' (zs : List Int) (day : Int) : Int × Int := if isPath zs = 0 then (if day < 0 ∨ 60 < day then (0, 2) else (atD zs day, 0)) else (0, isPath zs)
def later (zs : List Int) (days : Int) : List Int × Int := if isPath zs = 0 then (if days < 0 ∨ 60 < days then ([], 2) else (laterOf zs days, 0)) else ([], isPath zs)
end R
end Go.Proofs.Ytkcgkfhfogdihaa
/- Walks of the reference's functions on paths: Ways, AtOf, isNumbers, IsPath. -/
namespace Go.Proofs.Ytkcgkfhfogdihaa
open Go.RowKit

set_option maxHeartbeats 400000 in
theorem ways_any (n k : Int) (w : World) (h0 : 0 ≤ k) (h3 : k ≤ 3) (hn : 0 ≤ n) (hn2 : n ≤ 200) :
    Calls Try.prog 74 #[.int .i64 n, .int .i64 k] w fun e w' => e = .returned (.int .i64 (R.ways n k.toNat)) ∧ w = w' := by
  go_enter Try.func74, Try.ntmps74
  go_wp2
  go_loop [5, 6] (fun o i => ∃ j : Nat, j ≤ k.toNat ∧ i = .int .i64 j ∧ o = .int .i64 (R.ways n j)) (fun _ i => k.toNat - (intOf i).toNat)
  case atStart => exact ⟨0, by omega, rfl, rfl⟩
  case round =>
    obtain ⟨j, hj, rfl, rfl⟩ := hrel
    by_cases hlt : (j : Int) < k
    · have hb := R.ways_bd hn hn2 (show j ≤ 3 by omega)
      have hb1 : -263000000 ≤ R.ways n j * (n - j) ∧ R.ways n j * (n - j) ≤ 263000000 := by
        have := R.mul_bd (A := 200) (B := 1313400) (a := n - j) (b := R.ways n j) (by omega) hb
        rw [Int.mul_comm (n - j)] at this; omega
      have hq := R.ways_bd hn hn2 (show j + 1 ≤ 3 by omega)
      have HE : Hid ((R.ways n j * (n - j)).tdiv (j + 1) = R.ways n (j + 1)) := rfl
      have hq2 : 0 ≤ (R.ways n j * (n - j)).tdiv (j + 1) ∧ (R.ways n j * (n - j)).tdiv (j + 1) ≤ 1313400 := by rw [HE.out]; exact hq
      obtain ⟨a1, a2⟩ := hb1; obtain ⟨b1, b2⟩ := hb; obtain ⟨c1, c2⟩ := hq2; clear hq
      go_wp2
      go_round
      case rel => exact ⟨j + 1, by omega, by go_num, by rw [← HE.out]⟩
      case measure => simp [intOf]; omega
    · go_wp2
      go_ret
      exact ⟨ret_int (by rw [show j = k.toNat by omega]), rfl⟩

set_option maxHeartbeats 400000 in
theorem atOf_any (a : Option Addr) (cap : Nat) (zs : List Int) (d : Int) (w : World) (hl : zs.length ≤ 4) (h0 : 0 ≤ d) (h1 : d ≤ 63) (hz : zs.all R.numOk = true) (ha : Ints .i64 w a zs) :
    Calls Try.prog 45 #[.slice a zs.length cap, .int .i64 d] w fun e w' => e = .returned (.int .i64 (R.atD zs d)) ∧ Drew w w' := by
  have HA := Lib.hid ha; clear ha
  have HB := Lib.hid (R.atD_bd hz hl h0 h1); clear hz
  go_enter Try.func45, Try.ntmps45
  go_wp2
  go_loopw [5, 6] (fun o i wr => ∃ j : Nat, j ≤ zs.length ∧ i = .int .i64 j ∧ o = .int .i64 (wrap64 (R.atFrom zs d j)) ∧ Drew w wr) (fun _ i _ => zs.length - (intOf i).toNat)
  case atStart => exact ⟨0, by omega, rfl, by rw [show R.atFrom zs d 0 = 0 from rfl, wrap64_id (by omega)], Drew.refl w⟩
  case round =>
    obtain ⟨j, hj, rfl, rfl, hD⟩ := hrel
    by_cases hlt : j < zs.length
    · obtain ⟨b, off, rfl, hc⟩ := (HA.out.drew hD) j hlt
      go_wp2_with fail
      go_quiet ((go_at_call 74; exact quiet_same (ways_any d j _ (by omega) (by omega) (by omega) (by omega))))
      go_wp2
      go_roundw
      case rel => exact ⟨j + 1, by omega, by go_num, by rw [wrap64_add_l, wrap64_add_r]; rfl, hD.drewN _⟩
      case measure => simp [intOf]; omega
    · go_wp2
      go_ret
      exact ⟨ret_int (by rw [show j = zs.length by omega]; have := HB.out; unfold R.big at this; exact wrap64_id (by unfold R.atD at this; omega)), hD⟩

set_option maxHeartbeats 400000 in
theorem isNumbers_any (a : Option Addr) (cap : Nat) (zs : List Int) (w : World) (hl : zs.length ≤ 1000000) (ha : Ints .i64 w a zs) :
    Calls Try.prog 64 #[.slice a zs.length cap] w fun e w' => e = .returned (.bool (zs.all R.numOk)) ∧ w = w' := by
  have HA := Lib.hid ha; clear ha
  go_enter Try.func64, Try.ntmps64
  go_wp2
  go_loop [3] (fun i => ∃ j : Nat, j ≤ zs.length ∧ i = .int .i64 j ∧ Hid ((zs.take j).all R.numOk = true)) (fun i => zs.length - (intOf i).toNat)
  case atStart => exact ⟨0, by omega, rfl, Lib.hid (by simp)⟩
  case round =>
    obtain ⟨j, hj, rfl, hr⟩ := hrel
    by_cases hlt : j < zs.length
    · obtain ⟨b, off, rfl, hc⟩ := HA.out j hlt
      go_wp2
      · go_ret
        exact ⟨ret_bool (by rw [R.all_false hlt (R.numOk_false (by assumption))]), rfl⟩
      · go_round
        case rel => exact ⟨j+1, by omega, by go_num, Lib.hid (R.all_take hlt hr.out (R.numOk_true (by omega) (by omega)))⟩
        case measure => simp [intOf]; omega
      · go_ret
        exact ⟨ret_bool (by rw [R.all_false hlt (R.numOk_false (by omega))]), rfl⟩
    · go_wp2
      go_ret
      exact ⟨ret_bool (by have := hr.out; rw [List.take_of_length_le (by omega)] at this; rw [this]), rfl⟩

set_option maxHeartbeats 400000 in
theorem isPath_any (a : Option Addr) (cap : Nat) (zs : List Int) (w : World) (hl : zs.length ≤ 1000000) (ha : Ints .i64 w a zs) :
    Calls Try.prog 47 #[.slice a zs.length cap] w fun e w' => e = .returned (.int .i64 (R.isPath zs)) ∧ w = w' := by
  have HA := Lib.hid ha; clear ha
  by_cases h1 : zs.length < 1
  · go_enter Try.func47, Try.ntmps47
    go_wp2_with fail
    go_ret
    exact ⟨ret_int (by unfold R.isPath; rw [if_pos (by omega)]), rfl⟩
  by_cases h4 : 4 < zs.length
  · go_enter Try.func47, Try.ntmps47
    go_wp2_with fail
    go_ret
    exact ⟨ret_int (by unfold R.isPath; rw [if_pos (by omega)]), rfl⟩
  cases hn : zs.all R.numOk
  all_goals
    have HN := Lib.hid hn
    have HC := Lib.hid (isNumbers_any a cap zs w hl HA.out)
    rw [hn] at HC
    clear hn
    go_enter Try.func47, Try.ntmps47
    go_wp2_with fail
    refine (HC.out).mono ?_
    rintro e w' ⟨rfl, rfl⟩
    go_wp2_with fail
    go_ret
    exact ⟨ret_int (by unfold R.isPath; rw [if_neg (by omega), HN.out]; rfl), rfl⟩
end Go.Proofs.Ytkcgkfhfogdihaa
/- Walks of the reference's functions on paths: Differences, LaterOf, At, Later. -/
namespace Go.Proofs.Ytkcgkfhfogdihaa
open Go.RowKit

theorem bd_step {B : Int} {n : Nat} {x : Int} {r : List Int} {j : Nat} (h : R.Bd (R.big * 2 ^ n) (x :: r)) (hn : (x :: r).length + n ≤ 4) (hj : j < r.length) (_hB : B = 0) :
    IntKind.i64.wrap (nth (x :: r) (j + 1) - nth (x :: r) j) = nth (x :: r) (j + 1) - nth (x :: r) j := by
  have h1 := h (j + 1) (by simp; omega)
  have h2 := h j (by simp; omega)
  have hp : R.big * (2 : Int) ^ n ≤ R.big * 8 := by
    have : n = 0 ∨ n = 1 ∨ n = 2 ∨ n = 3 := by simp at hn; omega
    unfold R.big
    rcases this with rfl | rfl | rfl | rfl <;> decide
  generalize R.big * (2 : Int) ^ n = q at *
  unfold R.big at hp
  exact IntWalk.i64_in _ (by omega)

set_option maxRecDepth 100000 in
set_option maxHeartbeats 400000 in
theorem diffs_any (a : Option Addr) (cap : Nat) (zs : List Int) (w : World) (hl : zs.length ≤ 4) (ha : Ints .i64 w a zs) (hbd : R.Bd R.big zs) :
    Calls Try.prog 75 #[.slice a zs.length cap] w fun e w' => ∃ v, e = .returned v ∧ w'.ownsRow w.heap.size 2 1 v zs.length ((R.diffs zs).map (.int .i64)) ∧ Below w.heap.size w w' := by
  have HA := Lib.hid ha; clear ha
  have HB := Lib.hid hbd; clear hbd
  go_enter Try.func75, Try.ntmps75
  go_wp2
  go_loopw [0, 3, 4, 5] (fun l o _ _ wr => ∃ (a' : Option Addr) (cap' : Nat) (cur done : List Int), l = .slice a' cur.length cap' ∧ Ints .i64 wr a' cur ∧ (cur ≠ [] → Off wr o a') ∧ Hid (R.diffs zs = done ++ R.diffs cur ∧ cur.length + done.length = zs.length ∧ R.Bd (R.big * 2 ^ done.length) cur) ∧
      wr.ownsRow w.heap.size 2 1 o done.length (done.map (.int .i64)) ∧ Below w.heap.size w wr) (fun l _ _ _ _ => lenV l)
  case atStart => exact ⟨a, cap, zs, [], rfl, HA.out, (fun h => Off.nil (fun b off e => by
    obtain ⟨b', off', e', h'⟩ := HA.out.at (List.length_pos_iff.2 h); rw [e] at e'; cases e'; exact h')), Lib.hid ⟨by simp, by simp, by simpa using HB.out⟩, World.ownsRow_nil _ _ _ _, Below.refl _ _⟩
  case round =>
    obtain ⟨a', cap', cur, done, rfl, hI, hO, HD, hown, hbel⟩ := hrel
    cases cur with
    | nil =>
      go_wp2
      go_ret
      refine ⟨_, rfl, ?_, hbel⟩
      have h1 := HD.out.1; have h2 := HD.out.2.1
      simp only [R.diffs, R.diffsF, List.length_nil, List.append_nil] at h1
      rw [show R.diffs zs = done from h1]; simp only [List.length_nil] at h2
      rw [show zs.length = done.length by omega]; exact hown
    | cons x r =>
      obtain ⟨b, off, rfl, hc⟩ := hI 0 (by simp)
      simp only [Nat.add_zero] at hc
      have HI := Lib.hid hI; clear hI
      have hx : nth (x :: r) 0 = x := rfl
      rw [hx] at hc; clear hx
      have hn : done.length + 1 ≤ 2000000 := by have := HD.out.2.1; omega
      have hbs := hbel.size
      go_wp2_with (at_builtin; refine listApp T22 rfl (.tmp 9) (.tmp 13) rfl w.heap.size _ _ (done.map (.int .i64)) [.int .i64 x] 1 1 _ rfl (hown.alloc _) rfl rfl (news_new _ _ _) (by simp [Value.oneCell']) hn (by simp; omega) ?_; intro v1 w1 hown1 hg1 hL1)
      have hO1 := ((hO (by simp)).below (w' := wr.alloc (.cells #[.int .i64 x] 2)) (by simp)).app hg1 hL1
      have HI1 := Lib.hid ((HI.out.alloc _).grown hg1 ((hO (by simp)).below (by simp)))
      have hb1 := (hbel.alloc hbs _).grown hg1 (by simp; omega) (fun k e => (hown.lt k e).1)
      have HG1 := Lib.hid hg1; clear hg1
      obtain ⟨W1, rfl⟩ : ∃ W1, W1 = w1 := ⟨_, rfl⟩
      go_loopw [4, 5] (fun nx i wi => ∃ j : Nat, j < r.length + 1 ∧ i = .int .i64 (↑j + 1) ∧ wi.ownsRow W1.heap.size 2 1 nx j (((R.steps (x :: r)).take j).map (.int .i64)) ∧ Below W1.heap.size W1 wi) (fun _ i _ => r.length + 1 - (intOf i).toNat)
      case atStart => exact ⟨0, by omega, rfl, World.ownsRow_nil _ _ _ _, Below.refl _ _⟩
      case round =>
        obtain ⟨j, hj, rfl, hownN, hbelN⟩ := hrel
        by_cases hlt : j + 1 < r.length + 1
        · have hc1 := (HI1.out.below hbelN).cellAt (j + 1) (by simpa using hlt)
          have hc2 := (HI1.out.below hbelN).cellAt j (by simp; omega)
          have hrl : r.length ≤ 4 := by have := HD.out.2.1; simp at this; omega
          have k1 : IntKind.i64.wrap (↑j : Int) = ↑j := IntWalk.i64_in _ (by omega)
          have k2 : (0 : Int) ≤ ↑j + 1 := by omega
          have k3 : (↑j : Int) + 1 < ↑r.length + 1 := by omega
          have k4 : (↑j : Int) < ↑r.length + 1 := by omega
          have k5 : ((↑j : Int) + 1).toNat = j + 1 := by omega
          have k6 : j < r.length + 1 := by omega
          have k7 : j < r.length := by omega
          have k8 := bd_step HD.out.2.2 (by have := HD.out.2.1; omega) k7 rfl
          have k9 : j + 1 ≤ 2000000 := by omega
          have k10 : W1.heap.size ≤ wr.heap.size := hbelN.size
          have hne : some b ≠ u4.ownBlock := fun e => by have := (hownN.lt b e.symm).1; have := (hO1 b off rfl).2; omega
          go_wp2_with fail
          go_region_held3 (fun w' => w'.cell? ⟨b, off + (j + 1), none⟩ = some (.int .i64 (nth (x :: r) (j + 1))) ∧ w'.cell? ⟨b, off + j, none⟩ = some (.int .i64 (nth (x :: r) j))) (first | go_keep | exact ⟨hg2.cell (by go_keep) hne, hg2.cell (by go_keep) hne⟩) ((refine stepApp T22 (by rfl) (.tmp 21) (.tmp 32) (by rfl) W1.heap.size _ _ (((R.steps (x :: r)).take j).map (.int .i64)) [.int .i64 (nth (x :: r) (j + 1) - nth (x :: r) j)] 1 1 ⟨wr.heap.size, 0, none⟩ (by rfl) (by exact hownN.alloc _) (by rfl) (by rfl) (by exact news_new _ _ _) (by simp [Value.oneCell']) k9 (by simp; omega) ?_; intro v2 w2 hown2 hg2 hL2))
          go_wp2
          go_roundw
          case rel => exact ⟨j + 1, by omega, by go_num, by rw [R.steps_take _ _ (by simpa using hlt), List.map_append]; exact hown2, ((hbelN.alloc k10 _).drew).grown hg2 (by simp; omega) (fun k e => (hownN.lt k e).1)⟩
          case measure => simp [intOf]; omega
        · have hjr : j = r.length := by omega
          subst hjr
          go_wp2
          have hown3 : wr.ownsRow W1.heap.size 2 1 u4 (R.steps (x :: r)).length ((R.steps (x :: r)).map (.int .i64)) := by
            have e : (R.steps (x :: r)).length = r.length := by rw [R.steps_length]; simp
            rw [e]; rw [List.take_of_length_le (by omega)] at hownN; exact hownN
          have hO3 := fun b e => hown3.lt b e
          obtain ⟨_, a3, cap3, rfl, hI3, _⟩ := Ints.of_ownsRow hown3
          go_roundw
          case rel =>
            refine ⟨a3, cap3, R.steps (x :: r), done ++ [x], rfl, hI3, fun _ => Off.behind W1.heap.size (fun g e => (hown1.lt g e).2) (fun b off e => by subst e; exact hO3 b rfl), Lib.hid ⟨?_, ?_, ?_⟩, ?_, (Below.trans (by exact hb1) (hbelN.mono hb1.size))⟩
            · rw [HD.out.1, R.diffs_cons]; simp
            · have := HD.out.2.1; rw [R.steps_length]; simp at this ⊢; omega
            · have := HD.out.2.2.steps
              rwa [show 2 * (R.big * 2 ^ done.length) = R.big * 2 ^ (done ++ [x]).length by simp [Int.pow_succ]; generalize (2:Int) ^ done.length = q; rw [← Int.mul_assoc, Int.mul_comm 2, Int.mul_assoc, Int.mul_comm 2]] at this
            · rw [List.length_append, List.map_append]; exact owns_below hown1 hbelN
          case measure => simp [lenV, R.steps_length]
end Go.Proofs.Ytkcgkfhfogdihaa
/- Walks of the reference's functions on paths: LaterOf, At, Later. -/
namespace Go.Proofs.Ytkcgkfhfogdihaa
open Go.RowKit

set_option maxRecDepth 100000 in
set_option maxHeartbeats 400000 in
theorem laterOf_any (a : Option Addr) (cap : Nat) (zs : List Int) (d : Int) (w : World) (hl : zs.length ≤ 4) (h0 : 0 ≤ d) (h1 : d ≤ 60) (hz : zs.all R.numOk = true) (ha : Ints .i64 w a zs) :
    Calls Try.prog 46 #[.slice a zs.length cap, .int .i64 d] w fun e w' => ∃ v, e = .returned v ∧ w'.ownsRow w.heap.size 2 1 v zs.length ((R.laterOf zs d).map (.int .i64)) ∧ Below w.heap.size w w' := by
  have HA := Lib.hid ha; clear ha
  have HZ := Lib.hid hz; clear hz
  go_enter Try.func46, Try.ntmps46
  go_wp2
  go_loopw [5, 6] (fun o i wr => ∃ j : Nat, j ≤ zs.length ∧ i = .int .i64 j ∧ wr.ownsRow w.heap.size 2 1 o j ((R.tab (fun k => R.atD zs (d + k)) j).map (.int .i64)) ∧ Below w.heap.size w wr) (fun _ i _ => zs.length - (intOf i).toNat)
  case atStart => exact ⟨0, by omega, rfl, World.ownsRow_nil _ _ _ _, Below.refl _ _⟩
  case round =>
    obtain ⟨j, hj, rfl, hown, hbel⟩ := hrel
    have hbs := hbel.size
    by_cases hlt : j < zs.length
    · have HC := Lib.hid (fun W => atOf_any a cap zs (d + j) W hl (by omega) (by omega) HZ.out)
      have HI := Lib.hid (HA.out.below hbel)
      have hn : j + 1 ≤ 2000000 := by omega
      go_wp2_with fail
      refine (HC.out _ HI.out).mono ?_
      rintro e w1 ⟨rfl, hD⟩
      have hown' : w1.ownsRow w.heap.size 2 1 u5 j ((R.tab (fun k => R.atD zs (d + k)) j).map (.int .i64)) := by obtain ⟨n, rfl⟩ := hD; exact hown
      have hbel1 := hbel.trans (hD.below _)
      have hbs1 := hbel1.size
      clear hown hbel
      go_wp2_with (at_builtin; refine listApp T22 rfl (.tmp 13) (.tmp 19) rfl w.heap.size _ _ ((R.tab (fun k => R.atD zs (d + k)) j).map (.int .i64)) [.int .i64 (R.atD zs (d + j))] 1 1 ⟨w1.heap.size, 0, none⟩ rfl (hown'.alloc _) rfl rfl (news_new _ _ _) (by simp [Value.oneCell']) hn (by simp; omega) ?_; intro v1 w2 hown1 hg1 hL1)
      go_roundw
      case rel => exact ⟨j + 1, by omega, by go_num, by rw [R.tab_succ, List.map_append]; exact hown1, (hbel1.alloc hbs1 _).grown hg1 (by simp; omega) (fun k e => (hown'.lt k e).1)⟩
      case measure => simp [intOf]; omega
    · have hjr : j = zs.length := by omega
      subst hjr
      obtain ⟨hn, a3, cap3, rfl, hI3, hcap⟩ := Ints.of_ownsRow hown
      have hlen := R.tab_length (fun k => R.atD zs (d + k)) zs.length
      have HC := Lib.hid (fun W hW => diffs_any a3 cap3 _ W (by rw [hlen]; exact hl) hW (R.diffs_tab_bd (f := fun k => R.atD zs (d + k)) (n := zs.length) (B := R.big) (fun i hi => R.atD_bd HZ.out hl (by omega) (by omega))))
      rw [hlen] at HC
      clear hn hlen
      go_wp2_with fail
      refine (HC.out _ hI3).mono ?_
      rintro e w1 ⟨v, rfl, hown1, hb1⟩
      go_wp2_with fail
      go_ret
      exact ⟨_, rfl, owns_mono hown1 hbs, hbel.trans (hb1.mono hbs)⟩

theorem isPath_zero {zs : List Int} (h : R.isPath zs = 0) : 1 ≤ zs.length ∧ zs.length ≤ 4 ∧ zs.all R.numOk = true := by
  unfold R.isPath at h
  split at h
  · simp at h
  · split at h
    · rename_i h1 h2; exact ⟨by omega, by omega, h2⟩
    · simp at h

set_option maxRecDepth 100000 in
set_option maxHeartbeats 400000 in
theorem refAt_any (a : Option Addr) (cap : Nat) (zs : List Int) (d : Int) (w : World) (hl : zs.length ≤ 1000000) (ha : Ints .i64 w a zs) :
    Calls Try.prog 18 #[.slice a zs.length cap, .int .i64 d] w fun e w' => e = .returned (.tuple #[.int .i64 (R.at' zs d).1, .int .i64 (R.at' zs d).2]) ∧ Drew w w' := by
  have HA := Lib.hid ha; clear ha
  have HC := Lib.hid (isPath_any a cap zs w hl HA.out)
  by_cases hp : R.isPath zs = 0
  · have HP := Lib.hid (isPath_zero hp)
    rw [hp] at HC
    by_cases hd : d < 0 ∨ 60 < d
    · have HF : Hid (R.at' zs d = (0, 2)) := by unfold R.at'; rw [if_pos hp, if_pos hd]; trivial
      clear hp
      go_enter Try.func18, Try.ntmps18
      go_wp2_with fail
      refine (HC.out).mono ?_
      rintro e w' ⟨rfl, rfl⟩
      rcases hd with hd | hd
      all_goals
        go_wp2_with fail
        go_ret2
        exact ⟨by rw [HF.out]; first | done | rfl, Drew.refl _⟩
    · have HF : Hid (R.at' zs d = (R.atD zs d, 0)) := by unfold R.at'; rw [if_pos hp, if_neg hd]; trivial
      clear hp
      have h0 : 0 ≤ d := by omega
      have h1 : d ≤ 60 := by omega
      clear hd
      go_enter Try.func18, Try.ntmps18
      go_wp2_with fail
      refine (HC.out).mono ?_
      rintro e w' ⟨rfl, rfl⟩
      go_wp2_with fail
      refine (atOf_any a cap zs d _ HP.out.2.1 h0 (by omega) HP.out.2.2 HA.out).mono ?_
      rintro e w' ⟨rfl, hD⟩
      go_wp2_with fail
      go_ret2
      exact ⟨by rw [HF.out]; first | done | rfl, hD⟩
  · have HF : Hid (R.at' zs d = (0, R.isPath zs)) := by unfold R.at'; rw [if_neg hp]; trivial
    have hp' : (R.isPath zs != 0) = true := by rw [bne_iff_ne]; exact hp
    clear hp
    go_enter Try.func18, Try.ntmps18
    go_wp2_with fail
    refine (HC.out).mono ?_
    rintro e w' ⟨rfl, rfl⟩
    go_wp2_with fail
    refine (HC.out).mono ?_
    rintro e w' ⟨rfl, rfl⟩
    go_wp2_with fail
    go_ret2
    exact ⟨by rw [HF.out]; first | done | rfl, Drew.refl _⟩

set_option maxRecDepth 100000 in
set_option maxHeartbeats 400000 in
theorem refLater_any (a : Option Addr) (cap : Nat) (zs : List Int) (d : Int) (w : World) (hl : zs.length ≤ 1000000) (ha : Ints .i64 w a zs) :
    Calls Try.prog 20 #[.slice a zs.length cap, .int .i64 d] w fun e w' => ∃ v, e = .returned (.tuple #[v, .int .i64 (R.later zs d).2]) ∧ w'.ownsRow w.heap.size 2 1 v (R.later zs d).1.length ((R.later zs d).1.map (.int .i64)) ∧ Below w.heap.size w w' := by
  have HA := Lib.hid ha; clear ha
  have HC := Lib.hid (isPath_any a cap zs w hl HA.out)
  by_cases hp : R.isPath zs = 0
  · have HP := Lib.hid (isPath_zero hp)
    rw [hp] at HC
    by_cases hd : d < 0 ∨ 60 < d
    · have HF : Hid (R.later zs d = ([], 2)) := by unfold R.later; rw [if_pos hp, if_pos hd]; trivial
      clear hp
      go_enter Try.func20, Try.ntmps20
      go_wp2_with fail
      refine (HC.out).mono ?_
      rintro e w' ⟨rfl, rfl⟩
      rcases hd with hd | hd
      all_goals
        go_wp2_with fail
        go_ret2
        exact ⟨_, by rw [HF.out]; first | done | rfl, by rw [HF.out]; exact World.ownsRow_nil _ _ _ _, Below.refl _ _⟩
    · have HF : Hid (R.later zs d = (R.laterOf zs d, 0)) := by unfold R.later; rw [if_pos hp, if_neg hd]; trivial
      clear hp
      have h0 : 0 ≤ d := by omega
      have h1 : d ≤ 60 := by omega
      clear hd
      go_enter Try.func20, Try.ntmps20
      go_wp2_with fail
      refine (HC.out).mono ?_
      rintro e w' ⟨rfl, rfl⟩
      go_wp2_with fail
      refine (laterOf_any a cap zs d _ HP.out.2.1 h0 (by omega) HP.out.2.2 HA.out).mono ?_
      rintro e w' ⟨v, rfl, hown, hb⟩
      go_wp2_with fail
      go_ret2
      exact ⟨_, by rw [HF.out]; first | done | rfl, by rw [HF.out]; simp only [R.laterOf, R.diffs_length, R.tab_length]; exact hown, hb⟩
  · have HF : Hid (R.later zs d = ([], R.isPath zs)) := by unfold R.later; rw [if_neg hp]; trivial
    have hp' : (R.isPath zs != 0) = true := by rw [bne_iff_ne]; exact hp
    clear hp
    go_enter Try.func20, Try.ntmps20
    go_wp2_with fail
    refine (HC.out).mono ?_
    rintro e w' ⟨rfl, rfl⟩
    go_wp2_with fail
    refine (HC.out).mono ?_
    rintro e w' ⟨rfl, rfl⟩
    go_wp2_with fail
    go_ret2
    exact ⟨_, by rw [HF.out]; first | done | rfl, by rw [HF.out]; exact World.ownsRow_nil _ _ _ _, Below.refl _ _⟩
end Go.Proofs.Ytkcgkfhfogdihaa
/- Walk of the reference's CheckLog. -/
namespace Go.Proofs.Ytkcgkfhfogdihaa
open Go.RowKit
namespace R
def FitS (d p : Int) : Prop := 0 ≤ d ∧ d ≤ 60 ∧ -100000 ≤ p ∧ p ≤ 100000
instance (d p : Int) : Decidable (FitS d p) := by unfold FitS; infer_instance
def Fit (l : List (Int × Int)) : Prop := ∀ i, i < l.length → FitS (dayN l i) (plcN l i)
instance (l : List (Int × Int)) : Decidable (Fit l) := by unfold Fit; infer_instance
def Inc (l : List (Int × Int)) : Prop := ∀ i, i < l.length - 1 → dayN l i < dayN l (i + 1)
instance (l : List (Int × Int)) : Decidable (Inc l) := by unfold Inc; infer_instance
def checkLog (deg : Int) (l : List (Int × Int)) : Int :=
  if deg < 0 ∨ 3 < deg then 2 else if 12 < l.length then 6 else if ¬ Fit l then 3 else if ¬ Inc l then 16 else 0
structure Valid (deg : Int) (l : List (Int × Int)) : Prop where
  d0 : 0 ≤ deg
  d3 : deg ≤ 3
  len : l.length ≤ 12
  fit : Fit l
  inc : Inc l
theorem checkLog_zero {deg : Int} {l : List (Int × Int)} (h : checkLog deg l = 0) : Valid deg l := by
  unfold checkLog at h
  split at h; · simp at h
  split at h; · simp at h
  split at h; · simp at h
  split at h; · simp at h
  rename_i h1 h2 h3 h4
  exact ⟨by omega, by omega, by omega, Classical.not_not.1 h3, Classical.not_not.1 h4⟩
theorem Valid.zero {deg : Int} {l : List (Int × Int)} (h : Valid deg l) : checkLog deg l = 0 := by
  have := h.d0; have := h.d3; have := h.len
  unfold checkLog
  rw [if_neg (by omega), if_neg (by omega), if_neg (not_not_intro h.fit), if_neg (not_not_intro h.inc)]
end R

/-- A log, as a value. -/
def logV (deg : Int) (a : Option Addr) (n cap : Nat) : Value := .agg #[.int .i64 deg, .slice a n cap]

set_option maxRecDepth 100000 in
set_option maxHeartbeats 1000000 in
theorem refCheckLog_any (a : Option Addr) (cap : Nat) (deg : Int) (l : List (Int × Int)) (w : World) (hl : l.length ≤ 1000000) (ha : Sigs w a l) :
    Calls Try.prog 28 #[.agg #[.int .i64 deg, .slice a l.length cap]] w fun e w' => e = .returned (.int .i64 (R.checkLog deg l)) ∧ Below w.heap.size w w' := by
  have HA := Lib.hid ha; clear ha
  have hb0 := Lib.hid (Below.new w (.cells #[.int .i64 deg, .slice a l.length cap] 33))
  by_cases hd : deg < 0
  · have HF : Hid (R.checkLog deg l = 2) := by unfold R.checkLog; rw [if_pos (.inl hd)]; trivial
    go_enter Try.func28, Try.ntmps28
    go_wp2_with fail
    go_ret
    exact ⟨ret_int (by rw [HF.out]), hb0.out⟩
  by_cases hd3 : 3 < deg
  · have HF : Hid (R.checkLog deg l = 2) := by unfold R.checkLog; rw [if_pos (.inr hd3)]; trivial
    go_enter Try.func28, Try.ntmps28
    go_wp2_with fail
    go_ret
    exact ⟨ret_int (by rw [HF.out]), hb0.out⟩
  have hd0' : 0 ≤ deg := by omega
  have hd3' : deg ≤ 3 := by omega
  by_cases h12 : 12 < l.length
  · have HF : Hid (R.checkLog deg l = 6) := by unfold R.checkLog; rw [if_neg (by omega), if_pos h12]; trivial
    go_enter Try.func28, Try.ntmps28
    go_wp2_with fail
    go_ret
    exact ⟨ret_int (by rw [HF.out]), hb0.out⟩
  have h12' : (l.length : Int) ≤ 12 := by omega
  clear hd hd3 h12
  go_enter Try.func28, Try.ntmps28
  go_wp2_with fail
  have HX2 := Lib.hid (by simp : (w.alloc (.cells #[.int .i64 deg, .slice a l.length cap] 33)).cell? ⟨w.heap.size, 1, none⟩ = some (.slice a l.length cap))
  have hs1 : w.heap.size < (w.alloc (.cells #[.int .i64 deg, .slice a l.length cap] 33)).heap.size := by simp
  generalize w.alloc (.cells #[.int .i64 deg, .slice a l.length cap] 33) = w1 at *
  have HA1 := Lib.hid (HA.out.below hb0.out); clear HA
  go_loopw [3, 4] (fun i _ wr => ∃ j : Nat, j ≤ l.length ∧ i = .int .i64 j ∧ Hid (∀ i, i < j → R.FitS (dayN l i) (plcN l i)) ∧ Below w1.heap.size w1 wr) (fun i _ _ => l.length - (intOf i).toNat)
  case atStart => exact ⟨0, by omega, rfl, Lib.hid (fun i h => by omega), Below.refl _ _⟩
  case round =>
    obtain ⟨j, hj, rfl, HP, hb⟩ := hrel
    have hx2 := cell_on hb HX2.out
    have hsz := hb.size
    by_cases hlt : j < l.length
    · obtain ⟨b, off, rfl, hc1, hc2⟩ := (HA1.out.below hb) j hlt
      by_cases hf : R.FitS (dayN l j) (plcN l j)
      · have HFF := Lib.hid hf
        obtain ⟨f1, f2, f3, f4⟩ := hf
        go_wp2_with fail
        go_roundw
        case rel => exact ⟨j + 1, by omega, by go_num, Lib.hid (fun i hi => by
          by_cases h : i = j
          · subst h; exact HFF.out
          · exact HP.out i (by omega)), hb.alloc (by omega) _⟩
        case measure => simp [intOf]; omega
      · have HF : Hid (R.checkLog deg l = 3) := by
          unfold R.checkLog; rw [if_neg (by omega), if_neg (by omega), if_pos (fun h => hf (h j hlt))]; trivial
        have hf' : dayN l j < 0 ∨ (0 ≤ dayN l j ∧ 60 < dayN l j) ∨ (0 ≤ dayN l j ∧ dayN l j ≤ 60 ∧ plcN l j < -100000) ∨ (0 ≤ dayN l j ∧ dayN l j ≤ 60 ∧ -100000 ≤ plcN l j ∧ 100000 < plcN l j) := by unfold R.FitS at hf; omega
        clear hf
        rcases hf' with hf | ⟨_, hf⟩ | ⟨_, _, hf⟩ | ⟨_, _, _, hf⟩
        all_goals
          go_wp2_with fail
          go_ret
          exact ⟨ret_int (by rw [HF.out]), hb0.out.trans ((hb.alloc (by omega) _).mono (by omega))⟩
    · have HFit : Hid (R.Fit l) := Lib.hid (fun i hi => HP.out i (by omega))
      clear HP
      have hI0 := Lib.hid (HA1.out.below hb)
      obtain ⟨W1, rfl⟩ : ∃ W1, W1 = wr := ⟨_, rfl⟩
      have HX2' := Lib.hid hx2
      go_wp2_with fail
      clear hx2
      go_loopw [5] (fun i wi => ∃ j : Nat, i = .int .i64 (↑j + 1) ∧ (j < l.length ∨ j = 0) ∧ Hid (∀ i, i < j → dayN l i < dayN l (i + 1)) ∧ Drew W1 wi) (fun i _ => l.length - (intOf i).toNat)
      case atStart => exact ⟨0, rfl, .inr rfl, Lib.hid (fun i h => by omega), Drew.refl _⟩
      case round =>
        obtain ⟨j, rfl, hj2, HP, hD⟩ := hrel
        have hx2 := (hD.cell _).trans HX2'.out
        by_cases hlt2 : j + 1 < l.length
        · obtain ⟨b, off, e1, hc1, hc2⟩ := (hI0.out.below (hD.below _)) (j + 1) hlt2
          obtain ⟨b', off', e2, hc3, hc4⟩ := (hI0.out.below (hD.below _)) j (by omega)
          subst e1; cases e2
          have k1 : IntKind.i64.wrap (↑j : Int) = ↑j := IntWalk.i64_in _ (by omega)
          have k2 : (0 : Int) ≤ ↑j + 1 := by omega
          have k3 : (↑j : Int) + 1 < ↑l.length := by omega
          have k4 : (↑j : Int) < ↑l.length := by omega
          have k5 : ((↑j : Int) + 1).toNat = j + 1 := by omega
          by_cases hlq : dayN l (j + 1) ≤ dayN l j
          · have HF : Hid (R.checkLog deg l = 16) := by
              unfold R.checkLog; rw [if_neg (by omega), if_neg (by omega), if_neg (not_not_intro HFit.out), if_pos (fun h => by have := h j (by omega); omega)]; trivial
            go_wp2_with fail
            go_quiet (fail)
            go_wp2_with fail
            go_ret
            exact ⟨ret_int (by rw [HF.out]), hb0.out.trans ((hb.trans ((hD.drewN _).below _)).mono (by omega))⟩
          · have hlq' : dayN l j < dayN l (j + 1) := by omega
            go_wp2_with fail
            go_quiet (fail)
            go_wp2_with fail
            go_roundw
            case rel => exact ⟨j + 1, by go_num, by omega, Lib.hid (fun i hi => by
              by_cases h : i = j
              · subst h; exact hlq'
              · exact HP.out i (by omega)), hD.drewN _⟩
            case measure => simp [intOf]; omega
        · have HF : Hid (R.checkLog deg l = 0) := by
            refine R.Valid.zero ⟨hd0', hd3', by omega, HFit.out, fun i hi => HP.out i (by omega)⟩
          go_wp2_with fail
          go_ret
          exact ⟨ret_int (by rw [HF.out]), hb0.out.trans ((hb.trans (hD.below _)).mono (by omega))⟩
end Go.Proofs.Ytkcgkfhfogdihaa
/- Walks of the reference's place and Pass. -/
namespace Go.Proofs.Ytkcgkfhfogdihaa
open Go.RowKit
theorem ret_pair {a b c d : Value} (h1 : a = c) (h2 : b = d) : Ending.returned (.tuple #[a, b]) = Ending.returned (.tuple #[c, d]) := by rw [h1, h2]
namespace R
/-- The product of all differences of days. -/
def allIn (l : List (Int × Int)) (a : Nat) (r : Int) (b : Nat) : Int := up (fun b r => r * (dayN l a - dayN l b)) r b
def allTo (l : List (Int × Int)) (n : Nat) : Int := up (fun a r => allIn l a r a) 1 n
def termIn (l : List (Int × Int)) (i a : Nat) (t : Int) (b : Nat) : Int := up (fun b t => if b = i then t else t * (dayN l a - dayN l b)) t b
def termTo (l : List (Int × Int)) (day : Int) (i : Nat) (n : Nat) : Int :=
  up (fun a t => if a = i then t else termIn l i a (if i < a then -(t * (day - dayN l a)) else t * (day - dayN l a)) a) (plcN l i) n
def sumTo (l : List (Int × Int)) (day : Int) (n : Nat) : Int := up (fun i s => s + termTo l day i l.length) 0 n
def allP (l : List (Int × Int)) : Int := allTo l l.length
def sumP (l : List (Int × Int)) (day : Int) : Int := sumTo l day l.length
end R

set_option maxRecDepth 100000 in
set_option maxHeartbeats 1000000 in
theorem place_any (a : Option Addr) (cap : Nat) (l : List (Int × Int)) (day : Int) (w : World) (hl : l.length ≤ 1000) (ha : Sigs w a l) (hf : R.Fit l) (hd0 : 0 ≤ day) (hd1 : day ≤ 1000)
    (hne : R.allP l ≠ 0) (hwa : wrap64 (R.allP l) = R.allP l) (hws : wrap64 (R.sumP l day) = R.sumP l day) (hwq : wrap64 ((R.sumP l day).tdiv (R.allP l)) = (R.sumP l day).tdiv (R.allP l)) :
    Calls Try.prog 78 #[.slice a l.length cap, .int .i64 day] w fun e w' => e = .returned (.tuple #[.int .i64 ((R.sumP l day).tdiv (R.allP l)), .bool ((R.sumP l day).tmod (R.allP l) == 0)]) ∧ Drew w w' := by
  have HA := Lib.hid ha; clear ha
  have HF := Lib.hid hf; clear hf
  have HN := Lib.hid hne; clear hne
  have HWA := Lib.hid hwa; clear hwa
  have HWS := Lib.hid hws; clear hws
  have HWQ := Lib.hid hwq; clear hwq
  go_enter Try.func78, Try.ntmps78
  go_wp2
  go_loopw [6, 8, 9] (fun r i _ wr => ∃ j : Nat, j ≤ l.length ∧ i = .int .i64 j ∧ r = .int .i64 (wrap64 (R.allTo l j)) ∧ Drew w wr) (fun _ i _ _ => l.length - (intOf i).toNat)
  case atStart => exact ⟨0, by omega, rfl, by rw [show R.allTo l 0 = 1 from rfl, wrap64_id (by omega)], Drew.refl w⟩
  case round =>
    obtain ⟨j, hj, rfl, rfl, hD⟩ := hrel
    by_cases hlt : j < l.length
    · obtain ⟨b, off, rfl, hc1, hc2⟩ := HA.out j hlt
      clear hc1 hc2
      have hjd := HF.out j hlt
      go_wp2_with fail
      obtain ⟨W1, rfl⟩ : ∃ W1, W1 = wr := ⟨_, rfl⟩
      go_loopw [6, 9] (fun r i wi => ∃ k : Nat, k ≤ j ∧ i = .int .i64 k ∧ r = .int .i64 (wrap64 (R.allIn l j (R.allTo l j) k)) ∧ Drew w wi) (fun _ i _ => j - (intOf i).toNat)
      case atStart => exact ⟨0, by omega, rfl, rfl, hD⟩
      case round =>
        obtain ⟨k, hk, rfl, rfl, hD2⟩ := hrel
        by_cases hlt2 : k < j
        · obtain ⟨b', off', e1, hc1, hc2⟩ := (HA.out.below (hD2.below _)) j hlt
          obtain ⟨b'', off'', e2, hc3, hc4⟩ := (HA.out.below (hD2.below _)) k (by omega)
          cases e1; cases e2
          have hjd := HF.out j hlt
          have hkd := HF.out k (by omega)
          obtain ⟨f1, f2, f3, f4⟩ := hjd
          obtain ⟨g1, g2, g3, g4⟩ := hkd
          have k0 : (0 : Int) ≤ ↑j := by omega
          have k1 : (↑j : Int) < ↑l.length := by omega
          have k2 : (0 : Int) ≤ ↑k := by omega
          have k3 : (↑k : Int) < ↑l.length := by omega
          have k4 : IntKind.i64.wrap (dayN l j - dayN l k) = dayN l j - dayN l k := IntWalk.i64_in _ (by omega)
          go_wp2_with fail
          go_quiet (fail)
          go_wp2_with fail
          go_roundw
          case rel => exact ⟨k + 1, by omega, by go_num, by rw [wrap64_mul_l]; rfl, hD2.drewN _⟩
          case measure => simp [intOf]; omega
        · go_wp2_with fail
          go_roundw
          case rel => exact ⟨j + 1, by omega, by go_num, by rw [show k = j by omega]; rfl, hD2⟩
          case measure => simp [intOf]; omega
    · have hja : j = l.length := by omega
      subst hja
      go_wp2_with fail
      obtain ⟨W0, rfl⟩ : ∃ W0, W0 = wr := ⟨_, rfl⟩
      rw [show wrap64 (R.allTo l l.length) = R.allP l from HWA.out]
      go_loopw [7, 10, 11, 12, 13] (fun s i _ _ _ wi => ∃ j : Nat, j ≤ l.length ∧ i = .int .i64 j ∧ s = .int .i64 (wrap64 (R.sumTo l day j)) ∧ Drew w wi) (fun _ i _ _ _ _ => l.length - (intOf i).toNat)
      case atStart => exact ⟨0, by omega, rfl, by rw [show R.sumTo l day 0 = 0 from rfl, wrap64_id (by omega)], hD⟩
      case round =>
        obtain ⟨i, hi, rfl, rfl, hD1⟩ := hrel
        by_cases hlt1 : i < l.length
        · obtain ⟨b, off, rfl, hc1, hc2⟩ := (HA.out.below (hD1.below _)) i hlt1
          obtain ⟨f1, f2, f3, f4⟩ := HF.out i hlt1
          go_wp2_with fail
          obtain ⟨W1, rfl⟩ : ∃ W1, W1 = wr := ⟨_, rfl⟩
          clear hc1 hc2
          go_loopw [11, 12, 13] (fun t c _ wi => ∃ c' : Nat, c' ≤ l.length ∧ c = .int .i64 c' ∧ t = .int .i64 (wrap64 (R.termTo l day i c')) ∧ Drew w wi) (fun _ c _ _ => l.length - (intOf c).toNat)
          case atStart => exact ⟨0, by omega, rfl, by rw [show R.termTo l day i 0 = plcN l i from rfl, wrap64_id (by omega)], hD1⟩
          case round =>
            obtain ⟨c, hc, rfl, rfl, hD2⟩ := hrel
            by_cases hlt2 : c < l.length
            · have hci : Hid (R.termTo l day i (c + 1) = if c = i then R.termTo l day i c else R.termIn l i c (if i < c then -(R.termTo l day i c * (day - dayN l c)) else R.termTo l day i c * (day - dayN l c)) c) := rfl
              by_cases heq : c = i
              · subst heq
                go_wp2_with fail
                go_roundw
                case rel => exact ⟨c + 1, by omega, by go_num, by rw [hci.out, if_pos rfl], hD2⟩
                case measure => simp [intOf]; omega
              · have heq' : ((c : Int) == (i : Int)) = false := by simp; omega
                obtain ⟨b', off', e1, hc1, hc2⟩ := (HA.out.below (hD2.below _)) c hlt2
                cases e1
                obtain ⟨g1, g2, g3, g4⟩ := HF.out c hlt2
                have HE : ∃ T : Int, Hid ((if i < c then -(R.termTo l day i c * (day - dayN l c)) else R.termTo l day i c * (day - dayN l c)) = T) := ⟨_, rfl⟩
                obtain ⟨T, HT⟩ := HE
                rw [HT.out] at hci
                by_cases hgt : i < c
                all_goals
                  go_wp2_with fail
                  obtain ⟨W2, rfl⟩ : ∃ W2, W2 = wr := ⟨_, rfl⟩
                  clear hc1 hc2
                  go_loopw [11, 13] (fun t k wi => ∃ k' : Nat, k' ≤ c ∧ k = .int .i64 k' ∧ t = .int .i64 (wrap64 (R.termIn l i c T k')) ∧ Drew w wi) (fun _ k _ => c - (intOf k).toNat)
                  case atStart =>
                    refine ⟨0, by omega, rfl, ?_, hD2⟩
                    rw [show R.termIn l i c T 0 = T from rfl, ← HT.out]
                    first
                      | rw [if_pos hgt, wrap64_mul_l, wrap64_neg]
                      | rw [if_neg hgt, wrap64_mul_l]
                  case round =>
                    obtain ⟨k, hk, rfl, rfl, hD3⟩ := hrel
                    by_cases hlt3 : k < c
                    · have hki : Hid (R.termIn l i c T (k + 1) = if k = i then R.termIn l i c T k else R.termIn l i c T k * (dayN l c - dayN l k)) := rfl
                      by_cases heq3 : k = i
                      · by_cases hgt2 : i < c
                        · subst heq3
                          go_wp2_with fail
                          go_roundw
                          case rel => exact ⟨k + 1, by omega, by go_num, by rw [hki.out, if_pos rfl], hD3⟩
                          case measure => simp [intOf]; omega
                        · exfalso; omega
                      · have heq3' : ((k : Int) != (i : Int)) = true := by simp; omega
                        obtain ⟨b', off', e1, hc1, hc2⟩ := (HA.out.below (hD3.below _)) c hlt2
                        obtain ⟨b'', off'', e2, hc3, hc4⟩ := (HA.out.below (hD3.below _)) k (by omega)
                        cases e1; cases e2
                        obtain ⟨m1, m2, m3, m4⟩ := HF.out k (by omega)
                        have k0 : (0 : Int) ≤ ↑c := by omega
                        have k1 : (↑c : Int) < ↑l.length := by omega
                        have k2 : (0 : Int) ≤ ↑k := by omega
                        have k3 : (↑k : Int) < ↑l.length := by omega
                        have k4 : IntKind.i64.wrap (dayN l c - dayN l k) = dayN l c - dayN l k := IntWalk.i64_in _ (by omega)
                        go_wp2_with fail
                        go_quiet (fail)
                        go_wp2_with fail
                        go_roundw
                        case rel => exact ⟨k + 1, by omega, by go_num, by rw [wrap64_mul_l, hki.out, if_neg heq3], hD3.drewN _⟩
                        case measure => simp [intOf]; omega
                    · go_wp2_with fail
                      go_roundw
                      case rel => exact ⟨c + 1, by omega, by go_num, by rw [show k = c by omega, hci.out, if_neg heq], hD3⟩
                      case measure => simp [intOf]; omega
            · go_wp2_with fail
              go_roundw
              case rel => exact ⟨i + 1, by omega, by go_num, by rw [show c = l.length by omega, wrap64_add_l, wrap64_add_r]; rfl, hD2⟩
              case measure => simp [intOf]; omega
        · rw [show wrap64 (R.sumTo l day i) = R.sumP l day by rw [show i = l.length by omega]; exact HWS.out]
          have HN' : (R.allP l == 0) = false := by rw [beq_eq_false_iff_ne]; exact HN.out
          have hnn : R.allP l ≠ 0 := HN.out
          go_wp2_with fail
          go_quiet (fail)
          go_wp2_with fail
          go_ret2
          exact ⟨ret_pair (congrArg (Value.int .i64) HWQ.out) rfl, hD1.drewN _⟩
end Go.Proofs.Ytkcgkfhfogdihaa
/- Plain Lean: the polynomial through some sightings. -/
namespace Go.Proofs.Ytkcgkfhfogdihaa.R
open Go.RowKit Go.Proofs.Ytkcgkfhfogdihaa
/-- Some sightings of a log: at most 4, with increasing days. -/
structure Piece (l : List (Int × Int)) : Prop where
  len : l.length ≤ 4
  fit : Fit l
  inc : Inc l
theorem ways_forms : ∀ n : Nat, n < 201 → ways n 0 = 1 ∧ ways n 1 = n ∧ 2 * ways n 2 = n * (n - 1) ∧ 6 * ways n 3 = n * (n - 1) * (n - 2) := by decide +kernel
/-- Six times the place, as a polynomial. -/
def poly (q : List Int) (x : Int) : Int := 6 * nth q 0 + 6 * (x * nth q 1) + 3 * (x * (x - 1) * nth q 2) + x * (x - 1) * (x - 2) * nth q 3
theorem atD_poly {q : List Int} (hq : q.length ≤ 4) {x : Int} (h0 : 0 ≤ x) (h1 : x ≤ 200) : 6 * atD q x = poly q x := by
  obtain ⟨n, rfl⟩ := Int.eq_ofNat_of_zero_le h0
  obtain ⟨w0, w1, w2, w3⟩ := ways_forms n (by omega)
  match q, hq with
  | [], _ => simp [atD, atFrom, up, poly, nth]
  | [a], _ => simp [atD, atFrom, up, poly, nth, w0]
  | [a, b], _ => simp [atD, atFrom, up, poly, nth, w0, w1]; grind
  | [a, b, c], _ => simp [atD, atFrom, up, poly, nth, w0, w1]; grind
  | [a, b, c, d], _ => simp [atD, atFrom, up, poly, nth, w0, w1]; grind
theorem piece_lt {l : List (Int × Int)} (h : Piece l) {i j : Nat} (hij : i < j) (hj : j < l.length) : dayN l i < dayN l j := by
  induction j with
  | zero => omega
  | succ j ih =>
    have h1 := h.inc j (by omega)
    by_cases e : i = j
    · subst e; exact h1
    · exact Int.lt_trans (ih (by omega) (by omega)) h1
theorem cubic_lin (x d d1 d2 d3 p p1 p2 p3 : Int) :
    6 * (-(-(-(p * (x - d1)) * (x - d2)) * (d2 - d1) * (x - d3)) * (d3 - d1) * (d3 - d2) + -(-(p1 * (x - d) * (x - d2)) * (d2 - d) * (x - d3)) * (d3 - d) * (d3 - d2) + -(p2 * (x - d) * (x - d1) * (d1 - d) * (x - d3)) * (d3 - d) * (d3 - d1) + p3 * (x - d) * (x - d1) * (d1 - d) * (x - d2) * (d2 - d) * (d2 - d1)) =
    -(6 * p) * ((x - d1) * (x - d2) * (x - d3) * ((d2 - d1) * (d3 - d1) * (d3 - d2))) + (6 * p1) * ((x - d) * (x - d2) * (x - d3) * ((d2 - d) * (d3 - d) * (d3 - d2))) - (6 * p2) * ((x - d) * (x - d1) * (x - d3) * ((d1 - d) * (d3 - d) * (d3 - d1))) + (6 * p3) * ((x - d) * (x - d1) * (x - d2) * ((d1 - d) * (d2 - d) * (d2 - d1))) := by grind
theorem cubic_id (x d d1 d2 d3 a b c e : Int) :
    -(6 * a + 6 * (d * b) + 3 * (d * (d - 1) * c) + d * (d - 1) * (d - 2) * e) * ((x - d1) * (x - d2) * (x - d3) * ((d2 - d1) * (d3 - d1) * (d3 - d2))) + (6 * a + 6 * (d1 * b) + 3 * (d1 * (d1 - 1) * c) + d1 * (d1 - 1) * (d1 - 2) * e) * ((x - d) * (x - d2) * (x - d3) * ((d2 - d) * (d3 - d) * (d3 - d2))) - (6 * a + 6 * (d2 * b) + 3 * (d2 * (d2 - 1) * c) + d2 * (d2 - 1) * (d2 - 2) * e) * ((x - d) * (x - d1) * (x - d3) * ((d1 - d) * (d3 - d) * (d3 - d1))) + (6 * a + 6 * (d3 * b) + 3 * (d3 * (d3 - 1) * c) + d3 * (d3 - 1) * (d3 - 2) * e) * ((x - d) * (x - d1) * (x - d2) * ((d1 - d) * (d2 - d) * (d2 - d1))) =
    (d1 - d) * (d2 - d) * (d2 - d1) * (d3 - d) * (d3 - d1) * (d3 - d2) * (6 * a + 6 * (x * b) + 3 * (x * (x - 1) * c) + x * (x - 1) * (x - 2) * e) := by grind
/-- Where the polynomial of a path leads through all of them, the reference's sum is the product times the place. -/
theorem sum_of_path {l : List (Int × Int)} (h : l.length ≤ 4) {q : List Int} (hq : q.length = l.length) (hl : ∀ i, i < l.length → poly q (dayN l i) = 6 * plcN l i) (x : Int) : 6 * sumP l x = allP l * poly q x := by
  match l, q, h, hq with
  | [], [], _, _ => simp [sumP, sumTo, allP, allTo, up, poly, nth]
  | [(d, p)], [a], _, _ =>
    have h0 := hl 0 (by simp)
    simp [sumP, sumTo, allP, allTo, allIn, termTo, termIn, up, poly, nth, dayN, plcN] at h0 ⊢
    omega
  | [(d, p), (d1, p1)], [a, b], _, _ =>
    have h0 := hl 0 (by simp); have h1 := hl 1 (by simp)
    simp [sumP, sumTo, allP, allTo, allIn, termTo, termIn, up, poly, nth, dayN, plcN] at h0 h1 ⊢
    grind
  | [(d, p), (d1, p1), (d2, p2)], [a, b, c], _, _ =>
    have h0 := hl 0 (by simp); have h1 := hl 1 (by simp); have h2 := hl 2 (by simp)
    simp [sumP, sumTo, allP, allTo, allIn, termTo, termIn, up, poly, nth, dayN, plcN] at h0 h1 h2 ⊢
    grind
  | [(d, p), (d1, p1), (d2, p2), (d3, p3)], [a, b, c, e], _, _ =>
    have h0 := hl 0 (by simp); have h1 := hl 1 (by simp); have h2 := hl 2 (by simp); have h3 := hl 3 (by simp)
    simp [sumP, sumTo, allP, allTo, allIn, termTo, termIn, up, poly, nth, dayN, plcN] at h0 h1 h2 h3 ⊢
    rw [cubic_lin, ← h0, ← h1, ← h2, ← h3, cubic_id]
/-- The sum at the day of a sighting is the product times its place. -/
theorem sum_node {l : List (Int × Int)} (h : l.length ≤ 4) {i : Nat} (hi : i < l.length) : sumP l (dayN l i) = allP l * plcN l i := by
  match l, h with
  | [], _ => simp at hi
  | [(d, p)], _ =>
    match i, hi with
    | 0, _ => simp [sumP, sumTo, allP, allTo, allIn, termTo, termIn, up, dayN, plcN]
  | [(d, p), (d1, p1)], _ =>
    match i, hi with
    | 0, _ => simp [sumP, sumTo, allP, allTo, allIn, termTo, termIn, up, dayN, plcN]; grind
    | 1, _ => simp [sumP, sumTo, allP, allTo, allIn, termTo, termIn, up, dayN, plcN]; grind
  | [(d, p), (d1, p1), (d2, p2)], _ =>
    match i, hi with
    | 0, _ => simp [sumP, sumTo, allP, allTo, allIn, termTo, termIn, up, dayN, plcN]; grind
    | 1, _ => simp [sumP, sumTo, allP, allTo, allIn, termTo, termIn, up, dayN, plcN]; grind
    | 2, _ => simp [sumP, sumTo, allP, allTo, allIn, termTo, termIn, up, dayN, plcN]; grind
  | [(d, p), (d1, p1), (d2, p2), (d3, p3)], _ =>
    match i, hi with
    | 0, _ => simp [sumP, sumTo, allP, allTo, allIn, termTo, termIn, up, dayN, plcN]; grind
    | 1, _ => simp [sumP, sumTo, allP, allTo, allIn, termTo, termIn, up, dayN, plcN]; grind
    | 2, _ => simp [sumP, sumTo, allP, allTo, allIn, termTo, termIn, up, dayN, plcN]; grind
    | 3, _ => simp [sumP, sumTo, allP, allTo, allIn, termTo, termIn, up, dayN, plcN]; grind
theorem newton3 (d p d1 p1 d2 p2 x : Int) : 6 * sumP [(d, p), (d1, p1), (d2, p2)] x = 6 * sumP [(d, p), (d1, p1), (d2, p2)] (0 : Nat) + 6 * x * (sumP [(d, p), (d1, p1), (d2, p2)] (1 : Nat) - sumP [(d, p), (d1, p1), (d2, p2)] (0 : Nat)) +
    3 * x * (x - 1) * (sumP [(d, p), (d1, p1), (d2, p2)] (2 : Nat) - 2 * sumP [(d, p), (d1, p1), (d2, p2)] (1 : Nat) + sumP [(d, p), (d1, p1), (d2, p2)] (0 : Nat)) := by
  simp [sumP, sumTo, termTo, termIn, up, dayN, plcN]; grind
theorem newton4 (d p d1 p1 d2 p2 d3 p3 x : Int) : 6 * sumP [(d, p), (d1, p1), (d2, p2), (d3, p3)] x = 6 * sumP [(d, p), (d1, p1), (d2, p2), (d3, p3)] (0 : Nat) + 6 * x * (sumP [(d, p), (d1, p1), (d2, p2), (d3, p3)] (1 : Nat) - sumP [(d, p), (d1, p1), (d2, p2), (d3, p3)] (0 : Nat)) +
    3 * x * (x - 1) * (sumP [(d, p), (d1, p1), (d2, p2), (d3, p3)] (2 : Nat) - 2 * sumP [(d, p), (d1, p1), (d2, p2), (d3, p3)] (1 : Nat) + sumP [(d, p), (d1, p1), (d2, p2), (d3, p3)] (0 : Nat)) +
    x * (x - 1) * (x - 2) * (sumP [(d, p), (d1, p1), (d2, p2), (d3, p3)] (3 : Nat) - 3 * sumP [(d, p), (d1, p1), (d2, p2), (d3, p3)] (2 : Nat) + 3 * sumP [(d, p), (d1, p1), (d2, p2), (d3, p3)] (1 : Nat) - sumP [(d, p), (d1, p1), (d2, p2), (d3, p3)] (0 : Nat)) := by
  simp [sumP, sumTo, termTo, termIn, up, dayN, plcN]; grind
/-- Newton: the sums at the first days, divided, give a path whose polynomial is the sum everywhere. -/
theorem newton {l : List (Int × Int)} (h : l.length ≤ 4) {f : Nat → Int} (hf : ∀ k : Nat, k < l.length → sumP l k = allP l * f k) (x : Int) : 6 * sumP l x = allP l * poly (diffs (tab f l.length)) x := by
  match l, h with
  | [], _ => simp [sumP, sumTo, allP, allTo, up, poly, nth, diffs, diffsF, tab]
  | [(d, p)], _ =>
    have h0 := hf 0 (by simp)
    simp [sumP, sumTo, allP, allTo, allIn, termTo, termIn, up, poly, nth, dayN, plcN, diffs, diffsF, tab] at h0 ⊢
    omega
  | [(d, p), (d1, p1)], _ =>
    have h0 := hf 0 (by simp); have h1 := hf 1 (by simp)
    simp [sumP, sumTo, allP, allTo, allIn, termTo, termIn, up, poly, nth, dayN, plcN, diffs, diffsF, tab, steps] at h0 h1 ⊢
    grind
  | [(d, p), (d1, p1), (d2, p2)], _ =>
    have h0 := hf 0 (by simp); have h1 := hf 1 (by simp); have h2 := hf 2 (by simp)
    rw [newton3, h0, h1, h2]
    simp [poly, nth, diffs, diffsF, tab, steps, up]
    grind
  | [(d, p), (d1, p1), (d2, p2), (d3, p3)], _ =>
    have h0 := hf 0 (by simp); have h1 := hf 1 (by simp); have h2 := hf 2 (by simp); have h3 := hf 3 (by simp)
    rw [newton4, h0, h1, h2, h3]
    simp [poly, nth, diffs, diffsF, tab, steps, up]
    grind
end Go.Proofs.Ytkcgkfhfogdihaa.R
/- Plain Lean: bounds of the polynomial through some sightings; what Pass comes to. -/
namespace Go.Proofs.Ytkcgkfhfogdihaa.R
open Go.RowKit Go.Proofs.Ytkcgkfhfogdihaa
def Abs (x B : Int) : Prop := -B ≤ x ∧ x ≤ B
theorem Abs.mul {x y A B : Int} (hx : Abs x A) (hy : Abs y B) : Abs (x * y) (A * B) := by
  obtain ⟨h1, h2⟩ := hx; obtain ⟨h3, h4⟩ := hy
  have hA : 0 ≤ A := by omega
  have hB : 0 ≤ B := by omega
  have a1 := Int.mul_nonneg (show 0 ≤ A - x by omega) (show 0 ≤ B - y by omega)
  have a2 := Int.mul_nonneg (show 0 ≤ A - x by omega) (show 0 ≤ B + y by omega)
  have a3 := Int.mul_nonneg (show 0 ≤ A + x by omega) (show 0 ≤ B - y by omega)
  have a4 := Int.mul_nonneg (show 0 ≤ A + x by omega) (show 0 ≤ B + y by omega)
  unfold Abs
  constructor <;> grind
theorem Abs.mono {x A B : Int} (h : Abs x A) (hB : A ≤ B) : Abs x B := ⟨by have := h.1; omega, by have := h.2; omega⟩
/-- One term of the sum, against the product of all. -/
theorem rel {t V U A B : Int} (ht : Abs t B) (hV : 0 < V) (hU : 0 < U) (hA : U * V = A) (hB : 0 ≤ B) : Abs (t * V) (B * A) := by
  have h1 : Abs (t * V) (B * V) := ht.mul ⟨by omega, Int.le_refl _⟩
  refine h1.mono (Int.mul_le_mul_of_nonneg_left ?_ hB)
  rw [← hA]
  have := Int.mul_le_mul_of_nonneg_right (show 1 ≤ U by omega) (Int.le_of_lt hV)
  omega
theorem Piece.all_pos {l : List (Int × Int)} (h : Piece l) : 0 < allP l ∧ allP l ≤ 46656000000 := by
  obtain ⟨hl, hf, hi⟩ := h
  have hp : ∀ i j, i < j → j < l.length → 1 ≤ dayN l j - dayN l i ∧ dayN l j - dayN l i ≤ 60 := fun i j hij hj => by
    have h1 := piece_lt ⟨hl, hf, hi⟩ hij hj; have h2 := hf i (by omega); have h3 := hf j hj; unfold FitS at h2 h3; omega
  have m : ∀ {x y A B : Int}, 1 ≤ x ∧ x ≤ A → 1 ≤ y ∧ y ≤ B → 1 ≤ x * y ∧ x * y ≤ A * B := fun {x y A B} hx hy => by
    have a1 := Int.mul_le_mul hx.1 hy.1 (by omega) (by omega)
    have a2 := Int.mul_le_mul hx.2 hy.2 (by omega) (by omega)
    exact ⟨by simpa using a1, a2⟩
  match l, hl, hp with
  | [], _, _ => simp [allP, allTo, up]
  | [(d, p)], _, _ => simp [allP, allTo, allIn, up]
  | [(d, p), (d1, p1)], _, hp =>
    have e1 := hp 0 1 (by omega) (by simp)
    simp [allP, allTo, allIn, up, dayN] at e1 ⊢; omega
  | [(d, p), (d1, p1), (d2, p2)], _, hp =>
    have e1 := hp 0 1 (by omega) (by simp); have e2 := hp 0 2 (by omega) (by simp); have e3 := hp 1 2 (by omega) (by simp)
    have := m (m e1 e2) e3
    simp [allP, allTo, allIn, up, dayN] at this ⊢; omega
  | [(d, p), (d1, p1), (d2, p2), (d3, p3)], _, hp =>
    have e1 := hp 0 1 (by omega) (by simp); have e2 := hp 0 2 (by omega) (by simp); have e3 := hp 1 2 (by omega) (by simp)
    have e4 := hp 0 3 (by omega) (by simp); have e5 := hp 1 3 (by omega) (by simp); have e6 := hp 2 3 (by omega) (by simp)
    have := m (m (m (m (m e1 e2) e3) e4) e5) e6
    simp [allP, allTo, allIn, up, dayN] at this ⊢; omega
/-- The sum, against the product, and by itself. -/
theorem Piece.sum_bd {l : List (Int × Int)} (h : Piece l) {x : Int} (h0 : 0 ≤ x) (h1 : x ≤ 60) : Abs (sumP l x) (86400000000 * allP l) ∧ Abs (sumP l x) 18662400000000000 := by
  have hA := h.all_pos
  obtain ⟨hl, hf, hi⟩ := h
  have hp : ∀ i j, i < j → j < l.length → 0 < dayN l j - dayN l i ∧ Abs (dayN l j - dayN l i) 60 := fun i j hij hj => by
    have h1 := piece_lt ⟨hl, hf, hi⟩ hij hj; have h2 := hf i (by omega); have h3 := hf j hj; unfold FitS at h2 h3; unfold Abs; omega
  have hx : ∀ i, i < l.length → Abs (x - dayN l i) 60 ∧ Abs (plcN l i) 100000 := fun i hi => by
    have h2 := hf i hi; unfold FitS at h2; unfold Abs; omega
  have q2 : ∀ {x y : Int}, 0 < x → 0 < y → 0 < x * y := Int.mul_pos
  match l, hl, hp, hx, hA with
  | [], _, _, _, _ => simp [sumP, sumTo, allP, allTo, up, Abs]
  | [(d, p)], _, _, hx, _ =>
    have a1 := (hx 0 (by simp)).2
    simp [sumP, sumTo, allP, allTo, allIn, termTo, termIn, up, dayN, plcN, Abs] at a1 ⊢; omega
  | [(d, p), (d1, p1)], _, hp, hx, _ =>
    obtain ⟨x0, a0⟩ := hx 0 (by simp); obtain ⟨x1, a1⟩ := hx 1 (by simp)
    obtain ⟨c1, _⟩ := hp 0 1 (by omega) (by simp)
    have e : sumP [(d, p), (d1, p1)] x = -(p * (x - d1)) + p1 * (x - d) := by simp [sumP, sumTo, termTo, termIn, up, dayN, plcN]
    have e2 : allP [(d, p), (d1, p1)] = d1 - d := by simp [allP, allTo, allIn, up, dayN]
    simp only [dayN, plcN, List.getD_cons_zero, List.getD_cons_succ] at x0 x1 a0 a1 c1
    rw [e, e2]
    have t0 := a0.mul x1; have t1 := a1.mul x0
    unfold Abs at *
    omega
  | [(d, p), (d1, p1), (d2, p2)], _, hp, hx, _ =>
    obtain ⟨x0, a0⟩ := hx 0 (by simp); obtain ⟨x1, a1⟩ := hx 1 (by simp); obtain ⟨x2, a2⟩ := hx 2 (by simp)
    obtain ⟨c1, c1'⟩ := hp 0 1 (by omega) (by simp); obtain ⟨c2, c2'⟩ := hp 0 2 (by omega) (by simp); obtain ⟨c3, c3'⟩ := hp 1 2 (by omega) (by simp)
    have e : sumP [(d, p), (d1, p1), (d2, p2)] x = (p * (x - d1) * (x - d2)) * (d2 - d1) - (p1 * (x - d) * (x - d2)) * (d2 - d) + (p2 * (x - d) * (x - d1)) * (d1 - d) := by
      simp [sumP, sumTo, termTo, termIn, up, dayN, plcN]; grind
    simp only [dayN, plcN, List.getD_cons_zero, List.getD_cons_succ] at x0 x1 x2 a0 a1 a2 c1 c2 c3 c1' c2' c3'
    have r0 := rel (A := allP [(d, p), (d1, p1), (d2, p2)]) ((a0.mul x1).mul x2) c3 (q2 c1 c2) (by simp [allP, allTo, allIn, up, dayN]) (by decide)
    have r1 := rel (A := allP [(d, p), (d1, p1), (d2, p2)]) ((a1.mul x0).mul x2) c2 (q2 c1 c3) (by simp [allP, allTo, allIn, up, dayN]; grind) (by decide)
    have r2 := rel (A := allP [(d, p), (d1, p1), (d2, p2)]) ((a2.mul x0).mul x1) c1 (q2 c2 c3) (by simp [allP, allTo, allIn, up, dayN]; grind) (by decide)
    have s0 := ((a0.mul x1).mul x2).mul c3'
    have s1 := ((a1.mul x0).mul x2).mul c2'
    have s2 := ((a2.mul x0).mul x1).mul c1'
    rw [e]
    generalize allP [(d, p), (d1, p1), (d2, p2)] = A at *
    unfold Abs at *
    omega
  | [(d, p), (d1, p1), (d2, p2), (d3, p3)], _, hp, hx, _ =>
    obtain ⟨x0, a0⟩ := hx 0 (by simp); obtain ⟨x1, a1⟩ := hx 1 (by simp); obtain ⟨x2, a2⟩ := hx 2 (by simp); obtain ⟨x3, a3⟩ := hx 3 (by simp)
    obtain ⟨c1, c1'⟩ := hp 0 1 (by omega) (by simp); obtain ⟨c2, c2'⟩ := hp 0 2 (by omega) (by simp); obtain ⟨c3, c3'⟩ := hp 1 2 (by omega) (by simp)
    obtain ⟨c4, c4'⟩ := hp 0 3 (by omega) (by simp); obtain ⟨c5, c5'⟩ := hp 1 3 (by omega) (by simp); obtain ⟨c6, c6'⟩ := hp 2 3 (by omega) (by simp)
    have e : sumP [(d, p), (d1, p1), (d2, p2), (d3, p3)] x = -((p * (x - d1) * (x - d2) * (x - d3)) * ((d2 - d1) * (d3 - d1) * (d3 - d2))) + (p1 * (x - d) * (x - d2) * (x - d3)) * ((d2 - d) * (d3 - d) * (d3 - d2)) - (p2 * (x - d) * (x - d1) * (x - d3)) * ((d1 - d) * (d3 - d) * (d3 - d1)) + (p3 * (x - d) * (x - d1) * (x - d2)) * ((d1 - d) * (d2 - d) * (d2 - d1)) := by
      simp [sumP, sumTo, termTo, termIn, up, dayN, plcN]; grind
    simp only [dayN, plcN, List.getD_cons_zero, List.getD_cons_succ] at x0 x1 x2 x3 a0 a1 a2 a3 c1 c2 c3 c4 c5 c6 c1' c2' c3' c4' c5' c6'
    have r0 := rel (A := allP [(d, p), (d1, p1), (d2, p2), (d3, p3)]) (((a0.mul x1).mul x2).mul x3) (q2 (q2 c3 c5) c6) (q2 (q2 c1 c2) c4) (by simp [allP, allTo, allIn, up, dayN]; grind) (by decide)
    have r1 := rel (A := allP [(d, p), (d1, p1), (d2, p2), (d3, p3)]) (((a1.mul x0).mul x2).mul x3) (q2 (q2 c2 c4) c6) (q2 (q2 c1 c3) c5) (by simp [allP, allTo, allIn, up, dayN]; grind) (by decide)
    have r2 := rel (A := allP [(d, p), (d1, p1), (d2, p2), (d3, p3)]) (((a2.mul x0).mul x1).mul x3) (q2 (q2 c1 c4) c5) (q2 (q2 c2 c3) c6) (by simp [allP, allTo, allIn, up, dayN]; grind) (by decide)
    have r3 := rel (A := allP [(d, p), (d1, p1), (d2, p2), (d3, p3)]) (((a3.mul x0).mul x1).mul x2) (q2 (q2 c1 c2) c3) (q2 (q2 c4 c5) c6) (by simp [allP, allTo, allIn, up, dayN]; grind) (by decide)
    have s0 := (((a0.mul x1).mul x2).mul x3).mul ((c3'.mul c5').mul c6')
    have s1 := (((a1.mul x0).mul x2).mul x3).mul ((c2'.mul c4').mul c6')
    have s2 := (((a2.mul x0).mul x1).mul x3).mul ((c1'.mul c4').mul c5')
    have s3 := (((a3.mul x0).mul x1).mul x2).mul ((c1'.mul c2').mul c3')
    rw [e]
    generalize allP [(d, p), (d1, p1), (d2, p2), (d3, p3)] = A at *
    unfold Abs at *
    omega

/-- The path through some sightings, as many as it has numbers; none: there is none. -/
def pass (l : List (Int × Int)) : Option (List Int) :=
  if ∀ k : Nat, k < l.length → (sumP l k).tmod (allP l) = 0 then some (diffs (tab (fun k => (sumP l k).tdiv (allP l)) l.length)) else none
theorem list4 {l : List Int} (h : l.length ≤ 4) : l = [] ∨ (∃ a, l = [a]) ∨ (∃ a b, l = [a, b]) ∨ (∃ a b c, l = [a, b, c]) ∨ ∃ a b c d, l = [a, b, c, d] := by
  match l, h with
  | [], _ => simp
  | [a], _ => simp
  | [a, b], _ => simp
  | [a, b, c], _ => simp
  | [a, b, c, d], _ => simp
theorem diffs_bd {B : Int} {l : List Int} (h : l.length ≤ 4) (hb : Bd B l) : Bd (8 * B) (diffs l) := by
  intro i hi
  rw [diffs_length] at hi
  have h' := hb
  rcases list4 h with rfl | ⟨a, rfl⟩ | ⟨a, b, rfl⟩ | ⟨a, b, c, rfl⟩ | ⟨a, b, c, d, rfl⟩
  · simp at hi
  · have b0 := hb 0 (by simp)
    have : i = 0 := by simp at hi; omega
    subst this; simp [diffs, diffsF, nth] at b0 ⊢; omega
  · have b0 := hb 0 (by simp); have b1 := hb 1 (by simp)
    have : i = 0 ∨ i = 1 := by simp at hi; omega
    rcases this with rfl | rfl <;> (simp [diffs, diffsF, steps, nth] at b0 b1 ⊢; omega)
  · have b0 := hb 0 (by simp); have b1 := hb 1 (by simp); have b2 := hb 2 (by simp)
    have : i = 0 ∨ i = 1 ∨ i = 2 := by simp at hi; omega
    rcases this with rfl | rfl | rfl <;> (simp [diffs, diffsF, steps, nth] at b0 b1 b2 ⊢; omega)
  · have b0 := hb 0 (by simp); have b1 := hb 1 (by simp); have b2 := hb 2 (by simp); have b3 := hb 3 (by simp)
    have : i = 0 ∨ i = 1 ∨ i = 2 ∨ i = 3 := by simp at hi; omega
    rcases this with rfl | rfl | rfl | rfl <;> (simp [diffs, diffsF, steps, nth] at b0 b1 b2 b3 ⊢; omega)
/-- A path is told by its places on the first days. -/
theorem diffs_places {q : List Int} (h : q.length ≤ 4) : diffs (tab (fun k => atD q k) q.length) = q := by
  rcases list4 h with rfl | ⟨a, rfl⟩ | ⟨a, b, rfl⟩ | ⟨a, b, c, rfl⟩ | ⟨a, b, c, d, rfl⟩
  · rfl
  · simp [diffs, diffsF, tab, up, atD, atFrom, nth, ways]
  · simp [diffs, diffsF, steps, tab, up, atD, atFrom, nth, ways]; omega
  · simp [diffs, diffsF, steps, tab, up, atD, atFrom, nth, ways]; omega
  · simp [diffs, diffsF, steps, tab, up, atD, atFrom, nth, ways]; omega
theorem tab_congr {f g : Nat → Int} {n : Nat} (h : ∀ k, k < n → f k = g k) : tab f n = tab g n := by
  induction n with
  | zero => rfl
  | succ n ih => rw [tab_succ, tab_succ, ih (fun k hk => h k (by omega)), h n (by omega)]
theorem quot_bd {A S B : Int} (hA : 0 < A) (h : Abs S (B * A)) (hd : S.tmod A = 0) : ∃ q, S = A * q ∧ S.tdiv A = q ∧ Abs q B := by
  have e : S = A * S.tdiv A := by have := Int.mul_tdiv_add_tmod S A; rw [hd] at this; omega
  refine ⟨S.tdiv A, e, rfl, ?_⟩
  generalize S.tdiv A = q at *
  subst e
  obtain ⟨h1, h2⟩ := h
  rw [Int.mul_comm A q] at h1 h2
  constructor
  · rw [← Int.neg_mul] at h1; exact Int.le_of_mul_le_mul_right h1 hA
  · exact Int.le_of_mul_le_mul_right h2 hA
theorem Piece.pass_some {l : List (Int × Int)} (h : Piece l) {p : List Int} (hp : pass l = some p) :
    p.length = l.length ∧ (∀ i, i < l.length → atD p (dayN l i) = plcN l i) ∧ p.all numOk = true := by
  unfold pass at hp
  split at hp
  · rename_i hm
    cases hp
    have hA := h.all_pos
    have hq : ∀ k : Nat, k < l.length → sumP l k = allP l * (sumP l k).tdiv (allP l) ∧ Abs ((sumP l k).tdiv (allP l)) 86400000000 := fun k hk => by
      have hl := h.len
      obtain ⟨q, e1, e2, e3⟩ := quot_bd hA.1 (h.sum_bd (x := k) (by omega) (by omega)).1 (hm k hk)
      rw [e2]; exact ⟨e1, e3⟩
    have hlen : (diffs (tab (fun k => (sumP l k).tdiv (allP l)) l.length)).length = l.length := by rw [diffs_length, tab_length]
    refine ⟨hlen, fun i hi => ?_, ?_⟩
    · have n1 := newton h.len (f := fun k => (sumP l k).tdiv (allP l)) (fun k hk => (hq k hk).1) (dayN l i)
      rw [sum_node h.len hi] at n1
      have hf := h.fit i hi
      unfold FitS at hf
      rw [← atD_poly (by rw [hlen]; exact h.len) hf.1 (by omega)] at n1
      have : allP l * (6 * plcN l i) = allP l * (6 * atD (diffs (tab (fun k => (sumP l k).tdiv (allP l)) l.length)) (dayN l i)) := by rw [← n1]; grind
      have := Int.eq_of_mul_eq_mul_left (by omega) this
      omega
    · rw [List.all_eq_true]
      intro x hx
      obtain ⟨i, hi, rfl⟩ := List.getElem_of_mem hx
      have b := diffs_bd (B := 86400000000) (l := tab (fun k => (sumP l k).tdiv (allP l)) l.length) (by rw [tab_length]; exact h.len) (diffs_tab_bd fun i hi => (hq i hi).2) i hi
      rw [nth_eq _ _ hi] at b
      exact numOk_true (by omega) (by omega)
  · cases hp
theorem Piece.pass_of_path {l : List (Int × Int)} (h : Piece l) {q : List Int} (hq : q.length = l.length) (hl : ∀ i, i < l.length → atD q (dayN l i) = plcN l i) : pass l = some q := by
  have hA := h.all_pos
  have hs : ∀ k : Nat, k < l.length → sumP l k = allP l * atD q k := fun k hk => by
    have hll := h.len
    have e := sum_of_path h.len hq (fun i hi => by
      have hf := h.fit i hi
      unfold FitS at hf
      rw [← atD_poly (by rw [hq]; exact h.len) hf.1 (by omega), hl i hi]) k
    rw [← atD_poly (by rw [hq]; exact h.len) (by omega) (by omega)] at e
    grind
  unfold pass
  rw [if_pos (fun k hk => by rw [hs k hk]; exact Int.mul_tmod_right _ _)]
  congr 1
  rw [tab_congr (g := fun k => atD q k) (fun k hk => by rw [hs k hk]; exact Int.mul_tdiv_cancel_left _ (by omega))]
  rw [← hq]
  exact diffs_places (by rw [hq]; exact h.len)
end Go.Proofs.Ytkcgkfhfogdihaa.R
/- Walks of the reference's Pass, On, Size. -/
namespace Go.Proofs.Ytkcgkfhfogdihaa
open Go.RowKit

def passL (l : List (Int × Int)) : List Int := (R.pass l).getD []

set_option maxRecDepth 100000 in
set_option maxHeartbeats 1000000 in
theorem pass_any (a : Option Addr) (cap : Nat) (l : List (Int × Int)) (w : World) (ha : Sigs w a l) (hp : R.Piece l) :
    Calls Try.prog 61 #[.slice a l.length cap] w fun e w' => ∃ v, e = .returned (.tuple #[v, .bool (R.pass l).isSome]) ∧ w'.ownsRow w.heap.size 2 1 v (passL l).length ((passL l).map (.int .i64)) ∧ Below w.heap.size w w' := by
  have HA := Lib.hid ha; clear ha
  have HP := Lib.hid hp
  have hl : l.length ≤ 4 := hp.len
  clear hp
  go_enter Try.func61, Try.ntmps61
  go_wp2_with fail
  go_loopw [4, 5, 6, 7] (fun o i _ _ wr => ∃ j : Nat, j ≤ l.length ∧ i = .int .i64 j ∧ Hid (∀ k : Nat, k < j → (R.sumP l k).tmod (R.allP l) = 0) ∧ wr.ownsRow w.heap.size 2 1 o j ((R.tab (fun k => (R.sumP l k).tdiv (R.allP l)) j).map (.int .i64)) ∧ Below w.heap.size w wr) (fun _ i _ _ _ => l.length - (intOf i).toNat)
  case atStart => exact ⟨0, by omega, rfl, Lib.hid (fun k h => by omega), World.ownsRow_nil _ _ _ _, Below.refl _ _⟩
  case round =>
    obtain ⟨j, hj, rfl, HM, hown, hbel⟩ := hrel
    have hbs := hbel.size
    by_cases hlt : j < l.length
    · have hA := HP.out.all_pos
      have hS := HP.out.sum_bd (x := j) (by omega) (by omega)
      have HC := Lib.hid (fun W hW => place_any a cap l j W (by omega) hW HP.out.fit (by omega) (by omega) (by omega) (wrap64_id (by omega)) (wrap64_id (by have := hS.2; unfold R.Abs at this; omega))
        (wrap64_id (by
          have h1 := Int.natAbs_tdiv_le_natAbs (R.sumP l j) (R.allP l)
          have := hS.2; unfold R.Abs at this; omega)))
      clear hA hS
      have HI := Lib.hid (HA.out.below hbel)
      by_cases hm : (R.sumP l j).tmod (R.allP l) = 0
      · have hm' : ((R.sumP l j).tmod (R.allP l) == 0) = true := by rw [beq_iff_eq]; exact hm
        rw [hm'] at HC
        have HM1 := Lib.hid hm
        clear hm hm'
        have hn : j + 1 ≤ 2000000 := by omega
        go_wp2_with fail
        refine (HC.out _ HI.out).mono ?_
        rintro e w1 ⟨rfl, hD⟩
        have hown' : w1.ownsRow w.heap.size 2 1 u4 j ((R.tab (fun k => (R.sumP l k).tdiv (R.allP l)) j).map (.int .i64)) := by obtain ⟨n, rfl⟩ := hD; exact hown
        have hbel1 := hbel.trans (hD.below _)
        have hbs1 := hbel1.size
        clear hown hbel
        go_wp2_with (at_builtin; refine listApp T22 rfl (.tmp 22) (.tmp 24) rfl w.heap.size _ _ ((R.tab (fun k => (R.sumP l k).tdiv (R.allP l)) j).map (.int .i64)) [.int .i64 ((R.sumP l j).tdiv (R.allP l))] 1 1 ⟨w1.heap.size, 0, none⟩ rfl (hown'.alloc _) rfl rfl (news_new _ _ _) (by simp [Value.oneCell']) hn (by simp; omega) ?_; intro v1 w2 hown1 hg1 hL1)
        go_roundw
        case rel => exact ⟨j + 1, by omega, by go_num, Lib.hid (fun k hk => by
          by_cases e : k = j
          · subst e; exact HM1.out
          · exact HM.out k (by omega)), by rw [R.tab_succ, List.map_append]; exact hown1, (hbel1.alloc hbs1 _).grown hg1 (by simp; omega) (fun k e => (hown'.lt k e).1)⟩
        case measure => simp [intOf]; omega
      · have hm' : ((R.sumP l j).tmod (R.allP l) == 0) = false := by rw [beq_eq_false_iff_ne]; exact hm
        rw [hm'] at HC
        have HF : Hid (R.pass l = none) := by unfold R.pass; rw [if_neg (fun h => hm (h j hlt))]; trivial
        clear hm hm'
        go_wp2_with fail
        refine (HC.out _ HI.out).mono ?_
        rintro e w1 ⟨rfl, hD⟩
        go_wp2_with fail
        go_ret2
        exact ⟨_, by rw [HF.out]; first | done | rfl, by unfold passL; rw [HF.out]; exact World.ownsRow_nil _ _ _ _, hbel.trans (hD.below _)⟩
    · have hjr : j = l.length := by omega
      subst hjr
      have HF : Hid (R.pass l = some (R.diffs (R.tab (fun k => (R.sumP l k).tdiv (R.allP l)) l.length))) := by unfold R.pass; rw [if_pos HM.out]; trivial
      obtain ⟨hn, a3, cap3, rfl, hI3, hcap⟩ := Ints.of_ownsRow hown
      have hlen := R.tab_length (fun k => (R.sumP l k).tdiv (R.allP l)) l.length
      have HC := Lib.hid (fun W hW => diffs_any a3 cap3 _ W (by rw [hlen]; exact hl) hW (R.diffs_tab_bd (f := fun k => (R.sumP l k).tdiv (R.allP l)) (n := l.length) (B := R.big) (fun i hi => by
        obtain ⟨q, e1, e2, e3⟩ := R.quot_bd HP.out.all_pos.1 (HP.out.sum_bd (x := i) (by omega) (by omega)).1 (HM.out i hi)
        have e4 : (R.sumP l i).tdiv (R.allP l) = q := e2
        show -R.big ≤ (R.sumP l i).tdiv (R.allP l) ∧ (R.sumP l i).tdiv (R.allP l) ≤ R.big
        rw [e4]; unfold R.Abs at e3; unfold R.big; omega)))
      rw [hlen] at HC
      clear hn hlen
      go_wp2_with fail
      refine (HC.out _ hI3).mono ?_
      rintro e w1 ⟨v, rfl, hown1, hb1⟩
      go_wp2_with fail
      go_ret2
      exact ⟨_, by rw [HF.out]; first | done | rfl, by unfold passL; rw [HF.out]; simp only [Option.getD_some, R.diffs_length, R.tab_length]; exact owns_mono hown1 hbs, hbel.trans (hb1.mono hbs)⟩

theorem wraps_i64 (n : Int) (h₀ : 0 ≤ n) (h₁ : n < 2 ^ 62) : IntKind.i64.wrap n = n := by rw [IntKind.wrap_i64]; omega
theorem bits_and1 {x : Int} (h0 : 0 ≤ x) (h1 : x < 4611686018427387904) : bits .and .i64 x 1 = x % 2 :=
  bits_mask .i64 62 (by decide) wraps_i64 1 (by decide) x h0 h1
theorem bits_or_top {b j : Nat} (hb : b < 2 ^ j) (hj : j ≤ 30) : bits .or .i64 (b : Int) (wrap64 (2 ^ j)) = ((b + 2 ^ j : Nat) : Int) := by
  have h30 : (2 : Nat) ^ j ≤ 2 ^ 30 := Nat.pow_le_pow_right (by decide) hj
  have e : ((2 : Int) ^ j) = ((2 ^ j : Nat) : Int) := by simp
  have h61 : (2 : Nat) ^ 30 < 2 ^ 62 := by decide
  rw [e, wrap64_id (by have h3 : (2 : Nat) ^ 30 = 1073741824 := by decide
                       omega)]
  have hx : (((2 ^ j : Nat) : Int)) < 2 ^ 62 := by exact_mod_cast (by omega : 2 ^ j < 2 ^ 62)
  have hy : ((b : Nat) : Int) < 2 ^ 62 := by exact_mod_cast (by omega : b < 2 ^ 62)
  have h1 := (bits_nat .i64 62 (by decide) wraps_i64 b (2 ^ j) (by omega) (by omega)).2
  have h2 := (bits_nat .i64 62 (by decide) wraps_i64 (2 ^ j) b (by omega) (by omega)).2
  have h3 := bits_join .i64 62 (by decide) wraps_i64 j ((2 ^ j : Nat) : Int) (b : Int) (by omega) (by rw [← e]; exact Int.emod_self) hx (by omega) (by rw [e]; exact_mod_cast hb) hy
  rw [h1, Nat.or_comm, ← h2, h3]
  omega
namespace R
/-- How many of the first j bits are 1. -/
def sizeTo (n j : Nat) : Nat := up (fun i s => s + n / 2 ^ i % 2) 0 j
def size (n : Nat) : Nat := sizeTo n 12
theorem sizeTo_end {n j : Nat} (h : n / 2 ^ j = 0) (d : Nat) : sizeTo n (j + d) = sizeTo n j := by
  induction d with
  | zero => rfl
  | succ d ih =>
    have e : n / 2 ^ (j + d) = 0 := by rw [Nat.pow_add, ← Nat.div_div_eq_div_mul, h]; simp
    show sizeTo n (j + d) + n / 2 ^ (j + d) % 2 = _
    rw [e, ih]; rfl
theorem sizeTo_le (n j : Nat) : sizeTo n j ≤ j := by
  induction j with
  | zero => exact Nat.le_refl _
  | succ j ih => show sizeTo n j + n / 2 ^ j % 2 ≤ j + 1; omega
/-- Which of the first j sightings lie on a path, by bits. -/
def onTo (l : List (Int × Int)) (q : List Int) (j : Nat) : Nat := up (fun i b => if atD q (dayN l i) = plcN l i then b + 2 ^ i else b) 0 j
def on (l : List (Int × Int)) (q : List Int) : Nat := onTo l q l.length
theorem onTo_lt (l : List (Int × Int)) (q : List Int) (j : Nat) : onTo l q j < 2 ^ j := by
  induction j with
  | zero => simp [onTo, up]
  | succ j ih =>
    show (if atD q (dayN l j) = plcN l j then onTo l q j + 2 ^ j else onTo l q j) < _
    rw [Nat.pow_succ]
    split <;> omega
end R

set_option maxRecDepth 100000 in
set_option maxHeartbeats 1000000 in
theorem size_any (n : Nat) (w : World) (hn : n < 4096) :
    Calls Try.prog 42 #[.int .i64 n] w fun e w' => e = .returned (.int .i64 (R.size n)) ∧ w = w' := by
  go_enter Try.func42, Try.ntmps42
  go_wp2_with fail
  go_loop [3, 4] (fun o i => ∃ j : Nat, j ≤ 12 ∧ i = .int .i64 j ∧ o = .int .i64 (R.sizeTo n j)) (fun _ i => 13 - (intOf i).toNat)
  case atStart => exact ⟨0, by omega, rfl, rfl⟩
  case round =>
    obtain ⟨j, hj, rfl, rfl⟩ := hrel
    have hc : ((n : Int) / 2 ^ j) = ((n / 2 ^ j : Nat) : Int) := by simp
    by_cases hz : 0 < n / 2 ^ j
    · have hj2 : j < 12 := by
        rcases Nat.lt_or_ge j 12 with h | h
        · exact h
        · have : j = 12 := by omega
          subst this
          rw [Nat.div_eq_of_lt (by omega)] at hz; omega
      have hz' : (0 : Int) < (n : Int) / 2 ^ j := by rw [hc]; exact_mod_cast hz
      have hb : bits .and .i64 ((n : Int) / 2 ^ j) 1 = ((n / 2 ^ j % 2 : Nat) : Int) := by
        rw [hc]; generalize hg : n / 2 ^ j = g at *; have hgn : g ≤ n := by rw [← hg]; exact Nat.div_le_self n (2 ^ j)
        rw [bits_and1 (by omega) (by omega)]; omega
      have HB := Lib.hid hb
      have HC := Lib.hid hc
      have hs := R.sizeTo_le n j
      have h2 : n / 2 ^ j % 2 < 2 := Nat.mod_lt _ (by omega)
      clear hb hc hz
      go_wp2_with fail
      rw [HB.out]
      go_round
      case rel => exact ⟨j + 1, by omega, by go_num, by
        rw [wrap64_id (by omega)]
        show _ = Value.int .i64 ((R.sizeTo n j + n / 2 ^ j % 2 : Nat) : Int)
        rw [Int.natCast_add]⟩
      case measure => simp [intOf]; omega
    · have hz0 : n / 2 ^ j = 0 := Nat.eq_zero_of_not_pos hz
      have hz' : ¬ (0 : Int) < (n : Int) / 2 ^ j := by rw [hc, hz0]; decide
      have HE : Hid (R.size n = R.sizeTo n j) := by
        have := R.sizeTo_end hz0 (12 - j)
        unfold R.size; rw [show 12 = j + (12 - j) by omega]; exact this
      clear hz hc hz0
      go_wp2_with fail
      go_ret
      exact ⟨ret_int (by rw [HE.out]), rfl⟩

set_option maxRecDepth 100000 in
set_option maxHeartbeats 1000000 in
theorem on_any (a : Option Addr) (cap : Nat) (l : List (Int × Int)) (b : Option Addr) (cap2 : Nat) (q : List Int) (w : World) (hl : l.length ≤ 12) (ha : Sigs w a l) (hf : R.Fit l) (hq : q.length ≤ 4) (hz : q.all R.numOk = true) (hb : Ints .i64 w b q) :
    Calls Try.prog 43 #[.slice a l.length cap, .slice b q.length cap2] w fun e w' => e = .returned (.int .i64 (R.on l q)) ∧ Drew w w' := by
  have HA := Lib.hid ha; clear ha
  have HB := Lib.hid hb; clear hb
  have HF := Lib.hid hf; clear hf
  have HZ := Lib.hid hz; clear hz
  go_enter Try.func43, Try.ntmps43
  go_wp2_with fail
  go_loopw [5, 6] (fun o i wr => ∃ j : Nat, j ≤ l.length ∧ i = .int .i64 j ∧ o = .int .i64 (R.onTo l q j) ∧ Drew w wr) (fun _ i _ => l.length - (intOf i).toNat)
  case atStart => exact ⟨0, by omega, rfl, rfl, Drew.refl w⟩
  case round =>
    obtain ⟨j, hj, rfl, rfl, hD⟩ := hrel
    by_cases hlt : j < l.length
    · obtain ⟨b1, off, rfl, hc1, hc2⟩ := (HA.out.below (hD.below _)) j hlt
      have hfj := HF.out j hlt
      unfold R.FitS at hfj
      have HC := Lib.hid (fun W hW => atOf_any b cap2 q (dayN l j) W hq (by omega) (by omega) HZ.out hW)
      have HB1 := Lib.hid (HB.out.drew hD)
      have HS : Hid (R.onTo l q (j + 1) = if R.atD q (dayN l j) = plcN l j then R.onTo l q j + 2 ^ j else R.onTo l q j) := rfl
      by_cases heq : R.atD q (dayN l j) = plcN l j
      · have heq' : (R.atD q (dayN l j) == plcN l j) = true := by rw [beq_iff_eq]; exact heq
        have HQ := Lib.hid heq
        have HO := Lib.hid (bits_or_top (R.onTo_lt l q j) (show j ≤ 30 by omega))
        clear hfj heq
        go_wp2_with fail
        go_quiet ((go_at_call 45; exact quiet_drew (HC.out _ (HB1.out.drew ⟨_, rfl⟩))))
        go_wp2_with fail
        rw [HO.out]
        go_roundw
        case rel => exact ⟨j + 1, by omega, by go_num, by rw [HS.out, if_pos HQ.out], hD.drewN _⟩
        case measure => simp [intOf]; omega
      · have heq' : (R.atD q (dayN l j) == plcN l j) = false := by rw [beq_eq_false_iff_ne]; exact heq
        have HQ := Lib.hid heq
        clear hfj heq
        go_wp2_with fail
        go_quiet ((go_at_call 45; exact quiet_drew (HC.out _ (HB1.out.drew ⟨_, rfl⟩))))
        go_wp2_with fail
        go_roundw
        case rel => exact ⟨j + 1, by omega, by go_num, by rw [HS.out, if_neg HQ.out], hD.drewN _⟩
        case measure => simp [intOf]; omega
    · go_wp2_with fail
      go_ret
      exact ⟨ret_int (by rw [show j = l.length by omega]; rfl), hD⟩
end Go.Proofs.Ytkcgkfhfogdihaa
/- Walks of the reference's Through and CheckPath. -/
namespace Go.Proofs.Ytkcgkfhfogdihaa
open Go.RowKit

/-- The cells of sightings, one behind the other. -/
def flat (l : List (Int × Int)) : List Value := l.flatMap fun s => [.int .i64 s.1, .int .i64 s.2]
theorem flat_length (l : List (Int × Int)) : (flat l).length = l.length * 2 := by
  induction l with
  | nil => rfl
  | cons a l ih => simp [flat] at ih ⊢; omega
theorem flat_snoc (l : List (Int × Int)) (d p : Int) : flat (l ++ [(d, p)]) = flat l ++ [.int .i64 d, .int .i64 p] := by simp [flat]
theorem flat_get (l : List (Int × Int)) (i : Nat) (h : i < l.length) : (flat l)[i * 2]? = some (.int .i64 (dayN l i)) ∧ (flat l)[i * 2 + 1]? = some (.int .i64 (plcN l i)) := by
  induction l generalizing i with
  | nil => simp at h
  | cons a l ih =>
    cases i with
    | zero => simp [flat, dayN, plcN]
    | succ i =>
      have := ih i (by simpa using h)
      rw [show (i + 1) * 2 = i * 2 + 2 by omega]
      simpa [flat, dayN, plcN] using this
theorem Sigs.of_ownsRow {w : World} {base : Nat} {v : Value} {n : Nat} {l : List (Int × Int)} (h : w.ownsRow base 57 2 v n (flat l)) :
    n = l.length ∧ ∃ a cap, v = .slice a n cap ∧ Sigs w a l ∧ n ≤ cap := by
  have hl : n = l.length := by have := h.1; rw [flat_length] at this; omega
  refine ⟨hl, ?_⟩
  rcases h.2 with ⟨rfl, rfl⟩ | ⟨g, cap, cur, rfl, hb, hg, hn, hm, hs, ht⟩
  · exact ⟨none, 0, rfl, fun i hi => by omega, Nat.le_refl _⟩
  · refine ⟨_, cap, rfl, fun i hi => ⟨g, 0, rfl, ?_, ?_⟩, hn⟩
    · have := h.cells (g := g) rfl (i * 2) _ (flat_get l i hi).1
      have e : (⟨g, 0, none⟩ : Addr).add (i * 2) = ⟨g, 0 + i * 2, none⟩ := by unfold Addr.add; split <;> simp_all
      rw [e] at this; exact this
    · have := h.cells (g := g) rfl (i * 2 + 1) _ (flat_get l i hi).2
      have e : (⟨g, 0, none⟩ : Addr).add (i * 2 + 1) = ⟨g, 0 + i * 2 + 1, none⟩ := by unfold Addr.add; split <;> simp_all
      rw [e] at this; exact this
theorem Sigs.grown {w w' : World} {a : Option Addr} {l : List (Int × Int)} {v : Value} (h : Sigs w a l) (hg : w.grownBy w' v.ownBlock) (hr : Off w v a) : Sigs w' a l := by
  intro i hi
  obtain ⟨b, off, ha, h1, h2⟩ := h i hi
  exact ⟨b, off, ha, hg.cell h1 (fun e => (hr b off ha).1 e.symm), hg.cell h2 (fun e => (hr b off ha).1 e.symm)⟩
theorem Sigs.drew {w w' : World} {a : Option Addr} {l : List (Int × Int)} (h : Sigs w a l) (hd : Drew w w') : Sigs w' a l := h.below (hd.below _)
theorem owns_drew {w w' : World} {base : Nat} {e : TypeId} {size : Nat} {v : Value} {n : Nat} {xs : List Value} (h : w.ownsRow base e size v n xs) (hd : Drew w w') : w'.ownsRow base e size v n xs := by
  obtain ⟨n, rfl⟩ := hd; exact h
namespace R
/-- Numbers of sightings, in order. -/
def Ord (n : Nat) (ss : List Int) : Prop := ∀ i, i < ss.length → 0 ≤ nth ss i ∧ nth ss i < n ∧ (0 < i → nth ss (i - 1) < nth ss i)
instance (n : Nat) (ss : List Int) : Decidable (Ord n ss) := by unfold Ord; infer_instance
/-- The sightings with these numbers: the first j. -/
def selTo (l : List (Int × Int)) (ss : List Int) (j : Nat) : List (Int × Int) := up (fun i r => r ++ [(dayN l (nth ss i).toNat, plcN l (nth ss i).toNat)]) [] j
def sel (l : List (Int × Int)) (ss : List Int) : List (Int × Int) := selTo l ss ss.length
theorem selTo_length (l : List (Int × Int)) (ss : List Int) (j : Nat) : (selTo l ss j).length = j := by
  induction j with
  | zero => rfl
  | succ j ih => show (selTo l ss j ++ [_]).length = _; simp [ih]
theorem selTo_get (l : List (Int × Int)) (ss : List Int) (j i : Nat) (h : i < j) : dayN (selTo l ss j) i = dayN l (nth ss i).toNat ∧ plcN (selTo l ss j) i = plcN l (nth ss i).toNat := by
  induction j with
  | zero => omega
  | succ j ih =>
    have e : selTo l ss (j + 1) = selTo l ss j ++ [(dayN l (nth ss j).toNat, plcN l (nth ss j).toNat)] := rfl
    have hl := selTo_length l ss j
    rw [e]
    by_cases hi : i < j
    · have := ih hi
      unfold dayN plcN at this ⊢
      simp only [List.getD_eq_getElem?_getD] at this ⊢
      rw [List.getElem?_append_left (by omega)]; exact this
    · have : i = j := by omega
      subst this
      unfold dayN plcN
      simp [hl]
theorem day_lt {l : List (Int × Int)} (h : Inc l) {i j : Nat} (hij : i < j) (hj : j < l.length) : dayN l i < dayN l j := by
  induction j with
  | zero => omega
  | succ j ih =>
    have h1 := h j (by omega)
    by_cases e : i = j
    · subst e; exact h1
    · exact Int.lt_trans (ih (by omega) (by omega)) h1
theorem sel_piece {l : List (Int × Int)} {ss : List Int} (hf : Fit l) (hi : Inc l) (ho : Ord l.length ss) (h4 : ss.length ≤ 4) : Piece (sel l ss) := by
  refine ⟨by unfold sel; rw [selTo_length]; exact h4, fun i hlt => ?_, fun i hlt => ?_⟩
  · unfold sel at hlt ⊢
    rw [selTo_length] at hlt
    obtain ⟨e1, e2⟩ := selTo_get l ss ss.length i hlt
    rw [e1, e2]
    exact hf _ (by have := ho i hlt; omega)
  · unfold sel at hlt ⊢
    rw [selTo_length] at hlt
    rw [(selTo_get l ss ss.length i (by omega)).1, (selTo_get l ss ss.length (i + 1) (by omega)).1]
    have h1 := ho i (by omega); have h2 := ho (i + 1) (by omega)
    have h3 := h2.2.2 (by omega)
    simp only [Nat.add_sub_cancel] at h3
    exact day_lt hi (by omega) (by omega)
def through (deg : Int) (l : List (Int × Int)) (ss : List Int) : List Int × Int :=
  if checkLog deg l ≠ 0 then ([], checkLog deg l) else if (ss.length : Int) ≠ deg + 1 then ([], 15) else if ¬ Ord l.length ss then ([], 2) else
    match pass (sel l ss) with | none => ([], 23) | some p => (p, 0)
end R
set_option maxRecDepth 100000 in
set_option maxHeartbeats 2000000 in
theorem refThrough_any (a : Option Addr) (cap : Nat) (deg : Int) (l : List (Int × Int)) (b : Option Addr) (cap2 : Nat) (ss : List Int) (w : World) (hl : l.length ≤ 1000000) (hs : ss.length ≤ 1000000) (ha : Sigs w a l) (hb : Ints .i64 w b ss) :
    Calls Try.prog 24 #[.agg #[.int .i64 deg, .slice a l.length cap], .slice b ss.length cap2] w fun e w' => ∃ v, e = .returned (.tuple #[v, .int .i64 (R.through deg l ss).2]) ∧ w'.ownsRow w.heap.size 2 1 v (R.through deg l ss).1.length ((R.through deg l ss).1.map (.int .i64)) ∧ Below w.heap.size w w' := by
  have HA := Lib.hid ha; clear ha
  have HB := Lib.hid hb; clear hb
  have hb0 := Lib.hid (Below.new w (.cells #[.int .i64 deg, .slice a l.length cap] 33))
  have HCk := Lib.hid (fun W hW => refCheckLog_any a cap deg l W hl hW)
  by_cases hc : R.checkLog deg l = 0
  · have HV := Lib.hid (R.checkLog_zero hc)
    rw [hc] at HCk
    have hd0 := HV.out.d0
    have hd3 := HV.out.d3
    have h12 := HV.out.len
    go_enter Try.func24, Try.ntmps24
    go_wp2_with fail
    refine (HCk.out _ (HA.out.below hb0.out)).mono ?_
    rintro e w1 ⟨rfl, hb1⟩
    have HX1 := Lib.hid (cell_on hb1 (by simp : (w.alloc (.cells #[.int .i64 deg, .slice a l.length cap] 33)).cell? ⟨w.heap.size, 0, none⟩ = some (.int .i64 deg)))
    have HX2 := Lib.hid (cell_on hb1 (by simp : (w.alloc (.cells #[.int .i64 deg, .slice a l.length cap] 33)).cell? ⟨w.heap.size, 1, none⟩ = some (.slice a l.length cap)))
    have HA1 := Lib.hid ((HA.out.below hb0.out).below hb1)
    have HB1 := Lib.hid ((HB.out.below hb0.out).below hb1)
    have HBel := Lib.hid (hb0.out.trans (hb1.mono (by simp)))
    clear hb1 hc
    have hx1 := HX1.out
    have hx2 := HX2.out
    have hsz1 := HBel.out.size
    have hb2 : b = b := rfl
    by_cases hq : (ss.length : Int) = deg + 1
    · have hq' : ((ss.length : Int) != deg + 1) = false := by simp [hq]
      have HQ := Lib.hid hq
      have hs4 : ss.length ≤ 4 := by omega
      clear hq
      go_wp2_with fail
      clear hx1 hx2 hb2
      go_loopw [6, 7] (fun o i wr => ∃ j : Nat, j ≤ ss.length ∧ i = .int .i64 j ∧ Hid (∀ i, i < j → 0 ≤ nth ss i ∧ nth ss i < l.length ∧ (0 < i → nth ss (i - 1) < nth ss i)) ∧ wr.ownsRow w1.heap.size 57 2 o j (flat (R.selTo l ss j)) ∧ Below w1.heap.size w1 wr) (fun _ i _ => ss.length - (intOf i).toNat)
      case atStart => exact ⟨0, by omega, rfl, Lib.hid (fun k h => by omega), World.ownsRow_nil _ _ _ _, Below.refl _ _⟩
      case round =>
        obtain ⟨j, hj, rfl, HM, hown, hbel⟩ := hrel
        have hx2 := cell_on hbel HX2.out
        have hbs := hbel.size
        by_cases hlt : j < ss.length
        · obtain ⟨bb, off, rfl, hc1⟩ := (HB1.out.below hbel) j hlt
          have k0 : (0 : Int) ≤ ↑j := by omega
          have k1 : (↑j : Int) < ↑ss.length := by omega
          by_cases h1 : nth ss j < 0
          · have HF : Hid (R.through deg l ss = ([], 2)) := by
              unfold R.through; rw [if_neg (not_not_intro (HV.out.zero)), if_neg (not_not_intro HQ.out), if_pos (fun h => by have := h j hlt; omega)]; trivial
            go_wp2_with fail
            go_quiet (fail)
            go_wp2_with fail
            go_ret2
            exact ⟨_, by rw [HF.out]; first | done | rfl, by rw [HF.out]; exact World.ownsRow_nil _ _ _ _, HBel.out.trans ((hbel.trans ((Drew.refl _).drewN _ |>.below _)).mono (by omega))⟩
          by_cases h2 : (l.length : Int) ≤ nth ss j
          · have HF : Hid (R.through deg l ss = ([], 2)) := by
              unfold R.through; rw [if_neg (not_not_intro (HV.out.zero)), if_neg (not_not_intro HQ.out), if_pos (fun h => by have := h j hlt; omega)]; trivial
            have h1' : decide (nth ss j < 0) = false := by simpa using h1
            have h1'' : 0 ≤ nth ss j := by omega
            go_wp2_with fail
            go_quiet (fail)
            go_wp2_with fail
            go_ret2
            exact ⟨_, by rw [HF.out]; first | done | rfl, by rw [HF.out]; exact World.ownsRow_nil _ _ _ _, HBel.out.trans ((hbel.trans ((Drew.refl _).drewN _ |>.below _)).mono (by omega))⟩
          have h1' : decide (nth ss j < 0) = false := by simpa using h1
          have h1'' : 0 ≤ nth ss j := by omega
          have h2' : decide ((l.length : Int) ≤ nth ss j) = false := by simpa using h2
          have h2'' : nth ss j < (l.length : Int) := by omega
          by_cases h3 : 0 < j ∧ nth ss j ≤ nth ss (j - 1)
          · obtain ⟨h3, h4⟩ := h3
            obtain ⟨j, rfl⟩ : ∃ i, j = i + 1 := ⟨j - 1, by omega⟩
            simp only [Nat.add_sub_cancel] at h4
            have hc2 := (HB1.out.below hbel).cellAt j (by omega)
            have HF : Hid (R.through deg l ss = ([], 2)) := by
              unfold R.through; rw [if_neg (not_not_intro (HV.out.zero)), if_neg (not_not_intro HQ.out), if_pos (fun h => by have := (h (j + 1) hlt).2.2 (by omega); simp only [Nat.add_sub_cancel] at this; omega)]; trivial
            clear h1 h2 h3
            have k2 : (0 : Int) < (↑j : Int) + 1 := by omega
            have k3 : (0 : Int) ≤ (↑j : Int) + 1 := by omega
            have k4 : (↑j : Int) + 1 < ↑ss.length := by omega
            have k5 : (↑j : Int) < ↑ss.length := by omega
            have k6 : ((↑j : Int) + 1).toNat = j + 1 := by omega
            have k7 : IntKind.i64.wrap (↑j : Int) = ↑j := IntWalk.i64_in _ (by omega)
            simp only [Int.natCast_add, Int.natCast_one] at k0 k1
            go_wp2_with fail
            go_quiet (fail)
            go_wp2_with fail
            go_ret2
            exact ⟨_, by rw [HF.out]; first | done | rfl, by rw [HF.out]; exact World.ownsRow_nil _ _ _ _, HBel.out.trans ((hbel.trans ((Drew.refl _).drewN _ |>.below _)).mono (by omega))⟩
          · have hn : j + 1 ≤ 2000000 := by omega
            have HM' : Hid (∀ i, i < j + 1 → 0 ≤ nth ss i ∧ nth ss i < l.length ∧ (0 < i → nth ss (i - 1) < nth ss i)) := Lib.hid (fun i hi => by
              by_cases e : i = j
              · subst e; exact ⟨h1'', h2'', fun hp => by omega⟩
              · exact HM.out i (by omega))
            obtain ⟨m, hm⟩ := Int.eq_ofNat_of_zero_le h1''
            have HSel : Hid (R.selTo l ss (j + 1) = R.selTo l ss j ++ [(dayN l m, plcN l m)]) := by
              show R.selTo l ss j ++ [_] = _; rw [hm]; rfl
            have HMm := Lib.hid hm
            rw [hm] at hc1 h1' h2''
            clear hm h2'
            have h2' : decide (l.length ≤ m) = false := by simp; omega
            obtain ⟨ba, offa, rfl, hd1, hd2⟩ := (HA1.out.below hbel) m (by omega)
            have m0 : (0 : Int) ≤ ↑m := by omega
            have HNE := Lib.hid (fun c (hc : c < w1.heap.size) => (fun e => by have := (hown.lt c e.symm).1; omega : some c ≠ u6.ownBlock))
            have q1 := World.block_lt_of_cell? _ _ HX2.out
            have q2 : bb < w1.heap.size := by obtain ⟨b', o', e, h⟩ := HB1.out.at (by omega); cases e; exact h
            have q3 : ba < w1.heap.size := by obtain ⟨b', o', e, h, _⟩ := HA1.out m (by omega); cases e; exact World.block_lt_of_cell? _ _ h
            simp only at q1
            rcases Nat.eq_zero_or_pos j with hz | hz
            · subst hz
              simp only [Nat.add_zero, Int.natCast_zero] at hc1 k0 k1
              go_wp2_with fail
              go_quiet (fail)
              go_wp2_with fail
              go_region_held3 (fun w' => w'.cell? ⟨w.heap.size, 1, none⟩ = some (.slice (some ⟨ba, offa, none⟩) l.length cap) ∧ w'.cell? ⟨bb, off, none⟩ = some (.int .i64 ↑m) ∧ w'.cell? ⟨ba, offa + m * 2, none⟩ = some (.int .i64 (dayN l m)) ∧ w'.cell? ⟨ba, offa + m * 2 + 1, none⟩ = some (.int .i64 (plcN l m))) (first | go_keep | exact ⟨hg2.cell (by go_keep) (HNE.out _ q1), hg2.cell (by go_keep) (HNE.out _ q2), hg2.cell (by go_keep) (HNE.out _ q3), hg2.cell (by go_keep) (HNE.out _ q3)⟩) ((refine stepApp T31 (by rfl) (.tmp 58) (.tmp 67) (by rfl) w1.heap.size _ _ (flat (R.selTo l ss 0)) [.int .i64 (dayN l m), .int .i64 (plcN l m)] 1 1 ⟨wr.heap.size, 0, none⟩ (by rfl) (by exact hown.alloc _) (by rfl) (by rfl) (by exact news_new _ _ _) (by simp [Value.oneCell']) hn (by simp; omega) ?_; intro v2 w2 hown2 hg2 hL2))
              go_wp2_with fail
              go_roundw
              case rel => exact ⟨0 + 1, by omega, by go_num, HM', by rw [HSel.out, flat_snoc]; exact hown2, ((hbel.trans ((Drew.refl _).drewN _ |>.below _)).alloc hbs _).grown hg2 (by simp; omega) (fun k e => (hown.lt k e).1)⟩
              case measure => simp [intOf]; omega
            · obtain ⟨j, rfl⟩ : ∃ i, j = i + 1 := ⟨j - 1, by omega⟩
              have h5 : ¬ nth ss (j + 1) ≤ nth ss j := fun h => h3 ⟨by omega, by simpa using h⟩
              rw [HMm.out] at h5
              have h5' : decide ((m : Int) ≤ nth ss j) = false := by simpa using h5
              have hc2 := (HB1.out.below hbel).cellAt j (by omega)
              clear h1 h2 h3 h5
              have k2 : (0 : Int) < (↑j : Int) + 1 := by omega
              have k3 : (0 : Int) ≤ (↑j : Int) + 1 := by omega
              have k4 : (↑j : Int) + 1 < ↑ss.length := by omega
              have k5 : (↑j : Int) < ↑ss.length := by omega
              have k6 : ((↑j : Int) + 1).toNat = j + 1 := by omega
              have k7 : IntKind.i64.wrap (↑j : Int) = ↑j := IntWalk.i64_in _ (by omega)
              simp only [Int.natCast_add, Int.natCast_one] at k0 k1
              go_wp2_with fail
              go_quiet (fail)
              go_wp2_with fail
              go_region_held3 (fun w' => w'.cell? ⟨w.heap.size, 1, none⟩ = some (.slice (some ⟨ba, offa, none⟩) l.length cap) ∧ w'.cell? ⟨bb, off + (j + 1), none⟩ = some (.int .i64 ↑m) ∧ w'.cell? ⟨ba, offa + m * 2, none⟩ = some (.int .i64 (dayN l m)) ∧ w'.cell? ⟨ba, offa + m * 2 + 1, none⟩ = some (.int .i64 (plcN l m))) (first | go_keep | exact ⟨hg2.cell (by go_keep) (HNE.out _ q1), hg2.cell (by go_keep) (HNE.out _ q2), hg2.cell (by go_keep) (HNE.out _ q3), hg2.cell (by go_keep) (HNE.out _ q3)⟩) ((refine stepApp T31 (by rfl) (.tmp 58) (.tmp 67) (by rfl) w1.heap.size _ _ (flat (R.selTo l ss (j + 1))) [.int .i64 (dayN l m), .int .i64 (plcN l m)] 1 1 ⟨wr.heap.size, 0, none⟩ (by rfl) (by exact hown.alloc _) (by rfl) (by rfl) (by exact news_new _ _ _) (by simp [Value.oneCell']) hn (by simp; omega) ?_; intro v2 w2 hown2 hg2 hL2))
              go_wp2_with fail
              go_roundw
              case rel => exact ⟨(j + 1) + 1, by omega, by go_num, HM', by rw [HSel.out, flat_snoc]; exact hown2, ((hbel.trans ((Drew.refl _).drewN _ |>.below _)).alloc hbs _).grown hg2 (by simp; omega) (fun k e => (hown.lt k e).1)⟩
              case measure => simp [intOf]; omega
        · have hjr : j = ss.length := by omega
          subst hjr
          have HOrd : Hid (R.Ord l.length ss) := Lib.hid (fun i hi => HM.out i hi)
          obtain ⟨hn, a3, cap3, rfl, hI3, hcap⟩ := Sigs.of_ownsRow hown
          have HPc := Lib.hid (R.sel_piece HV.out.fit HV.out.inc HOrd.out hs4)
          have HC := Lib.hid (fun W (hW : Sigs W a3 (R.sel l ss)) => pass_any a3 cap3 (R.sel l ss) W hW HPc.out)
          rw [show (R.sel l ss).length = ss.length from R.selTo_length _ _ _] at HC
          have HI3 : Hid (Sigs wr a3 (R.sel l ss)) := hI3
          clear hn hI3 hown
          cases hps : R.pass (R.sel l ss) with
          | none =>
            have HF : Hid (R.through deg l ss = ([], 23)) := by
              unfold R.through; rw [if_neg (not_not_intro (HV.out.zero)), if_neg (not_not_intro HQ.out), if_neg (not_not_intro HOrd.out), hps]; trivial
            simp only [passL, hps, Option.isSome_none, Option.getD_none] at HC
            clear hps
            go_wp2_with fail
            refine (HC.out _ HI3.out).mono ?_
            rintro e w2 ⟨v, rfl, hown1, hb1⟩
            go_wp2_with fail
            go_ret2
            exact ⟨_, by rw [HF.out]; first | done | rfl, by rw [HF.out]; exact World.ownsRow_nil _ _ _ _, HBel.out.trans ((hbel.trans (hb1.mono hbs)).mono (by omega))⟩
          | some p =>
            have HF : Hid (R.through deg l ss = (p, 0)) := by
              unfold R.through; rw [if_neg (not_not_intro (HV.out.zero)), if_neg (not_not_intro HQ.out), if_neg (not_not_intro HOrd.out), hps]; trivial
            simp only [passL, hps, Option.isSome_some, Option.getD_some] at HC
            clear hps
            go_wp2_with fail
            refine (HC.out _ HI3.out).mono ?_
            rintro e w2 ⟨v, rfl, hown1, hb1⟩
            go_wp2_with fail
            go_ret2
            exact ⟨_, by rw [HF.out]; first | done | rfl, by rw [HF.out]; exact owns_mono hown1 (by omega), HBel.out.trans ((hbel.trans (hb1.mono hbs)).mono (by omega))⟩
    · have HF : Hid (R.through deg l ss = ([], 15)) := by
        unfold R.through; rw [if_neg (not_not_intro (HV.out.zero)), if_pos hq]; trivial
      have hq' : ((ss.length : Int) != deg + 1) = true := by rw [bne_iff_ne]; exact hq
      clear hq
      go_wp2_with fail
      go_ret2
      exact ⟨_, by rw [HF.out]; first | done | rfl, by rw [HF.out]; exact World.ownsRow_nil _ _ _ _, HBel.out⟩
  · have HF : Hid (R.through deg l ss = ([], R.checkLog deg l)) := by unfold R.through; rw [if_pos hc]; trivial
    have hc' : (R.checkLog deg l != 0) = true := by rw [bne_iff_ne]; exact hc
    clear hc
    go_enter Try.func24, Try.ntmps24
    go_wp2_with fail
    refine (HCk.out _ (HA.out.below hb0.out)).mono ?_
    rintro e w1 ⟨rfl, hb1⟩
    have hx1 := cell_on hb1 (by simp : (w.alloc (.cells #[.int .i64 deg, .slice a l.length cap] 33)).cell? ⟨w.heap.size, 0, none⟩ = some (.int .i64 deg))
    have hx2 := cell_on hb1 (by simp : (w.alloc (.cells #[.int .i64 deg, .slice a l.length cap] 33)).cell? ⟨w.heap.size, 1, none⟩ = some (.slice a l.length cap))
    have HA1 := Lib.hid ((HA.out.below hb0.out).below hb1)
    have HBel := Lib.hid (hb0.out.trans (hb1.mono (by simp)))
    clear hb1
    go_wp2_with fail
    refine (HCk.out _ HA1.out).mono ?_
    rintro e w2 ⟨rfl, hb2⟩
    go_wp2_with fail
    go_ret2
    have := HBel.out.size
    exact ⟨_, by rw [HF.out]; first | done | rfl, by rw [HF.out]; exact World.ownsRow_nil _ _ _ _, HBel.out.trans (hb2.mono this)⟩
end Go.Proofs.Ytkcgkfhfogdihaa
/- Walks of the reference's CheckPath and Paths. -/
namespace Go.Proofs.Ytkcgkfhfogdihaa
open Go.RowKit

/-- A log lies in the block B. -/
structure Logged (w : World) (B : Nat) (deg : Int) (a : Option Addr) (cap : Nat) (l : List (Int × Int)) : Prop where
  x1 : w.cell? ⟨B, 0, none⟩ = some (.int .i64 deg)
  x2 : w.cell? ⟨B, 1, none⟩ = some (.slice a l.length cap)
  sig : Sigs w a l
theorem Logged.new {w : World} {a : Option Addr} {l : List (Int × Int)} (h : Sigs w a l) (deg : Int) (cap : Nat) (t : TypeId) : Logged (w.alloc (.cells #[.int .i64 deg, .slice a l.length cap] t)) w.heap.size deg a cap l :=
  ⟨by simp, by simp, h.alloc _⟩
theorem Logged.on {w w' : World} {B : Nat} {deg : Int} {a : Option Addr} {cap : Nat} {l : List (Int × Int)} (h : Logged w B deg a cap l) (hb : Below w.heap.size w w') : Logged w' B deg a cap l :=
  ⟨cell_on hb h.x1, cell_on hb h.x2, h.sig.below hb⟩
theorem Logged.lt {w : World} {B : Nat} {deg : Int} {a : Option Addr} {cap : Nat} {l : List (Int × Int)} (h : Logged w B deg a cap l) : B < w.heap.size := World.block_lt_of_cell? _ _ h.x1
theorem bel_drewN {B : Nat} {w w' : World} (h : Below B w w') (n : Nat) : Below B w (w'.drewN n) := h.trans (Drew.below ⟨n, rfl⟩ B)

namespace R
def checkPath (deg : Int) (l : List (Int × Int)) (q : List Int) : Int × Int :=
  if checkLog deg l ≠ 0 then (0, checkLog deg l) else if (q.length : Int) ≠ deg + 1 then (0, 15) else if ¬ q.all numOk = true then (0, 3) else (size (on l q), 0)
end R

set_option maxRecDepth 100000 in
set_option maxHeartbeats 1000000 in
theorem refCheckPath_any (a : Option Addr) (cap : Nat) (deg : Int) (l : List (Int × Int)) (b : Option Addr) (cap2 : Nat) (q : List Int) (w : World) (hl : l.length ≤ 1000000) (hs : q.length ≤ 1000000) (ha : Sigs w a l) (hb : Ints .i64 w b q) :
    Calls Try.prog 26 #[.agg #[.int .i64 deg, .slice a l.length cap], .slice b q.length cap2] w fun e w' => e = .returned (.tuple #[.int .i64 (R.checkPath deg l q).1, .int .i64 (R.checkPath deg l q).2]) ∧ Below w.heap.size w w' := by
  have hb0 := Lib.hid (Below.new w (.cells #[.int .i64 deg, .slice a l.length cap] 33))
  have HL0 := Lib.hid (Logged.new ha deg cap 33)
  have HB := Lib.hid (hb.below hb0.out); clear hb ha
  have HCk := Lib.hid (fun W hW => refCheckLog_any a cap deg l W hl hW)
  by_cases hc : R.checkLog deg l = 0
  · have HV := Lib.hid (R.checkLog_zero hc)
    rw [hc] at HCk
    have hd0 := HV.out.d0
    have hd3 := HV.out.d3
    have h12 := HV.out.len
    go_enter Try.func26, Try.ntmps26
    go_wp2_with fail
    refine (HCk.out _ HL0.out.sig).mono ?_
    rintro e w1 ⟨rfl, hb1⟩
    have HL1 := Lib.hid (HL0.out.on hb1)
    have HB1 := Lib.hid (HB.out.below hb1)
    have HBel := Lib.hid (hb0.out.trans (hb1.mono (by simp)))
    clear hb1 hc
    have hx1 := HL1.out.x1
    have hx2 := HL1.out.x2
    have hsz1 := HBel.out.size
    by_cases hq : (q.length : Int) = deg + 1
    · have hq' : ((q.length : Int) != deg + 1) = false := by simp [hq]
      have HQ := Lib.hid hq
      have hs4 : q.length ≤ 4 := by omega
      clear hq
      cases hn : q.all R.numOk with
      | false =>
        have HF : Hid (R.checkPath deg l q = (0, 3)) := by
          unfold R.checkPath; rw [if_neg (not_not_intro (HV.out.zero)), if_neg (not_not_intro HQ.out), if_pos (by rw [hn]; simp)]; trivial
        have HC := Lib.hid (fun W (hW : Ints .i64 W b q) => isNumbers_any b cap2 q W hs hW)
        rw [hn] at HC
        clear hn
        go_wp2_with fail
        refine (HC.out _ HB1.out).mono ?_
        rintro e w2 ⟨rfl, rfl⟩
        go_wp2_with fail
        go_ret2
        exact ⟨by rw [HF.out]; first | done | rfl, HBel.out⟩
      | true =>
        have HN := Lib.hid hn
        have HF : Hid (R.checkPath deg l q = ((R.size (R.on l q) : Int), 0)) := by
          unfold R.checkPath; rw [if_neg (not_not_intro (HV.out.zero)), if_neg (not_not_intro HQ.out), if_neg (by rw [hn]; simp)]; trivial
        have HC := Lib.hid (fun W (hW : Ints .i64 W b q) => isNumbers_any b cap2 q W hs hW)
        rw [hn] at HC
        clear hn
        have HO : Hid (R.on l q < 4096) := Lib.hid (by
          have h1 := R.onTo_lt l q l.length
          have h2 : (2 : Nat) ^ l.length ≤ 2 ^ 12 := Nat.pow_le_pow_right (by decide) (by omega)
          have h3 : (2 : Nat) ^ 12 = 4096 := by decide
          unfold R.on; omega)
        go_wp2_with fail
        refine (HC.out _ HB1.out).mono ?_
        rintro e w2 ⟨rfl, rfl⟩
        go_wp2_with fail
        refine (on_any a cap l b cap2 q _ (by omega) HL1.out.sig HV.out.fit hs4 HN.out HB1.out).mono ?_
        rintro e w2 ⟨rfl, hD⟩
        go_wp2_with fail
        refine (size_any (R.on l q) _ HO.out).mono ?_
        rintro e w3 ⟨rfl, rfl⟩
        go_wp2_with fail
        go_ret2
        exact ⟨by rw [HF.out]; first | done | rfl, HBel.out.trans (hD.below _)⟩
    · have HF : Hid (R.checkPath deg l q = (0, 15)) := by
        unfold R.checkPath; rw [if_neg (not_not_intro (HV.out.zero)), if_pos hq]; trivial
      have hq' : ((q.length : Int) != deg + 1) = true := by rw [bne_iff_ne]; exact hq
      clear hq
      go_wp2_with fail
      go_ret2
      exact ⟨by rw [HF.out]; first | done | rfl, HBel.out⟩
  · have HF : Hid (R.checkPath deg l q = (0, R.checkLog deg l)) := by unfold R.checkPath; rw [if_pos hc]; trivial
    have hc' : (R.checkLog deg l != 0) = true := by rw [bne_iff_ne]; exact hc
    clear hc
    go_enter Try.func26, Try.ntmps26
    go_wp2_with fail
    refine (HCk.out _ HL0.out.sig).mono ?_
    rintro e w1 ⟨rfl, hb1⟩
    have HL1 := Lib.hid (HL0.out.on hb1)
    have HBel := Lib.hid (hb0.out.trans (hb1.mono (by simp)))
    have hx1 := HL1.out.x1
    have hx2 := HL1.out.x2
    clear hb1
    go_wp2_with fail
    refine (HCk.out _ HL1.out.sig).mono ?_
    rintro e w2 ⟨rfl, hb2⟩
    go_wp2_with fail
    go_ret2
    have := HBel.out.size
    exact ⟨by rw [HF.out]; first | done | rfl, HBel.out.trans (hb2.mono this)⟩
end Go.Proofs.Ytkcgkfhfogdihaa
/- Walk of the reference's Paths. -/
namespace Go.Proofs.Ytkcgkfhfogdihaa
open Go.RowKit
/-- Numbers of bits, as the integers that they are. -/
def nats (l : List Nat) : List Int := l.map fun n : Nat => (n : Int)
theorem nats_length (l : List Nat) : (nats l).length = l.length := by simp [nats]
theorem nats_nth (l : List Nat) (i : Nat) (h : i < l.length) : nth (nats l) i = ((l.getD i 0 : Nat) : Int) := by simp [nats, nth, h]
theorem nats_snoc (l : List Nat) (n : Nat) : nats (l ++ [n]) = nats l ++ [(n : Int)] := by simp [nats]
namespace R
/-- The sightings whose bits are 1: of the first j. -/
def pickTo (l : List (Int × Int)) (bits j : Nat) : List (Int × Int) := up (fun i r => if bits / 2 ^ i % 2 = 1 then r ++ [(dayN l i, plcN l i)] else r) [] j
def pick (l : List (Int × Int)) (bits : Nat) : List (Int × Int) := pickTo l bits l.length
def pathStep (deg : Int) (l : List (Int × Int)) (bits : Nat) (out : List Nat) : List Nat :=
  if (size bits : Int) ≠ deg + 1 then out else match pass (pick l bits) with
    | none => out
    | some p => if on l p ∈ out then out else out ++ [on l p]
def pathsTo (deg : Int) (l : List (Int × Int)) (n : Nat) : List Nat := up (pathStep deg l) [] n
/-- For each path of a log, which sightings lie on it, by bits. -/
def paths (deg : Int) (l : List (Int × Int)) : List Nat := pathsTo deg l (2 ^ l.length)
theorem pickTo_length (l : List (Int × Int)) (bits j : Nat) : (pickTo l bits j).length = sizeTo bits j := by
  induction j with
  | zero => rfl
  | succ j ih =>
    show (if bits / 2 ^ j % 2 = 1 then pickTo l bits j ++ [_] else pickTo l bits j).length = sizeTo bits j + bits / 2 ^ j % 2
    have := Nat.mod_lt (bits / 2 ^ j) (show 2 > 0 by decide)
    split
    · rw [List.length_append, ih]; simp; omega
    · rw [ih]; omega
/-- The days of what is picked of the first j lie ahead of day j, and increase. -/
theorem pickTo_props {l : List (Int × Int)} (hf : Fit l) (hi : Inc l) (bits j : Nat) (hj : j ≤ l.length) :
    Fit (pickTo l bits j) ∧ Inc (pickTo l bits j) ∧ ∀ i, i < (pickTo l bits j).length → j < l.length → dayN (pickTo l bits j) i < dayN l j := by
  induction j with
  | zero => exact ⟨fun i h => by simp [pickTo, up] at h, fun i h => by simp [pickTo, up] at h, fun i h => by simp [pickTo, up] at h⟩
  | succ j ih =>
    obtain ⟨h1, h2, h3⟩ := ih (by omega)
    have e : pickTo l bits (j + 1) = if bits / 2 ^ j % 2 = 1 then pickTo l bits j ++ [(dayN l j, plcN l j)] else pickTo l bits j := rfl
    have gl : ∀ (r : List (Int × Int)) (d p : Int) (i : Nat), i < r.length → dayN (r ++ [(d, p)]) i = dayN r i ∧ plcN (r ++ [(d, p)]) i = plcN r i := fun r d p i h => by
      unfold dayN plcN; simp only [List.getD_eq_getElem?_getD]; rw [List.getElem?_append_left h]; exact ⟨rfl, rfl⟩
    have gr : ∀ (r : List (Int × Int)) (d p : Int), dayN (r ++ [(d, p)]) r.length = d ∧ plcN (r ++ [(d, p)]) r.length = p := fun r d p => by
      unfold dayN plcN; simp
    rw [e]
    split
    · refine ⟨fun i hlt => ?_, fun i hlt => ?_, fun i hlt hj2 => ?_⟩
      · rw [List.length_append] at hlt
        by_cases hh : i < (pickTo l bits j).length
        · rw [(gl _ _ _ i hh).1, (gl _ _ _ i hh).2]; exact h1 i hh
        · have : i = (pickTo l bits j).length := by simp at hlt; omega
          subst this
          rw [(gr _ _ _).1, (gr _ _ _).2]; exact hf j (by omega)
      · rw [List.length_append] at hlt
        simp at hlt
        rw [(gl _ _ _ i (by omega)).1]
        by_cases hh : i + 1 < (pickTo l bits j).length
        · rw [(gl _ _ _ (i + 1) hh).1]; exact h2 i (by omega)
        · have : i + 1 = (pickTo l bits j).length := by omega
          rw [this, (gr _ _ _).1]; exact h3 i (by omega) (by omega)
      · rw [List.length_append] at hlt
        have hd := hi j (by omega)
        by_cases hh : i < (pickTo l bits j).length
        · rw [(gl _ _ _ i hh).1]; have := h3 i hh (by omega); omega
        · have : i = (pickTo l bits j).length := by simp at hlt; omega
          subst this
          rw [(gr _ _ _).1]; exact hd
    · refine ⟨h1, h2, fun i hlt hj2 => ?_⟩
      have hd := hi j (by omega)
      have := h3 i hlt (by omega); omega
theorem pathsTo_length (deg : Int) (l : List (Int × Int)) (n : Nat) : (pathsTo deg l n).length ≤ n := by
  induction n with
  | zero => exact Nat.le_refl _
  | succ n ih =>
    show (pathStep deg l n (pathsTo deg l n)).length ≤ n + 1
    unfold pathStep
    split
    · omega
    · split
      · omega
      · split
        · omega
        · rw [List.length_append]; simp; omega
theorem on_lt (l : List (Int × Int)) (q : List Int) (h : l.length ≤ 12) : on l q < 4096 := by
  have h1 := onTo_lt l q l.length
  have h2 : (2 : Nat) ^ l.length ≤ 2 ^ 12 := Nat.pow_le_pow_right (by decide) h
  have h3 : (2 : Nat) ^ 12 = 4096 := by decide
  unfold on; omega
theorem size_pick {l : List (Int × Int)} {bits : Nat} (h : l.length ≤ 12) (hb : bits < 2 ^ l.length) : (pick l bits).length = size bits := by
  have e : size bits = sizeTo bits l.length := by
    have := sizeTo_end (n := bits) (j := l.length) (Nat.div_eq_of_lt hb) (12 - l.length)
    unfold size; rw [show 12 = l.length + (12 - l.length) by omega]; exact this
  unfold pick
  rw [pickTo_length, e]
theorem pick_piece {deg : Int} {l : List (Int × Int)} (hv : Valid deg l) {bits : Nat} (hb : bits < 2 ^ l.length) (hs : (size bits : Int) = deg + 1) : Piece (pick l bits) := by
  have h := pickTo_props hv.fit hv.inc bits l.length (Nat.le_refl _)
  have := hv.d3
  exact ⟨by rw [size_pick hv.len hb]; omega, h.1, h.2.1⟩
/-- None of the first k is x. -/
def fresh (out : List Nat) (x k : Nat) : Bool := up (fun i b => b && (out.getD i 0 != x)) true k
theorem fresh_iff (out : List Nat) (x : Nat) : ∀ k, k ≤ out.length → (fresh out x k = true ↔ x ∉ out.take k) := by
  intro k
  induction k with
  | zero => intro _; simp [fresh, up]
  | succ k ih =>
    intro hk
    have e : fresh out x (k + 1) = (fresh out x k && (out.getD k 0 != x)) := rfl
    rw [e, Bool.and_eq_true, ih (by omega), List.take_succ_eq_append_getElem (by omega)]
    have : out.getD k 0 = out[k] := by simp [show k < out.length by omega]
    rw [this]
    simp only [List.mem_append, List.mem_singleton, bne_iff_ne, not_or]
    constructor
    · rintro ⟨h1, h2⟩; exact ⟨h1, fun h => h2 h.symm⟩
    · rintro ⟨h1, h2⟩; exact ⟨h1, fun h => h2 h.symm⟩
end R
set_option maxRecDepth 100000 in
set_option maxHeartbeats 2000000 in
theorem paths_any (a : Option Addr) (cap : Nat) (deg : Int) (l : List (Int × Int)) (w : World) (hv : R.Valid deg l) (ha : Sigs w a l) :
    Calls Try.prog 73 #[.agg #[.int .i64 deg, .slice a l.length cap]] w fun e w' => ∃ v, e = .returned v ∧ w'.ownsRow w.heap.size 3 1 v (R.paths deg l).length ((nats (R.paths deg l)).map (.int .i64)) ∧ Below w.heap.size w w' := by
  have hb0 := Lib.hid (Below.new w (.cells #[.int .i64 deg, .slice a l.length cap] 33))
  have HL0 := Lib.hid (Logged.new ha deg cap 33)
  have HV := Lib.hid hv
  have hd0 := hv.d0
  have hd3 := hv.d3
  have h12 := hv.len
  clear ha hv
  have hs0 : w.heap.size < (w.alloc (.cells #[.int .i64 deg, .slice a l.length cap] 33)).heap.size := by simp
  have HP12 : Hid ((2 : Nat) ^ l.length ≤ 4096) := Lib.hid (by
    have h2 : (2 : Nat) ^ l.length ≤ 2 ^ 12 := Nat.pow_le_pow_right (by decide) (by omega)
    have h3 : (2 : Nat) ^ 12 = 4096 := by decide
    omega)
  have HW : Hid (wrap64 ((2 : Int) ^ l.length) = ((2 ^ l.length : Nat) : Int)) := Lib.hid (by
    have := HP12.out
    have e : ((2 : Int) ^ l.length) = ((2 ^ l.length : Nat) : Int) := by simp
    rw [e]; generalize (2 : Nat) ^ l.length = g at *; rw [wrap64_id (by omega)])
  go_enter Try.func73, Try.ntmps73
  go_wp2_with fail
  obtain ⟨w0, hw0⟩ : ∃ w0, w.alloc (.cells #[.int .i64 deg, .slice a l.length cap] 33) = w0 := ⟨_, rfl⟩
  rw [hw0] at hb0 HL0 hs0 ⊢
  clear hw0
  go_loopw [3, 4, 5, 6, 7, 8, 9, 10, 11] (fun o i _ _ _ _ _ _ _ wr => ∃ j : Nat, j ≤ 2 ^ l.length ∧ i = .int .i64 j ∧ wr.ownsRow w0.heap.size 3 1 o (R.pathsTo deg l j).length ((nats (R.pathsTo deg l j)).map (.int .i64)) ∧ Below w0.heap.size w0 wr) (fun _ i _ _ _ _ _ _ _ _ => 2 ^ l.length - (intOf i).toNat)
  case atStart => exact ⟨0, Nat.zero_le _, rfl, World.ownsRow_nil _ _ _ _, Below.refl _ _⟩
  case round =>
    obtain ⟨j, hj, rfl, hown, hbel⟩ := hrel
    have HL1 := Lib.hid (HL0.out.on hbel)
    have hx1 := HL1.out.x1
    have hx2 := HL1.out.x2
    have hbs := hbel.size
    have hjl : j ≤ 4096 := Nat.le_trans hj HP12.out
    by_cases hlt : j < 2 ^ l.length
    · have hlt' : (j : Int) < wrap64 (2 ^ l.length) := by rw [HW.out]; omega
      have HLT := Lib.hid hlt
      have HJ := Lib.hid hj
      have hj4 : j < 4096 := Nat.lt_of_lt_of_le hlt HP12.out
      clear hlt hj
      have HStep : Hid (R.pathsTo deg l (j + 1) = R.pathStep deg l j (R.pathsTo deg l j)) := rfl
      by_cases hs : (R.size j : Int) = deg + 1
      · have hs' : ((R.size j : Int) != deg + 1) = false := by simp [hs]
        have k1 : IntKind.i64.wrap (deg + 1) = deg + 1 := IntWalk.i64_in _ (by omega)
        have HS := Lib.hid hs
        clear hs
        go_wp2_with fail
        go_quiet ((go_at_call 42; exact quiet_same (size_any j _ hj4)))
        go_wp2_with fail
        clear hs'
        obtain ⟨w1, hw1⟩ : ∃ w1, wr.drewN nq = w1 := ⟨_, rfl⟩
        rw [hw1]
        have hbel1 : Below w0.heap.size w0 w1 := by rw [← hw1]; exact bel_drewN hbel _
        have hown1 : w1.ownsRow w0.heap.size 3 1 u3 (R.pathsTo deg l j).length ((nats (R.pathsTo deg l j)).map (.int .i64)) := by rw [← hw1]; exact hown
        have HL2 := Lib.hid (HL0.out.on hbel1)
        have hbs1 := hbel1.size
        clear hown hbel hx1 hx2 HL1 hbs hw1
        have HO1 := Lib.hid hown1
        clear hown1
        go_loopw [5, 6] (fun o i wi => ∃ k : Nat, k ≤ l.length ∧ i = .int .i64 k ∧ wi.ownsRow w1.heap.size 57 2 o (R.pickTo l j k).length (flat (R.pickTo l j k)) ∧ Below w1.heap.size w1 wi) (fun _ i _ => l.length - (intOf i).toNat)
        case atStart => exact ⟨0, Nat.zero_le _, rfl, World.ownsRow_nil _ _ _ _, Below.refl _ _⟩
        case round =>
          obtain ⟨k, hk, rfl, hownk, hbelk⟩ := hrel
          have hx2 := (HL2.out.on hbelk).x2
          have hbsk := hbelk.size
          by_cases hltk : k < l.length
          · have hc : ((j : Int) / 2 ^ k) = ((j / 2 ^ k : Nat) : Int) := by simp
            have hb1 : bits .and .i64 ((j : Int) / 2 ^ k) 1 = ((j / 2 ^ k % 2 : Nat) : Int) := by
              rw [hc]; generalize hg : j / 2 ^ k = g at *; have hgn : g ≤ j := by rw [← hg]; exact Nat.div_le_self j (2 ^ k)
              rw [bits_and1 (by omega) (by omega)]; omega
            have HKS : Hid (R.pickTo l j (k + 1) = if j / 2 ^ k % 2 = 1 then R.pickTo l j k ++ [(dayN l k, plcN l k)] else R.pickTo l j k) := rfl
            have HC := Lib.hid hc
            clear hc
            by_cases hbit : j / 2 ^ k % 2 = 1
            · rw [hbit] at hb1
              have HBit := Lib.hid hbit
              clear hbit
              obtain ⟨ba, offa, rfl, hd1, hd2⟩ := (HL2.out.on hbelk).sig k hltk
              have hn : (R.pickTo l j k).length + 1 ≤ 2000000 := by
                rw [R.pickTo_length]; have := R.sizeTo_le j k; omega
              go_wp2_with (at_builtin; refine listApp T31 rfl (.tmp 38) (.tmp 44) rfl w1.heap.size _ _ (flat (R.pickTo l j k)) [.int .i64 (dayN l k), .int .i64 (plcN l k)] 1 1 ⟨wr.heap.size, 0, none⟩ rfl (hownk.alloc _) rfl rfl (news_new _ _ _) (by simp [Value.oneCell']) hn (by simp; omega) ?_; intro v2 w2 hown2 hg2 hL2)
              go_roundw
              case rel => exact ⟨k + 1, by omega, by go_num, by rw [HKS.out, if_pos HBit.out, flat_snoc, List.length_append]; exact hown2, (hbelk.alloc hbsk _).grown hg2 (by simp; omega) (fun g e => (hownk.lt g e).1)⟩
              case measure => simp [intOf]; omega
            · have hb0' : j / 2 ^ k % 2 = 0 := by have := Nat.mod_lt (j / 2 ^ k) (show 2 > 0 by decide); omega
              rw [hb0'] at hb1
              have HBit := Lib.hid hbit
              clear hbit hb0'
              go_wp2_with fail
              go_roundw
              case rel => exact ⟨k + 1, by omega, by go_num, by rw [HKS.out, if_neg HBit.out]; exact hownk, hbelk⟩
              case measure => simp [intOf]; omega
          · have hkl : k = l.length := by omega
            subst hkl
            have HPc := Lib.hid (R.pick_piece HV.out HLT.out HS.out)
            have hownp : wr.ownsRow w1.heap.size 57 2 u5 (R.pick l j).length (flat (R.pick l j)) := hownk
            obtain ⟨_, a3, cap3, rfl, hI3, hcap⟩ := Sigs.of_ownsRow hownp
            have HC := Lib.hid (fun W (hW : Sigs W a3 (R.pick l j)) => pass_any a3 cap3 (R.pick l j) W hW HPc.out)
            have HI3 := Lib.hid hI3
            have HL3 := Lib.hid (HL2.out.on hbelk)
            have HO2 := Lib.hid (owns_below HO1.out hbelk)
            clear hownk hI3 hcap hownp
            cases hps : R.pass (R.pick l j) with
            | none =>
              have HF : Hid (R.pathsTo deg l (j + 1) = R.pathsTo deg l j) := Lib.hid (by
                rw [HStep.out]; unfold R.pathStep; rw [if_neg (not_not_intro HS.out), hps])
              simp only [passL, hps, Option.isSome_none, Option.getD_none] at HC
              clear hps
              go_wp2_with fail
              refine (HC.out _ HI3.out).mono ?_
              rintro e w2 ⟨v, rfl, hown1, hb1⟩
              go_wp2_with fail
              go_roundw
              case rel => exact ⟨j + 1, HLT.out, by go_num, by rw [HF.out]; exact owns_below HO2.out hb1, hbel1.trans ((hbelk.trans (hb1.mono hbsk)).mono hbs1)⟩
              case measure => have := HLT.out; simp [intOf]; omega
            | some p =>
              have HPS := Lib.hid (HPc.out.pass_some hps)
              have HF : Hid (R.pathsTo deg l (j + 1) = if R.on l p ∈ R.pathsTo deg l j then R.pathsTo deg l j else R.pathsTo deg l j ++ [R.on l p]) := Lib.hid (by
                rw [HStep.out]; unfold R.pathStep; rw [if_neg (not_not_intro HS.out), hps])
              simp only [passL, hps, Option.isSome_some, Option.getD_some] at HC
              clear hps
              go_wp2_with fail
              refine (HC.out _ HI3.out).mono ?_
              rintro e w2 ⟨v, rfl, hown1, hb1⟩
              obtain ⟨_, a4, cap4, rfl, hI4, hcap4⟩ := Ints.of_ownsRow hown1
              have HL4 := Lib.hid (HL3.out.on hb1)
              have HO3 := Lib.hid (owns_below HO2.out hb1)
              have hbel2 := hbel1.trans ((hbelk.trans (hb1.mono hbsk)).mono hbs1)
              have HI4 := Lib.hid hI4
              clear hown1 hb1 hcap4 hI4 hx2
              have hx1 := HL4.out.x1
              have hx2 := HL4.out.x2
              go_wp2_with fail
              refine (on_any a cap l a4 cap4 p _ h12 HL4.out.sig HV.out.fit (by rw [HPS.out.1]; exact HPc.out.len) HPS.out.2.2 HI4.out).mono ?_
              rintro e w3 ⟨rfl, hD⟩
              have HO4 := Lib.hid (owns_drew HO3.out hD)
              have hbel3 := hbel2.trans (hD.below _)
              have hbs3 := hbel3.size
              have HON := Lib.hid (R.on_lt l p h12)
              have HPL := Lib.hid (R.pathsTo_length deg l j)
              clear hx1 hx2 hD
              go_wp2_with fail
              obtain ⟨_, a5, cap5, rfl, hI5, hcap5⟩ := Ints.of_ownsRow HO4.out
              rw [nats_length] at *
              have HI5 := Lib.hid hI5
              clear hI5
              go_loopw [10, 11] (fun f k wi => ∃ i : Nat, i ≤ (R.pathsTo deg l j).length ∧ k = .int .i64 i ∧ f = .bool (R.fresh (R.pathsTo deg l j) (R.on l p) i) ∧ wi = w3) (fun _ k _ => (R.pathsTo deg l j).length - (intOf k).toNat)
              case atStart => exact ⟨0, Nat.zero_le _, rfl, rfl, rfl⟩
              case round =>
                obtain ⟨i, hi, rfl, rfl, rfl⟩ := hrel
                have hpl : (R.pathsTo deg l j).length ≤ 4096 := Nat.le_trans HPL.out hjl
                by_cases hlti : i < (R.pathsTo deg l j).length
                · have hfs : Hid (R.fresh (R.pathsTo deg l j) (R.on l p) (i + 1) = (R.fresh (R.pathsTo deg l j) (R.on l p) i && ((R.pathsTo deg l j).getD i 0 != R.on l p))) := rfl
                  obtain ⟨b5, o5, rfl, hc5⟩ := HI5.out i (by rw [nats_length]; exact hlti)
                  rw [nats_nth _ _ hlti] at hc5
                  cases hfr : R.fresh (R.pathsTo deg l j) (R.on l p) i with
                  | false =>
                    rw [hfr] at hfs
                    clear hfr
                    go_wp2_with fail
                    go_roundw
                    case rel => exact ⟨i + 1, by omega, by go_num, by rw [hfs.out]; rfl, trivial⟩
                    case measure => simp [intOf]; omega
                  | true =>
                    rw [hfr] at hfs
                    clear hfr
                    generalize (R.pathsTo deg l j).getD i 0 = g at *
                    by_cases hg : g = R.on l p
                    · have hg' : ((g : Int) != (R.on l p : Int)) = false := by simp; omega
                      have HG := Lib.hid hg
                      clear hg
                      go_wp2_with fail
                      go_roundw
                      case rel => exact ⟨i + 1, by omega, by go_num, by rw [hfs.out, HG.out]; simp, trivial⟩
                      case measure => simp [intOf]; omega
                    · have hg' : ((g : Int) != (R.on l p : Int)) = true := by simp; omega
                      have HG := Lib.hid hg
                      clear hg
                      go_wp2_with fail
                      go_roundw
                      case rel => exact ⟨i + 1, by omega, by go_num, by rw [hfs.out]; simp [HG.out], trivial⟩
                      case measure => simp [intOf]; omega
                · have hie : i = (R.pathsTo deg l j).length := by omega
                  subst hie
                  have hfi := R.fresh_iff (R.pathsTo deg l j) (R.on l p) _ (Nat.le_refl _)
                  rw [List.take_length] at hfi
                  cases hfr : R.fresh (R.pathsTo deg l j) (R.on l p) (R.pathsTo deg l j).length with
                  | true =>
                    rw [hfr] at hfi
                    have HFI := Lib.hid (hfi.1 rfl)
                    clear hfr hfi
                    have hn : (R.pathsTo deg l j).length + 1 ≤ 2000000 := by omega
                    go_wp2_with (at_builtin; refine listApp T34 rfl (.tmp 73) (.tmp 75) rfl w0.heap.size _ _ ((nats (R.pathsTo deg l j)).map (.int .i64)) [.int .i64 (R.on l p : Int)] 1 1 ⟨wr.heap.size, 0, none⟩ rfl (HO4.out.alloc _) rfl rfl (news_new _ _ _) (by simp [Value.oneCell']) hn (by simp; omega) ?_; intro v6 w6 hown6 hg6 hL6)
                    go_roundw
                    case rel => exact ⟨j + 1, HLT.out, by go_num, by rw [HF.out, if_neg HFI.out, List.length_append, nats_snoc, List.map_append]; exact hown6, (hbel3.alloc hbs3 _).grown hg6 (by simp; omega) (fun g e => (HO4.out.lt g e).1)⟩
                    case measure => have := HLT.out; simp [intOf]; omega
                  | false =>
                    rw [hfr] at hfi
                    have HFI := Lib.hid (show R.on l p ∈ R.pathsTo deg l j from Classical.byContradiction fun h => by have := hfi.2 h; simp at this)
                    clear hfr hfi
                    go_wp2_with fail
                    go_roundw
                    case rel => exact ⟨j + 1, HLT.out, by go_num, by rw [HF.out, if_pos HFI.out]; exact HO4.out, hbel3⟩
                    case measure => have := HLT.out; simp [intOf]; omega
      · have hs' : ((R.size j : Int) != deg + 1) = true := by rw [bne_iff_ne]; exact hs
        have HS := Lib.hid hs
        have k1 : IntKind.i64.wrap (deg + 1) = deg + 1 := IntWalk.i64_in _ (by omega)
        clear hs
        go_wp2_with fail
        go_quiet ((go_at_call 42; exact quiet_same (size_any j _ hj4)))
        go_wp2_with fail
        go_roundw
        case rel => exact ⟨j + 1, HLT.out, by go_num, by rw [HStep.out]; unfold R.pathStep; rw [if_pos HS.out]; exact hown, bel_drewN hbel _⟩
        case measure => have := HLT.out; simp [intOf]; omega
    · have hje : j = 2 ^ l.length := by omega
      have hlt' : ¬ (j : Int) < wrap64 (2 ^ l.length) := by rw [HW.out]; omega
      have HJE := Lib.hid hje
      clear hje hlt hj
      go_wp2_with fail
      go_ret
      refine ⟨_, rfl, ?_, hb0.out.trans (hbel.mono (by omega))⟩
      unfold R.paths
      rw [← HJE.out]
      exact owns_mono hown (by omega)
end Go.Proofs.Ytkcgkfhfogdihaa
