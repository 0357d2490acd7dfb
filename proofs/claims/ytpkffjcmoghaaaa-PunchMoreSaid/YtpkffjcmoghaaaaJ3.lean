/- One text of Base, RefA, RefB, RefC, RefD. -/
import Derived.Test.YtpkffjcmoghaaaaJ2
import Derived.Test.YtpkffjcmoghaaaaRows
import Derived.WalkKit
import Derived.WalkSpells
import Derived.WalkLawsBesides
import Derived.Deep.QuietTactic
import Derived.BigQuiet
import Derived.Handy
import Derived.Lib.Hide
import Derived.Deep.RegionWith
import Derived.Deep.RegionHeld3
import Derived.Deep.LoopGhost
import Derived.StillTailTactics
import Derived.Deep.AppendLies
import Derived.Maps.AppendAt
import Derived.Outline
import Derived.Deep.Cut
/- Words for walks: what a slice of integers reads as, in whatever world. -/
namespace Go.Proofs.Ytpkffjcmoghaaaa
open Go.RowKit

/-- The element at an index; 0 beyond the end. -/
def nth (zs : List Int) (i : Nat) : Int := zs.getD i 0
theorem nth_eq (zs : List Int) (i : Nat) (h : i < zs.length) : nth zs i = zs[i] := by simp [nth, h]
theorem nth_append_left (xs ys : List Int) (i : Nat) (h : i < xs.length) : nth (xs ++ ys) i = nth xs i := by
  unfold nth; simp [List.getD, List.getElem?_append_left h]
theorem take_succ_nth (zs : List Int) (i : Nat) (h : i < zs.length) : zs.take (i + 1) = zs.take i ++ [nth zs i] := by
  rw [List.take_succ_eq_append_getElem h, nth_eq zs i h]

/-- A slice at the address a reads, from its first cell on, as integers of a kind. -/
def Ints (k : IntKind) (w : World) (a : Option Addr) (zs : List Int) : Prop :=
  ∀ i, i < zs.length → ∃ b off, a = some ⟨b, off, none⟩ ∧ w.cell? ⟨b, off + i, none⟩ = some (.int k (nth zs i))

theorem Ints.nil (k : IntKind) (w : World) (a : Option Addr) : Ints k w a [] := fun i h => by simp at h
theorem Ints.cellAt {k : IntKind} {w : World} {b off : Nat} {zs : List Int} (h : Ints k w (some ⟨b, off, none⟩) zs) (i : Nat) (hi : i < zs.length) : w.cell? ⟨b, off + i, none⟩ = some (.int k (nth zs i)) := by
  obtain ⟨b', off', e, hc⟩ := h i hi; cases e; exact hc
theorem Ints.at {k : IntKind} {w : World} {a : Option Addr} {zs : List Int} (h : Ints k w a zs) (hp : 0 < zs.length) : ∃ b off, a = some ⟨b, off, none⟩ ∧ b < w.heap.size := by
  obtain ⟨b, off, e, hc⟩ := h 0 hp; exact ⟨b, off, e, World.block_lt_of_cell? w _ hc⟩
theorem Ints.below {k : IntKind} {w w' : World} {a : Option Addr} {zs : List Int} (h : Ints k w a zs) (hb : Below w.heap.size w w') : Ints k w' a zs := by
  intro i hi
  obtain ⟨b, off, ha, hc⟩ := h i hi
  exact ⟨b, off, ha, (hb.cell (p := ⟨b, off + i, none⟩) (World.block_lt_of_cell? w _ hc)).trans hc⟩
theorem Ints.drewN {k : IntKind} {w : World} {a : Option Addr} {zs : List Int} (h : Ints k w a zs) (n : Nat) : Ints k (w.drewN n) a zs := h
theorem Ints.of_ownsRow {k : IntKind} {w : World} {base : Nat} {e : TypeId} {v : Value} {n : Nat} {zs : List Int} (h : w.ownsRow base e 1 v n (zs.map (.int k))) :
    n = zs.length ∧ ∃ a cap, v = .slice a n cap ∧ Ints k w a zs ∧ n ≤ cap := by
  have hl : n = zs.length := by have := h.1; simp at this; omega
  refine ⟨hl, ?_⟩
  rcases h.2 with ⟨rfl, rfl⟩ | ⟨g, cap, cur, rfl, hb, hg, hn, hm, hs, ht⟩
  · exact ⟨none, 0, rfl, fun i hi => by omega, Nat.le_refl _⟩
  · refine ⟨_, cap, rfl, fun i hi => ⟨g, 0, rfl, ?_⟩, hn⟩
    have := h.cells (g := g) rfl i (.int k (nth zs i)) (by simp [nth, hi])
    have e : (⟨g, 0, none⟩ : Addr).add i = ⟨g, 0 + i, none⟩ := by unfold Addr.add; split <;> simp_all
    rw [e] at this; exact this

theorem ret_bool {a b : Bool} (h : a = b) : Ending.returned (.bool a) = Ending.returned (.bool b) := by rw [h]
theorem ret_int {k : IntKind} {a b : Int} (h : a = b) : Ending.returned (.int k a) = Ending.returned (.int k b) := by rw [h]
/-- The world has only drawn. -/
def Drew (w w' : World) : Prop := ∃ n, w' = w.drewN n
theorem Drew.refl (w : World) : Drew w w := ⟨0, rfl⟩
theorem Drew.trans {a b c : World} (h : Drew a b) (k : Drew b c) : Drew a c := by
  obtain ⟨n, rfl⟩ := h; obtain ⟨m, rfl⟩ := k; exact ⟨n + m, by rw [World.drewN_drewN]⟩
theorem Drew.drewN {a b : World} (h : Drew a b) (n : Nat) : Drew a (b.drewN n) := h.trans ⟨n, rfl⟩
theorem Drew.cell {w w' : World} (h : Drew w w') (a : Addr) : w'.cell? a = w.cell? a := by obtain ⟨n, rfl⟩ := h; rfl
theorem Drew.below {w w' : World} (h : Drew w w') (B : Nat) : Below B w w' := by obtain ⟨n, rfl⟩ := h; exact ⟨rfl, rfl, rfl, Nat.le_refl _, fun _ _ => rfl⟩
theorem Ints.drew {k : IntKind} {w w' : World} {a : Option Addr} {zs : List Int} (h : Ints k w a zs) (hd : Drew w w') : Ints k w' a zs := by
  intro i hi; obtain ⟨b, off, ha, hc⟩ := h i hi; exact ⟨b, off, ha, (hd.cell _).trans hc⟩
/-- A contract that leaves the world be, or only draws, serves in a region that draws. -/
theorem quiet_same {P : Program} {f : FuncId} {args : Array Value} {w : World} {v : Value} {n : Nat} (h : Calls P f args (w.drewN n) fun e w' => e = .returned v ∧ w.drewN n = w') :
    Calls P f args (w.drewN n) fun e w'' => e = .returned v ∧ ∃ m, w'' = w.drewN m := h.mono fun _ _ ⟨he, hm⟩ => ⟨he, n, hm.symm⟩
theorem quiet_drew {P : Program} {f : FuncId} {args : Array Value} {w : World} {v : Value} {n : Nat} (h : Calls P f args (w.drewN n) fun e w' => e = .returned v ∧ Drew (w.drewN n) w') :
    Calls P f args (w.drewN n) fun e w'' => e = .returned v ∧ ∃ m, w'' = w.drewN m := h.mono fun _ _ ⟨he, m, hm⟩ => ⟨he, n + m, by rw [hm, World.drewN_drewN]⟩

theorem grownBy_of_below {w w' : World} (h : Below w.heap.size w w') (row : Option Nat) : w.grownBy w' row := ⟨h.os, h.tape, h.output, h.size, fun k hk _ => h.block k hk⟩
theorem owns_below {w w' : World} {base : Nat} {e : TypeId} {size : Nat} {v : Value} {n : Nat} {xs : List Value} (h : w.ownsRow base e size v n xs) (hb : Below w.heap.size w w') : w'.ownsRow base e size v n xs :=
  h.kept (grownBy_of_below hb none) (by cases v.ownBlock <;> simp)
theorem owns_mono {w : World} {base base' : Nat} {e : TypeId} {size : Nat} {v : Value} {n : Nat} {xs : List Value} (h : w.ownsRow base e size v n xs) (hb : base' ≤ base) : w.ownsRow base' e size v n xs := by
  refine ⟨h.1, ?_⟩
  rcases h.2 with h | ⟨g, cap, cur, hv, hg, r⟩
  · exact .inl h
  · exact .inr ⟨g, cap, cur, hv, Nat.le_trans hb hg, r⟩
/-- The length of a slice's value: for measures. -/
def lenV : Value → Nat | .slice _ n _ => n | _ => 0

/-- A slice type and its element's type, as the program's tables have them. -/
structure RowT (t e : TypeId) (z : Value) (size bytes : Nat) : Prop where
  ht : Try.prog.underlying t = some (.slice e)
  hi : (Try.prog.info? e).map (fun i => (i.zero, i.size, i.bytes)) = some (some z, size, bytes)
  hz : z.cells.size = size
  hs : 0 < size ∧ bytes ≤ 1000
theorem T25 : RowT 25 3 (.int .i64 0) 1 8 := ⟨Try.underlying25, by kernel_rfl, rfl, by decide⟩
theorem T22 : RowT 22 59 (.agg #[.int .i64 0, .int .i64 0, .int .i64 0]) 3 24 := ⟨Try.underlying22, by kernel_rfl, rfl, by decide⟩
theorem cell_new1 (w : World) (x : Value) (t : TypeId) : (w.alloc (.cells #[x] t)).cell? ⟨w.heap.size, 0, none⟩ = some x := by simp
/-- What a block that was just laid holds. -/
theorem news_new (w : World) (c : Array Value) (t : TypeId) : ∀ j u, c.toList[j]? = some u → (w.alloc (.cells c t)).cell? ((⟨w.heap.size, 0, none⟩ : Addr).add j) = some u := by
  intro j u hj
  have e : (⟨w.heap.size, 0, none⟩ : Addr).add j = ⟨w.heap.size, j, none⟩ := by unfold Addr.add; split <;> simp_all
  rw [e]
  simpa using hj
/-- Where the value of a row lies behind an append. -/
def Lies (v v' : Value) (H : Nat) : Prop := v'.ownBlock = v.ownBlock ∨ v'.ownBlock = some H
/-- 'append(s, x ..)' onto a row of the call's own; what is appended lies in cells of its own. -/
theorem wpApp {t e : TypeId} {z : Value} {size bytes : Nat} (R : RowT t e z size bytes) {o : Oper} {a : Act} {W : World} {K : Act → World → Prop} {Q : Exit → Act → World → Prop} (s x : Operand)
    (ho : o.op = .call { callee := .builtin .append, args := #[s, x], argTypes := #[t, t] }) (base : Nat) (v : Value) (n : Nat) (xs : List Value) (news : List Value) (m c : Nat) (ad : Addr) (hs : a.eval s = v)
    (hown : W.ownsRow base e size v n xs) (hx : a.eval x = .slice (some ad) m c) (hl : news.length = m * size) (hnews : ∀ j u, news[j]? = some u → W.cell? (ad.add j) = some u) (h1 : ∀ u ∈ news, u.oneCell' = true) (hn : n + m ≤ 2000000) (hbase : base ≤ W.heap.size)
    (h : ∀ v' w', w'.ownsRow base e size v' (n + m) (xs ++ news) → W.grownBy w' v.ownBlock → Lies v v' W.heap.size → K (a.put o.dst v') w') : o.wp Try.prog a W K Q := by
  obtain ⟨i0, hi, hz0, hz1, hz2⟩ := info_parts R.hi
  have hb := R.hs.2
  have hbytes : (n + m) * bytes ≤ 140737488355328 := Nat.le_trans (Nat.mul_le_mul hn hb) (by decide)
  obtain ⟨v', w', hr, h2, h3, _, h5⟩ := run_append_own_at (P := Try.prog) W base t o.type e i0 z size bytes R.ht hi hz0 hz1 hz2 R.hz R.hs.1 v n xs hown ad m c news hl hnews h1 (by unfold maxLen; omega) hbytes hbase
  unfold Oper.wp execOp
  simp only [ho, resolve, invoke, builtin, Sem.run_bind, Sem.run_pure, Result.andThen_ok, List.map_toArray, List.map_cons, List.map_nil, hs, hx, hr]
  exact h v' w' h2 h3 h5
theorem listApp {t e : TypeId} {z : Value} {size bytes : Nat} (R : RowT t e z size bytes) {ops : Array Oper} {rest : List Oper} {o : Oper} {a : Act} {W : World} {Q : Exit → Act → World → Prop} (hgd : o.guard = none) (s x : Operand)
    (ho : o.op = .call { callee := .builtin .append, args := #[s, x], argTypes := #[t, t] }) (base : Nat) (v : Value) (n : Nat) (xs : List Value) (news : List Value) (m c : Nat) (ad : Addr) (hs : a.eval s = v)
    (hown : W.ownsRow base e size v n xs) (hx : a.eval x = .slice (some ad) m c) (hl : news.length = m * size) (hnews : ∀ j u, news[j]? = some u → W.cell? (ad.add j) = some u) (h1 : ∀ u ∈ news, u.oneCell' = true) (hn : n + m ≤ 2000000) (hbase : base ≤ W.heap.size)
    (h : ∀ v' w', w'.ownsRow base e size v' (n + m) (xs ++ news) → W.grownBy w' v.ownBlock → Lies v v' W.heap.size → wpList Try.prog ops Q rest (a.put o.dst v') w') :
    wpList Try.prog ops Q (o :: rest) a W :=
  wpList_plain hgd fun _ hK => wpApp R s x ho base v n xs news m c ad hs hown hx hl hnews h1 hn hbase fun v' w' h1 h2 h3 => hK _ _ (h v' w' h1 h2 h3)
/-- The same at a step of a region that draws its order. -/
theorem stepApp {t e : TypeId} {z : Value} {size bytes : Nat} (R : RowT t e z size bytes) {ops : Array Oper} {o : Oper} {a : Act} {W : World} {K : Act → World → Prop} {Q : Exit → Act → World → Prop} {E : Prop} (hgd : o.guard = none) (s x : Operand)
    (ho : o.op = .call { callee := .builtin .append, args := #[s, x], argTypes := #[t, t] }) (base : Nat) (v : Value) (n : Nat) (xs : List Value) (news : List Value) (m c : Nat) (ad : Addr) (hs : a.eval s = v)
    (hown : W.ownsRow base e size v n xs) (hx : a.eval x = .slice (some ad) m c) (hl : news.length = m * size) (hnews : ∀ j u, news[j]? = some u → W.cell? (ad.add j) = some u) (h1 : ∀ u ∈ news, u.oneCell' = true) (hn : n + m ≤ 2000000) (hbase : base ≤ W.heap.size)
    (h : ∀ v' w', w'.ownsRow base e size v' (n + m) (xs ++ news) → W.grownBy w' v.ownBlock → Lies v v' W.heap.size → K (a.put o.dst v') w') :
    if Region.wanted o (yielded ops a.tmps) = true then Oper.wp Try.prog o a W K Q else E := by
  have hw : Region.wanted o (yielded ops a.tmps) = true := by simp [Region.wanted, hgd]
  rw [if_pos hw]
  exact wpApp R s x ho base v n xs news m c ad hs hown hx hl hnews h1 hn hbase h
/-- A slice that does not lie in the row of the call's own, and there already. -/
def Off (w : World) (v : Value) (a : Option Addr) : Prop := ∀ b off, a = some ⟨b, off, none⟩ → v.ownBlock ≠ some b ∧ b < w.heap.size
theorem Off.app {w w' : World} {v v' : Value} {a : Option Addr} (h : Off w v a) (hg : w.grownBy w' v.ownBlock) (hl : Lies v v' w.heap.size) : Off w' v' a := by
  intro b off e
  obtain ⟨h1, h2⟩ := h b off e
  refine ⟨fun e' => ?_, Nat.lt_of_lt_of_le h2 hg.size⟩
  rcases hl with hl | hl
  · exact h1 (hl ▸ e')
  · rw [e'] at hl; cases hl; omega
theorem Off.below {w w' : World} {v : Value} {a : Option Addr} (h : Off w v a) (hb : w.heap.size ≤ w'.heap.size) : Off w' v a := fun b off e => ⟨(h b off e).1, Nat.lt_of_lt_of_le (h b off e).2 hb⟩
theorem Off.nil {w : World} {a : Option Addr} (h : ∀ b off, a = some ⟨b, off, none⟩ → b < w.heap.size) : Off w (.slice none 0 0) a := fun b off e => ⟨by simp [Value.ownBlock], h b off e⟩
/-- A slice that lies behind the row, the row being there since before. -/
theorem Off.behind {w : World} {v : Value} {a : Option Addr} (B : Nat) (hv : ∀ g, v.ownBlock = some g → g < B) (ha : ∀ b off, a = some ⟨b, off, none⟩ → B ≤ b ∧ b < w.heap.size) : Off w v a := fun b off e =>
  ⟨fun e' => by have := hv b e'; have := (ha b off e).1; omega, (ha b off e).2⟩
theorem Off.ahead {w : World} {base : Nat} {e : TypeId} {size : Nat} {v : Value} {n : Nat} {xs : List Value} (h : w.ownsRow base e size v n xs) {a : Option Addr} (ha : ∀ b off, a = some ⟨b, off, none⟩ → b < base) (hb : base ≤ w.heap.size) : Off w v a := fun b off e1 =>
  ⟨fun e2 => by have := (h.lt b e2).1; have := ha b off e1; omega, by have := ha b off e1; omega⟩
theorem Ints.grown {k : IntKind} {w w' : World} {a : Option Addr} {zs : List Int} {v : Value} (h : Ints k w a zs) (hg : w.grownBy w' v.ownBlock) (hr : Off w v a) : Ints k w' a zs := by
  intro i hi
  obtain ⟨b, off, ha, hc⟩ := h i hi
  exact ⟨b, off, ha, hg.cell hc (fun e => (hr b off ha).1 e.symm)⟩
theorem Ints.alloc {k : IntKind} {w : World} {a : Option Addr} {zs : List Int} (h : Ints k w a zs) (o : Obj) : Ints k (w.alloc o) a zs := by
  intro i hi
  obtain ⟨b, off, ha, hc⟩ := h i hi
  exact ⟨b, off, ha, (World.grownBy_alloc w o none).cell hc (by simp)⟩
/-- n rounds of a counted loop: the round k makes of x what f k makes of it. -/
def up {α : Sort _} (f : Nat → α → α) (x : α) : Nat → α
  | 0 => x
  | k + 1 => f k (up f x k)
theorem up_succ {α : Sort _} (f : Nat → α → α) (x : α) (k : Nat) : up f x (k + 1) = f k (up f x k) := rfl
/-- A slice at the address a reads as stars. -/
def Stars (w : World) (a : Option Addr) (S : List P.Star) : Prop :=
  ∀ i, i < S.length → ∃ b off, a = some ⟨b, off, none⟩ ∧ w.cell? ⟨b, off + i * 3, none⟩ = some (.int .i64 (P.star S i).1) ∧ w.cell? ⟨b, off + i * 3 + 1, none⟩ = some (.int .i64 (P.star S i).2.1) ∧ w.cell? ⟨b, off + i * 3 + 2, none⟩ = some (.int .i64 (P.star S i).2.2)
theorem Stars.below {w w' : World} {a : Option Addr} {S : List P.Star} (h : Stars w a S) (hb : Below w.heap.size w w') : Stars w' a S := by
  intro i hi
  obtain ⟨b, off, ha, h1, h2, h3⟩ := h i hi
  exact ⟨b, off, ha, (hb.cell (p := ⟨b, off + i * 3, none⟩) (World.block_lt_of_cell? w _ h1)).trans h1, (hb.cell (p := ⟨b, off + i * 3 + 1, none⟩) (World.block_lt_of_cell? w _ h2)).trans h2, (hb.cell (p := ⟨b, off + i * 3 + 2, none⟩) (World.block_lt_of_cell? w _ h3)).trans h3⟩
theorem Below.new (w : World) (o : Obj) : Below w.heap.size w (w.alloc o) := (Below.refl _ _).alloc (Nat.le_refl _) o
theorem Stars.alloc {w : World} {a : Option Addr} {S : List P.Star} (h : Stars w a S) (o : Obj) : Stars (w.alloc o) a S := h.below (Below.new w o)
/-- A cell that was there is as it was. -/
theorem cell_on {w w' : World} (hb : Below w.heap.size w w') {p : Addr} {v : Value} (h : w.cell? p = some v) : w'.cell? p = some v := (hb.cell (World.block_lt_of_cell? w _ h)).trans h
/-- A job at a block: punches, life, the stars. -/
structure Job (w : World) (B : Nat) (p L : Int) (a : Option Addr) (cap : Nat) (S : List P.Star) : Prop where
  x1 : w.cell? ⟨B, 0, none⟩ = some (.int .i64 p)
  x2 : w.cell? ⟨B, 1, none⟩ = some (.int .i64 L)
  x3 : w.cell? ⟨B, 2, none⟩ = some (.slice a S.length cap)
  st : Stars w a S
theorem Job.new {w : World} {a : Option Addr} {S : List P.Star} (h : Stars w a S) (p L : Int) (cap : Nat) (t : TypeId) : Job (w.alloc (.cells #[.int .i64 p, .int .i64 L, .slice a S.length cap] t)) w.heap.size p L a cap S :=
  ⟨by simp, by simp, by simp, h.alloc _⟩
theorem Job.on {w w' : World} {B : Nat} {p L : Int} {a : Option Addr} {cap : Nat} {S : List P.Star} (h : Job w B p L a cap S) (hb : Below w.heap.size w w') : Job w' B p L a cap S :=
  ⟨cell_on hb h.x1, cell_on hb h.x2, cell_on hb h.x3, h.st.below hb⟩
theorem Job.lt {w : World} {B : Nat} {p L : Int} {a : Option Addr} {cap : Nat} {S : List P.Star} (h : Job w B p L a cap S) : B < w.heap.size := World.block_lt_of_cell? _ _ h.x1
theorem bel_drewN {B : Nat} {w w' : World} (h : Below B w w') (n : Nat) : Below B w (w'.drewN n) := h.trans (Drew.below ⟨n, rfl⟩ B)
/-- A job, as a value. -/
abbrev jobV (p L : Int) (a : Option Addr) (n cap : Nat) : Value := .agg #[.int .i64 p, .int .i64 L, .slice a n cap]
end Go.Proofs.Ytpkffjcmoghaaaa
/- Walks of the reference's functions: Count, Fits, Has, IsWindow. -/
namespace Go.Proofs.Ytpkffjcmoghaaaa
open Go.RowKit
theorem take_succ_star (S : List P.Star) (i : Nat) (h : i < S.length) : S.take (i + 1) = S.take i ++ [P.star S i] := by
  rw [List.take_succ_eq_append_getElem h]; simp [P.star, h]
theorem cnt_take (S : List P.Star) (f t : Int) (j : Nat) (h : j < S.length) : P.cnt (S.take (j + 1)) f t = P.cnt (S.take j) f t + if f ≤ (P.star S j).1 ∧ (P.star S j).2.1 ≤ t then 1 else 0 := by
  rw [take_succ_star S j h]; unfold P.cnt; rw [List.countP_append]; simp
theorem cnt_le (S : List P.Star) (f t : Int) : P.cnt S f t ≤ S.length := List.countP_le_length
set_option maxHeartbeats 400000 in
theorem count_any (a : Option Addr) (cap : Nat) (S : List P.Star) (f t : Int) (w : World) (hl : S.length ≤ 1000000) (ha : Stars w a S) :
    Calls Try.prog 47 #[.slice a S.length cap, .int .i64 f, .int .i64 t] w fun e w' => e = .returned (.int .i64 (P.cnt S f t : Nat)) ∧ w = w' := by
  have HA := Lib.hid ha; clear ha
  go_enter Try.func47, Try.ntmps47
  go_wp2
  go_loop [7, 8] (fun n i => ∃ j : Nat, j ≤ S.length ∧ i = .int .i64 j ∧ n = .int .i64 (P.cnt (S.take j) f t : Nat)) (fun _ i => S.length - (intOf i).toNat)
  case atStart => exact ⟨0, by omega, rfl, rfl⟩
  case round =>
    obtain ⟨j, hj, rfl, rfl⟩ := hrel
    by_cases hlt : j < S.length
    · obtain ⟨b, off, rfl, h1, h2, -⟩ := HA.out j hlt
      have HC := Lib.hid (cnt_take S f t j hlt)
      have hb : P.cnt (S.take j) f t ≤ 1000000 := Nat.le_trans (cnt_le _ _ _) (by rw [List.length_take]; omega)
      by_cases c1 : f ≤ (P.star S j).1
      · by_cases c2 : (P.star S j).2.1 ≤ t
        · go_wp2
          go_round
          case rel => exact ⟨j + 1, by omega, by go_num, by rw [HC.out, if_pos ⟨c1, c2⟩]; go_num⟩
          case measure => simp [intOf]; omega
        · go_wp2
          go_round
          case rel => exact ⟨j + 1, by omega, by go_num, by rw [HC.out, if_neg (fun h => c2 h.2)]; go_num⟩
          case measure => simp [intOf]; omega
      · go_wp2
        go_round
        case rel => exact ⟨j + 1, by omega, by go_num, by rw [HC.out, if_neg (fun h => c1 h.1)]; go_num⟩
        case measure => simp [intOf]; omega
    · go_wp2
      go_ret
      exact ⟨ret_int (by rw [List.take_of_length_le (by omega)]), rfl⟩
/-! ### Fits -/
/-- The windows from a on, up to b. -/
def winOk (S : List P.Star) (p : Int) (a b : Nat) : Bool := decide ((P.cnt S a b : Int) ≤ p * ((b : Int) - a + 1))
def rowOk (S : List P.Star) (p : Int) (a n : Nat) : Bool := (List.range n).all fun b => decide (a ≤ b → (P.cnt S a b : Int) ≤ p * ((b : Int) - a + 1))
def fitsTo (S : List P.Star) (p L : Int) (n : Nat) : Bool := (List.range n).all fun a => rowOk S p a L.toNat
theorem fitsTo_eq (S : List P.Star) (p L : Int) : fitsTo S p L L.toNat = P.fitsB S p L := rfl
theorem rowOk_start (S : List P.Star) (p : Int) (a : Nat) : rowOk S p a a = true := by
  unfold rowOk; rw [List.all_eq_true]; intro b hb; rw [List.mem_range] at hb; simp; omega
theorem rowOk_succ {S : List P.Star} {p : Int} {a n : Nat} (h : rowOk S p a n = true) (hw : (P.cnt S a n : Int) ≤ p * ((n : Int) - a + 1)) : rowOk S p a (n + 1) = true := by
  unfold rowOk at *; rw [List.range_succ, List.all_append, h]; simp; exact .inr hw
theorem fitsTo_succ {S : List P.Star} {p L : Int} {a : Nat} (h : fitsTo S p L a = true) (hr : rowOk S p a L.toNat = true) : fitsTo S p L (a + 1) = true := by
  unfold fitsTo at *; rw [List.range_succ, List.all_append, h]; simpa using hr
theorem fits_no {S : List P.Star} {p L : Int} {a b : Nat} (hab : a ≤ b) (hb : (b : Int) < L) (h : p * ((b : Int) - a + 1) < (P.cnt S a b : Int)) : P.fitsB S p L = false := by
  rw [← Bool.not_eq_true]
  intro hf
  have := P.fitsB_iff.1 hf a b (by omega) (by omega) hb
  omega
theorem mul_bd20 {p d : Int} (h0 : 0 ≤ p) (h1 : p ≤ 1000000) (d0 : 1 ≤ d) (d1 : d ≤ 20) : 0 ≤ p * d ∧ p * d ≤ 20000000 := by
  have a1 : 0 ≤ p * d := Int.mul_nonneg h0 (by omega)
  have a2 : p * d ≤ 1000000 * d := Int.mul_le_mul_of_nonneg_right h1 (by omega)
  omega
set_option maxHeartbeats 1000000 in
theorem fits_any (a : Option Addr) (cap : Nat) (S : List P.Star) (p L : Int) (w : World) (hl : S.length ≤ 1000000) (hp0 : 0 ≤ p) (hp : p ≤ 1000000) (hL : L ≤ 20) (ha : Stars w a S) :
    Calls Try.prog 59 #[.slice a S.length cap, .int .i64 p, .int .i64 L] w fun e w' => e = .returned (.bool (P.fitsB S p L)) ∧ w = w' := by
  have HC := Lib.hid (fun f t => count_any a cap S f t w hl ha); clear ha
  go_enter Try.func59, Try.ntmps59
  go_wp2
  go_loop [7, 8] (fun i _ => ∃ j : Nat, (j : Int) ≤ max L 0 ∧ i = .int .i64 j ∧ Hid (fitsTo S p L j = true)) (fun i _ => L.toNat - (intOf i).toNat)
  case atStart => exact ⟨0, by omega, rfl, Lib.hid rfl⟩
  case round =>
    obtain ⟨j, hj, rfl, HF⟩ := hrel
    by_cases hlt : (j : Int) < L
    · go_wp2
      go_loop [8] (fun i => ∃ k : Nat, j ≤ k ∧ (k : Int) ≤ L ∧ i = .int .i64 k ∧ Hid (rowOk S p j k = true)) (fun i => L.toNat - (intOf i).toNat)
      case atStart => exact ⟨j, Nat.le_refl _, by omega, rfl, Lib.hid (rowOk_start S p j)⟩
      case round =>
        obtain ⟨k, hjk, hk, rfl, HR⟩ := hrel
        by_cases hlt2 : (k : Int) < L
        · have hcb := cnt_le S j k
          have hm := mul_bd20 hp0 hp (show 1 ≤ (k : Int) - j + 1 by omega) (by omega)
          obtain ⟨m1, m2⟩ := hm
          by_cases hw : p * ((k : Int) - j + 1) < (P.cnt S j k : Int)
          · have HN := Lib.hid (fits_no (L := L) hjk hlt2 hw)
            go_wp2_with fail
            refine (HC.out j k).mono ?_
            rintro e w' ⟨rfl, rfl⟩
            go_wp2_with fail
            go_ret
            exact ⟨ret_bool (by rw [HN.out]), rfl⟩
          · have HS := Lib.hid (rowOk_succ HR.out (by omega))
            go_wp2_with fail
            refine (HC.out j k).mono ?_
            rintro e w' ⟨rfl, rfl⟩
            go_wp2_with fail
            go_round
            case rel => exact ⟨k + 1, by omega, by omega, by go_num, HS⟩
            case measure => simp [intOf]; omega
        · have hkL : k = L.toNat := by omega
          subst hkL
          have HS := Lib.hid (fitsTo_succ HF.out HR.out)
          go_wp2_with fail
          go_round
          case rel => exact ⟨j + 1, by omega, by go_num, HS⟩
          case measure => simp [intOf]; omega
    · go_wp2_with fail
      go_ret
      refine ⟨ret_bool ?_, rfl⟩
      have := HF.out
      rw [show j = L.toNat by omega, fitsTo_eq] at this
      rw [this]
set_option maxRecDepth 100000 in
set_option maxHeartbeats 400000 in
theorem has_any (a : Option Addr) (cap : Nat) (S : List P.Star) (p L : Int) (w : World) (hl : S.length ≤ 1000000) (hp0 : 0 ≤ p) (hp : p ≤ 1000000) (hL : L ≤ 20) (ha : Stars w a S) :
    Calls Try.prog 33 #[jobV p L a S.length cap] w fun e w' => e = .returned (.bool (P.fitsB S p L)) ∧ Below w.heap.size w w' := by
  have hb0 := Below.new w (.cells #[.int .i64 p, .int .i64 L, .slice a S.length cap] 24)
  have HC := Lib.hid (fits_any a cap S p L (w.alloc (.cells #[.int .i64 p, .int .i64 L, .slice a S.length cap] 24)) hl hp0 hp hL (ha.below hb0))
  have HB := Lib.hid hb0
  clear ha hb0
  go_enter Try.func33, Try.ntmps33
  go_wp2_with fail
  refine HC.out.mono ?_
  rintro e w1 ⟨rfl, rfl⟩
  go_wp2_with fail
  go_ret
  exact ⟨rfl, HB.out⟩
set_option maxRecDepth 100000 in
set_option maxHeartbeats 400000 in
theorem isWindow_any (a : Option Addr) (n cap : Nat) (p L x y : Int) (w : World) :
    Calls Try.prog 63 #[jobV p L a n cap, .int .i64 x, .int .i64 y] w fun e w' => e = .returned (.bool (decide (0 ≤ x ∧ x ≤ y ∧ y < L))) ∧ Below w.heap.size w w' := by
  have HB := Lib.hid (Below.new w (.cells #[.int .i64 p, .int .i64 L, .slice a n cap] 24))
  by_cases h1 : 0 ≤ x
  · by_cases h2 : x ≤ y
    · by_cases h3 : y < L
      · go_enter Try.func63, Try.ntmps63
        go_wp2_with fail
        go_ret
        exact ⟨ret_bool (by rw [decide_eq_true ⟨h1, h2, h3⟩]), HB.out⟩
      · go_enter Try.func63, Try.ntmps63
        go_wp2_with fail
        go_ret
        exact ⟨ret_bool (by simp; omega), HB.out⟩
    · go_enter Try.func63, Try.ntmps63
      go_wp2_with fail
      go_ret
      exact ⟨ret_bool (by simp; omega), HB.out⟩
  · go_enter Try.func63, Try.ntmps63
    go_wp2_with fail
    go_ret
    exact ⟨ret_bool (by simp; omega), HB.out⟩
end Go.Proofs.Ytpkffjcmoghaaaa
/- Walks of the reference's functions: CheckJob, PlanError, Starred, CheckWindow, Fewest. -/
namespace Go.Proofs.Ytpkffjcmoghaaaa
open Go.RowKit
theorem all_take_star {S : List P.Star} {q : P.Star → Bool} {j : Nat} (h : j < S.length) (h1 : (S.take j).all q = true) (h2 : q (P.star S j) = true) : (S.take (j + 1)).all q = true := by
  rw [take_succ_star S j h, List.all_append]; simp [h1, h2]
theorem all_false_star {S : List P.Star} {q : P.Star → Bool} {j : Nat} (h : j < S.length) (h2 : q (P.star S j) = false) : S.all q = false := by
  rw [List.all_eq_false]; exact ⟨P.star S j, P.star_mem h, by simp [h2]⟩
theorem job_bad {p L : Int} {S : List P.Star} {j : Nat} (hj : j < S.length) (h1 : 1 ≤ p) (h2 : p ≤ 5) (h3 : 1 ≤ L) (h4 : L ≤ 20) (h16 : S.length ≤ 16) (h : P.okB L (P.star S j) = false) : P.checkJob p L S = 3 := by
  unfold P.checkJob; rw [if_neg (by omega), if_neg (by omega), all_false_star hj h]; rfl
theorem job_good {p L : Int} {S : List P.Star} (h1 : 1 ≤ p) (h2 : p ≤ 5) (h3 : 1 ≤ L) (h4 : L ≤ 20) (h16 : S.length ≤ 16) (h : S.all (P.okB L) = true) : P.checkJob p L S = 0 := by
  unfold P.checkJob; rw [if_neg (by omega), if_neg (by omega), h]; rfl
theorem okB_false {L : Int} {s : P.Star} (h : P.okB L s = false) : s.1 < 0 ∨ s.2.1 < s.1 ∨ L ≤ s.2.1 ∨ s.2.2 < 1 ∨ 100 < s.2.2 := by
  unfold P.okB at h; rw [decide_eq_false_iff_not] at h; omega
set_option maxRecDepth 100000 in
set_option maxHeartbeats 2000000 in
theorem refCheckJob_any (a : Option Addr) (cap : Nat) (p L : Int) (S : List P.Star) (w : World) (hl : S.length ≤ 1000000) (ha : Stars w a S) :
    Calls Try.prog 20 #[jobV p L a S.length cap] w fun e w' => e = .returned (.int .i64 (P.checkJob p L S)) ∧ Below w.heap.size w w' := by
  have hb0 := Below.new w (.cells #[.int .i64 p, .int .i64 L, .slice a S.length cap] 24)
  have HJ0 := Lib.hid (Job.new ha p L cap 24)
  have HB0 := Lib.hid hb0
  clear ha hb0
  by_cases h1 : p < 1 ∨ 5 < p ∨ L < 1 ∨ 20 < L
  · have HF : Hid (P.checkJob p L S = 3) := by unfold P.checkJob; rw [if_pos h1]; trivial
    rcases h1 with h1 | h1 | h1 | h1
    · go_enter Try.func20, Try.ntmps20
      go_wp2_with fail
      go_ret
      exact ⟨ret_int (by rw [HF.out]), HB0.out⟩
    · have h1' : ¬ p < 1 := by omega
      go_enter Try.func20, Try.ntmps20
      go_wp2_with fail
      go_ret
      exact ⟨ret_int (by rw [HF.out]), HB0.out⟩
    · by_cases c1 : p < 1
      · go_enter Try.func20, Try.ntmps20
        go_wp2_with fail
        go_ret
        exact ⟨ret_int (by rw [HF.out]), HB0.out⟩
      · by_cases c2 : 5 < p
        · go_enter Try.func20, Try.ntmps20
          go_wp2_with fail
          go_ret
          exact ⟨ret_int (by rw [HF.out]), HB0.out⟩
        · go_enter Try.func20, Try.ntmps20
          go_wp2_with fail
          go_ret
          exact ⟨ret_int (by rw [HF.out]), HB0.out⟩
    · have c3 : ¬ L < 1 := by omega
      by_cases c1 : p < 1
      · go_enter Try.func20, Try.ntmps20
        go_wp2_with fail
        go_ret
        exact ⟨ret_int (by rw [HF.out]), HB0.out⟩
      · by_cases c2 : 5 < p
        · go_enter Try.func20, Try.ntmps20
          go_wp2_with fail
          go_ret
          exact ⟨ret_int (by rw [HF.out]), HB0.out⟩
        · go_enter Try.func20, Try.ntmps20
          go_wp2_with fail
          go_ret
          exact ⟨ret_int (by rw [HF.out]), HB0.out⟩
  have g1 : 1 ≤ p := by omega
  have g2 : p ≤ 5 := by omega
  have g3 : 1 ≤ L := by omega
  have g4 : L ≤ 20 := by omega
  clear h1
  by_cases h16 : 16 < S.length
  · have HF : Hid (P.checkJob p L S = 6) := by unfold P.checkJob; rw [if_neg (by omega), if_pos h16]; trivial
    go_enter Try.func20, Try.ntmps20
    go_wp2_with fail
    go_ret
    exact ⟨ret_int (by rw [HF.out]), HB0.out⟩
  have h16' : S.length ≤ 16 := by omega
  clear h16
  go_enter Try.func20, Try.ntmps20
  go_wp2_with fail
  go_loopw [3, 4] (fun i _ wr => ∃ j : Nat, j ≤ S.length ∧ i = .int .i64 j ∧ Hid ((S.take j).all (P.okB L) = true) ∧ Hid (Job wr w.heap.size p L a cap S) ∧ Hid (Below w.heap.size w wr)) (fun i _ _ => S.length - (intOf i).toNat)
  case atStart => exact ⟨0, by omega, rfl, Lib.hid (by simp), HJ0, HB0⟩
  case round =>
    obtain ⟨j, hj, rfl, HA, HJ, HB⟩ := hrel
    have x2 := HJ.out.x2
    have x3 := HJ.out.x3
    have hlt0 := HJ.out.lt
    by_cases hlt : j < S.length
    · obtain ⟨b, off, rfl, s1, s2, s3⟩ := HJ.out.st j hlt
      have HBn := Lib.hid (HB.out.trans ((Below.new wr (.cells #[.int .i64 (P.star S j).1, .int .i64 (P.star S j).2.1, .int .i64 (P.star S j).2.2] 59)).mono HB.out.size))
      have HJn := Lib.hid (HJ.out.on (Below.new wr (.cells #[.int .i64 (P.star S j).1, .int .i64 (P.star S j).2.1, .int .i64 (P.star S j).2.2] 59)))
      cases hk : P.okB L (P.star S j) with
      | true =>
        have HA2 := Lib.hid (all_take_star hlt HA.out hk)
        unfold P.okB at hk
        rw [decide_eq_true_eq] at hk
        obtain ⟨k1, k2, k3, k4, k5⟩ := hk
        go_wp2_with fail
        go_roundw
        case rel => exact ⟨j + 1, by omega, by go_num, HA2, HJn, HBn⟩
        case measure => simp [intOf]; omega
      | false =>
        have HF := Lib.hid (job_bad hlt g1 g2 g3 g4 h16' hk)
        have hd := okB_false hk
        clear hk
        have HD := Lib.hid hd
        clear hd
        by_cases c1 : (P.star S j).1 < 0
        · go_wp2_with fail
          go_ret
          exact ⟨ret_int (by rw [HF.out]), HBn.out⟩
        by_cases c2 : (P.star S j).2.1 < (P.star S j).1
        · go_wp2_with fail
          go_ret
          exact ⟨ret_int (by rw [HF.out]), HBn.out⟩
        by_cases c3 : L ≤ (P.star S j).2.1
        · go_wp2_with fail
          go_ret
          exact ⟨ret_int (by rw [HF.out]), HBn.out⟩
        by_cases c4 : (P.star S j).2.2 < 1
        · go_wp2_with fail
          go_ret
          exact ⟨ret_int (by rw [HF.out]), HBn.out⟩
        by_cases c5 : 100 < (P.star S j).2.2
        · go_wp2_with fail
          go_ret
          exact ⟨ret_int (by rw [HF.out]), HBn.out⟩
        · have := HD.out; omega
    · have HF := Lib.hid (job_good g1 g2 g3 g4 h16' (by have := HA.out; rwa [List.take_of_length_le (by omega)] at this))
      go_wp2_with fail
      go_ret
      exact ⟨ret_int (by rw [HF.out]), HB.out⟩
end Go.Proofs.Ytpkffjcmoghaaaa
/- Walks of the reference's functions: PlanError, Starred, CheckWindow, Fewest. -/
namespace Go.Proofs.Ytpkffjcmoghaaaa
open Go.RowKit
theorem planE_bad {p L : Int} {S : List P.Star} (h : P.checkJob p L S ≠ 0) : P.planE p L S = ([], P.checkJob p L S) := by unfold P.planE; rw [if_pos h]
theorem planE_no {p L : Int} {S : List P.Star} (h : P.checkJob p L S = 0) (hf : P.fitsB S p L = false) : P.planE p L S = ([], 13) := by unfold P.planE; rw [if_neg (not_not_intro h), hf]; rfl
theorem planE_yes {p L : Int} {S : List P.Star} (h : P.checkJob p L S = 0) (hf : P.fitsB S p L = true) : P.planE p L S = (P.plan S p L, 0) := by unfold P.planE; rw [if_neg (not_not_intro h), hf]; rfl
theorem ne_bool {x : Int} (h : x ≠ 0) : (x != 0) = true := by rw [bne_iff_ne]; exact h
set_option maxRecDepth 100000 in
set_option maxHeartbeats 1000000 in
theorem planError_any (a : Option Addr) (cap : Nat) (p L : Int) (S : List P.Star) (w : World) (hl : S.length ≤ 1000000) (ha : Stars w a S) :
    Calls Try.prog 58 #[jobV p L a S.length cap] w fun e w' => e = .returned (.int .i64 (P.planE p L S).2) ∧ Below w.heap.size w w' := by
  have hb0 := Below.new w (.cells #[.int .i64 p, .int .i64 L, .slice a S.length cap] 24)
  have HJ0 := Lib.hid (Job.new ha p L cap 24)
  have HB0 := Lib.hid hb0
  have HC := Lib.hid (fun W hW => refCheckJob_any a cap p L S W hl hW)
  clear ha hb0
  by_cases hc : P.checkJob p L S = 0
  · have hv := P.checkJob_iff.1 hc
    have HH := Lib.hid (fun W hW => has_any a cap S p L W hl (by have := hv.p1; omega) (by have := hv.p5; omega) hv.l20 hW)
    rw [hc] at HC
    cases hf : P.fitsB S p L with
    | true =>
      have HF : Hid ((P.planE p L S).2 = 0) := Lib.hid (by rw [planE_yes hc hf])
      rw [hf] at HH
      clear hf hc hv
      go_enter Try.func58, Try.ntmps58
      go_wp2_with fail
      refine (HC.out _ HJ0.out.st).mono ?_
      rintro e w1 ⟨rfl, hb1⟩
      have HB1 := Lib.hid (HB0.out.trans (hb1.mono HB0.out.size))
      have HJ1 := Lib.hid (HJ0.out.on hb1)
      clear hb1
      have x1 := HJ1.out.x1
      have x2 := HJ1.out.x2
      have x3 := HJ1.out.x3
      go_wp2_with fail
      refine (HH.out _ HJ1.out.st).mono ?_
      rintro e w2 ⟨rfl, hb2⟩
      go_wp2_with fail
      go_ret
      exact ⟨ret_int (by rw [HF.out]), HB1.out.trans (hb2.mono HB1.out.size)⟩
    | false =>
      have HF : Hid ((P.planE p L S).2 = 13) := Lib.hid (by rw [planE_no hc hf])
      rw [hf] at HH
      clear hf hc hv
      go_enter Try.func58, Try.ntmps58
      go_wp2_with fail
      refine (HC.out _ HJ0.out.st).mono ?_
      rintro e w1 ⟨rfl, hb1⟩
      have HB1 := Lib.hid (HB0.out.trans (hb1.mono HB0.out.size))
      have HJ1 := Lib.hid (HJ0.out.on hb1)
      clear hb1
      have x1 := HJ1.out.x1
      have x2 := HJ1.out.x2
      have x3 := HJ1.out.x3
      go_wp2_with fail
      refine (HH.out _ HJ1.out.st).mono ?_
      rintro e w2 ⟨rfl, hb2⟩
      go_wp2_with fail
      go_ret
      exact ⟨ret_int (by rw [HF.out]), HB1.out.trans (hb2.mono HB1.out.size)⟩
  · have HF : Hid ((P.planE p L S).2 = P.checkJob p L S) := Lib.hid (by rw [planE_bad hc])
    have hc' := ne_bool hc
    clear hc
    go_enter Try.func58, Try.ntmps58
    go_wp2_with fail
    refine (HC.out _ HJ0.out.st).mono ?_
    rintro e w1 ⟨rfl, hb1⟩
    have HB1 := Lib.hid (HB0.out.trans (hb1.mono HB0.out.size))
    have HJ1 := Lib.hid (HJ0.out.on hb1)
    clear hb1
    have x1 := HJ1.out.x1
    have x2 := HJ1.out.x2
    have x3 := HJ1.out.x3
    go_wp2_with fail
    refine (HC.out _ HJ1.out.st).mono ?_
    rintro e w2 ⟨rfl, hb2⟩
    go_wp2_with fail
    go_ret
    exact ⟨ret_int (by rw [HF.out]), HB1.out.trans (hb2.mono HB1.out.size)⟩
set_option maxRecDepth 100000 in
set_option maxHeartbeats 1000000 in
theorem starred_any (a : Option Addr) (cap : Nat) (p L : Int) (S : List P.Star) (i : Int) (w : World) (hl : S.length ≤ 1000000) (ha : Stars w a S) :
    Calls Try.prog 61 #[jobV p L a S.length cap, .int .i64 i] w fun e w' => e = .returned (.int .i64 (P.starred p L S i)) ∧ Below w.heap.size w w' := by
  have hb0 := Below.new w (.cells #[.int .i64 p, .int .i64 L, .slice a S.length cap] 24)
  have HJ0 := Lib.hid (Job.new ha p L cap 24)
  have HB0 := Lib.hid hb0
  have HC := Lib.hid (fun W hW => refCheckJob_any a cap p L S W hl hW)
  clear ha hb0
  by_cases hc : P.checkJob p L S = 0
  · rw [hc] at HC
    have HF : Hid (P.starred p L S i = if i < 0 ∨ S.length ≤ i then 2 else 0) := Lib.hid (by unfold P.starred; rw [if_neg (not_not_intro hc)])
    clear hc
    by_cases h0 : i < 0
    · go_enter Try.func61, Try.ntmps61
      go_wp2_with fail
      refine (HC.out _ HJ0.out.st).mono ?_
      rintro e w1 ⟨rfl, hb1⟩
      have HB1 := Lib.hid (HB0.out.trans (hb1.mono HB0.out.size))
      clear hb1
      go_wp2_with fail
      go_ret
      exact ⟨ret_int (by rw [HF.out, if_pos (.inl h0)]), HB1.out⟩
    · have h0' : 0 ≤ i := by omega
      by_cases h1 : (S.length : Int) ≤ i
      all_goals
        go_enter Try.func61, Try.ntmps61
        go_wp2_with fail
        refine (HC.out _ HJ0.out.st).mono ?_
        rintro e w1 ⟨rfl, hb1⟩
        have HB1 := Lib.hid (HB0.out.trans (hb1.mono HB0.out.size))
        have HJ1 := Lib.hid (HJ0.out.on hb1)
        clear hb1
        have x3 := HJ1.out.x3
        go_wp2_with fail
        go_ret
        exact ⟨ret_int (by rw [HF.out]; split <;> (first | rfl | (exfalso; omega))), HB1.out⟩
  · have HF : Hid (P.starred p L S i = P.checkJob p L S) := Lib.hid (by unfold P.starred; rw [if_pos hc])
    have hc' := ne_bool hc
    clear hc
    go_enter Try.func61, Try.ntmps61
    go_wp2_with fail
    refine (HC.out _ HJ0.out.st).mono ?_
    rintro e w1 ⟨rfl, hb1⟩
    have HB1 := Lib.hid (HB0.out.trans (hb1.mono HB0.out.size))
    have HJ1 := Lib.hid (HJ0.out.on hb1)
    clear hb1
    have x1 := HJ1.out.x1
    have x2 := HJ1.out.x2
    have x3 := HJ1.out.x3
    go_wp2_with fail
    refine (HC.out _ HJ1.out.st).mono ?_
    rintro e w2 ⟨rfl, hb2⟩
    go_wp2_with fail
    go_ret
    exact ⟨ret_int (by rw [HF.out]), HB1.out.trans (hb2.mono HB1.out.size)⟩
set_option maxRecDepth 100000 in
set_option maxHeartbeats 1000000 in
theorem refCheckWindow_any (a : Option Addr) (cap : Nat) (p L : Int) (S : List P.Star) (x y : Int) (w : World) (hl : S.length ≤ 1000000) (ha : Stars w a S) :
    Calls Try.prog 31 #[jobV p L a S.length cap, .int .i64 x, .int .i64 y] w fun e w' => e = .returned (.tuple #[.int .i64 (P.windowE p L S x y).1, .int .i64 (P.windowE p L S x y).2]) ∧ Below w.heap.size w w' := by
  have hb0 := Below.new w (.cells #[.int .i64 p, .int .i64 L, .slice a S.length cap] 24)
  have HJ0 := Lib.hid (Job.new ha p L cap 24)
  have HB0 := Lib.hid hb0
  have HC := Lib.hid (fun W hW => refCheckJob_any a cap p L S W hl hW)
  have HN := Lib.hid (fun W hW => count_any a cap S x y W hl hW)
  have HW := Lib.hid (fun W => isWindow_any a S.length cap p L x y W)
  clear ha hb0
  by_cases hc : P.checkJob p L S = 0
  · rw [hc] at HC
    have hv := P.checkJob_iff.1 hc
    have HF : Hid (P.windowE p L S x y = if ¬ (0 ≤ x ∧ x ≤ y ∧ y < L) then (0, 2) else if (P.cnt S x y : Int) ≤ p * (y - x + 1) then (0, 14) else ((P.cnt S x y : Int), 0)) := Lib.hid (by unfold P.windowE; rw [if_neg (not_not_intro hc)])
    have HV := Lib.hid hv
    clear hc hv
    by_cases h0 : 0 ≤ x ∧ x ≤ y ∧ y < L
    · rw [decide_eq_true h0] at HW
      rw [if_neg (not_not_intro h0)] at HF
      have hcb := cnt_le S x y
      have h20 := HV.out.l20
      have hm := mul_bd20 (p := p) (by have := HV.out.p1; omega) (by have := HV.out.p5; omega) (show 1 ≤ y - x + 1 by omega) (by omega)
      obtain ⟨m1, m2⟩ := hm
      obtain ⟨z1, z2, z3⟩ := h0
      by_cases hk : (P.cnt S x y : Int) ≤ p * (y - x + 1)
      all_goals
        go_enter Try.func31, Try.ntmps31
        go_wp2_with fail
        refine (HC.out _ HJ0.out.st).mono ?_
        rintro e w1 ⟨rfl, hb1⟩
        have HB1 := Lib.hid (HB0.out.trans (hb1.mono HB0.out.size))
        have HJ1 := Lib.hid (HJ0.out.on hb1)
        clear hb1
        have x1 := HJ1.out.x1
        have x2 := HJ1.out.x2
        have x3 := HJ1.out.x3
        go_wp2_with fail
        refine (HW.out _).mono ?_
        rintro e w2 ⟨rfl, hb2⟩
        have HB2 := Lib.hid (HB1.out.trans (hb2.mono HB1.out.size))
        have HJ2 := Lib.hid (HJ1.out.on hb2)
        clear hb2 x1 x2 x3
        have x1 := HJ2.out.x1
        have x3 := HJ2.out.x3
        go_wp2_with fail
        refine (HN.out _ HJ2.out.st).mono ?_
        rintro e w3 ⟨rfl, rfl⟩
        go_wp2_with fail
        go_ret2
        exact ⟨by rw [HF.out]; first | (rw [if_pos hk]; done) | (rw [if_neg (by omega)]; done) | (rw [if_pos hk]; rfl) | (rw [if_neg (by omega)]; rfl), HB2.out⟩
    · rw [decide_eq_false h0] at HW
      rw [if_pos h0] at HF
      clear h0
      go_enter Try.func31, Try.ntmps31
      go_wp2_with fail
      refine (HC.out _ HJ0.out.st).mono ?_
      rintro e w1 ⟨rfl, hb1⟩
      have HB1 := Lib.hid (HB0.out.trans (hb1.mono HB0.out.size))
      have HJ1 := Lib.hid (HJ0.out.on hb1)
      clear hb1
      have x1 := HJ1.out.x1
      have x2 := HJ1.out.x2
      have x3 := HJ1.out.x3
      go_wp2_with fail
      refine (HW.out _).mono ?_
      rintro e w2 ⟨rfl, hb2⟩
      go_wp2_with fail
      go_ret2
      exact ⟨by rw [HF.out]; first | done | rfl, HB1.out.trans (hb2.mono HB1.out.size)⟩
  · have HF : Hid (P.windowE p L S x y = (0, P.checkJob p L S)) := Lib.hid (by unfold P.windowE; rw [if_pos hc])
    have hc' := ne_bool hc
    clear hc
    go_enter Try.func31, Try.ntmps31
    go_wp2_with fail
    refine (HC.out _ HJ0.out.st).mono ?_
    rintro e w1 ⟨rfl, hb1⟩
    have HB1 := Lib.hid (HB0.out.trans (hb1.mono HB0.out.size))
    have HJ1 := Lib.hid (HJ0.out.on hb1)
    clear hb1
    have x1 := HJ1.out.x1
    have x2 := HJ1.out.x2
    have x3 := HJ1.out.x3
    go_wp2_with fail
    refine (HC.out _ HJ1.out.st).mono ?_
    rintro e w2 ⟨rfl, hb2⟩
    go_wp2_with fail
    go_ret2
    exact ⟨by rw [HF.out]; first | done | rfl, HB1.out.trans (hb2.mono HB1.out.size)⟩
end Go.Proofs.Ytpkffjcmoghaaaa
/- Walks of the reference's functions: Fewest, CheckPlan. -/
namespace Go.Proofs.Ytpkffjcmoghaaaa
open Go.RowKit
theorem fewFrom_stop {S : List P.Star} {L : Int} {k m : Nat} (h : P.fitsB S k L = true) : P.fewFrom S L k m = k := by
  cases m with
  | zero => rfl
  | succ m => unfold P.fewFrom; rw [if_pos h]
theorem fewFrom_go {S : List P.Star} {L : Int} {k : Nat} (h : P.fitsB S k L = false) (hk : k < S.length) : P.fewFrom S L k (S.length - k) = P.fewFrom S L (k + 1) (S.length - (k + 1)) := by
  rw [show S.length - k = (S.length - (k + 1)) + 1 by omega]
  conv => lhs; unfold P.fewFrom
  rw [h]; rfl
theorem fitsB_many {S : List P.Star} {L : Int} {k : Nat} (h : P.fitsB S k L = false) (hk : k ≤ S.length) : k < S.length := by
  by_cases e : k = S.length
  · subst e; rw [P.fitsB_iff.2 (P.fits_many S L)] at h; cases h
  · omega
set_option maxRecDepth 100000 in
set_option maxHeartbeats 1000000 in
theorem refFewest_any (a : Option Addr) (cap : Nat) (p L : Int) (S : List P.Star) (w : World) (hl : S.length ≤ 1000000) (ha : Stars w a S) :
    Calls Try.prog 26 #[jobV p L a S.length cap] w fun e w' => e = .returned (.tuple #[.int .i64 (P.fewestE p L S).1, .int .i64 (P.fewestE p L S).2]) ∧ Below w.heap.size w w' := by
  have hb0 := Below.new w (.cells #[.int .i64 p, .int .i64 L, .slice a S.length cap] 24)
  have HJ0 := Lib.hid (Job.new ha p L cap 24)
  have HB0 := Lib.hid hb0
  have HC := Lib.hid (fun W hW => refCheckJob_any a cap p L S W hl hW)
  clear ha hb0
  by_cases hc : P.checkJob p L S = 0
  · rw [hc] at HC
    have hv := P.checkJob_iff.1 hc
    have HF : Hid (P.fewestE p L S = ((P.fewest S L : Int), 0)) := Lib.hid (by unfold P.fewestE; rw [if_neg (not_not_intro hc)])
    have hlen := hv.len
    have HFt := Lib.hid (fun (k : Nat) (hk : k ≤ S.length) W hW => fits_any a cap S (k : Int) L W hl (by omega) (by omega) hv.l20 hW)
    clear hc hv
    go_enter Try.func26, Try.ntmps26
    go_wp2_with fail
    refine (HC.out _ HJ0.out.st).mono ?_
    rintro e w1 ⟨rfl, hb1⟩
    have HB1 := Lib.hid (HB0.out.trans (hb1.mono HB0.out.size))
    have HJ1 := Lib.hid (HJ0.out.on hb1)
    clear hb1
    have x2 := HJ1.out.x2
    have x3 := HJ1.out.x3
    go_wp2_with fail
    go_loop [4] (fun n => ∃ k : Nat, k ≤ S.length ∧ n = .int .i64 k ∧ Hid (P.fewFrom S L k (S.length - k) = P.fewest S L)) (fun n => S.length - (intOf n).toNat)
    case atStart => exact ⟨0, by omega, rfl, Lib.hid rfl⟩
    case round =>
      obtain ⟨k, hk, rfl, HK⟩ := hrel
      have HFk := HFt.out k hk w1 HJ1.out.st
      cases hf : P.fitsB S k L with
      | true =>
        have HE : Hid (P.fewest S L = k) := Lib.hid (by rw [← HK.out, fewFrom_stop hf])
        rw [hf] at HFk
        clear hf
        go_wp2_with fail
        refine HFk.mono ?_
        rintro e w2 ⟨rfl, rfl⟩
        go_wp2_with fail
        go_ret2
        exact ⟨by rw [HF.out, HE.out]; first | done | rfl, HB1.out⟩
      | false =>
        have hk2 := fitsB_many hf hk
        have HE : Hid (P.fewFrom S L (k + 1) (S.length - (k + 1)) = P.fewest S L) := Lib.hid (by rw [← HK.out, fewFrom_go hf hk2])
        rw [hf] at HFk
        clear hf
        go_wp2_with fail
        refine HFk.mono ?_
        rintro e w2 ⟨rfl, rfl⟩
        go_wp2_with fail
        go_round
        case rel => exact ⟨k + 1, by omega, by go_num, HE⟩
        case measure => simp [intOf]; omega
  · have HF : Hid (P.fewestE p L S = (0, P.checkJob p L S)) := Lib.hid (by unfold P.fewestE; rw [if_pos hc])
    have hc' := ne_bool hc
    clear hc
    go_enter Try.func26, Try.ntmps26
    go_wp2_with fail
    refine (HC.out _ HJ0.out.st).mono ?_
    rintro e w1 ⟨rfl, hb1⟩
    have HB1 := Lib.hid (HB0.out.trans (hb1.mono HB0.out.size))
    have HJ1 := Lib.hid (HJ0.out.on hb1)
    clear hb1
    have x1 := HJ1.out.x1
    have x2 := HJ1.out.x2
    have x3 := HJ1.out.x3
    go_wp2_with fail
    refine (HC.out _ HJ1.out.st).mono ?_
    rintro e w2 ⟨rfl, hb2⟩
    go_wp2_with fail
    go_ret2
    exact ⟨by rw [HF.out]; first | done | rfl, HB1.out.trans (hb2.mono HB1.out.size)⟩
/-! ### CheckPlan -/
def inTo (S : List P.Star) (l : List Int) (n : Nat) : Bool := (List.range n).all fun i => decide ((P.star S i).1 ≤ P.wear l i ∧ P.wear l i ≤ (P.star S i).2.1)
theorem inTo_succ {S : List P.Star} {l : List Int} {n : Nat} (h : inTo S l n = true) (h1 : (P.star S n).1 ≤ P.wear l n) (h2 : P.wear l n ≤ (P.star S n).2.1) : inTo S l (n + 1) = true := by
  unfold inTo at *; rw [List.range_succ, List.all_append, h]; simp [h1, h2]
theorem inB_no {S : List P.Star} {l : List Int} {n : Nat} (hn : n < S.length) (h : ¬ ((P.star S n).1 ≤ P.wear l n ∧ P.wear l n ≤ (P.star S n).2.1)) : P.inB S l = false := by
  unfold P.inB; rw [List.all_eq_false]; exact ⟨n, by simpa using hn, by simpa using h⟩
def fewTo (p : Int) (l : List Int) (n : Nat) : Bool := (List.range n).all fun w => decide ((P.cntEq l w : Int) ≤ p)
theorem fewTo_succ {p : Int} {l : List Int} {n : Nat} (h : fewTo p l n = true) (h1 : (P.cntEq l n : Int) ≤ p) : fewTo p l (n + 1) = true := by
  unfold fewTo at *; rw [List.range_succ, List.all_append, h]; simp [h1]
theorem fewB_no {p L : Int} {l : List Int} {n : Nat} (hn : (n : Int) < L) (h : p < (P.cntEq l n : Int)) : P.fewB p L l = false := by
  unfold P.fewB; rw [List.all_eq_false]; exact ⟨n, by simp; omega, by simpa using h⟩
theorem cntEq_take (l : List Int) (v : Int) (j : Nat) (h : j < l.length) : P.cntEq (l.take (j + 1)) v = P.cntEq (l.take j) v + if nth l j = v then 1 else 0 := by
  rw [take_succ_nth l j h]; unfold P.cntEq; rw [List.countP_append]; simp
theorem cntEq_le (l : List Int) (v : Int) : P.cntEq l v ≤ l.length := List.countP_le_length
theorem checkPlan_bad {p L : Int} {S : List P.Star} {l : List Int} (h : P.checkJob p L S ≠ 0) : P.checkPlan p L S l = P.checkJob p L S := by unfold P.checkPlan; rw [if_pos h]
theorem checkPlan_len {p L : Int} {S : List P.Star} {l : List Int} (h : P.checkJob p L S = 0) (h1 : l.length ≠ S.length) : P.checkPlan p L S l = 15 := by unfold P.checkPlan; rw [if_neg (not_not_intro h), if_pos h1]
theorem checkPlan_in {p L : Int} {S : List P.Star} {l : List Int} (h : P.checkJob p L S = 0) (h1 : l.length = S.length) (h2 : P.inB S l = false) : P.checkPlan p L S l = 20 := by unfold P.checkPlan; rw [if_neg (not_not_intro h), if_neg (not_not_intro h1), if_pos h2]
theorem checkPlan_few {p L : Int} {S : List P.Star} {l : List Int} (h : P.checkJob p L S = 0) (h1 : l.length = S.length) (h2 : P.inB S l = true) (h3 : P.fewB p L l = false) : P.checkPlan p L S l = 10 := by
  unfold P.checkPlan; rw [if_neg (not_not_intro h), if_neg (not_not_intro h1), if_neg (by rw [h2]; simp), if_pos h3]
theorem checkPlan_ok {p L : Int} {S : List P.Star} {l : List Int} (h : P.checkJob p L S = 0) (h1 : l.length = S.length) (h2 : P.inB S l = true) (h3 : P.fewB p L l = true) : P.checkPlan p L S l = 0 := by
  unfold P.checkPlan; rw [if_neg (not_not_intro h), if_neg (not_not_intro h1), if_neg (by rw [h2]; simp), if_neg (by rw [h3]; simp)]
set_option maxRecDepth 100000 in
set_option maxHeartbeats 2000000 in
theorem refCheckPlan_any (a : Option Addr) (cap : Nat) (p L : Int) (S : List P.Star) (b : Option Addr) (cap2 : Nat) (l : List Int) (w : World) (hl : S.length ≤ 1000000) (hl2 : l.length ≤ 1000000) (ha : Stars w a S) (hb : Ints .i64 w b l) :
    Calls Try.prog 22 #[jobV p L a S.length cap, .slice b l.length cap2] w fun e w' => e = .returned (.int .i64 (P.checkPlan p L S l)) ∧ Below w.heap.size w w' := by
  have hb0 := Below.new w (.cells #[.int .i64 p, .int .i64 L, .slice a S.length cap] 24)
  have HJ0 := Lib.hid (Job.new ha p L cap 24)
  have HI0 := Lib.hid (hb.below hb0)
  have HB0 := Lib.hid hb0
  have HC := Lib.hid (fun W hW => refCheckJob_any a cap p L S W hl hW)
  clear ha hb0 hb
  by_cases hc : P.checkJob p L S = 0
  · rw [hc] at HC
    have HV := Lib.hid (P.checkJob_iff.1 hc)
    have HZ := Lib.hid hc
    clear hc
    by_cases hlen : l.length = S.length
    · have hlenI : (l.length : Int) = (S.length : Int) := by omega
      have HL := Lib.hid hlen
      have hne : ((l.length : Int) != (S.length : Int)) = false := by rw [hlenI]; simp
      clear hlenI hlen
      go_enter Try.func22, Try.ntmps22
      go_wp2_with fail
      refine (HC.out _ HJ0.out.st).mono ?_
      rintro e w1 ⟨rfl, hb1⟩
      have HB1 := Lib.hid (HB0.out.trans (hb1.mono HB0.out.size))
      have HJ1 := Lib.hid (HJ0.out.on hb1)
      have HI1 := Lib.hid (HI0.out.below hb1)
      clear hb1
      have x1 := HJ1.out.x1
      have x2 := HJ1.out.x2
      have x3 := HJ1.out.x3
      go_wp2_with fail
      go_loopw [5] (fun i wr => ∃ j : Nat, j ≤ l.length ∧ i = .int .i64 j ∧ Hid (inTo S l j = true) ∧ Hid (Drew w1 wr)) (fun i _ => l.length - (intOf i).toNat)
      case atStart => exact ⟨0, by omega, rfl, Lib.hid rfl, Lib.hid (Drew.refl _)⟩
      case round =>
        obtain ⟨j, hj, rfl, HT, HD⟩ := hrel
        have y1 := (HD.out.cell _).trans HJ1.out.x1
        have y2 := (HD.out.cell _).trans HJ1.out.x2
        have y3 := (HD.out.cell _).trans HJ1.out.x3
        clear x1 x2 x3
        by_cases hlt : j < l.length
        · have hltS : j < S.length := by rw [← HL.out]; exact hlt
          obtain ⟨b1, off1, rfl, c1⟩ := (HI1.out.drew HD.out) j hlt
          obtain ⟨b2, off2, rfl, s1, s2, -⟩ := HJ1.out.st j hltS
          have s1 := (HD.out.cell _).trans s1
          have s2 := (HD.out.cell _).trans s2
          have q1 : (0 : Int) ≤ (j : Int) := by omega
          have q2 : (j : Int) < (l.length : Int) := by omega
          have q3 : (j : Int) < (S.length : Int) := by omega
          by_cases d1 : nth l j < (P.star S j).1
          · have HF := Lib.hid (checkPlan_in HZ.out HL.out (inB_no hltS (fun h => by have : P.wear l j = nth l j := rfl; omega)))
            go_wp2_with fail
            go_quiet (fail)
            go_wp2_with fail
            go_ret
            exact ⟨ret_int (by rw [HF.out]), HB1.out.trans (((HD.out.drewN _).below w1.heap.size).mono HB1.out.size)⟩
          · have d1b : decide (nth l j < (P.star S j).1) = false := decide_eq_false d1
            by_cases d2 : (P.star S j).2.1 < nth l j
            · have HF := Lib.hid (checkPlan_in HZ.out HL.out (inB_no hltS (fun h => by have : P.wear l j = nth l j := rfl; omega)))
              go_wp2_with fail
              go_quiet (fail)
              go_wp2_with fail
              go_ret
              exact ⟨ret_int (by rw [HF.out]), HB1.out.trans (((HD.out.drewN _).below w1.heap.size).mono HB1.out.size)⟩
            · have HT2 := Lib.hid (inTo_succ HT.out (show (P.star S j).1 ≤ P.wear l j by have : P.wear l j = nth l j := rfl; omega) (by have : P.wear l j = nth l j := rfl; omega))
              have d2b : decide ((P.star S j).2.1 < nth l j) = false := decide_eq_false d2
              go_wp2_with fail
              go_quiet (fail)
              go_wp2_with fail
              go_roundw
              case rel => exact ⟨j + 1, by omega, by go_num, HT2, Lib.hid (HD.out.drewN _)⟩
              case measure => simp [intOf]; omega
        · have hjl : j = l.length := by omega
          have HIn : Hid (P.inB S l = true) := Lib.hid (by have := HT.out; rw [hjl, HL.out] at this; exact this)
          subst hjl
          have HJr := Lib.hid (HJ1.out.on (HD.out.below w1.heap.size))
          have HIr := Lib.hid (HI1.out.drew HD.out)
          have HBr := Lib.hid (HB1.out.trans ((HD.out.below w1.heap.size).mono HB1.out.size))
          obtain ⟨wo, rfl⟩ : ∃ wo : World, wo = wr := ⟨_, rfl⟩
          have l20 := HV.out.l20
          have l1 := HV.out.l1
          clear HT HD
          go_wp2_with fail
          go_loop [6, 7, 8] (fun i _ _ => ∃ j : Nat, (j : Int) ≤ L ∧ i = .int .i64 j ∧ Hid (fewTo p l j = true)) (fun i _ _ => L.toNat - (intOf i).toNat)
          case atStart => exact ⟨0, by omega, rfl, Lib.hid rfl⟩
          case round =>
            obtain ⟨j, hj2, rfl, HT⟩ := hrel
            by_cases hlt2 : (j : Int) < L
            · go_wp2_with fail
              go_loop [7, 8] (fun n i => ∃ k : Nat, k ≤ l.length ∧ i = .int .i64 k ∧ n = .int .i64 (P.cntEq (l.take k) j : Nat)) (fun _ i => l.length - (intOf i).toNat)
              case atStart => exact ⟨0, by omega, rfl, rfl⟩
              case round =>
                obtain ⟨k, hk, rfl, rfl⟩ := hrel
                by_cases hlt3 : k < l.length
                · obtain ⟨b1, off1, rfl, c1⟩ := HIr.out k hlt3
                  have HT3 := Lib.hid (cntEq_take l j k hlt3)
                  have hb3 : P.cntEq (l.take k) j ≤ 1000000 := Nat.le_trans (cntEq_le _ _) (by rw [List.length_take]; omega)
                  by_cases e : nth l k = (j : Int)
                  · have e1 : (nth l k == (j : Int)) = true := by rw [e]; simp
                    have HT4 : Hid (P.cntEq (l.take (k + 1)) j = P.cntEq (l.take k) j + 1) := Lib.hid (by rw [HT3.out, if_pos e])
                    clear e HT3
                    go_wp2_with fail
                    go_round
                    case rel => exact ⟨k + 1, by omega, by go_num, by rw [HT4.out]; go_num⟩
                    case measure => simp [intOf]; omega
                  · have e1 : (nth l k == (j : Int)) = false := by simpa using e
                    have HT4 : Hid (P.cntEq (l.take (k + 1)) j = P.cntEq (l.take k) j) := Lib.hid (by rw [HT3.out, if_neg e]; rfl)
                    clear e HT3
                    go_wp2_with fail
                    go_round
                    case rel => exact ⟨k + 1, by omega, by go_num, by rw [HT4.out]⟩
                    case measure => simp [intOf]; omega
                · have hkl : l.take k = l := List.take_of_length_le (by omega)
                  have HCk : Hid (P.cntEq (l.take k) j = P.cntEq l j) := Lib.hid (by rw [hkl])
                  clear hkl
                  by_cases d : p < (P.cntEq (l.take k) j : Int)
                  · have HF := Lib.hid (checkPlan_few HZ.out HL.out HIn.out (fewB_no hlt2 (by rw [HCk.out] at d; exact d)))
                    go_wp2_with fail
                    go_ret
                    exact ⟨ret_int (by rw [HF.out]), HBr.out⟩
                  · have HT2 := Lib.hid (fewTo_succ HT.out (show (P.cntEq l j : Int) ≤ p by rw [← HCk.out]; omega))
                    go_wp2_with fail
                    go_round
                    case rel => exact ⟨j + 1, by omega, by go_num, HT2⟩
                    case measure => simp [intOf]; omega
            · have HF := Lib.hid (checkPlan_ok HZ.out HL.out HIn.out (by have := HT.out; rw [show j = L.toNat by omega] at this; exact this))
              go_wp2_with fail
              go_ret
              exact ⟨ret_int (by rw [HF.out]), HBr.out⟩
    · have HF := Lib.hid (checkPlan_len HZ.out hlen)
      have hne : ((l.length : Int) != (S.length : Int)) = true := by rw [bne_iff_ne]; omega
      clear hlen
      go_enter Try.func22, Try.ntmps22
      go_wp2_with fail
      refine (HC.out _ HJ0.out.st).mono ?_
      rintro e w1 ⟨rfl, hb1⟩
      have HB1 := Lib.hid (HB0.out.trans (hb1.mono HB0.out.size))
      have HJ1 := Lib.hid (HJ0.out.on hb1)
      clear hb1
      have x3 := HJ1.out.x3
      go_wp2_with fail
      go_ret
      exact ⟨ret_int (by rw [HF.out]), HB1.out⟩
  · have HF := Lib.hid (checkPlan_bad (l := l) hc)
    have hc' := ne_bool hc
    clear hc
    go_enter Try.func22, Try.ntmps22
    go_wp2_with fail
    refine (HC.out _ HJ0.out.st).mono ?_
    rintro e w1 ⟨rfl, hb1⟩
    have HB1 := Lib.hid (HB0.out.trans (hb1.mono HB0.out.size))
    have HJ1 := Lib.hid (HJ0.out.on hb1)
    clear hb1
    have x1 := HJ1.out.x1
    have x2 := HJ1.out.x2
    have x3 := HJ1.out.x3
    go_wp2_with fail
    refine (HC.out _ HJ1.out.st).mono ?_
    rintro e w2 ⟨rfl, hb2⟩
    go_wp2_with fail
    go_ret
    exact ⟨ret_int (by rw [HF.out]), HB1.out.trans (hb2.mono HB1.out.size)⟩
end Go.Proofs.Ytpkffjcmoghaaaa
