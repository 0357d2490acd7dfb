/- One text of Row, RefE, RefF, RefG, RefH, RefI, RefJ, RefK, RefL, RefM, RefN. -/
import Derived.Test.YtpkffjcmoghaaaaJ3
import Derived.Laws.OwnMore
import Derived.Laws.AppendOwnNone
/- Words: rows of stars of the call's own. -/
namespace Go.Proofs.Ytpkffjcmoghaaaa
open Go.RowKit
def encS (s : P.Star) : List Value := [.int .i64 s.1, .int .i64 s.2.1, .int .i64 s.2.2]
/-- The cells of stars. -/
def flatS (S : List P.Star) : List Value := S.flatMap encS
theorem flatS_length (S : List P.Star) : (flatS S).length = S.length * 3 := by
  induction S with
  | nil => rfl
  | cons s r ih => simp [flatS, encS] at ih ⊢; omega
theorem flatS_snoc (S : List P.Star) (s : P.Star) : flatS (S ++ [s]) = flatS S ++ encS s := by simp [flatS]
theorem flatS_append (S T : List P.Star) : flatS (S ++ T) = flatS S ++ flatS T := by simp [flatS]
theorem flatS_one (S : List P.Star) : ∀ u ∈ flatS S, u.oneCell' = true := by
  intro u hu
  simp only [flatS, List.mem_flatMap] at hu
  obtain ⟨s, -, hu⟩ := hu
  simp [encS] at hu
  rcases hu with rfl | rfl | rfl <;> rfl
theorem flatS_get (S : List P.Star) (i : Nat) (hi : i < S.length) : (flatS S)[i * 3]? = some (.int .i64 (P.star S i).1) ∧ (flatS S)[i * 3 + 1]? = some (.int .i64 (P.star S i).2.1) ∧ (flatS S)[i * 3 + 2]? = some (.int .i64 (P.star S i).2.2) := by
  induction S generalizing i with
  | nil => simp at hi
  | cons s r ih =>
    cases i with
    | zero => simp [flatS, encS, P.star]
    | succ i =>
      have := ih i (by simpa using hi)
      rw [show (i + 1) * 3 = i * 3 + 3 by omega, show i * 3 + 3 + 1 = i * 3 + 1 + 3 by omega, show i * 3 + 3 + 2 = i * 3 + 2 + 3 by omega]
      simpa [flatS, encS, P.star] using this
theorem addr_add (b off j : Nat) : (⟨b, off, none⟩ : Addr).add j = ⟨b, off + j, none⟩ := by unfold Addr.add; split <;> simp_all
/-- Stars that lie there, cell by cell. -/
theorem Stars.news {w : World} {b off : Nat} {S : List P.Star} (h : Stars w (some ⟨b, off, none⟩) S) : ∀ j u, (flatS S)[j]? = some u → w.cell? ((⟨b, off, none⟩ : Addr).add j) = some u := by
  intro j u hj
  have hlt : j < S.length * 3 := by
    have := (List.getElem?_eq_some_iff.1 hj).1; rwa [flatS_length] at this
  obtain ⟨g1, g2, g3⟩ := flatS_get S (j / 3) (by omega)
  obtain ⟨b', off', e, c1, c2, c3⟩ := h (j / 3) (by omega)
  cases e
  rw [addr_add]
  have hm : j % 3 = 0 ∨ j % 3 = 1 ∨ j % 3 = 2 := by omega
  rcases hm with hm | hm | hm
  · have e : j = j / 3 * 3 := by omega
    rw [← e] at g1 c1; rw [g1] at hj; cases hj; exact c1
  · have e : j = j / 3 * 3 + 1 := by omega
    rw [Nat.add_assoc] at c2
    rw [← e] at g2 c2; rw [g2] at hj; cases hj; exact c2
  · have e : j = j / 3 * 3 + 2 := by omega
    rw [Nat.add_assoc] at c3
    rw [← e] at g3 c3; rw [g3] at hj; cases hj; exact c3
theorem owns_stars {w : World} {base : Nat} {v : Value} {n : Nat} {S : List P.Star} (h : w.ownsRow base 59 3 v n (flatS S)) : n = S.length ∧ ∃ a cap, v = .slice a n cap ∧ Stars w a S ∧ n ≤ cap := by
  have hl : n = S.length := by have := h.1; rw [flatS_length] at this; omega
  refine ⟨hl, ?_⟩
  rcases h.2 with ⟨rfl, h0⟩ | ⟨g, cap, cur, rfl, hb, hg, hn, hm, hs, ht⟩
  · exact ⟨none, 0, by rw [h0], (fun i hi => by omega), by omega⟩
  · refine ⟨_, cap, rfl, fun i hi => ?_, hn⟩
    obtain ⟨g1, g2, g3⟩ := flatS_get S i hi
    have hc := h.cells (g := g) rfl
    have c1 := hc _ _ g1; have c2 := hc _ _ g2; have c3 := hc _ _ g3
    rw [addr_add] at c1 c2 c3
    exact ⟨g, 0, rfl, c1, c2, c3⟩
theorem owns_open {w : World} {base : Nat} {v : Value} {n : Nat} {S : List P.Star} (h : w.ownsRow base 59 3 v n (flatS S)) (hp : 0 < S.length) : n = S.length ∧ ∃ g cap, v = .slice (some ⟨g, 0, none⟩) S.length cap ∧ base ≤ g ∧ g < w.heap.size ∧ Stars w (some ⟨g, 0, none⟩) S ∧ S.length ≤ cap ∧ ∀ o, w.frozen? ⟨g, o, none⟩ = false := by
  obtain ⟨hl, a, cap, rfl, hs, hc⟩ := owns_stars h
  refine ⟨hl, ?_⟩
  subst hl
  obtain ⟨g, off, rfl, -⟩ := hs 0 hp
  rcases h.2 with ⟨e, h0⟩ | ⟨g', cap', cur, e, -⟩
  · cases e
  · have e := e
    simp only [Value.slice.injEq, Option.some.injEq, Addr.mk.injEq] at e
    obtain ⟨⟨rfl, rfl, -⟩, -, -⟩ := e
    have := h.lt g rfl
    exact ⟨g, cap, rfl, this.1, this.2, hs, hc, fun o => h.frozenAt o⟩
/-- A star's first two cells are written. -/
theorem Stars.put2 {w w' : World} {g : Nat} {S : List P.Star} {i : Nat} {x : Int} (h : Stars w (some ⟨g, 0, none⟩) S) (hi : i < S.length) (h0 : w'.cell? ⟨g, i * 3, none⟩ = some (.int .i64 x)) (h1 : w'.cell? ⟨g, i * 3 + 1, none⟩ = some (.int .i64 x))
    (ho : ∀ o, o ≠ i * 3 → o ≠ i * 3 + 1 → w'.cell? ⟨g, o, none⟩ = w.cell? ⟨g, o, none⟩) : Stars w' (some ⟨g, 0, none⟩) (P.atW S i x) := by
  intro j hj
  rw [P.atW_length] at hj
  obtain ⟨b, off, e, c1, c2, c3⟩ := h j hj
  cases e
  simp only [Nat.zero_add] at c1 c2 c3
  refine ⟨g, 0, rfl, ?_⟩
  rw [P.star_atW S i x j hi]
  simp only [Nat.zero_add]
  by_cases e : j = i
  · subst e
    rw [if_pos rfl]
    exact ⟨h0, h1, (ho _ (by omega) (by omega)).trans c3⟩
  · rw [if_neg e]
    exact ⟨(ho _ (by omega) (by omega)).trans c1, (ho _ (by omega) (by omega)).trans c2, (ho _ (by omega) (by omega)).trans c3⟩
theorem cells_of_flat (s : P.Star) : encS s = [.int .i64 s.1, .int .i64 s.2.1, .int .i64 s.2.2] := rfl
/-- 'append(s, nil ..)': nothing is appended. -/
theorem listAppNone {t e : TypeId} {z : Value} {size bytes : Nat} (R : RowT t e z size bytes) {ops : Array Oper} {rest : List Oper} {o : Oper} {a : Act} {W : World} {Q : Exit → Act → World → Prop} (hgd : o.guard = none) (s x : Operand)
    (ho : o.op = .call { callee := .builtin .append, args := #[s, x], argTypes := #[t, t] }) (base : Nat) (v : Value) (n : Nat) (xs : List Value) (hs : a.eval s = v)
    (hown : W.ownsRow base e size v n xs) (hx : a.eval x = .slice none 0 0)
    (h : wpList Try.prog ops Q rest (a.put o.dst v) W) : wpList Try.prog ops Q (o :: rest) a W := by
  obtain ⟨i0, hi, _, _, _⟩ := info_parts R.hi
  exact wpList_append_own_none hgd s x t ho base e i0 size R.ht hi v n xs hs hown hx h
theorem grownBy_setCell (w : World) (c o : Nat) (u : Value) : w.grownBy (w.setCell ⟨c, o, none⟩ u) (some c) :=
  ⟨rfl, rfl, rfl, by simp [World.setCell], fun k _ hne => Below.heap_setCell w ⟨c, o, none⟩ u k (fun e => hne (by rw [e]))⟩
theorem owns_setOther {w : World} {base : Nat} {e : TypeId} {size : Nat} {v : Value} {n : Nat} {xs : List Value} (h : w.ownsRow base e size v n xs) (c o : Nat) (u : Value) (hne : v.ownBlock ≠ some c) : (w.setCell ⟨c, o, none⟩ u).ownsRow base e size v n xs :=
  h.kept (grownBy_setCell w c o u) (.inr hne)
/-- Stars that do not lie in the row. -/
theorem Stars.grown {w w' : World} {a : Option Addr} {S : List P.Star} {v : Value} (h : Stars w a S) (hg : w.grownBy w' v.ownBlock) (hr : Off w v a) : Stars w' a S := by
  intro i hi
  obtain ⟨b, off, ha, c1, c2, c3⟩ := h i hi
  have hne : some b ≠ v.ownBlock := fun e => (hr b off ha).1 e.symm
  exact ⟨b, off, ha, hg.cell c1 hne, hg.cell c2 hne, hg.cell c3 hne⟩
/-- A block of the call's own: its cells, which may be written. -/
structure Cells (w : World) (b : Nat) (l : List Value) : Prop where
  cel : ∀ o u, l[o]? = some u → w.cell? ⟨b, o, none⟩ = some u
  fr : ∀ o, w.frozen? ⟨b, o, none⟩ = false
  lt : b < w.heap.size
theorem Cells.new (w : World) (c : Array Value) (t : TypeId) : Cells (w.alloc (.cells c t)) w.heap.size c.toList :=
  ⟨fun o u h => by simpa using h, fun o => by simp, by simp⟩
theorem Cells.on {w w' : World} {b : Nat} {l : List Value} (h : Cells w b l) (hb : Below w.heap.size w w') : Cells w' b l :=
  ⟨fun o u ho => cell_on hb (h.cel o u ho), fun o => (hb.frozen (p := ⟨b, o, none⟩) h.lt).trans (h.fr o), Nat.lt_of_lt_of_le h.lt hb.size⟩
theorem Cells.grown {w w' : World} {b : Nat} {l : List Value} {row : Option Nat} (h : Cells w b l) (hg : w.grownBy w' row) (hne : some b ≠ row) : Cells w' b l :=
  ⟨fun o u ho => hg.cell (h.cel o u ho) hne, fun o => (World.frozen?_of_block (w := w) (hg.block b h.lt hne)).trans (h.fr o), Nat.lt_of_lt_of_le h.lt hg.size⟩
theorem Cells.job {w : World} {b : Nat} {p L : Int} {a : Option Addr} {cap : Nat} {S : List P.Star} (h : Cells w b [.int .i64 p, .int .i64 L, .slice a S.length cap]) (hs : Stars w a S) : Job w b p L a cap S :=
  ⟨h.cel 0 _ rfl, h.cel 1 _ rfl, h.cel 2 _ rfl, hs⟩
theorem Cells.set {w : World} {b : Nat} {l : List Value} (h : Cells w b l) (o : Nat) (u : Value) (ho : o < l.length) : Cells (w.setCell ⟨b, o, none⟩ u) b (l.set o u) := by
  refine ⟨fun j v hj => ?_, fun j => (World.frozen?_setCell _ _ _ _).trans (h.fr j), by simp [World.setCell]; exact h.lt⟩
  rw [List.getElem?_set] at hj
  split at hj
  · rename_i e; subst e
    cases hj; exact World.cell?_setCell_same _ _ _ (h.cel o _ (List.getElem?_eq_getElem ho))
  · rename_i e; rw [World.cell?_setCell_other _ _ _ _ (by simp)]; exact h.cel j v hj
theorem Cells.setOther {w : World} {b c : Nat} {l : List Value} (h : Cells w b l) (o : Nat) (u : Value) (hne : c ≠ b) : Cells (w.setCell ⟨c, o, none⟩ u) b l :=
  ⟨fun j v hj => by rw [World.cell?_setCell_other _ _ _ _ (by simp)]; exact h.cel j v hj, fun j => (World.frozen?_setCell _ _ _ _).trans (h.fr j), by simp [World.setCell]; exact h.lt⟩
theorem Stars.setAside {w : World} {a : Option Addr} {S : List P.Star} (h : Stars w a S) (c o : Nat) (u : Value) (hne : ∀ b off, a = some ⟨b, off, none⟩ → c ≠ b) : Stars (w.setCell ⟨c, o, none⟩ u) a S := by
  intro i hi
  obtain ⟨b, off, rfl, c1, c2, c3⟩ := h i hi
  have hne := hne b off rfl
  refine ⟨b, off, rfl, ?_, ?_, ?_⟩
  all_goals rw [World.cell?_setCell_other _ _ _ _ (by simp)]; assumption
theorem Stars.setOther {w : World} {b c off : Nat} {S : List P.Star} (h : Stars w (some ⟨b, off, none⟩) S) (o : Nat) (u : Value) (hne : c ≠ b) : Stars (w.setCell ⟨c, o, none⟩ u) (some ⟨b, off, none⟩) S := by
  intro i hi
  obtain ⟨b', off', e, c1, c2, c3⟩ := h i hi
  cases e
  refine ⟨b, off, rfl, ?_, ?_, ?_⟩
  all_goals rw [World.cell?_setCell_other _ _ _ _ (by simp)]; assumption
theorem Job.setAside {w : World} {B : Nat} {p L : Int} {a : Option Addr} {cap : Nat} {S : List P.Star} (h : Job w B p L a cap S) (c o : Nat) (u : Value) (hB : c ≠ B) (hs : ∀ b off, a = some ⟨b, off, none⟩ → c ≠ b) : Job (w.setCell ⟨c, o, none⟩ u) B p L a cap S :=
  ⟨(World.cell?_setCell_other _ _ _ _ (by simp)).trans h.x1, (World.cell?_setCell_other _ _ _ _ (by simp)).trans h.x2, (World.cell?_setCell_other _ _ _ _ (by simp)).trans h.x3, h.st.setAside c o u hs⟩
theorem Job.grown {w w' : World} {B : Nat} {p L : Int} {a : Option Addr} {cap : Nat} {S : List P.Star} {v : Value} (h : Job w B p L a cap S) (hg : w.grownBy w' v.ownBlock) (hB : v.ownBlock ≠ some B) (hr : Off w v a) : Job w' B p L a cap S :=
  ⟨hg.cell h.x1 (fun e => hB e.symm), hg.cell h.x2 (fun e => hB e.symm), hg.cell h.x3 (fun e => hB e.symm), h.st.grown hg hr⟩
theorem Job.kept {w w' : World} {B : Nat} {p L : Int} {a : Option Addr} {cap : Nat} {S : List P.Star} {row : Option Nat} (h : Job w B p L a cap S) (hg : w.grownBy w' row) (hB : row ≠ some B) (hr : 0 < S.length → ∀ b off, a = some ⟨b, off, none⟩ → row ≠ some b) : Job w' B p L a cap S := by
  refine ⟨hg.cell h.x1 (fun e => hB e.symm), hg.cell h.x2 (fun e => hB e.symm), hg.cell h.x3 (fun e => hB e.symm), fun i hi => ?_⟩
  obtain ⟨b, off, ha, c1, c2, c3⟩ := h.st i hi
  have hne : some b ≠ row := fun e => hr (by omega) b off ha e.symm
  exact ⟨b, off, ha, hg.cell c1 hne, hg.cell c2 hne, hg.cell c3 hne⟩
theorem Stars.lt {w : World} {a : Option Addr} {S : List P.Star} (h : Stars w a S) (hp : 0 < S.length) : ∀ b off, a = some ⟨b, off, none⟩ → b < w.heap.size := by
  intro b off e
  obtain ⟨b', off', e', c1, -⟩ := h 0 hp
  rw [e] at e'; cases e'
  exact World.block_lt_of_cell? w _ c1
theorem Job.drewN {w : World} {B : Nat} {p L : Int} {a : Option Addr} {cap : Nat} {S : List P.Star} (h : Job w B p L a cap S) (n : Nat) : Job (w.drewN n) B p L a cap S := h.on (((Drew.refl w).drewN n).below _)
/-- 'append' at a step of a region that draws its order, behind a guard that is met: which one it is. -/
theorem stepO (t : TypeId) {ops : Array Oper} {o : Oper} {a : Act} {W : World} {K : Act → World → Prop} {Q : Exit → Act → World → Prop} {E : Prop} (s x : Operand) (_ho : o.op = .call { callee := .builtin .append, args := #[s, x], argTypes := #[t, t] })
    (hw : Region.wanted o (yielded ops a.tmps) = true) (h : Oper.wp Try.prog o a W K Q) : if Region.wanted o (yielded ops a.tmps) = true then Oper.wp Try.prog o a W K Q else E := by
  rw [if_pos hw]; exact h
end Go.Proofs.Ytpkffjcmoghaaaa
/- Walk of the reference's At. -/
namespace Go.Proofs.Ytpkffjcmoghaaaa
open Go.RowKit
theorem owns_empty (w : World) {base : Nat} (e : TypeId) (size : Nat) (hb : base ≤ w.heap.size) : (w.alloc (.cells #[] e)).ownsRow base e size (.slice (some ⟨w.heap.size, 0, none⟩) 0 0) 0 [] := World.ownsRow_made w #[] 0 hb (by decide) (by simp)
set_option maxRecDepth 100000 in
set_option maxHeartbeats 1000000 in
theorem refAt_any (a : Option Addr) (cap : Nat) (p L : Int) (S : List P.Star) (i : Nat) (x : Int) (w : World) (hi : i < S.length) (hl : S.length ≤ 1000000) (ha : Stars w a S) :
    Calls Try.prog 48 #[jobV p L a S.length cap, .int .i64 (i : Int), .int .i64 x] w fun e w' => ∃ a' cap', e = .returned (jobV p L a' S.length cap') ∧ Stars w' a' (P.atW S i x) ∧ S.length ≤ cap' ∧ (∀ b off, a' = some ⟨b, off, none⟩ → w.heap.size ≤ b) ∧ Below w.heap.size w w' := by
  have HA := Lib.hid ha; clear ha
  obtain ⟨b, off, rfl, -⟩ := HA.out i hi
  have HS1 : Hid (Stars ((((w.alloc (.cells #[.int .i64 p, .int .i64 L, .slice (some ⟨b, off, none⟩) S.length cap] 24)).alloc (.cells #[.int .i64 0, .int .i64 0, .slice none 0 0] 24)).alloc (.cells #[.int .i64 p, .int .i64 L, .slice (some ⟨b, off, none⟩) S.length cap] 24)).alloc (.cells #[] 59)) (some ⟨b, off, none⟩) S) := Lib.hid ((((HA.out.alloc _).alloc _).alloc _).alloc _)
  have HB1 : Hid (Below w.heap.size w ((((w.alloc (.cells #[.int .i64 p, .int .i64 L, .slice (some ⟨b, off, none⟩) S.length cap] 24)).alloc (.cells #[.int .i64 0, .int .i64 0, .slice none 0 0] 24)).alloc (.cells #[.int .i64 p, .int .i64 L, .slice (some ⟨b, off, none⟩) S.length cap] 24)).alloc (.cells #[] 59))) := Lib.hid ((((Below.new w _).alloc (by simp) _).alloc (by simp; omega) _).alloc (by simp; omega) _)
  have HO1 : Hid (World.ownsRow ((((w.alloc (.cells #[.int .i64 p, .int .i64 L, .slice (some ⟨b, off, none⟩) S.length cap] 24)).alloc (.cells #[.int .i64 0, .int .i64 0, .slice none 0 0] 24)).alloc (.cells #[.int .i64 p, .int .i64 L, .slice (some ⟨b, off, none⟩) S.length cap] 24)).alloc (.cells #[] 59)) w.heap.size 59 3 (.slice (some ⟨w.heap.size + 1 + 1 + 1, 0, none⟩) 0 0) 0 []) := Lib.hid (by have := owns_empty (((w.alloc (.cells #[.int .i64 p, .int .i64 L, .slice (some ⟨b, off, none⟩) S.length cap] 24)).alloc (.cells #[.int .i64 0, .int .i64 0, .slice none 0 0] 24)).alloc (.cells #[.int .i64 p, .int .i64 L, .slice (some ⟨b, off, none⟩) S.length cap] 24)) (base := w.heap.size) 59 3 (by simp; omega); simpa using this)
  have C6 : Hid (Cells ((((w.alloc (.cells #[.int .i64 p, .int .i64 L, .slice (some ⟨b, off, none⟩) S.length cap] 24)).alloc (.cells #[.int .i64 0, .int .i64 0, .slice none 0 0] 24)).alloc (.cells #[.int .i64 p, .int .i64 L, .slice (some ⟨b, off, none⟩) S.length cap] 24)).alloc (.cells #[] 59)) (w.heap.size + 1) [.int .i64 0, .int .i64 0, .slice none 0 0]) := Lib.hid (by
    have := ((Cells.new (w.alloc (.cells #[.int .i64 p, .int .i64 L, .slice (some ⟨b, off, none⟩) S.length cap] 24)) #[.int .i64 0, .int .i64 0, .slice none 0 0] 24).on (Below.new _ (.cells #[.int .i64 p, .int .i64 L, .slice (some ⟨b, off, none⟩) S.length cap] 24))).on (Below.new _ (.cells #[] 59))
    simpa using this)
  have C7 : Hid (Cells ((((w.alloc (.cells #[.int .i64 p, .int .i64 L, .slice (some ⟨b, off, none⟩) S.length cap] 24)).alloc (.cells #[.int .i64 0, .int .i64 0, .slice none 0 0] 24)).alloc (.cells #[.int .i64 p, .int .i64 L, .slice (some ⟨b, off, none⟩) S.length cap] 24)).alloc (.cells #[] 59)) (w.heap.size + 1 + 1) [.int .i64 p, .int .i64 L, .slice (some ⟨b, off, none⟩) S.length cap]) := Lib.hid (by
    have := (Cells.new ((w.alloc (.cells #[.int .i64 p, .int .i64 L, .slice (some ⟨b, off, none⟩) S.length cap] 24)).alloc (.cells #[.int .i64 0, .int .i64 0, .slice none 0 0] 24)) #[.int .i64 p, .int .i64 L, .slice (some ⟨b, off, none⟩) S.length cap] 24).on (Below.new _ (.cells #[] 59))
    simpa using this)
  have HP : Hid (0 < S.length) := Lib.hid (by omega)
  go_enter Try.func48, Try.ntmps48
  go_wp2_with (at_builtin; refine listApp T22 rfl (.tmp 9) (.tmp 11) rfl w.heap.size (.slice (some ⟨w.heap.size + 1 + 1 + 1, 0, none⟩) 0 0) 0 [] (flatS S) S.length cap ⟨b, off, none⟩ rfl HO1.out rfl (flatS_length S) HS1.out.news (flatS_one S) (by omega) (by simp; omega) ?_; intro v1 w1 hown1 hg1 hL1; have HB2 := Lib.hid (HB1.out.grown hg1 (by simp; omega) (fun k e => by simp [Value.ownBlock] at e; omega)); have D6 := Lib.hid (C6.out.grown hg1 (by simp [Value.ownBlock])); have D7 := Lib.hid (C7.out.grown hg1 (by simp [Value.ownBlock])); simp only [List.nil_append] at hown1; obtain ⟨-, g, cap1, rfl, hg0, hgl, hSt, hcap1, hfr⟩ := owns_open hown1 HP.out; have hL2 : w.heap.size + 1 + 1 + 1 ≤ g := (by rcases hL1 with e | e <;> simp [Value.ownBlock] at e <;> omega); clear hown1 hL1 hg1; have z0 := D7.out.cel 2 _ rfl; have f0 := D7.out.fr 2)
  have E7 := Lib.hid (D7.out.set 2 (.slice (some ⟨g, 0, none⟩) S.length cap1) (by simp))
  have E6 := Lib.hid (D6.out.setOther (c := w.heap.size + 1 + 1) 2 (.slice (some ⟨g, 0, none⟩) S.length cap1) (by omega))
  have ES := Lib.hid (hSt.setOther (c := w.heap.size + 1 + 1) 2 (.slice (some ⟨g, 0, none⟩) S.length cap1) (by omega))
  have EF : Hid (∀ o, (w1.setCell ⟨w.heap.size + 1 + 1, 2, none⟩ (.slice (some ⟨g, 0, none⟩) S.length cap1)).frozen? ⟨g, o, none⟩ = false) := Lib.hid (fun o => (World.frozen?_setCell _ _ _ _).trans (hfr o))
  have EB := Lib.hid (HB2.out.setCell (p := ⟨w.heap.size + 1 + 1, 2, none⟩) (by simp; omega) (.slice (some ⟨g, 0, none⟩) S.length cap1))
  clear z0 f0 hSt hfr D6 D7 HB2 hgl C6 C7 HO1 HB1 HS1 HA
  generalize w1.setCell ⟨w.heap.size + 1 + 1, 2, none⟩ (.slice (some ⟨g, 0, none⟩) S.length cap1) = w2 at *
  clear w1
  obtain ⟨b', off', e, c1, c2, c3⟩ := ES.out i hi
  cases e
  simp only [Nat.zero_add] at c1 c2 c3
  have f1 := EF.out (i * 3)
  have f2 := EF.out (i * 3 + 1)
  have z7 := E7.out.cel 2 _ rfl
  have q1 : (0 : Int) ≤ (i : Int) := by omega
  have q2 : (i : Int) < (S.length : Int) := by omega
  have hne : (⟨g, i * 3, none⟩ : Addr) ≠ ⟨w.heap.size + 1 + 1, 2, none⟩ := fun e => by have e := congrArg Addr.block e; simp only at e; omega
  have hne2 : (⟨g, i * 3 + 1, none⟩ : Addr) ≠ ⟨w.heap.size + 1 + 1, 2, none⟩ := fun e => by have e := congrArg Addr.block e; simp only at e; omega
  go_region_held3 (fun w' => w'.cell? ⟨w.heap.size + 1 + 1, 2, none⟩ = some (.slice (some ⟨g, 0, none⟩) S.length cap1)) (first | exact (World.cell?_setCell_other _ _ _ _ hne).trans z7 | exact (World.cell?_setCell_other _ _ _ _ hne2).trans ((World.cell?_setCell_other _ _ _ _ hne).trans z7) | go_keep) (fail)
  have G7 : Hid (Cells ((w2.setCell ⟨g, i * 3, none⟩ (.int .i64 x)).setCell ⟨g, i * 3 + 1, none⟩ (.int .i64 x)).drew (w.heap.size + 1 + 1) [.int .i64 p, .int .i64 L, .slice (some ⟨g, 0, none⟩) S.length cap1]) := Lib.hid (by
    have h := (E7.out.setOther (c := g) (i * 3) (.int .i64 x) (by omega)).setOther (c := g) (i * 3 + 1) (.int .i64 x) (by omega)
    exact ⟨h.cel, h.fr, h.lt⟩)
  have G6 : Hid (Cells ((w2.setCell ⟨g, i * 3, none⟩ (.int .i64 x)).setCell ⟨g, i * 3 + 1, none⟩ (.int .i64 x)).drew (w.heap.size + 1) [.int .i64 0, .int .i64 0, .slice none 0 0]) := Lib.hid (by
    have h := (E6.out.setOther (c := g) (i * 3) (.int .i64 x) (by omega)).setOther (c := g) (i * 3 + 1) (.int .i64 x) (by omega)
    exact ⟨h.cel, h.fr, h.lt⟩)
  have GB : Hid (Below w.heap.size w ((w2.setCell ⟨g, i * 3, none⟩ (.int .i64 x)).setCell ⟨g, i * 3 + 1, none⟩ (.int .i64 x)).drew) := Lib.hid ((EB.out.setCell (p := ⟨g, i * 3, none⟩) (by simp; omega) _).setCell (p := ⟨g, i * 3 + 1, none⟩) (by simp; omega) _).drew
  have GS : Hid (Stars ((w2.setCell ⟨g, i * 3, none⟩ (.int .i64 x)).setCell ⟨g, i * 3 + 1, none⟩ (.int .i64 x)).drew (some ⟨g, 0, none⟩) (P.atW S i x)) := Lib.hid (ES.out.put2 hi
    ((World.cell?_setCell_other _ _ _ _ (fun e => by have e := congrArg Addr.off e; simp only at e; omega)).trans (World.cell?_setCell_same _ _ _ c1))
    (World.cell?_setCell_same _ _ _ ((World.cell?_setCell_other _ _ _ _ (fun e => by have e := congrArg Addr.off e; simp only at e; omega)).trans c2))
    (fun o h1 h2 => (World.cell?_setCell_other _ _ _ _ (fun e => by have e := congrArg Addr.off e; simp only at e; omega)).trans (World.cell?_setCell_other _ _ _ _ (fun e => by have e := congrArg Addr.off e; simp only at e; omega))))
  clear c1 c2 c3 f1 f2 z7 hne hne2 E6 E7 ES EF EB q1 q2
  generalize ((w2.setCell ⟨g, i * 3, none⟩ (.int .i64 x)).setCell ⟨g, i * 3 + 1, none⟩ (.int .i64 x)).drew = w3 at *
  clear w2
  have z0 := G7.out.cel 0 _ rfl
  have z1 := G7.out.cel 1 _ rfl
  have z2 := G7.out.cel 2 _ rfl
  have y0 := G6.out.cel 0 _ rfl
  have y1 := G6.out.cel 1 _ rfl
  have y2 := G6.out.cel 2 _ rfl
  have v0 := G6.out.fr 0
  have v1 := G6.out.fr 1
  have v2 := G6.out.fr 2
  go_wp2_with fail
  have K6 := ((G6.out.set 0 (.int .i64 p) (by simp)).set 1 (.int .i64 L) (by simp)).set 2 (.slice (some ⟨g, 0, none⟩) S.length cap1) (by simp)
  have KS := ((GS.out.setOther (c := w.heap.size + 1) 0 (.int .i64 p) (by omega)).setOther (c := w.heap.size + 1) 1 (.int .i64 L) (by omega)).setOther (c := w.heap.size + 1) 2 (.slice (some ⟨g, 0, none⟩) S.length cap1) (by omega)
  have KB := ((GB.out.setCell (p := ⟨w.heap.size + 1, 0, none⟩) (by simp) (.int .i64 p)).setCell (p := ⟨w.heap.size + 1, 1, none⟩) (by simp) (.int .i64 L)).setCell (p := ⟨w.heap.size + 1, 2, none⟩) (by simp) (.slice (some ⟨g, 0, none⟩) S.length cap1)
  generalize ((w3.setCell ⟨w.heap.size + 1, 0, none⟩ (.int .i64 p)).setCell ⟨w.heap.size + 1, 1, none⟩ (.int .i64 L)).setCell ⟨w.heap.size + 1, 2, none⟩ (.slice (some ⟨g, 0, none⟩) S.length cap1) = W at *
  have e0 := K6.cel 0 _ rfl
  have e1 := K6.cel 1 _ rfl
  have e2 := K6.cel 2 _ rfl
  exact bodyPost_ret (v := jobV p L (some ⟨g, 0, none⟩) S.length cap1) (by simp [results, Try.results48, go_sem, e0, e1, e2]) rfl ⟨_, _, rfl, KS, hcap1, fun b off e => by cases e; omega, KB⟩
end Go.Proofs.Ytpkffjcmoghaaaa
/- Walk of the reference's Plan. -/
namespace Go.Proofs.Ytpkffjcmoghaaaa
open Go.RowKit
theorem planTo_len {S : List P.Star} {p L : Nat} (hv : P.Valid p L S) (hf : P.Fits S p L) {k : Nat} (hk : k ≤ S.length) : (P.planTo S p L k).1.length = S.length := (P.planTo_spec hv.ok hf k hk).len
/-- The wear of the next star: the least one. -/
def nextW (S : List P.Star) (p L : Int) (k : Nat) : Int := P.leastW (P.planTo S p L k).1 p L k (P.star S k).1 ((P.star S k).2.1 - (P.star S k).1 + 1).toNat
theorem planTo_succ (S : List P.Star) (p L : Int) (k : Nat) : P.planTo S p L (k + 1) = (P.atW (P.planTo S p L k).1 k (nextW S p L k), (P.planTo S p L k).2 ++ [nextW S p L k]) := rfl
theorem nextW_spec {S : List P.Star} {p L : Nat} (hv : P.Valid p L S) (hf : P.Fits S p L) {k : Nat} (hk : k < S.length) :
    (P.star S k).1 ≤ nextW S p L k ∧ nextW S p L k ≤ (P.star S k).2.1 ∧ P.canAt (P.planTo S p L k).1 p L k (nextW S p L k) = true ∧ ∀ v, (P.star S k).1 ≤ v → v < nextW S p L k → P.canAt (P.planTo S p L k).1 p L k v = false := by
  have h := P.planTo_spec hv.ok hf k (by omega)
  obtain ⟨v, v1, v2, v3⟩ := P.canAt_ex h.ok h.fits (show k < (P.planTo S p L k).1.length by rw [h.len]; exact hk)
  rw [h.rest k (Nat.le_refl _)] at v1 v2
  have hs := hv.star hk
  have := P.leastW_spec (S := (P.planTo S p L k).1) (p := p) (L := L) (i := k) ((P.star S k).2.1 - (P.star S k).1 + 1).toNat (P.star S k).1 ⟨v, v1, by omega, v3⟩
  unfold nextW
  exact ⟨this.1, by have := this.2.1; omega, this.2.2.1, this.2.2.2⟩
/-- The contract of 'Has(At(now, i, w))'. -/
theorem hasAt_any (p L : Int) (S : List P.Star) (i : Nat) (x : Int) (hl : S.length ≤ 1000000) (hp0 : 0 ≤ p) (hp : p ≤ 1000000) (hL : L ≤ 20) {b : Bool} (hc : P.canAt S p L i x = b) (W : World) (a' : Option Addr) (cap' : Nat) (hs : Stars W a' (P.atW S i x)) :
    Calls Try.prog 33 #[jobV p L a' S.length cap'] W fun e w' => e = .returned (.bool b) ∧ Below W.heap.size W w' := by
  have h := has_any a' cap' (P.atW S i x) p L W (by rw [P.atW_length]; exact hl) hp0 hp hL hs
  rw [P.atW_length] at h
  unfold P.canAt at hc
  rw [hc] at h
  exact h
set_option maxRecDepth 100000 in
set_option maxHeartbeats 4000000 in
theorem refPlan_any (a : Option Addr) (cap : Nat) (p L : Int) (S : List P.Star) (w : World) (hl : S.length ≤ 1000000) (ha : Stars w a S) :
    Calls Try.prog 24 #[jobV p L a S.length cap] w fun e w' => ∃ v, e = .returned (.tuple #[v, .int .i64 (P.planE p L S).2]) ∧ w'.ownsRow w.heap.size 3 1 v (P.planE p L S).1.length ((P.planE p L S).1.map (.int .i64)) ∧ Below w.heap.size w w' := by
  have hb0 := Below.new w (.cells #[.int .i64 p, .int .i64 L, .slice a S.length cap] 24)
  have HJ0 := Lib.hid (Job.new ha p L cap 24)
  have HB0 := Lib.hid hb0
  have HC := Lib.hid (fun W hW => planError_any a cap p L S W hl hW)
  clear ha hb0
  by_cases hc : (P.planE p L S).2 = 0
  · have hcj : P.checkJob p L S = 0 := by
      apply Classical.byContradiction; intro h; rw [planE_bad h] at hc; exact h hc
    have hf : P.fitsB S p L = true := by
      cases hf : P.fitsB S p L with
      | true => rfl
      | false => rw [planE_no hcj hf] at hc; simp at hc
    have hE : P.planE p L S = (P.plan S p L, 0) := planE_yes hcj hf
    have hv := P.checkJob_iff.1 hcj
    rw [hc] at HC
    clear hc
    obtain ⟨p, rfl⟩ := Int.eq_ofNat_of_zero_le (show 0 ≤ p by have := hv.p1; omega)
    obtain ⟨L, rfl⟩ := Int.eq_ofNat_of_zero_le (show 0 ≤ L by have := hv.l1; omega)
    have hp5 := hv.p5
    have hL20 := hv.l20
    have h16 := hv.len
    have HV := Lib.hid hv
    have HF := Lib.hid (P.fitsB_iff.1 hf)
    have HE := Lib.hid hE
    have HStar := Lib.hid (fun k (hk : k < S.length) => hv.star hk)
    clear hv hf hE hcj
    go_enter Try.func24, Try.ntmps24
    go_wp2_with fail
    refine (HC.out _ HJ0.out.st).mono ?_
    rintro e w1 ⟨rfl, hb1⟩
    have HB1 := Lib.hid (HB0.out.trans (hb1.mono HB0.out.size))
    have HJ1 := Lib.hid (HJ0.out.on hb1)
    clear hb1
    have x1 := HJ1.out.x1
    have x2 := HJ1.out.x2
    have x3 := HJ1.out.x3
    have hbn := Below.new w1 (.cells #[.int .i64 (p : Int), .int .i64 (L : Int), .slice a S.length cap] 24)
    have HB2 := Lib.hid (HB1.out.trans (hbn.mono HB1.out.size))
    have HJ2 := Lib.hid (HJ1.out.on hbn)
    have HN2 := Lib.hid (Cells.new w1 #[.int .i64 (p : Int), .int .i64 (L : Int), .slice a S.length cap] 24)
    have hwl := HJ1.out.lt
    clear hbn
    go_wp2_with fail
    have HW2 : ∃ W2, W2 = w1.alloc (.cells #[.int .i64 (p : Int), .int .i64 (L : Int), .slice a S.length cap] 24) := ⟨_, rfl⟩
    obtain ⟨W2, hW2⟩ := HW2
    have hWs : w1.heap.size < W2.heap.size := by rw [hW2]; simp
    rw [← hW2] at HB2 HJ2 HN2 ⊢
    clear hW2 x1 x2 x3
    go_loopw [4, 6, 7] (fun o i _ wr => ∃ (k : Nat) (a' : Option Addr) (cap' : Nat), k ≤ S.length ∧ i = .int .i64 k ∧ Hid (wr.ownsRow W2.heap.size 3 1 o k ((P.planTo S p L k).2.map (.int .i64))) ∧ Hid (Job wr w.heap.size p L a cap S) ∧
        Hid (Cells wr w1.heap.size [.int .i64 (p : Int), .int .i64 (L : Int), .slice a' S.length cap']) ∧ Hid (Stars wr a' (P.planTo S p L k).1) ∧ Hid (0 < S.length → Off wr o a' ∧ ∀ b off, a' = some ⟨b, off, none⟩ → b ≠ w1.heap.size) ∧ Hid (Below w.heap.size w wr) ∧ W2.heap.size ≤ wr.heap.size) (fun _ i _ _ => S.length - (intOf i).toNat)
    case atStart =>
      refine ⟨0, a, cap, by omega, rfl, Lib.hid (World.ownsRow_nil _ _ _ _), HJ2, HN2, Lib.hid HJ2.out.st, Lib.hid (fun hp => ?_), HB2, Nat.le_refl _⟩
      obtain ⟨b, off, e, c1, -⟩ := HJ1.out.st 0 hp
      have hbl := World.block_lt_of_cell? w1 _ c1
      simp only at hbl
      exact ⟨Off.nil (fun b' off' e' => by rw [e] at e'; cases e'; omega), fun b' off' e' => by rw [e] at e'; cases e'; omega⟩
    case round =>
      obtain ⟨k, a', cap', hk, rfl, HO, HJ, HN, HS, HA, HB, hsz⟩ := hrel
      obtain ⟨wo, rfl⟩ : ∃ wo : World, wo = wr := ⟨_, rfl⟩
      have x3 := HJ.out.x3
      by_cases hlt : k < S.length
      · obtain ⟨b1, off1, rfl, c1, -, -⟩ := HJ.out.st k hlt
        obtain ⟨n1, n2, n3, n4⟩ := nextW_spec HV.out HF.out hlt
        obtain ⟨s1, s2, s3⟩ := HStar.out k hlt
        have hTl := planTo_len HV.out HF.out (Nat.le_of_lt hlt)
        have HSu := Lib.hid (planTo_succ S p L k)
        generalize hTT : (P.planTo S p L k).1 = T at *
        generalize hUU : (P.planTo S p L k).2 = U at *
        generalize hnw : nextW S p L k = nw at *
        have HT := Lib.hid hTT
        have HU := Lib.hid hUU
        have HNW := Lib.hid hnw
        have HTl := Lib.hid hTl
        have N3 := Lib.hid n3
        have N4 := Lib.hid n4
        clear hTT hUU hnw hTl n3 n4
        go_wp2_with fail
        go_loopw [7] (fun x wi => ∃ y : Int, x = .int .i64 y ∧ (P.star S k).1 ≤ y ∧ y ≤ nw ∧ Hid (Below wo.heap.size wo wi)) (fun x _ => (nw - intOf x).toNat)
        case atStart => exact ⟨_, rfl, by omega, n1, Lib.hid (Below.refl _ _)⟩
        case round =>
          obtain ⟨y, rfl, hy1, hy2, HBi⟩ := hrel
          have HNi := Lib.hid (HN.out.on HBi.out)
          have HSi := Lib.hid (HS.out.below HBi.out)
          have z0 := HNi.out.cel 0 _ rfl
          have z1 := HNi.out.cel 1 _ rfl
          have z2 := HNi.out.cel 2 _ rfl
          have HAt := refAt_any a' cap' p L T k y wr (by rw [HTl.out]; exact hlt) (by rw [HTl.out]; exact hl) HSi.out
          rw [HTl.out] at HAt
          have HAt := Lib.hid HAt
          by_cases hy : y < nw
          · have HHas := fun W a2 cap2 hs => hasAt_any p L T k y (by rw [HTl.out]; exact hl) (by omega) (by omega) hL20 (N4.out y hy1 hy) W a2 cap2 hs
            rw [HTl.out] at HHas
            have HHas := Lib.hid HHas
            go_wp2_with fail
            refine HAt.out.mono ?_
            rintro e w3 ⟨a2, cap2, rfl, hs2, hc2, hf2, hb2⟩
            have HS2 := Lib.hid hs2
            have HB3 := Lib.hid (HBi.out.trans (hb2.mono HBi.out.size))
            clear hs2 hf2 hb2 hc2
            go_wp2_with fail
            refine (HHas.out _ _ _ HS2.out).mono ?_
            rintro e w4 ⟨rfl, hb3⟩
            have HB4 := Lib.hid (HB3.out.trans (hb3.mono HB3.out.size))
            clear hb3
            go_wp2_with fail
            go_roundw
            case rel => exact ⟨y + 1, rfl, by omega, by omega, HB4⟩
            case measure => simp [intOf]; omega
          · have hyw : y = nw := by omega
            subst hyw
            have HHas := fun W a2 cap2 hs => hasAt_any p L T k y (by rw [HTl.out]; exact hl) (by omega) (by omega) hL20 N3.out W a2 cap2 hs
            rw [HTl.out] at HHas
            have HHas := Lib.hid HHas
            clear hy
            go_wp2_with fail
            refine HAt.out.mono ?_
            rintro e w3 ⟨a2, cap2, rfl, hs2, hc2, hf2, hb2⟩
            have HS2 := Lib.hid hs2
            have HB3 := Lib.hid (HBi.out.trans (hb2.mono HBi.out.size))
            clear hs2 hf2 hb2 hc2
            go_wp2_with fail
            refine (HHas.out _ _ _ HS2.out).mono ?_
            rintro e w4 ⟨rfl, hb3⟩
            have HB4 := Lib.hid (HB3.out.trans (hb3.mono HB3.out.size))
            clear hb3 z0 z1 z2
            have HN4 := Lib.hid (HN.out.on HB4.out)
            have HS4 := Lib.hid (HS.out.below HB4.out)
            have z0 := HN4.out.cel 0 _ rfl
            have z1 := HN4.out.cel 1 _ rfl
            have z2 := HN4.out.cel 2 _ rfl
            have HAt := refAt_any a' cap' p L T k y w4 (by rw [HTl.out]; exact hlt) (by rw [HTl.out]; exact hl) HS4.out
            rw [HTl.out] at HAt
            have HAt := Lib.hid HAt
            go_wp2_with fail
            refine HAt.out.mono ?_
            rintro e w5 ⟨a3, cap3, rfl, hs3, hc3, hf3, hb4⟩
            have HS5 := Lib.hid hs3
            have HB5 := Lib.hid (HB4.out.trans (hb4.mono HB4.out.size))
            have HF5 := Lib.hid hf3
            have hsz5 := Nat.le_trans HB4.out.size hb4.size
            have HN5 := Lib.hid (HN4.out.on hb4)
            have HO5 := Lib.hid (owns_below HO.out HB5.out)
            have HJ5 := Lib.hid (HJ.out.on HB5.out)
            clear hs3 hf3 hb4 z0 z1 z2 hc3
            have z0 := HN5.out.cel 0 _ rfl
            have z1 := HN5.out.cel 1 _ rfl
            have z2 := HN5.out.cel 2 _ rfl
            have f0 := HN5.out.fr 0
            have f1 := HN5.out.fr 1
            have f2 := HN5.out.fr 2
            have hvn : u4.ownBlock ≠ some w1.heap.size := fun e => by have := (HO.out.lt _ e).1; omega
            have O6 : Hid (World.ownsRow (((w5.setCell ⟨w1.heap.size, 0, none⟩ (.int .i64 (p : Int))).setCell ⟨w1.heap.size, 1, none⟩ (.int .i64 (L : Int))).setCell ⟨w1.heap.size, 2, none⟩ (.slice a3 S.length cap3)) W2.heap.size 3 1 u4 k (U.map (.int .i64))) := Lib.hid (owns_setOther (owns_setOther (owns_setOther HO5.out _ _ _ hvn) _ _ _ hvn) _ _ _ hvn)
            have N6 : Hid (Cells (((w5.setCell ⟨w1.heap.size, 0, none⟩ (.int .i64 (p : Int))).setCell ⟨w1.heap.size, 1, none⟩ (.int .i64 (L : Int))).setCell ⟨w1.heap.size, 2, none⟩ (.slice a3 S.length cap3)) w1.heap.size [.int .i64 (p : Int), .int .i64 (L : Int), .slice a3 S.length cap3]) := Lib.hid (((HN5.out.set 0 (.int .i64 (p : Int)) (by simp)).set 1 (.int .i64 (L : Int)) (by simp)).set 2 (.slice a3 S.length cap3) (by simp))
            have hne3 : ∀ b off, a3 = some ⟨b, off, none⟩ → w1.heap.size ≠ b := fun b off e => by have := HF5.out b off e; have := HB4.out.size; omega
            have S6 : Hid (Stars (((w5.setCell ⟨w1.heap.size, 0, none⟩ (.int .i64 (p : Int))).setCell ⟨w1.heap.size, 1, none⟩ (.int .i64 (L : Int))).setCell ⟨w1.heap.size, 2, none⟩ (.slice a3 S.length cap3)) a3 (P.atW T k y)) := Lib.hid (((HS5.out.setAside _ _ _ hne3).setAside _ _ _ hne3).setAside _ _ _ hne3)
            have hb1l : b1 < w1.heap.size := by obtain ⟨b', off', e, c, -⟩ := HJ1.out.st k hlt; cases e; exact World.block_lt_of_cell? w1 _ c
            have J6 : Hid (Job (((w5.setCell ⟨w1.heap.size, 0, none⟩ (.int .i64 (p : Int))).setCell ⟨w1.heap.size, 1, none⟩ (.int .i64 (L : Int))).setCell ⟨w1.heap.size, 2, none⟩ (.slice a3 S.length cap3)) w.heap.size (p : Int) (L : Int) (some ⟨b1, off1, none⟩) cap S) := Lib.hid (by
              have hx : ∀ b off, (some ⟨b1, off1, none⟩ : Option Addr) = some ⟨b, off, none⟩ → w1.heap.size ≠ b := fun b off e => by cases e; omega
              exact ((HJ5.out.setAside _ _ _ (by omega) hx).setAside _ _ _ (by omega) hx).setAside _ _ _ (by omega) hx)
            have hsz6 : (((w5.setCell ⟨w1.heap.size, 0, none⟩ (.int .i64 (p : Int))).setCell ⟨w1.heap.size, 1, none⟩ (.int .i64 (L : Int))).setCell ⟨w1.heap.size, 2, none⟩ (.slice a3 S.length cap3)).heap.size ≥ w5.heap.size := by simp [World.setCell]
            have B6 : Hid (Below w.heap.size w (((w5.setCell ⟨w1.heap.size, 0, none⟩ (.int .i64 (p : Int))).setCell ⟨w1.heap.size, 1, none⟩ (.int .i64 (L : Int))).setCell ⟨w1.heap.size, 2, none⟩ (.slice a3 S.length cap3))) := Lib.hid ((((HB.out.trans (HB5.out.mono HB.out.size)).setCell (p := ⟨w1.heap.size, 0, none⟩) (by simp; omega) _).setCell (p := ⟨w1.heap.size, 1, none⟩) (by simp; omega) _).setCell (p := ⟨w1.heap.size, 2, none⟩) (by simp; omega) _)
            have F6 : Hid (Off (((w5.setCell ⟨w1.heap.size, 0, none⟩ (.int .i64 (p : Int))).setCell ⟨w1.heap.size, 1, none⟩ (.int .i64 (L : Int))).setCell ⟨w1.heap.size, 2, none⟩ (.slice a3 S.length cap3)) u4 a3) := Lib.hid (Off.behind w4.heap.size (fun g e => by have := (HO.out.lt g e).2; have := HB4.out.size; omega) (fun b off e => ⟨HF5.out b off e, by
              obtain ⟨b', off', e', c, -⟩ := S6.out k (by rw [P.atW_length, HTl.out]; exact hlt)
              rw [e] at e'; cases e'
              exact World.block_lt_of_cell? _ _ c⟩))
            have hk2 : k + 1 ≤ 2000000 := by omega
            have hszW : W2.heap.size ≤ w5.heap.size := Nat.le_trans hsz hsz5
            go_upto_region 12 with (fail)
            clear HAt HHas HN HS HB3 HS2
            generalize (((w5.setCell ⟨w1.heap.size, 0, none⟩ (.int .i64 (p : Int))).setCell ⟨w1.heap.size, 1, none⟩ (.int .i64 (L : Int))).setCell ⟨w1.heap.size, 2, none⟩ (.slice a3 S.length cap3)) = W6 at *
            clear z0 z1 z2 f0 f1 f2
            have O7 := Lib.hid (O6.out.alloc (.cells #[.int .i64 y] 3))
            have hnews := Lib.hid (news_new W6 #[.int .i64 y] 3)
            have hszW' : W2.heap.size ≤ (W6.alloc (.cells #[.int .i64 y] 3)).heap.size := by simp; omega
            go_wp2_with (at_builtin; refine listApp T25 rfl (.tmp 39) (.tmp 41) rfl W2.heap.size u4 k (U.map (.int .i64)) [.int .i64 y] 1 1 ⟨W6.heap.size, 0, none⟩ rfl O7.out rfl rfl hnews.out (by simp [Value.oneCell']) hk2 hszW' ?_; intro v8 w8 hown8 hg8 hL8)
            have hbn := Below.new W6 (.cells #[.int .i64 y] 3)
            have hJ8 : u4.ownBlock ≠ some w.heap.size := fun e => by have := (HO.out.lt _ e).1; omega
            have hJ9 : Off (W6.alloc (.cells #[.int .i64 y] 3)) u4 (some ⟨b1, off1, none⟩) := fun b off e => by cases e; exact ⟨fun e => by have := (HO.out.lt _ e).1; omega, by simp; omega⟩
            have hF7 := F6.out.below (w' := W6.alloc (.cells #[.int .i64 y] 3)) (by simp)
            go_roundw
            case rel => 
              refine ⟨k + 1, a3, cap3, by omega, by go_num, Lib.hid ?_, Lib.hid ((J6.out.on hbn).grown hg8 hJ8 hJ9), Lib.hid ((N6.out.on hbn).grown hg8 (fun e => hvn e.symm)), Lib.hid ?_, Lib.hid (fun _ => ⟨hF7.app hg8 hL8, fun b off e => ?_⟩), Lib.hid ((B6.out.alloc (by omega) _).grown hg8 (by simp; omega) (fun g e => by have := (HO.out.lt g e).1; omega)), by have := hg8.size; simp at this; omega⟩
              · rw [HSu.out, List.map_append]; exact hown8
              · rw [HSu.out]; exact (S6.out.alloc _).grown hg8 hF7
              · have := HF5.out b off e; have := HB4.out.size; omega
            case measure => simp [intOf]; omega
      · have hkn : k = S.length := by omega
        subst hkn
        have HFin : Hid (P.planE (p : Int) (L : Int) S = ((P.planTo S p L S.length).2, 0)) := HE
        have HLen := Lib.hid ((P.planTo_spec HV.out.ok HF.out S.length (Nat.le_refl _)).wears)
        go_wp2_with fail
        go_ret2
        refine ⟨_, by rw [HFin.out]; first | done | rfl, ?_, HB.out⟩
        rw [HFin.out]
        show wo.ownsRow w.heap.size 3 1 _ (P.planTo S p L S.length).2.length _
        rw [HLen.out]
        exact owns_mono HO.out (by have := HB2.out.size; omega)
  · have HN : Hid ((P.planE p L S).1 = []) := Lib.hid (by
      by_cases hcj : P.checkJob p L S = 0
      · cases hf : P.fitsB S p L with
        | true => rw [planE_yes hcj hf] at hc; exact absurd rfl hc
        | false => rw [planE_no hcj hf]
      · rw [planE_bad hcj])
    have hc' := ne_bool hc
    clear hc
    go_enter Try.func24, Try.ntmps24
    go_wp2_with fail
    refine (HC.out _ HJ0.out.st).mono ?_
    rintro e w1 ⟨rfl, hb1⟩
    have HB1 := Lib.hid (HB0.out.trans (hb1.mono HB0.out.size))
    have HJ1 := Lib.hid (HJ0.out.on hb1)
    clear hb1
    have x1 := HJ1.out.x1
    have x2 := HJ1.out.x2
    have x3 := HJ1.out.x3
    go_wp2_with fail
    refine (HC.out _ HJ1.out.st).mono ?_
    rintro e w2 ⟨rfl, hb2⟩
    go_wp2_with fail
    go_ret2
    exact ⟨_, rfl, by rw [HN.out]; exact World.ownsRow_nil _ _ _ _, HB1.out.trans (hb2.mono HB1.out.size)⟩
end Go.Proofs.Ytpkffjcmoghaaaa
/- Walk of the reference's Times. -/
namespace Go.Proofs.Ytpkffjcmoghaaaa
open Go.RowKit
theorem timesE_bad {p L : Int} {S : List P.Star} {i : Int} (h : P.starred p L S i ≠ 0) : P.timesE p L S i = ([], P.starred p L S i) := by unfold P.timesE; rw [if_pos h]
theorem timesE_no {p L : Int} {S : List P.Star} {i : Int} (h : P.starred p L S i = 0) (hf : P.fitsB S p L = false) : P.timesE p L S i = ([], 13) := by unfold P.timesE; rw [if_neg (not_not_intro h), hf]; rfl
theorem timesE_yes {p L : Int} {S : List P.Star} {i : Int} (h : P.starred p L S i = 0) (hf : P.fitsB S p L = true) : P.timesE p L S i = (P.times S p L i.toNat, 0) := by unfold P.timesE; rw [if_neg (not_not_intro h), hf]; rfl
theorem starred_zero {p L : Int} {S : List P.Star} {i : Int} (h : P.starred p L S i = 0) : P.Valid p L S ∧ 0 ≤ i ∧ i < S.length := by
  unfold P.starred at h
  split at h
  · rename_i h1; exact absurd h h1
  · rename_i h1
    split at h
    · omega
    · exact ⟨P.checkJob_iff.1 (Classical.not_not.1 h1), by omega, by omega⟩
theorem timesTo_succ (S : List P.Star) (p L : Int) (i : Nat) (w : Int) (k : Nat) : P.timesTo S p L i w (k + 1) = P.timesTo S p L i w k ++ if P.canAt S p L i (w + k) then [w + k] else [] := rfl
theorem timesTo_len (S : List P.Star) (p L : Int) (i : Nat) (w : Int) : ∀ k, (P.timesTo S p L i w k).length ≤ k
  | 0 => by simp [P.timesTo]
  | k + 1 => by
    rw [timesTo_succ, List.length_append]
    have := timesTo_len S p L i w k
    split <;> simp <;> omega
set_option maxRecDepth 100000 in
set_option maxHeartbeats 4000000 in
theorem refTimes_any (a : Option Addr) (cap : Nat) (p L : Int) (S : List P.Star) (i : Int) (w : World) (hl : S.length ≤ 1000000) (ha : Stars w a S) :
    Calls Try.prog 28 #[jobV p L a S.length cap, .int .i64 i] w fun e w' => ∃ v, e = .returned (.tuple #[v, .int .i64 (P.timesE p L S i).2]) ∧ w'.ownsRow w.heap.size 3 1 v (P.timesE p L S i).1.length ((P.timesE p L S i).1.map (.int .i64)) ∧ Below w.heap.size w w' := by
  have hb0 := Below.new w (.cells #[.int .i64 p, .int .i64 L, .slice a S.length cap] 24)
  have HJ0 := Lib.hid (Job.new ha p L cap 24)
  have HB0 := Lib.hid hb0
  have HC := Lib.hid (fun W hW => starred_any a cap p L S i W hl hW)
  clear ha hb0
  by_cases hc : P.starred p L S i = 0
  · obtain ⟨hv, i0, i1⟩ := starred_zero hc
    obtain ⟨i, rfl⟩ := Int.eq_ofNat_of_zero_le i0
    have hi : i < S.length := by omega
    have HH := Lib.hid (fun W hW => has_any a cap S p L W hl (by have := hv.p1; omega) (by have := hv.p5; omega) hv.l20 hW)
    rw [hc] at HC
    cases hf : P.fitsB S p L with
    | true =>
      have HE := Lib.hid (timesE_yes hc hf)
      have HV := Lib.hid hv
      have hs := hv.star hi
      obtain ⟨s1, s2, s3⟩ := hs
      have hL20 := hv.l20
      rw [hf] at HH
      clear hf hc hv i0
      go_enter Try.func28, Try.ntmps28
      go_wp2_with fail
      refine (HC.out _ HJ0.out.st).mono ?_
      rintro e w1 ⟨rfl, hb1⟩
      have HB1 := Lib.hid (HB0.out.trans (hb1.mono HB0.out.size))
      have HJ1 := Lib.hid (HJ0.out.on hb1)
      clear hb1
      have x1 := HJ1.out.x1
      have x2 := HJ1.out.x2
      have x3 := HJ1.out.x3
      go_wp2_with fail
      refine (HH.out _ HJ1.out.st).mono ?_
      rintro e w2 ⟨rfl, hb2⟩
      have HB2 := Lib.hid (HB1.out.trans (hb2.mono HB1.out.size))
      have HJ2 := Lib.hid (HJ1.out.on hb2)
      clear hb2 x1 x2 x3
      have x3 := HJ2.out.x3
      obtain ⟨b, off, rfl, c1, c2, -⟩ := HJ2.out.st i hi
      go_wp2_with fail
      have hsz0 := HB2.out.size
      clear x3 c1 c2
      go_loopw [6, 7] (fun o x wr => ∃ k : Nat, k ≤ ((P.star S i).2.1 - (P.star S i).1 + 1).toNat ∧ x = .int .i64 ((P.star S i).1 + k) ∧ Hid (wr.ownsRow w2.heap.size 3 1 o (P.timesTo S p L i (P.star S i).1 k).length ((P.timesTo S p L i (P.star S i).1 k).map (.int .i64))) ∧ Hid (Below w2.heap.size w2 wr)) (fun _ x _ => ((P.star S i).2.1 + 1 - intOf x).toNat)
      case atStart => exact ⟨0, by omega, by simp, Lib.hid (World.ownsRow_nil _ _ _ _), Lib.hid (Below.refl _ _)⟩
      case round =>
        obtain ⟨k, hk, rfl, HO, HB⟩ := hrel
        obtain ⟨wo, rfl⟩ : ∃ wo : World, wo = wr := ⟨_, rfl⟩
        have HJ := Lib.hid (HJ2.out.on HB.out)
        have hsz := HB.out.size
        have x1 := HJ.out.x1
        have x2 := HJ.out.x2
        have x3 := HJ.out.x3
        obtain ⟨b', off', e, -, c2, -⟩ := HJ.out.st i hi
        cases e
        by_cases hlt : (P.star S i).1 + (k : Int) ≤ (P.star S i).2.1
        · have HT := Lib.hid (timesTo_succ S p L i (P.star S i).1 k)
          have hln := timesTo_len S p L i (P.star S i).1 k
          have hk2 : k ≤ 20 := by omega
          obtain ⟨y, hy⟩ : ∃ y : Int, y = (P.star S i).1 + (k : Int) := ⟨_, rfl⟩
          have HY := Lib.hid hy
          rw [← hy] at HT hlt ⊢
          have hy0 : 0 ≤ y := by omega
          have hy20 : y < 20 := by omega
          clear hy
          have HAt := Lib.hid (refAt_any (some ⟨b, off, none⟩) cap p L S i y wo hi hl HJ.out.st)
          cases hcan : P.canAt S p L i y with
          | true =>
            have HHas := Lib.hid (fun W a2 cap2 hs => hasAt_any p L S i y hl (by have := HV.out.p1; omega) (by have := HV.out.p5; omega) hL20 hcan W a2 cap2 hs)
            have HT2 : Hid (P.timesTo S p L i (P.star S i).1 (k + 1) = P.timesTo S p L i (P.star S i).1 k ++ [y]) := Lib.hid (by rw [HT.out, hcan]; rfl)
            clear hcan HT
            generalize P.timesTo S p L i (P.star S i).1 k = T at *
            go_wp2_with fail
            refine HAt.out.mono ?_
            rintro e w3 ⟨a3, cap3, rfl, hs3, -, -, hb3⟩
            have HS3 := Lib.hid hs3
            have HB3 := Lib.hid (HB.out.trans (hb3.mono HB.out.size))
            have HO3 := Lib.hid (owns_below HO.out hb3)
            clear hb3 hs3
            go_wp2_with fail
            refine (HHas.out _ _ _ HS3.out).mono ?_
            rintro e w4 ⟨rfl, hb4⟩
            have HB4 := Lib.hid (HB3.out.trans (hb4.mono HB3.out.size))
            have HO4 := Lib.hid (owns_below HO3.out hb4)
            clear hb4
            have O5 := Lib.hid (HO4.out.alloc (.cells #[.int .i64 y] 3))
            have hnews := Lib.hid (news_new w4 #[.int .i64 y] 3)
            have hk3 : T.length + 1 ≤ 2000000 := by omega
            have hsz4 := HB4.out.size
            have hszW : w2.heap.size ≤ (w4.alloc (.cells #[.int .i64 y] 3)).heap.size := by simp; omega
            go_wp2_with (at_builtin; refine listApp T25 rfl (.tmp 39) (.tmp 41) rfl w2.heap.size u6 T.length (T.map (.int .i64)) [.int .i64 y] 1 1 ⟨w4.heap.size, 0, none⟩ rfl O5.out rfl rfl hnews.out (by simp [Value.oneCell']) hk3 hszW ?_; intro v8 w8 hown8 hg8 hL8)
            go_roundw
            case rel => exact ⟨k + 1, by have := HY.out; omega, by have := HY.out; go_num, by rw [HT2.out, List.length_append, List.map_append]; exact Lib.hid hown8, Lib.hid ((HB4.out.alloc hsz4 _).grown hg8 hszW (fun g e => (HO4.out.lt g e).1))⟩
            case measure => simp [intOf]; omega
          | false =>
            have HHas := Lib.hid (fun W a2 cap2 hs => hasAt_any p L S i y hl (by have := HV.out.p1; omega) (by have := HV.out.p5; omega) hL20 hcan W a2 cap2 hs)
            have HT2 : Hid (P.timesTo S p L i (P.star S i).1 (k + 1) = P.timesTo S p L i (P.star S i).1 k) := Lib.hid (by rw [HT.out, hcan]; simp)
            clear hcan HT
            generalize P.timesTo S p L i (P.star S i).1 k = T at *
            go_wp2_with fail
            refine HAt.out.mono ?_
            rintro e w3 ⟨a3, cap3, rfl, hs3, -, -, hb3⟩
            have HS3 := Lib.hid hs3
            have HB3 := Lib.hid (HB.out.trans (hb3.mono HB.out.size))
            have HO3 := Lib.hid (owns_below HO.out hb3)
            clear hb3 hs3
            go_wp2_with fail
            refine (HHas.out _ _ _ HS3.out).mono ?_
            rintro e w4 ⟨rfl, hb4⟩
            have HB4 := Lib.hid (HB3.out.trans (hb4.mono HB3.out.size))
            have HO4 := Lib.hid (owns_below HO3.out hb4)
            clear hb4
            go_wp2_with fail
            go_roundw
            case rel => exact ⟨k + 1, by have := HY.out; omega, by have := HY.out; go_num, by rw [HT2.out]; exact HO4, HB4⟩
            case measure => simp [intOf]; omega
        · have hkk : k = ((P.star S i).2.1 - (P.star S i).1 + 1).toNat := by omega
          have HF : Hid (P.timesE p L S (i : Int) = (P.timesTo S p L i (P.star S i).1 k, 0)) := Lib.hid (by rw [HE.out, hkk]; rfl)
          clear hkk
          go_wp2_with fail
          go_ret2
          exact ⟨_, by rw [HF.out]; first | done | rfl, by rw [HF.out]; exact owns_mono HO.out hsz0, HB2.out.trans (HB.out.mono hsz0)⟩
    | false =>
      have HE := Lib.hid (timesE_no hc hf)
      rw [hf] at HH
      clear hf hc hv i0
      go_enter Try.func28, Try.ntmps28
      go_wp2_with fail
      refine (HC.out _ HJ0.out.st).mono ?_
      rintro e w1 ⟨rfl, hb1⟩
      have HB1 := Lib.hid (HB0.out.trans (hb1.mono HB0.out.size))
      have HJ1 := Lib.hid (HJ0.out.on hb1)
      clear hb1
      have x1 := HJ1.out.x1
      have x2 := HJ1.out.x2
      have x3 := HJ1.out.x3
      go_wp2_with fail
      refine (HH.out _ HJ1.out.st).mono ?_
      rintro e w2 ⟨rfl, hb2⟩
      go_wp2_with fail
      go_ret2
      exact ⟨_, by rw [HE.out]; first | done | rfl, by rw [HE.out]; exact World.ownsRow_nil _ _ _ _, HB1.out.trans (hb2.mono HB1.out.size)⟩
  · have HE := Lib.hid (timesE_bad hc)
    have hc' := ne_bool hc
    clear hc
    go_enter Try.func28, Try.ntmps28
    go_wp2_with fail
    refine (HC.out _ HJ0.out.st).mono ?_
    rintro e w1 ⟨rfl, hb1⟩
    have HB1 := Lib.hid (HB0.out.trans (hb1.mono HB0.out.size))
    have HJ1 := Lib.hid (HJ0.out.on hb1)
    clear hb1
    have x1 := HJ1.out.x1
    have x2 := HJ1.out.x2
    have x3 := HJ1.out.x3
    go_wp2_with fail
    refine (HC.out _ HJ1.out.st).mono ?_
    rintro e w2 ⟨rfl, hb2⟩
    go_wp2_with fail
    go_ret2
    exact ⟨_, by rw [HE.out]; first | done | rfl, by rw [HE.out]; exact World.ownsRow_nil _ _ _ _, HB1.out.trans (hb2.mono HB1.out.size)⟩
end Go.Proofs.Ytpkffjcmoghaaaa
/- Walks of the reference's functions: has, IsList, Weigh, Some. -/
namespace Go.Proofs.Ytpkffjcmoghaaaa
open Go.RowKit
theorem nth_mem {l : List Int} {j : Nat} (h : j < l.length) : nth l j ∈ l := by rw [nth_eq l j h]; exact List.getElem_mem h
set_option maxHeartbeats 400000 in
theorem refHas_any (b : Option Addr) (cap : Nat) (l : List Int) (n : Int) (w : World) (hl : l.length ≤ 1000000) (hb : Ints .i64 w b l) :
    Calls Try.prog 74 #[.slice b l.length cap, .int .i64 n] w fun e w' => e = .returned (.bool (decide (n ∈ l))) ∧ w = w' := by
  have HA := Lib.hid hb; clear hb
  go_enter Try.func74, Try.ntmps74
  go_wp2
  go_loop [5] (fun i => ∃ j : Nat, j ≤ l.length ∧ i = .int .i64 j ∧ Hid (n ∉ l.take j)) (fun i => l.length - (intOf i).toNat)
  case atStart => exact ⟨0, by omega, rfl, Lib.hid (by simp)⟩
  case round =>
    obtain ⟨j, hj, rfl, hr⟩ := hrel
    by_cases hlt : j < l.length
    · obtain ⟨b1, off1, rfl, c⟩ := HA.out j hlt
      by_cases e : nth l j = n
      · have e1 : (nth l j == n) = true := by rw [e]; simp
        have HF : Hid (decide (n ∈ l) = true) := Lib.hid (by rw [decide_eq_true_eq, ← e]; exact nth_mem hlt)
        clear e
        go_wp2_with fail
        go_ret
        exact ⟨ret_bool (by rw [HF.out]), rfl⟩
      · have e1 : (nth l j == n) = false := by simpa using e
        have HF : Hid (n ∉ l.take (j + 1)) := Lib.hid (by
          rw [take_succ_nth l j hlt, List.mem_append]; rintro (h | h)
          · exact hr.out h
          · simp at h; exact e h.symm)
        clear e
        go_wp2_with fail
        go_round
        case rel => exact ⟨j + 1, by omega, by go_num, HF⟩
        case measure => simp [intOf]; omega
    · have HF : Hid (decide (n ∈ l) = false) := Lib.hid (by rw [decide_eq_false_iff_not]; have := hr.out; rwa [List.take_of_length_le (by omega)] at this)
      go_wp2_with fail
      go_ret
      exact ⟨ret_bool (by rw [HF.out]), rfl⟩
/-! ### IsList -/
def listTo (l : List Int) (below : Int) (n : Nat) : Bool := (List.range n).all fun i => decide (0 ≤ P.wear l i ∧ P.wear l i < below ∧ (0 < i → P.wear l (i - 1) < P.wear l i))
theorem listTo_succ {l : List Int} {below : Int} {n : Nat} (h : listTo l below n = true) (h1 : 0 ≤ nth l n) (h2 : nth l n < below) (h3 : 0 < n → nth l (n - 1) < nth l n) : listTo l below (n + 1) = true := by
  unfold listTo at *
  rw [List.range_succ, List.all_append, h]
  simp only [List.all_cons, List.all_nil, Bool.and_true, Bool.true_and, decide_eq_true_eq]
  exact ⟨h1, h2, h3⟩
theorem isList_no {l : List Int} {below : Int} {n : Nat} (hn : n < l.length) (h : ¬ (0 ≤ nth l n ∧ nth l n < below ∧ (0 < n → nth l (n - 1) < nth l n))) : P.isList l below = false := by
  unfold P.isList; rw [List.all_eq_false]
  refine ⟨n, by simpa using hn, ?_⟩
  rw [decide_eq_true_eq]; exact h
theorem isList_iff {l : List Int} {below : Int} : P.isList l below = true ↔ ∀ i, i < l.length → 0 ≤ nth l i ∧ nth l i < below ∧ (0 < i → nth l (i - 1) < nth l i) := by
  unfold P.isList; rw [List.all_eq_true]
  constructor
  · intro h i hi; have := h i (by simpa using hi); rwa [decide_eq_true_eq] at this
  · intro h i hi; rw [decide_eq_true_eq]; exact h i (by simpa using hi)
set_option maxRecDepth 100000 in
set_option maxHeartbeats 1000000 in
theorem refIsList_any (b : Option Addr) (cap : Nat) (l : List Int) (below : Int) (w : World) (hl : l.length ≤ 1000000) (hb : Ints .i64 w b l) :
    Calls Try.prog 68 #[.slice b l.length cap, .int .i64 below] w fun e w' => e = .returned (.bool (P.isList l below)) ∧ Drew w w' := by
  have HA := Lib.hid hb; clear hb
  go_enter Try.func68, Try.ntmps68
  go_wp2
  go_loopw [5] (fun i wr => ∃ j : Nat, j ≤ l.length ∧ i = .int .i64 j ∧ Hid (listTo l below j = true) ∧ Hid (Drew w wr)) (fun i _ => l.length - (intOf i).toNat)
  case atStart => exact ⟨0, by omega, rfl, Lib.hid rfl, Lib.hid (Drew.refl _)⟩
  case round =>
    obtain ⟨j, hj, rfl, hr, HD⟩ := hrel
    by_cases hlt : j < l.length
    · obtain ⟨b1, off1, rfl, c⟩ := (HA.out.drew HD.out) j hlt
      have q1 : (0 : Int) ≤ (j : Int) := by omega
      have q2 : (j : Int) < (l.length : Int) := by omega
      by_cases d1 : nth l j < 0
      · have HF := Lib.hid (isList_no (below := below) hlt (fun h => by omega))
        go_wp2_with fail
        go_quiet (fail)
        go_wp2_with fail
        go_ret
        exact ⟨ret_bool (by rw [HF.out]), HD.out.drewN _⟩
      · have d1b : decide (nth l j < 0) = false := decide_eq_false d1
        by_cases d2 : below ≤ nth l j
        · have HF := Lib.hid (isList_no (below := below) hlt (fun h => by omega))
          go_wp2_with fail
          go_quiet (fail)
          go_wp2_with fail
          go_ret
          exact ⟨ret_bool (by rw [HF.out]), HD.out.drewN _⟩
        · have d2b : decide (below ≤ nth l j) = false := decide_eq_false d2
          by_cases d3 : j = 0
          · have HF := Lib.hid (listTo_succ hr.out (by omega) (by omega) (fun h => by omega))
            have d3b : decide (0 < j) = false := by rw [decide_eq_false_iff_not]; omega
            clear d3
            go_wp2_with fail
            go_quiet (fail)
            go_wp2_with fail
            go_roundw
            case rel => exact ⟨j + 1, by omega, by go_num, HF, Lib.hid (HD.out.drewN _)⟩
            case measure => simp [intOf]; omega
          · obtain ⟨k, rfl⟩ : ∃ k, j = k + 1 := ⟨j - 1, by omega⟩
            have c2 := (HA.out.drew HD.out).cellAt k (by omega)
            have d3b : decide ((0 : Int) < ((k + 1 : Nat) : Int)) = true := by rw [decide_eq_true_eq]; omega
            have k1 : IntKind.i64.wrap (((k + 1 : Nat) : Int) - 1) = (k : Int) := by rw [IntWalk.i64_in _ (by omega)]; omega
            have q3 : (0 : Int) ≤ (k : Int) := by omega
            have q4 : (k : Int) < (l.length : Int) := by omega
            by_cases d4 : nth l (k + 1) ≤ nth l k
            · have HF := Lib.hid (isList_no (below := below) hlt (fun h => by have := h.2.2 (by omega); simp only [Nat.add_sub_cancel] at this; omega))
              go_wp2_with fail
              go_quiet (fail)
              go_wp2_with fail
              go_ret
              exact ⟨ret_bool (by rw [HF.out]), HD.out.drewN _⟩
            · have HF := Lib.hid (listTo_succ hr.out (by omega) (by omega) (fun h => by simp only [Nat.add_sub_cancel]; omega))
              have d4b : decide (nth l (k + 1) ≤ nth l k) = false := decide_eq_false d4
              go_wp2_with fail
              go_quiet (fail)
              go_wp2_with fail
              go_roundw
              case rel => exact ⟨k + 1 + 1, by omega, by go_num, HF, Lib.hid (HD.out.drewN _)⟩
              case measure => simp [intOf]; omega
    · have HF : Hid (P.isList l below = true) := Lib.hid (by have := hr.out; rw [show j = l.length by omega] at this; exact this)
      go_wp2_with fail
      go_ret
      exact ⟨ret_bool (by rw [HF.out]), HD.out⟩
/-! ### Weigh -/
def wsum (S : List P.Star) : Int := (S.map fun s => s.2.2).sum
theorem wsum_sel (S : List P.Star) (I : List Nat) : wsum (P.sel S I) = P.weigh S I := by unfold wsum P.sel P.weigh; rw [List.map_map]; rfl
theorem wsum_take (S : List P.Star) (j : Nat) (h : j < S.length) : wsum (S.take (j + 1)) = wsum (S.take j) + (P.star S j).2.2 := by
  rw [take_succ_star S j h]; unfold wsum; simp
theorem wsum_bd {S : List P.Star} (h : ∀ s ∈ S, 1 ≤ s.2.2 ∧ s.2.2 ≤ 100) : 0 ≤ wsum S ∧ wsum S ≤ 100 * S.length := by
  induction S with
  | nil => simp [wsum]
  | cons s r ih =>
    have h1 := ih (fun x hx => h x (by simp [hx]))
    have h2 := h s (by simp)
    have e : wsum (s :: r) = s.2.2 + wsum r := by simp [wsum]
    rw [e]; simp only [List.length_cons]; omega
set_option maxHeartbeats 400000 in
theorem refWeigh_any (a : Option Addr) (cap : Nat) (S : List P.Star) (w : World) (hl : S.length ≤ 1000000) (hw : ∀ s ∈ S, 1 ≤ s.2.2 ∧ s.2.2 ≤ 100) (ha : Stars w a S) :
    Calls Try.prog 70 #[.slice a S.length cap] w fun e w' => e = .returned (.int .i64 (wsum S)) ∧ w = w' := by
  have HA := Lib.hid ha; clear ha
  have HW := Lib.hid hw; clear hw
  go_enter Try.func70, Try.ntmps70
  go_wp2
  go_loop [3, 4] (fun n i => ∃ j : Nat, j ≤ S.length ∧ i = .int .i64 j ∧ n = .int .i64 (wsum (S.take j))) (fun _ i => S.length - (intOf i).toNat)
  case atStart => exact ⟨0, by omega, rfl, rfl⟩
  case round =>
    obtain ⟨j, hj, rfl, rfl⟩ := hrel
    by_cases hlt : j < S.length
    · obtain ⟨b, off, rfl, -, -, c3⟩ := HA.out j hlt
      have HS := Lib.hid (wsum_take S j hlt)
      have hb := wsum_bd (S := S.take j) (fun s hs => HW.out s (List.mem_of_mem_take hs))
      have hb2 := HW.out _ (P.star_mem hlt)
      have hb3 : ((S.take j).length : Int) ≤ 1000000 := by rw [List.length_take]; omega
      obtain ⟨m1, m2⟩ := hb
      obtain ⟨m3, m4⟩ := hb2
      go_wp2_with fail
      go_round
      case rel => exact ⟨j + 1, by omega, by go_num, by rw [HS.out]⟩
      case measure => simp [intOf]; omega
    · have HS : Hid (S.take j = S) := Lib.hid (List.take_of_length_le (by omega))
      go_wp2_with fail
      go_ret
      exact ⟨ret_int (by rw [HS.out]), rfl⟩
end Go.Proofs.Ytpkffjcmoghaaaa
/- Walks of the reference's functions: Some, CheckStruck. -/
namespace Go.Proofs.Ytpkffjcmoghaaaa
open Go.RowKit
theorem idx_take (l : List Int) (j : Nat) (h : j < l.length) : P.idx (l.take (j + 1)) = P.idx (l.take j) ++ [(nth l j).toNat] := by
  rw [take_succ_nth l j h]; simp [P.idx]
theorem sel_snoc (S : List P.Star) (I : List Nat) (i : Nat) : P.sel S (I ++ [i]) = P.sel S I ++ [P.star S i] := by simp [P.sel]
theorem idx_length (l : List Int) : (P.idx l).length = l.length := by simp [P.idx]
theorem sel_length (S : List P.Star) (I : List Nat) : (P.sel S I).length = I.length := by simp [P.sel]
set_option maxRecDepth 100000 in
set_option maxHeartbeats 2000000 in
theorem refSome_any (a : Option Addr) (cap : Nat) (p L : Int) (S : List P.Star) (b : Option Addr) (cap2 : Nat) (l : List Int) (w : World) (hl : l.length ≤ 1000000) (_hS : S.length ≤ 1000000) (hx : ∀ x ∈ l, 0 ≤ x ∧ x < S.length) (ha : Stars w a S) (hb : Ints .i64 w b l) :
    Calls Try.prog 69 #[jobV p L a S.length cap, .slice b l.length cap2] w fun e w' => ∃ v, e = .returned v ∧ w'.ownsRow w.heap.size 59 3 v l.length (flatS (P.sel S (P.idx l))) ∧ Below w.heap.size w w' := by
  have hb0 := Below.new w (.cells #[.int .i64 p, .int .i64 L, .slice a S.length cap] 24)
  have HJ0 := Lib.hid (Job.new ha p L cap 24)
  have HI0 := Lib.hid (hb.below hb0)
  have HB0 := Lib.hid hb0
  have HX := Lib.hid hx
  clear ha hb0 hb hx
  go_enter Try.func69, Try.ntmps69
  go_wp2_with fail
  have HW0 : ∃ W0, W0 = w.alloc (.cells #[.int .i64 p, .int .i64 L, .slice a S.length cap] 24) := ⟨_, rfl⟩
  obtain ⟨W0, hW0⟩ := HW0
  rw [← hW0] at HJ0 HI0 HB0 ⊢
  clear hW0
  go_loopw [5, 6] (fun o i wr => ∃ j : Nat, j ≤ l.length ∧ i = .int .i64 j ∧ Hid (wr.ownsRow W0.heap.size 59 3 o j (flatS (P.sel S (P.idx (l.take j))))) ∧ Hid (Below W0.heap.size W0 wr)) (fun _ i _ => l.length - (intOf i).toNat)
  case atStart => exact ⟨0, by omega, rfl, Lib.hid (World.ownsRow_nil _ _ _ _), Lib.hid (Below.refl _ _)⟩
  case round =>
    obtain ⟨j, hj, rfl, HO, HB⟩ := hrel
    have HJ := Lib.hid (HJ0.out.on HB.out)
    have HI := Lib.hid (HI0.out.below HB.out)
    have hsz := HB.out.size
    by_cases hlt : j < l.length
    · obtain ⟨b1, off1, rfl, c⟩ := HI.out j hlt
      obtain ⟨x0, x1⟩ := HX.out _ (nth_mem hlt)
      obtain ⟨k, hk⟩ := Int.eq_ofNat_of_zero_le x0
      have HT : Hid (flatS (P.sel S (P.idx (l.take (j + 1)))) = flatS (P.sel S (P.idx (l.take j))) ++ encS (P.star S k)) := Lib.hid (by
        rw [idx_take l j hlt, sel_snoc, flatS_snoc, hk]; rfl)
      have hkS : k < S.length := by omega
      obtain ⟨b2, off2, rfl, s1, s2, s3⟩ := HJ.out.st k hkS
      rw [hk] at c
      clear hk x0 x1
      have x3 := HJ.out.x3
      have q1 : (0 : Int) ≤ (j : Int) := by omega
      have q2 : (j : Int) < (l.length : Int) := by omega
      have q3 : (0 : Int) ≤ (k : Int) := by omega
      have q4 : (k : Int) < (S.length : Int) := by omega
      have l1 := World.block_lt_of_cell? wr _ c
      have l2 := World.block_lt_of_cell? wr _ s1
      have l3 := HJ.out.lt
      have hn : j + 1 ≤ 2000000 := by omega
      have o1 := Off.ahead HO.out (a := some ⟨b1, off1, none⟩) (fun b off e => by cases e; obtain ⟨b', off', e', c'⟩ := HI0.out j hlt; cases e'; exact World.block_lt_of_cell? W0 _ c') hsz
      have o2 := Off.ahead HO.out (a := some ⟨b2, off2, none⟩) (fun b off e => by cases e; obtain ⟨b', off', e', c', -⟩ := HJ0.out.st k hkS; cases e'; exact World.block_lt_of_cell? W0 _ c') hsz
      have n1 : u5.ownBlock ≠ some b1 := (o1 b1 off1 rfl).1
      have n2 : u5.ownBlock ≠ some b2 := (o2 b2 off2 rfl).1
      have n3 : u5.ownBlock ≠ some w.heap.size := fun e => by have := (HO.out.lt _ e).1; have := HJ0.out.lt; omega
      clear o1 o2
      go_wp2_with fail
      go_region_held3 (fun w' => w'.cell? ⟨w.heap.size, 2, none⟩ = some (.slice (some ⟨b2, off2, none⟩) S.length cap) ∧ w'.cell? ⟨b1, off1 + j, none⟩ = some (.int .i64 (k : Int)) ∧ w'.cell? ⟨b2, off2 + k * 3, none⟩ = some (.int .i64 (P.star S k).1) ∧ w'.cell? ⟨b2, off2 + k * 3 + 1, none⟩ = some (.int .i64 (P.star S k).2.1) ∧ w'.cell? ⟨b2, off2 + k * 3 + 2, none⟩ = some (.int .i64 (P.star S k).2.2))
        (first | exact ⟨hg2.cell (by go_keep) (fun e => n3 e.symm), hg2.cell (by go_keep) (fun e => n1 e.symm), hg2.cell (by go_keep) (fun e => n2 e.symm), hg2.cell (by go_keep) (fun e => n2 e.symm), hg2.cell (by go_keep) (fun e => n2 e.symm)⟩ | go_keep)
        ((refine stepApp T22 (by rfl) (.tmp 13) (.tmp 22) (by rfl) W0.heap.size u5 j (flatS (P.sel S (P.idx (l.take j)))) (encS (P.star S k)) 1 1 ⟨wr.heap.size, 0, none⟩ (by rfl) (HO.out.alloc _) (by rfl) (by rfl) (news_new _ _ _) (by simp [encS, Value.oneCell']) hn (by simp; omega) ?_; intro v2 w2 hown2 hg2 hL2))
      go_wp2_with fail
      go_roundw
      case rel => exact ⟨j + 1, by omega, by go_num, by rw [HT.out]; exact Lib.hid hown2, Lib.hid (((HB.out.drew).alloc (by simp; omega) _).grown hg2 (by simp; omega) (fun g e => (HO.out.lt g e).1))⟩
      case measure => simp [intOf]; omega
    · have hjl : j = l.length := by omega
      subst hjl
      have HT : Hid (l.take l.length = l) := Lib.hid (List.take_length)
      have hs0 := HB0.out.size
      go_wp2_with fail
      go_ret
      exact ⟨_, rfl, by have := HO.out; rw [HT.out] at this; exact owns_mono this hs0, HB0.out.trans (HB.out.mono hs0)⟩
/-! ### CheckStruck -/
theorem isList_mem {l : List Int} {n : Nat} (h : P.isList l n = true) : ∀ x ∈ l, 0 ≤ x ∧ x < n := by
  intro x hx
  obtain ⟨i, hi, rfl⟩ := List.getElem_of_mem hx
  have := isList_iff.1 h i hi
  rw [nth_eq l i hi] at this
  exact ⟨this.1, this.2.1⟩
theorem isList_lt {l : List Int} {n : Nat} (h : P.isList l n = true) : l.Pairwise (· < ·) := by
  rw [List.pairwise_iff_getElem]
  intro i j hi hj hij
  have key : ∀ d i, i + d + 1 < l.length → nth l i < nth l (i + d + 1) := by
    intro d
    induction d with
    | zero => intro i h1; have := (isList_iff.1 h (i + 1) (by omega)).2.2 (by omega); simpa using this
    | succ d ih =>
      intro i h1
      have h2 := ih i (by omega)
      have h3 := (isList_iff.1 h (i + d + 1 + 1) (by omega)).2.2 (by omega)
      simp only [Nat.add_sub_cancel] at h3
      have : i + (d + 1) + 1 = i + d + 1 + 1 := by omega
      rw [this]; omega
  obtain ⟨d, rfl⟩ : ∃ d, j = i + d + 1 := ⟨j - i - 1, by omega⟩
  have := key d i hj
  rwa [nth_eq l i hi, nth_eq l _ hj] at this
theorem nodup_of_lt {l : List Int} (h : l.Pairwise (· < ·)) : l.Nodup := List.Pairwise.imp (fun {a b} hab e => by omega) h
theorem isList_len {l : List Int} {n : Nat} (h : P.isList l n = true) : l.length ≤ n := by
  have h1 : (P.idx l).Nodup := by
    unfold P.idx
    have := isList_lt h
    refine List.Pairwise.map _ (fun a b (hab : a < b ∧ 0 ≤ a ∧ 0 ≤ b) e => ?_) (List.Pairwise.imp_of_mem (fun {a b} ha hb hab => ⟨hab, (isList_mem h a ha).1, (isList_mem h b hb).1⟩) this)
    omega
  have h2 := List.Nodup.length_le_of_subset (l₂ := List.range n) h1 (fun i hi => by
    unfold P.idx at hi
    rw [List.mem_map] at hi
    obtain ⟨x, hx, rfl⟩ := hi
    have := isList_mem h x hx
    simp; omega)
  rw [idx_length] at h2; simpa using h2
theorem struckE_bad {p L : Int} {S : List P.Star} {l : List Int} (h : P.checkJob p L S ≠ 0) : P.struckE p L S l = (0, P.checkJob p L S) := by unfold P.struckE; rw [if_pos h]
theorem struckE_list {p L : Int} {S : List P.Star} {l : List Int} (h : P.checkJob p L S = 0) (h1 : P.isList l S.length = false) : P.struckE p L S l = (0, 3) := by unfold P.struckE; rw [if_neg (not_not_intro h), if_pos h1]
theorem struckE_no {p L : Int} {S : List P.Star} {l : List Int} (h : P.checkJob p L S = 0) (h1 : P.isList l S.length = true) (hf : P.fitsB (P.sel S (P.idx l)) p L = false) : P.struckE p L S l = (0, 13) := by unfold P.struckE; rw [if_neg (not_not_intro h), if_neg (by rw [h1]; simp), hf]; rfl
theorem struckE_yes {p L : Int} {S : List P.Star} {l : List Int} (h : P.checkJob p L S = 0) (h1 : P.isList l S.length = true) (hf : P.fitsB (P.sel S (P.idx l)) p L = true) : P.struckE p L S l = (P.weigh S (P.idx l), 0) := by unfold P.struckE; rw [if_neg (not_not_intro h), if_neg (by rw [h1]; simp), hf]; rfl
theorem sel_wt {p L : Int} {S : List P.Star} (hv : P.Valid p L S) {I : List Nat} (hI : ∀ i ∈ I, i < S.length) : ∀ s ∈ P.sel S I, 1 ≤ s.2.2 ∧ s.2.2 ≤ 100 := by
  intro s hs
  unfold P.sel at hs
  rw [List.mem_map] at hs
  obtain ⟨i, hi, rfl⟩ := hs
  exact hv.weight (hI i hi)
theorem idx_lt {l : List Int} {n : Nat} (h : ∀ x ∈ l, 0 ≤ x ∧ x < (n : Int)) : ∀ i ∈ P.idx l, i < n := by
  intro i hi
  unfold P.idx at hi
  rw [List.mem_map] at hi
  obtain ⟨x, hx, rfl⟩ := hi
  have := h x hx
  omega
set_option maxRecDepth 100000 in
set_option maxHeartbeats 2000000 in
theorem refCheckStruck_any (a : Option Addr) (cap : Nat) (p L : Int) (S : List P.Star) (b : Option Addr) (cap2 : Nat) (l : List Int) (w : World) (hl : S.length ≤ 1000000) (hl2 : l.length ≤ 1000000) (ha : Stars w a S) (hb : Ints .i64 w b l) :
    Calls Try.prog 35 #[jobV p L a S.length cap, .slice b l.length cap2] w fun e w' => e = .returned (.tuple #[.int .i64 (P.struckE p L S l).1, .int .i64 (P.struckE p L S l).2]) ∧ Below w.heap.size w w' := by
  have hb0 := Below.new w (.cells #[.int .i64 p, .int .i64 L, .slice a S.length cap] 24)
  have HJ0 := Lib.hid (Job.new ha p L cap 24)
  have HI0 := Lib.hid (hb.below hb0)
  have HB0 := Lib.hid hb0
  have HC := Lib.hid (fun W hW => refCheckJob_any a cap p L S W hl hW)
  clear ha hb0 hb
  by_cases hc : P.checkJob p L S = 0
  · rw [hc] at HC
    have HV := Lib.hid (P.checkJob_iff.1 hc)
    cases hli : P.isList l S.length with
    | false =>
      have HE := Lib.hid (struckE_list hc hli)
      have HLi := fun W hW => refIsList_any b cap2 l (S.length : Int) W hl2 hW
      rw [hli] at HLi
      have HLi := Lib.hid HLi
      clear hc hli
      go_enter Try.func35, Try.ntmps35
      go_wp2_with fail
      refine (HC.out _ HJ0.out.st).mono ?_
      rintro e w1 ⟨rfl, hb1⟩
      have HB1 := Lib.hid (HB0.out.trans (hb1.mono HB0.out.size))
      have HJ1 := Lib.hid (HJ0.out.on hb1)
      have HI1 := Lib.hid (HI0.out.below hb1)
      clear hb1
      have x3 := HJ1.out.x3
      go_wp2_with fail
      refine (HLi.out _ HI1.out).mono ?_
      rintro e w2 ⟨rfl, hd⟩
      go_wp2_with fail
      go_ret2
      exact ⟨by rw [HE.out]; first | done | rfl, HB1.out.trans ((hd.below w1.heap.size).mono HB1.out.size)⟩
    | true =>
      have hmem := isList_mem hli
      have hlen := isList_len hli
      have h16 := HV.out.len
      have HLi := fun W hW => refIsList_any b cap2 l (S.length : Int) W hl2 hW
      rw [hli] at HLi
      have HLi := Lib.hid HLi
      have HSo := Lib.hid (fun W hW hI => refSome_any a cap p L S b cap2 l W hl2 hl hmem hW hI)
      have HFt := fun W a3 cap3 hs => fits_any a3 cap3 (P.sel S (P.idx l)) p L W (by rw [sel_length, idx_length]; exact hl2) (by have := HV.out.p1; omega) (by have := HV.out.p5; omega) HV.out.l20 hs
      rw [sel_length, idx_length] at HFt
      have HWe := fun W a3 cap3 hs => refWeigh_any a3 cap3 (P.sel S (P.idx l)) W (by rw [sel_length, idx_length]; exact hl2) (sel_wt HV.out (idx_lt hmem)) hs
      rw [sel_length, idx_length, wsum_sel] at HWe
      have HWe := Lib.hid HWe
      cases hf : P.fitsB (P.sel S (P.idx l)) p L
      all_goals
        have HE : Hid (P.struckE p L S l = _) := Lib.hid (by first | exact struckE_yes hc hli hf | exact struckE_no hc hli hf)
        rw [hf] at HFt
        have HFt := Lib.hid HFt
        clear hc hli hf hmem
        go_enter Try.func35, Try.ntmps35
        go_wp2_with fail
        refine (HC.out _ HJ0.out.st).mono ?_
        rintro e w1 ⟨rfl, hb1⟩
        have HB1 := Lib.hid (HB0.out.trans (hb1.mono HB0.out.size))
        have HJ1 := Lib.hid (HJ0.out.on hb1)
        have HI1 := Lib.hid (HI0.out.below hb1)
        clear hb1
        have x3 := HJ1.out.x3
        go_wp2_with fail
        refine (HLi.out _ HI1.out).mono ?_
        rintro e w2 ⟨rfl, hd⟩
        have HB2 := Lib.hid (HB1.out.trans ((hd.below w1.heap.size).mono HB1.out.size))
        have HJ2 := Lib.hid (HJ1.out.on (hd.below _))
        have HI2 := Lib.hid (HI1.out.drew hd)
        clear hd x3
        have x1 := HJ2.out.x1
        have x2 := HJ2.out.x2
        have x3 := HJ2.out.x3
        go_wp2_with fail
        refine (HSo.out _ HJ2.out.st HI2.out).mono ?_
        rintro e w3 ⟨v3, rfl, hown3, hb3⟩
        have HB3 := Lib.hid (HB2.out.trans (hb3.mono HB2.out.size))
        have HJ3 := Lib.hid (HJ2.out.on hb3)
        obtain ⟨-, a3, cap3, rfl, hst3, -⟩ := owns_stars hown3
        have HS3 := Lib.hid hst3
        clear hb3 hst3 hown3 x1 x2 x3
        have x1 := HJ3.out.x1
        have x2 := HJ3.out.x2
        go_wp2_with fail
        refine (HFt.out _ _ _ HS3.out).mono ?_
        rintro e w4 ⟨rfl, rfl⟩
        go_wp2_with fail
        first
        | (go_ret2
           exact ⟨by rw [HE.out]; first | done | rfl, HB3.out⟩)
        | (refine (HWe.out _ _ _ HS3.out).mono ?_
           rintro e w5 ⟨rfl, rfl⟩
           go_wp2_with fail
           go_ret2
           exact ⟨by rw [HE.out]; first | done | rfl, HB3.out⟩)
  · have HE := Lib.hid (struckE_bad (l := l) hc)
    have hc' := ne_bool hc
    clear hc
    go_enter Try.func35, Try.ntmps35
    go_wp2_with fail
    refine (HC.out _ HJ0.out.st).mono ?_
    rintro e w1 ⟨rfl, hb1⟩
    have HB1 := Lib.hid (HB0.out.trans (hb1.mono HB0.out.size))
    have HJ1 := Lib.hid (HJ0.out.on hb1)
    clear hb1
    have x1 := HJ1.out.x1
    have x2 := HJ1.out.x2
    have x3 := HJ1.out.x3
    go_wp2_with fail
    refine (HC.out _ HJ1.out.st).mono ?_
    rintro e w2 ⟨rfl, hb2⟩
    go_wp2_with fail
    go_ret2
    exact ⟨by rw [HE.out]; first | done | rfl, HB1.out.trans (hb2.mono HB1.out.size)⟩
end Go.Proofs.Ytpkffjcmoghaaaa
/- Walk of the reference's ChosenOf. -/
namespace Go.Proofs.Ytpkffjcmoghaaaa
open Go.RowKit
def intsN (I : List Nat) : List Int := I.map Int.ofNat
theorem intsN_length (I : List Nat) : (intsN I).length = I.length := by simp [intsN]
theorem intsN_snoc (I : List Nat) (i : Nat) : intsN (I ++ [i]) = intsN I ++ [(i : Int)] := by simp [intsN]
theorem mem_intsN {I : List Nat} {i : Nat} : (i : Int) ∈ intsN I ↔ i ∈ I := by
  unfold intsN; rw [List.mem_map]
  constructor
  · rintro ⟨j, hj, e⟩; rw [← Int.ofNat.inj e]; exact hj
  · exact fun h => ⟨i, h, rfl⟩
theorem idx_intsN (I : List Nat) : P.idx (intsN I) = I := by
  unfold P.idx intsN; rw [List.map_map]
  conv => rhs; rw [← List.map_id I]
  exact List.map_congr_left fun i _ => rfl
/-- A row of ints of the call's own that is not nil. -/
def Row3 (w : World) (base g cap : Nat) (I : List Nat) : Prop := w.ownsRow base 3 1 (.slice (some ⟨g, 0, none⟩) I.length cap) I.length ((intsN I).map (.int .i64))
theorem Row3.ints {w : World} {base g cap : Nat} {I : List Nat} (h : Row3 w base g cap I) : Ints .i64 w (some ⟨g, 0, none⟩) (intsN I) := by
  obtain ⟨-, a, c, e, hi, -⟩ := Ints.of_ownsRow h
  cases e; exact hi
theorem Row3.news {w : World} {base g cap : Nat} {I : List Nat} (h : Row3 w base g cap I) : ∀ j u, ((intsN I).map (Value.int .i64))[j]? = some u → w.cell? ((⟨g, 0, none⟩ : Addr).add j) = some u := h.cells (g := g) rfl
theorem Row3.lt {w : World} {base g cap : Nat} {I : List Nat} (h : Row3 w base g cap I) : base ≤ g ∧ g < w.heap.size := World.ownsRow.lt h g rfl
theorem Row3.below {w w' : World} {base g cap : Nat} {I : List Nat} (h : Row3 w base g cap I) (hb : Below w.heap.size w w') : Row3 w' base g cap I := owns_below h hb
theorem ints_one (l : List Int) : ∀ u ∈ l.map (Value.int .i64), u.oneCell' = true := by
  intro u hu; rw [List.mem_map] at hu; obtain ⟨x, -, rfl⟩ := hu; rfl
theorem owns_open3 {w : World} {base : Nat} {v : Value} {n : Nat} {xs : List Value} (h : w.ownsRow base 3 1 v n xs) (hp : 0 < n) : ∃ g cap, v = .slice (some ⟨g, 0, none⟩) n cap := by
  rcases h.2 with ⟨rfl, h0⟩ | ⟨g, cap, cur, rfl, -⟩
  · omega
  · exact ⟨g, cap, rfl⟩
/-- What was appended to a row that is not nil is not nil. -/
theorem owns_row3 {w : World} {base gg m c : Nat} {v : Value} {n H : Nat} {xs : List Value} (h : w.ownsRow base 3 1 v n xs) (hL : Lies (.slice (some ⟨gg, 0, none⟩) m c) v H) : ∃ g cap, v = .slice (some ⟨g, 0, none⟩) n cap := by
  rcases h.2 with ⟨rfl, h0⟩ | ⟨g, cap, cur, rfl, -⟩
  · rcases hL with e | e <;> simp [Value.ownBlock] at e
  · exact ⟨g, cap, rfl⟩
/-- One star is looked at. -/
def refStep (S : List P.Star) (p L wo : Int) (v : Int) (out : List Nat) (i : Nat) : List Nat := if decide ((P.star S i).2.2 = v) then P.take1 S p L wo out i else out
theorem refRow_succ (S : List P.Star) (p L wo v : Int) (out : List Nat) (n : Nat) : P.refRow S p L wo v out (n + 1) = refStep S p L wo v (P.refRow S p L wo v out n) n := by
  unfold P.refRow; rw [List.range_succ, List.foldl_append]; rfl
theorem refRow_zero (S : List P.Star) (p L wo v : Int) (out : List Nat) : P.refRow S p L wo v out 0 = out := rfl
theorem refStep_w {S : List P.Star} {p L wo v : Int} {out : List Nat} {i : Nat} (h : (P.star S i).2.2 ≠ v) : refStep S p L wo v out i = out := by unfold refStep; rw [decide_eq_false h]; rfl
theorem refStep_wo {S : List P.Star} {p L wo v : Int} {out : List Nat} {i : Nat} (h : (i : Int) = wo) : refStep S p L wo v out i = out := by unfold refStep P.take1; split; rw [if_pos (.inl h)]; rfl
theorem refStep_in {S : List P.Star} {p L wo v : Int} {out : List Nat} {i : Nat} (h : i ∈ out) : refStep S p L wo v out i = out := by unfold refStep P.take1; split; rw [if_pos (.inr h)]; rfl
theorem refStep_no {S : List P.Star} {p L wo v : Int} {out : List Nat} {i : Nat} (h1 : (i : Int) ≠ wo) (h2 : i ∉ out) (h : P.fitsB (P.sel S (out ++ [i])) p L = false) : refStep S p L wo v out i = out := by
  unfold refStep P.take1; split
  · rw [if_neg (by rintro (h | h); exact h1 h; exact h2 h), h]; rfl
  · rfl
theorem refStep_yes {S : List P.Star} {p L wo v : Int} {out : List Nat} {i : Nat} (hw : (P.star S i).2.2 = v) (h1 : (i : Int) ≠ wo) (h2 : i ∉ out) (h : P.fitsB (P.sel S (out ++ [i])) p L = true) : refStep S p L wo v out i = out ++ [i] := by
  unfold refStep P.take1; rw [decide_eq_true hw, if_pos rfl, if_neg (by rintro (h | h); exact h1 h; exact h2 h), h]; rfl
theorem take1_lt {S : List P.Star} {p L wo : Int} {out : List Nat} {i n : Nat} (h : ∀ j ∈ out, j < n) (hi : i < n) : ∀ j ∈ P.take1 S p L wo out i, j < n := by
  rcases P.take1_or S p L wo out i with e | ⟨e, -⟩
  · rw [e]; exact h
  · rw [e]; intro j hj
    rcases List.mem_append.1 hj with hj | hj
    · exact h j hj
    · simp at hj; omega
theorem refStep_lt {S : List P.Star} {p L wo v : Int} {out : List Nat} {i n : Nat} (h : ∀ j ∈ out, j < n) (hi : i < n) : ∀ j ∈ refStep S p L wo v out i, j < n := by
  unfold refStep; split
  · exact take1_lt h hi
  · exact h
/-- What is kept of the numbers taken: all are stars, none twice. -/
structure OutP (n : Nat) (out : List Nat) : Prop where
  lt : ∀ j ∈ out, j < n
  nd : out.Nodup
theorem OutP.len {n : Nat} {out : List Nat} (h : OutP n out) : out.length ≤ n := by
  have := List.Nodup.length_le_of_subset (l₂ := List.range n) h.nd (fun i hi => by simpa using h.lt i hi)
  simpa using this
theorem OutP.snoc {n : Nat} {out : List Nat} (h : OutP n out) {i : Nat} (hi : i < n) (hn : i ∉ out) : OutP n (out ++ [i]) := by
  refine ⟨fun j hj => ?_, ?_⟩
  · rcases List.mem_append.1 hj with hj | hj
    · exact h.lt j hj
    · simp at hj; omega
  · rw [List.nodup_append]; refine ⟨h.nd, by simp, fun a ha b hb hab => ?_⟩
    simp at hb; subst hb; rw [hab] at ha; exact hn ha
theorem OutP.step {n : Nat} {out : List Nat} (h : OutP n out) {S : List P.Star} {p L wo v : Int} {i : Nat} (hi : i < n) : OutP n (refStep S p L wo v out i) := by
  unfold refStep; split
  · rcases P.take1_or S p L wo out i with e | ⟨e, -, h2, -⟩
    · rw [e]; exact h
    · rw [e]; exact h.snoc hi h2
  · exact h
/-! ### 'append(append([]int{}, out...), i)', in whatever order its parts are made -/
section
variable {wr w2 w3 : World} {v : Value} {T : List Nat} {j : Int}
theorem wayA (ho : w2.ownsRow wr.heap.size 3 1 v (0 + T.length) ([] ++ (intsN T).map (.int .i64))) (hg : ((wr.drewN 1).alloc (.cells #[] 3)).grownBy w2 (Value.slice (some ⟨wr.heap.size, 0, none⟩) 0 0).ownBlock) {H : Nat} (hL : Lies (.slice (some ⟨wr.heap.size, 0, none⟩) 0 0) v H) :
    ∃ g c, v = .slice (some ⟨g, 0, none⟩) T.length c ∧ Row3 w2 wr.heap.size g c T ∧ Below wr.heap.size wr w2 := by
  obtain ⟨g, c, rfl⟩ := owns_row3 ho hL
  simp only [Nat.zero_add, List.nil_append] at ho ⊢
  exact ⟨g, c, rfl, ho, ((bel_drewN (Below.refl _ _) 1).alloc (Nat.le_refl _) _).grown hg (by simp) (fun k e => by have e := Option.some.inj e; simp only at e; show wr.heap.size ≤ k; omega)⟩
theorem wayB (ho : w2.ownsRow wr.heap.size 3 1 v (0 + T.length) ([] ++ (intsN T).map (.int .i64))) (hg : (((wr.drewN 1).alloc (.cells #[] 3)).alloc (.cells #[.int .i64 j] 3)).grownBy w2 (Value.slice (some ⟨wr.heap.size, 0, none⟩) 0 0).ownBlock) {H : Nat} (hL : Lies (.slice (some ⟨wr.heap.size, 0, none⟩) 0 0) v H) :
    (∃ g c, v = .slice (some ⟨g, 0, none⟩) T.length c ∧ Row3 w2 wr.heap.size g c T ∧ Below wr.heap.size wr w2) ∧ ∀ k u, [Value.int .i64 j][k]? = some u → w2.cell? ((⟨wr.heap.size + 1, 0, none⟩ : Addr).add k) = some u := by
  obtain ⟨g, c, rfl⟩ := owns_row3 ho hL
  simp only [Nat.zero_add, List.nil_append] at ho ⊢
  refine ⟨⟨g, c, rfl, ho, (((bel_drewN (Below.refl _ _) 1).alloc (Nat.le_refl _) _).alloc (by simp) _).grown hg (by simp; omega) (fun k e => by have e := Option.some.inj e; simp only at e; show wr.heap.size ≤ k; omega)⟩, fun k u h => ?_⟩
  have h1 := news_new ((wr.drewN 1).alloc (.cells #[] 3)) #[.int .i64 j] 3 k u h
  have e : ((wr.drewN 1).alloc (.cells #[] 3)).heap.size = wr.heap.size + 1 := by simp
  rw [e, addr_add] at h1
  rw [addr_add]
  exact hg.cell h1 (by simp [Value.ownBlock])
theorem wayC (ho : w2.ownsRow wr.heap.size 3 1 v (0 + T.length) ([] ++ (intsN T).map (.int .i64))) (hg : (((wr.drewN 1).alloc (.cells #[.int .i64 j] 3)).alloc (.cells #[] 3)).grownBy w2 (Value.slice (some ⟨wr.heap.size + 1, 0, none⟩) 0 0).ownBlock) {H : Nat} (hL : Lies (.slice (some ⟨wr.heap.size + 1, 0, none⟩) 0 0) v H) :
    (∃ g c, v = .slice (some ⟨g, 0, none⟩) T.length c ∧ Row3 w2 wr.heap.size g c T ∧ Below wr.heap.size wr w2) ∧ ∀ k u, [Value.int .i64 j][k]? = some u → w2.cell? ((⟨wr.heap.size, 0, none⟩ : Addr).add k) = some u := by
  obtain ⟨g, c, rfl⟩ := owns_row3 ho hL
  simp only [Nat.zero_add, List.nil_append] at ho ⊢
  refine ⟨⟨g, c, rfl, ho, (((bel_drewN (Below.refl _ _) 1).alloc (Nat.le_refl _) _).alloc (by simp) _).grown hg (by simp; omega) (fun k e => by have e := Option.some.inj e; simp only at e; show wr.heap.size ≤ k; omega)⟩, fun k u h => ?_⟩
  have h1 := news_new (wr.drewN 1) #[.int .i64 j] 3 k u h
  rw [addr_add] at h1 ⊢
  exact hg.cell (cell_on (Below.new _ _) h1) (by simp [Value.ownBlock])
theorem way2 {g c : Nat} {i : Nat} (hb : Below wr.heap.size wr w2) (hR : Row3 w2 wr.heap.size g c T) {W : World} (hW : Below w2.heap.size w2 W) (ho : w3.ownsRow wr.heap.size 3 1 v (T.length + 1) ((intsN T).map (.int .i64) ++ [.int .i64 (i : Int)])) (hg : W.grownBy w3 (Value.slice (some ⟨g, 0, none⟩) T.length c).ownBlock) {H : Nat} (hL : Lies (.slice (some ⟨g, 0, none⟩) T.length c) v H) :
    ∃ g c, v = .slice (some ⟨g, 0, none⟩) (T.length + 1) c ∧ Row3 w3 wr.heap.size g c (T ++ [i]) ∧ Below wr.heap.size wr w3 := by
  obtain ⟨g', c', rfl⟩ := owns_row3 ho hL
  refine ⟨g', c', rfl, ?_, ?_⟩
  · unfold Row3; rw [intsN_snoc, List.map_append, List.length_append]; exact ho
  · have hs := hb.size; have hs2 := hW.size
    exact (hb.trans (hW.mono hs)).grown hg (by omega) (fun k e => by
      simp [Value.ownBlock] at e; have := (hR.lt).1; omega)
end
end Go.Proofs.Ytpkffjcmoghaaaa
/- Walk of the reference's ChosenOf. -/
namespace Go.Proofs.Ytpkffjcmoghaaaa
open Go.RowKit
theorem refRow_out {S : List P.Star} {p L wo v : Int} {g : List Nat} (h : OutP S.length g) : ∀ n, n ≤ S.length → OutP S.length (P.refRow S p L wo v g n)
  | 0, _ => h
  | n + 1, hn => by rw [refRow_succ]; exact (refRow_out h n (by omega)).step (by omega)
set_option maxRecDepth 100000 in
set_option maxHeartbeats 16000000 in
theorem refChosenOf_some (a : Option Addr) (cap : Nat) (p L : Int) (S : List P.Star) (bb off : Nat) (cap2 : Nat) (g : List Nat) (wo : Int) (w : World) (hv : P.Valid p L S) (hg : OutP S.length g) (ha : Stars w a S) (hb : Ints .i64 w (some ⟨bb, off, none⟩) (intsN g)) :
    Calls Try.prog 73 #[jobV p L a S.length cap, .slice (some ⟨bb, off, none⟩) g.length cap2, .int .i64 wo] w fun e w' => ∃ v, e = .returned v ∧ w'.ownsRow w.heap.size 3 1 v (P.refChoose S p L g wo 100).length ((intsN (P.refChoose S p L g wo 100)).map (.int .i64)) ∧ Below w.heap.size w w' := by
  have hb0 := Below.new w (.cells #[.int .i64 p, .int .i64 L, .slice a S.length cap] 24)
  have hb1 := hb0.alloc (by simp) (.cells #[] 3)
  have HJ0 := Lib.hid ((Job.new ha p L cap 24).on (Below.new _ (.cells #[] 3)))
  have HI0 := Lib.hid (hb.below hb1)
  have HB0 := Lib.hid hb1
  have HO0 : Hid (World.ownsRow ((w.alloc (.cells #[.int .i64 p, .int .i64 L, .slice a S.length cap] 24)).alloc (.cells #[] 3)) (w.heap.size + 1) 3 1 (.slice (some ⟨w.heap.size + 1, 0, none⟩) 0 0) 0 []) := Lib.hid (by
    have := owns_empty (w.alloc (.cells #[.int .i64 p, .int .i64 L, .slice a S.length cap] 24)) (base := w.heap.size + 1) 3 1 (by simp); simpa using this)
  have HV := Lib.hid hv
  have HG := Lib.hid hg
  have h16 := hv.len
  have hgl := hg.len
  have hn0 : 0 + g.length ≤ 2000000 := by omega
  have HAL := Lib.hid ha.lt
  clear ha hb hb0 hb1 hv hg
  have hnews : Hid (∀ j u, ((intsN g).map (Value.int .i64))[j]? = some u → World.cell? ((w.alloc (.cells #[.int .i64 p, .int .i64 L, .slice a S.length cap] 24)).alloc (.cells #[] 3)) ((⟨bb, off, none⟩ : Addr).add j) = some u) := Lib.hid (fun j u h => by
    have hlt : j < (intsN g).length := by have := (List.getElem?_eq_some_iff.1 h).1; simpa using this
    have := HI0.out.cellAt j hlt
    rw [addr_add, this]
    rw [List.getElem?_map, List.getElem?_eq_getElem hlt] at h
    rw [nth_eq _ j hlt]; exact h)
  go_enter Try.func73, Try.ntmps73
  go_wp2_with (at_builtin; refine listApp T25 rfl (.tmp 10) (.tmp 11) rfl (w.heap.size + 1) (.slice (some ⟨w.heap.size + 1, 0, none⟩) 0 0) 0 [] ((intsN g).map (.int .i64)) g.length cap2 ⟨bb, off, none⟩ rfl HO0.out rfl (by simp [intsN]) hnews.out (ints_one _) hn0 (by simp) ?_; intro v1 w1 hown1 hg1 hL1; obtain ⟨g1, c1, hv1⟩ := owns_row3 hown1 hL1; subst hv1)
  have HR1 : Hid (Row3 w1 (w.heap.size + 1) g1 c1 g) := Lib.hid (by simp only [Nat.zero_add, List.nil_append] at hown1; exact hown1)
  have HJ1 : Hid (Job w1 w.heap.size p L a cap S) := Lib.hid (HJ0.out.kept hg1 (by simp [Value.ownBlock]) (fun hp b off e => by have := HAL.out hp b off e; simp [Value.ownBlock]; omega))
  have HB1 : Hid (Below w.heap.size w w1) := Lib.hid (HB0.out.grown hg1 (by simp; omega) (fun k e => by simp [Value.ownBlock] at e; omega))
  clear hown1 hg1 hL1 hnews HO0 HI0 HJ0 HB0 hn0
  have HAL2 := Lib.hid (fun h b off e => HAL.out h b off e)
  go_loopw [7, 8, 9] (fun o v _ wr => ∃ (k g' c' : Nat), k ≤ 100 ∧ v = .int .i64 (100 - (k : Int)) ∧ o = .slice (some ⟨g', 0, none⟩) (P.refChoose S p L g wo k).length c' ∧ Hid (Row3 wr (w.heap.size + 1) g' c' (P.refChoose S p L g wo k)) ∧ Hid (OutP S.length (P.refChoose S p L g wo k)) ∧ Hid (Job wr w.heap.size p L a cap S) ∧ Hid (Below w.heap.size w wr)) (fun _ v _ _ => (intOf v).toNat)
  case atStart => exact ⟨0, g1, c1, by omega, rfl, rfl, HR1, HG, HJ1, HB1⟩
  case round =>
    obtain ⟨k, g', c', hk, rfl, rfl, HR, HO, HJ, HB⟩ := hrel
    obtain ⟨wo', rfl⟩ : ∃ wo' : World, wo' = wr := ⟨_, rfl⟩
    by_cases hk2 : k < 100
    · obtain ⟨V, hV⟩ : ∃ V : Int, V = 100 - (k : Int) := ⟨_, rfl⟩
      have HSu : Hid (P.refChoose S p L g wo (k + 1) = P.refRow S p L wo V (P.refChoose S p L g wo k) S.length) := Lib.hid (by rw [hV]; rfl)
      rw [← hV]
      have hV1 : 0 < V := by omega
      have hV2 : V ≤ 100 := by omega
      have HVk := Lib.hid hV
      clear hV
      generalize P.refChoose S p L g wo k = O at *
      go_wp2_with fail
      go_loopw [7, 9] (fun o i wi => ∃ (j g'' c'' : Nat), j ≤ S.length ∧ i = .int .i64 j ∧ o = .slice (some ⟨g'', 0, none⟩) (P.refRow S p L wo V O j).length c'' ∧ Hid (Row3 wi (w.heap.size + 1) g'' c'' (P.refRow S p L wo V O j)) ∧ Hid (OutP S.length (P.refRow S p L wo V O j)) ∧ Hid (Job wi w.heap.size p L a cap S) ∧ Hid (Below w.heap.size w wi)) (fun _ i _ => S.length - (intOf i).toNat)
      case atStart => exact ⟨0, g', c', by omega, rfl, rfl, HR, HO, HJ, HB⟩
      case round =>
        clear HR HO HJ HB
        obtain ⟨j, g'', c'', hj, rfl, rfl, HR, HO, HJ, HB⟩ := hrel
        have x3 := HJ.out.x3
        by_cases hlt : j < S.length
        · have HT := Lib.hid (refRow_succ S p L wo V O j)
          generalize P.refRow S p L wo V O j = T at *
          obtain ⟨b2, off2, e2, s1, s2, s3⟩ := HJ.out.st j hlt
          have q1 : (0 : Int) ≤ (j : Int) := by omega
          have q2 : (j : Int) < (S.length : Int) := by omega
          by_cases d1 : (P.star S j).2.2 = V
          · have d1b : ((P.star S j).2.2 == V) = true := by rw [d1]; simp
            by_cases d2 : (j : Int) = wo
            · have d2b : ((j : Int) != wo) = false := by rw [d2]; simp
              have HT2 := Lib.hid (HT.out.trans (refStep_wo d2))
              clear d1 d2
              subst e2
              go_wp2_with fail
              go_quiet (fail)
              go_wp2_with fail
              go_roundw
              case rel => exact ⟨j + 1, g'', c'', by omega, by go_num, by rw [HT2.out], by rw [HT2.out]; exact HR, by rw [HT2.out]; exact HO, Lib.hid (HJ.out.drewN _), Lib.hid (bel_drewN HB.out _)⟩
              case measure => simp [intOf]; omega
            · have d2b : ((j : Int) != wo) = true := by rw [bne_iff_ne]; exact d2
              have hTl := HO.out.len
              have hHas := fun n => refHas_any (some ⟨g'', 0, none⟩) c'' (intsN T) (j : Int) (wr.drewN n) (by rw [intsN_length]; omega) (HR.out.ints.drewN n)
              rw [intsN_length] at hHas
              by_cases d3 : j ∈ T
              · have HT2 := Lib.hid (HT.out.trans (refStep_in d3))
                rw [decide_eq_true (mem_intsN.2 d3)] at hHas
                have HHas := Lib.hid hHas
                clear d1 d2 d3 hHas
                subst e2
                go_wp2_with fail
                go_quiet ((go_at_call 74; exact quiet_same (HHas.out _)))
                go_wp2_with fail
                go_roundw
                case rel => exact ⟨j + 1, g'', c'', by omega, by go_num, by rw [HT2.out], by rw [HT2.out]; exact HR, by rw [HT2.out]; exact HO, Lib.hid (HJ.out.drewN _), Lib.hid (bel_drewN HB.out _)⟩
                case measure => simp [intOf]; omega
              · rw [decide_eq_false (fun h => d3 (mem_intsN.1 h))] at hHas
                have HHas := Lib.hid hHas
                have HD2 := Lib.hid d2
                have HD1 := Lib.hid d1
                have HD3 := Lib.hid d3
                clear d1 d2 d3 hHas
                subst e2
                have x1 := HJ.out.x1
                have x2 := HJ.out.x2
                go_wp2_with fail
                have l1 := HJ.out.lt
                have l2 := World.block_lt_of_cell? wr _ s1
                have hn1 : 0 + T.length ≤ 2000000 := by omega
                have hn2 : T.length + 1 ≤ 2000000 := by omega
                simp only at l2
                have hsn := HO.out.snoc hlt HD3.out
                have hmem : ∀ x ∈ intsN (T ++ [j]), 0 ≤ x ∧ x < S.length := fun x hx => by
                  unfold intsN at hx; rw [List.mem_map] at hx; obtain ⟨i, hi, rfl⟩ := hx
                  exact ⟨Int.natCast_nonneg i, by have := hsn.lt i hi; simp; omega⟩
                have HSo := fun g4 c4 W hW hI => refSome_any (some ⟨b2, off2, none⟩) cap p L S (some ⟨g4, 0, none⟩) c4 (intsN (T ++ [j])) W (by rw [intsN_length, List.length_append]; simp; omega) (by omega) hmem hW hI
                rw [intsN_length, idx_intsN, List.length_append, List.length_singleton] at HSo
                have HSo := Lib.hid HSo
                have HFt := fun a4 c4 W hs => fits_any a4 c4 (P.sel S (T ++ [j])) p L W (by rw [sel_length, List.length_append]; simp; omega) (by have := HV.out.p1; omega) (by have := HV.out.p5; omega) HV.out.l20 hs
                rw [sel_length, List.length_append, List.length_singleton] at HFt
                have HSn := Lib.hid hsn
                have HTl2 : Hid ((P.sel S (T ++ [j])).length = T.length + 1) := Lib.hid (by rw [sel_length, List.length_append]; rfl)
                clear hsn hmem
                cases hfit : P.fitsB (P.sel S (T ++ [j])) p L
                all_goals
                  rw [hfit] at HFt
                  have HFt := Lib.hid HFt
                  have HFit := Lib.hid hfit
                  clear hfit
                  go_wp2_with fail
                  go_region_held3 (fun w' => w'.cell? ⟨w.heap.size, 0, none⟩ = some (.int .i64 p) ∧ w'.cell? ⟨w.heap.size, 1, none⟩ = some (.int .i64 L) ∧ w'.cell? ⟨w.heap.size, 2, none⟩ = some (.slice (some ⟨b2, off2, none⟩) S.length cap) ∧ w'.cell? ⟨b2, off2 + j * 3 + 2, none⟩ = some (.int .i64 (P.star S j).2.2))
                    (first | (have BB := HB4.out; exact ⟨cell_on BB x1, cell_on BB x2, cell_on BB x3, cell_on BB s3⟩) | (have BB := HB3.out; exact ⟨cell_on BB x1, cell_on BB x2, cell_on BB x3, cell_on BB s3⟩) | (have BB := HB2.out; exact ⟨cell_on BB x1, cell_on BB x2, cell_on BB x3, cell_on BB s3⟩) | (have BB := HB2.out.trans ((Below.new w2 (.cells #[.int .i64 (j : Int)] 3)).mono HB2.out.size); exact ⟨cell_on BB x1, cell_on BB x2, cell_on BB x3, cell_on BB s3⟩) | go_keep)
                    (first
                      | (go_at_call 74; refine (HHas.out 1).mono ?_; rintro e w' ⟨rfl, rfl⟩)
                      | (go_at_call 69; refine (HSo.out _ _ _ (HJ.out.on HB3.out).st HR3.out.ints).mono ?_; rintro e w4 ⟨v4, rfl, hown4, hb4⟩; obtain ⟨-, a4, c4, hv4, hs4, -⟩ := owns_stars hown4; subst hv4; have HS4 := Lib.hid hs4; have HB4 := Lib.hid (HB3.out.trans (hb4.mono HB3.out.size)); clear hown4 hb4 hs4)
                      | (go_at_call 59; refine (HFt.out _ _ _ HS4.out).mono ?_; rintro e w5 ⟨rfl, rfl⟩)
                      | (refine stepO 25 (.tmp 47) (.tmp 49) ?_ ?_ ?_; rfl; rfl; refine wpApp T25 (.tmp 47) (.tmp 49) rfl wr.heap.size (.slice (some ⟨g3, 0, none⟩) T.length c3) T.length ((intsN T).map (.int .i64)) [.int .i64 (j : Int)] 1 1 ⟨w2.heap.size, 0, none⟩ rfl (HR2.out.alloc _) rfl rfl (news_new _ _ _) (by simp [Value.oneCell']) hn2 (by have := HB2.out.size; simp; omega) ?_; intro v3 w3 hown3 hg3 hL3; obtain ⟨g4, c4, hv3, hR3, hB3⟩ := way2 HB2.out HR2.out (Below.new _ _) hown3 hg3 hL3; subst hv3; have HR3 := Lib.hid hR3; have HB3 := Lib.hid hB3; clear hown3 hg3 hL3 hR3 hB3)
                      | (refine stepO 25 (.tmp 47) (.tmp 49) ?_ ?_ ?_; rfl; rfl; refine wpApp T25 (.tmp 47) (.tmp 49) rfl wr.heap.size (.slice (some ⟨g3, 0, none⟩) T.length c3) T.length ((intsN T).map (.int .i64)) [.int .i64 (j : Int)] 1 1 ⟨wr.heap.size + 1, 0, none⟩ rfl HR2.out rfl rfl HNJ.out (by simp [Value.oneCell']) hn2 HB2.out.size ?_; intro v3 w3 hown3 hg3 hL3; obtain ⟨g4, c4, hv3, hR3, hB3⟩ := way2 HB2.out HR2.out (Below.refl _ _) hown3 hg3 hL3; subst hv3; have HR3 := Lib.hid hR3; have HB3 := Lib.hid hB3; clear hown3 hg3 hL3 hR3 hB3)
                      | (refine stepO 25 (.tmp 47) (.tmp 49) ?_ ?_ ?_; rfl; rfl; refine wpApp T25 (.tmp 47) (.tmp 49) rfl wr.heap.size (.slice (some ⟨g3, 0, none⟩) T.length c3) T.length ((intsN T).map (.int .i64)) [.int .i64 (j : Int)] 1 1 ⟨wr.heap.size, 0, none⟩ rfl HR2.out rfl rfl HNJ.out (by simp [Value.oneCell']) hn2 HB2.out.size ?_; intro v3 w3 hown3 hg3 hL3; obtain ⟨g4, c4, hv3, hR3, hB3⟩ := way2 HB2.out HR2.out (Below.refl _ _) hown3 hg3 hL3; subst hv3; have HR3 := Lib.hid hR3; have HB3 := Lib.hid hB3; clear hown3 hg3 hL3 hR3 hB3)
                      | (refine stepO 25 (.tmp 45) (.tmp 46) ?_ ?_ ?_; rfl; rfl; refine wpApp T25 (.tmp 45) (.tmp 46) rfl wr.heap.size (.slice (some ⟨wr.heap.size, 0, none⟩) 0 0) 0 [] ((intsN T).map (.int .i64)) T.length c'' ⟨g'', 0, none⟩ rfl (owns_empty _ 3 1 (by simp)) rfl (by simp [intsN]) (fun j' u' h' => cell_on (w := wr) ((bel_drewN (Below.refl _ _) 1).alloc (Nat.le_refl _) _) (HR.out.news j' u' h')) (ints_one _) hn1 (by simp) ?_; intro v2 w2 hown2 hg2 hL2; obtain ⟨g3, c3, hv2, hR2, hB2⟩ := wayA hown2 hg2 hL2; subst hv2; have HR2 := Lib.hid hR2; have HB2 := Lib.hid hB2; clear hown2 hg2 hL2 hR2 hB2)
                      | (refine stepO 25 (.tmp 45) (.tmp 46) ?_ ?_ ?_; rfl; rfl; refine wpApp T25 (.tmp 45) (.tmp 46) rfl wr.heap.size (.slice (some ⟨wr.heap.size, 0, none⟩) 0 0) 0 [] ((intsN T).map (.int .i64)) T.length c'' ⟨g'', 0, none⟩ rfl ((owns_empty _ 3 1 (by simp)).alloc _) rfl (by simp [intsN]) (fun j' u' h' => cell_on (w := wr) (((bel_drewN (Below.refl _ _) 1).alloc (Nat.le_refl _) _).alloc (by simp) _) (HR.out.news j' u' h')) (ints_one _) hn1 (by simp; omega) ?_; intro v2 w2 hown2 hg2 hL2; obtain ⟨⟨g3, c3, hv2, hR2, hB2⟩, hNJ⟩ := wayB hown2 hg2 hL2; subst hv2; have HR2 := Lib.hid hR2; have HB2 := Lib.hid hB2; have HNJ := Lib.hid hNJ; clear hown2 hg2 hL2 hR2 hB2 hNJ)
                      | (refine stepO 25 (.tmp 45) (.tmp 46) ?_ ?_ ?_; rfl; rfl; refine wpApp T25 (.tmp 45) (.tmp 46) rfl wr.heap.size (.slice (some ⟨wr.heap.size + 1, 0, none⟩) 0 0) 0 [] ((intsN T).map (.int .i64)) T.length c'' ⟨g'', 0, none⟩ rfl (by have h0 := owns_empty ((wr.drewN 1).alloc (.cells #[.int .i64 (j : Int)] 3)) (base := wr.heap.size) 3 1 (by simp); simpa using h0) rfl (by simp [intsN]) (fun j' u' h' => cell_on (w := wr) (((bel_drewN (Below.refl _ _) 1).alloc (Nat.le_refl _) _).alloc (by simp) _) (HR.out.news j' u' h')) (ints_one _) hn1 (by simp; omega) ?_; intro v2 w2 hown2 hg2 hL2; obtain ⟨⟨g3, c3, hv2, hR2, hB2⟩, hNJ⟩ := wayC hown2 hg2 hL2; subst hv2; have HR2 := Lib.hid hR2; have HB2 := Lib.hid hB2; have HNJ := Lib.hid hNJ; clear hown2 hg2 hL2 hR2 hB2 hNJ))
                  all_goals
                    have hne : (Value.slice (some ⟨g'', 0, none⟩) T.length c'').ownBlock ≠ some w.heap.size := fun e => by have e := Option.some.inj e; simp only at e; have := HR.out.lt.1; omega
                    have HR4 := Lib.hid (HR.out.below HB4.out)
                    have HJ4 := Lib.hid (HJ.out.on HB4.out)
                    have HB5 := Lib.hid (HB.out.trans (HB4.out.mono HB.out.size))
                    clear x1 x2 x3 s1 s2 s3
                    first
                    | (have HT2 := Lib.hid (HT.out.trans (refStep_yes HD1.out HD2.out HD3.out HFit.out))
                       have hnews := Lib.hid (news_new w4 #[.int .i64 (j : Int)] 3)
                       have O5 := Lib.hid (HR4.out.alloc (.cells #[.int .i64 (j : Int)] 3))
                       have hsz4 := HB5.out.size
                       have hlt4 := HJ4.out.lt
                       have hszW : w.heap.size + 1 ≤ (w4.alloc (.cells #[.int .i64 (j : Int)] 3)).heap.size := by simp; omega
                       go_wp2_with (at_builtin; refine listApp T25 rfl (.tmp 58) (.tmp 60) rfl (w.heap.size + 1) (.slice (some ⟨g'', 0, none⟩) T.length c'') T.length ((intsN T).map (.int .i64)) [.int .i64 (j : Int)] 1 1 ⟨w4.heap.size, 0, none⟩ rfl O5.out rfl rfl hnews.out (by simp [Value.oneCell']) hn2 hszW ?_; intro v6 w6 hown6 hg6 hL6; obtain ⟨g6, c6, hv6⟩ := owns_row3 hown6 hL6; subst hv6)
                       have HR6 : Hid (Row3 w6 (w.heap.size + 1) g6 c6 (T ++ [j])) := Lib.hid (by unfold Row3; rw [intsN_snoc, List.map_append, List.length_append]; exact hown6)
                       have HJ6 := Lib.hid ((HJ4.out.on (Below.new _ _)).kept hg6 hne (fun hp b off e e2 => by have := HAL.out hp b off e; have e2 := Option.some.inj e2; simp only at e2; have := HR.out.lt.1; omega))
                       have HB6 := Lib.hid ((HB5.out.alloc hsz4 _).grown hg6 (by simp; omega) (fun k e => by have e := Option.some.inj e; simp only at e; have := HR.out.lt.1; omega))
                       have HTl : Hid ((T ++ [j]).length = T.length + 1) := Lib.hid (by simp)
                       clear hown6 hg6 hL6 hne
                       go_roundw
                       case rel => exact ⟨j + 1, g6, c6, by omega, by go_num, by rw [HT2.out, HTl.out], by rw [HT2.out]; exact HR6, by rw [HT2.out]; exact HSn, HJ6, HB6⟩
                       case measure => simp [intOf]; omega)
                    | (have HT2 := Lib.hid (HT.out.trans (refStep_no HD2.out HD3.out HFit.out))
                       go_wp2_with fail
                       go_roundw
                       case rel => exact ⟨j + 1, g'', c'', by omega, by go_num, by rw [HT2.out], by rw [HT2.out]; exact HR4, by rw [HT2.out]; exact HO, HJ4, HB5⟩
                       case measure => simp [intOf]; omega)
          · have d1b : ((P.star S j).2.2 == V) = false := by rw [beq_eq_false_iff_ne]; exact d1
            have HT2 := Lib.hid (HT.out.trans (refStep_w d1))
            clear d1
            subst e2
            go_wp2_with fail
            go_quiet (fail)
            go_wp2_with fail
            go_roundw
            case rel => exact ⟨j + 1, g'', c'', by omega, by go_num, by rw [HT2.out], by rw [HT2.out]; exact HR, by rw [HT2.out]; exact HO, Lib.hid (HJ.out.drewN _), Lib.hid (bel_drewN HB.out _)⟩
            case measure => simp [intOf]; omega
        · have hjn : j = S.length := by omega
          subst hjn
          go_wp2_with fail
          go_roundw
          case rel => exact ⟨k + 1, g'', c'', by omega, by rw [HVk.out]; go_num, by rw [HSu.out], by rw [HSu.out]; exact HR, by rw [HSu.out]; exact HO, HJ, HB⟩
          case measure => simp [intOf]; omega
    · have hkk : k = 100 := by omega
      subst hkk
      go_wp2_with fail
      go_ret
      exact ⟨_, rfl, owns_mono HR.out (by omega), HB.out⟩
end Go.Proofs.Ytpkffjcmoghaaaa
/- Walk of the reference's ChosenOf, nothing taken before. -/
namespace Go.Proofs.Ytpkffjcmoghaaaa
open Go.RowKit
set_option maxRecDepth 100000 in
set_option maxHeartbeats 16000000 in
theorem refChosenOf_nil (a : Option Addr) (cap : Nat) (p L : Int) (S : List P.Star) (wo : Int) (w : World) (hv : P.Valid p L S) (ha : Stars w a S) :
    Calls Try.prog 73 #[jobV p L a S.length cap, .slice none 0 0, .int .i64 wo] w fun e w' => ∃ v, e = .returned v ∧ w'.ownsRow w.heap.size 3 1 v (P.refChoose S p L [] wo 100).length ((intsN (P.refChoose S p L [] wo 100)).map (.int .i64)) ∧ Below w.heap.size w w' := by
  have hb0 := Below.new w (.cells #[.int .i64 p, .int .i64 L, .slice a S.length cap] 24)
  have hb1 := hb0.alloc (by simp) (.cells #[] 3)
  have HJ0 := Lib.hid ((Job.new ha p L cap 24).on (Below.new _ (.cells #[] 3)))
  have HB0 := Lib.hid hb1
  have HO0 : Hid (World.ownsRow ((w.alloc (.cells #[.int .i64 p, .int .i64 L, .slice a S.length cap] 24)).alloc (.cells #[] 3)) (w.heap.size + 1) 3 1 (.slice (some ⟨w.heap.size + 1, 0, none⟩) 0 0) 0 []) := Lib.hid (by
    have := owns_empty (w.alloc (.cells #[.int .i64 p, .int .i64 L, .slice a S.length cap] 24)) (base := w.heap.size + 1) 3 1 (by simp); simpa using this)
  have HV := Lib.hid hv
  have HG : Hid (OutP S.length []) := Lib.hid ⟨by simp, List.nodup_nil⟩
  have h16 := hv.len
  have HAL := Lib.hid ha.lt
  clear ha hb0 hb1 hv
  go_enter Try.func73, Try.ntmps73
  go_wp2_with (at_builtin; refine listAppNone T25 rfl (.tmp 10) (.tmp 11) rfl (w.heap.size + 1) (.slice (some ⟨w.heap.size + 1, 0, none⟩) 0 0) 0 [] rfl HO0.out rfl ?_)
  have HR1 : Hid (Row3 ((w.alloc (.cells #[.int .i64 p, .int .i64 L, .slice a S.length cap] 24)).alloc (.cells #[] 3)) (w.heap.size + 1) (w.heap.size + 1) 0 []) := HO0
  have HJ1 := HJ0
  have HB1 := HB0
  clear HO0 HJ0 HB0
  generalize ((w.alloc (.cells #[.int .i64 p, .int .i64 L, .slice a S.length cap] 24)).alloc (.cells #[] 3)) = W1 at *
  have HAL2 := Lib.hid (fun h b off e => HAL.out h b off e)
  go_loopw [7, 8, 9] (fun o v _ wr => ∃ (k g' c' : Nat), k ≤ 100 ∧ v = .int .i64 (100 - (k : Int)) ∧ o = .slice (some ⟨g', 0, none⟩) (P.refChoose S p L [] wo k).length c' ∧ Hid (Row3 wr (w.heap.size + 1) g' c' (P.refChoose S p L [] wo k)) ∧ Hid (OutP S.length (P.refChoose S p L [] wo k)) ∧ Hid (Job wr w.heap.size p L a cap S) ∧ Hid (Below w.heap.size w wr)) (fun _ v _ _ => (intOf v).toNat)
  case atStart => exact ⟨0, w.heap.size + 1, 0, by omega, rfl, rfl, HR1, HG, HJ1, HB1⟩
  case round =>
    obtain ⟨k, g', c', hk, rfl, rfl, HR, HO, HJ, HB⟩ := hrel
    obtain ⟨wo', rfl⟩ : ∃ wo' : World, wo' = wr := ⟨_, rfl⟩
    by_cases hk2 : k < 100
    · obtain ⟨V, hV⟩ : ∃ V : Int, V = 100 - (k : Int) := ⟨_, rfl⟩
      have HSu : Hid (P.refChoose S p L [] wo (k + 1) = P.refRow S p L wo V (P.refChoose S p L [] wo k) S.length) := Lib.hid (by rw [hV]; rfl)
      rw [← hV]
      have hV1 : 0 < V := by omega
      have hV2 : V ≤ 100 := by omega
      have HVk := Lib.hid hV
      clear hV
      generalize P.refChoose S p L [] wo k = O at *
      go_wp2_with fail
      go_loopw [7, 9] (fun o i wi => ∃ (j g'' c'' : Nat), j ≤ S.length ∧ i = .int .i64 j ∧ o = .slice (some ⟨g'', 0, none⟩) (P.refRow S p L wo V O j).length c'' ∧ Hid (Row3 wi (w.heap.size + 1) g'' c'' (P.refRow S p L wo V O j)) ∧ Hid (OutP S.length (P.refRow S p L wo V O j)) ∧ Hid (Job wi w.heap.size p L a cap S) ∧ Hid (Below w.heap.size w wi)) (fun _ i _ => S.length - (intOf i).toNat)
      case atStart => exact ⟨0, g', c', by omega, rfl, rfl, HR, HO, HJ, HB⟩
      case round =>
        clear HR HO HJ HB
        obtain ⟨j, g'', c'', hj, rfl, rfl, HR, HO, HJ, HB⟩ := hrel
        have x3 := HJ.out.x3
        by_cases hlt : j < S.length
        · have HT := Lib.hid (refRow_succ S p L wo V O j)
          generalize P.refRow S p L wo V O j = T at *
          obtain ⟨b2, off2, e2, s1, s2, s3⟩ := HJ.out.st j hlt
          have q1 : (0 : Int) ≤ (j : Int) := by omega
          have q2 : (j : Int) < (S.length : Int) := by omega
          by_cases d1 : (P.star S j).2.2 = V
          · have d1b : ((P.star S j).2.2 == V) = true := by rw [d1]; simp
            by_cases d2 : (j : Int) = wo
            · have d2b : ((j : Int) != wo) = false := by rw [d2]; simp
              have HT2 := Lib.hid (HT.out.trans (refStep_wo d2))
              clear d1 d2
              subst e2
              go_wp2_with fail
              go_quiet (fail)
              go_wp2_with fail
              go_roundw
              case rel => exact ⟨j + 1, g'', c'', by omega, by go_num, by rw [HT2.out], by rw [HT2.out]; exact HR, by rw [HT2.out]; exact HO, Lib.hid (HJ.out.drewN _), Lib.hid (bel_drewN HB.out _)⟩
              case measure => simp [intOf]; omega
            · have d2b : ((j : Int) != wo) = true := by rw [bne_iff_ne]; exact d2
              have hTl := HO.out.len
              have hHas := fun n => refHas_any (some ⟨g'', 0, none⟩) c'' (intsN T) (j : Int) (wr.drewN n) (by rw [intsN_length]; omega) (HR.out.ints.drewN n)
              rw [intsN_length] at hHas
              by_cases d3 : j ∈ T
              · have HT2 := Lib.hid (HT.out.trans (refStep_in d3))
                rw [decide_eq_true (mem_intsN.2 d3)] at hHas
                have HHas := Lib.hid hHas
                clear d1 d2 d3 hHas
                subst e2
                go_wp2_with fail
                go_quiet ((go_at_call 74; exact quiet_same (HHas.out _)))
                go_wp2_with fail
                go_roundw
                case rel => exact ⟨j + 1, g'', c'', by omega, by go_num, by rw [HT2.out], by rw [HT2.out]; exact HR, by rw [HT2.out]; exact HO, Lib.hid (HJ.out.drewN _), Lib.hid (bel_drewN HB.out _)⟩
                case measure => simp [intOf]; omega
              · rw [decide_eq_false (fun h => d3 (mem_intsN.1 h))] at hHas
                have HHas := Lib.hid hHas
                have HD2 := Lib.hid d2
                have HD1 := Lib.hid d1
                have HD3 := Lib.hid d3
                clear d1 d2 d3 hHas
                subst e2
                have x1 := HJ.out.x1
                have x2 := HJ.out.x2
                go_wp2_with fail
                have l1 := HJ.out.lt
                have l2 := World.block_lt_of_cell? wr _ s1
                have hn1 : 0 + T.length ≤ 2000000 := by omega
                have hn2 : T.length + 1 ≤ 2000000 := by omega
                simp only at l2
                have hsn := HO.out.snoc hlt HD3.out
                have hmem : ∀ x ∈ intsN (T ++ [j]), 0 ≤ x ∧ x < S.length := fun x hx => by
                  unfold intsN at hx; rw [List.mem_map] at hx; obtain ⟨i, hi, rfl⟩ := hx
                  exact ⟨Int.natCast_nonneg i, by have := hsn.lt i hi; simp; omega⟩
                have HSo := fun g4 c4 W hW hI => refSome_any (some ⟨b2, off2, none⟩) cap p L S (some ⟨g4, 0, none⟩) c4 (intsN (T ++ [j])) W (by rw [intsN_length, List.length_append]; simp; omega) (by omega) hmem hW hI
                rw [intsN_length, idx_intsN, List.length_append, List.length_singleton] at HSo
                have HSo := Lib.hid HSo
                have HFt := fun a4 c4 W hs => fits_any a4 c4 (P.sel S (T ++ [j])) p L W (by rw [sel_length, List.length_append]; simp; omega) (by have := HV.out.p1; omega) (by have := HV.out.p5; omega) HV.out.l20 hs
                rw [sel_length, List.length_append, List.length_singleton] at HFt
                have HSn := Lib.hid hsn
                have HTl2 : Hid ((P.sel S (T ++ [j])).length = T.length + 1) := Lib.hid (by rw [sel_length, List.length_append]; rfl)
                clear hsn hmem
                cases hfit : P.fitsB (P.sel S (T ++ [j])) p L
                all_goals
                  rw [hfit] at HFt
                  have HFt := Lib.hid HFt
                  have HFit := Lib.hid hfit
                  clear hfit
                  go_wp2_with fail
                  go_region_held3 (fun w' => w'.cell? ⟨w.heap.size, 0, none⟩ = some (.int .i64 p) ∧ w'.cell? ⟨w.heap.size, 1, none⟩ = some (.int .i64 L) ∧ w'.cell? ⟨w.heap.size, 2, none⟩ = some (.slice (some ⟨b2, off2, none⟩) S.length cap) ∧ w'.cell? ⟨b2, off2 + j * 3 + 2, none⟩ = some (.int .i64 (P.star S j).2.2))
                    (first | (have BB := HB4.out; exact ⟨cell_on BB x1, cell_on BB x2, cell_on BB x3, cell_on BB s3⟩) | (have BB := HB3.out; exact ⟨cell_on BB x1, cell_on BB x2, cell_on BB x3, cell_on BB s3⟩) | (have BB := HB2.out; exact ⟨cell_on BB x1, cell_on BB x2, cell_on BB x3, cell_on BB s3⟩) | (have BB := HB2.out.trans ((Below.new w2 (.cells #[.int .i64 (j : Int)] 3)).mono HB2.out.size); exact ⟨cell_on BB x1, cell_on BB x2, cell_on BB x3, cell_on BB s3⟩) | go_keep)
                    (first
                      | (go_at_call 74; refine (HHas.out 1).mono ?_; rintro e w' ⟨rfl, rfl⟩)
                      | (go_at_call 69; refine (HSo.out _ _ _ (HJ.out.on HB3.out).st HR3.out.ints).mono ?_; rintro e w4 ⟨v4, rfl, hown4, hb4⟩; obtain ⟨-, a4, c4, hv4, hs4, -⟩ := owns_stars hown4; subst hv4; have HS4 := Lib.hid hs4; have HB4 := Lib.hid (HB3.out.trans (hb4.mono HB3.out.size)); clear hown4 hb4 hs4)
                      | (go_at_call 59; refine (HFt.out _ _ _ HS4.out).mono ?_; rintro e w5 ⟨rfl, rfl⟩)
                      | (refine stepO 25 (.tmp 47) (.tmp 49) ?_ ?_ ?_; rfl; rfl; refine wpApp T25 (.tmp 47) (.tmp 49) rfl wr.heap.size (.slice (some ⟨g3, 0, none⟩) T.length c3) T.length ((intsN T).map (.int .i64)) [.int .i64 (j : Int)] 1 1 ⟨w2.heap.size, 0, none⟩ rfl (HR2.out.alloc _) rfl rfl (news_new _ _ _) (by simp [Value.oneCell']) hn2 (by have := HB2.out.size; simp; omega) ?_; intro v3 w3 hown3 hg3 hL3; obtain ⟨g4, c4, hv3, hR3, hB3⟩ := way2 HB2.out HR2.out (Below.new _ _) hown3 hg3 hL3; subst hv3; have HR3 := Lib.hid hR3; have HB3 := Lib.hid hB3; clear hown3 hg3 hL3 hR3 hB3)
                      | (refine stepO 25 (.tmp 47) (.tmp 49) ?_ ?_ ?_; rfl; rfl; refine wpApp T25 (.tmp 47) (.tmp 49) rfl wr.heap.size (.slice (some ⟨g3, 0, none⟩) T.length c3) T.length ((intsN T).map (.int .i64)) [.int .i64 (j : Int)] 1 1 ⟨wr.heap.size + 1, 0, none⟩ rfl HR2.out rfl rfl HNJ.out (by simp [Value.oneCell']) hn2 HB2.out.size ?_; intro v3 w3 hown3 hg3 hL3; obtain ⟨g4, c4, hv3, hR3, hB3⟩ := way2 HB2.out HR2.out (Below.refl _ _) hown3 hg3 hL3; subst hv3; have HR3 := Lib.hid hR3; have HB3 := Lib.hid hB3; clear hown3 hg3 hL3 hR3 hB3)
                      | (refine stepO 25 (.tmp 47) (.tmp 49) ?_ ?_ ?_; rfl; rfl; refine wpApp T25 (.tmp 47) (.tmp 49) rfl wr.heap.size (.slice (some ⟨g3, 0, none⟩) T.length c3) T.length ((intsN T).map (.int .i64)) [.int .i64 (j : Int)] 1 1 ⟨wr.heap.size, 0, none⟩ rfl HR2.out rfl rfl HNJ.out (by simp [Value.oneCell']) hn2 HB2.out.size ?_; intro v3 w3 hown3 hg3 hL3; obtain ⟨g4, c4, hv3, hR3, hB3⟩ := way2 HB2.out HR2.out (Below.refl _ _) hown3 hg3 hL3; subst hv3; have HR3 := Lib.hid hR3; have HB3 := Lib.hid hB3; clear hown3 hg3 hL3 hR3 hB3)
                      | (refine stepO 25 (.tmp 45) (.tmp 46) ?_ ?_ ?_; rfl; rfl; refine wpApp T25 (.tmp 45) (.tmp 46) rfl wr.heap.size (.slice (some ⟨wr.heap.size, 0, none⟩) 0 0) 0 [] ((intsN T).map (.int .i64)) T.length c'' ⟨g'', 0, none⟩ rfl (owns_empty _ 3 1 (by simp)) rfl (by simp [intsN]) (fun j' u' h' => cell_on (w := wr) ((bel_drewN (Below.refl _ _) 1).alloc (Nat.le_refl _) _) (HR.out.news j' u' h')) (ints_one _) hn1 (by simp) ?_; intro v2 w2 hown2 hg2 hL2; obtain ⟨g3, c3, hv2, hR2, hB2⟩ := wayA hown2 hg2 hL2; subst hv2; have HR2 := Lib.hid hR2; have HB2 := Lib.hid hB2; clear hown2 hg2 hL2 hR2 hB2)
                      | (refine stepO 25 (.tmp 45) (.tmp 46) ?_ ?_ ?_; rfl; rfl; refine wpApp T25 (.tmp 45) (.tmp 46) rfl wr.heap.size (.slice (some ⟨wr.heap.size, 0, none⟩) 0 0) 0 [] ((intsN T).map (.int .i64)) T.length c'' ⟨g'', 0, none⟩ rfl ((owns_empty _ 3 1 (by simp)).alloc _) rfl (by simp [intsN]) (fun j' u' h' => cell_on (w := wr) (((bel_drewN (Below.refl _ _) 1).alloc (Nat.le_refl _) _).alloc (by simp) _) (HR.out.news j' u' h')) (ints_one _) hn1 (by simp; omega) ?_; intro v2 w2 hown2 hg2 hL2; obtain ⟨⟨g3, c3, hv2, hR2, hB2⟩, hNJ⟩ := wayB hown2 hg2 hL2; subst hv2; have HR2 := Lib.hid hR2; have HB2 := Lib.hid hB2; have HNJ := Lib.hid hNJ; clear hown2 hg2 hL2 hR2 hB2 hNJ)
                      | (refine stepO 25 (.tmp 45) (.tmp 46) ?_ ?_ ?_; rfl; rfl; refine wpApp T25 (.tmp 45) (.tmp 46) rfl wr.heap.size (.slice (some ⟨wr.heap.size + 1, 0, none⟩) 0 0) 0 [] ((intsN T).map (.int .i64)) T.length c'' ⟨g'', 0, none⟩ rfl (by have h0 := owns_empty ((wr.drewN 1).alloc (.cells #[.int .i64 (j : Int)] 3)) (base := wr.heap.size) 3 1 (by simp); simpa using h0) rfl (by simp [intsN]) (fun j' u' h' => cell_on (w := wr) (((bel_drewN (Below.refl _ _) 1).alloc (Nat.le_refl _) _).alloc (by simp) _) (HR.out.news j' u' h')) (ints_one _) hn1 (by simp; omega) ?_; intro v2 w2 hown2 hg2 hL2; obtain ⟨⟨g3, c3, hv2, hR2, hB2⟩, hNJ⟩ := wayC hown2 hg2 hL2; subst hv2; have HR2 := Lib.hid hR2; have HB2 := Lib.hid hB2; have HNJ := Lib.hid hNJ; clear hown2 hg2 hL2 hR2 hB2 hNJ))
                  all_goals
                    have hne : (Value.slice (some ⟨g'', 0, none⟩) T.length c'').ownBlock ≠ some w.heap.size := fun e => by have e := Option.some.inj e; simp only at e; have := HR.out.lt.1; omega
                    have HR4 := Lib.hid (HR.out.below HB4.out)
                    have HJ4 := Lib.hid (HJ.out.on HB4.out)
                    have HB5 := Lib.hid (HB.out.trans (HB4.out.mono HB.out.size))
                    clear x1 x2 x3 s1 s2 s3
                    first
                    | (have HT2 := Lib.hid (HT.out.trans (refStep_yes HD1.out HD2.out HD3.out HFit.out))
                       have hnews := Lib.hid (news_new w4 #[.int .i64 (j : Int)] 3)
                       have O5 := Lib.hid (HR4.out.alloc (.cells #[.int .i64 (j : Int)] 3))
                       have hsz4 := HB5.out.size
                       have hlt4 := HJ4.out.lt
                       have hszW : w.heap.size + 1 ≤ (w4.alloc (.cells #[.int .i64 (j : Int)] 3)).heap.size := by simp; omega
                       go_wp2_with (at_builtin; refine listApp T25 rfl (.tmp 58) (.tmp 60) rfl (w.heap.size + 1) (.slice (some ⟨g'', 0, none⟩) T.length c'') T.length ((intsN T).map (.int .i64)) [.int .i64 (j : Int)] 1 1 ⟨w4.heap.size, 0, none⟩ rfl O5.out rfl rfl hnews.out (by simp [Value.oneCell']) hn2 hszW ?_; intro v6 w6 hown6 hg6 hL6; obtain ⟨g6, c6, hv6⟩ := owns_row3 hown6 hL6; subst hv6)
                       have HR6 : Hid (Row3 w6 (w.heap.size + 1) g6 c6 (T ++ [j])) := Lib.hid (by unfold Row3; rw [intsN_snoc, List.map_append, List.length_append]; exact hown6)
                       have HJ6 := Lib.hid ((HJ4.out.on (Below.new _ _)).kept hg6 hne (fun hp b off e e2 => by have := HAL.out hp b off e; have e2 := Option.some.inj e2; simp only at e2; have := HR.out.lt.1; omega))
                       have HB6 := Lib.hid ((HB5.out.alloc hsz4 _).grown hg6 (by simp; omega) (fun k e => by have e := Option.some.inj e; simp only at e; have := HR.out.lt.1; omega))
                       have HTl : Hid ((T ++ [j]).length = T.length + 1) := Lib.hid (by simp)
                       clear hown6 hg6 hL6 hne
                       go_roundw
                       case rel => exact ⟨j + 1, g6, c6, by omega, by go_num, by rw [HT2.out, HTl.out], by rw [HT2.out]; exact HR6, by rw [HT2.out]; exact HSn, HJ6, HB6⟩
                       case measure => simp [intOf]; omega)
                    | (have HT2 := Lib.hid (HT.out.trans (refStep_no HD2.out HD3.out HFit.out))
                       go_wp2_with fail
                       go_roundw
                       case rel => exact ⟨j + 1, g'', c'', by omega, by go_num, by rw [HT2.out], by rw [HT2.out]; exact HR4, by rw [HT2.out]; exact HO, HJ4, HB5⟩
                       case measure => simp [intOf]; omega)
          · have d1b : ((P.star S j).2.2 == V) = false := by rw [beq_eq_false_iff_ne]; exact d1
            have HT2 := Lib.hid (HT.out.trans (refStep_w d1))
            clear d1
            subst e2
            go_wp2_with fail
            go_quiet (fail)
            go_wp2_with fail
            go_roundw
            case rel => exact ⟨j + 1, g'', c'', by omega, by go_num, by rw [HT2.out], by rw [HT2.out]; exact HR, by rw [HT2.out]; exact HO, Lib.hid (HJ.out.drewN _), Lib.hid (bel_drewN HB.out _)⟩
            case measure => simp [intOf]; omega
        · have hjn : j = S.length := by omega
          subst hjn
          go_wp2_with fail
          go_roundw
          case rel => exact ⟨k + 1, g'', c'', by omega, by rw [HVk.out]; go_num, by rw [HSu.out], by rw [HSu.out]; exact HR, by rw [HSu.out]; exact HO, HJ, HB⟩
          case measure => simp [intOf]; omega
    · have hkk : k = 100 := by omega
      subst hkk
      go_wp2_with fail
      go_ret
      exact ⟨_, rfl, owns_mono HR.out (by omega), HB.out⟩
end Go.Proofs.Ytpkffjcmoghaaaa
/- Walks of the reference's functions: Chosen, Heaviest, Kind. -/
namespace Go.Proofs.Ytpkffjcmoghaaaa
open Go.RowKit
theorem out_chosen {p L : Int} {S : List P.Star} {g : List Nat} (hg : P.Set_ S p L g) (wo : Int) : OutP S.length (P.chosen S p L g wo) := ⟨(P.chosen_set hg wo).inn, (P.chosen_set hg wo).nd⟩
theorem filter_succ (q : Nat → Bool) (k : Nat) : (List.range (k + 1)).filter q = (List.range k).filter q ++ if q k then [k] else [] := by
  rw [List.range_succ, List.filter_append]; cases h : q k <;> simp [h]
theorem chosenE_bad {p L : Int} {S : List P.Star} (h : P.checkJob p L S ≠ 0) : P.chosenE p L S = ([], P.checkJob p L S) := by unfold P.chosenE; rw [if_pos h]
theorem chosenE_ok {p L : Int} {S : List P.Star} (h : P.checkJob p L S = 0) : P.chosenE p L S = (intsN (P.sorted S (P.chosen S p L [] (-1))), 0) := by unfold P.chosenE; rw [if_neg (not_not_intro h)]; rfl
theorem heavyE_bad {p L : Int} {S : List P.Star} (h : P.checkJob p L S ≠ 0) : P.heavyE p L S = (0, P.checkJob p L S) := by unfold P.heavyE; rw [if_pos h]
theorem heavyE_ok {p L : Int} {S : List P.Star} (h : P.checkJob p L S = 0) : P.heavyE p L S = (P.heavy S p L, 0) := by unfold P.heavyE; rw [if_neg (not_not_intro h)]
theorem kindE_bad {p L : Int} {S : List P.Star} {i : Int} (h : P.starred p L S i ≠ 0) : P.kindE p L S i = (0, P.starred p L S i) := by unfold P.kindE; rw [if_pos h]
theorem kindE_ok {p L : Int} {S : List P.Star} {i : Int} (h : P.starred p L S i = 0) : P.kindE p L S i = (P.kind S p L i.toNat, 0) := by unfold P.kindE; rw [if_neg (not_not_intro h)]
/-- The chosen stars, out of the reference. -/
theorem refChosen_nil (a : Option Addr) (cap : Nat) {p L : Int} {S : List P.Star} (wo : Int) (w : World) (hv : P.Valid p L S) (ha : Stars w a S) :
    Calls Try.prog 73 #[jobV p L a S.length cap, .slice none 0 0, .int .i64 wo] w fun e w' => ∃ v, e = .returned v ∧ w'.ownsRow w.heap.size 3 1 v (P.chosen S p L [] wo).length ((intsN (P.chosen S p L [] wo)).map (.int .i64)) ∧ Below w.heap.size w w' := by
  have h := refChosenOf_nil a cap p L S wo w hv ha
  rw [P.choose_ref hv.wt] at h; exact h
theorem refChosen_one (a : Option Addr) (cap : Nat) {p L : Int} {S : List P.Star} (bb off cap2 : Nat) (i : Nat) (wo : Int) (w : World) (hv : P.Valid p L S) (hi : i < S.length) (ha : Stars w a S) (hb : Ints .i64 w (some ⟨bb, off, none⟩) (intsN [i])) :
    Calls Try.prog 73 #[jobV p L a S.length cap, .slice (some ⟨bb, off, none⟩) 1 cap2, .int .i64 wo] w fun e w' => ∃ v, e = .returned v ∧ w'.ownsRow w.heap.size 3 1 v (P.chosen S p L [i] wo).length ((intsN (P.chosen S p L [i] wo)).map (.int .i64)) ∧ Below w.heap.size w w' := by
  have h := refChosenOf_some a cap p L S bb off cap2 [i] wo w hv ⟨by simpa using hi, by simp⟩ ha hb
  rw [P.choose_ref hv.wt] at h; exact h
/-- 'Some(j, l)' for numbers of stars. -/
theorem refSome_intsN (a : Option Addr) (cap : Nat) {p L : Int} {S : List P.Star} (hS : S.length ≤ 1000000) {I : List Nat} (hI : OutP S.length I) (W : World) (b : Option Addr) (cap2 : Nat) (ha : Stars W a S) (hb : Ints .i64 W b (intsN I)) :
    Calls Try.prog 69 #[jobV p L a S.length cap, .slice b I.length cap2] W fun e w' => ∃ v, e = .returned v ∧ w'.ownsRow W.heap.size 59 3 v I.length (flatS (P.sel S I)) ∧ Below W.heap.size W w' := by
  have hl := hI.len
  have h := refSome_any a cap p L S b cap2 (intsN I) W (by rw [intsN_length]; omega) hS (fun x hx => by
    unfold intsN at hx; rw [List.mem_map] at hx; obtain ⟨i, hi, rfl⟩ := hx
    exact ⟨Int.natCast_nonneg i, by have := hI.lt i hi; simp; omega⟩) ha hb
  rw [intsN_length, idx_intsN] at h; exact h
theorem refWeigh_sel (a : Option Addr) (cap : Nat) {p L : Int} {S : List P.Star} (hv : P.Valid p L S) {I : List Nat} (hI : OutP S.length I) (W : World) (ha : Stars W a (P.sel S I)) :
    Calls Try.prog 70 #[.slice a I.length cap] W fun e w' => e = .returned (.int .i64 (P.weigh S I)) ∧ W = w' := by
  have h := refWeigh_any a cap (P.sel S I) W (by rw [sel_length]; have := hI.len; have := hv.len; omega) (sel_wt hv hI.lt) ha
  rw [sel_length, wsum_sel] at h; exact h
set_option maxRecDepth 100000 in
set_option maxHeartbeats 2000000 in
theorem refHeaviest_any (a : Option Addr) (cap : Nat) (p L : Int) (S : List P.Star) (w : World) (hl : S.length ≤ 1000000) (ha : Stars w a S) :
    Calls Try.prog 39 #[jobV p L a S.length cap] w fun e w' => e = .returned (.tuple #[.int .i64 (P.heavyE p L S).1, .int .i64 (P.heavyE p L S).2]) ∧ Below w.heap.size w w' := by
  have hb0 := Below.new w (.cells #[.int .i64 p, .int .i64 L, .slice a S.length cap] 24)
  have HJ0 := Lib.hid (Job.new ha p L cap 24)
  have HB0 := Lib.hid hb0
  have HC := Lib.hid (fun W hW => refCheckJob_any a cap p L S W hl hW)
  clear ha hb0
  by_cases hc : P.checkJob p L S = 0
  · rw [hc] at HC
    have hv := P.checkJob_iff.1 hc
    have HE := Lib.hid (heavyE_ok hc)
    have HCh := Lib.hid (fun W hW => refChosen_nil a cap (-1) W hv hW)
    have hO := out_chosen (P.set_nil hv) (-1)
    have HSo := Lib.hid (fun W b c hW hI => refSome_intsN a cap (p := p) (L := L) hl hO W b c hW hI)
    have HWe := Lib.hid (fun W b c hW => refWeigh_sel b c hv hO W hW)
    clear hc hv hO
    go_enter Try.func39, Try.ntmps39
    go_wp2_with fail
    refine (HC.out _ HJ0.out.st).mono ?_
    rintro e w1 ⟨rfl, hb1⟩
    have HB1 := Lib.hid (HB0.out.trans (hb1.mono HB0.out.size))
    have HJ1 := Lib.hid (HJ0.out.on hb1)
    clear hb1
    have x1 := HJ1.out.x1
    have x2 := HJ1.out.x2
    have x3 := HJ1.out.x3
    go_wp2_with fail
    go_region_held3 (fun w' => w'.cell? ⟨w.heap.size, 0, none⟩ = some (.int .i64 p) ∧ w'.cell? ⟨w.heap.size, 1, none⟩ = some (.int .i64 L) ∧ w'.cell? ⟨w.heap.size, 2, none⟩ = some (.slice a S.length cap))
      (first | (have BB := HB3.out; exact ⟨cell_on BB x1, cell_on BB x2, cell_on BB x3⟩) | (have BB := HB2.out; exact ⟨cell_on BB x1, cell_on BB x2, cell_on BB x3⟩) | go_keep)
      (first
        | (go_at_call 73; refine (HCh.out _ (HJ1.out.drewN 1).st).mono ?_; rintro e w2 ⟨v2, rfl, hown2, hb2⟩; obtain ⟨-, a2, c2, hv2, hi2, -⟩ := Ints.of_ownsRow hown2; subst hv2; have HB2 : Hid (Below w1.heap.size w1 w2) := Lib.hid ((bel_drewN (Below.refl _ _) 1).trans hb2); have HI2 := Lib.hid hi2; clear hown2 hb2 hi2)
        | (go_at_call 69; refine (HSo.out _ _ _ (HJ1.out.on HB2.out).st HI2.out).mono ?_; rintro e w3 ⟨v3, rfl, hown3, hb3⟩; obtain ⟨-, a3, c3, hv3, hs3, -⟩ := owns_stars hown3; subst hv3; have HS3 := Lib.hid hs3; have HB3 : Hid (Below w1.heap.size w1 w3) := Lib.hid (HB2.out.trans (hb3.mono HB2.out.size)); clear hown3 hb3 hs3)
        | (go_at_call 70; refine (HWe.out _ _ _ HS3.out).mono ?_; rintro e w4 ⟨rfl, rfl⟩))
    go_wp2_with fail
    go_ret2
    exact ⟨by rw [HE.out]; first | done | rfl, HB1.out.trans (HB3.out.mono HB1.out.size)⟩
  · have HE := Lib.hid (heavyE_bad hc)
    have hc' := ne_bool hc
    clear hc
    go_enter Try.func39, Try.ntmps39
    go_wp2_with fail
    refine (HC.out _ HJ0.out.st).mono ?_
    rintro e w1 ⟨rfl, hb1⟩
    have HB1 := Lib.hid (HB0.out.trans (hb1.mono HB0.out.size))
    have HJ1 := Lib.hid (HJ0.out.on hb1)
    clear hb1
    have x1 := HJ1.out.x1
    have x2 := HJ1.out.x2
    have x3 := HJ1.out.x3
    go_wp2_with fail
    refine (HC.out _ HJ1.out.st).mono ?_
    rintro e w2 ⟨rfl, hb2⟩
    go_wp2_with fail
    go_ret2
    exact ⟨by rw [HE.out]; first | done | rfl, HB1.out.trans (hb2.mono HB1.out.size)⟩
theorem ints_new1 (w : World) (i : Nat) : Ints .i64 (w.alloc (.cells #[.int .i64 (i : Int)] 3)) (some ⟨w.heap.size, 0, none⟩) (intsN [i]) := by
  intro j hj
  have : j = 0 := by simp [intsN] at hj; omega
  subst this
  exact ⟨w.heap.size, 0, rfl, by simp [intsN, nth]⟩
set_option maxRecDepth 100000 in
set_option maxHeartbeats 4000000 in
theorem refKind_any (a : Option Addr) (cap : Nat) (p L : Int) (S : List P.Star) (i : Int) (w : World) (hl : S.length ≤ 1000000) (ha : Stars w a S) :
    Calls Try.prog 41 #[jobV p L a S.length cap, .int .i64 i] w fun e w' => e = .returned (.tuple #[.int .i64 (P.kindE p L S i).1, .int .i64 (P.kindE p L S i).2]) ∧ Below w.heap.size w w' := by
  have hb0 := Below.new w (.cells #[.int .i64 p, .int .i64 L, .slice a S.length cap] 24)
  have HJ0 := Lib.hid (Job.new ha p L cap 24)
  have HB0 := Lib.hid hb0
  have HC := Lib.hid (fun W hW => starred_any a cap p L S i W hl hW)
  clear ha hb0
  by_cases hc : P.starred p L S i = 0
  · obtain ⟨hv, i0, i1⟩ := starred_zero hc
    obtain ⟨i, rfl⟩ := Int.eq_ofNat_of_zero_le i0
    have hi : i < S.length := by omega
    rw [hc] at HC
    have HE := Lib.hid (kindE_ok hc)
    have HChA := Lib.hid (fun W hW => refChosen_nil a cap (-1) W hv hW)
    have hOA := out_chosen (P.set_nil hv) (-1)
    have HSoA := Lib.hid (fun W b c hW hI => refSome_intsN a cap (p := p) (L := L) hl hOA W b c hW hI)
    have HWeA := Lib.hid (fun W b c hW => refWeigh_sel b c hv hOA W hW)
    have HChB := Lib.hid (fun W hW => refChosen_nil a cap (i : Int) W hv hW)
    have hOB := out_chosen (P.set_nil hv) (i : Int)
    have HSoB := Lib.hid (fun W b c hW hI => refSome_intsN a cap (p := p) (L := L) hl hOB W b c hW hI)
    have HWeB := Lib.hid (fun W b c hW => refWeigh_sel b c hv hOB W hW)
    have HChC := Lib.hid (fun W bb off c hW hI => refChosen_one a cap bb off c i (-1) W hv hi hW hI)
    have hOC := out_chosen (P.set_one hv hi) (-1)
    have HSoC := Lib.hid (fun W b c hW hI => refSome_intsN a cap (p := p) (L := L) hl hOC W b c hW hI)
    have HWeC := Lib.hid (fun W b c hW => refWeigh_sel b c hv hOC W hW)
    clear hc hv hOA hOB hOC i0
    by_cases k1 : P.weigh S (P.chosen S p L [] i) < P.weigh S (P.chosen S p L [] (-1))
    · have HK : Hid (P.kind S p L i = 2) := Lib.hid (by unfold P.kind P.heavy; rw [if_pos k1])
      go_enter Try.func41, Try.ntmps41
      go_wp2_with fail
      refine (HC.out _ HJ0.out.st).mono ?_
      rintro e w1 ⟨rfl, hb1⟩
      have HB1 := Lib.hid (HB0.out.trans (hb1.mono HB0.out.size))
      have HJ1 := Lib.hid (HJ0.out.on hb1)
      clear hb1
      have x1 := HJ1.out.x1
      have x2 := HJ1.out.x2
      have x3 := HJ1.out.x3
      go_wp2_with fail
      go_region_held3 (fun w' => w'.cell? ⟨w.heap.size, 0, none⟩ = some (.int .i64 p) ∧ w'.cell? ⟨w.heap.size, 1, none⟩ = some (.int .i64 L) ∧ w'.cell? ⟨w.heap.size, 2, none⟩ = some (.slice a S.length cap))
        (first | (have BB := HB3a.out; exact ⟨cell_on BB x1, cell_on BB x2, cell_on BB x3⟩) | (have BB := HB2a.out; exact ⟨cell_on BB x1, cell_on BB x2, cell_on BB x3⟩) | go_keep)
        (first
          | (go_at_call 73; refine (HChA.out _ (HJ1.out.drewN 1).st).mono ?_; rintro e w2a ⟨v2a, rfl, hown2, hb2⟩; obtain ⟨-, a2a, c2a, hv2, hi2, -⟩ := Ints.of_ownsRow hown2; subst hv2; have HB2a : Hid (Below w1.heap.size w1 w2a) := Lib.hid (Below.trans (by repeat (first | exact Below.refl _ _ | exact bel_drewN (Below.refl _ _) _ | (refine Below.alloc ?_ (by simp) _))) (hb2.mono (by simp))); have HI2a := Lib.hid hi2; clear hown2 hb2 hi2)
          | (go_at_call 69; refine (HSoA.out _ _ _ (HJ1.out.on HB2a.out).st HI2a.out).mono ?_; rintro e w3a ⟨v3a, rfl, hown3, hb3⟩; obtain ⟨-, a3a, c3a, hv3, hs3, -⟩ := owns_stars hown3; subst hv3; have HS3a := Lib.hid hs3; have HB3a : Hid (Below w1.heap.size w1 w3a) := Lib.hid (HB2a.out.trans (hb3.mono HB2a.out.size)); clear hown3 hb3 hs3)
          | (go_at_call 70; refine (HWeA.out _ _ _ HS3a.out).mono ?_; rintro e w4a ⟨rfl, rfl⟩))
      have HJ2 := Lib.hid (HJ1.out.on HB3a.out)
      have HB2 := Lib.hid (HB1.out.trans (HB3a.out.mono HB1.out.size))
      clear x1 x2 x3
      have x1 := HJ2.out.x1
      have x2 := HJ2.out.x2
      have x3 := HJ2.out.x3
      go_wp2_with fail
      go_region_held3 (fun w' => w'.cell? ⟨w.heap.size, 0, none⟩ = some (.int .i64 p) ∧ w'.cell? ⟨w.heap.size, 1, none⟩ = some (.int .i64 L) ∧ w'.cell? ⟨w.heap.size, 2, none⟩ = some (.slice a S.length cap))
        (first | (have BB := HB3b.out; exact ⟨cell_on BB x1, cell_on BB x2, cell_on BB x3⟩) | (have BB := HB2b.out; exact ⟨cell_on BB x1, cell_on BB x2, cell_on BB x3⟩) | go_keep)
        (first
          | (go_at_call 73; refine (HChB.out _ (HJ2.out.drewN 1).st).mono ?_; rintro e w2b ⟨v2b, rfl, hown2, hb2⟩; obtain ⟨-, a2b, c2b, hv2, hi2, -⟩ := Ints.of_ownsRow hown2; subst hv2; have HB2b : Hid (Below w3a.heap.size w3a w2b) := Lib.hid (Below.trans (by repeat (first | exact Below.refl _ _ | exact bel_drewN (Below.refl _ _) _ | (refine Below.alloc ?_ (by simp) _))) (hb2.mono (by simp))); have HI2b := Lib.hid hi2; clear hown2 hb2 hi2)
          | (go_at_call 69; refine (HSoB.out _ _ _ (HJ2.out.on HB2b.out).st HI2b.out).mono ?_; rintro e w3b ⟨v3b, rfl, hown3, hb3⟩; obtain ⟨-, a3b, c3b, hv3, hs3, -⟩ := owns_stars hown3; subst hv3; have HS3b := Lib.hid hs3; have HB3b : Hid (Below w3a.heap.size w3a w3b) := Lib.hid (HB2b.out.trans (hb3.mono HB2b.out.size)); clear hown3 hb3 hs3)
          | (go_at_call 70; refine (HWeB.out _ _ _ HS3b.out).mono ?_; rintro e w4b ⟨rfl, rfl⟩))
      go_wp2_with fail
      go_ret2
      exact ⟨by rw [HE.out]; show _ = Ending.returned (.tuple #[.int .i64 (P.kind S p L i), .int .i64 0]); rw [HK.out]; first | done | rfl, HB2.out.trans (HB3b.out.mono HB2.out.size)⟩
    · by_cases k2 : P.weigh S (P.chosen S p L [i] (-1)) = P.weigh S (P.chosen S p L [] (-1))
      all_goals
        first
        | have HK : Hid (P.kind S p L i = 1) := Lib.hid (by unfold P.kind P.heavy; rw [if_neg k1, if_pos k2])
        | have HK : Hid (P.kind S p L i = 0) := Lib.hid (by unfold P.kind P.heavy; rw [if_neg k1, if_neg k2])
        have k3 : (P.weigh S (P.chosen S p L [i] (-1)) == P.weigh S (P.chosen S p L [] (-1))) = decide (P.weigh S (P.chosen S p L [i] (-1)) = P.weigh S (P.chosen S p L [] (-1))) := rfl
        first | rw [decide_eq_true k2] at k3 | rw [decide_eq_false k2] at k3
        clear k2
        go_enter Try.func41, Try.ntmps41
        go_wp2_with fail
        refine (HC.out _ HJ0.out.st).mono ?_
        rintro e w1 ⟨rfl, hb1⟩
        have HB1 := Lib.hid (HB0.out.trans (hb1.mono HB0.out.size))
        have HJ1 := Lib.hid (HJ0.out.on hb1)
        clear hb1
        have x1 := HJ1.out.x1
        have x2 := HJ1.out.x2
        have x3 := HJ1.out.x3
        go_wp2_with fail
        go_region_held3 (fun w' => w'.cell? ⟨w.heap.size, 0, none⟩ = some (.int .i64 p) ∧ w'.cell? ⟨w.heap.size, 1, none⟩ = some (.int .i64 L) ∧ w'.cell? ⟨w.heap.size, 2, none⟩ = some (.slice a S.length cap))
          (first | (have BB := HB3a.out; exact ⟨cell_on BB x1, cell_on BB x2, cell_on BB x3⟩) | (have BB := HB2a.out; exact ⟨cell_on BB x1, cell_on BB x2, cell_on BB x3⟩) | go_keep)
          (first
            | (go_at_call 73; refine (HChA.out _ (HJ1.out.drewN 1).st).mono ?_; rintro e w2a ⟨v2a, rfl, hown2, hb2⟩; obtain ⟨-, a2a, c2a, hv2, hi2, -⟩ := Ints.of_ownsRow hown2; subst hv2; have HB2a : Hid (Below w1.heap.size w1 w2a) := Lib.hid (Below.trans (by repeat (first | exact Below.refl _ _ | exact bel_drewN (Below.refl _ _) _ | (refine Below.alloc ?_ (by simp) _))) (hb2.mono (by simp))); have HI2a := Lib.hid hi2; clear hown2 hb2 hi2)
            | (go_at_call 69; refine (HSoA.out _ _ _ (HJ1.out.on HB2a.out).st HI2a.out).mono ?_; rintro e w3a ⟨v3a, rfl, hown3, hb3⟩; obtain ⟨-, a3a, c3a, hv3, hs3, -⟩ := owns_stars hown3; subst hv3; have HS3a := Lib.hid hs3; have HB3a : Hid (Below w1.heap.size w1 w3a) := Lib.hid (HB2a.out.trans (hb3.mono HB2a.out.size)); clear hown3 hb3 hs3)
            | (go_at_call 70; refine (HWeA.out _ _ _ HS3a.out).mono ?_; rintro e w4a ⟨rfl, rfl⟩))
        have HJ2 := Lib.hid (HJ1.out.on HB3a.out)
        have HB2 := Lib.hid (HB1.out.trans (HB3a.out.mono HB1.out.size))
        clear x1 x2 x3
        have x1 := HJ2.out.x1
        have x2 := HJ2.out.x2
        have x3 := HJ2.out.x3
        go_wp2_with fail
        go_region_held3 (fun w' => w'.cell? ⟨w.heap.size, 0, none⟩ = some (.int .i64 p) ∧ w'.cell? ⟨w.heap.size, 1, none⟩ = some (.int .i64 L) ∧ w'.cell? ⟨w.heap.size, 2, none⟩ = some (.slice a S.length cap))
          (first | (have BB := HB3b.out; exact ⟨cell_on BB x1, cell_on BB x2, cell_on BB x3⟩) | (have BB := HB2b.out; exact ⟨cell_on BB x1, cell_on BB x2, cell_on BB x3⟩) | go_keep)
          (first
            | (go_at_call 73; refine (HChB.out _ (HJ2.out.drewN 1).st).mono ?_; rintro e w2b ⟨v2b, rfl, hown2, hb2⟩; obtain ⟨-, a2b, c2b, hv2, hi2, -⟩ := Ints.of_ownsRow hown2; subst hv2; have HB2b : Hid (Below w3a.heap.size w3a w2b) := Lib.hid (Below.trans (by repeat (first | exact Below.refl _ _ | exact bel_drewN (Below.refl _ _) _ | (refine Below.alloc ?_ (by simp) _))) (hb2.mono (by simp))); have HI2b := Lib.hid hi2; clear hown2 hb2 hi2)
            | (go_at_call 69; refine (HSoB.out _ _ _ (HJ2.out.on HB2b.out).st HI2b.out).mono ?_; rintro e w3b ⟨v3b, rfl, hown3, hb3⟩; obtain ⟨-, a3b, c3b, hv3, hs3, -⟩ := owns_stars hown3; subst hv3; have HS3b := Lib.hid hs3; have HB3b : Hid (Below w3a.heap.size w3a w3b) := Lib.hid (HB2b.out.trans (hb3.mono HB2b.out.size)); clear hown3 hb3 hs3)
            | (go_at_call 70; refine (HWeB.out _ _ _ HS3b.out).mono ?_; rintro e w4b ⟨rfl, rfl⟩))
        have HJ3 := Lib.hid (HJ2.out.on HB3b.out)
        have HB3 := Lib.hid (HB2.out.trans (HB3b.out.mono HB2.out.size))
        clear x1 x2 x3
        have x1 := HJ3.out.x1
        have x2 := HJ3.out.x2
        have x3 := HJ3.out.x3
        go_wp2_with fail
        go_region_held3 (fun w' => w'.cell? ⟨w.heap.size, 0, none⟩ = some (.int .i64 p) ∧ w'.cell? ⟨w.heap.size, 1, none⟩ = some (.int .i64 L) ∧ w'.cell? ⟨w.heap.size, 2, none⟩ = some (.slice a S.length cap))
          (first | (have BB := HB3c.out; exact ⟨cell_on BB x1, cell_on BB x2, cell_on BB x3⟩) | (have BB := HB2c.out; exact ⟨cell_on BB x1, cell_on BB x2, cell_on BB x3⟩) | go_keep)
          (first
            | (go_at_call 73; refine (HChC.out _ _ _ _ (HJ3.out.on (Below.alloc (bel_drewN (Below.refl _ _) 1) (by simp) _)).st (ints_new1 _ i)).mono ?_; rintro e w2c ⟨v2c, rfl, hown2, hb2⟩; obtain ⟨-, a2c, c2c, hv2, hi2, -⟩ := Ints.of_ownsRow hown2; subst hv2; have HB2c : Hid (Below w3b.heap.size w3b w2c) := Lib.hid (Below.trans (by repeat (first | exact Below.refl _ _ | exact bel_drewN (Below.refl _ _) _ | (refine Below.alloc ?_ (by simp) _))) (hb2.mono (by simp))); have HI2c := Lib.hid hi2; clear hown2 hb2 hi2)
            | (go_at_call 69; refine (HSoC.out _ _ _ (HJ3.out.on HB2c.out).st HI2c.out).mono ?_; rintro e w3c ⟨v3c, rfl, hown3, hb3⟩; obtain ⟨-, a3c, c3c, hv3, hs3, -⟩ := owns_stars hown3; subst hv3; have HS3c := Lib.hid hs3; have HB3c : Hid (Below w3b.heap.size w3b w3c) := Lib.hid (HB2c.out.trans (hb3.mono HB2c.out.size)); clear hown3 hb3 hs3)
            | (go_at_call 70; refine (HWeC.out _ _ _ HS3c.out).mono ?_; rintro e w4c ⟨rfl, rfl⟩))
        go_wp2_with fail
        go_ret2
        exact ⟨by rw [HE.out]; show _ = Ending.returned (.tuple #[.int .i64 (P.kind S p L i), .int .i64 0]); rw [HK.out]; first | done | rfl, HB3.out.trans (HB3c.out.mono HB3.out.size)⟩
  · have HE := Lib.hid (kindE_bad hc)
    have hc' := ne_bool hc
    clear hc
    go_enter Try.func41, Try.ntmps41
    go_wp2_with fail
    refine (HC.out _ HJ0.out.st).mono ?_
    rintro e w1 ⟨rfl, hb1⟩
    have HB1 := Lib.hid (HB0.out.trans (hb1.mono HB0.out.size))
    have HJ1 := Lib.hid (HJ0.out.on hb1)
    clear hb1
    have x1 := HJ1.out.x1
    have x2 := HJ1.out.x2
    have x3 := HJ1.out.x3
    go_wp2_with fail
    refine (HC.out _ HJ1.out.st).mono ?_
    rintro e w2 ⟨rfl, hb2⟩
    go_wp2_with fail
    go_ret2
    exact ⟨by rw [HE.out]; first | done | rfl, HB1.out.trans (hb2.mono HB1.out.size)⟩
end Go.Proofs.Ytpkffjcmoghaaaa
/- Walk of the reference's Chosen. -/
namespace Go.Proofs.Ytpkffjcmoghaaaa
open Go.RowKit
set_option maxRecDepth 100000 in
set_option maxHeartbeats 4000000 in
theorem refChosen_any (a : Option Addr) (cap : Nat) (p L : Int) (S : List P.Star) (w : World) (hl : S.length ≤ 1000000) (ha : Stars w a S) :
    Calls Try.prog 37 #[jobV p L a S.length cap] w fun e w' => ∃ v, e = .returned (.tuple #[v, .int .i64 (P.chosenE p L S).2]) ∧ w'.ownsRow w.heap.size 3 1 v (P.chosenE p L S).1.length ((P.chosenE p L S).1.map (.int .i64)) ∧ Below w.heap.size w w' := by
  have hb0 := Below.new w (.cells #[.int .i64 p, .int .i64 L, .slice a S.length cap] 24)
  have HJ0 := Lib.hid (Job.new ha p L cap 24)
  have HB0 := Lib.hid hb0
  have HC := Lib.hid (fun W hW => refCheckJob_any a cap p L S W hl hW)
  clear ha hb0
  by_cases hc : P.checkJob p L S = 0
  · rw [hc] at HC
    have hv := P.checkJob_iff.1 hc
    have HE := Lib.hid (chosenE_ok hc)
    have HCh := Lib.hid (fun W hW => refChosen_nil a cap (-1) W hv hW)
    have hO := out_chosen (P.set_nil hv) (-1)
    have h16 := hv.len
    clear hc hv
    go_enter Try.func37, Try.ntmps37
    go_wp2_with fail
    refine (HC.out _ HJ0.out.st).mono ?_
    rintro e w1 ⟨rfl, hb1⟩
    have HB1 := Lib.hid (HB0.out.trans (hb1.mono HB0.out.size))
    have HJ1 := Lib.hid (HJ0.out.on hb1)
    clear hb1
    have x1 := HJ1.out.x1
    have x2 := HJ1.out.x2
    have x3 := HJ1.out.x3
    go_wp2_with fail
    refine (HCh.out _ HJ1.out.st).mono ?_
    rintro e w2 ⟨v2, rfl, hown2, hb2⟩
    obtain ⟨-, a2, c2, rfl, hi2, -⟩ := Ints.of_ownsRow hown2
    have HB2 := Lib.hid (HB1.out.trans (hb2.mono HB1.out.size))
    have HJ2 := Lib.hid (HJ1.out.on hb2)
    have HI2 := Lib.hid hi2
    have HSo : Hid (P.sorted S (P.chosen S p L [] (-1)) = (List.range S.length).filter fun i => decide (i ∈ P.chosen S p L [] (-1))) := rfl
    generalize P.chosen S p L [] (-1) = C at *
    have hCl := hO.len
    have HO := Lib.hid hO
    clear hown2 hb2 hi2 x1 x2 x3 hO
    go_wp2_with fail
    go_loopw [5, 6] (fun o i wr => ∃ k : Nat, k ≤ S.length ∧ i = .int .i64 k ∧ Hid (wr.ownsRow w2.heap.size 3 1 o ((List.range k).filter fun i => decide (i ∈ C)).length ((intsN ((List.range k).filter fun i => decide (i ∈ C))).map (.int .i64))) ∧ Hid (Below w2.heap.size w2 wr)) (fun _ i _ => S.length - (intOf i).toNat)
    case atStart => exact ⟨0, by omega, rfl, Lib.hid (World.ownsRow_nil _ _ _ _), Lib.hid (Below.refl _ _)⟩
    case round =>
      obtain ⟨k, hk, rfl, HOw, HB⟩ := hrel
      have HJ := Lib.hid (HJ2.out.on HB.out)
      have x3 := HJ.out.x3
      have hsz := HB.out.size
      by_cases hlt : k < S.length
      · have HT := Lib.hid (filter_succ (fun i => decide (i ∈ C)) k)
        have hln : ((List.range k).filter fun i => decide (i ∈ C)).length ≤ k := Nat.le_trans (List.length_filter_le _ _) (by simp)
        generalize (List.range k).filter (fun i => decide (i ∈ C)) = T at *
        have hHas := refHas_any a2 c2 (intsN C) (k : Int) wr (by rw [intsN_length]; omega) (HI2.out.below HB.out)
        rw [intsN_length] at hHas
        by_cases d : k ∈ C
        · rw [decide_eq_true (mem_intsN.2 d)] at hHas
          have HHas := Lib.hid hHas
          have HT2 : Hid ((List.range (k + 1)).filter (fun i => decide (i ∈ C)) = T ++ [k]) := Lib.hid (by rw [HT.out]; simp [d])
          clear d hHas
          have hnews := Lib.hid (news_new wr #[.int .i64 (k : Int)] 3)
          have O5 := Lib.hid (HOw.out.alloc (.cells #[.int .i64 (k : Int)] 3))
          have hszW : w2.heap.size ≤ (wr.alloc (.cells #[.int .i64 (k : Int)] 3)).heap.size := by simp; omega
          have hn2 : T.length + 1 ≤ 2000000 := by omega
          go_wp2_with fail
          refine HHas.out.mono ?_
          rintro e w3 ⟨rfl, rfl⟩
          go_wp2_with (at_builtin; refine listApp T25 rfl (.tmp 24) (.tmp 26) rfl w2.heap.size u5 T.length ((intsN T).map (.int .i64)) [.int .i64 (k : Int)] 1 1 ⟨wr.heap.size, 0, none⟩ rfl O5.out rfl rfl hnews.out (by simp [Value.oneCell']) hn2 hszW ?_; intro v6 w6 hown6 hg6 hL6)
          go_roundw
          case rel => exact ⟨k + 1, by omega, by go_num, by rw [HT2.out, intsN_snoc, List.map_append, List.length_append]; exact Lib.hid hown6, Lib.hid ((HB.out.alloc hsz _).grown hg6 hszW (fun g e => (HOw.out.lt g e).1))⟩
          case measure => simp [intOf]; omega
        · rw [decide_eq_false (fun h => d (mem_intsN.1 h))] at hHas
          have HHas := Lib.hid hHas
          have HT2 : Hid ((List.range (k + 1)).filter (fun i => decide (i ∈ C)) = T) := Lib.hid (by rw [HT.out]; simp [d])
          clear d hHas
          go_wp2_with fail
          refine HHas.out.mono ?_
          rintro e w3 ⟨rfl, rfl⟩
          go_wp2_with fail
          go_roundw
          case rel => exact ⟨k + 1, by omega, by go_num, by rw [HT2.out]; exact HOw, HB⟩
          case measure => simp [intOf]; omega
      · have hkk : k = S.length := by omega
        subst hkk
        have hs2 := HB2.out.size
        have HF : Hid (P.chosenE p L S = (intsN ((List.range S.length).filter fun i => decide (i ∈ C)), 0)) := Lib.hid (by rw [HE.out, HSo.out])
        go_wp2_with fail
        go_ret2
        exact ⟨_, by rw [HF.out]; first | done | rfl, by rw [HF.out, intsN_length]; exact owns_mono HOw.out hs2, HB2.out.trans (HB.out.mono hs2)⟩
  · have HE := Lib.hid (chosenE_bad hc)
    have hc' := ne_bool hc
    clear hc
    go_enter Try.func37, Try.ntmps37
    go_wp2_with fail
    refine (HC.out _ HJ0.out.st).mono ?_
    rintro e w1 ⟨rfl, hb1⟩
    have HB1 := Lib.hid (HB0.out.trans (hb1.mono HB0.out.size))
    have HJ1 := Lib.hid (HJ0.out.on hb1)
    clear hb1
    have x1 := HJ1.out.x1
    have x2 := HJ1.out.x2
    have x3 := HJ1.out.x3
    go_wp2_with fail
    refine (HC.out _ HJ1.out.st).mono ?_
    rintro e w2 ⟨rfl, hb2⟩
    go_wp2_with fail
    go_ret2
    exact ⟨_, by rw [HE.out]; first | done | rfl, by rw [HE.out]; exact World.ownsRow_nil _ _ _ _, HB1.out.trans (hb2.mono HB1.out.size)⟩
end Go.Proofs.Ytpkffjcmoghaaaa
