/- One text of ComN, ComO. -/
import Derived.Test.YtcjbnifafofpbaaGreatDoorJ15
import Derived.Lib.ConvBytes
import Derived.Lib.OthersKept
/- The words of the program's newShelf. -/
namespace Go.Proofs.YtcjbnifafofpbaaGreatDoor
open Go.RowKit Go.Lib Go.Sort
theorem setCells_grown : ∀ (vs : List Value) (b o : Nat) (w : World), w.grownBy (w.setCells b o vs) (some b)
  | [], _, _, _ => ⟨rfl, rfl, rfl, Nat.le_refl _, fun _ _ _ => rfl⟩
  | v :: vs, b, o, w => ((grownBy_setCell w b o v).andThen (setCells_grown vs b (o + 1) (w.setCell ⟨b, o, none⟩ v)) (fun _ e => .inr e))
theorem set_same {L : List Value} {i : Nat} {v : Value} (h : L[i]? = some v) : L.set i v = L := by
  apply List.ext_getElem?
  intro j
  rw [List.getElem?_set]
  split
  · rename_i e; subst e
    have := (List.getElem?_eq_some_iff.1 h).1
    rw [if_pos this, h]
  · rfl
theorem Cells.same {b : Nat} {L : List Value} : ∀ (vs : List Value) (o : Nat) (w : World), Cells w b L → (∀ j v, vs[j]? = some v → L[o + j]? = some v) → Cells (w.setCells b o vs) b L
  | [], _, _, h, _ => h
  | v :: vs, o, w, h, hv => by
    have h0 := hv 0 v rfl
    rw [Nat.add_zero] at h0
    have h1 := h.set o v (List.getElem?_eq_some_iff.1 h0).1
    rw [set_same h0] at h1
    exact Cells.same vs (o + 1) _ h1 (fun j u hj => by have := hv (j + 1) u (by simpa using hj); rw [show o + 1 + j = o + (j + 1) by omega]; exact this)
/-- A shelf that is being made: its block, and the box that points to it. -/
structure Sh (w wr : World) (a : Option Addr) (cap : Nat) (l : List X.W) (cs : List Int) (v : Value) : Prop where
  cel : Cells wr w.heap.size (.slice a l.length cap :: (cs.map (.int .i64) ++ [v]))
  len : cs.length = 26
  box : Boxed wr (w.heap.size + 1) 63 (.pointer (some ⟨w.heap.size, 0, none⟩))
  bel : RowKit.Below w.heap.size w wr
theorem Sh.on {w wr wr' : World} {a : Option Addr} {cap : Nat} {l : List X.W} {cs : List Int} {v : Value} (h : Sh w wr a cap l cs v) (hb : RowKit.Below wr.heap.size wr wr') : Sh w wr' a cap l cs v :=
  ⟨h.cel.on hb, h.len, Boxed.on h.box hb, h.bel.trans (hb.mono h.bel.size)⟩
theorem Sh.c0 {w wr : World} {a : Option Addr} {cap : Nat} {l : List X.W} {cs : List Int} {v : Value} (h : Sh w wr a cap l cs v) : wr.cell? ⟨w.heap.size, 0, none⟩ = some (.slice a l.length cap) := h.cel.cel 0 _ rfl
theorem Sh.c1 {w wr : World} {a : Option Addr} {cap : Nat} {l : List X.W} {cs : List Int} {v : Value} (h : Sh w wr a cap l cs v) (i : Nat) (hi : i < 26) : wr.cell? ⟨w.heap.size, 1 + i, none⟩ = some (.int .i64 (nth cs i)) := h.cel.cel (1 + i) _ (by
  have := h.len
  rw [show 1 + i = i + 1 by omega, List.getElem?_cons_succ, List.getElem?_append_left (by simp; omega)]
  simp [nth, show i < cs.length by omega])
theorem Sh.c2 {w wr : World} {a : Option Addr} {cap : Nat} {l : List X.W} {cs : List Int} {v : Value} (h : Sh w wr a cap l cs v) : wr.cell? ⟨w.heap.size, 27, none⟩ = some v := h.cel.cel 27 _ (by
  have := h.len
  rw [show 27 = 26 + 1 by rfl, List.getElem?_cons_succ, List.getElem?_append_right (by simp; omega)]
  simp [this])
theorem Sh.put {w wr : World} {a : Option Addr} {cap : Nat} {l : List X.W} {cs : List Int} {v : Value} (h : Sh w wr a cap l cs v) (i : Nat) (x : Int) (hi : i < 26) : Sh w (wr.setCell ⟨w.heap.size, 1 + i, none⟩ (.int .i64 x)) a cap l (cs.set i x) v := by
  have hl := h.len
  refine ⟨?_, by rw [List.length_set]; exact hl, Boxed.setOther h.box (by omega), h.bel.setCell (p := ⟨w.heap.size, 1 + i, none⟩) (Nat.le_refl _) _⟩
  have := h.cel.set (1 + i) (.int .i64 x) (by simp; omega)
  rw [show 1 + i = i + 1 by omega, List.set_cons_succ, List.set_append_left _ _ (by simp; omega), ← List.map_set] at this
  rw [show 1 + i = i + 1 by omega]; exact this
theorem Sh.drew {w wr wr' : World} {a : Option Addr} {cap : Nat} {l : List X.W} {cs : List Int} {v : Value} (h : Sh w wr a cap l cs v) (hd : Drew wr wr') : Sh w wr' a cap l cs v := h.on (hd.below _)
/-- How often letters have been seen. -/
structure CInv (cs : List Int) (n : Nat) : Prop where
  len : cs.length = 26
  bd : ∀ i, i < 26 → 0 ≤ nth cs i ∧ nth cs i ≤ n
  pos : 0 < n → ∃ i, i < 26 ∧ 0 < nth cs i
theorem nth_zeros {i : Nat} (hi : i < 26) : nth (List.replicate 26 (0 : Int)) i = 0 := by
  unfold nth
  rw [List.getD_eq_getElem?_getD, List.getElem?_replicate, if_pos hi]; rfl
theorem CInv.zero : CInv (List.replicate 26 0) 0 := ⟨rfl, fun i hi => by rw [nth_zeros hi]; omega, fun h => by omega⟩
theorem zeros_at {v : Value} {j : Nat} (hj : j < 26) (A : Value) : (A :: ((List.replicate 26 (0 : Int)).map (.int .i64) ++ [v]))[1 + j]? = some (.int .i64 0) := by
  rw [show 1 + j = j + 1 by omega, List.getElem?_cons_succ, List.getElem?_append_left (by rw [List.length_map, List.length_replicate]; exact hj), List.getElem?_map, List.getElem?_replicate, if_pos hj]; rfl
theorem CInv.step {cs : List Int} {n i : Nat} (h : CInv cs n) (hi : i < 26) : CInv (cs.set i (nth cs i + 1)) (n + 1) := by
  have hl := h.len
  refine ⟨by rw [List.length_set]; exact hl, fun j hj => ?_, fun _ => ⟨i, hi, ?_⟩⟩
  · by_cases e : i = j
    · subst e; rw [nth_set_eq (by omega)]; have := h.bd i hi; omega
    · rw [nth_set_ne e]; have := h.bd j hj; omega
  · rw [nth_set_eq (by omega)]; have := h.bd i hi; omega
theorem Sh.grown {w wr wr' : World} {a : Option Addr} {cap : Nat} {l : List X.W} {cs : List Int} {v : Value} {k : Nat} (h : Sh w wr a cap l cs v) (hg : wr.grownBy wr' (some k)) (hk : w.heap.size + 1 < k) : Sh w wr' a cap l cs v :=
  ⟨h.cel.grown hg (fun e => by injection e; omega), h.len, Boxed.kept h.box hg (fun e => by injection e; omega), h.bel.grown hg h.bel.size (fun j e => by injection e; omega)⟩
/-- A round's keeping. -/
structure KS (l : List X.W) (a : Option Addr) (cap : Nat) (w : World) (mb : Nat) (cs : List Int) (pre : List X.W) (wr : World) : Prop where
  sh : Sh w wr a cap l cs (.slice none 0 0)
  box : Boxed wr (mb + 1) 117 (.map (some mb))
  lt : w.heap.size + 1 < mb
  km : ∃ m n D, KM l pre m mb n D wr
theorem KS.turn {l : List X.W} {a : Option Addr} {cap : Nat} {w : World} {mb : Nat} {cs : List Int} {pre pre' : List X.W} {wr wr' : World} (h : KS l a cap w mb cs pre wr) (hg : wr.grownBy wr' (some mb)) (hk : ∃ m n D, KM l pre' m mb n D wr') : KS l a cap w mb cs pre' wr' :=
  ⟨h.sh.grown hg h.lt, Boxed.kept h.box hg (fun e => by injection e; omega), h.lt, hk⟩
theorem KS.aside {l : List X.W} {a : Option Addr} {cap : Nat} {w : World} {mb : Nat} {cs : List Int} {pre : List X.W} {wr wr' : World} {k : Nat} (h : KS l a cap w mb cs pre wr) (hg : wr.grownBy wr' (some k)) (hk : mb + 1 < k) : KS l a cap w mb cs pre wr' := by
  have := h.lt
  obtain ⟨m, n, D, h1, h2, h3, h4⟩ := h.km
  exact ⟨h.sh.grown hg (by omega), Boxed.kept h.box hg (fun e => by injection e; omega), h.lt, m, n, D, h1.kept hg (fun e => by injection e; omega), h2, h3, h4⟩
theorem KS.alloc {l : List X.W} {a : Option Addr} {cap : Nat} {w : World} {mb : Nat} {cs : List Int} {pre : List X.W} {wr : World} (h : KS l a cap w mb cs pre wr) (o : Obj) : KS l a cap w mb cs pre (wr.alloc o) := by
  obtain ⟨m, n, D, h1, h2, h3, h4⟩ := h.km
  exact ⟨h.sh.on (Below.new _ _), Boxed.alloc h.box o, h.lt, m, n, D, h1.alloc o, h2, h3, h4⟩
theorem KS.keep {l : List X.W} {a : Option Addr} {cap : Nat} {w : World} {mb : Nat} {cs : List Int} {pre : List X.W} {wr : World} (h : KS l a cap w mb cs pre wr) (hl : Fine l) (hs : Strs w a l) (u : X.W) (hu : u.length ≤ 1000) (hp : pre.length ≤ 2000000) :
    Calls Tryz.prog 111 #[sv u, .pointer (some ⟨w.heap.size + 1, 0, none⟩), .pointer (some ⟨mb + 1, 0, none⟩)] wr fun e w' => e = .returned (.tuple #[]) ∧ KS l a cap w mb cs (pre ++ [u]) w' ∧ wr.grownBy w' (some mb) := by
  obtain ⟨m, n, D, hk⟩ := h.km
  refine (keep_any (w.heap.size + 1) (mb + 1) w.heap.size mb n a cap l pre m D u wr hl hu hp (Boxed.cell h.sh.box) (Boxed.cell h.box) h.sh.c0 (hs.below h.sh.bel) hk).mono ?_
  rintro e w' ⟨rfl, hk', hg⟩
  exact ⟨rfl, h.turn hg hk', hg⟩
theorem iter_grown (w : World) (k : Nat) (s : ByteArray) (pos : Nat) : w.grownBy (w.iterAt k s pos) (some k) := ⟨rfl, rfl, rfl, by rw [Lib.iterAt_size]; omega, fun j _ hj => Lib.iterAt_other w k j s pos (fun e => hj (by rw [e]))⟩
theorem begs_take (x : X.W) (k : Nat) (_hk : k < x.length) : (List.range (k + 1)).map (fun n => x.take (n + 1)) = (List.range k).map (fun n => x.take (n + 1)) ++ [x.take (k + 1)] := by rw [List.range_succ, List.map_append]; rfl
theorem scan_take (l : List X.W) (j : Nat) (hj : j < l.length) : (l.take (j + 1)).flatMap X.begs = (l.take j).flatMap X.begs ++ (List.range (wat l j).length).map (fun n => (wat l j).take (n + 1)) := by
  rw [take_succ_wat l j hj, List.flatMap_append]; simp [X.begs]
theorem begs_len (l : List X.W) (h : ∀ s ∈ l, s.length ≤ 1000) : (l.flatMap X.begs).length ≤ l.length * 1000 := by
  induction l with
  | nil => simp
  | cons x r ih =>
    have h1 := ih (fun s hs => h s (List.mem_cons_of_mem _ hs))
    have h2 := h x (by simp)
    rw [List.flatMap_cons, List.length_append]
    have : (X.begs x).length = x.length := by simp [X.begs]
    rw [this, List.length_cons]; omega
/-- Words that have come out of the map. -/
structure Came (l m out : List X.W) (D : DataW Unit) (left : Lit → Bool) : Prop where
  sub : ∀ v ∈ out, v ∈ m
  nd : out.Nodup
  left_ : ∀ v ∈ m, left (kw l v) = true ↔ v ∉ out
  only : ∀ k, left k = true → Maps.has D k = true
theorem Came.start {l m : List X.W} {D : DataW Unit} (h : MapIs l m D) : Came l m [] D (Maps.has D) := ⟨fun v h => (by cases h), List.nodup_nil, fun v hv => by simp [h.has v hv], fun k h => h⟩
set_option maxRecDepth 20000 in
theorem Came.step {l pre m out : List X.W} {D : DataW Unit} {left : Lit → Bool} {c : X.W} {kl : Lit} (hl : Fine l) (hk : X.Kept2 l pre m) (hm : MapIs l m D) (h : Came l m out D left) (hlk : left kl = true) (hat : ∀ zd, D.atKey kl zd = .lit (.string c)) :
    Came l m (out ++ [c]) D (fun z => left z && !z.sameKey kl) ∧ c ∈ m ∧ kl = kw l c := by
  obtain ⟨v, hv, rfl⟩ := hm.only kl (h.only kl hlk)
  have h1 := hm.at_ v hv (.lit (.string []))
  rw [hat] at h1
  have hcv : c = v := by simpa using h1
  subst hcv
  have hno := (h.left_ c hv).1 hlk
  refine ⟨⟨fun x hx => ?_, ?_, fun x hx => ?_, fun k hk2 => ?_⟩, hv, rfl⟩
  · rcases List.mem_append.1 hx with hx | hx
    · exact h.sub x hx
    · rw [List.mem_singleton.1 hx]; exact hv
  · rw [List.nodup_append]
    exact ⟨h.nd, by simp, fun x hx y hy => by rw [List.mem_singleton.1 hy]; intro e; subst e; exact hno hx⟩
  · by_cases e : x = c
    · subst e
      have : (kw l x).sameKey (kw l x) = true := WideAt.sameKey_self (law119.key (kw_eq hl x))
      simp [this]
    · have hne : kw l x ≠ kw l c := fun e2 => e (hk.uniq hx hv ((kw_iff hl).1 e2))
      rw [Maps.sameKey_ne hne]
      have := h.left_ x hx
      simp [this, e]
  · simp only [Bool.and_eq_true] at hk2
    exact h.only k hk2.1
theorem Came.done {l m out : List X.W} {D : DataW Unit} {left : Lit → Bool} (h : Came l m out D left) (hl : ∀ k, left k = false) (x : X.W) : x ∈ out ↔ x ∈ m := by
  constructor
  · exact h.sub x
  · intro hx
    refine Classical.byContradiction fun hn => ?_
    have := (h.left_ x hx).2 hn
    rw [hl] at this; cases this
/-- The order of the shelf is the reference's. -/
theorem tops_sorted_by {l m out L : List X.W} (hl : X.List_ l) (hk : X.Kept2 l (X.scan l) m) (hd : ∀ x, x ∈ out ↔ x ∈ m) (hn : out.Nodup) (hp : L.Perm out) (hs : L.Pairwise (fun a b => ¬ ltK (fun u => -(X.longest (X.ends l u) : Int)) b a)) : L = X.tops l := by
  refine X.tops_unique hl.up hl.long ?_ (fun w => by rw [hp.mem_iff, hd, hk.done])
  have hnd : L.Nodup := hp.nodup_iff.2 hn
  refine (List.Pairwise.and hs hnd).imp ?_
  rintro a b ⟨h1, h2⟩
  rcases ltK_total (fun u => -(X.longest (X.ends l u) : Int)) a b with k | k | k
  · rcases k with k | ⟨k1, k2⟩
    · exact .inl (by simp only at k; omega)
    · exact .inr ⟨by simp only at k1; omega, k2⟩
  · exact absurd k h2
  · exact absurd k h1
theorem Sh.row {w wr wr' : World} {a : Option Addr} {cap : Nat} {l : List X.W} {cs : List Int} {v : Value} {row : Option Nat} (h : Sh w wr a cap l cs v) (hg : wr.grownBy wr' row) (hr : ∀ g, row = some g → w.heap.size + 1 < g) : Sh w wr' a cap l cs v :=
  ⟨h.cel.grown hg (fun e => by have := hr _ e.symm; omega), h.len, Boxed.kept h.box hg (fun e => by have := hr _ e.symm; omega), h.bel.grown hg h.bel.size (fun j e => by have := hr _ e; omega)⟩
theorem Sh.top {w wr : World} {a : Option Addr} {cap : Nat} {l : List X.W} {cs : List Int} {v : Value} (h : Sh w wr a cap l cs v) (u : Value) : Sh w (wr.setCell ⟨w.heap.size, 27, none⟩ u) a cap l cs u := by
  have hl := h.len
  refine ⟨?_, hl, Boxed.setOther h.box (by omega), h.bel.setCell (p := ⟨w.heap.size, 27, none⟩) (Nat.le_refl _) _⟩
  have := h.cel.set 27 u (by simp; omega)
  rw [show 27 = 26 + 1 by rfl, List.set_cons_succ, List.set_append_right _ _ (by simp; omega)] at this
  have e : 26 - (cs.map (Value.int .i64)).length = 0 := by simp; omega
  rw [e] at this
  exact this
theorem Sh.f2 {w wr : World} {a : Option Addr} {cap : Nat} {l : List X.W} {cs : List Int} {v : Value} (h : Sh w wr a cap l cs v) : wr.frozen? ⟨w.heap.size, 27, none⟩ = false := h.cel.fr 27
theorem nodup_le : ∀ {a b : List X.W}, a.Nodup → (∀ x ∈ a, x ∈ b) → a.length ≤ b.length
  | [], b, _, _ => Nat.zero_le _
  | x :: a, b, hn, hs => by
    obtain ⟨h1, h2⟩ := List.nodup_cons.1 hn
    have hx := hs x (by simp)
    have := nodup_le (b := b.erase x) h2 (fun y hy => by
      have hyx : y ≠ x := fun e => h1 (e ▸ hy)
      exact (List.mem_erase_of_ne hyx).2 (hs y (List.mem_cons_of_mem _ hy)))
    rw [List.length_erase_of_mem hx] at this
    have hp := List.length_pos_of_mem hx
    rw [List.length_cons]; omega
theorem scan_bd {l : List X.W} (h : Fine l) : (X.scan l).length ≤ 1000001 ∧ ∀ x ∈ X.scan l, x.length ≤ 1000 := by
  constructor
  · unfold X.scan
    have h1 := begs_len l h.short
    have h2 : l.length * 1000 ≤ 1000 * 1000 := Nat.mul_le_mul_right _ h.few
    rw [List.length_cons]; omega
  · intro x hx
    rcases X.mem_scan.1 hx with rfl | ⟨s, hs, hp⟩
    · simp
    · have := hp.length_le; have := h.short s hs; omega
theorem below_of_grown {w w' : World} (h : w.grownBy w' none) : RowKit.Below w.heap.size w w' := ⟨h.os, h.tape, h.output, h.size, fun k hk => h.block k hk (by simp)⟩
theorem below_bytes (w : World) (s : ByteArray) : RowKit.Below w.heap.size w (Lib.bytesWorld w 5 s) := ⟨rfl, rfl, rfl, by rw [Lib.bytesWorld_size]; omega, fun k hk => Lib.bytesWorld_at_old w 5 s k hk⟩
theorem letter_ix {c : UInt8} (h : X.letter c = true) : 97 ≤ c.toNat ∧ c.toNat ≤ 122 := by
  unfold X.letter at h
  rw [Bool.and_eq_true, decide_eq_true_iff, decide_eq_true_iff] at h; exact h
theorem Sh.onB {w wr wr' : World} {a : Option Addr} {cap : Nat} {l : List X.W} {cs : List Int} {v : Value} {k : Nat} (h : Sh w wr a cap l cs v) (hb : RowKit.Below k wr wr') (hk : w.heap.size + 1 < k) : Sh w wr' a cap l cs v :=
  ⟨⟨fun o u ho => (hb.cell (p := ⟨w.heap.size, o, none⟩) (by simp only; omega)).trans (h.cel.cel o u ho), fun o => (hb.frozen (p := ⟨w.heap.size, o, none⟩) (by simp only; omega)).trans (h.cel.fr o), Nat.lt_of_lt_of_le h.cel.lt hb.size⟩, h.len, (hb.block _ hk).trans h.box, h.bel.trans (hb.mono (by omega))⟩
/-- What a shelf is, when it is made: the list, how often letters are there, and the first words. -/
def ShelfAt (a : Option Addr) (cap : Nat) (l : List X.W) (B : Nat) (wr : World) : Prop :=
  ∃ (cs : List Int) (n : Nat) (a2 : Option Addr) (c2 : Nat), CInv cs n ∧ (0 < l.length → 0 < n) ∧ n ≤ l.length * 1000 ∧ Cells wr B (.slice a l.length cap :: (cs.map (.int .i64) ++ [.slice a2 (X.tops l).length c2])) ∧ Strs wr a2 (X.tops l)
theorem ShelfAt.on {a : Option Addr} {cap : Nat} {l : List X.W} {B : Nat} {wr wr' : World} (h : ShelfAt a cap l B wr) (hb : RowKit.Below wr.heap.size wr wr') : ShelfAt a cap l B wr' := by
  obtain ⟨cs, n, a2, c2, h1, h2, h3, h4, h5⟩ := h
  exact ⟨cs, n, a2, c2, h1, h2, h3, h4.on hb, h5.below hb⟩
theorem List_.fine {l : List X.W} (h : X.List_ l) : Fine l := ⟨by have := h.many; omega, fun s hs => by have := h.long s hs; omega, h.lett⟩
end Go.Proofs.YtcjbnifafofpbaaGreatDoor
/- Walk of the program's newShelf. -/
namespace Go.Proofs.YtcjbnifafofpbaaGreatDoor
open Go.RowKit Go.Lib Go.Sort
set_option maxRecDepth 20000 in
set_option maxHeartbeats 8000000 in
theorem newShelf_any (a : Option Addr) (cap : Nat) (l : List X.W) (w : World) (hL : X.List_ l) (hs : Strs w a l) :
    Calls Tryz.prog 89 #[.slice a l.length cap] w fun e w' => e = .returned (.pointer (some ⟨w.heap.size, 0, none⟩)) ∧ ShelfAt a cap l w.heap.size w' ∧ RowKit.Below w.heap.size w w' := by
  have hl : Fine l := List_.fine hL
  have hne := hL.some
  have HLi := Lib.hid hL
  clear hL
  obtain ⟨W1, hW1⟩ : ∃ W1, ((w.alloc (.cells #[.slice a l.length cap, .int .i64 0, .int .i64 0, .int .i64 0, .int .i64 0, .int .i64 0, .int .i64 0, .int .i64 0, .int .i64 0, .int .i64 0, .int .i64 0, .int .i64 0, .int .i64 0, .int .i64 0, .int .i64 0, .int .i64 0, .int .i64 0, .int .i64 0, .int .i64 0, .int .i64 0, .int .i64 0, .int .i64 0, .int .i64 0, .int .i64 0, .int .i64 0, .int .i64 0, .int .i64 0, .slice none 0 0] 91)).alloc (.cells #[.pointer (some ⟨w.heap.size, 0, none⟩)] 63)) = W1 := ⟨_, rfl⟩
  have hc1 : Cells W1 w.heap.size (.slice a l.length cap :: ((List.replicate 26 (0 : Int)).map (.int .i64) ++ [.slice none 0 0])) := by
    rw [← hW1]; exact (Cells.new w #[.slice a l.length cap, .int .i64 0, .int .i64 0, .int .i64 0, .int .i64 0, .int .i64 0, .int .i64 0, .int .i64 0, .int .i64 0, .int .i64 0, .int .i64 0, .int .i64 0, .int .i64 0, .int .i64 0, .int .i64 0, .int .i64 0, .int .i64 0, .int .i64 0, .int .i64 0, .int .i64 0, .int .i64 0, .int .i64 0, .int .i64 0, .int .i64 0, .int .i64 0, .int .i64 0, .int .i64 0, .slice none 0 0] 91).on (Below.new _ _)
  have hb1 : Boxed W1 (w.heap.size + 1) 63 (.pointer (some ⟨w.heap.size, 0, none⟩)) := by
    rw [← hW1]; have := Boxed.new (w.alloc (.cells #[.slice a l.length cap, .int .i64 0, .int .i64 0, .int .i64 0, .int .i64 0, .int .i64 0, .int .i64 0, .int .i64 0, .int .i64 0, .int .i64 0, .int .i64 0, .int .i64 0, .int .i64 0, .int .i64 0, .int .i64 0, .int .i64 0, .int .i64 0, .int .i64 0, .int .i64 0, .int .i64 0, .int .i64 0, .int .i64 0, .int .i64 0, .int .i64 0, .int .i64 0, .int .i64 0, .int .i64 0, .slice none 0 0] 91)) 63 (.pointer (some ⟨w.heap.size, 0, none⟩)); rw [World.size_alloc] at this; exact this
  have hbe : RowKit.Below w.heap.size w W1 := by rw [← hW1]; exact (Below.new w _).alloc (by simp) _
  obtain ⟨W2, hW2⟩ : ∃ W2, W1.setCells w.heap.size 1 (List.replicate 26 (.int .i64 0)) = W2 := ⟨_, rfl⟩
  have hclr : ∀ ty, (Builtin.clear_ #[56] ty #[.slice (some ⟨w.heap.size, 1, none⟩) 26 26]).run Tryz.prog W1 = .ok (.tuple #[]) W2 := fun ty => by
    rw [← hW2]
    exact Lib.run_clear_slice W1 56 3 ty (.int .i64 0) Tryz.underlying56 Tryz.zeroValue3 rfl rfl w.heap.size 1 26 26 (by omega) (fun j hj => by
      rw [hc1.cel (1 + j) (.int .i64 0) (zeros_at hj _)]; rfl) (fun j hj => hc1.fr _)
  have hgr := setCells_grown (List.replicate 26 (.int .i64 0)) w.heap.size 1 W1
  have hS2 : Sh w W2 a cap l (List.replicate 26 0) (.slice none 0 0) := by
    rw [← hW2]
    refine ⟨hc1.same _ _ _ (fun j v hv => ?_), by simp, hb1.kept hgr (by simp), hbe.grown hgr hbe.size (fun k e => by injection e with e; omega)⟩
    have hj := (List.getElem?_eq_some_iff.1 hv).1
    rw [List.length_replicate] at hj
    rw [zeros_at hj]
    rw [List.getElem?_replicate, if_pos hj] at hv; exact hv
  have HS2 := Lib.hid hS2
  have HSt := Lib.hid hs
  have HFi := Lib.hid hl
  have HNe := Lib.hid hne
  have hfew := hl.few
  have hW1s : w.heap.size + 1 < W1.heap.size := Boxed.lt hb1
  have y1 := hS2.box.cell
  have y0 := hb1.cell
  clear hc1 hbe hgr hS2 hs hl hne hW2
  go_enter Tryz.func89, Tryz.ntmps89
  go_wp2_with fail
  clear hW1 hclr
  go_loopw [5, 25] (fun _ i wr => ∃ (j : Nat) (cs : List Int) (n : Nat), i = .int .i64 j ∧ j ≤ l.length ∧ n ≤ j * 1000 ∧ (0 < j → 0 < n) ∧ Hid (CInv cs n) ∧ Hid (Sh w wr a cap l cs (.slice none 0 0))) (fun _ i _ => l.length - (RowKit.intOf i).toNat)
  case atStart => exact ⟨0, _, 0, rfl, by omega, by omega, fun h => by omega, Lib.hid CInv.zero, HS2⟩
  case round =>
    clear HS2 y1 y0 hb1
    obtain ⟨j, cs, n, rfl, hj, hnj, hnp, HC, HS⟩ := hrel
    by_cases hlt : j < l.length
    · have hltI : (j : Int) < (l.length : Int) := by omega
      obtain ⟨b, off, rfl, c1⟩ := (HSt.out.below HS.out.bel) j hlt
      have hxn := HNe.out _ (wat_mem hlt)
      have HXl := Lib.hid (HFi.out.lett _ (wat_mem hlt))
      have hxs := HFi.out.short _ (wat_mem hlt)
      generalize wat l j = x at *
      have hconv := Lib.run_convert_string_bytes (P := Tryz.prog) wr 9 53 5 (bs x) Tryz.underlying9 Tryz.underlying53 Tryz.underlying5
      rw [bs_size] at hconv
      obtain ⟨W3, hW3⟩ : ∃ W3, Lib.bytesWorld wr 5 (bs x) = W3 := ⟨_, rfl⟩
      obtain ⟨G, hG⟩ : ∃ G, grownCap wr x.length 0 5 = G := ⟨_, rfl⟩
      have hb3 : RowKit.Below wr.heap.size wr W3 := by rw [← hW3]; exact below_bytes _ _
      have hby : Hid (∀ k, k < x.length → W3.cell? ⟨wr.heap.size, k, none⟩ = some (.int .u8 (wc x k).toNat)) := Lib.hid (fun k hk => by
        rw [← hW3, Lib.bytesWorld_cell wr 5 (bs x) k (by rw [bs_size]; exact hk)]
        rw [show (bs x).data.toList = x from bs_list x]; rfl)
      rw [hW3, hG] at hconv
      have HS3 := Lib.hid (HS.out.on hb3)
      have hgH : w.heap.size + 1 < wr.heap.size := Boxed.lt HS.out.box
      generalize wr.heap.size = g at *
      clear hW3 hG hb3
      go_wp2_with fail
      clear hconv
      go_loopw [7, 32] (fun _ i wr2 => ∃ (k : Nat) (cs : List Int) (n : Nat), i = .int .i64 k ∧ k ≤ x.length ∧ n ≤ j * 1000 + k ∧ (0 < k → 0 < n) ∧ Hid (CInv cs n) ∧ Hid (Sh w wr2 (some ⟨b, off, none⟩) cap l cs (.slice none 0 0)) ∧ Hid (∀ k, k < x.length → wr2.cell? ⟨g, k, none⟩ = some (.int .u8 (wc x k).toNat))) (fun _ i _ => x.length - (RowKit.intOf i).toNat)
      case atStart => exact ⟨0, cs, n, rfl, by omega, by omega, fun h => by omega, HC, HS3, hby⟩
      case round =>
        clear HC HS HS3 hby hnj hnp
        obtain ⟨k, cs, n, rfl, hk, hnk, hnp, HC, HS, HBy⟩ := hrel
        by_cases hkl : k < x.length
        · have hkI : (k : Int) < (x.length : Int) := by omega
          have c2 := HBy.out k hkl
          have hlet := letter_ix (List.all_eq_true.1 HXl.out _ (wc_mem hkl))
          obtain ⟨i, hi⟩ : ∃ i, (wc x k).toNat = i + 97 := ⟨(wc x k).toNat - 97, by omega⟩
          rw [hi] at c2 hlet
          have hi26 : i < 26 := by omega
          have ku : IntKind.u8.wrap (((i + 97 : Nat) : Int) - 97) = (i : Int) := by
            rw [show (((i + 97 : Nat) : Int) - 97) = (i : Int) by omega]
            exact IntWalk.u8_in _ (by omega)
          have ku2 : IntKind.u8.wrap (i : Int) = (i : Int) := IntWalk.u8_in _ (by omega)
          have ku3 : IntKind.u8.wrap ((i : Int) + 97 - 97) = (i : Int) := by rw [IntWalk.u8_in _ (by omega)]; omega
          have hiI : (i : Int) < 26 := by omega
          have hi0 : (0 : Int) ≤ (i : Int) := by omega
          have z1 := HS.out.c1 i hi26
          have z2 := HS.out.cel.fr (1 + i)
          have z3 := HS.out.box.cell
          have hbd := HC.out.bd i hi26
          have kk1 : IntKind.i64.wrap (nth cs i + 1) = nth cs i + 1 := IntWalk.i64_in _ (by omega)
          have HC2 := Lib.hid (HC.out.step hi26)
          have HS2 := Lib.hid (HS.out.put i (nth cs i + 1) hi26)
          have HBy2 : Hid (∀ k', k' < x.length → (wr.setCell ⟨w.heap.size, 1 + i, none⟩ (.int .i64 (nth cs i + 1))).cell? ⟨g, k', none⟩ = some (.int .u8 (wc x k').toNat)) := Lib.hid (fun k' hk' => by
            rw [World.cell?_setCell_other _ _ _ _ (by simp)]; exact HBy.out k' hk')
          have HS2d := Lib.hid (HS2.out.drew (⟨1, rfl⟩ : Drew _ (World.drewN _ 1)))
          have HBy2d : Hid (∀ k', k' < x.length → (World.drewN (wr.setCell ⟨w.heap.size, 1 + i, none⟩ (.int .i64 (nth cs i + 1))) 1).cell? ⟨g, k', none⟩ = some (.int .u8 (wc x k').toNat)) := Lib.hid (fun k' hk' => HBy2.out k' hk')
          go_wp2_with fail
          go_still_tail 10, (by kernel_rfl)
          go_wp2_with fail
          go_roundw
          case rel => exact ⟨k + 1, _, n + 1, by go_num, by omega, by omega, fun _ => by omega, HC2, HS2d, HBy2d⟩
          case measure => simp [RowKit.intOf]; omega
        · have hkI : ¬ (k : Int) < (x.length : Int) := by omega
          have hx0 : 0 < x.length := List.length_pos_iff.2 hxn
          go_wp2_with fail
          go_roundw
          case rel => exact ⟨j + 1, cs, n, by go_num, by omega, by omega, fun _ => hnp (by omega), HC, HS⟩
          case measure => simp [RowKit.intOf]; omega
    · have hltI : ¬ (j : Int) < (l.length : Int) := by omega
      have hgH : w.heap.size + 1 < wr.heap.size := Boxed.lt HS.out.box
      have hK0 : KS l a cap w wr.heap.size cs [] ((wr.alloc (.map #[] 0)).alloc (.cells #[.map (some wr.heap.size)] 117)) := by
        refine ⟨(HS.out.on (Below.new _ _)).on (Below.new _ _), ?_, hgH, [], 0, .map [], (World.ownsMap_made wr Tryz.prog 119 _).alloc _, MapIs.empty l, ⟨fun _ h => h, fun w h => (by cases h), fun v h => (by cases h)⟩, Nat.le_refl _⟩
        have := Boxed.new (wr.alloc (.map #[] 0)) 117 (.map (some wr.heap.size))
        rw [World.size_alloc] at this; exact this
      have HK := Lib.hid (hK0.keep HFi.out HSt.out [] (by simp) (by simp))
      have HPz := Lib.hid (fun h : 0 < l.length => hnp (by omega))
      have HNz : Hid (n ≤ l.length * 1000) := Lib.hid (by
        have : j * 1000 ≤ l.length * 1000 := Nat.mul_le_mul_right _ hj
        omega)
      have hmm := @run_makeMap Tryz.prog
      generalize hmb : wr.heap.size = mb at *
      clear hK0 HS hnj hnp hlt hj
      go_wp2_with fail
      refine HK.out.mono ?_
      rintro e w5 ⟨rfl, hks, -⟩
      have HK5 : Hid (KS l a cap w mb cs ([] :: (l.take 0).flatMap X.begs) w5) := Lib.hid hks
      clear hks HK hmb hmm
      go_wp2_with fail
      go_loopw [11, 55] (fun _ i wr => ∃ j : Nat, i = .int .i64 j ∧ j ≤ l.length ∧ Hid (KS l a cap w mb cs ([] :: (l.take j).flatMap X.begs) wr)) (fun _ i _ => l.length - (RowKit.intOf i).toNat)
      case atStart => exact ⟨0, rfl, by omega, HK5⟩
      case round =>
        clear HK5
        obtain ⟨j, rfl, hj, HK⟩ := hrel
        by_cases hlt : j < l.length
        · have hltI : (j : Int) < (l.length : Int) := by omega
          obtain ⟨b, off, rfl, c1⟩ := (HSt.out.below HK.out.sh.bel) j hlt
          have HXl := Lib.hid (HFi.out.lett _ (wat_mem hlt))
          have hxs := HFi.out.short _ (wat_mem hlt)
          have HSc : Hid (([] :: (l.take (j + 1)).flatMap X.begs : List X.W) = ([] :: (l.take j).flatMap X.begs) ++ (List.range (wat l j).length).map (fun n => (wat l j).take (n + 1))) := Lib.hid (by rw [scan_take l j hlt]; rfl)
          have hpl : ((l.take j).flatMap X.begs).length ≤ 1000000 := by
            have h1 := begs_len (l.take j) (fun s hs => HFi.out.short s (List.mem_of_mem_take hs))
            rw [List.length_take] at h1
            have : min j l.length * 1000 ≤ 1000 * 1000 := Nat.mul_le_mul_right _ (by omega)
            omega
          generalize wat l j = x at *
          have hbl := World.ownsMap.lt (HK.out.km.choose_spec.choose_spec.choose_spec).own
          have hbx := Boxed.lt HK.out.box
          have HKa : Hid (KS l (some ⟨b, off, none⟩) cap w mb cs (([] :: (l.take j).flatMap X.begs) ++ (List.range 0).map (fun n => x.take (n + 1))) (wr.iter (bs x) 0)) := Lib.hid (by
            rw [List.range_zero, List.map_nil, List.append_nil]; exact HK.out.alloc (.stringIter (bs x) 0))
          have HI0 : Hid ((wr.iter (bs x) 0).heap[wr.heap.size]? = some (.stringIter (bs x) 0)) := Lib.hid (World.alloc_heap_new wr _)
          have HPl : Hid (([] :: (l.take j).flatMap X.begs : List X.W).length ≤ 1000001) := Lib.hid (by rw [List.length_cons]; omega)
          generalize ([] :: (l.take j).flatMap X.begs : List X.W) = P at *
          go_wp2_with fail
          generalize wr.heap.size = g at *
          clear c1 hbl hpl HK
          go_loopw [12] (fun _ wr => ∃ k : Nat, k ≤ x.length ∧ Hid (wr.heap[g]? = some (.stringIter (bs x) k)) ∧ Hid (KS l (some ⟨b, off, none⟩) cap w mb cs (P ++ (List.range k).map (fun n => x.take (n + 1))) wr)) (fun _ wr => x.length - wr.iterPos g)
          case atStart => exact ⟨0, by omega, HI0, HKa⟩
          case round =>
            clear HI0 HKa
            obtain ⟨k, hk, HIt, HKk⟩ := hrel
            by_cases hkl : k < x.length
            · have hsz : k < (bs x).size := by rw [bs_size]; exact hkl
              have hlet := letter_ix (List.all_eq_true.1 HXl.out _ (wc_mem hkl))
              have hat := bs_at x k hsz
              have hnx := fun ty => Lib.run_next_ascii_at (P := Tryz.prog) wr g (bs x) k ty HIt.out hsz (by rw [hat]; omega)
              have hgs := iter_grown wr g (bs x) (k + 1)
              have HI2 := Lib.hid (Lib.iterAt_heap wr g (bs x) k (k + 1) HIt.out)
              have HK2 := Lib.hid (HKk.out.aside hgs hbx)
              have HTk := Lib.hid (begs_take x k hkl)
              have hpk : (P ++ (List.range k).map (fun n => x.take (n + 1))).length ≤ 2000000 := by
                rw [List.length_append, List.length_map, List.length_range]; have := HPl.out; omega
              have HKe := Lib.hid (HK2.out.keep HFi.out HSt.out (x.take (k + 1)) (by rw [List.length_take]; omega) hpk)
              have ex : (ByteArray.mk x.toArray).extract 0 (k + 1) = ⟨(x.take (k + 1)).toArray⟩ := by rw [ByteArray.extract_mk]; simp
              have kk1 : IntKind.i64.wrap ((k : Int) + 1) = (k : Int) + 1 := IntWalk.i64_in _ (by omega)
              have hk1 : (0 : Int) ≤ (k : Int) + 1 := by omega
              have hk2 : (k : Int) + 1 ≤ (x.length : Int) := by omega
              have hkt : ((k : Int) + 1).toNat = k + 1 := by omega
              have hip : wr.iterPos g = k := by unfold World.iterPos; rw [HIt.out]
              have HIp := Lib.hid hip
              generalize hW6 : wr.iterAt g (bs x) (k + 1) = W6 at *
              clear hgs hip
              go_wp2_with fail
              refine HKe.out.mono ?_
              rintro e w7 ⟨rfl, hk7, hg7⟩
              have HK7 : Hid (KS l (some ⟨b, off, none⟩) cap w mb cs (P ++ (List.range (k + 1)).map (fun n => x.take (n + 1))) w7) := Lib.hid (by rw [HTk.out, ← List.append_assoc]; exact hk7)
              have HI7 : Hid (w7.heap[g]? = some (.stringIter (bs x) (k + 1))) := Lib.hid ((hg7.block g (Array.getElem?_eq_some_iff.1 HI2.out).1 (fun e => by injection e; omega)).trans HI2.out)
              have HIp7 : Hid (w7.iterPos g = k + 1) := Lib.hid (by unfold World.iterPos; rw [HI7.out])
              clear hk7 hg7 hnx hW6 HKe HK2 HI2 HTk HKk hat
              go_wp2_with fail
              go_roundw
              case rel => exact ⟨k + 1, by omega, HI7, HK7⟩
              case measure =>
                have e1 := HIp7.out
                have e2 := HIp.out
                simp only [e1, e2]; omega
            · have ek : k = x.length := by omega
              subst ek
              have hnx := fun ty => Lib.run_next_end_at (P := Tryz.prog) wr g (bs x) x.length ty HIt.out (by rw [bs_size]; omega)
              have HKj : Hid (KS l (some ⟨b, off, none⟩) cap w mb cs ([] :: (l.take (j + 1)).flatMap X.begs) wr) := Lib.hid (by rw [HSc.out]; exact HKk.out)
              clear HKk HIt
              go_wp2_with fail
              go_roundw
              case rel => exact ⟨j + 1, by go_num, by omega, HKj⟩
              case measure => simp [RowKit.intOf]; omega
        · have hltI : ¬ (j : Int) < (l.length : Int) := by omega
          have HKs : Hid (KS l a cap w mb cs (X.scan l) wr) := Lib.hid (by
            have e : l.take j = l := List.take_of_length_le (by omega)
            have := HK.out
            rw [e] at this; exact this)
          obtain ⟨m, nm, D, hkm⟩ := HKs.out.km
          have p8 := HKs.out.box.cell
          have HKm := Lib.hid hkm
          clear HK hkm
          go_wp2_with (first | (at_range; refine wpList_range_own _ rfl _ 117 rfl 119 9 law119 Tryz.underlying117 (plainElem Tryz.prog 9) mb nm D rfl HKm.out.own ?_; intro w8 hr8 hg8 hs8))
          have HF8 := Lib.hid (HKs.out.sh.on (below_of_grown hg8))
          have HR8 := Lib.hid hr8
          have hmr := HKs.out.lt
          have hrs := Boxed.lt HKs.out.box
          have HOw8 : Hid (w8.ownsRow (wr.heap.size + 1) 9 1 (.slice none 0 0) 0 []) := Lib.hid (World.ownsRow_nil _ _ _ _)
          have HCa := Lib.hid (Came.start (l := l) (m := m) HKm.out.is_)
          have HB8 : Hid (wr.heap.size + 1 ≤ w8.heap.size) := Lib.hid (by omega)
          generalize wr.heap.size = r at *
          clear hg8 hs8 hr8 p8 HKs
          go_wp2_with fail
          go_loopw [14] (fun _ wr => ∃ (left : Lit → Bool) (cnt : Nat) (out : List X.W) (v : Value), Hid (wr.ranges Tryz.prog 119 (plainElem Tryz.prog 9) mb r nm D left cnt) ∧ Hid (wr.ownsRow (r + 1) 9 1 v out.length (out.map sv)) ∧ Hid (Sh w wr a cap l cs v) ∧ Hid (Came l m out D left) ∧ Hid (r + 1 ≤ wr.heap.size)) (fun _ wr => wr.rangeLeft mb r)
          case atStart => exact ⟨_, _, [], _, HR8, HOw8, HF8, HCa, HB8⟩
          case round =>
            clear HR8 HOw8 HF8 HCa HB8
            obtain ⟨left, cnt, out, v, HR, HOw, HSh, HCa, HBs⟩ := hrel
            by_cases hc0 : cnt = 0
            · have hox : ∀ x ∈ out, x.length ≤ 1000 := fun x hx => (scan_bd HFi.out).2 x (HKm.out.kept.sub x (HCa.out.sub x hx))
              have hol : out.length ≤ 1000000 := by
                have h1 := nodup_le HCa.out.nd (fun x hx => HKm.out.kept.sub x (HCa.out.sub x hx))
                have h2 := begs_len l HFi.out.short
                have h3 := HLi.out.many
                have h4 : (X.scan l).length = (l.flatMap X.begs).length + 1 := by unfold X.scan; rw [List.length_cons]
                omega
              have HNd := Lib.hid HCa.out.nd
              have z1 := HSh.out.box.cell
              have z2 := HSh.out.c2
              rcases Row.of_own HOw.out with ⟨rfl, rfl⟩ | ⟨g, cap3, rfl, hrow, hrg⟩
              · go_wp2_with (at_next; refine wpList_next_ranges _ rfl _ rfl 119 law119 (plainElem Tryz.prog 9) (fun x : Value => x) sv (fun key kl h => ⟨key, rfl⟩) (fun v y h => by obtain ⟨s, rfl, -, -⟩ := plainElem_string_inv Tryz.underlying9 h; exact ⟨s.data.toList, congrArg Value.string (bs_of s).symm⟩) mb r nm D left cnt rfl HR.out (fun _ hl0 => ?_) (fun x c kl y w' cnt' _ _ _ _ _ hlt9 _ _ _ => by omega); exfalso; have h3 := tops_sorted_by (L := []) HLi.out HKm.out.kept (HCa.out.done hl0) HNd.out (List.Perm.refl _) List.Pairwise.nil; have h2 := X.tops_pos HLi.out; rw [← h3] at h2; cases h2)
              · have HSo := Lib.hid (sortK_any (fun u => -(X.longest (X.ends l u) : Int)) 113 #[.pointer (some ⟨w.heap.size + 1, 0, none⟩)] g cap3 out wr hol hox hrow (B := w.heap.size + 2) (by omega) (fun args w => rfl) (fun x y W hW => cmpLong_any (w.heap.size + 1) w.heap.size a cap l x y W HFi.out.few HFi.out.short (HSh.out.onB hW (by omega)).box.cell (HSh.out.onB hW (by omega)).c0 (HSt.out.below (HSh.out.onB hW (by omega)).bel)))
                go_wp2_with (at_next; refine wpList_next_ranges _ rfl _ rfl 119 law119 (plainElem Tryz.prog 9) (fun x : Value => x) sv (fun key kl h => ⟨key, rfl⟩) (fun v y h => by obtain ⟨s, rfl, -, -⟩ := plainElem_string_inv Tryz.underlying9 h; exact ⟨s.data.toList, congrArg Value.string (bs_of s).symm⟩) mb r nm D left cnt rfl HR.out (fun _ hl0 => ?_) (fun x c kl y w' cnt' _ _ _ _ _ hlt9 _ _ _ => by omega); have HDn := Lib.hid (HCa.out.done hl0))
                refine HSo.out.mono ?_
                rintro e w7 ⟨rfl, L, hp, hpw, hrow7, hb7⟩
                have hT := tops_sorted_by HLi.out HKm.out.kept HDn.out HNd.out hp hpw
                have hs7 := HSh.out.onB hb7 (by omega)
                have z7 := hs7.box.cell
                have hSA : ShelfAt a cap l w.heap.size w7 := ⟨cs, n, some ⟨g, 0, none⟩, cap3, HC.out, HPz.out, HNz.out, by rw [← hT, hp.length_eq]; exact hs7.cel, by rw [← hT]; exact hrow7.strs⟩
                have hbF := hs7.bel
                go_wp2_with fail
                go_ret
                exact ⟨rfl, hSA, hbF⟩
            · go_wp2_with (at_next; refine wpList_next_ranges _ rfl _ rfl 119 law119 (plainElem Tryz.prog 9) (fun x : Value => x) sv (fun key kl h => ⟨key, rfl⟩) (fun v y h => by obtain ⟨s, rfl, -, -⟩ := plainElem_string_inv Tryz.underlying9 h; exact ⟨s.data.toList, congrArg Value.string (bs_of s).symm⟩) mb r nm D left cnt rfl HR.out (fun h0 => absurd h0 hc0) ?_; intro xk c kl y w9 cnt9 hkey hlk hy hat hr9 hlt9 hg9 hs9 hen)
              have hy1 : y.1 = .lit (.string c) := by
                obtain ⟨s, hs, hz, -⟩ := plainElem_string_inv Tryz.underlying9 hy
                have e := congrArg (fun q : Value => match q with | .string t => t.data.toList | _ => []) hs
                simp only at e
                rw [hz]
                simp only
                rw [show s.data.toList = c from e.symm.trans (bs_list c)]
              rw [hy1] at hat
              obtain ⟨hca, hcm, -⟩ := Came.step HFi.out HKm.out.kept HKm.out.is_ HCa.out hlk hat
              have HCa2 := Lib.hid hca
              have hob : ∀ g, v.ownBlock = some g → r + 1 ≤ g := fun g e => (HOw.out.lt g e).1
              have HOw9 := Lib.hid (HOw.out.kept hg9 (.inr (fun e => by have := hob _ e; omega)))
              have HSh9 := Lib.hid (HSh.out.grown hg9 (by omega))
              have HR9 := Lib.hid hr9
              have hn : out.length + 1 ≤ 2000000 := by
                have h1 := nodup_le HCa.out.nd (fun x hx => HKm.out.kept.sub x (HCa.out.sub x hx))
                have := (scan_bd HFi.out).1
                omega
              have hbs9 : r + 1 ≤ w9.heap.size := by have := HBs.out; omega
              have HCl : Hid (wr.rangeLeft mb r = cnt) := Lib.hid HR.out.left_eq
              have hlt9' := hlt9
              have z1 := HSh9.out.box.cell
              have z2 := HSh9.out.c2
              clear hy hy1 hat hlk hkey hca hcm hr9 hg9 hs9 hen HR HOw HSh HCa HBs
              refine wp_region_field 6 10 8 (fun w' => w'.cell? ⟨w.heap.size + 1, 0, none⟩ = some (.pointer (some ⟨w.heap.size, 0, none⟩)) ∧ w'.cell? ⟨w.heap.size, 27, none⟩ = some v) (by kernel_rfl) (by kernel_rfl) ⟨z1, z2⟩ ?_
              simp only [List.take_succ_cons, List.take_zero, List.drop_succ_cons, List.drop_zero]
              iterate 6 (refine headH_step _ (fun w' hS' => by (obtain ⟨g1, g2⟩ := hS'; simp [execOp, go_sem, *]; try rfl)) ?_)
              refine headH_nil ?_
              change tailH _ _ _ _ _ w9.drew
              refine tailH_step (fun K hK => ?_)
              go_simp
              obtain ⟨Wb, hWb⟩ : ∃ Wb, Wb = (w9.alloc (.cells #[sv c] 9)).drew := ⟨_, rfl⟩
              rw [← hWb]
              have hbb : RowKit.Below w9.heap.size w9 Wb := by rw [hWb]; exact (Below.new w9 _).drew
              have hnews : ∀ j u, [sv c][j]? = some u → Wb.cell? ((⟨w9.heap.size, 0, none⟩ : Addr).add j) = some u := by rw [hWb]; exact news_new w9 #[sv c] 9
              have hown1 := owns_below HOw9.out hbb
              have hSh1 := HSh9.out.on hbb
              have hr1 := HR9.out.kept (grownBy_of_below hbb none) (by simp) (by simp)
              have hsz1 := hbb.size
              clear hWb
              refine hK _ _ ⟨hSh1.box.cell, hSh1.c2⟩ ?_
              clear hK K z1 z2
              refine tailH_step (fun K hK => ?_)
              refine wpApp T22 (.tmp 81) (.tmp 83) rfl (r + 1) v out.length (out.map sv) [sv c] 1 1 ⟨w9.heap.size, 0, none⟩ rfl hown1 rfl rfl hnews (by simp [Value.oneCell']) hn (by omega) (fun v2 w2 hown2 hg2 hL2 => ?_)
              have hSh2 := hSh1.row hg2 (fun g e => by have := hob g e; omega)
              have hr2 := hr1.kept hg2 (fun e => by have := hob _ e.symm; omega) (fun e => by have := hob _ e.symm; omega)
              have hbs2 : r + 1 ≤ w2.heap.size := by have := hg2.size; omega
              have hob2 : ∀ g, v2.ownBlock = some g → r + 1 ≤ g := fun g e => (hown2.lt g e).1
              have HOw2 : Hid (w2.ownsRow (r + 1) 9 1 v2 (out ++ [c]).length ((out ++ [c]).map sv)) := Lib.hid (by rw [List.length_append, List.map_append]; exact hown2)
              obtain ⟨-, a2, c2, rfl, -, -⟩ := Strs.of_ownsRow HOw2.out
              have HSh2 := Lib.hid hSh2
              have HR2 := Lib.hid hr2
              have HS2 := Lib.hid (show w2.cell? ⟨w.heap.size + 1, 0, none⟩ = some (.pointer (some ⟨w.heap.size, 0, none⟩)) ∧ w2.cell? ⟨w.heap.size, 27, none⟩ = some v from ⟨hSh2.box.cell, hSh2.c2⟩)
              refine hK _ _ HS2.out ?_
              clear hK K hown1 hSh1 hr1 hnews hown2 hg2 hL2 hbb hSh2 hr2
              refine tailH_step (fun K hK => ?_)
              go_simp
              refine hK _ _ HS2.out ?_
              clear hK K
              refine tailH_step (fun K hK => ?_)
              go_simp
              refine hK _ _ HS2.out ?_
              clear hK K
              have y2 := HSh2.out.c2
              have f2 := HSh2.out.f2
              refine tailH_last (fun K hK => ?_)
              go_simp
              refine hK _ _ (NoPanic.normal ?_)
              clear hK K y2 f2
              have e1 : (out ++ [c]).length = out.length + 1 := by simp
              have HSh3 : Hid (Sh w (w2.setCell ⟨w.heap.size, 27, none⟩ (.slice a2 (out.length + 1) c2)) a cap l cs (.slice a2 (out.length + 1) c2)) := Lib.hid (HSh2.out.top _)
              have HOw3 : Hid ((w2.setCell ⟨w.heap.size, 27, none⟩ (.slice a2 (out.length + 1) c2)).ownsRow (r + 1) 9 1 (.slice a2 (out.length + 1) c2) (out ++ [c]).length ((out ++ [c]).map sv)) := Lib.hid (by
                rw [← e1]; exact owns_setOther HOw2.out w.heap.size 27 _ (fun e => by have := hob2 _ e; omega))
              have HR3 := Lib.hid (HR2.out.kept (grownBy_setCell w2 w.heap.size 27 (.slice a2 (out.length + 1) c2)) (fun e => by injection e; omega) (fun e => by injection e; omega))
              have hbs3 : r + 1 ≤ (w2.setCell ⟨w.heap.size, 27, none⟩ (.slice a2 (out.length + 1) c2)).heap.size := by rw [World.size_setCell]; exact hbs2
              have HBs3 := Lib.hid hbs3
              have hle3 : Hid ((w2.setCell ⟨w.heap.size, 27, none⟩ (.slice a2 (out.length + 1) c2)).rangeLeft mb r < wr.rangeLeft mb r) := Lib.hid (by rw [HR3.out.left_eq, HCl.out]; exact hlt9')
              clear HSh2 HOw2 HR2 hbs2 hob2 hbs3 HSh9 HOw9 HR9 HS2 e1
              generalize w2.setCell ⟨w.heap.size, 27, none⟩ (.slice a2 (out.length + 1) c2) = w3 at *
              go_wp2_with fail
              go_roundw
              case rel => exact ⟨_, cnt9, out ++ [c], _, HR3, HOw3, HSh3, HCa2, HBs3⟩
              case measure => exact hle3.out
end Go.Proofs.YtcjbnifafofpbaaGreatDoor
