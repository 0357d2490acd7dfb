/- One text of Shelf, ComD, ComE. -/
import Derived.Test.YtpkffjcmoghaaaaJ5
import Derived.Shelf.Sort.Plain
import Derived.Ground.Names2Prog
import Derived.Shelf.Slices.Delete
import Derived.Ground.SlsfProg
import Derived.Shelf.SlSortCmp.Insertion
/- Contracts of the library, laid at this program by the kit's tool. -/
namespace Go.Proofs.Ytpkffjcmoghaaaa
open Go.Shelf
def layT189_ren : Go.Shelf.Ren := ⟨fun | 189 => 72 | 125 => 88 | 257 => 87 | 128 => 107 | 129 => 108 | 294 => 98 | 295 => 99 | 296 => 100 | 297 => 101 | 298 => 102 | 299 => 103 | 216 => 104 | 300 => 105 | 301 => 106 | 328 => 112 | 329 => 113 | 330 => 114 | 331 => 115 | 332 => 116 | 215 => 109 | 343 => 118 | n => n, fun | 28 => 25 | 3 => 3 | 46 => 109 | 0 => 0 | 51 => 127 | 53 => 129 | 4 => 4 | 183 => 119 | 182 => 118 | 131 => 124 | 5 => 5 | 9 => 9 | 218 => 132 | 222 => 136 | 228 => 138 | 229 => 139 | n => n, fun | n => n⟩
theorem layT189 : Go.Proofs.Lays.n189 Try.prog layT189_ren := {
  mixed := by kernel_rfl
  f125 := Try.func88.trans (congrArg some (by kernel_rfl))
  f128 := Try.func107.trans (congrArg some (by kernel_rfl))
  f129 := Try.func108.trans (congrArg some (by kernel_rfl))
  f189 := Try.func72.trans (congrArg some (by kernel_rfl))
  f215 := Try.func109.trans (congrArg some (by kernel_rfl))
  f216 := Try.func104.trans (congrArg some (by kernel_rfl))
  f257 := Try.func87.trans (congrArg some (by kernel_rfl))
  f294 := Try.func98.trans (congrArg some (by kernel_rfl))
  f295 := Try.func99.trans (congrArg some (by kernel_rfl))
  f296 := Try.func100.trans (congrArg some (by kernel_rfl))
  f297 := Try.func101.trans (congrArg some (by kernel_rfl))
  f298 := Try.func102.trans (congrArg some (by kernel_rfl))
  f299 := Try.func103.trans (congrArg some (by kernel_rfl))
  f300 := Try.func105.trans (congrArg some (by kernel_rfl))
  f301 := Try.func106.trans (congrArg some (by kernel_rfl))
  f328 := Try.func112.trans (congrArg some (by kernel_rfl))
  f329 := Try.func113.trans (congrArg some (by kernel_rfl))
  f330 := Try.func114.trans (congrArg some (by kernel_rfl))
  f331 := Try.func115.trans (congrArg some (by kernel_rfl))
  f332 := Try.func116.trans (congrArg some (by kernel_rfl))
  f343 := Try.func118.trans (congrArg some (by kernel_rfl))
  t0 := Try.underlying0
  a0 := Try.isAgg0
  z0 := Try.sizeOf0
  v0 := Try.zeroValue0
  t3 := Try.underlying3
  a3 := Try.isAgg3
  z3 := Try.sizeOf3
  v3 := Try.zeroValue3
  t4 := Try.underlying4
  a4 := Try.isAgg4
  z4 := Try.sizeOf4
  v4 := Try.zeroValue4
  t5 := Try.underlying5
  a5 := Try.isAgg5
  z5 := Try.sizeOf5
  v5 := Try.zeroValue5
  t9 := Try.underlying9
  a9 := Try.isAgg9
  z9 := Try.sizeOf9
  v9 := Try.zeroValue9
  t28 := Try.underlying25
  a28 := Try.isAgg25
  z28 := Try.sizeOf25
  v28 := Try.zeroValue25
  t46 := Try.underlying109
  a46 := Try.isAgg109
  z46 := Try.sizeOf109
  v46 := Try.zeroValue109
  t51 := Try.underlying127
  a51 := Try.isAgg127
  z51 := Try.sizeOf127
  v51 := Try.zeroValue127
  t53 := Try.underlying129
  a53 := Try.isAgg129
  z53 := Try.sizeOf129
  v53 := Try.zeroValue129
  t131 := Try.underlying124
  a131 := Try.isAgg124
  z131 := Try.sizeOf124
  v131 := Try.zeroValue124
  t182 := Try.underlying118
  a182 := Try.isAgg118
  z182 := Try.sizeOf118
  v182 := Try.zeroValue118
  t183 := Try.underlying119
  a183 := Try.isAgg119
  z183 := Try.sizeOf119
  v183 := Try.zeroValue119
  t218 := Try.underlying132
  a218 := Try.isAgg132
  z218 := Try.sizeOf132
  v218 := Try.zeroValue132
  t222 := Try.underlying136
  a222 := Try.isAgg136
  z222 := Try.sizeOf136
  v222 := Try.zeroValue136
  t228 := Try.underlying138
  a228 := Try.isAgg138
  z228 := Try.sizeOf138
  v228 := Try.zeroValue138
  t229 := Try.underlying139
  a229 := Try.isAgg139
  z229 := Try.sizeOf139
  v229 := Try.zeroValue139 }
open Go.Sort Go.RowKit in
theorem lay_slices_Sort_int (blk off cap : Nat) (zs : List Int) (w : World) (hH : Holds (Value.int .i64) w blk off zs.toArray) (hblk : blk < w.heap.size) (hsz : zs.length < 4611686018427387904) :
    Calls Try.prog 72 #[.slice (some ⟨blk, off, none⟩) zs.length cap] w fun e w' =>
      e = .returned (.tuple #[]) ∧ ∃ n os, w' = grow (putRow (Value.int .i64) (Sort.ahead w n) blk off (zs.mergeSort fun x y => decide (x ≤ y)).toArray) os := Any.slices_Sort_int layT189 blk off cap zs w hH hblk hsz
def layTNm223_ren : Go.Shelf.Ren := ⟨fun | 23 => 94 | n => n, fun | 22 => 25 | 3 => 3 | 4 => 4 | 0 => 0 | n => n, fun | n => n⟩
theorem layTNm223 : Go.Proofs.Lays2.n23 Try.prog layTNm223_ren := {
  mixed := by kernel_rfl
  f23 := Try.func94.trans (congrArg some (by kernel_rfl))
  t0 := Try.underlying0
  a0 := Try.isAgg0
  z0 := Try.sizeOf0
  v0 := Try.zeroValue0
  t3 := Try.underlying3
  a3 := Try.isAgg3
  z3 := Try.sizeOf3
  v3 := Try.zeroValue3
  t4 := Try.underlying4
  a4 := Try.isAgg4
  z4 := Try.sizeOf4
  v4 := Try.zeroValue4
  t22 := Try.underlying25
  a22 := Try.isAgg25
  z22 := Try.sizeOf25
  v22 := Try.zeroValue25
  i3 := by kernel_rfl }
open Go.RowKit Go.Lib Go.Sort in
theorem lay_slices_Delete_int (blk off cap i j : Nat) (zs : List Int) (w : World) (hH : Holds (Value.int .i64) w blk off zs.toArray) (hcap : zs.length ≤ cap) (hm : cap ≤ 9223372036854775807) (hij : i ≤ j) (hj : j ≤ zs.length) :
    Calls Try.prog 94 #[.slice (some ⟨blk, off, none⟩) zs.length cap, .int .i64 i, .int .i64 j] w fun e w' => e = .returned (.slice (some ⟨blk, off, none⟩) (zs.length - (j - i)) cap) ∧ ∃ q, w' = putRow (Value.int .i64) (Sort.ahead w q) blk off (zs.take i ++ zs.drop j ++ List.replicate (j - i) 0).toArray := Any.slices_Delete_int layTNm223 blk off cap i j zs w hH hcap hm hij hj
def layTSlF20_f110_ren : Go.Shelf.Ren := ⟨fun | 20 => 110 | n => n, fun | 24 => 3 | 22 => 25 | 3 => 3 | 25 => 106 | 4 => 4 | 0 => 0 | n => n, fun | n => n⟩
theorem layTSlF20_f110 : Go.Proofs.SlLaysF.n20 Try.prog layTSlF20_f110_ren := {
  mixed := by kernel_rfl
  f20 := ⟨Try.f110.name, by decide, Try.func110.trans (congrArg some (by kernel_rfl))⟩
  t0 := Try.underlying0
  a0 := Try.isAgg0
  z0 := Try.sizeOf0
  v0 := Try.zeroValue0
  t3 := Try.underlying3
  a3 := Try.isAgg3
  z3 := Try.sizeOf3
  v3 := Try.zeroValue3
  t4 := Try.underlying4
  a4 := Try.isAgg4
  z4 := Try.sizeOf4
  v4 := Try.zeroValue4
  t22 := Try.underlying25
  a22 := Try.isAgg25
  z22 := Try.sizeOf25
  v22 := Try.zeroValue25
  a24 := Try.isAgg3
  z24 := Try.sizeOf3
  t25 := Try.underlying106
  a25 := Try.isAgg106
  z25 := Try.sizeOf106
  v25 := Try.zeroValue106 }
open Go.RowKit Go.Lib Go.Sort in
theorem lay_insertionSortCmpFunc_one {α : Type} [Inhabited α] (enc : α → Value) (hO : OneCell enc) (cf : α → α → Int) (g : Nat) (cb : Array Value) (blk off cap a b : Nat) (d : Array α) (w : World) (eg : ∀ args w, (callFunc g args).run Try.prog w = .ok (.enter g args) w) (hcmp : CmpReads Try.prog g cb enc cf blk off d.size w) (hH : Holds enc w blk off d) (hab : a ≤ b) (hb : b ≤ d.size) (hsz : d.size < 4611686018427387904) :
    Calls Try.prog 110 #[.slice (some ⟨blk, off, none⟩) d.size cap, .int .i64 a, .int .i64 b, .func (.func g) #[] cb] w fun e w' =>
      e = .returned (.tuple #[]) ∧ ∃ n, w' = (putRow enc w blk off (Sort.insertionSort (ltOf cf) d a b)).drewN n := Any.insertionSortCmpFunc_one layTSlF20_f110 enc hO cf g cb blk off cap a b d w eg hcmp hH hab hb hsz
end Go.Proofs.Ytpkffjcmoghaaaa
/- The program's stable sorts. -/
namespace Go.Proofs.Ytpkffjcmoghaaaa
open Go.RowKit Go.Sort Go.Lib Go.Shelf
namespace P
section
variable {α β : Type} [Inhabited α] [Inhabited β] {f : α → β} (hd : f default = default)
include hd
theorem getB_map (d : Array α) (i : Nat) : (d.map f)[i]! = f d[i]! := by
  by_cases h : i < d.size
  · rw [getElem!_pos (d.map f) i (by simpa using h), getElem!_pos d i h]; simp
  · rw [getElem!_neg (d.map f) i (by simpa using h), getElem!_neg d i h, hd]
theorem swp_map (d : Array α) (i j : Nat) : (swp d i j).map f = swp (d.map f) i j := by
  unfold swp; rw [Array.map_setIfInBounds, Array.map_setIfInBounds, getB_map hd, getB_map hd]
theorem insInner_map {lt : α → α → Bool} {lt' : β → β → Bool} (hl : ∀ x y, lt x y = lt' (f x) (f y)) (a : Nat) : ∀ (j : Nat) (d : Array α), (insInner lt a j d).map f = insInner lt' a j (d.map f)
  | 0, d => rfl
  | j + 1, d => by
    unfold insInner
    rw [getB_map hd, getB_map hd, ← hl]
    split
    · rw [insInner_map hl a j, swp_map hd]
    · rfl
theorem insOuter_map {lt : α → α → Bool} {lt' : β → β → Bool} (hl : ∀ x y, lt x y = lt' (f x) (f y)) (a b : Nat) : ∀ (m i : Nat) (d : Array α), b - i = m → (insOuter lt a b i d).map f = insOuter lt' a b i (d.map f)
  | 0, i, d, hm => by
    have e : ∀ {γ : Type} [Inhabited γ] (lt : γ → γ → Bool) (d : Array γ), insOuter lt a b i d = d := fun lt d => by unfold insOuter; rw [if_neg (by omega)]
    rw [e, e]
  | m + 1, i, d, hm => by
    have e : ∀ {γ : Type} [Inhabited γ] (lt : γ → γ → Bool) (d : Array γ), insOuter lt a b i d = insOuter lt a b (i + 1) (insInner lt a i d) := fun lt d => by rw [insOuter, if_pos (by omega)]
    rw [e, e, insOuter_map hl a b m (i + 1) _ (by omega), insInner_map hd hl]
theorem insertionSort_map {lt : α → α → Bool} {lt' : β → β → Bool} (hl : ∀ x y, lt x y = lt' (f x) (f y)) (d : Array α) (a b : Nat) : (insertionSort lt d a b).map f = insertionSort lt' (d.map f) a b := insOuter_map hd hl a b _ _ _ rfl
end
end P
/-- An order of stars, in cells that may be written. -/
structure Ord (w : World) (g cap : Nat) (I : List Nat) : Prop where
  holds : Holds (Value.int .i64) w g 0 (intsN I).toArray
  le : I.length ≤ cap
  max : cap ≤ 9223372036854775807
  lt : g < w.heap.size
theorem Ord.ints {w : World} {g cap : Nat} {I : List Nat} (h : Ord w g cap I) : Ints .i64 w (some ⟨g, 0, none⟩) (intsN I) := fun i hi => by
  have := (h.holds i (by simpa using hi)).1
  refine ⟨g, 0, rfl, ?_⟩
  rw [this]; simp [nth, hi]
theorem Ord.grown {w w' : World} {g cap : Nat} {I : List Nat} {row : Option Nat} (h : Ord w g cap I) (hg : w.grownBy w' row) (hne : row ≠ some g) : Ord w' g cap I :=
  ⟨fun j hj => ⟨hg.cell (h.holds j hj).1 (fun e => hne e.symm), (World.frozen?_of_block (w := w) (hg.block g h.lt (fun e => hne e.symm))).trans (h.holds j hj).2⟩, h.le, h.max, Nat.lt_of_lt_of_le h.lt hg.size⟩
theorem Ord.below {w w' : World} {g cap : Nat} {I : List Nat} (h : Ord w g cap I) (hb : Below w.heap.size w w') : Ord w' g cap I := h.grown (grownBy_of_below hb none) (by simp)
theorem Ord.of_row {w : World} {base g cap : Nat} {I : List Nat} (h : Row3 w base g cap I) : Ord w g cap I := by
  have hl := (World.ownsRow.lt h g rfl).2
  rcases h.2 with ⟨e, -⟩ | ⟨g', cap', cur, e, hb, hg, hn, hm, hs, ht⟩
  · cases e
  · cases e
    refine ⟨fun j hj => ⟨?_, World.ownsRow.frozenAt h _⟩, hn, hm, hl⟩
    have hj' : j < I.length := by simpa [intsN] using hj
    rw [Nat.zero_add, World.ownsRow.cellAt h j (by omega)]
    simp [intsN, hj']
theorem heap_putRow {α : Type} [Inhabited α] (enc : α → Value) (w : World) (blk off : Nat) (d : Array α) : (putRow enc w blk off d).heap.size = w.heap.size ∧ ∀ k, k ≠ blk → (putRow enc w blk off d).heap[k]? = w.heap[k]? := by
  refine ⟨by simp [putRow, mapBlock], fun k hk => ?_⟩
  have hk' : ¬ blk = k := fun e => hk e.symm
  simp [putRow, mapBlock, Array.getElem?_modify, hk']
theorem grownBy_putRow {α : Type} [Inhabited α] (enc : α → Value) (w : World) (q blk off : Nat) (d : Array α) : w.grownBy (putRow enc (Sort.ahead w q) blk off d) (some blk) := by
  obtain ⟨h1, h2⟩ := heap_putRow enc (Sort.ahead w q) blk off d
  exact ⟨rfl, rfl, rfl, by rw [h1]; exact Nat.le_refl _, fun k _ hne => (h2 k (fun e => hne (by rw [e]))).trans rfl⟩
theorem grownBy_sortWorld {α : Type} [Inhabited α] (enc : α → Value) (w : World) (blk off m : Nat) (d : Array α) (os : Array Obj) : w.grownBy (sortWorld enc w blk off m d os) (some blk) := by
  obtain ⟨h1, h2⟩ := heap_putRow enc (Sort.ahead w m) blk off d
  refine ⟨rfl, rfl, rfl, by simp only [sortWorld, grow, Array.size_append, h1]; exact Nat.le_add_right _ _, fun k hk hne => ?_⟩
  have h3 : (sortWorld enc w blk off m d os).heap[k]? = (putRow enc (Sort.ahead w m) blk off d).heap[k]? := by
    simp only [sortWorld, grow]; rw [Array.getElem?_append_left (by rw [h1]; exact hk)]
  rw [h3, h2 k (fun e => hne (by rw [e]))]; rfl
theorem grownBy.trans' {a b c : World} {row : Option Nat} (h : a.grownBy b row) (k : b.grownBy c row) : a.grownBy c row :=
  ⟨k.os.trans h.os, k.tape.trans h.tape, k.output.trans h.output, Nat.le_trans h.size k.size, fun j hj hne => (k.block j (Nat.lt_of_lt_of_le hj h.size) hne).trans (h.block j hj hne)⟩
theorem grownBy_drewN (w : World) (n : Nat) (row : Option Nat) : w.grownBy (w.drewN n) row := grownBy_of_below (bel_drewN (Below.refl _ w) n) row
theorem ltOf_cmpI (x y : Int) : decide (cmpI x y < 0) = decide (x < y) := by
  unfold cmpI
  by_cases h : x < y
  · rw [if_pos h, decide_eq_true h]; rfl
  · rw [if_neg h, decide_eq_false h]; split <;> rfl
def finArr (m : Nat) : Array (Fin (m + 1)) := Array.ofFn id
theorem finArr_map (m : Nat) : (finArr m).map (fun x : Fin (m + 1) => (x : Nat)) = Array.range (m + 1) := by
  apply Array.ext
  · simp [finArr]
  · intro i h1 h2; simp [finArr]
/-- slices.insertionSortCmpFunc at an order of all stars, by a key that the closure compares. -/
theorem insertion_any (f : Nat) (key : Nat → Int) (cb : Array Value) (m g cap : Nat) (w : World) (eg : ∀ args w, (callFunc f args).run Try.prog w = .ok (.enter f args) w) (h : Ord w g cap (List.range (m + 1)))
    (hc : ∀ (x y : Nat) W, x < m + 1 → y < m + 1 → w.grownBy W (some g) → Calls Try.prog f (#[.int .i64 (x : Int), .int .i64 (y : Int)] ++ cb) W fun e w' => e = .returned (.int .i64 (cmpI (key x) (key y))) ∧ ∃ q, w' = W.drewN q) (hm : m < 1000000) :
    Calls Try.prog 110 #[.slice (some ⟨g, 0, none⟩) (m + 1) cap, .int .i64 0, .int .i64 ((m + 1 : Nat) : Int), .func (.func f) #[] cb] w fun e w' => e = .returned (.tuple #[]) ∧ Ord w' g cap (insertionSort (fun x y : Nat => decide (key x < key y)) (Array.range (m + 1)) 0 (m + 1)).toList ∧ w.grownBy w' (some g) := by
  have hsz : (finArr m).size = m + 1 := by simp [finArr]
  have hH : Holds (fun x : Fin (m + 1) => Value.int .i64 ((x : Nat) : Int)) w g 0 (finArr m) := fun j hj => by
    have := h.holds j (by simp [intsN]; omega)
    refine ⟨?_, this.2⟩
    rw [this.1]
    have hj' : j < m + 1 := by omega
    simp [finArr, intsN, hj', getElem!_pos]
  have hcmp : CmpReads Try.prog f cb (fun x : Fin (m + 1) => Value.int .i64 ((x : Nat) : Int)) (fun x y => cmpI (key x) (key y)) g 0 (finArr m).size w := fun q os dk hs x y => hc x y _ x.2 y.2 (grownBy_sortWorld _ _ _ _ _ _ _)
  have hO : OneCell (fun x : Fin (m + 1) => Value.int .i64 ((x : Nat) : Int)) := by
    first | exact ⟨fun x => rfl⟩ | (intro x; rfl) | (constructor; intro x; rfl)
  have hh := lay_insertionSortCmpFunc_one (fun x : Fin (m + 1) => Value.int .i64 ((x : Nat) : Int)) hO (fun x y => cmpI (key x) (key y)) f cb g 0 cap 0 (m + 1) (finArr m) w eg hcmp hH (by omega) (by omega) (by omega)
  rw [hsz] at hh
  refine hh.mono ?_
  rintro e w' ⟨rfl, q, rfl⟩
  have hl : ∀ x y : Fin (m + 1), ltOf (fun x y : Fin (m + 1) => cmpI (key x) (key y)) x y = (fun x y : Nat => decide (key x < key y)) (x : Nat) (y : Nat) := fun x y => ltOf_cmpI _ _
  have hmap := P.insertionSort_map (f := fun x : Fin (m + 1) => (x : Nat)) rfl (lt := ltOf fun x y : Fin (m + 1) => cmpI (key x) (key y)) (lt' := fun x y : Nat => decide (key x < key y)) hl (finArr m) 0 (m + 1)
  rw [finArr_map] at hmap
  rw [← hmap]
  generalize hr : insertionSort (ltOf fun x y : Fin (m + 1) => cmpI (key x) (key y)) (finArr m) 0 (m + 1) = r at *
  have hrs : r.size = m + 1 := by
    have := congrArg Array.size hmap
    have h2 := (insertionSort_holds (lt := fun x y : Nat => decide (key x < key y)) ⟨fun x => by simp, fun x y z h1 h2 => by simp at *; omega, fun x y z h1 h2 => by simp at *; omega⟩ (Array.range (m + 1)) 0 (m + 1) (by omega) (by simp)).1.1
    simp at this h2; omega
  have hH2 : Holds (fun x : Fin (m + 1) => Value.int .i64 ((x : Nat) : Int)) (putRow (fun x : Fin (m + 1) => Value.int .i64 ((x : Nat) : Int)) w g 0 r) g 0 r := holds_putRow _ _ _ _ _ _ hH (by omega)
  refine ⟨rfl, ⟨fun j hj => ?_, ?_, h.max, ?_⟩, ?_⟩
  · have hj' : j < r.size := by simpa [intsN] using hj
    have := hH2 j hj'
    refine ⟨?_, this.2⟩
    have e := this.1
    show World.cell? (putRow _ w g 0 r) _ = _
    rw [e]
    simp [intsN, hj', getElem!_pos]
  · have := h.le; simp at this ⊢; omega
  · have := (heap_putRow (fun x : Fin (m + 1) => Value.int .i64 ((x : Nat) : Int)) w g 0 r).1
    show g < (putRow _ w g 0 r).heap.size
    rw [this]; exact h.lt
  · exact grownBy.trans' (grownBy_putRow _ w 0 g 0 r) (grownBy_drewN _ _ _)
set_option maxHeartbeats 1000000 in
/-- slices.insertionSortCmpFunc of nothing. -/
theorem insertion_nil (a : Option Addr) (cap : Nat) (fv : Value) (w : World) :
    Calls Try.prog 110 #[.slice a 0 cap, .int .i64 0, .int .i64 0, fv] w fun e w' => e = .returned (.tuple #[]) ∧ w = w' := by
  go_enter Try.func110, Try.ntmps110
  go_wp2_with fail
  go_loop [8] (fun i => i = .int .i64 1) (fun _ => 0)
  case atStart => rfl
  case round =>
    obtain rfl := hrel
    go_wp2_with fail
    go_end0
    exact ⟨rfl, rfl⟩
set_option maxHeartbeats 1000000 in
theorem stable_any (f : Nat) (key : Nat → Int) (cb : Array Value) (n g cap : Nat) (w : World) (eg : ∀ args w, (callFunc f args).run Try.prog w = .ok (.enter f args) w) (h : Ord w g cap (List.range n)) (hn : n ≤ 16)
    (hc : ∀ (x y : Nat) W, x < n → y < n → w.grownBy W (some g) → Calls Try.prog f (#[.int .i64 (x : Int), .int .i64 (y : Int)] ++ cb) W fun e w' => e = .returned (.int .i64 (cmpI (key x) (key y))) ∧ ∃ q, w' = W.drewN q) :
    Calls Try.prog 83 #[.slice (some ⟨g, 0, none⟩) n cap, .func (.func f) #[] cb] w fun e w' => e = .returned (.tuple #[]) ∧ Ord w' g cap (insertionSort (fun x y : Nat => decide (key x < key y)) (Array.range n) 0 n).toList ∧ w.grownBy w' (some g) := by
  have HI : Hid (Calls Try.prog 110 #[.slice (some ⟨g, 0, none⟩) n cap, .int .i64 0, .int .i64 (n : Int), .func (.func f) #[] cb] w fun e w' => e = .returned (.tuple #[]) ∧ Ord w' g cap (insertionSort (fun x y : Nat => decide (key x < key y)) (Array.range n) 0 n).toList ∧ w.grownBy w' (some g)) := Lib.hid (by
    cases n with
    | zero =>
      refine (insertion_nil (some ⟨g, 0, none⟩) cap (.func (.func f) #[] cb) w).mono ?_
      rintro e w' ⟨rfl, rfl⟩
      refine ⟨rfl, ?_, ⟨rfl, rfl, rfl, Nat.le_refl _, fun _ _ _ => rfl⟩⟩
      have : (insertionSort (fun x y : Nat => decide (key x < key y)) (Array.range 0) 0 0).toList = List.range 0 := by
        unfold insertionSort insOuter; rfl
      rw [this]; exact h
    | succ m => exact insertion_any f key cb m g cap w eg h hc (by omega))
  have H95 : Hid (Calls Try.prog 95 #[.slice (some ⟨g, 0, none⟩) n cap, .int .i64 (n : Int), .func (.func f) #[] cb] w fun e w' => e = .returned (.tuple #[]) ∧ Ord w' g cap (insertionSort (fun x y : Nat => decide (key x < key y)) (Array.range n) 0 n).toList ∧ w.grownBy w' (some g)) := Lib.hid (by
    clear h hc
    generalize (insertionSort (fun x y : Nat => decide (key x < key y)) (Array.range n) 0 n).toList = R at *
    have hnI : (n : Int) < 20 := by omega
    go_enter Try.func95, Try.ntmps95
    go_wp2_with fail
    go_loop [7, 8] (fun a b => a = .int .i64 0 ∧ b = .int .i64 20) (fun _ _ => 0)
    case atStart => exact ⟨rfl, rfl⟩
    case round =>
      obtain ⟨rfl, rfl⟩ := hrel
      go_wp2_with fail
      refine HI.out.mono ?_
      rintro e w1 ⟨rfl, hO, hg⟩
      have HO := Lib.hid hO
      have HG := Lib.hid hg
      clear hO hg
      go_wp2_with fail
      go_loop [6, 7, 8, 9] (fun s _ _ _ => s = .int .i64 20) (fun _ _ _ _ => 0)
      case atStart => rfl
      case round =>
        obtain rfl := hrel
        go_wp2_with fail
        go_end0
        exact ⟨rfl, HO.out, HG.out⟩)
  clear h hc HI
  generalize (insertionSort (fun x y : Nat => decide (key x < key y)) (Array.range n) 0 n).toList = R at *
  go_enter Try.func83, Try.ntmps83
  go_wp2_with fail
  refine H95.out.mono ?_
  rintro e w1 ⟨rfl, hO, hg⟩
  go_wp2_with fail
  go_end0
  exact ⟨rfl, hO, hg⟩
/-- The order of the strikes. -/
theorem sortT_any (c B : Nat) (p L : Int) (a : Option Addr) (cap : Nat) (S : List P.Star) (g cap2 : Nat) (w : World) (hn : S.length ≤ 16) (h : Ord w g cap2 (List.range S.length)) (hH : Held w c B p L a cap S) (hgc : g ≠ c) (hgB : g ≠ B) (hga : 0 < S.length → ∀ b off, a = some ⟨b, off, none⟩ → g ≠ b) :
    Calls Try.prog 83 #[.slice (some ⟨g, 0, none⟩) S.length cap2, .func (.func 90) #[] #[.pointer (some ⟨c, 0, none⟩)]] w fun e w' => e = .returned (.tuple #[]) ∧ Ord w' g cap2 (P.orderT S) ∧ w.grownBy w' (some g) :=
  stable_any 90 (fun i => (P.star S i).2.1) #[.pointer (some ⟨c, 0, none⟩)] S.length g cap2 w (enters_of Try.func90 (by kernel_rfl) rfl) h hn
    (fun x y W hx hy hg => cloT_any c B p L a cap S x y W hx hy (hH.kept hg (fun e => hgc (Option.some.inj e)) (fun e => hgB (Option.some.inj e)) (fun hp b off e e2 => hga hp b off e (Option.some.inj e2))))
/-- The order of the choice. -/
theorem sortW_any (c B : Nat) (p L : Int) (a : Option Addr) (cap : Nat) (S : List P.Star) (g cap2 : Nat) (w : World) (hn : S.length ≤ 16) (h : Ord w g cap2 (List.range S.length)) (hH : Held w c B p L a cap S) (hgc : g ≠ c) (hgB : g ≠ B) (hga : 0 < S.length → ∀ b off, a = some ⟨b, off, none⟩ → g ≠ b) :
    Calls Try.prog 83 #[.slice (some ⟨g, 0, none⟩) S.length cap2, .func (.func 84) #[] #[.pointer (some ⟨c, 0, none⟩)]] w fun e w' => e = .returned (.tuple #[]) ∧ Ord w' g cap2 (P.orderW S) ∧ w.grownBy w' (some g) := by
  have hk : (fun x y : Nat => decide ((fun i => -(P.star S i).2.2) x < (fun i => -(P.star S i).2.2) y)) = P.ltW S := by
    funext x y; unfold P.ltW; rw [decide_eq_decide]; constructor <;> intro h <;> simp only at * <;> omega
  have hs := stable_any 84 (fun i => -(P.star S i).2.2) #[.pointer (some ⟨c, 0, none⟩)] S.length g cap2 w (enters_of Try.func84 (by kernel_rfl) rfl) h hn
    (fun x y W hx hy hg => by
      have := cloW_any c B p L a cap S x y W hx hy (hH.kept hg (fun e => hgc (Option.some.inj e)) (fun e => hgB (Option.some.inj e)) (fun hp b off e e2 => hga hp b off e (Option.some.inj e2)))
      have e : cmpI (-(P.star S x).2.2) (-(P.star S y).2.2) = cmpI (P.star S y).2.2 (P.star S x).2.2 := by
        unfold cmpI
        by_cases h1 : (P.star S y).2.2 < (P.star S x).2.2
        · rw [if_pos h1, if_pos (by omega)]
        · rw [if_neg h1, if_neg (by omega)]
          by_cases h2 : (P.star S x).2.2 < (P.star S y).2.2
          · rw [if_pos h2, if_pos (by omega)]
          · rw [if_neg h2, if_neg (by omega)]
      simp only [e]; exact this)
  rw [hk] at hs
  exact hs
end Go.Proofs.Ytpkffjcmoghaaaa
/- Walks of the program's functions: first; which stars may be struck. -/
namespace Go.Proofs.Ytpkffjcmoghaaaa
open Go.RowKit
set_option maxHeartbeats 1000000 in
theorem cloF_any (c B d : Nat) (p L : Int) (a : Option Addr) (cap : Nat) (S : List P.Star) (x : Nat) (wear : Int) (w : World) (hx : x < S.length) (h : Held w c B p L a cap S) (hd : w.cell? ⟨d, 0, none⟩ = some (.int .i64 wear)) :
    Calls Try.prog 93 #[.int .i64 (x : Int), .pointer (some ⟨c, 0, none⟩), .pointer (some ⟨d, 0, none⟩)] w fun e w' => e = .returned (.bool (decide ((P.star S x).1 ≤ wear))) ∧ Drew w w' := by
  have c0 := h.ptr
  have x3 := h.job.x3
  obtain ⟨b, off, rfl, s1, -, -⟩ := h.job.st x hx
  have q1 : (0 : Int) ≤ (x : Int) := by omega
  have q2 : (x : Int) < (S.length : Int) := by omega
  clear h
  go_enter Try.func93, Try.ntmps93
  go_wp2_with fail
  go_quiet (fail)
  go_wp2_with fail
  go_ret
  exact ⟨rfl, nq, rfl⟩
set_option maxHeartbeats 1000000 in
theorem first_any (f : Nat) (cb : Array Value) (q : Int → Bool) (b : Option Addr) (cap : Nat) (l : List Int) (w : World) (hl : l.length ≤ 1000000) (hb : Ints .i64 w b l) (eg : ∀ args w, (callFunc f args).run Try.prog w = .ok (.enter f args) w)
    (hq : ∀ n ∈ l, ∀ W, Drew w W → Calls Try.prog f (#[.int .i64 n] ++ cb) W fun e w' => e = .returned (.bool (q n)) ∧ Drew W w') :
    Calls Try.prog 92 #[.slice b l.length cap, .func (.func f) #[] cb] w fun e w' => e = .returned (.int .i64 (idxBy q l)) ∧ Drew w w' := by
  have HA := Lib.hid hb; clear hb
  have HQ := Lib.hid hq; clear hq
  go_enter Try.func92, Try.ntmps92
  go_wp2_with fail
  go_loopw [5, 6, 9] (fun _ _ i wr => ∃ j : Nat, j ≤ l.length ∧ i = .int .i64 j ∧ Hid (∀ k, k < j → q (nth l k) = false) ∧ Hid (Drew w wr)) (fun _ _ i _ => l.length - (intOf i).toNat)
  case atStart => exact ⟨0, by omega, rfl, Lib.hid (fun k hk => by omega), Lib.hid (Drew.refl _)⟩
  case round =>
    obtain ⟨j, hj, rfl, hr, HD⟩ := hrel
    by_cases hlt : j < l.length
    · obtain ⟨b1, off1, rfl, c⟩ := (HA.out.drew HD.out) j hlt
      have HC := HQ.out (nth l j) (nth_mem hlt) wr HD.out
      cases hqj : q (nth l j) with
      | true =>
        have HE := Lib.hid (idxBy_hit hlt hr.out hqj)
        rw [hqj] at HC
        have HC := Lib.hid HC
        clear hqj
        go_wp2_with fail
        refine HC.out.mono ?_
        rintro e w' ⟨rfl, hd⟩
        go_wp2_with fail
        go_ret
        exact ⟨ret_int (by rw [HE.out]), HD.out.trans hd⟩
      | false =>
        have HE : Hid (∀ k, k < j + 1 → q (nth l k) = false) := Lib.hid (fun k hk => by
          by_cases e : k = j
          · rw [e]; exact hqj
          · exact hr.out k (by omega))
        rw [hqj] at HC
        have HC := Lib.hid HC
        clear hqj
        go_wp2_with fail
        refine HC.out.mono ?_
        rintro e w' ⟨rfl, hd⟩
        have HD2 := Lib.hid (HD.out.trans hd)
        clear hd
        go_wp2_with fail
        go_roundw
        case rel => exact ⟨j + 1, by omega, by go_num, HE, HD2⟩
        case measure => simp [intOf]; omega
    · have HE := Lib.hid (idxBy_none (l := l) (q := q) (fun k hk => hr.out k (by omega)))
      go_wp2_with fail
      go_ret
      exact ⟨ret_int (by rw [HE.out]), HD.out⟩
/-- The first of an order that may be struck at a wear. -/
theorem firstF_any (c B d : Nat) (p L : Int) (a : Option Addr) (cap : Nat) (S : List P.Star) (wear : Int) (g cap2 : Nat) (I : List Nat) (w : World) (hI : ∀ i ∈ I, i < S.length) (hlI : I.length ≤ 16) (hO : Ord w g cap2 I) (h : Held w c B p L a cap S) (hd : w.cell? ⟨d, 0, none⟩ = some (.int .i64 wear)) :
    Calls Try.prog 92 #[.slice (some ⟨g, 0, none⟩) I.length cap2, .func (.func 93) #[] #[.pointer (some ⟨c, 0, none⟩), .pointer (some ⟨d, 0, none⟩)]] w fun e w' => e = .returned (.int .i64 (((I.findIdx? fun i => decide ((P.star S i).1 ≤ wear)).map Int.ofNat).getD (-1))) ∧ Drew w w' := by
  have hh := first_any 93 #[.pointer (some ⟨c, 0, none⟩), .pointer (some ⟨d, 0, none⟩)] (fun n => decide ((P.star S n.toNat).1 ≤ wear)) (some ⟨g, 0, none⟩) cap2 (intsN I) w (by rw [intsN_length]; omega) hO.ints (enters_of Try.func93 (by kernel_rfl) rfl)
    (fun n hn W hW => by
      unfold intsN at hn
      rw [List.mem_map] at hn
      obtain ⟨i, hi, rfl⟩ := hn
      exact cloF_any c B d p L a cap S i wear W (hI i hi) (h.on (hW.below _)) ((hW.cell _).trans hd))
  rw [intsN_length] at hh
  have e : idxBy (fun n => decide ((P.star S n.toNat).1 ≤ wear)) (intsN I) = ((I.findIdx? fun i => decide ((P.star S i).1 ≤ wear)).map Int.ofNat).getD (-1) := by
    unfold idxBy intsN
    rw [List.findIdx?_map]
    rfl
  rw [e] at hh
  exact hh
end Go.Proofs.Ytpkffjcmoghaaaa
