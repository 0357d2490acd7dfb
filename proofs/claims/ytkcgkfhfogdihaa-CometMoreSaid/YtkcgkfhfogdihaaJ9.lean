/- One text of ComN. -/
import Derived.Test.YtkcgkfhfogdihaaJ8
import Derived.Shelf.SlSortCmp.NoneTotal
/- The program's sort of paths: a permutation of what the row held. -/
namespace Go.Proofs.Ytkcgkfhfogdihaa
open Go.RowKit Go.Shelf Go.Sort Go.Lib
namespace C
def pad (q : List Int) : List Int := [nth q 0, nth q 1, nth q 2, nth q 3]
def encT (q : List Int) : List Value := [.int .i64 (nth q 0), .int .i64 (nth q 1), .int .i64 (nth q 2), .int .i64 (nth q 3)]
def cf (x y : List Int) : Int := cmpFrom (pad x) (pad y)
theorem cf_lt (x y : List Int) : cf x y < 0 ↔ (nth x 0 < nth y 0 ∨ (nth x 0 = nth y 0 ∧ (nth x 1 < nth y 1 ∨ (nth x 1 = nth y 1 ∧ (nth x 2 < nth y 2 ∨ (nth x 2 = nth y 2 ∧ nth x 3 < nth y 3)))))) := by
  unfold cf pad cmpFrom cmpFrom cmpFrom cmpFrom cmpFrom
  split
  · omega
  · split
    · omega
    · split
      · omega
      · split
        · omega
        · split
          · omega
          · split
            · omega
            · split
              · omega
              · split <;> omega
theorem swo : SWO (ltOf cf) where
  irrefl x := by unfold ltOf; rw [decide_eq_false_iff_not, cf_lt]; omega
  trans x y z h1 h2 := by unfold ltOf at *; rw [decide_eq_true_eq, cf_lt] at *; omega
  ntrans x y z h1 h2 := by unfold ltOf at *; rw [decide_eq_false_iff_not, cf_lt] at *; omega
end C
set_option maxRecDepth 100000 in
set_option maxHeartbeats 1000000 in
theorem closure_any (x y : List Int) (W : World) : Calls Try.prog 86 #[.agg (C.encT x).toArray, .agg (C.encT y).toArray] W fun e w' => e = .returned (.int .i64 (C.cf x y)) ∧ ∃ q os', w' = grow (W.drewN q) os' := by
  have hc1 := track_cells (w := (W.alloc (.cells #[.int .i64 (nth x 0), .int .i64 (nth x 1), .int .i64 (nth x 2), .int .i64 (nth x 3)] 76)).alloc (.cells #[.int .i64 (nth y 0), .int .i64 (nth y 1), .int .i64 (nth y 2), .int .i64 (nth y 3)] 76)) (H := W.heap.size) (q := x) (by simp) (by simp) (by simp) (by simp)
  have hc2 := track_cells (w := (W.alloc (.cells #[.int .i64 (nth x 0), .int .i64 (nth x 1), .int .i64 (nth x 2), .int .i64 (nth x 3)] 76)).alloc (.cells #[.int .i64 (nth y 0), .int .i64 (nth y 1), .int .i64 (nth y 2), .int .i64 (nth y 3)] 76)) (H := W.heap.size + 1) (q := y) (by simp) (by simp) (by simp) (by simp)
  show Calls Try.prog 86 #[.agg #[.int .i64 (nth x 0), .int .i64 (nth x 1), .int .i64 (nth x 2), .int .i64 (nth x 3)], .agg #[.int .i64 (nth y 0), .int .i64 (nth y 1), .int .i64 (nth y 2), .int .i64 (nth y 3)]] W _
  have hG : ∃ osx, (W.alloc (.cells #[.int .i64 (nth x 0), .int .i64 (nth x 1), .int .i64 (nth x 2), .int .i64 (nth x 3)] 76)).alloc (.cells #[.int .i64 (nth y 0), .int .i64 (nth y 1), .int .i64 (nth y 2), .int .i64 (nth y 3)] 76) = grow W osx := ⟨_, by rw [alloc_eq_grow, alloc_eq_grow, grow_grow]⟩
  obtain ⟨osx, hG⟩ := hG
  have HG := Lib.hid hG
  have cC : ∀ n, Calls Try.prog 87 #[.slice (some ⟨W.heap.size, 0, none⟩) 4 4, .slice (some ⟨W.heap.size + 1, 0, none⟩) 4 4] (((W.alloc (.cells #[.int .i64 (nth x 0), .int .i64 (nth x 1), .int .i64 (nth x 2), .int .i64 (nth x 3)] 76)).alloc (.cells #[.int .i64 (nth y 0), .int .i64 (nth y 1), .int .i64 (nth y 2), .int .i64 (nth y 3)] 76)).drewN n) fun e w' => e = .returned (.int .i64 (C.cf x y)) ∧ ∃ m, w' = ((W.alloc (.cells #[.int .i64 (nth x 0), .int .i64 (nth x 1), .int .i64 (nth x 2), .int .i64 (nth x 3)] 76)).alloc (.cells #[.int .i64 (nth y 0), .int .i64 (nth y 1), .int .i64 (nth y 2), .int .i64 (nth y 3)] 76)).drewN m := fun n =>
    quiet_same (compare_any _ _ 4 4 4 (C.pad x) (C.pad y) _ rfl rfl (by omega)
      (fun j hj => ⟨W.heap.size, 0, rfl, by rw [Nat.zero_add]; show World.cell? (World.drewN _ n) _ = some (.int .i64 (nth [nth x 0, nth x 1, nth x 2, nth x 3] j)); rw [nth_pad x j hj]; exact hc1 j hj⟩)
      (fun j hj => ⟨W.heap.size + 1, 0, rfl, by rw [Nat.zero_add]; show World.cell? (World.drewN _ n) _ = some (.int .i64 (nth [nth y 0, nth y 1, nth y 2, nth y 3] j)); rw [nth_pad y j hj]; exact hc2 j hj⟩))
  clear hc1 hc2 hG
  go_enter Try.func86, Try.ntmps86
  go_wp2_with fail
  go_quiet (exact cC _)
  go_wp2_with fail
  go_ret
  exact ⟨rfl, nq, _, by rw [HG.out]; rfl⟩
theorem cmpLays_any (blk off size : Nat) (w : World) : CmpLays Try.prog 86 #[] C.encT 4 C.cf blk off size w := fun _ _ _ _ x y => closure_any x y _
/-- Some paths, one behind the other. -/
def Tracks (w : World) (a : Option Addr) (qs : List (List Int)) : Prop :=
  ∀ i, i < qs.length → ∃ b off, a = some ⟨b, off, none⟩ ∧ ∀ c, c < 4 → w.cell? ⟨b, off + i * 4 + c, none⟩ = some (.int .i64 (nth (C.row qs i) c))
theorem Tracks.below {w w' : World} {a : Option Addr} {qs : List (List Int)} (h : Tracks w a qs) (hb : Below w.heap.size w w') : Tracks w' a qs := fun i hi => by
  obtain ⟨b, off, e, hc⟩ := h i hi
  exact ⟨b, off, e, fun c hc4 => cell_on hb (hc c hc4)⟩
/-- The cells of some paths. -/
def flatT (qs : List (List Int)) : List Value := qs.flatMap C.encT
theorem flatT_length (qs : List (List Int)) : (flatT qs).length = qs.length * 4 := by
  induction qs with
  | nil => rfl
  | cons q r ih => simp [flatT, C.encT] at ih ⊢; omega
theorem flatT_snoc (qs : List (List Int)) (q : List Int) : flatT (qs ++ [q]) = flatT qs ++ C.encT q := by simp [flatT]
theorem flatT_get (qs : List (List Int)) (i c : Nat) (hi : i < qs.length) (hc : c < 4) : (flatT qs)[i * 4 + c]? = some (.int .i64 (nth (C.row qs i) c)) := by
  induction qs generalizing i with
  | nil => simp at hi
  | cons q r ih =>
    have hcc : c = 0 ∨ c = 1 ∨ c = 2 ∨ c = 3 := by omega
    cases i with
    | zero => rcases hcc with rfl | rfl | rfl | rfl <;> simp [flatT, C.encT, C.row]
    | succ i =>
      have := ih i (by simpa using hi)
      rw [show (i + 1) * 4 + c = (i * 4 + c) + 4 by omega]
      simpa [flatT, C.encT, C.row] using this
theorem owns_tracks {w : World} {base : Nat} {v : Value} {n : Nat} {qs : List (List Int)} (h : w.ownsRow base 76 4 v n (flatT qs)) : n = qs.length ∧ ∃ a cap, v = .slice a n cap ∧ Tracks w a qs := by
  have hl : n = qs.length := by have := h.1; rw [flatT_length] at this; omega
  refine ⟨hl, ?_⟩
  rcases h.2 with ⟨rfl, h0⟩ | ⟨g, cap, cur, rfl, hb, hg, hn, hm, hs, ht⟩
  · exact ⟨none, 0, by rw [h0], fun i hi => by omega⟩
  · refine ⟨_, cap, rfl, fun i hi => ⟨g, 0, rfl, fun c hc => ?_⟩⟩
    rw [Nat.zero_add, h.cellAt (i * 4 + c) (by omega)]
    exact flatT_get qs i c hi hc
theorem encT_get (q : List Int) (c : Nat) (hc : c < 4) : (C.encT q)[c]! = .int .i64 (nth q c) := by
  have hcc : c = 0 ∨ c = 1 ∨ c = 2 ∨ c = 3 := by omega
  rcases hcc with rfl | rfl | rfl | rfl <;> rfl
theorem row_arr (qs : List (List Int)) (i : Nat) (hi : i < qs.length) : (qs.toArray)[i]! = C.row qs i := by
  simp [C.row, hi]
theorem below_sortWorldK {enc : List Int → List Value} {k : Nat} {w : World} {blk off n : Nat} {d : Array (List Int)} {os : Array Obj} {B : Nat} (hB : B ≤ blk) (hw : B ≤ w.heap.size) : Go.RowKit.Below B w (sortWorldK enc k w blk off n d os) := by
  have hs : (putRowK enc k (Sort.ahead w n) blk off d).heap.size = w.heap.size := by simp [putRowK, putRow, mapBlock, Sort.ahead]
  refine ⟨rfl, rfl, rfl, by simp only [sortWorldK, grow, Array.size_append, hs]; omega, fun j hj => ?_⟩
  have h1 : (sortWorldK enc k w blk off n d os).heap[j]? = (putRowK enc k (Sort.ahead w n) blk off d).heap[j]? := by
    simp only [sortWorldK, grow]; rw [Array.getElem?_append_left (by rw [hs]; omega)]
  rw [h1]
  simp [putRowK, putRow, mapBlock, Sort.ahead, Array.getElem?_modify]
  omega
set_option maxRecDepth 100000 in
theorem csort_any (v : Value) (n : Nat) (qs : List (List Int)) (base : Nat) (w : World) (hown : w.ownsRow base 76 4 v n (flatT qs)) (hn : qs.length ≤ 1000000) (hbase : base ≤ w.heap.size) :
    Calls Try.prog 85 #[v, .func (.func 86) #[] #[]] w fun e w' => e = .returned (.tuple #[]) ∧ ∃ qs' a cap, v = .slice a n cap ∧ qs'.Perm qs ∧ Tracks w' a qs' ∧ Go.RowKit.Below base w w' := by
  have hl : n = qs.length := by have := hown.1; rw [flatT_length] at this; omega
  rcases hown.2 with ⟨rfl, h0⟩ | ⟨g, cap, cur, rfl, hb, hg, hnc, hm, hs, ht⟩
  · have hq : qs = [] := List.eq_nil_of_length_eq_zero (by omega)
    subst hq
    have h := AnyF.slices_SortFunc_none sortT none 0 (.func (.func 86) #[] #[]) w
    refine Calls.mono (show Calls Try.prog 85 _ _ _ from h) ?_
    rintro e w' ⟨rfl, rfl⟩
    exact ⟨rfl, [], none, 0, by rw [h0], List.Perm.refl _, fun i hi => by simp at hi, Go.RowKit.Below.refl _ _⟩
  · have eg : ∀ args w, (callFunc 86 args).run Try.prog w = .ok (.enter 86 args) w := enters_of Try.func86 (by kernel_rfl) rfl
    have hH : HoldsK C.encT 4 w g 0 qs.toArray := by
      intro t ht'
      rw [size_flatK] at ht'
      simp only [List.size_toArray] at ht'
      rw [get_flatK _ _ _ _ (by simpa using ht'), row_arr qs (t / 4) (by omega), encT_get _ _ (Nat.mod_lt _ (by omega)), Nat.zero_add]
      refine ⟨?_, hown.frozenAt t⟩
      rw [hown.cellAt t (by omega)]
      have := flatT_get qs (t / 4) (t % 4) (by omega) (Nat.mod_lt _ (by omega))
      rw [show t / 4 * 4 + t % 4 = t by omega] at this
      exact this
    have hblk : g < w.heap.size := (hown.lt g rfl).2
    have h := AnyQ.slices_SortFunc sortT 4 Try.isAgg76 Try.sizeOf76 C.encT (fun _ => rfl) (fun x v hv => by simp [C.encT] at hv; rcases hv with rfl | rfl | rfl | rfl <;> rfl) C.cf C.swo 86 #[] g 0 cap qs.toArray w eg (cmpLays_any g 0 qs.toArray.size w) hH hblk (by simp; omega)
    rw [List.size_toArray, ← hl] at h
    refine Calls.mono (show Calls Try.prog 85 _ _ _ from h) ?_
    rintro e w' ⟨rfl, d', m, os, hp, -, rfl⟩
    have hsz : d'.size = qs.length := by have := hp.1; simpa using this
    have hH2 := holdsK_sortWorldK C.encT 4 w g 0 m qs.toArray d' os hblk hH (by simpa using hp.1)
    refine ⟨rfl, d'.toList, _, cap, rfl, ?_, fun i hi => ⟨g, 0, rfl, fun c hc => ?_⟩, below_sortWorldK hb hbase⟩
    · have := hp.2.2
      rw [hl] at this
      have e1 : d'.extract 0 qs.length = d' := by rw [← hsz]; simp
      have e2 : (qs.toArray).extract 0 qs.length = qs.toArray := by simp
      rw [e1, e2] at this
      exact this
    · have hi' : i < d'.size := by simpa using hi
      have := (hH2 (i * 4 + c) (by rw [size_flatK]; omega)).1
      rw [get_flatK _ _ _ _ (by omega)] at this
      rw [← Nat.add_assoc] at this
      rw [this]
      have e1 : (i * 4 + c) / 4 = i := by omega
      have e2 : (i * 4 + c) % 4 = c := by omega
      rw [e1, e2, encT_get _ _ hc]
      congr 3
      simp [C.row, hi', getElem!_pos]
end Go.Proofs.Ytkcgkfhfogdihaa
