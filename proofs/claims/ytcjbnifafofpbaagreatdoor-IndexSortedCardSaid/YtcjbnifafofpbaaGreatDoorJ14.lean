/- One text of ShelfC, ComL. -/
import Derived.Test.YtcjbnifafofpbaaGreatDoorJ13
import Derived.Shelf.SlSortCmp.NoneTotal
import Derived.Ground.SlsfProg
/- Contracts of the library: SortFunc of words. -/
namespace Go.Proofs.YtcjbnifafofpbaaGreatDoor
open Go.Shelf
def laySortF_ren : Go.Shelf.Ren := ⟨fun | 6 => 104 | 15 => 110 | 14 => 126 | 28 => 136 | 29 => 137 | 20 => 143 | 21 => 144 | 22 => 145 | 23 => 146 | 24 => 147 | 25 => 148 | 26 => 149 | 27 => 150 | 46 => 161 | 47 => 153 | 48 => 154 | 49 => 162 | 50 => 163 | 57 => 169 | n => n, fun | 22 => 22 | 24 => 9 | 25 => 93 | 3 => 3 | 39 => 103 | 0 => 0 | 53 => 141 | 55 => 143 | 4 => 4 | 46 => 135 | 45 => 134 | 50 => 77 | 5 => 5 | 9 => 9 | 66 => 153 | 70 => 157 | 76 => 162 | 77 => 163 | n => n, fun | n => n⟩
theorem laySortF : Go.Proofs.SlLaysF.n6 Tryz.prog laySortF_ren := {
  mixed := by kernel_rfl
  f6 := ⟨Tryz.f104.name, by decide, Tryz.func104.trans (congrArg some (by kernel_rfl))⟩
  f14 := ⟨Tryz.f126.name, by decide, Tryz.func126.trans (congrArg some (by kernel_rfl))⟩
  f15 := Tryz.func110.trans (congrArg some (by kernel_rfl))
  f20 := ⟨Tryz.f143.name, by decide, Tryz.func143.trans (congrArg some (by kernel_rfl))⟩
  f21 := ⟨Tryz.f144.name, by decide, Tryz.func144.trans (congrArg some (by kernel_rfl))⟩
  f22 := ⟨Tryz.f145.name, by decide, Tryz.func145.trans (congrArg some (by kernel_rfl))⟩
  f23 := ⟨Tryz.f146.name, by decide, Tryz.func146.trans (congrArg some (by kernel_rfl))⟩
  f24 := ⟨Tryz.f147.name, by decide, Tryz.func147.trans (congrArg some (by kernel_rfl))⟩
  f25 := ⟨Tryz.f148.name, by decide, Tryz.func148.trans (congrArg some (by kernel_rfl))⟩
  f26 := ⟨Tryz.f149.name, by decide, Tryz.func149.trans (congrArg some (by kernel_rfl))⟩
  f27 := ⟨Tryz.f150.name, by decide, Tryz.func150.trans (congrArg some (by kernel_rfl))⟩
  f28 := Tryz.func136.trans (congrArg some (by kernel_rfl))
  f29 := Tryz.func137.trans (congrArg some (by kernel_rfl))
  f46 := ⟨Tryz.f161.name, by decide, Tryz.func161.trans (congrArg some (by kernel_rfl))⟩
  f47 := Tryz.func153.trans (congrArg some (by kernel_rfl))
  f48 := Tryz.func154.trans (congrArg some (by kernel_rfl))
  f49 := ⟨Tryz.f162.name, by decide, Tryz.func162.trans (congrArg some (by kernel_rfl))⟩
  f50 := ⟨Tryz.f163.name, by decide, Tryz.func163.trans (congrArg some (by kernel_rfl))⟩
  f57 := ⟨Tryz.f169.name, by decide, Tryz.func169.trans (congrArg some (by kernel_rfl))⟩
  t0 := Tryz.underlying0
  a0 := Tryz.isAgg0
  z0 := Tryz.sizeOf0
  v0 := Tryz.zeroValue0
  t3 := Tryz.underlying3
  a3 := Tryz.isAgg3
  z3 := Tryz.sizeOf3
  v3 := Tryz.zeroValue3
  t4 := Tryz.underlying4
  a4 := Tryz.isAgg4
  z4 := Tryz.sizeOf4
  v4 := Tryz.zeroValue4
  t5 := Tryz.underlying5
  a5 := Tryz.isAgg5
  z5 := Tryz.sizeOf5
  v5 := Tryz.zeroValue5
  t9 := Tryz.underlying9
  a9 := Tryz.isAgg9
  z9 := Tryz.sizeOf9
  v9 := Tryz.zeroValue9
  t22 := Tryz.underlying22
  a22 := Tryz.isAgg22
  z22 := Tryz.sizeOf22
  v22 := Tryz.zeroValue22
  a24 := Tryz.isAgg9
  z24 := Tryz.sizeOf9
  t25 := Tryz.underlying93
  a25 := Tryz.isAgg93
  z25 := Tryz.sizeOf93
  v25 := Tryz.zeroValue93
  t39 := Tryz.underlying103
  a39 := Tryz.isAgg103
  z39 := Tryz.sizeOf103
  v39 := Tryz.zeroValue103
  t45 := Tryz.underlying134
  a45 := Tryz.isAgg134
  z45 := Tryz.sizeOf134
  v45 := Tryz.zeroValue134
  t46 := Tryz.underlying135
  a46 := Tryz.isAgg135
  z46 := Tryz.sizeOf135
  v46 := Tryz.zeroValue135
  t50 := Tryz.underlying77
  a50 := Tryz.isAgg77
  z50 := Tryz.sizeOf77
  v50 := Tryz.zeroValue77
  t53 := Tryz.underlying141
  a53 := Tryz.isAgg141
  z53 := Tryz.sizeOf141
  v53 := Tryz.zeroValue141
  t55 := Tryz.underlying143
  a55 := Tryz.isAgg143
  z55 := Tryz.sizeOf143
  v55 := Tryz.zeroValue143
  t66 := Tryz.underlying153
  a66 := Tryz.isAgg153
  z66 := Tryz.sizeOf153
  v66 := Tryz.zeroValue153
  t70 := Tryz.underlying157
  a70 := Tryz.isAgg157
  z70 := Tryz.sizeOf157
  v70 := Tryz.zeroValue157
  t76 := Tryz.underlying162
  a76 := Tryz.isAgg162
  z76 := Tryz.sizeOf162
  v76 := Tryz.zeroValue162
  t77 := Tryz.underlying163
  a77 := Tryz.isAgg163
  z77 := Tryz.sizeOf163
  v77 := Tryz.zeroValue163 }
def laySortF0_ren : Go.Shelf.Ren := ⟨fun | 6 => 104 | 15 => 110 | 14 => 126 | 28 => 136 | 29 => 137 | 20 => 143 | 21 => 144 | 22 => 145 | 23 => 146 | 24 => 147 | 25 => 148 | 26 => 149 | 27 => 150 | 46 => 161 | 47 => 153 | 48 => 154 | 49 => 162 | 50 => 163 | 57 => 169 | n => n, fun | 22 => 22 | 24 => 9 | 25 => 93 | 3 => 3 | 39 => 103 | 0 => 0 | 53 => 141 | 55 => 143 | 4 => 4 | 46 => 135 | 45 => 134 | 50 => 77 | 5 => 5 | 9 => 9 | 66 => 153 | 70 => 157 | 76 => 162 | 77 => 163 | n => n, fun | n => n⟩
theorem laySortF0 : Go.Proofs.SlLaysF0.n6 Tryz.prog laySortF0_ren := {
  mixed := by kernel_rfl
  f6 := ⟨Tryz.f104.name, by decide, Tryz.func104.trans (congrArg some (by kernel_rfl))⟩
  f14 := ⟨Tryz.f126.name, by decide, Tryz.func126.trans (congrArg some (by kernel_rfl))⟩
  f15 := Tryz.func110.trans (congrArg some (by kernel_rfl))
  f20 := ⟨Tryz.f143.name, by decide, Tryz.func143.trans (congrArg some (by kernel_rfl))⟩
  f21 := ⟨Tryz.f144.name, by decide, Tryz.func144.trans (congrArg some (by kernel_rfl))⟩
  f22 := ⟨Tryz.f145.name, by decide, Tryz.func145.trans (congrArg some (by kernel_rfl))⟩
  f23 := ⟨Tryz.f146.name, by decide, Tryz.func146.trans (congrArg some (by kernel_rfl))⟩
  f24 := ⟨Tryz.f147.name, by decide, Tryz.func147.trans (congrArg some (by kernel_rfl))⟩
  f25 := ⟨Tryz.f148.name, by decide, Tryz.func148.trans (congrArg some (by kernel_rfl))⟩
  f26 := ⟨Tryz.f149.name, by decide, Tryz.func149.trans (congrArg some (by kernel_rfl))⟩
  f27 := ⟨Tryz.f150.name, by decide, Tryz.func150.trans (congrArg some (by kernel_rfl))⟩
  f28 := Tryz.func136.trans (congrArg some (by kernel_rfl))
  f29 := Tryz.func137.trans (congrArg some (by kernel_rfl))
  f46 := ⟨Tryz.f161.name, by decide, Tryz.func161.trans (congrArg some (by kernel_rfl))⟩
  f47 := Tryz.func153.trans (congrArg some (by kernel_rfl))
  f48 := Tryz.func154.trans (congrArg some (by kernel_rfl))
  f49 := ⟨Tryz.f162.name, by decide, Tryz.func162.trans (congrArg some (by kernel_rfl))⟩
  f50 := ⟨Tryz.f163.name, by decide, Tryz.func163.trans (congrArg some (by kernel_rfl))⟩
  f57 := ⟨Tryz.f169.name, by decide, Tryz.func169.trans (congrArg some (by kernel_rfl))⟩
  t0 := Tryz.underlying0
  a0 := Tryz.isAgg0
  z0 := Tryz.sizeOf0
  v0 := Tryz.zeroValue0
  t3 := Tryz.underlying3
  a3 := Tryz.isAgg3
  z3 := Tryz.sizeOf3
  v3 := Tryz.zeroValue3
  t4 := Tryz.underlying4
  a4 := Tryz.isAgg4
  z4 := Tryz.sizeOf4
  v4 := Tryz.zeroValue4
  t5 := Tryz.underlying5
  a5 := Tryz.isAgg5
  z5 := Tryz.sizeOf5
  v5 := Tryz.zeroValue5
  t9 := Tryz.underlying9
  a9 := Tryz.isAgg9
  z9 := Tryz.sizeOf9
  v9 := Tryz.zeroValue9
  t22 := Tryz.underlying22
  a22 := Tryz.isAgg22
  z22 := Tryz.sizeOf22
  v22 := Tryz.zeroValue22
  t25 := Tryz.underlying93
  a25 := Tryz.isAgg93
  z25 := Tryz.sizeOf93
  v25 := Tryz.zeroValue93
  t39 := Tryz.underlying103
  a39 := Tryz.isAgg103
  z39 := Tryz.sizeOf103
  v39 := Tryz.zeroValue103
  t45 := Tryz.underlying134
  a45 := Tryz.isAgg134
  z45 := Tryz.sizeOf134
  v45 := Tryz.zeroValue134
  t46 := Tryz.underlying135
  a46 := Tryz.isAgg135
  z46 := Tryz.sizeOf135
  v46 := Tryz.zeroValue135
  t50 := Tryz.underlying77
  a50 := Tryz.isAgg77
  z50 := Tryz.sizeOf77
  v50 := Tryz.zeroValue77
  t53 := Tryz.underlying141
  a53 := Tryz.isAgg141
  z53 := Tryz.sizeOf141
  v53 := Tryz.zeroValue141
  t55 := Tryz.underlying143
  a55 := Tryz.isAgg143
  z55 := Tryz.sizeOf143
  v55 := Tryz.zeroValue143
  t66 := Tryz.underlying153
  a66 := Tryz.isAgg153
  z66 := Tryz.sizeOf153
  v66 := Tryz.zeroValue153
  t70 := Tryz.underlying157
  a70 := Tryz.isAgg157
  z70 := Tryz.sizeOf157
  v70 := Tryz.zeroValue157
  t76 := Tryz.underlying162
  a76 := Tryz.isAgg162
  z76 := Tryz.sizeOf162
  v76 := Tryz.zeroValue162
  t77 := Tryz.underlying163
  a77 := Tryz.isAgg163
  z77 := Tryz.sizeOf163
  v77 := Tryz.zeroValue163 }

open Go.RowKit Go.Lib Go.Sort
theorem lay_slices_SortFunc {α : Type} [Inhabited α] (enc : α → Value) (h1 : OneCell enc) (cf : α → α → Int) (hO : SWO (ltOf cf)) (g : Nat) (cb : Array Value) (blk off cap : Nat) (d : Array α) (w : World)
    (eg : ∀ args w, (callFunc g args).run Tryz.prog w = .ok (.enter g args) w) (hcmp : CmpLays1 Tryz.prog g cb enc cf blk off d.size w) (hH : Holds enc w blk off d) (hblk : blk < w.heap.size) (hsz : d.size < 4611686018427387904) (hT : ∀ x y, (ltOf cf) x y = false → (ltOf cf) y x = false → x = y) :
    Calls Tryz.prog 104 #[.slice (some ⟨blk, off, none⟩) d.size cap, .func (.func g) #[] cb] w fun e w' =>
      e = .returned (.tuple #[]) ∧ ∃ n os, w' = sortWorld enc w blk off n (d.toList.mergeSort fun x y => !(ltOf cf) y x).toArray os := Any.slices_SortFunc_total laySortF enc h1 cf hO g cb blk off cap d w eg hcmp hH hblk hsz hT
theorem lay_slices_SortFunc_none (p : Option Addr) (cap : Nat) (fv : Value) (w : World) : Calls Tryz.prog 104 #[.slice p 0 cap, fv] w fun e w' => e = .returned (.tuple #[]) ∧ w' = w := AnyF.slices_SortFunc_none laySortF0 p cap fv w
end Go.Proofs.YtcjbnifafofpbaaGreatDoor
/- The comparisons of the sorts; a sort of words by a key, then by letters. -/
namespace Go.Proofs.YtcjbnifafofpbaaGreatDoor
open Go.RowKit Go.Lib Go.Sort
/-- A word that is not too long for a key. -/
abbrev Sw : Type := {x : X.W // x.length ≤ 1000}
instance : Inhabited Sw := ⟨⟨[], by simp⟩⟩
abbrev encW (x : Sw) : Value := sv x.1
def cfK (key : X.W → Int) (x y : Sw) : Int := if key x.1 - key y.1 ≠ 0 then key x.1 - key y.1 else Lib.compareBytes x.1 y.1
theorem compare_lt : ∀ a b : X.W, (Lib.compareBytes a b < 0 ↔ X.lt a b = true) ∧ (Lib.compareBytes a b = 0 ↔ a = b)
  | [], [] => by simp [Lib.compareBytes, X.lt]
  | [], _ :: _ => by simp [Lib.compareBytes, X.lt]
  | _ :: _, [] => by simp [Lib.compareBytes, X.lt]
  | a :: x, b :: y => by
    obtain ⟨h1, h2⟩ := compare_lt x y
    rw [X.lt_cons]
    unfold Lib.compareBytes
    by_cases c1 : a < b
    · rw [if_pos c1]
      refine ⟨by simp [c1], ⟨fun h => by simp at h, fun h => ?_⟩⟩
      injection h with h _; subst h; exact absurd c1 (X.u8_asymm c1)
    · rw [if_neg c1]
      by_cases c2 : b < a
      · rw [if_pos c2]
        refine ⟨⟨fun h => by simp at h, fun h => ?_⟩, ⟨fun h => by simp at h, fun h => ?_⟩⟩
        · rcases h with h | ⟨h, _⟩
          · exact absurd h c1
          · subst h; exact absurd c2 c1
        · injection h with h _; subst h; exact absurd c2 c1
      · rw [if_neg c2]
        have e := X.u8_eq c1 c2
        subst e
        simp [h1, h2, c1]
/-- The order by a key, then by letters. -/
def ltK (key : X.W → Int) (x y : X.W) : Prop := key x < key y ∨ key x = key y ∧ X.lt x y = true
theorem ltOf_cfK (key : X.W → Int) (x y : Sw) : ltOf (cfK key) x y = true ↔ ltK key x.1 y.1 := by
  unfold ltOf cfK ltK
  rw [decide_eq_true_iff]
  by_cases h : key x.1 - key y.1 ≠ 0
  · rw [if_pos h]
    constructor
    · intro h2; exact .inl (by omega)
    · rintro (h2 | ⟨h2, _⟩) <;> omega
  · rw [if_neg h, (compare_lt x.1 y.1).1]
    constructor
    · intro h2; exact .inr ⟨by omega, h2⟩
    · rintro (h2 | ⟨_, h2⟩)
      · omega
      · exact h2
theorem ltK_irrefl (key : X.W → Int) (x : X.W) : ¬ ltK key x x := by
  rintro (h | ⟨_, h⟩)
  · omega
  · rw [X.lt_irrefl] at h; cases h
theorem ltK_trans {key : X.W → Int} {x y z : X.W} (h1 : ltK key x y) (h2 : ltK key y z) : ltK key x z := by
  rcases h1 with h1 | ⟨h1, k1⟩ <;> rcases h2 with h2 | ⟨h2, k2⟩
  · exact .inl (by omega)
  · exact .inl (by omega)
  · exact .inl (by omega)
  · exact .inr ⟨by omega, X.lt_trans k1 k2⟩
theorem ltK_total (key : X.W → Int) (x y : X.W) : ltK key x y ∨ x = y ∨ ltK key y x := by
  unfold ltK
  by_cases h1 : key x < key y
  · exact .inl (.inl h1)
  · by_cases h2 : key y < key x
    · exact .inr (.inr (.inl h2))
    · rcases X.lt_total x y with k | k | k
      · exact .inl (.inr ⟨by omega, k⟩)
      · exact .inr (.inl k)
      · exact .inr (.inr (.inr ⟨by omega, k⟩))
theorem cfK_swo (key : X.W → Int) : SWO (ltOf (cfK key)) where
  irrefl x := by rw [Bool.eq_false_iff]; intro h; exact ltK_irrefl key _ ((ltOf_cfK key x x).1 h)
  trans x y z h1 h2 := (ltOf_cfK key x z).2 (ltK_trans ((ltOf_cfK key x y).1 h1) ((ltOf_cfK key y z).1 h2))
  ntrans x y z h1 h2 := by
    rw [Bool.eq_false_iff] at *
    intro h
    have h3 := (ltOf_cfK key x z).1 h
    rcases ltK_total key x.1 y.1 with k | k | k
    · exact h1 ((ltOf_cfK key x y).2 k)
    · rw [k] at h3; exact h2 ((ltOf_cfK key y z).2 h3)
    · exact h2 ((ltOf_cfK key y z).2 (ltK_trans k h3))
theorem cfK_one (key : X.W → Int) (x y : Sw) (h1 : ltOf (cfK key) x y = false) (h2 : ltOf (cfK key) y x = false) : x = y := by
  rw [Bool.eq_false_iff] at *
  rcases ltK_total key x.1 y.1 with k | k | k
  · exact absurd ((ltOf_cfK key x y).2 k) h1
  · exact Subtype.ext k
  · exact absurd ((ltOf_cfK key y x).2 k) h2
/-- A sort of words by a key, then by letters. -/
theorem sortK_all (key : X.W → Int) (f : Nat) (cb : Array Value) (g cap : Nat) (l : List X.W) (w : World) (hl : l.length ≤ 1000000) (hlen : ∀ x ∈ l, x.length ≤ 1000) (h : Row w g cap l) {B : Nat} (hB : B ≤ g) (eg : ∀ args w, (callFunc f args).run Tryz.prog w = .ok (.enter f args) w)
    (hc : ∀ (x y : Sw) W, RowKit.Below g w W → Calls Tryz.prog f (#[sv x.1, sv y.1] ++ cb) W fun e w' => e = .returned (.int .i64 (cfK key x y)) ∧ ∃ q os', w' = grow (W.drewN q) os') :
    Calls Tryz.prog 104 #[.slice (some ⟨g, 0, none⟩) l.length cap, .func (.func f) #[] cb] w fun e w' => e = .returned (.tuple #[]) ∧ ∃ L : List X.W, L.Perm l ∧ L.Pairwise (fun a b => ¬ ltK key b a) ∧ Row w' g cap L ∧ RowKit.Below B w w' ∧ (∀ k, k ≠ g → k < w.heap.size → w'.heap[k]? = w.heap[k]?) := by
  obtain ⟨d, hd⟩ : ∃ d : List Sw, d.map (fun x => x.1) = l := ⟨l.attach.map (fun x => ⟨x.1, hlen x.1 x.2⟩), by rw [List.map_map]; exact List.attach_map_subtype_val l⟩
  have hsz : d.length = l.length := by rw [← hd, List.length_map]
  have hget : ∀ (q : List Sw) j, j < q.length → (q.toArray[j]!).1 = wat (q.map (fun x => x.1)) j := fun q j hj => by
    have e : q.toArray[j]! = q[j] := by simp [hj, getElem!_pos]
    rw [e, wat_eq _ j (by simpa using hj)]; simp
  have hH : Holds encW w g 0 d.toArray := fun j hj => by
    have hj' : j < d.length := by simpa using hj
    have := h.holds j (by simpa using (by omega : j < l.length))
    refine ⟨?_, this.2⟩
    rw [this.1, atB]
    show some (sv (wat l j)) = some (sv (d.toArray[j]!).1)
    rw [hget d j hj', hd]
  have hcmp : CmpLays1 Tryz.prog f cb encW (cfK key) g 0 d.toArray.size w := fun m os dk hs x y => hc x y _ (below_putRow encW w m g 0 dk os (Nat.le_refl _) (Nat.le_of_lt h.lt))
  have hh := lay_slices_SortFunc encW (fun x => rfl) (cfK key) (cfK_swo key) f cb g 0 cap d.toArray w eg hcmp hH h.lt (by simp; omega) (cfK_one key)
  rw [List.size_toArray, hsz] at hh
  refine hh.mono ?_
  rintro e w' ⟨rfl, n, os, rfl⟩
  rw [List.toList_toArray]
  obtain ⟨S, hS⟩ : ∃ S : List Sw, d.mergeSort (fun x y => !(ltOf (cfK key)) y x) = S := ⟨_, rfl⟩
  rw [hS]
  have hSp : S.Perm d := by rw [← hS]; exact List.mergeSort_perm _ _
  have hSo : S.Pairwise (fun a b => ¬ ltK key b.1 a.1) := by
    have := List.pairwise_mergeSort (le := fun x y : Sw => !(ltOf (cfK key)) y x) (fun a b c h1 h2 => by
      simp only [Bool.not_eq_true'] at *
      rw [Bool.eq_false_iff] at *
      intro h
      have h3 := (ltOf_cfK key c a).1 h
      rcases ltK_total key a.1 b.1 with k | k | k
      · exact h2 ((ltOf_cfK key c b).2 (ltK_trans h3 k))
      · rw [k] at h3; exact h2 ((ltOf_cfK key c b).2 h3)
      · exact h1 ((ltOf_cfK key b a).2 k)) (fun a b => by
      cases h : ltOf (cfK key) b a with
      | false => rfl
      | true =>
        cases h2 : ltOf (cfK key) a b with
        | false => rfl
        | true => exact absurd (ltK_trans ((ltOf_cfK key b a).1 h) ((ltOf_cfK key a b).1 h2)) (ltK_irrefl key _)) d
    rw [hS] at this
    exact this.imp (fun {a b} h => by
      intro hk
      rw [(ltOf_cfK key b a).2 hk] at h; cases h)
  have hSl : S.length = l.length := by rw [hSp.length_eq, hsz]
  have hSW : SW encW w g 0 S.toArray (sortWorld encW w g 0 n S.toArray os) := ⟨n, os, rfl⟩
  have hH2 := hSW.holds h.lt hH (by simp; omega)
  refine ⟨rfl, S.map (fun x => x.1), ?_, ?_, ⟨fun j hj => ?_, by rw [List.length_map, hSl]; exact h.le, hSW.lt h.lt⟩, below_putRow encW w n g 0 S.toArray os hB (by have := h.lt; omega), fun k hk hks => ?_⟩
  · rw [← hd]; exact hSp.map _
  · rw [List.pairwise_map]; exact hSo
  · have hj' : j < S.length := by simpa using hj
    have := hH2 j (by simpa using hj')
    refine ⟨?_, this.2⟩
    rw [this.1, atB]
    show some (sv (S.toArray[j]!).1) = _
    rw [hget S j hj']
  · obtain ⟨q1, q2⟩ := heap_putRow encW (Sort.ahead w n) g 0 S.toArray
    have q3 : (putRow encW (Sort.ahead w n) g 0 S.toArray).heap.size = w.heap.size := q1
    have q4 : (grow (putRow encW (Sort.ahead w n) g 0 S.toArray) os).heap[k]? = (putRow encW (Sort.ahead w n) g 0 S.toArray).heap[k]? := by
      simp only [grow]; rw [Array.getElem?_append_left (by rw [q3]; exact hks)]
    exact q4.trans ((q2 k hk).trans rfl)
theorem sortK_any (key : X.W → Int) (f : Nat) (cb : Array Value) (g cap : Nat) (l : List X.W) (w : World) (hl : l.length ≤ 1000000) (hlen : ∀ x ∈ l, x.length ≤ 1000) (h : Row w g cap l) {B : Nat} (hB : B ≤ g) (eg : ∀ args w, (callFunc f args).run Tryz.prog w = .ok (.enter f args) w)
    (hc : ∀ (x y : Sw) W, RowKit.Below g w W → Calls Tryz.prog f (#[sv x.1, sv y.1] ++ cb) W fun e w' => e = .returned (.int .i64 (cfK key x y)) ∧ ∃ q os', w' = grow (W.drewN q) os') :
    Calls Tryz.prog 104 #[.slice (some ⟨g, 0, none⟩) l.length cap, .func (.func f) #[] cb] w fun e w' => e = .returned (.tuple #[]) ∧ ∃ L : List X.W, L.Perm l ∧ L.Pairwise (fun a b => ¬ ltK key b a) ∧ Row w' g cap L ∧ RowKit.Below B w w' := by
  refine (sortK_all key f cb g cap l w hl hlen h hB eg hc).mono ?_
  rintro e w' ⟨rfl, L, h1, h2, h3, h4, -⟩
  exact ⟨rfl, L, h1, h2, h3, h4⟩
set_option maxRecDepth 20000 in
/-- apart's comparison. -/
theorem cmpLen_any (x y : Sw) (W : World) : Calls Tryz.prog 105 #[sv x.1, sv y.1] W fun e w' => e = .returned (.int .i64 (cfK (fun a => (a.length : Int)) x y)) ∧ ∃ q os', w' = grow (W.drewN q) os' := by
  obtain ⟨x, hx⟩ := x
  obtain ⟨y, hy⟩ := y
  have HC : Hid (cfK (fun a => (a.length : Int)) ⟨x, hx⟩ ⟨y, hy⟩ = if (x.length : Int) - y.length ≠ 0 then (x.length : Int) - y.length else Lib.compareBytes x y) := Lib.hid rfl
  have h1 := fun W => lay_strings_Compare (bs x) (bs y) W
  rw [show (bs x).data.toList = x from bs_list x, show (bs y).data.toList = y from bs_list y] at h1
  have H1 := Lib.hid h1
  clear h1
  obtain ⟨D, hD⟩ : ∃ D, (x.length : Int) - y.length = D := ⟨_, rfl⟩
  have kd : IntKind.i64.wrap ((x.length : Int) - y.length) = D := by rw [IntWalk.i64_in _ (by omega), hD]
  rw [hD] at HC
  generalize cfK (fun a => (a.length : Int)) ⟨x, hx⟩ ⟨y, hy⟩ = R at *
  generalize Lib.compareBytes x y = C at *
  have hw : W.alloc (.cells #[.int .i64 D, .int .i64 C] 3) = grow (W.drewN 0) #[.cells #[.int .i64 D, .int .i64 C] 3] := by rw [alloc_eq_grow]; rfl
  have HW := Lib.hid hw
  have h2 := or_any W.heap.size D C (W.alloc (.cells #[.int .i64 D, .int .i64 C] 3)) (by simp) (by simp)
  rw [← HC.out] at h2
  have H2 := Lib.hid h2
  clear hw h2 hD HC
  go_enter Tryz.func105, Tryz.ntmps105
  go_wp2_with fail
  refine (H1.out _).mono ?_
  rintro e w1 ⟨rfl, rfl⟩
  go_wp2_with fail
  refine H2.out.mono ?_
  rintro e w2 ⟨rfl, rfl⟩
  go_wp2_with fail
  go_ret
  exact ⟨rfl, 0, _, HW.out⟩
theorem grown_of_below {w w' : World} {n : Nat} (h : RowKit.Below w.heap.size w w') (hd : w'.drawn = w.drawn + n) : ∃ os, w' = grow (w.drewN n) os := by
  obtain ⟨p, hp⟩ := regrown_of_below h
  refine ⟨p.os, ?_⟩
  have e : p.d = w.drawn + n := by rw [hp] at hd; exact hd
  rw [hp]
  show grow (redrawn w p.d) p.os = _
  rw [e]; rfl
set_option maxRecDepth 20000 in
set_option maxHeartbeats 1000000 in
/-- newShelf's comparison. -/
theorem cmpLong_any (Bx B : Nat) (a : Option Addr) (cap : Nat) (l : List X.W) (x y : Sw) (W : World) (hl : l.length ≤ 1000) (hr : ∀ s ∈ l, s.length ≤ 1000) (h0 : W.cell? ⟨Bx, 0, none⟩ = some (.pointer (some ⟨B, 0, none⟩))) (hc : W.cell? ⟨B, 0, none⟩ = some (.slice a l.length cap)) (hs : Strs W a l) :
    Calls Tryz.prog 113 #[sv x.1, sv y.1, .pointer (some ⟨Bx, 0, none⟩)] W fun e w' => e = .returned (.int .i64 (cfK (fun u => -(X.longest (X.ends l u) : Int)) x y)) ∧ ∃ q os', w' = grow (W.drewN q) os' := by
  obtain ⟨x, hx⟩ := x
  obtain ⟨y, hy⟩ := y
  have hlb : ∀ u, X.longest (X.ends l u) ≤ 1000 := fun u => X.longest_bd (fun e he => by have := hr _ (X.mem_ends.1 he); rw [List.length_append] at this; omega)
  have hl1 := hlb x
  have hl2 := hlb y
  have HC : Hid (cfK (fun u => -(X.longest (X.ends l u) : Int)) ⟨x, hx⟩ ⟨y, hy⟩ = if (X.longest (X.ends l y) : Int) - X.longest (X.ends l x) ≠ 0 then (X.longest (X.ends l y) : Int) - X.longest (X.ends l x) else Lib.compareBytes x y) := Lib.hid (by
    unfold cfK
    simp only
    rw [show -(X.longest (X.ends l x) : Int) - -(X.longest (X.ends l y) : Int) = (X.longest (X.ends l y) : Int) - X.longest (X.ends l x) by omega])
  have cG : ∀ u n os, Calls Tryz.prog 114 #[.pointer (some ⟨B, 0, none⟩), sv u] (grow (W.drewN n) os) fun e w' => e = .returned (.int .i64 (X.longest (X.ends l u) : Nat)) ∧ ∃ p : GrownBy, w' = grow (W.drewN p.n) p.os := fun u n os => by
    have hbl : RowKit.Below W.heap.size W (grow (W.drewN n) os) := below_grown W n os
    refine Calls.grown_of ((longestP_any B a cap l u (grow (W.drewN n) os) hl hr (cell_on hbl hc) (hs.below hbl)).mono ?_)
    rintro e w' ⟨rfl, hb, hdr⟩
    obtain ⟨os', h'⟩ := grown_of_below (n := 0) hb hdr
    exact ⟨rfl, 0, os', h'⟩
  have cC : ∀ n os, Calls Tryz.prog 107 #[sv x, sv y] (grow (W.drewN n) os) fun e w' => e = .returned (.int .i64 (Lib.compareBytes x y)) ∧ ∃ p : GrownBy, w' = grow (W.drewN p.n) p.os := fun n os => by
    refine (lay_strings_Compare (bs x) (bs y) _).mono ?_
    rintro e w' ⟨rfl, rfl⟩
    rw [show (bs x).data.toList = x from bs_list x, show (bs y).data.toList = y from bs_list y]
    exact ⟨rfl, ⟨n, os⟩, rfl⟩
  obtain ⟨D, hD⟩ : ∃ D, (X.longest (X.ends l y) : Int) - X.longest (X.ends l x) = D := ⟨_, rfl⟩
  have kd : IntKind.i64.wrap ((X.longest (X.ends l y) : Int) - X.longest (X.ends l x)) = D := by rw [IntWalk.i64_in _ (by omega), hD]
  rw [hD] at HC
  have r0 := cell_grown (World.block_lt_of_cell? W _ h0) h0
  clear hlb hl1 hl2 hD h0 hc hs
  generalize cfK (fun u => -(X.longest (X.ends l u) : Int)) ⟨x, hx⟩ ⟨y, hy⟩ = R at *
  have cGx := cG x
  have cGy := cG y
  clear cG
  generalize X.longest (X.ends l x) = A1 at *
  generalize X.longest (X.ends l y) = A2 at *
  generalize Lib.compareBytes x y = C at *
  go_enter Tryz.func113, Tryz.ntmps113
  go_wp2_with fail
  refine wp_region_quiet_tail (C := fun w' => ∃ p : GrownBy, w' = grow (W.drewN p.n) p.os) 10 (by kernel_rfl) (by kernel_rfl) ⟨⟨1, #[]⟩, by rw [grow_empty]; rfl⟩ ?_
  simp only [List.take_succ_cons, List.take_zero, List.drop_succ_cons, List.drop_zero]
  repeat (quiet_step (fail))
  quiet_step ((go_at_call 114; exact cGy _ _))
  repeat (quiet_step (fail))
  quiet_step ((go_at_call 114; exact cGx _ _))
  repeat (quiet_step (fail))
  quiet_step ((go_at_call 107; exact cC _ _))
  refine wpQuiet_nil ?_
  intro W6' hw'
  obtain ⟨⟨nq, osq⟩, hw''⟩ := hw'
  obtain ⟨W6, rfl⟩ : ∃ W6, W6 = W6' := ⟨_, rfl⟩
  have hcn := Cells.new W6 #[.int .i64 D, .int .i64 C] 3
  have h2 := or_any W6.heap.size D C (W6.alloc (.cells #[.int .i64 D, .int .i64 C] 3)) (hcn.cel 0 _ rfl) (hcn.cel 1 _ rfl)
  rw [← HC.out] at h2
  have H2 := Lib.hid h2
  have hw : W6.alloc (.cells #[.int .i64 D, .int .i64 C] 3) = grow (W.drewN nq) (osq ++ #[.cells #[.int .i64 D, .int .i64 C] 3]) := by rw [hw'', alloc_eq_grow, grow_grow]
  have HW := Lib.hid hw
  clear h2 hw HC hcn hw'' r0 cGx cGy cC
  go_wp2_with fail
  refine H2.out.mono ?_
  rintro e w2 ⟨rfl, rfl⟩
  go_wp2_with fail
  go_ret
  exact ⟨rfl, nq, _, HW.out⟩
end Go.Proofs.YtcjbnifafofpbaaGreatDoor
