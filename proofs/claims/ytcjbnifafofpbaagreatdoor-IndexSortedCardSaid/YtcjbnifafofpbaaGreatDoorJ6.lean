/- One text of Shelf, ComB, ComC, LawB, ComD. -/
import Derived.Test.YtcjbnifafofpbaaGreatDoorJ5
import Derived.Shelf.Strings.SlTrimAscii
import Derived.Shelf.Small.Strs
import Derived.Shelf.Small.Wraps
import Derived.Shelf.Slices.Turned
import Derived.Ground.Names2Prog
import Derived.Shelf.Slices.Clone
import Derived.Shelf.Slices.CompactS
import Derived.Shelf.Spec.SearchS
/- Contracts of the library, laid at this program by the kit's tool. -/
namespace Go.Proofs.YtcjbnifafofpbaaGreatDoor
open Go.Shelf
def layTrim_ren : Go.Shelf.Ren := ⟨fun | 160 => 95 | 232 => 116 | 231 => 115 | 227 => 117 | 234 => 119 | 233 => 118 | 236 => 121 | 235 => 120 | 228 => 138 | 271 => 141 | 151 => 140 | 197 => 139 | 120 => 159 | 152 => 158 | 260 => 157 | 137 => 165 | 119 => 166 | 224 => 167 | 225 => 168 | 217 => 170 | 266 => 171 | n => n, fun | 9 => 9 | 4 => 4 | 3 => 3 | 5 => 5 | 117 => 126 | 116 => 125 | 0 => 0 | 124 => 129 | 21 => 21 | 105 => 145 | 46 => 103 | 119 => 165 | 139 => 168 | 138 => 167 | n => n, fun | 3 => 1 | 4 => 2 | n => n⟩
theorem layTrim : Go.Proofs.Lays.n160 Tryz.prog layTrim_ren := {
  mixed := by kernel_rfl
  f119 := Tryz.func166.trans (congrArg some (by kernel_rfl))
  f120 := Tryz.func159.trans (congrArg some (by kernel_rfl))
  f137 := Tryz.func165.trans (congrArg some (by kernel_rfl))
  f151 := Tryz.func140.trans (congrArg some (by kernel_rfl))
  f152 := Tryz.func158.trans (congrArg some (by kernel_rfl))
  f160 := Tryz.func95.trans (congrArg some (by kernel_rfl))
  f197 := Tryz.func139.trans (congrArg some (by kernel_rfl))
  f217 := Tryz.func170.trans (congrArg some (by kernel_rfl))
  f224 := Tryz.func167.trans (congrArg some (by kernel_rfl))
  f225 := Tryz.func168.trans (congrArg some (by kernel_rfl))
  f227 := Tryz.func117.trans (congrArg some (by kernel_rfl))
  f228 := Tryz.func138.trans (congrArg some (by kernel_rfl))
  f231 := Tryz.func115.trans (congrArg some (by kernel_rfl))
  f232 := Tryz.func116.trans (congrArg some (by kernel_rfl))
  f233 := Tryz.func118.trans (congrArg some (by kernel_rfl))
  f234 := Tryz.func119.trans (congrArg some (by kernel_rfl))
  f235 := Tryz.func120.trans (congrArg some (by kernel_rfl))
  f236 := Tryz.func121.trans (congrArg some (by kernel_rfl))
  f260 := Tryz.func157.trans (congrArg some (by kernel_rfl))
  f266 := Tryz.func171.trans (congrArg some (by kernel_rfl))
  f271 := Tryz.func141.trans (congrArg some (by kernel_rfl))
  t0 := Tryz.underlying0
  a0 := Tryz.isAgg0
  z0 := Tryz.sizeOf0
  v0 := Tryz.zeroValue0
  t3 := Tryz.underlying3
  a3 := Tryz.isAgg3
  z3 := Tryz.sizeOf3
  v3 := Tryz.zeroValue3
  t4 := Tryz.underlying4
  a4 := Tryz.isAgg4
  z4 := Tryz.sizeOf4
  v4 := Tryz.zeroValue4
  t5 := Tryz.underlying5
  a5 := Tryz.isAgg5
  z5 := Tryz.sizeOf5
  v5 := Tryz.zeroValue5
  t9 := Tryz.underlying9
  a9 := Tryz.isAgg9
  z9 := Tryz.sizeOf9
  v9 := Tryz.zeroValue9
  t21 := Tryz.underlying21
  a21 := Tryz.isAgg21
  z21 := Tryz.sizeOf21
  v21 := Tryz.zeroValue21
  t46 := Tryz.underlying103
  a46 := Tryz.isAgg103
  z46 := Tryz.sizeOf103
  v46 := Tryz.zeroValue103
  t105 := Tryz.underlying145
  a105 := Tryz.isAgg145
  z105 := Tryz.sizeOf145
  v105 := Tryz.zeroValue145
  t116 := Tryz.underlying125
  a116 := Tryz.isAgg125
  z116 := Tryz.sizeOf125
  t117 := Tryz.underlying126
  a117 := Tryz.isAgg126
  z117 := Tryz.sizeOf126
  v117 := Tryz.zeroValue126
  t119 := Tryz.underlying165
  a119 := Tryz.isAgg165
  z119 := Tryz.sizeOf165
  t124 := Tryz.underlying129
  a124 := Tryz.isAgg129
  z124 := Tryz.sizeOf129
  v124 := Tryz.zeroValue129
  t138 := Tryz.underlying167
  a138 := Tryz.isAgg167
  z138 := Tryz.sizeOf167
  v138 := Tryz.zeroValue167
  t139 := Tryz.underlying168
  a139 := Tryz.isAgg168
  z139 := Tryz.sizeOf168
  v139 := Tryz.zeroValue168
  g3 := by kernel_rfl
  g4 := by kernel_rfl }
def layCompare_ren : Go.Shelf.Ren := ⟨fun | 106 => 107 | 213 => 127 | 265 => 151 | n => n, fun | 9 => 9 | 3 => 3 | n => n, fun | n => n⟩
theorem layCompare : Go.Proofs.Lays.n106 Tryz.prog layCompare_ren := {
  mixed := by kernel_rfl
  f106 := Tryz.func107.trans (congrArg some (by kernel_rfl))
  f213 := Tryz.func127.trans (congrArg some (by kernel_rfl))
  f265 := Tryz.func151.trans (congrArg some (by kernel_rfl))
  t3 := Tryz.underlying3
  a3 := Tryz.isAgg3
  z3 := Tryz.sizeOf3
  v3 := Tryz.zeroValue3
  t9 := Tryz.underlying9
  a9 := Tryz.isAgg9
  z9 := Tryz.sizeOf9
  v9 := Tryz.zeroValue9 }
def layCut_ren : Go.Shelf.Ren := ⟨fun | 103 => 125 | 210 => 142 | 206 => 160 | n => n, fun | 9 => 9 | 4 => 4 | 24 => 83 | 3 => 3 | n => n, fun | n => n⟩
theorem layCut : Go.Proofs.Lays.n103 Tryz.prog layCut_ren := {
  mixed := by kernel_rfl
  f103 := Tryz.func125.trans (congrArg some (by kernel_rfl))
  f206 := Tryz.func160.trans (congrArg some (by kernel_rfl))
  f210 := Tryz.func142.trans (congrArg some (by kernel_rfl))
  t3 := Tryz.underlying3
  a3 := Tryz.isAgg3
  z3 := Tryz.sizeOf3
  v3 := Tryz.zeroValue3
  t4 := Tryz.underlying4
  a4 := Tryz.isAgg4
  z4 := Tryz.sizeOf4
  v4 := Tryz.zeroValue4
  t9 := Tryz.underlying9
  a9 := Tryz.isAgg9
  z9 := Tryz.sizeOf9
  v9 := Tryz.zeroValue9
  t24 := Tryz.underlying83
  a24 := Tryz.isAgg83
  z24 := Tryz.sizeOf83
  v24 := Tryz.zeroValue83 }
def layContains_ren : Go.Shelf.Ren := ⟨fun | 110 => 79 | 109 => 108 | n => n, fun | 31 => 22 | 9 => 9 | 4 => 4 | 3 => 3 | 0 => 0 | n => n, fun | n => n⟩
theorem layContains : Go.Proofs.Lays.n110 Tryz.prog layContains_ren := {
  mixed := by kernel_rfl
  f109 := Tryz.func108.trans (congrArg some (by kernel_rfl))
  f110 := Tryz.func79.trans (congrArg some (by kernel_rfl))
  t0 := Tryz.underlying0
  a0 := Tryz.isAgg0
  z0 := Tryz.sizeOf0
  v0 := Tryz.zeroValue0
  t3 := Tryz.underlying3
  a3 := Tryz.isAgg3
  z3 := Tryz.sizeOf3
  v3 := Tryz.zeroValue3
  t4 := Tryz.underlying4
  a4 := Tryz.isAgg4
  z4 := Tryz.sizeOf4
  v4 := Tryz.zeroValue4
  t9 := Tryz.underlying9
  a9 := Tryz.isAgg9
  z9 := Tryz.sizeOf9
  v9 := Tryz.zeroValue9
  t31 := Tryz.underlying22
  a31 := Tryz.isAgg22
  z31 := Tryz.sizeOf22
  v31 := Tryz.zeroValue22 }
def layClone_ren : Go.Shelf.Ren := ⟨fun | 16 => 83 | n => n, fun | 24 => 22 | 9 => 9 | 4 => 4 | n => n, fun | n => n⟩
theorem layClone : Go.Proofs.Lays2.n16 Tryz.prog layClone_ren := {
  mixed := by kernel_rfl
  f16 := Tryz.func83.trans (congrArg some (by kernel_rfl))
  t4 := Tryz.underlying4
  a4 := Tryz.isAgg4
  z4 := Tryz.sizeOf4
  v4 := Tryz.zeroValue4
  t9 := Tryz.underlying9
  a9 := Tryz.isAgg9
  z9 := Tryz.sizeOf9
  v9 := Tryz.zeroValue9
  t24 := Tryz.underlying22
  a24 := Tryz.isAgg22
  z24 := Tryz.sizeOf22
  v24 := Tryz.zeroValue22
  i9 := by kernel_rfl }
def layCompact_ren : Go.Shelf.Ren := ⟨fun | 194 => 85 | n => n, fun | 31 => 22 | 9 => 9 | 3 => 3 | 4 => 4 | 0 => 0 | n => n, fun | n => n⟩
theorem layCompact : Go.Proofs.Lays.n194 Tryz.prog layCompact_ren := {
  mixed := by kernel_rfl
  f194 := Tryz.func85.trans (congrArg some (by kernel_rfl))
  t0 := Tryz.underlying0
  a0 := Tryz.isAgg0
  z0 := Tryz.sizeOf0
  v0 := Tryz.zeroValue0
  t3 := Tryz.underlying3
  a3 := Tryz.isAgg3
  z3 := Tryz.sizeOf3
  v3 := Tryz.zeroValue3
  t4 := Tryz.underlying4
  a4 := Tryz.isAgg4
  z4 := Tryz.sizeOf4
  v4 := Tryz.zeroValue4
  t9 := Tryz.underlying9
  a9 := Tryz.isAgg9
  z9 := Tryz.sizeOf9
  v9 := Tryz.zeroValue9
  t31 := Tryz.underlying22
  a31 := Tryz.isAgg22
  z31 := Tryz.sizeOf22
  v31 := Tryz.zeroValue22 }
def laySearch_ren : Go.Shelf.Ren := ⟨fun | 26 => 69 | 33 => 98 | 34 => 99 | 38 => 122 | n => n, fun | 24 => 22 | 9 => 9 | 3 => 3 | 4 => 4 | 40 => 103 | 0 => 0 | n => n, fun | n => n⟩
theorem laySearch : Go.Proofs.Lays2.n26 Tryz.prog laySearch_ren := {
  mixed := by kernel_rfl
  f26 := Tryz.func69.trans (congrArg some (by kernel_rfl))
  f33 := Tryz.func98.trans (congrArg some (by kernel_rfl))
  f34 := Tryz.func99.trans (congrArg some (by kernel_rfl))
  f38 := Tryz.func122.trans (congrArg some (by kernel_rfl))
  t0 := Tryz.underlying0
  a0 := Tryz.isAgg0
  z0 := Tryz.sizeOf0
  v0 := Tryz.zeroValue0
  t3 := Tryz.underlying3
  a3 := Tryz.isAgg3
  z3 := Tryz.sizeOf3
  v3 := Tryz.zeroValue3
  t4 := Tryz.underlying4
  a4 := Tryz.isAgg4
  z4 := Tryz.sizeOf4
  v4 := Tryz.zeroValue4
  t9 := Tryz.underlying9
  a9 := Tryz.isAgg9
  z9 := Tryz.sizeOf9
  v9 := Tryz.zeroValue9
  t24 := Tryz.underlying22
  a24 := Tryz.isAgg22
  z24 := Tryz.sizeOf22
  v24 := Tryz.zeroValue22
  t40 := Tryz.underlying103
  a40 := Tryz.isAgg103
  z40 := Tryz.sizeOf103
  v40 := Tryz.zeroValue103 }

open Go.RowKit Go.Lib
theorem lay_strings_Trim (s cutset : ByteArray) (w : World) (hs : s.size ≤ 9223372036854775807) (hcs : cutset.size < 4294967281) (ha : ∀ (j : Nat) b, cutset.data.toList[j]? = some b → b.toNat < 128) :
    Calls Tryz.prog 95 #[.string s, .string cutset] w fun e w' => e = .returned (.string ⟨(Lib.trimS s.data.toList cutset.data.toList).toArray⟩) ∧ Below w.heap.size w w' := Any.strings_Trim_laid layTrim (by kernel_rfl) s cutset w hs hcs ha
theorem lay_strings_Compare (a b : ByteArray) (w : World) :
    Calls Tryz.prog 107 #[.string a, .string b] w fun e w' => e = .returned (.int .i64 (Lib.compareBytes a.data.toList b.data.toList)) ∧ w' = w := Any.strings_Compare layCompare a b w
theorem lay_strings_CutPrefix (s p : ByteArray) (w : World) :
    Calls Tryz.prog 125 #[.string s, .string p] w fun e w' => e = .returned (.tuple #[.string ⟨(Lib.trimPrefix s.data.toList p.data.toList).toArray⟩, .bool (Lib.hasPrefix s.data.toList p.data.toList)]) ∧ w' = w := Any.strings_CutPrefix layCut s p w
theorem lay_slices_Contains (b off n c : Nat) (zs : List ByteArray) (x : ByteArray) (w : World) (hz : n ≤ zs.length) (hbig : n ≤ 9223372036854775807) (hc : ∀ j, j < zs.length → w.cell? ⟨b, off + j, none⟩ = some (.string (zs.getD j ByteArray.empty))) :
    Calls Tryz.prog 79 #[.slice (some ⟨b, off, none⟩) n c, .string x] w fun e w' => e = .returned (.bool (Lib.containsS (zs.take n) x)) ∧ w' = w := Any.slices_Contains_string layContains b off n c zs x w hz hbig hc
theorem lay_slices_Contains_none (a : Option Addr) (c : Nat) (x : ByteArray) (w : World) :
    Calls Tryz.prog 79 #[.slice a 0 c, .string x] w fun e w' => e = .returned (.bool false) ∧ w' = w := Any.slices_Contains_string_empty layContains a c x w
theorem lay_slices_Clone (b off n c : Nat) (zs : List ByteArray) (w : World) (hz : n ≤ zs.length) (hbig : n * 16 ≤ 140737488355328) (hc : ∀ j, j < zs.length → w.cell? ⟨b, off + j, none⟩ = some (.string (zs.getD j ByteArray.empty))) :
    Calls Tryz.prog 83 #[.slice (some ⟨b, off, none⟩) n c] w fun e w' => ∃ v', e = .returned v' ∧ w'.ownsRow w.heap.size 9 1 v' n ((zs.take n).map (Value.string)) ∧ v' ≠ .slice none 0 0 ∧ Below w.heap.size w w' := Any.slices_Clone_string layClone b off n c zs w hz hbig hc
theorem lay_slices_Clone_nil (n c : Nat) (w : World) :
    Calls Tryz.prog 83 #[.slice none n c] w fun e w' => e = .returned (.slice none 0 0) ∧ w' = w := Any.slices_Clone_string_nil layClone n c w
theorem lay_slices_Clone_zero (a : Addr) (c : Nat) (w : World) :
    Calls Tryz.prog 83 #[.slice (some a) 0 c] w fun e w' => ∃ v', e = .returned v' ∧ w'.ownsRow w.heap.size 9 1 v' 0 [] ∧ v' ≠ .slice none 0 0 ∧ Below w.heap.size w w' := Any.slices_Clone_string_zero layClone a c w
open Go.Sort in
theorem lay_slices_Compact (blk off cap : Nat) (zs : List (List UInt8)) (w : World) (hH : Holds encStr w blk off zs.toArray) (hsz : zs.length ≤ 9223372036854775807) (hcap : zs.length ≤ cap) :
    Calls Tryz.prog 85 #[.slice (some ⟨blk, off, none⟩) zs.length cap] w fun e w' => e = .returned (.slice (some ⟨blk, off, none⟩) (Lib.compact zs).length cap) ∧ ∃ q, w' = putRow encStr (Sort.ahead w q) blk off (Lib.compact zs ++ List.replicate (zs.length - (Lib.compact zs).length) []).toArray := Any.slices_Compact_string layCompact blk off cap zs w hH hsz hcap
theorem lay_slices_Compact_none (a : Option Addr) (c : Nat) (w : World) :
    Calls Tryz.prog 85 #[.slice a 0 c] w fun e w' => e = .returned (.slice a 0 c) ∧ w' = w := Any.slices_Compact_string_empty layCompact a c w
theorem lay_slices_BinarySearch (b off n c : Nat) (Sx : Nat → ByteArray) (x : ByteArray) (w : World) (hbig : n < 4611686018427387904) (hc : ∀ j, j < n → w.cell? ⟨b, off + j, none⟩ = some (.string (Sx j))) :
    Calls Tryz.prog 69 #[.slice (some ⟨b, off, none⟩) n c, .string x] w fun e w' =>
      e = .returned (.tuple #[.int .i64 (Lib.bsGo (fun t => Op.bytesLess (Sx t).toList x.toList) n 0 n : Nat), .bool (decide (Lib.bsGo (fun t => Op.bytesLess (Sx t).toList x.toList) n 0 n < n ∧ Sx (Lib.bsGo (fun t => Op.bytesLess (Sx t).toList x.toList) n 0 n) = x))]) ∧ ∃ q, w' = w.drewN q := Any2.slices_BinarySearch_string laySearch b off n c Sx x w hbig hc
theorem lay_slices_BinarySearch_none (a : Option Addr) (c : Nat) (x : ByteArray) (w : World) :
    Calls Tryz.prog 69 #[.slice a 0 c, .string x] w fun e w' => e = .returned (.tuple #[.int .i64 0, .bool false]) ∧ w' = w := Any2.slices_BinarySearch_string_empty laySearch a c x w
end Go.Proofs.YtcjbnifafofpbaaGreatDoor
/- Walks of the program's functions: odd, checkWord, CheckList. -/
namespace Go.Proofs.YtcjbnifafofpbaaGreatDoor
open Go.RowKit
def abcS : List UInt8 := [97, 98, 99, 100, 101, 102, 103, 104, 105, 106, 107, 108, 109, 110, 111, 112, 113, 114, 115, 116, 117, 118, 119, 120, 121, 122]
theorem abcS_letter (c : UInt8) : abcS.contains c = X.letter c := by
  have h : ∀ n : Fin 256, abcS.contains (UInt8.ofNat n) = X.letter (UInt8.ofNat n) := by decide +kernel
  have := h ⟨c.toNat, c.toNat_lt⟩
  simpa using this
theorem drop_nil {p : UInt8 → Bool} : ∀ {l : List UInt8}, l.dropWhile p = [] ↔ ∀ c ∈ l, p c = true
  | [] => by simp
  | a :: r => by
    rw [List.dropWhile_cons]
    cases h : p a with
    | true => simp [h, drop_nil (p := p) (l := r)]
    | false => simp [h]
theorem trim_letters (s : X.W) : Lib.trimS s abcS = [] ↔ X.letters s = true := by
  unfold Lib.trimS Lib.trimLeftS Lib.trimRightS X.letters
  rw [drop_nil, List.all_eq_true]
  constructor
  · intro h c hc
    by_cases hr : (List.dropWhile (fun x => abcS.contains x) s.reverse).reverse = []
    · rw [List.reverse_eq_nil_iff, drop_nil] at hr
      rw [← abcS_letter]; exact hr c (by simpa using hc)
    · obtain ⟨x, hx⟩ := List.exists_mem_of_ne_nil _ hr
      exfalso
      have hne : List.dropWhile (fun x => abcS.contains x) s.reverse ≠ [] := fun e => hr (by rw [e]; rfl)
      have h1 := List.head_dropWhile_not (fun x => abcS.contains x) hne
      have h2 := h _ (List.mem_reverse.2 (List.head_mem hne))
      rw [h2] at h1; cases h1
  · intro h c hc
    have : c ∈ s := by
      have h1 := List.mem_reverse.1 hc
      have := (List.dropWhile_suffix (fun x => abcS.contains x)).sublist.subset h1
      simpa using this
    rw [abcS_letter]; exact h c this
set_option maxRecDepth 20000 in
theorem odd_any (s : X.W) (w : World) (hs : s.length ≤ 140737488355328) : Calls Tryz.prog 61 #[sv s] w fun e w' => e = .returned (.bool (!X.letters s)) ∧ Below w.heap.size w w' := by
  have hT := lay_strings_Trim (bs s) ⟨abcS.toArray⟩ w (by rw [bs_size]; omega) (by decide) (ascii_of_all (by decide))
  have hE := trim_letters s
  have e1 : (bs s).data.toList = s := bs_list s
  rw [e1] at hT
  have e2 : (ByteArray.mk abcS.toArray).data.toList = abcS := by simp
  rw [e2] at hT
  cases hl : X.letters s with
  | true =>
    rw [hE.2 hl] at hT
    have HT := Lib.hid hT
    clear hT hE hl
    go_enter Tryz.func61, Tryz.ntmps61
    go_wp2_with fail
    refine HT.out.mono ?_
    rintro e w' ⟨rfl, hb⟩
    go_wp2_with fail
    go_ret
    exact ⟨rfl, hb⟩
  | false =>
    have hne : Lib.trimS s abcS ≠ [] := fun e => by rw [hE.1 e] at hl; cases hl
    generalize Lib.trimS s abcS = r at *
    have hb0 : r.isEmpty = false := by cases r; exact absurd rfl hne; rfl
    have HT := Lib.hid hT
    clear hT hE hl
    go_enter Tryz.func61, Tryz.ntmps61
    go_wp2_with fail
    refine HT.out.mono ?_
    rintro e w' ⟨rfl, hb⟩
    go_wp2_with fail
    go_ret
    exact ⟨rfl, hb⟩
theorem long_any (s : X.W) (w : World) (hs : s.length ≤ 140737488355328) : Calls Tryz.prog 63 #[sv s] w fun e w' => e = .returned (.bool (decide (10 < s.length))) ∧ w = w' := by
  by_cases h : 10 < s.length
  · have hI : (10 : Int) < (s.length : Int) := by omega
    rw [decide_eq_true h]
    go_enter Tryz.func63, Tryz.ntmps63
    go_wp2_with fail
    go_ret
    exact ⟨rfl, rfl⟩
  · have hI : ¬ (10 : Int) < (s.length : Int) := by omega
    rw [decide_eq_false h]
    go_enter Tryz.func63, Tryz.ntmps63
    go_wp2_with fail
    go_ret
    exact ⟨rfl, rfl⟩
/-- CheckList's own closure. -/
theorem noneF_any (s : X.W) (w : World) (hs : s.length ≤ 140737488355328) : Calls Tryz.prog 60 #[sv s] w fun e w' => e = .returned (.bool (s.isEmpty || !X.letters s)) ∧ Below w.heap.size w w' := by
  cases s with
  | nil =>
    go_enter Tryz.func60, Tryz.ntmps60
    go_wp2_with fail
    go_ret
    exact ⟨rfl, Below.refl _ _⟩
  | cons c r =>
    have HO := Lib.hid (odd_any (c :: r) w hs)
    have hb0 : (c :: r : X.W).isEmpty = false := rfl
    have hb1 : ((c :: r : X.W) == []) = false := rfl
    have hE : ((c :: r : X.W).isEmpty || !X.letters (c :: r)) = !X.letters (c :: r) := rfl
    rw [hE]
    clear hE
    generalize (c :: r : X.W) = s at *
    generalize (!X.letters s) = B at *
    go_enter Tryz.func60, Tryz.ntmps60
    go_wp2_with fail
    refine HO.out.mono ?_
    rintro e w' ⟨rfl, hb⟩
    go_wp2_with fail
    go_ret
    exact ⟨rfl, hb⟩
set_option maxRecDepth 20000 in
theorem checkWord_any (a : Option Addr) (cap : Nat) (l : List X.W) (w : World) (hl : l.length ≤ 1000000) (hr : Rooms l) (ha : Strs w a l) :
    Calls Tryz.prog 68 #[.slice a l.length cap] w fun e w' => e = .returned (.int .i64 (X.wordsE l)) ∧ Below w.heap.size w w' := by
  have HA := Lib.hid ha; have HR := Lib.hid hr; clear ha hr
  have HE : Hid (∀ j, j < l.length → X.wordsE (l.drop j) = if X.wordE (wat l j) = 0 then X.wordsE (l.drop (j + 1)) else X.wordE (wat l j)) := Lib.hid (fun j hj => by
    rw [List.drop_eq_getElem_cons hj, wat_eq l j hj]; rfl)
  go_enter Tryz.func68, Tryz.ntmps68
  go_wp2_with fail
  go_loopw [4, 7] (fun _ i wr => ∃ j : Nat, j ≤ l.length ∧ i = .int .i64 j ∧ Hid (X.wordsE (l.drop j) = X.wordsE l) ∧ Hid (Below w.heap.size w wr)) (fun _ i _ => l.length - (intOf i).toNat)
  case atStart => exact ⟨0, by omega, rfl, Lib.hid rfl, Lib.hid (Below.refl _ _)⟩
  case round =>
    obtain ⟨j, hj, rfl, HW, HB⟩ := hrel
    by_cases hlt : j < l.length
    · have hltI : (j : Int) < (l.length : Int) := by omega
      have HEj := Lib.hid (HE.out j hlt)
      have hs := HR.out _ (wat_mem hlt)
      obtain ⟨b, off, rfl, c1⟩ := (HA.out.below HB.out) j hlt
      have h1 := Lib.hid (fun W => long_any (wat l j) W hs)
      have h2 := Lib.hid (fun W => odd_any (wat l j) W hs)
      have HF : Hid (X.wordE (wat l j) = if decide (10 < (wat l j).length) = true then 7 else if (!X.letters (wat l j)) = true then 8 else 0) := Lib.hid (by
        unfold X.wordE; simp only [decide_eq_true_eq]; cases X.letters (wat l j) <;> simp)
      clear hs
      generalize wat l j = x at *
      generalize decide (10 < x.length) = B1 at *
      generalize (!X.letters x) = B2 at *
      cases B1 with
      | true =>
        have HG : Hid (X.wordsE l = 7) := Lib.hid (by rw [← HW.out, HEj.out, HF.out]; rfl)
        go_wp2_with fail
        refine (h1.out _).mono ?_
        rintro e w' ⟨rfl, rfl⟩
        go_wp2_with fail
        go_ret
        exact ⟨ret_int HG.out.symm, HB.out⟩
      | false =>
        cases B2 with
        | true =>
          have HG : Hid (X.wordsE l = 8) := Lib.hid (by rw [← HW.out, HEj.out, HF.out]; rfl)
          go_wp2_with fail
          refine (h1.out _).mono ?_
          rintro e w' ⟨rfl, rfl⟩
          go_wp2_with fail
          refine (h2.out _).mono ?_
          rintro e w' ⟨rfl, hb⟩
          go_wp2_with fail
          go_ret
          exact ⟨ret_int HG.out.symm, HB.out.trans (hb.mono HB.out.size)⟩
        | false =>
          have HG : Hid (X.wordsE (l.drop (j + 1)) = X.wordsE l) := Lib.hid (by rw [← HW.out, HEj.out, HF.out]; rfl)
          go_wp2_with fail
          refine (h1.out _).mono ?_
          rintro e w' ⟨rfl, rfl⟩
          go_wp2_with fail
          refine (h2.out _).mono ?_
          rintro e w' ⟨rfl, hb⟩
          have HB2 := Lib.hid (HB.out.trans (hb.mono HB.out.size))
          clear hb c1
          go_wp2_with fail
          go_roundw
          case rel => exact ⟨j + 1, by omega, by go_num, HG, HB2⟩
          case measure => simp [intOf]; omega
    · have HG : Hid (X.wordsE l = 0) := Lib.hid (by rw [← HW.out, List.drop_of_length_le (by omega)]; rfl)
      go_wp2_with fail
      go_ret
      exact ⟨ret_int HG.out.symm, HB.out⟩
theorem any_miss {p : X.W → Bool} {l : List X.W} (h : ∀ k, k < l.length → p (wat l k) = false) : l.any p = false := by
  rw [List.any_eq_false]; intro x hx
  obtain ⟨k, hk, rfl⟩ := List.getElem_of_mem hx
  have := h k hk
  rw [wat_eq l k hk] at this; simp [this]
/-! ### slices.IndexFunc, ContainsFunc of words -/
set_option maxHeartbeats 1000000 in
theorem indexStr_any (f : Nat) (cb : Array Value) (q : X.W → Bool) (b : Option Addr) (cap : Nat) (S : List X.W) (w : World) (hl : S.length ≤ 1000000) (hb : Strs w b S) (eg : ∀ args w, (callFunc f args).run Tryz.prog w = .ok (.enter f args) w)
    (hq : ∀ s W, s ∈ S → Below w.heap.size w W → Calls Tryz.prog f (#[sv s] ++ cb) W fun e w' => e = .returned (.bool (q s)) ∧ Below W.heap.size W w') :
    Calls Tryz.prog 96 #[.slice b S.length cap, .func (.func f) #[] cb] w fun e w' => ∃ x : Int, e = .returned (.int .i64 x) ∧ decide (0 ≤ x) = S.any q ∧ Below w.heap.size w w' := by
  have HA := Lib.hid hb; clear hb
  have HQ := Lib.hid hq; clear hq
  go_enter Tryz.func96, Tryz.ntmps96
  go_wp2_with fail
  go_loopw [5, 8] (fun _ i wr => ∃ j : Nat, j ≤ S.length ∧ i = .int .i64 j ∧ Hid (∀ k, k < j → q (wat S k) = false) ∧ Hid (Below w.heap.size w wr)) (fun _ i _ => S.length - (intOf i).toNat)
  case atStart => exact ⟨0, by omega, rfl, Lib.hid (fun k hk => by omega), Lib.hid (Below.refl _ _)⟩
  case round =>
    obtain ⟨j, hj, rfl, hr, HB⟩ := hrel
    by_cases hlt : j < S.length
    · obtain ⟨b1, off1, rfl, c1⟩ := (HA.out.below HB.out) j hlt
      have HC := HQ.out (wat S j) wr (wat_mem hlt) HB.out
      cases hqj : q (wat S j) with
      | true =>
        have HE : Hid (decide ((0 : Int) ≤ (j : Int)) = S.any q) := Lib.hid (by
          rw [any_hit hlt hqj, decide_eq_true_eq]; omega)
        rw [hqj] at HC
        have HC := Lib.hid HC
        clear hqj
        go_wp2_with fail
        refine HC.out.mono ?_
        rintro e w' ⟨rfl, hb⟩
        go_wp2_with fail
        go_ret
        exact ⟨_, rfl, HE.out, HB.out.trans (hb.mono HB.out.size)⟩
      | false =>
        have HE : Hid (∀ k, k < j + 1 → q (wat S k) = false) := Lib.hid (fun k hk => by
          by_cases e : k = j
          · rw [e]; exact hqj
          · exact hr.out k (by omega))
        rw [hqj] at HC
        have HC := Lib.hid HC
        clear hqj
        go_wp2_with fail
        refine HC.out.mono ?_
        rintro e w' ⟨rfl, hb⟩
        have HB2 := Lib.hid (HB.out.trans (hb.mono HB.out.size))
        clear hb
        go_wp2_with fail
        go_roundw
        case rel => exact ⟨j + 1, by omega, by go_num, HE, HB2⟩
        case measure => simp [intOf]; omega
    · have HE : Hid (decide ((0 : Int) ≤ -1) = S.any q) := Lib.hid (by
        rw [any_miss (fun k hk => hr.out k (by omega))]; rfl)
      go_wp2_with fail
      go_ret
      exact ⟨-1, rfl, HE.out, HB.out⟩
set_option maxHeartbeats 400000 in
theorem containsFStr_any (f : Nat) (cb : Array Value) (q : X.W → Bool) (b : Option Addr) (cap : Nat) (S : List X.W) (w : World) (hl : S.length ≤ 1000000) (hb : Strs w b S) (eg : ∀ args w, (callFunc f args).run Tryz.prog w = .ok (.enter f args) w)
    (hq : ∀ s W, s ∈ S → Below w.heap.size w W → Calls Tryz.prog f (#[sv s] ++ cb) W fun e w' => e = .returned (.bool (q s)) ∧ Below W.heap.size W w') :
    Calls Tryz.prog 62 #[.slice b S.length cap, .func (.func f) #[] cb] w fun e w' => e = .returned (.bool (S.any q)) ∧ Below w.heap.size w w' := by
  have HC := Lib.hid (indexStr_any f cb q b cap S w hl hb eg hq)
  clear hb hq
  go_enter Tryz.func62, Tryz.ntmps62
  go_wp2_with fail
  refine HC.out.mono ?_
  rintro e w' ⟨x, rfl, hx, hb⟩
  have HX := Lib.hid hx
  clear hx
  go_wp2_with fail
  go_ret
  exact ⟨ret_bool (by rw [← HX.out]), hb⟩
attribute [local go_sem] binOp_string_geq bytesLess_lt
set_option maxRecDepth 20000 in
set_option maxHeartbeats 1000000 in
theorem checkListP_any (a : Option Addr) (cap : Nat) (l : List X.W) (w : World) (hl : l.length ≤ 1000000) (hr : Rooms l) (ha : Strs w a l) :
    Calls Tryz.prog 20 #[.slice a l.length cap] w fun e w' => e = .returned (.int .i64 (X.listE l)) ∧ Below w.heap.size w w' := by
  have eg1 : ∀ args w, (callFunc 63 args).run Tryz.prog w = .ok (.enter 63 args) w := enters_of Tryz.func63 (by kernel_rfl) rfl
  have eg2 : ∀ args w, (callFunc 60 args).run Tryz.prog w = .ok (.enter 60 args) w := enters_of Tryz.func60 (by kernel_rfl) rfl
  have H1 := Lib.hid (containsFStr_any 63 #[] (fun s => decide (10 < s.length)) a cap l w hl ha eg1 (fun s W hs _ => (long_any s W (hr s hs)).mono fun _ _ ⟨h1, h2⟩ => ⟨h1, by rw [← h2]; exact Below.refl _ _⟩))
  have H2 := Lib.hid (fun W (hW : Below w.heap.size w W) => containsFStr_any 60 #[] (fun s => s.isEmpty || !X.letters s) a cap l W hl (ha.below hW) eg2 (fun s W' hs _ => noneF_any s W' (hr s hs)))
  have HA := Lib.hid ha; have HR := Lib.hid hr; clear ha hr eg1 eg2
  have HF0 : Hid (X.listE l = if 30 < l.length then 6 else if l.any (fun s => decide (10 < s.length)) = true then 7 else if l.any (fun s => s.isEmpty || !X.letters s) = true then 8 else if X.risesB l = true then 0 else 16) := Lib.hid rfl
  generalize l.any (fun s => decide (10 < s.length)) = B1 at *
  generalize l.any (fun s => s.isEmpty || !X.letters s) = B2 at *
  by_cases h30 : 30 < l.length
  · have HF : Hid (X.listE l = 6) := Lib.hid (by rw [HF0.out, if_pos h30])
    have hI : (30 : Int) < (l.length : Int) := by omega
    go_enter Tryz.func20, Tryz.ntmps20
    go_wp2_with fail
    go_ret
    exact ⟨ret_int HF.out.symm, Below.refl _ _⟩
  · rw [if_neg h30] at HF0
    have hI : ¬ (30 : Int) < (l.length : Int) := by omega
    cases B1 with
    | true =>
      have HF : Hid (X.listE l = 7) := Lib.hid HF0.out
      go_enter Tryz.func20, Tryz.ntmps20
      go_wp2_with fail
      refine H1.out.mono ?_
      rintro e w1 ⟨rfl, hb1⟩
      go_wp2_with fail
      go_ret
      exact ⟨ret_int HF.out.symm, hb1⟩
    | false =>
      cases B2 with
      | true =>
        have HF : Hid (X.listE l = 8) := Lib.hid HF0.out
        go_enter Tryz.func20, Tryz.ntmps20
        go_wp2_with fail
        refine H1.out.mono ?_
        rintro e w1 ⟨rfl, hb1⟩
        have HB1 := Lib.hid hb1
        clear hb1
        go_wp2_with fail
        refine (H2.out w1 HB1.out).mono ?_
        rintro e w2 ⟨rfl, hb2⟩
        go_wp2_with fail
        go_ret
        exact ⟨ret_int HF.out.symm, HB1.out.trans (hb2.mono HB1.out.size)⟩
      | false =>
        have HF2 : Hid (X.listE l = if X.risesB l = true then 0 else 16) := Lib.hid HF0.out
        go_enter Tryz.func20, Tryz.ntmps20
        go_wp2_with fail
        refine H1.out.mono ?_
        rintro e w1 ⟨rfl, hb1⟩
        have HB1 := Lib.hid hb1
        clear hb1
        go_wp2_with fail
        refine (H2.out w1 HB1.out).mono ?_
        rintro e w2 ⟨rfl, hb2⟩
        have HB2 := Lib.hid (HB1.out.trans (hb2.mono HB1.out.size))
        have HA2 := Lib.hid (HA.out.below HB2.out)
        clear hb2 HB1 H1 H2 HF0 HA
        go_wp2_with fail
        go_loop [4, 5, 19] (fun _ _ i => ∃ j : Nat, j ≤ l.length ∧ i = .int .i64 j ∧ Hid (∀ k, k + 1 < j → k + 1 < l.length → X.lt (wat l k) (wat l (k + 1)) = true)) (fun _ _ i => l.length - (intOf i).toNat)
        case atStart => exact ⟨0, by omega, rfl, Lib.hid (fun k h => by omega)⟩
        case round =>
          obtain ⟨j, hj, rfl, HL⟩ := hrel
          by_cases hlt : j < l.length
          · have hltI : (j : Int) < (l.length : Int) := by omega
            obtain ⟨b, off, rfl, c1⟩ := HA2.out j hlt
            cases j with
            | zero =>
              rw [Nat.add_zero] at c1
              have h00 : ((0 : Nat) : Int) = 0 := rfl
              go_wp2_with fail
              go_round
              case rel => exact ⟨1, by omega, by go_num, Lib.hid (fun k h => by omega)⟩
              case measure => simp [intOf]; omega
            | succ i =>
              have hi0 : (0 : Int) ≤ (i : Int) := by omega
              have hiI : (i : Int) < (l.length : Int) := by omega
              have hj0 : (0 : Int) < ((i + 1 : Nat) : Int) := by omega
              have kw : IntKind.i64.wrap (((i + 1 : Nat) : Int) - 1) = (i : Int) := by rw [IntWalk.i64_in _ (by omega)]; omega
              have c2 := HA2.out.cellAt i (by omega)
              have HN : Hid (∀ v, X.lt (wat l i) (wat l (i + 1)) = v → (v = false → X.risesB l = false) ∧ (v = true → ∀ k, k + 1 < i + 1 + 1 → k + 1 < l.length → X.lt (wat l k) (wat l (k + 1)) = true)) := Lib.hid (by
                intro v hv
                constructor
                · intro e
                  cases hrb : X.risesB l with
                  | false => rfl
                  | true => have h2 := rises_wat.1 hrb i hlt; rw [hv, e] at h2; cases h2
                · intro e k hk hkl
                  by_cases hki : k = i
                  · subst hki; rw [hv, e]
                  · exact HL.out k (by omega) hkl)
              have ht1 := bs_tl (wat l (i + 1))
              have ht2 := bs_tl (wat l i)
              cases hv : X.lt (wat l i) (wat l (i + 1)) with
              | true =>
                have HN2 := Lib.hid ((HN.out _ hv).2 rfl)
                have hv' := hv
                clear HN hv
                generalize wat l i = x at *
                generalize wat l (i + 1) = y at *
                go_wp2_with fail
                go_round
                case rel => exact ⟨i + 1 + 1, by omega, by go_num, HN2⟩
                case measure => simp [intOf]; omega
              | false =>
                have HF : Hid (X.listE l = 16) := Lib.hid (by rw [HF2.out, (HN.out _ hv).1 rfl]; rfl)
                have hv' := hv
                clear HN hv
                generalize wat l i = x at *
                generalize wat l (i + 1) = y at *
                go_wp2_with fail
                go_ret
                exact ⟨ret_int HF.out.symm, HB2.out⟩
          · have HF : Hid (X.listE l = 0) := Lib.hid (by rw [HF2.out, rises_wat.2 (fun k hk => HL.out k (by omega) hk)]; rfl)
            have hltI : ¬ (j : Int) < (l.length : Int) := by omega
            go_wp2_with fail
            go_ret
            exact ⟨ret_int HF.out.symm, HB2.out⟩
end Go.Proofs.YtcjbnifafofpbaaGreatDoor
/- Walks of the program's functions: rising, CheckStates. -/
namespace Go.Proofs.YtcjbnifafofpbaaGreatDoor
open Go.RowKit
set_option maxRecDepth 20000 in
theorem rising_any (l : X.W) (w : World) (hl : l.length ≤ 140737488355328) : Calls Tryz.prog 74 #[sv l] w fun e w' => e = .returned (.bool (X.upB l)) ∧ Below w.heap.size w w' := by
  go_enter Tryz.func74, Tryz.ntmps74
  go_wp2_with fail
  go_loopw [3] (fun i wr => ∃ j : Nat, (j ≤ l.length ∨ j = 1) ∧ 1 ≤ j ∧ i = .int .i64 j ∧ Hid (∀ k, k + 1 < j → k + 1 < l.length → (wc l k).toNat < (wc l (k + 1)).toNat) ∧ Hid (Drew w wr)) (fun i _ => l.length + 1 - (intOf i).toNat)
  case atStart => exact ⟨1, .inr rfl, by omega, rfl, Lib.hid (fun k h => by omega), Lib.hid (Drew.refl _)⟩
  case round =>
    obtain ⟨j, hj, hj1, rfl, HL, HD⟩ := hrel
    by_cases hlt : j < l.length
    · have hltI : (j : Int) < (l.length : Int) := by omega
      obtain ⟨i, rfl⟩ : ∃ i, j = i + 1 := ⟨j - 1, by omega⟩
      have hi0 : (0 : Int) ≤ (i : Int) := by omega
      have hiI : (i : Int) < (l.length : Int) := by omega
      have hiN : i < l.length := by omega
      have hj0 : (0 : Int) ≤ ((i + 1 : Nat) : Int) := by omega
      have kw : IntKind.i64.wrap (((i + 1 : Nat) : Int) - 1) = (i : Int) := by rw [IntWalk.i64_in _ (by omega)]; omega
      have e1 := bs_at l i (by rw [bs_size]; omega)
      have e2 := bs_at l (i + 1) (by rw [bs_size]; omega)
      have HN : Hid (((wc l i).toNat < (wc l (i + 1)).toNat → ∀ k, k + 1 < i + 1 + 1 → k + 1 < l.length → (wc l k).toNat < (wc l (k + 1)).toNat) ∧ (¬ (wc l i).toNat < (wc l (i + 1)).toNat → X.upB l = false)) := Lib.hid ⟨fun h k hk hkl => by
          by_cases hki : k = i
          · subst hki; exact h
          · exact HL.out k (by omega) hkl, fun h => by
          cases hu : X.upB l with
          | false => rfl
          | true => exact absurd (up_wc.1 hu i hlt) h⟩
      generalize wc l i = x at *
      generalize wc l (i + 1) = y at *
      by_cases hxy : x.toNat < y.toNat
      · have HN2 := Lib.hid (HN.out.1 hxy)
        have hxI : ¬ (y.toNat : Int) ≤ (x.toNat : Int) := by omega
        clear HN HL
        go_wp2_with fail
        go_quiet (fail)
        go_wp2_with fail
        go_roundw
        case rel => exact ⟨i + 1 + 1, .inl (by omega), by omega, by go_num, HN2, Lib.hid (HD.out.drewN _)⟩
        case measure => simp [intOf]; omega
      · have HF := Lib.hid (HN.out.2 hxy)
        have hxI : (y.toNat : Int) ≤ (x.toNat : Int) := by omega
        clear HN HL
        go_wp2_with fail
        go_quiet (fail)
        go_wp2_with fail
        go_ret
        exact ⟨ret_bool HF.out.symm, (HD.out.drewN _).below _⟩
    · have HF : Hid (X.upB l = true) := Lib.hid (up_wc.2 (fun k hk => HL.out k (by omega) hk))
      have hltI : ¬ (j : Int) < (l.length : Int) := by omega
      go_wp2_with fail
      go_ret
      exact ⟨ret_bool HF.out.symm, HD.out.below _⟩
/-- A state, as a value. -/
abbrev stV (x : X.St) (a2 : Option Addr) (cap2 : Nat) : Value := .agg #[.int .i64 x.ends, sv x.letters, .slice a2 x.next.length cap2]
set_option maxRecDepth 20000 in
theorem endsF_any (x : X.St) (a2 : Option Addr) (cap2 : Nat) (w : World) : Calls Tryz.prog 71 #[stV x a2 cap2] w fun e w' => e = .returned (.bool (decide (x.ends ≠ 0) && decide (x.ends ≠ 1))) ∧ Below w.heap.size w w' := by
  obtain ⟨e, A, N⟩ := x
  have HE : (decide (e ≠ 0) && decide (e ≠ 1)) = !decide ((0 : Int) ≤ e ∧ e ≤ 1) := by
    rw [Bool.eq_iff_iff, Bool.and_eq_true, decide_eq_true_iff, decide_eq_true_iff, Bool.not_eq_true', decide_eq_false_iff_not]; omega
  have d1 := within_one 0 1 e ((w.alloc (.cells #[.int .i64 e, sv A, .slice a2 N.length cap2] 58)).alloc (.cells #[.int .i64 e] 3)) (w.heap.size + 1) (by have := cell_new1 (w.alloc (.cells #[.int .i64 e, sv A, .slice a2 N.length cap2] 58)) (.int .i64 e) 3; simpa only [World.size_alloc] using this)
  have HB0 := Lib.hid ((Below.new w (.cells #[.int .i64 e, sv A, .slice a2 N.length cap2] 58)).alloc (by simp) (.cells #[.int .i64 e] 3))
  show Calls Tryz.prog 71 #[.agg #[.int .i64 e, sv A, .slice a2 N.length cap2]] w fun e_1 w' => e_1 = .returned (.bool (decide (e ≠ 0) && decide (e ≠ 1))) ∧ Below w.heap.size w w'
  rw [HE]
  generalize decide ((0 : Int) ≤ e ∧ e ≤ 1) = B at *
  have D1 := Lib.hid d1
  clear d1 HE
  go_enter Tryz.func71, Tryz.ntmps71
  go_wp2_with fail
  refine D1.out.mono ?_
  rintro e w1 ⟨rfl, hb1⟩
  go_wp2_with fail
  go_ret
  exact ⟨rfl, HB0.out.trans (hb1.mono HB0.out.size)⟩
set_option maxRecDepth 20000 in
theorem unevenF_any (x : X.St) (a2 : Option Addr) (cap2 : Nat) (w : World) (h1 : x.letters.length ≤ 1000000) (h2 : x.next.length ≤ 1000000) : Calls Tryz.prog 72 #[stV x a2 cap2] w fun e w' => e = .returned (.bool (decide (x.letters.length ≠ x.next.length))) ∧ Below w.heap.size w w' := by
  obtain ⟨e, A, N⟩ := x
  have HB0 := Lib.hid (Below.new w (.cells #[.int .i64 e, sv A, .slice a2 N.length cap2] 58))
  show Calls Tryz.prog 72 #[.agg #[.int .i64 e, sv A, .slice a2 N.length cap2]] w fun e_1 w' => e_1 = .returned (.bool (decide (A.length ≠ N.length))) ∧ Below w.heap.size w w'
  have HE : Hid (((A.length : Int) != (N.length : Int)) = !decide (A.length = N.length)) := Lib.hid (by
    rw [Bool.eq_iff_iff, bne_iff_ne, Bool.not_eq_true', decide_eq_false_iff_not]; omega)
  go_enter Tryz.func72, Tryz.ntmps72
  go_wp2_with fail
  go_ret
  exact ⟨ret_bool (by first | exact HE.out | (simp [HE.out])), HB0.out⟩
set_option maxRecDepth 20000 in
theorem strangeF_any (x : X.St) (a2 : Option Addr) (cap2 : Nat) (w : World) (h1 : x.letters.length ≤ 1000000) : Calls Tryz.prog 73 #[stV x a2 cap2] w fun e w' => e = .returned (.bool (!X.letters x.letters || !X.upB x.letters)) ∧ Below w.heap.size w w' := by
  obtain ⟨e, A, N⟩ := x
  have HB0 := Lib.hid (Below.new w (.cells #[.int .i64 e, sv A, .slice a2 N.length cap2] 58))
  have HC0 := Lib.hid (Cells.new w #[.int .i64 e, sv A, .slice a2 N.length cap2] 58)
  show Calls Tryz.prog 73 #[.agg #[.int .i64 e, sv A, .slice a2 N.length cap2]] w fun e_1 w' => e_1 = .returned (.bool (!X.letters A || !X.upB A)) ∧ Below w.heap.size w w'
  have hA : A.length ≤ 140737488355328 := by have : A.length ≤ 1000000 := h1; omega
  have HO := Lib.hid (odd_any A (w.alloc (.cells #[.int .i64 e, sv A, .slice a2 N.length cap2] 58)) hA)
  have HR := Lib.hid (fun W => rising_any A W hA)
  generalize X.letters A = B1 at *
  generalize X.upB A = B2 at *
  clear hA
  cases B1 with
  | false =>
    go_enter Tryz.func73, Tryz.ntmps73
    go_wp2_with fail
    refine HO.out.mono ?_
    rintro e w1 ⟨rfl, hb1⟩
    go_wp2_with fail
    go_ret
    exact ⟨rfl, HB0.out.trans (hb1.mono HB0.out.size)⟩
  | true =>
    go_enter Tryz.func73, Tryz.ntmps73
    go_wp2_with fail
    refine HO.out.mono ?_
    rintro e w1 ⟨rfl, hb1⟩
    have x1 := (HC0.out.on hb1).cel 1 _ rfl
    have HB1 := Lib.hid (HB0.out.trans (hb1.mono HB0.out.size))
    clear hb1
    go_wp2_with fail
    refine (HR.out w1).mono ?_
    rintro e w2 ⟨rfl, hb2⟩
    go_wp2_with fail
    go_ret
    exact ⟨rfl, HB1.out.trans (hb2.mono HB1.out.size)⟩
set_option maxHeartbeats 1000000 in
theorem indexSt_any (f : Nat) (cb : Array Value) (q : X.St → Bool) (b : Option Addr) (cap : Nat) (S : List X.St) (w : World) (hl : S.length ≤ 1000000) (hb : Sts w b S) (eg : ∀ args w, (callFunc f args).run Tryz.prog w = .ok (.enter f args) w)
    (hq : ∀ s a2 cap2 W, s ∈ S → Below w.heap.size w W → Calls Tryz.prog f (#[stV s a2 cap2] ++ cb) W fun e w' => e = .returned (.bool (q s)) ∧ Below W.heap.size W w') :
    Calls Tryz.prog 102 #[.slice b S.length cap, .func (.func f) #[] cb] w fun e w' => ∃ x : Int, e = .returned (.int .i64 x) ∧ decide (0 ≤ x) = S.any q ∧ Below w.heap.size w w' := by
  have HA := Lib.hid hb; clear hb
  have HQ := Lib.hid hq; clear hq
  go_enter Tryz.func102, Tryz.ntmps102
  go_wp2_with fail
  go_loopw [5, 8] (fun _ i wr => ∃ j : Nat, j ≤ S.length ∧ i = .int .i64 j ∧ Hid (∀ k, k < j → q (X.at_ S k) = false) ∧ Hid (Below w.heap.size w wr)) (fun _ i _ => S.length - (intOf i).toNat)
  case atStart => exact ⟨0, by omega, rfl, Lib.hid (fun k hk => by omega), Lib.hid (Below.refl _ _)⟩
  case round =>
    obtain ⟨j, hj, rfl, hr, HB⟩ := hrel
    by_cases hlt : j < S.length
    · obtain ⟨b1, off1, rfl, c1, c2, a2, cap2, c3, -⟩ := (HA.out.below HB.out) j hlt
      have HC := HQ.out (X.at_ S j) a2 cap2 wr (X.at_mem hlt) HB.out
      cases hqj : q (X.at_ S j) with
      | true =>
        have HE : Hid (decide ((0 : Int) ≤ (j : Int)) = S.any q) := Lib.hid (by
          rw [anyS_hit hlt hqj, decide_eq_true_eq]; omega)
        rw [hqj] at HC
        have HC := Lib.hid HC
        clear hqj
        go_wp2_with fail
        refine HC.out.mono ?_
        rintro e w' ⟨rfl, hb⟩
        go_wp2_with fail
        go_ret
        exact ⟨_, rfl, HE.out, HB.out.trans (hb.mono HB.out.size)⟩
      | false =>
        have HE : Hid (∀ k, k < j + 1 → q (X.at_ S k) = false) := Lib.hid (fun k hk => by
          by_cases e : k = j
          · rw [e]; exact hqj
          · exact hr.out k (by omega))
        rw [hqj] at HC
        have HC := Lib.hid HC
        clear hqj
        go_wp2_with fail
        refine HC.out.mono ?_
        rintro e w' ⟨rfl, hb⟩
        have HB2 := Lib.hid (HB.out.trans (hb.mono HB.out.size))
        clear hb
        go_wp2_with fail
        go_roundw
        case rel => exact ⟨j + 1, by omega, by go_num, HE, HB2⟩
        case measure => simp [intOf]; omega
    · have HE : Hid (decide ((0 : Int) ≤ -1) = S.any q) := Lib.hid (by
        have : S.any q = false := by
          rw [List.any_eq_false]; intro x hx
          obtain ⟨k, hk, rfl⟩ := List.getElem_of_mem hx
          have := hr.out k (by omega)
          rw [at_eq S k hk] at this; simp [this]
        rw [this]; rfl)
      go_wp2_with fail
      go_ret
      exact ⟨-1, rfl, HE.out, HB.out⟩
set_option maxHeartbeats 400000 in
theorem containsFSt_any (f : Nat) (cb : Array Value) (q : X.St → Bool) (b : Option Addr) (cap : Nat) (S : List X.St) (w : World) (hl : S.length ≤ 1000000) (hb : Sts w b S) (eg : ∀ args w, (callFunc f args).run Tryz.prog w = .ok (.enter f args) w)
    (hq : ∀ s a2 cap2 W, s ∈ S → Below w.heap.size w W → Calls Tryz.prog f (#[stV s a2 cap2] ++ cb) W fun e w' => e = .returned (.bool (q s)) ∧ Below W.heap.size W w') :
    Calls Tryz.prog 75 #[.slice b S.length cap, .func (.func f) #[] cb] w fun e w' => e = .returned (.bool (S.any q)) ∧ Below w.heap.size w w' := by
  have HC := Lib.hid (indexSt_any f cb q b cap S w hl hb eg hq)
  clear hb hq
  go_enter Tryz.func75, Tryz.ntmps75
  go_wp2_with fail
  refine HC.out.mono ?_
  rintro e w' ⟨x, rfl, hx, hb⟩
  have HX := Lib.hid hx
  clear hx
  go_wp2_with fail
  go_ret
  exact ⟨ret_bool (by rw [← HX.out]), hb⟩
/-- Letters and ways of all states are few. -/
def Few (s : List X.St) : Prop := ∀ x ∈ s, x.letters.length ≤ 1000000 ∧ x.next.length ≤ 1000000
theorem within_inB (n i : Nat) (l : List Int) : withinB ((i : Int) + 1) ((n : Int) - 1) l = X.inB n i l := by
  unfold withinB X.inB
  congr 1
  funext k
  rw [Bool.eq_iff_iff, Bool.and_eq_true, decide_eq_true_iff, decide_eq_true_iff, decide_eq_true_iff]; omega
set_option maxRecDepth 20000 in
set_option maxHeartbeats 2000000 in
theorem checkStatesP_any (a : Option Addr) (cap : Nat) (s : List X.St) (w : World) (hl : s.length ≤ 1000000) (hf : Few s) (ha : Sts w a s) :
    Calls Tryz.prog 30 #[.slice a s.length cap] w fun e w' => e = .returned (.int .i64 (X.statesE s)) ∧ Below w.heap.size w w' := by
  have eg1 : ∀ args w, (callFunc 71 args).run Tryz.prog w = .ok (.enter 71 args) w := enters_of Tryz.func71 (by kernel_rfl) rfl
  have eg2 : ∀ args w, (callFunc 72 args).run Tryz.prog w = .ok (.enter 72 args) w := enters_of Tryz.func72 (by kernel_rfl) rfl
  have eg3 : ∀ args w, (callFunc 73 args).run Tryz.prog w = .ok (.enter 73 args) w := enters_of Tryz.func73 (by kernel_rfl) rfl
  have d0 := within_one 1 301 (s.length : Int) (w.alloc (.cells #[.int .i64 (s.length : Int)] 3)) w.heap.size (cell_new1 _ _ _)
  have HB0 := Lib.hid (Below.new w (.cells #[.int .i64 (s.length : Int)] 3))
  have H1 := Lib.hid (fun W (hW : Below w.heap.size w W) => containsFSt_any 71 #[] (fun x => decide (x.ends ≠ 0) && decide (x.ends ≠ 1)) a cap s W hl (ha.below hW) eg1 (fun x a2 c2 W' _ _ => endsF_any x a2 c2 W'))
  have H2 := Lib.hid (fun W (hW : Below w.heap.size w W) => containsFSt_any 72 #[] (fun x => decide (x.letters.length ≠ x.next.length)) a cap s W hl (ha.below hW) eg2 (fun x a2 c2 W' hx _ => unevenF_any x a2 c2 W' (hf x hx).1 (hf x hx).2))
  have H3 := Lib.hid (fun W (hW : Below w.heap.size w W) => containsFSt_any 73 #[] (fun x => !X.letters x.letters || !X.upB x.letters) a cap s W hl (ha.below hW) eg3 (fun x a2 c2 W' hx _ => strangeF_any x a2 c2 W' (hf x hx).1))
  have HA := Lib.hid ha; have HR := Lib.hid hf; clear ha hf eg1 eg2 eg3
  have HF0 : Hid (X.statesE s = if ¬ ((1 : Int) ≤ (s.length : Int) ∧ (s.length : Int) ≤ 301) then 6 else if s.any (fun x => decide (x.ends ≠ 0) && decide (x.ends ≠ 1)) = true then 2 else if s.any (fun x => decide (x.letters.length ≠ x.next.length)) = true then 15 else if s.any (fun x => !X.letters x.letters || !X.upB x.letters) = true then 8 else if (List.range s.length).all (fun i => X.inB s.length i (X.at_ s i).next) = true then 0 else 3) := Lib.hid (by
    unfold X.statesE
    by_cases h : s.length < 1 ∨ 301 < s.length
    · rw [if_pos h, if_pos (by omega)]
    · rw [if_neg h, if_neg (not_not_intro (by omega))])
  generalize s.any (fun x => decide (x.ends ≠ 0) && decide (x.ends ≠ 1)) = B1 at *
  generalize s.any (fun x => decide (x.letters.length ≠ x.next.length)) = B2 at *
  generalize s.any (fun x => !X.letters x.letters || !X.upB x.letters) = B3 at *
  by_cases h0 : (1 : Int) ≤ (s.length : Int) ∧ (s.length : Int) ≤ 301
  case neg =>
    have HF : Hid (X.statesE s = 6) := Lib.hid (by rw [HF0.out, if_pos h0])
    rw [decide_eq_false h0] at d0
    have D0 := Lib.hid d0
    clear d0 h0
    go_enter Tryz.func30, Tryz.ntmps30
    go_wp2_with fail
    refine D0.out.mono ?_
    rintro e w1 ⟨rfl, hb1⟩
    go_wp2_with fail
    go_ret
    exact ⟨ret_int HF.out.symm, HB0.out.trans (hb1.mono HB0.out.size)⟩
  rw [decide_eq_true h0] at d0
  rw [if_neg (not_not_intro h0)] at HF0
  have D0 := Lib.hid d0
  clear d0
  cases B1 with
  | true =>
    have HF : Hid (X.statesE s = 2) := Lib.hid HF0.out
    clear h0
    go_enter Tryz.func30, Tryz.ntmps30
    go_wp2_with fail
    refine D0.out.mono ?_
    rintro e w1 ⟨rfl, hb1⟩
    have HB1 := Lib.hid (HB0.out.trans (hb1.mono HB0.out.size))
    clear hb1
    go_wp2_with fail
    refine (H1.out w1 HB1.out).mono ?_
    rintro e w2 ⟨rfl, hb2⟩
    go_wp2_with fail
    go_ret
    exact ⟨ret_int HF.out.symm, HB1.out.trans (hb2.mono HB1.out.size)⟩
  | false =>
  cases B2 with
  | true =>
    have HF : Hid (X.statesE s = 15) := Lib.hid HF0.out
    clear h0
    go_enter Tryz.func30, Tryz.ntmps30
    go_wp2_with fail
    refine D0.out.mono ?_
    rintro e w1 ⟨rfl, hb1⟩
    have HB1 := Lib.hid (HB0.out.trans (hb1.mono HB0.out.size))
    clear hb1
    go_wp2_with fail
    refine (H1.out w1 HB1.out).mono ?_
    rintro e w2 ⟨rfl, hb2⟩
    have HB2 := Lib.hid (HB1.out.trans (hb2.mono HB1.out.size))
    clear hb2
    go_wp2_with fail
    refine (H2.out w2 HB2.out).mono ?_
    rintro e w3 ⟨rfl, hb3⟩
    go_wp2_with fail
    go_ret
    exact ⟨ret_int HF.out.symm, HB2.out.trans (hb3.mono HB2.out.size)⟩
  | false =>
  cases B3 with
  | true =>
    have HF : Hid (X.statesE s = 8) := Lib.hid HF0.out
    clear h0
    go_enter Tryz.func30, Tryz.ntmps30
    go_wp2_with fail
    refine D0.out.mono ?_
    rintro e w1 ⟨rfl, hb1⟩
    have HB1 := Lib.hid (HB0.out.trans (hb1.mono HB0.out.size))
    clear hb1
    go_wp2_with fail
    refine (H1.out w1 HB1.out).mono ?_
    rintro e w2 ⟨rfl, hb2⟩
    have HB2 := Lib.hid (HB1.out.trans (hb2.mono HB1.out.size))
    clear hb2
    go_wp2_with fail
    refine (H2.out w2 HB2.out).mono ?_
    rintro e w3 ⟨rfl, hb3⟩
    have HB3 := Lib.hid (HB2.out.trans (hb3.mono HB2.out.size))
    clear hb3
    go_wp2_with fail
    refine (H3.out w3 HB3.out).mono ?_
    rintro e w4 ⟨rfl, hb4⟩
    go_wp2_with fail
    go_ret
    exact ⟨ret_int HF.out.symm, HB3.out.trans (hb4.mono HB3.out.size)⟩
  | false =>
    have HF3 : Hid (X.statesE s = if (List.range s.length).all (fun i => X.inB s.length i (X.at_ s i).next) = true then 0 else 3) := Lib.hid HF0.out
    go_enter Tryz.func30, Tryz.ntmps30
    go_wp2_with fail
    refine D0.out.mono ?_
    rintro e w1 ⟨rfl, hb1⟩
    have HB1 := Lib.hid (HB0.out.trans (hb1.mono HB0.out.size))
    clear hb1
    go_wp2_with fail
    refine (H1.out w1 HB1.out).mono ?_
    rintro e w2 ⟨rfl, hb2⟩
    have HB2 := Lib.hid (HB1.out.trans (hb2.mono HB1.out.size))
    clear hb2
    go_wp2_with fail
    refine (H2.out w2 HB2.out).mono ?_
    rintro e w3 ⟨rfl, hb3⟩
    have HB3 := Lib.hid (HB2.out.trans (hb3.mono HB2.out.size))
    clear hb3
    go_wp2_with fail
    refine (H3.out w3 HB3.out).mono ?_
    rintro e w4 ⟨rfl, hb4⟩
    have HB4 := Lib.hid (HB3.out.trans (hb4.mono HB3.out.size))
    clear hb4 HB0 HB1 HB2 HB3 H1 H2 H3 D0 HF0
    go_wp2_with fail
    go_loopw [6, 7, 28] (fun _ _ i wr => ∃ j : Nat, j ≤ s.length ∧ i = .int .i64 j ∧ Hid (∀ i', i' < j → X.inB s.length i' (X.at_ s i').next = true) ∧ Hid (Below w.heap.size w wr)) (fun _ _ i _ => s.length - (intOf i).toNat)
    case atStart => exact ⟨0, by omega, rfl, Lib.hid (fun q h => by omega), HB4⟩
    case round =>
      clear HB4
      obtain ⟨j, hj, rfl, HL, HB⟩ := hrel
      by_cases hlt : j < s.length
      · have hltI : (j : Int) < (s.length : Int) := by omega
        have hj0 : (0 : Int) ≤ (j : Int) := by omega
        have hstr := HA.out.below HB.out
        obtain ⟨b, off, rfl, c1, c2, a2, cap2, c3, hi3⟩ := hstr j hlt
        have hrn := (HR.out _ (X.at_mem hlt)).2
        have HNo : Hid (X.inB s.length j (X.at_ s j).next = false → X.statesE s = 3) := Lib.hid (fun h => by
          rw [HF3.out, if_neg]
          rw [List.all_eq_true]
          intro hall
          have := hall j (List.mem_range.2 hlt)
          rw [h] at this; cases this)
        have HYes : Hid (X.inB s.length j (X.at_ s j).next = true → ∀ i', i' < j + 1 → X.inB s.length i' (X.at_ s i').next = true) := Lib.hid (fun h q hq => by
          by_cases e : q = j
          · subst e; exact h
          · exact HL.out q (by omega))
        have hW := within_inB s.length j (X.at_ s j).next
        generalize (X.at_ s j).next = N at *
        generalize (X.at_ s j).letters = A at *
        generalize (X.at_ s j).ends = E at *
        have kj : IntKind.i64.wrap ((j : Int) + 1) = (j : Int) + 1 := IntWalk.i64_in _ (by omega)
        have kn : IntKind.i64.wrap ((s.length : Int) - 1) = (s.length : Int) - 1 := IntWalk.i64_in _ (by omega)
        have hW2 := within_any ((j : Int) + 1) ((s.length : Int) - 1) a2 cap2 N (wr.alloc (.cells #[.int .i64 E, sv A, .slice a2 N.length cap2] 58)) hrn (hi3.alloc _)
        rw [hW] at hW2
        have HW := Lib.hid hW2
        have HBn := Lib.hid (HB.out.alloc HB.out.size (.cells #[.int .i64 E, sv A, .slice a2 N.length cap2] 58))
        clear hW hW2 hi3 hstr hrn
        cases hin : X.inB s.length j N with
        | true =>
          have HN2 := Lib.hid (HYes.out hin)
          rw [hin] at HW
          clear hin
          go_wp2_with fail
          refine HW.out.mono ?_
          rintro e w5 ⟨rfl, hb5⟩
          have HB5 := Lib.hid (HBn.out.trans (hb5.mono HBn.out.size))
          clear hb5
          go_wp2_with fail
          go_roundw
          case rel => exact ⟨j + 1, by omega, by go_num, HN2, HB5⟩
          case measure => simp [intOf]; omega
        | false =>
          have HF := Lib.hid (HNo.out hin)
          rw [hin] at HW
          clear hin
          go_wp2_with fail
          refine HW.out.mono ?_
          rintro e w5 ⟨rfl, hb5⟩
          go_wp2_with fail
          go_ret
          exact ⟨ret_int HF.out.symm, HBn.out.trans (hb5.mono HBn.out.size)⟩
      · have HF : Hid (X.statesE s = 0) := Lib.hid (by
          rw [HF3.out, if_pos]
          rw [List.all_eq_true]
          intro q hq
          exact HL.out q (by have := List.mem_range.1 hq; omega))
        have hltI : ¬ (j : Int) < (s.length : Int) := by omega
        go_wp2_with fail
        go_ret
        exact ⟨ret_int HF.out.symm, HB.out⟩
end Go.Proofs.YtcjbnifafofpbaaGreatDoor
/- Walk of States: whether two automata are equal. -/
namespace Go.Proofs.YtcjbnifafofpbaaGreatDoor
open Go.RowKit
theorem st_ext {s t : List X.St} (h : s.length = t.length) (hn : ∀ i, i < s.length → X.at_ s i = X.at_ t i) : s = t := by
  apply List.ext_getElem h
  intro i h1 h2
  have := hn i h1
  unfold X.at_ at this
  simpa [h1, h2] using this
theorem ext_nth {xs ys : List Int} (h : xs.length = ys.length) (hn : ∀ i, i < xs.length → nth xs i = nth ys i) : xs = ys := by
  apply List.ext_getElem h
  intro i h1 h2
  rw [← nth_eq xs i h1, ← nth_eq ys i h2]; exact hn i h1
set_option maxRecDepth 20000 in
set_option maxHeartbeats 4000000 in
theorem statesS_any (a : Option Addr) (cap : Nat) (s : List X.St) (b : Option Addr) (cap2 : Nat) (t : List X.St) (w : World) (hl : s.length ≤ 1000000) (hf : Few s) (ha : Sts w a s) (hb : Sts w b t) :
    Calls Tryz.prog 22 #[.slice a s.length cap, .slice b t.length cap2] w fun e w' => e = .returned (.bool (decide (s = t))) ∧ Drew w w' := by
  have HA := Lib.hid ha
  have HB := Lib.hid hb
  have HF := Lib.hid (fun j (hj : j < s.length) => hf _ (X.at_mem hj))
  clear ha hb hf
  by_cases hlen : s.length = t.length
  case neg =>
    have hI : ((s.length : Int) != (t.length : Int)) = true := by simp; omega
    have HD : Hid (decide (s = t) = false) := Lib.hid (decide_eq_false (fun e => hlen (by rw [e])))
    go_enter Tryz.func22, Tryz.ntmps22
    go_wp2
    go_ret
    exact ⟨ret_bool HD.out.symm, Drew.refl _⟩
  have hI : ((s.length : Int) != (t.length : Int)) = false := by rw [hlen]; simp
  have HL := Lib.hid hlen
  go_enter Tryz.func22, Tryz.ntmps22
  go_wp2
  go_loopw [5, 6] (fun i _ wr => ∃ j : Nat, j ≤ s.length ∧ i = .int .i64 j ∧ Hid (∀ k, k < j → X.at_ s k = X.at_ t k) ∧ Hid (Drew w wr)) (fun i _ _ => s.length - (intOf i).toNat)
  case atStart => exact ⟨0, by omega, rfl, Lib.hid (fun k hk => by omega), Lib.hid (Drew.refl _)⟩
  case round =>
    obtain ⟨j, hj, rfl, HE, HD⟩ := hrel
    obtain ⟨V, rfl⟩ : ∃ V, V = wr := ⟨_, rfl⟩
    by_cases hlt : j < s.length
    · have hltI : (j : Int) < (s.length : Int) := by omega
      have hltT : (j : Int) < (t.length : Int) := by omega
      have hj0 : (0 : Int) ≤ (j : Int) := by omega
      obtain ⟨b1, o1, rfl, p1, p2, a1, d1, p3, i1⟩ := HA.out j hlt
      obtain ⟨b2, o2, rfl, q1, q2, a2, d2, q3, i2⟩ := HB.out j (by omega)
      have p1 := (HD.out.cell _).trans p1
      have p2 := (HD.out.cell _).trans p2
      have p3 := (HD.out.cell _).trans p3
      have q1 := (HD.out.cell _).trans q1
      have q2 := (HD.out.cell _).trans q2
      have q3 := (HD.out.cell _).trans q3
      have HI1 := Lib.hid (i1.drew HD.out)
      have HI2 := Lib.hid (i2.drew HD.out)
      have HN : Hid (X.at_ s j ≠ X.at_ t j → decide (s = t) = false) := Lib.hid (fun h => decide_eq_false (fun e => h (by rw [e])))
      have HX1 : Hid (X.at_ s j = ⟨(X.at_ s j).ends, (X.at_ s j).letters, (X.at_ s j).next⟩) := Lib.hid rfl
      have HX2 : Hid (X.at_ t j = ⟨(X.at_ t j).ends, (X.at_ t j).letters, (X.at_ t j).next⟩) := Lib.hid rfl
      have hnl := (HF.out j hlt).2
      clear i1 i2
      generalize (X.at_ s j).ends = e1 at *
      generalize (X.at_ s j).letters = A1 at *
      generalize (X.at_ s j).next = N1 at *
      generalize (X.at_ t j).ends = e2 at *
      generalize (X.at_ t j).letters = A2 at *
      generalize (X.at_ t j).next = N2 at *
      by_cases h1 : e1 = e2
      case neg =>
        have HG : Hid (decide (s = t) = false) := Lib.hid (HN.out (fun e => by rw [HX1.out, HX2.out] at e; injection e; exact h1 (by assumption)))
        have hb1 : (e1 != e2) = true := by simpa using h1
        clear h1
        go_wp2
        go_quiet (fail)
        go_wp2
        go_ret
        exact ⟨ret_bool HG.out.symm, HD.out.drewN _⟩
      subst h1
      by_cases h2 : A1 = A2
      case neg =>
        have HG : Hid (decide (s = t) = false) := Lib.hid (HN.out (fun e => by rw [HX1.out, HX2.out] at e; injection e; exact h2 (by assumption)))
        have hb : ((⟨A1.toArray⟩ : ByteArray).toList == (⟨A2.toArray⟩ : ByteArray).toList) = false := by rw [bs_tl, bs_tl]; exact beq_eq_false_iff_ne.2 h2
        have hx2 : (A1 == A2) = false := beq_eq_false_iff_ne.2 h2
        clear h2
        go_wp2
        go_quiet (fail)
        go_wp2
        go_ret
        exact ⟨ret_bool HG.out.symm, HD.out.drewN _⟩
      subst h2
      by_cases h3 : N1.length = N2.length
      case neg =>
        have HG : Hid (decide (s = t) = false) := Lib.hid (HN.out (fun e => by rw [HX1.out, HX2.out] at e; injection e with _ _ e; exact h3 (by rw [e])))
        have hb3 : ((N1.length : Int) != (N2.length : Int)) = true := by simp; omega
        clear h3
        go_wp2
        go_quiet (fail)
        go_wp2
        go_ret
        exact ⟨ret_bool HG.out.symm, HD.out.drewN _⟩
      have hb3 : ((N1.length : Int) != (N2.length : Int)) = false := by rw [h3]; simp
      have h3I : (N1.length : Int) = (N2.length : Int) := by rw [h3]
      go_wp2
      go_quiet (fail)
      go_wp2
      go_loopw [6] (fun i wr => ∃ k : Nat, k ≤ N1.length ∧ i = .int .i64 k ∧ Hid (∀ q, q < k → nth N1 q = nth N2 q) ∧ Hid (Drew V wr)) (fun i _ => N1.length - (intOf i).toNat)
      case atStart => exact ⟨0, by omega, rfl, Lib.hid (fun k hk => by omega), Lib.hid ⟨_, rfl⟩⟩
      case round =>
        obtain ⟨k, hk, rfl, HK, HW⟩ := hrel
        have p3 := (HW.out.cell _).trans p3
        have q3 := (HW.out.cell _).trans q3
        by_cases hkl : k < N1.length
        · have hkI : (k : Int) < (N1.length : Int) := by omega
          have hkI2 : (k : Int) < (N2.length : Int) := by omega
          have hk0 : (0 : Int) ≤ (k : Int) := by omega
          obtain ⟨b3, o3, rfl, r1⟩ := (HI1.out.drew HW.out) k hkl
          obtain ⟨b4, o4, rfl, r2⟩ := (HI2.out.drew HW.out) k (by omega)
          cases he : (nth N1 k != nth N2 k) with
          | true =>
            have HG : Hid (decide (s = t) = false) := Lib.hid (HN.out (fun e => by
              rw [HX1.out, HX2.out] at e
              injection e with _ _ e
              rw [e] at he; simp at he))
            go_wp2
            go_quiet (fail)
            go_wp2
            go_ret
            exact ⟨ret_bool HG.out.symm, HD.out.trans (HW.out.drewN _)⟩
          | false =>
            have HK2 : Hid (∀ q, q < k + 1 → nth N1 q = nth N2 q) := Lib.hid (fun q hq => by
              rcases Nat.lt_succ_iff_lt_or_eq.1 hq with h | rfl
              · exact HK.out q h
              · simpa using he)
            go_wp2
            go_quiet (fail)
            go_wp2
            go_roundw
            case rel => exact ⟨k + 1, by omega, by go_num, HK2, Lib.hid (HW.out.drewN _)⟩
            case measure => simp [intOf]; omega
        · have HE2 : Hid (∀ q, q < j + 1 → X.at_ s q = X.at_ t q) := Lib.hid (fun q hq => by
            rcases Nat.lt_succ_iff_lt_or_eq.1 hq with h | rfl
            · exact HE.out q h
            · rw [HX1.out, HX2.out, ext_nth h3 (fun i hi => HK.out i (by omega))])
          have HDW := Lib.hid (HD.out.trans HW.out)
          go_wp2
          go_roundw
          case rel => exact ⟨j + 1, by omega, by go_num, HE2, HDW⟩
          case measure => simp [intOf]; omega
    · have HG : Hid (decide (s = t) = true) := Lib.hid (decide_eq_true (st_ext HL.out (fun i hi => HE.out i (by omega))))
      go_wp2
      go_ret
      exact ⟨ret_bool HG.out.symm, HD.out⟩
end Go.Proofs.YtcjbnifafofpbaaGreatDoor
/- Walks of the program's functions: near. -/
namespace Go.Proofs.YtcjbnifafofpbaaGreatDoor
open Go.RowKit
theorem quiet_more {P : Program} {f : FuncId} {args : Array Value} {w : World} {v : Value} {n a : Nat} (h : Calls P f args (w.drewN (n + a)) fun e w' => e = .returned v ∧ Drew (w.drewN (n + a)) w') :
    Calls P f args (w.drewN (n + a)) fun e w'' => e = .returned v ∧ ∃ m, w'' = w.drewN (n + m) := h.mono fun _ _ ⟨he, m, hm⟩ => ⟨he, a + m, by rw [hm, World.drewN_drewN, Nat.add_assoc]⟩
def strLen : Value → Nat | .string s => s.size | _ => 0
theorem tail_bs (x : UInt8) (c : X.W) : (ByteArray.mk (x :: c).toArray).extract 1 (c.length + 1) = ⟨c.toArray⟩ := by
  rw [ByteArray.extract_mk]
  congr 1
  simp
theorem u8_beq_ne {x y : UInt8} (h : x ≠ y) : ((x.toNat : Int) == (y.toNat : Int)) = false := by
  rw [beq_eq_false_iff_ne]
  intro e
  exact h (UInt8.toNat_inj.1 (by omega))
theorem near_nil {n : Nat} {a b d : X.W} (h : X.strip a b = ([], d)) : X.near n a b = decide (d.length ≤ n) := by cases n <;> (unfold X.near; rw [h])
theorem near_end {n : Nat} {a b c : X.W} {x : UInt8} (h : X.strip a b = (x :: c, [])) : X.near n a b = decide ((x :: c).length ≤ n) := by cases n <;> (unfold X.near; rw [h])
theorem near_zero {a b c d : X.W} {x y : UInt8} (h : X.strip a b = (x :: c, y :: d)) : X.near 0 a b = false := by unfold X.near; rw [h]
theorem near_more {n : Nat} {a b c d : X.W} {x y : UInt8} (h : X.strip a b = (x :: c, y :: d)) : X.near (n + 1) a b = (X.near n c (y :: d) || X.near n (x :: c) d || X.near n c d) := by
  conv => { lhs; unfold X.near }
  rw [h]
set_option maxRecDepth 20000 in
set_option maxHeartbeats 2000000 in
theorem near_step (n : Nat) (hn : n ≤ 1000) (ih : ∀ m, m + 1 = n → ∀ (a b : X.W) (w : World), a.length ≤ 1000000 → b.length ≤ 1000000 → Calls Tryz.prog 80 #[sv a, sv b, .int .i64 m] w fun e w' => e = .returned (.bool (X.near m a b)) ∧ Drew w w') (a b : X.W) (w : World) (ha : a.length ≤ 1000000) (hb : b.length ≤ 1000000) :
    Calls Tryz.prog 80 #[sv a, sv b, .int .i64 n] w fun e w' => e = .returned (.bool (X.near n a b)) ∧ Drew w w' := by
  have IH := Lib.hid ih
  clear ih
  have N1 : Hid (∀ d, X.strip a b = ([], d) → X.near n a b = decide (d.length ≤ n)) := Lib.hid (fun d h => near_nil h)
  have N2 : Hid (∀ x c, X.strip a b = (x :: c, []) → X.near n a b = decide ((x :: c).length ≤ n)) := Lib.hid (fun x c h => near_end h)
  have N3 : Hid (∀ x c y d, X.strip a b = (x :: c, y :: d) → n = 0 → X.near n a b = false) := Lib.hid (fun x c y d h e => by subst e; exact near_zero h)
  have N4 : Hid (∀ x c y d m, X.strip a b = (x :: c, y :: d) → m + 1 = n → X.near n a b = (X.near m c (y :: d) || X.near m (x :: c) d || X.near m c d)) := Lib.hid (fun x c y d m h e => by subst e; exact near_more h)
  generalize X.near n a b = B at *
  go_enter Tryz.func80, Tryz.ntmps80
  go_wp2_with fail
  go_loopw [0, 1] (fun p q wr => ∃ a' b' : X.W, p = sv a' ∧ q = sv b' ∧ a'.length ≤ 1000000 ∧ b'.length ≤ 1000000 ∧ Hid (X.strip a' b' = X.strip a b) ∧ Hid (Drew w wr)) (fun p _ _ => strLen p)
  case atStart => exact ⟨a, b, rfl, rfl, ha, hb, Lib.hid rfl, Lib.hid (Drew.refl _)⟩
  case round =>
    clear ha hb
    obtain ⟨a', b', rfl, rfl, ha, hb, HS, HD⟩ := hrel
    cases a' with
    | nil =>
      have HB : Hid (B = decide (b'.length ≤ n)) := Lib.hid (N1.out b' (by rw [← HS.out]; cases b' <;> rfl))
      clear N1 N2 N3 N4 HS IH
      by_cases hle : b'.length ≤ n
      · have hleI : (b'.length : Int) ≤ (n : Int) := by omega
        go_wp2_with fail
        go_quiet (fail)
        go_wp2_with fail
        go_ret
        exact ⟨ret_bool (by rw [HB.out, decide_eq_true hle]), HD.out.drewN _⟩
      · have hleI : ¬ (b'.length : Int) ≤ (n : Int) := by omega
        go_wp2_with fail
        go_quiet (fail)
        go_wp2_with fail
        go_ret
        exact ⟨ret_bool (by rw [HB.out, decide_eq_false hle]), HD.out.drewN _⟩
    | cons x c =>
      have hne : (x :: c : X.W).isEmpty = false := rfl
      have hne' : ((x :: c : X.W) == []) = false := rfl
      cases b' with
      | nil =>
        have HB : Hid (B = decide ((x :: c : X.W).length ≤ n)) := Lib.hid (N2.out x c (by rw [← HS.out]; rfl))
        clear N1 N2 N3 N4 HS IH
        generalize (x :: c : X.W) = s at *
        by_cases hle : s.length ≤ n
        · have hleI : (s.length : Int) ≤ (n : Int) := by omega
          go_wp2_with fail
          go_quiet (fail)
          go_wp2_with fail
          go_ret
          exact ⟨ret_bool (by rw [HB.out, decide_eq_true hle]), HD.out.drewN _⟩
        · have hleI : ¬ (s.length : Int) ≤ (n : Int) := by omega
          go_wp2_with fail
          go_quiet (fail)
          go_wp2_with fail
          go_ret
          exact ⟨ret_bool (by rw [HB.out, decide_eq_false hle]), HD.out.drewN _⟩
      | cons y d =>
        obtain ⟨s, hs⟩ : ∃ s : X.W, x :: c = s := ⟨_, rfl⟩
        obtain ⟨t, ht⟩ : ∃ t : X.W, y :: d = t := ⟨_, rfl⟩
        rw [hs] at hne hne' ha HS ⊢
        rw [ht] at hb HS ⊢
        have hs1 : 1 ≤ s.length := by rw [← hs]; simp
        have ht0 : 1 ≤ t.length := by rw [← ht]; simp
        have hnt : t.isEmpty = false := by rw [← ht]; rfl
        have hnt' : (t == []) = false := by rw [← ht]; rfl
        have hx0 : (bs s)[0]'(by rw [bs_size]; omega) = x := by rw [bs_at s 0 (by rw [bs_size]; omega), ← hs]; rfl
        have hy0 : (bs t)[0]'(by rw [bs_size]; omega) = y := by rw [bs_at t 0 (by rw [bs_size]; omega), ← ht]; rfl
        have ht1 : (ByteArray.mk s.toArray).extract 1 s.length = ⟨c.toArray⟩ := by rw [← hs]; exact tail_bs x c
        have ht2 : (ByteArray.mk t.toArray).extract 1 t.length = ⟨d.toArray⟩ := by rw [← ht]; exact tail_bs y d
        have hc : c.length ≤ 1000000 := by rw [← hs] at ha; simp at ha; omega
        have hd : d.length ≤ 1000000 := by rw [← ht] at hb; simp at hb; omega
        have hcs : c.length < s.length := by rw [← hs]; simp
        have hc1 : (1 : Int) ≤ (s.length : Int) := by omega
        have hd1 : (1 : Int) ≤ (t.length : Int) := by omega
        have hc0 : (0 : Int) < (s.length : Int) := by omega
        have hd0 : (0 : Int) < (t.length : Int) := by omega
        have HSt : Hid (X.strip s t = if x = y then X.strip c d else (x :: c, y :: d)) := Lib.hid (by rw [← hs, ← ht]; conv => { lhs; unfold X.strip })
        by_cases hxy : x = y
        · have HS2 : Hid (X.strip c d = X.strip a b) := Lib.hid (by rw [← HS.out, HSt.out, if_pos hxy])
          have hbe : ((x.toNat : Int) == (y.toNat : Int)) = true := by rw [hxy]; simp
          clear N1 N2 N3 N4 HS HSt IH hs ht
          go_wp2_with fail
          go_quiet (fail)
          go_wp2_with fail
          go_quiet (fail)
          go_wp2_with fail
          go_roundw
          case rel => exact ⟨c, d, rfl, rfl, hc, hd, HS2, Lib.hid ((HD.out.drewN _).drewN _)⟩
          case measure => simp [strLen, ByteArray.size]; omega
        · have hbe := u8_beq_ne hxy
          have hst : X.strip a b = (x :: c, y :: d) := by rw [← HS.out, HSt.out, if_neg hxy]
          have HB3 := Lib.hid (N3.out x c y d hst)
          have HB4 := Lib.hid (fun m => N4.out x c y d m hst)
          clear N1 N2 N3 N4 HS HSt hst hxy
          cases n with
          | zero =>
            have HB : Hid (B = false) := Lib.hid (HB3.out rfl)
            clear IH HB3 HB4 hs ht
            have hn0 : ((0 : Nat) : Int) = 0 := rfl
            go_wp2_with fail
            go_quiet (fail)
            go_wp2_with fail
            go_ret
            exact ⟨ret_bool HB.out.symm, HD.out.drewN _⟩
          | succ m =>
            have HB : Hid (B = (X.near m c t || X.near m s d || X.near m c d)) := Lib.hid (by rw [← hs, ← ht]; exact HB4.out m rfl)
            have K1 := Lib.hid (fun W => IH.out m rfl c t W hc hb)
            have K2 := Lib.hid (fun W => IH.out m rfl s d W ha hd)
            have K3 := Lib.hid (fun W => IH.out m rfl c d W hc hd)
            have hn0 : (((m + 1 : Nat) : Int) == 0) = false := by rw [beq_eq_false_iff_ne]; omega
            have km : IntKind.i64.wrap (((m + 1 : Nat) : Int) - 1) = (m : Int) := by rw [IntWalk.i64_in _ (by omega)]; omega
            have km2 : IntKind.i64.wrap ((m : Int) + 1 - 1) = (m : Int) := by rw [IntWalk.i64_in _ (by omega)]; omega
            have km3 : IntKind.i64.wrap (m : Int) = (m : Int) := IntWalk.i64_in _ (by omega)
            clear IH HB3 HB4 hs ht
            generalize X.near m c t = B1 at *
            generalize X.near m s d = B2 at *
            generalize X.near m c d = B3 at *
            cases B1 with
            | true =>
              go_wp2_with fail
              go_quiet (fail)
              go_wp2_with fail
              go_quiet ((go_at_call 80; exact quiet_more (K1.out _)))
              go_wp2_with fail
              go_ret
              exact ⟨ret_bool (by rw [HB.out]; rfl), (HD.out.drewN _).drewN _⟩
            | false =>
              cases B2 with
              | true =>
                go_wp2_with fail
                go_quiet (fail)
                go_wp2_with fail
                refine wp_region_quiet_lit (by kernel_rfl) (by kernel_rfl) ?_
                repeat (quiet_step (fail))
                quiet_step ((go_at_call 80; exact quiet_more (K1.out _)))
                repeat (quiet_step (fail))
                quiet_step ((go_at_call 80; exact quiet_more (K2.out _)))
                repeat (refine @wpQuiet_step _ _ _ _ _ _ _ ?_; intro K hK; go_simp; with_reducible refine hK _ ?_; clear hK K)
                with_reducible refine wpQuiet_nil ?_
                intro _ hw'
                obtain ⟨nq2, hw''⟩ := hw'
                subst hw''
                go_wp2_with fail
                go_ret
                exact ⟨ret_bool (by rw [HB.out]; rfl), (HD.out.drewN _).drewN _⟩
              | false =>
                go_wp2_with fail
                go_quiet (fail)
                go_wp2_with fail
                refine wp_region_quiet_lit (by kernel_rfl) (by kernel_rfl) ?_
                repeat (quiet_step (fail))
                quiet_step ((go_at_call 80; exact quiet_more (K1.out _)))
                repeat (quiet_step (fail))
                quiet_step ((go_at_call 80; exact quiet_more (K2.out _)))
                repeat (quiet_step (fail))
                quiet_step ((go_at_call 80; exact quiet_more (K3.out _)))
                repeat (quiet_step (fail))
                refine wpQuiet_nil ?_
                intro _ hw'
                obtain ⟨nq2, hw''⟩ := hw'
                subst hw''
                go_wp2_with fail
                go_ret
                exact ⟨ret_bool (by rw [HB.out]; rfl), (HD.out.drewN _).drewN _⟩
theorem nearP_any : ∀ (n : Nat), n ≤ 1000 → ∀ (a b : X.W) (w : World), a.length ≤ 1000000 → b.length ≤ 1000000 → Calls Tryz.prog 80 #[sv a, sv b, .int .i64 n] w fun e w' => e = .returned (.bool (X.near n a b)) ∧ Drew w w' := by
  intro n
  induction n with
  | zero => exact fun hn => near_step 0 hn (fun m h => by omega)
  | succ n ih => exact fun hn => near_step (n + 1) hn (fun m h => by obtain rfl : m = n := by omega
                                                                     exact ih (by omega))
end Go.Proofs.YtcjbnifafofpbaaGreatDoor
