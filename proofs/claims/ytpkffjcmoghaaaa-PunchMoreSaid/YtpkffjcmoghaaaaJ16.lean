/- One text of Open, LawJ, LawK, LwA, LawL. -/
import Derived.Test.YtpkffjcmoghaaaaJ15
import Derived.ProofKit
import Derived.OpenShut
import Derived.ShutString
import Derived.ChangeOld
import Derived.Below
import Derived.Carry
import Derived.Lib.SmallJoins
import Derived.Deep.SlicePairs
/- Opening the arguments of the statements: a job, a slice of integers. -/
namespace Go.Proofs.Ytpkffjcmoghaaaa
open Go.ChangeShapes Go.WideShapes Go.ChangeAt Go.RowKit
theorem own : ownKnob Try.prog.godebug = none := by kernel_rfl
theorem laidOutT : laidOutB Try.prog = true := by kernel_rfl
theorem spot_none {w : World} {a : Addr} {v : Value} (h : w.cell? (a.add 0) = some v) : ∃ b off, a = ⟨b, off, none⟩ := by
  obtain ⟨b, off, spot⟩ := a
  have e : (Addr.add ⟨b, off, spot⟩ 0).spot = none := World.cell?_spot h
  cases spot with
  | none => exact ⟨b, off, rfl⟩
  | some s => simp [Addr.add] at e
/-- The number that a value is. -/
def numV : Value → Int | .int _ n => n | _ => 0
theorem nth_take (zs : List Int) (n i : Nat) (h : i < n) : nth (zs.take n) i = nth zs i := by
  unfold nth
  rw [List.getD_eq_getElem?_getD, List.getD_eq_getElem?_getD, List.getElem?_take, if_pos h]
set_option maxRecDepth 100000 in
theorem open_nums {H : Type} {enc : TypeId × Value → H} {W : World} {base : Nat} {sp : Nat → Bool} {held : Bool} {t e : TypeId} {k : IntKind} {v : Value} {d : DataW H} {p : List MemPlace} (ht : Try.prog.underlying t = some (.slice e)) (he : Try.prog.underlying e = some (.int k)) (hc : Try.prog.cellsOf e = 1)
    (hv : Value.okWide Try.prog W .any base t v) (h : DataW.Trod enc Try.prog W 0 sp held t v d p) : ∃ a cap zs, v = .slice a zs.length cap ∧ zs.length ≤ cap ∧ Ints k W a zs ∧ ∀ n ∈ zs, (Lit.int k n).wf = true := by
  obtain ⟨a, len, cap, rfl⟩ := okWide_slice ht hv
  obtain ⟨fuel, hf⟩ := h
  rcases open_ints ht he hc hf with ⟨hcs, _⟩ | ⟨x, l, c, zs, hcs, _, hl, hm, hz, _, hcell, hwz⟩
  · simp [Value.cells] at hcs
    obtain ⟨rfl, rfl, rfl⟩ := hcs
    exact ⟨none, 0, [], rfl, Nat.le_refl _, fun i hi => by simp at hi, fun n hn => by simp at hn⟩
  · simp [Value.cells] at hcs
    obtain ⟨rfl, rfl, rfl⟩ := hcs
    have hlz : len ≤ zs.length := by rw [hz]; split <;> omega
    have hlen : (zs.take len).length = len := by rw [List.length_take]; omega
    refine ⟨some x, cap, zs.take len, by rw [hlen], by omega, fun i hi => ?_, fun n hn => hwz n (List.mem_of_mem_take hn)⟩
    rw [hlen] at hi
    have hci := hcell i (by omega)
    obtain ⟨b, off, rfl⟩ := spot_none (hcell 0 (by omega))
    refine ⟨b, off, rfl, ?_⟩
    rw [nth_take _ _ _ hi]
    rw [addr_add] at hci; exact hci
section
variable {H : Type} {enc : TypeId × Value → H} {P : Program} {w : World} {base : Nat} {spare : Nat → Bool} {held : Bool}
/-- A slice of structs of three one-cell fields, as far as it reaches. -/
theorem open_triples {t e : TypeId} {f0 f1 f2 : Field} {fuel : Nat} {cs : List Value} {x : DataW H × List MemPlace} (ht : P.underlying t = some (.slice e)) (he : P.underlying e = some (.struct #[f0, f1, f2]))
    (ce : P.cellsOf e = 3) (o0 : f0.offset = 0) (o1 : f1.offset = 1) (o2 : f2.offset = 2) (c0 : P.cellsOf f0.type = 1) (c1 : P.cellsOf f1.type = 1) (c2 : P.cellsOf f2.type = 1)
    (h : DataW.trod enc P w base spare held fuel t cs = some x) :
    cs = [.slice none 0 0] ∨
    ∃ (a : Addr) (len cap : Nat), cs = [.slice (some a) len cap] ∧ len ≤ cap ∧
      ∀ i, i < len → ∃ v0 v1 v2, w.cell? (a.add (i * 3)) = some v0 ∧ w.cell? (a.add (i * 3 + 1)) = some v1 ∧ w.cell? (a.add (i * 3 + 2)) = some v2 ∧
        ∃ n y0 y1 y2, DataW.trod enc P w base spare held n f0.type [v0] = some y0 ∧ DataW.trod enc P w base spare held n f1.type [v1] = some y1 ∧ DataW.trod enc P w base spare held n f2.type [v2] = some y2 := by
  rcases Go.Deep.open_slice ht h with h0 | ⟨a, len, cap, m, n, D, Pl, rfl, hb, hl, hm, hmm, rfl, hx⟩
  · exact Or.inl h0.1
  right
  have hlm : len ≤ m := by rw [hmm]; split <;> omega
  refine ⟨a, len, cap, rfl, hl, fun i hi => ?_⟩
  obtain ⟨cs', h1, h2⟩ := hx i (by omega)
  rw [ce] at h1
  obtain ⟨_, hlen, hcell⟩ := World.cells?_some h1
  obtain ⟨xs, k, hk, hxy, _, hxl, hf⟩ := DataW.trod_struct he h2
  match xs, hxl, cs', hlen with
  | [y0, y1, y2], _, [v0, v1, v2], _ =>
    have g0 := hf 0 f0 rfl
    have g1 := hf 1 f1 rfl
    have g2 := hf 2 f2 rfl
    simp [o0, o1, o2, c0, c1, c2] at g0 g1 g2
    have e0 := hcell 0 (by omega)
    have e1 := hcell 1 (by omega)
    have e2 := hcell 2 (by omega)
    rw [Go.Deep.add_add] at e0 e1 e2
    exact ⟨v0, v1, v2, by simpa using e0, by simpa using e1, by simpa using e2, k, y0, y1, y2, g0, g1, g2⟩
end
set_option maxRecDepth 100000 in
theorem open_job {H : Type} {enc : TypeId × Value → H} {W : World} {base : Nat} {sp : Nat → Bool} {held : Bool} {v : Value} {d : DataW H} {q : List MemPlace}
    (hv : Value.okWide Try.prog W .any base 24 v) (h : DataW.Trod enc Try.prog W 0 sp held 24 v d q) : ∃ p L a cap S, v = jobV p L a S.length cap ∧ S.length ≤ cap ∧ Stars W a S := by
  obtain ⟨v0, v1, v2, y0, y1, y2, n, rfl, -, -, h0, h1, h2⟩ := Go.Joins.open_agg3 Try.underlying24 (by kernel_rfl) (by kernel_rfl) hv h
  obtain ⟨p, e0, -, -⟩ := DataW.trod_int Try.underlying3 h0
  obtain ⟨L, e1, -, -⟩ := DataW.trod_int Try.underlying3 h1
  cases e0; cases e1
  rcases open_triples (t := 22) (e := 59) Try.underlying22 Try.underlying59 (by kernel_rfl) rfl rfl rfl (by kernel_rfl) (by kernel_rfl) (by kernel_rfl) h2 with hcs | ⟨a, len, cap, hcs, hl, hx⟩
  · cases hcs
    exact ⟨p, L, none, 0, [], rfl, Nat.le_refl _, fun i hi => by simp at hi⟩
  · cases hcs
    have each : ∀ i, ∃ s : P.Star, i < len → W.cell? (a.add (i * 3)) = some (.int .i64 s.1) ∧ W.cell? (a.add (i * 3 + 1)) = some (.int .i64 s.2.1) ∧ W.cell? (a.add (i * 3 + 2)) = some (.int .i64 s.2.2) := fun i => by
      by_cases hi : i < len
      · obtain ⟨u0, u1, u2, k0, k1, k2, m, z0, z1, z2, t0, t1, t2⟩ := hx i hi
        obtain ⟨n0, f0, -, -⟩ := DataW.trod_int Try.underlying3 t0
        obtain ⟨n1, f1, -, -⟩ := DataW.trod_int Try.underlying3 t1
        obtain ⟨n2, f2, -, -⟩ := DataW.trod_int Try.underlying2 t2
        simp only [List.cons.injEq, and_true] at f0 f1 f2
        subst f0; subst f1; subst f2
        exact ⟨(n0, n1, n2), fun _ => ⟨k0, k1, k2⟩⟩
      · exact ⟨(0, 0, 0), fun h => absurd h hi⟩
    obtain ⟨s, hs⟩ := Classical.axiomOfChoice each
    refine ⟨p, L, some a, cap, (List.range len).map s, by simp, by simpa using hl, fun i hi => ?_⟩
    simp only [List.length_map, List.length_range] at hi
    obtain ⟨c0, c1, c2⟩ := hs i hi
    have c00 := (hs 0 (by omega)).1
    rw [Nat.zero_mul] at c00
    obtain ⟨b, off, rfl⟩ := spot_none c00
    rw [addr_add] at c0 c1 c2
    rw [← Nat.add_assoc] at c1 c2
    have e : P.star ((List.range len).map s) i = s i := by simp [P.star, hi]
    exact ⟨b, off, rfl, by rw [e]; exact c0, by rw [e]; exact c1, by rw [e]; exact c2⟩
end Go.Proofs.Ytpkffjcmoghaaaa
/- Walks of Given, before, Listed. -/
namespace Go.Proofs.Ytpkffjcmoghaaaa
open Go.RowKit Go.Lib Go.Sort
theorem u8_bd {n : Int} (h : (Lit.int .u8 n).wf = true) : 0 ≤ n ∧ n ≤ 255 := by
  simp [Lit.wf] at h
  have h1 : IntKind.u8.min = 0 := by decide
  have h2 : IntKind.u8.max = 255 := by decide
  omega
theorem u16_bd {n : Int} (h : (Lit.int .u16 n).wf = true) : 0 ≤ n ∧ n ≤ 65535 := by
  simp [Lit.wf] at h
  have h1 : IntKind.u16.min = 0 := by decide
  have h2 : IntKind.u16.max = 65535 := by decide
  omega
/-- The stars that bits say. -/
def bitsL (n b : Nat) : List Nat := (List.range n).filter fun i => b.testBit i
theorem bitsL_succ (k b : Nat) : bitsL (k + 1) b = bitsL k b ++ if b.testBit k then [k] else [] := by
  unfold bitsL; rw [List.range_succ, List.filter_append]; cases h : b.testBit k <;> simp [h]
theorem bitsL_len (n b : Nat) : (bitsL n b).length ≤ n := Nat.le_trans (List.length_filter_le _ _) (by simp)
theorem bit_at (b k : Nat) : b / 2 ^ k % 2 = if b.testBit k then 1 else 0 := by
  rw [Nat.testBit_eq_decide_div_mod_eq]
  have : b / 2 ^ k % 2 < 2 := Nat.mod_lt _ (by decide)
  by_cases h : b / 2 ^ k % 2 = 1
  · rw [h]; simp
  · have h0 : b / 2 ^ k % 2 = 0 := by omega
    rw [h0]; simp
theorem wraps_u16 (n : Int) (h₀ : 0 ≤ n) (h₁ : n < 2 ^ 16) : IntKind.u16.wrap n = n := by rw [IntKind.wrap_u16]; omega
theorem shr_and (b k : Nat) (hb : b < 65536) : bits .and .u16 ((b : Int) / 2 ^ k) 1 = if b.testBit k then 1 else 0 := by
  have e : (b : Int) / 2 ^ k = ((b / 2 ^ k : Nat) : Int) := by simp
  have h1 : b / 2 ^ k < 65536 := Nat.lt_of_le_of_lt (Nat.div_le_self _ _) hb
  have h := (bits_nat .u16 16 (by decide) wraps_u16 (b / 2 ^ k) 1 (by omega) (by omega)).1
  rw [e]
  refine h.trans ?_
  rw [Nat.and_one_is_mod, bit_at]
  split <;> rfl
set_option maxRecDepth 20000 in
set_option maxHeartbeats 2000000 in
theorem listed_any (a : Option Addr) (cap : Nat) (p L : Int) (S : List P.Star) (b : Nat) (w : World) (hn : S.length ≤ 16) (hb : b < 65536) :
    Calls Try.prog 46 #[jobV p L a S.length cap, .int .u16 b] w fun e w' => ∃ v, e = .returned v ∧ w'.ownsRow w.heap.size 3 1 v (bitsL S.length b).length ((intsN (bitsL S.length b)).map (.int .i64)) ∧ Below w.heap.size w w' := by
  have HB0 := Lib.hid (Below.new w (.cells #[.int .i64 p, .int .i64 L, .slice a S.length cap] 24))
  have HC0 := Lib.hid (Cells.new w #[.int .i64 p, .int .i64 L, .slice a S.length cap] 24)
  go_enter Try.func46, Try.ntmps46
  go_wp2_with fail
  go_loopw [5, 6] (fun o i wr => ∃ k : Nat, k ≤ S.length ∧ i = .int .i64 k ∧ Hid (wr.ownsRow (w.heap.size + 1) 3 1 o (bitsL k b).length ((intsN (bitsL k b)).map (.int .i64))) ∧ Hid (Cells wr w.heap.size [.int .i64 p, .int .i64 L, .slice a S.length cap]) ∧ Hid (Below w.heap.size w wr)) (fun _ i _ => S.length - (intOf i).toNat)
  case atStart => exact ⟨0, by omega, rfl, Lib.hid (World.ownsRow_nil _ _ _ _), HC0, HB0⟩
  case round =>
    clear HC0 HB0
    obtain ⟨k, hk, rfl, HO, HC, HB⟩ := hrel
    have x3 := HC.out.cel 2 _ rfl
    by_cases hlt : k < S.length
    · have hltI : (k : Int) < (S.length : Int) := by omega
      have hk0 : (0 : Int) ≤ (k : Int) := by omega
      have HSu := Lib.hid (bitsL_succ k b)
      have HOl := bitsL_len k b
      have hlen2 : (bitsL k b).length + 1 ≤ 2000000 := by omega
      have ha := shr_and b k hb
      cases hbit : b.testBit k with
      | true =>
        rw [hbit] at ha
        simp only [if_true] at ha
        have HS2 : Hid (bitsL (k + 1) b = bitsL k b ++ [k]) := Lib.hid (by rw [HSu.out, hbit]; rfl)
        clear hbit HSu
        generalize bitsL k b = T at *
        have hbn := Below.new wr (.cells #[.int .i64 (k : Int)] 3)
        have HO5 := Lib.hid (owns_below HO.out hbn)
        have hnews := Lib.hid (news_new wr #[.int .i64 (k : Int)] 3)
        have hszB := HB.out.size
        have hszC := HC.out.lt
        have hszW : w.heap.size + 1 ≤ (wr.alloc (.cells #[.int .i64 (k : Int)] 3)).heap.size := by simp; omega
        have HC5 := Lib.hid (HC.out.on hbn)
        have HB5 := Lib.hid (HB.out.trans (hbn.mono hszB))
        clear hbn
        go_wp2_with (at_builtin; refine listApp T25 rfl (.tmp 19) (.tmp 21) rfl (w.heap.size + 1) u5 T.length ((intsN T).map (.int .i64)) [.int .i64 (k : Int)] 1 1 ⟨wr.heap.size, 0, none⟩ rfl HO5.out rfl rfl hnews.out (by simp [Value.oneCell']) hlen2 hszW ?_; intro v8 w8 hown8 hg8 hL8)
        go_roundw
        case rel => exact ⟨k + 1, by omega, by go_num, by rw [HS2.out, List.length_append, intsN_snoc, List.map_append]; exact Lib.hid hown8, Lib.hid (HC5.out.grown hg8 (fun e => by have := (HO5.out.lt _ e.symm).1; omega)), Lib.hid (HB5.out.grown hg8 (by omega) (fun g e => by have := (HO5.out.lt g e).1; omega))⟩
        case measure => simp [intOf]; omega
      | false =>
        rw [hbit] at ha
        simp only [Bool.false_eq_true, if_false] at ha
        have HS2 : Hid (bitsL (k + 1) b = bitsL k b) := Lib.hid (by rw [HSu.out, hbit]; simp)
        clear hbit HSu
        generalize bitsL k b = T at *
        go_wp2_with fail
        go_roundw
        case rel => exact ⟨k + 1, by omega, by go_num, by rw [HS2.out]; exact HO, HC, HB⟩
        case measure => simp [intOf]; omega
    · have hltI : ¬ (k : Int) < (S.length : Int) := by omega
      have hkS : k = S.length := by omega
      subst hkS
      go_wp2_with fail
      go_ret
      exact ⟨_, rfl, owns_mono HO.out (by omega), HB.out⟩
/-- A wear for each star, by numbers. -/
def givenW (S : List P.Star) (by_ : List Int) (i : Nat) : Int :=
  if by_.length = 0 then (P.star S i).1 else (P.star S i).1 + (nth by_ (i % by_.length)) % ((P.star S i).2.1 - (P.star S i).1 + 1)
def givenL (S : List P.Star) (by_ : List Int) (k : Nat) : List Int := (List.range k).map (givenW S by_)
theorem givenL_succ (S : List P.Star) (by_ : List Int) (k : Nat) : givenL S by_ (k + 1) = givenL S by_ k ++ [givenW S by_ k] := by
  unfold givenL; rw [List.range_succ, List.map_append]; rfl
theorem givenW_in {p L : Int} {S : List P.Star} (hv : P.Valid p L S) {by_ : List Int} {i : Nat} (hi : i < S.length) : (P.star S i).1 ≤ givenW S by_ i ∧ givenW S by_ i ≤ (P.star S i).2.1 := by
  have hs := hv.star hi
  unfold givenW
  split
  · omega
  · have h0 : 0 < (P.star S i).2.1 - (P.star S i).1 + 1 := by omega
    have h1 := Int.emod_nonneg (nth by_ (i % by_.length)) (b := (P.star S i).2.1 - (P.star S i).1 + 1) (by omega)
    have h2 := Int.emod_lt_of_pos (nth by_ (i % by_.length)) h0
    omega
theorem tmod_pos {a b : Int} (ha : 0 ≤ a) : a.tmod b = a % b := Int.tmod_eq_emod_of_nonneg ha
theorem givenL_length (S : List P.Star) (by_ : List Int) (k : Nat) : (givenL S by_ k).length = k := by simp [givenL]
set_option maxRecDepth 20000 in
set_option maxHeartbeats 2000000 in
theorem given_any (a : Option Addr) (cap : Nat) (p L : Int) (S : List P.Star) (b : Option Addr) (cap2 : Nat) (by_ : List Int) (w : World) (hv : P.Valid p L S) (ha : Stars w a S) (hb : Ints .u8 w b by_) (hw : ∀ n ∈ by_, 0 ≤ n ∧ n ≤ 255) (h30 : by_.length ≤ 1000) :
    Calls Try.prog 44 #[jobV p L a S.length cap, .slice b by_.length cap2] w fun e w' => ∃ v, e = .returned v ∧ w'.ownsRow w.heap.size 3 1 v S.length ((givenL S by_ S.length).map (.int .i64)) ∧ Below w.heap.size w w' := by
  have HB0 := Lib.hid (Below.new w (.cells #[.int .i64 p, .int .i64 L, .slice a S.length cap] 24))
  have HC0 := Lib.hid (Cells.new w #[.int .i64 p, .int .i64 L, .slice a S.length cap] 24)
  have HSa := Lib.hid ha
  have HIb := Lib.hid hb
  have HW := Lib.hid hw
  have HV := Lib.hid hv
  have hn := hv.len
  have hL20 := hv.l20
  clear ha hb hw hv
  go_enter Try.func44, Try.ntmps44
  go_wp2_with fail
  go_loopw [5, 6] (fun o i wr => ∃ k : Nat, k ≤ S.length ∧ i = .int .i64 k ∧ Hid (wr.ownsRow (w.heap.size + 1) 3 1 o k ((givenL S by_ k).map (.int .i64))) ∧ Hid (Cells wr w.heap.size [.int .i64 p, .int .i64 L, .slice a S.length cap]) ∧ Hid (Below w.heap.size w wr)) (fun _ i _ => S.length - (intOf i).toNat)
  case atStart => exact ⟨0, by omega, rfl, Lib.hid (World.ownsRow_nil _ _ _ _), HC0, HB0⟩
  case round =>
    clear HC0 HB0
    obtain ⟨k, hk, rfl, HO, HC, HB⟩ := hrel
    have x3 := HC.out.cel 2 _ rfl
    by_cases hlt : k < S.length
    · have hltI : (k : Int) < (S.length : Int) := by omega
      have hk0 : (0 : Int) ≤ (k : Int) := by omega
      obtain ⟨sb, soff, rfl, c1, c2, -⟩ := (HSa.out.below HB.out) k hlt
      have hs := HV.out.star hlt
      obtain ⟨r1, r2, r3⟩ := hs
      have HG := Lib.hid (givenL_succ S by_ k)
      have HGl := Lib.hid (givenL_length S by_ k)
      have hszB := HB.out.size
      by_cases h0 : by_.length = 0
      · have HE : Hid (givenW S by_ k = (P.star S k).1) := Lib.hid (by unfold givenW; rw [if_pos h0])
        have h0I : ¬ (0 : Int) < (by_.length : Int) := by omega
        clear h0
        generalize (P.star S k).1 = f at *
        generalize (P.star S k).2.1 = t at *
        generalize givenL S by_ k = T at *
        have hbn := Below.new wr (.cells #[.int .i64 f] 3)
        have HO5 := Lib.hid (owns_below HO.out hbn)
        have hnews := Lib.hid (news_new wr #[.int .i64 f] 3)
        have hszJ := HC.out.lt
        have hszW : w.heap.size + 1 ≤ (wr.alloc (.cells #[.int .i64 f] 3)).heap.size := by simp; omega
        have HC5 := Lib.hid (HC.out.on hbn)
        have HB5 := Lib.hid (HB.out.trans (hbn.mono hszB))
        clear hbn
        go_wp2_with (at_builtin; refine listApp T25 rfl (.tmp 44) (.tmp 46) rfl (w.heap.size + 1) u5 k (T.map (.int .i64)) [.int .i64 f] 1 1 ⟨wr.heap.size, 0, none⟩ rfl HO5.out rfl rfl hnews.out (by simp [Value.oneCell']) (by omega) hszW ?_; intro v8 w8 hown8 hg8 hL8)
        go_roundw
        case rel => exact ⟨k + 1, by omega, by go_num, by rw [HG.out, HE.out, List.map_append]; exact Lib.hid hown8, Lib.hid (HC5.out.grown hg8 (fun e => by have := (HO5.out.lt _ e.symm).1; omega)), Lib.hid (HB5.out.grown hg8 (by omega) (fun g e => by have := (HO5.out.lt g e).1; omega))⟩
        case measure => simp [intOf]; omega
      · have hlen0 : 0 < by_.length := by omega
        have hlenI : (0 : Int) < (by_.length : Int) := by omega
        have hm := Nat.mod_lt k hlen0
        obtain ⟨b1, o1, rfl, hcb⟩ := (HIb.out.below HB.out) (k % by_.length) hm
        have hbd : 0 ≤ nth by_ (k % by_.length) ∧ nth by_ (k % by_.length) ≤ 255 := HW.out _ (by rw [nth_eq _ _ hm]; exact List.getElem_mem hm)
        have HE : Hid (givenW S by_ k = (P.star S k).1 + nth by_ (k % by_.length) % ((P.star S k).2.1 - (P.star S k).1 + 1)) := Lib.hid (by unfold givenW; rw [if_neg h0])
        have hq1 : (k : Int).tmod (by_.length : Int) = ((k % by_.length : Nat) : Int) := by rw [tmod_pos hk0]; simp
        have hne : (by_.length : Int) ≠ 0 := by omega
        clear h0
        generalize nth by_ (k % by_.length) = x at *
        generalize hmm : k % by_.length = m at *
        have HMm := Lib.hid hmm
        clear hmm
        have hmI : (m : Int) < (by_.length : Int) := by omega
        have hm0 : (0 : Int) ≤ (m : Int) := by omega
        generalize (P.star S k).1 = f at *
        generalize (P.star S k).2.1 = t at *
        have hd0 : 0 < t - f + 1 := by omega
        have hx0 := Int.emod_nonneg x (b := t - f + 1) (by omega)
        have hx1 := Int.emod_lt_of_pos x hd0
        have hq2 : x.tmod (t - f + 1) = x % (t - f + 1) := tmod_pos hbd.1
        have hq3 : (t - f + 1) ≠ 0 := by omega
        have kx : IntKind.i64.wrap x = x := IntWalk.i64_in _ (by omega)
        have kd : IntKind.i64.wrap (t - f) = t - f := IntWalk.i64_in _ (by omega)
        have kd1 : IntKind.i64.wrap (t - f + 1) = t - f + 1 := IntWalk.i64_in _ (by omega)
        have kr : IntKind.i64.wrap (x % (t - f + 1)) = x % (t - f + 1) := IntWalk.i64_in _ (by omega)
        have ks : IntKind.i64.wrap (f + x % (t - f + 1)) = f + x % (t - f + 1) := IntWalk.i64_in _ (by omega)
        have km : IntKind.i64.wrap (m : Int) = (m : Int) := IntWalk.i64_in _ (by omega)
        go_wp2_with fail
        go_quiet (fail)
        generalize hy : f + x % (t - f + 1) = y at *
        clear hy
        generalize givenL S by_ k = T at *
        have hbn := (Drew.below ⟨nq, rfl⟩ wr.heap.size : Below wr.heap.size wr (wr.drewN nq)).alloc (Nat.le_refl _) (.cells #[.int .i64 y] 3)
        have HO5 := Lib.hid (owns_below HO.out hbn)
        have hnews := Lib.hid (news_new (wr.drewN nq) #[.int .i64 y] 3)
        have hszJ := HC.out.lt
        have hszW : w.heap.size + 1 ≤ ((wr.drewN nq).alloc (.cells #[.int .i64 y] 3)).heap.size := by rw [World.size_alloc]; show w.heap.size + 1 ≤ wr.heap.size + 1; omega
        have HC5 := Lib.hid (HC.out.on hbn)
        have HB5 := Lib.hid (HB.out.trans (hbn.mono hszB))
        clear hbn
        go_wp2_with (at_builtin; refine listApp T25 rfl (.tmp 44) (.tmp 46) rfl (w.heap.size + 1) u5 k (T.map (.int .i64)) [.int .i64 y] 1 1 ⟨wr.heap.size, 0, none⟩ rfl HO5.out rfl rfl hnews.out (by simp [Value.oneCell']) (by omega) hszW ?_; intro v8 w8 hown8 hg8 hL8)
        go_roundw
        case rel => exact ⟨k + 1, by omega, by go_num, by rw [HG.out, HE.out, List.map_append]; exact Lib.hid hown8, Lib.hid (HC5.out.grown hg8 (fun e => by have := (HO5.out.lt _ e.symm).1; omega)), Lib.hid (HB5.out.grown hg8 (by omega) (fun g e => by have := (HO5.out.lt g e).1; omega))⟩
        case measure => simp [intOf]; omega
    · have hltI : ¬ (k : Int) < (S.length : Int) := by omega
      have hkS : k = S.length := by omega
      subst hkS
      go_wp2_with fail
      go_ret
      exact ⟨_, rfl, owns_mono HO.out (by omega), HB.out⟩
/-- Which list comes first. -/
def beforeB : List Int → List Int → Bool
  | x :: xs, y :: ys => if x = y then beforeB xs ys else decide (x < y)
  | _, _ => false
theorem beforeB_same {xs ys : List Int} : ∀ (j : Nat), j ≤ xs.length → j ≤ ys.length → (∀ k, k < j → nth xs k = nth ys k) → beforeB xs ys = beforeB (xs.drop j) (ys.drop j) := by
  intro j
  induction j generalizing xs ys with
  | zero => intro _ _ _; rfl
  | succ j ih =>
    intro h1 h2 h
    cases xs with
    | nil => simp at h1
    | cons x xs =>
      cases ys with
      | nil => simp at h2
      | cons y ys =>
        have e : x = y := h 0 (by omega)
        subst e
        show (if x = x then beforeB xs ys else _) = beforeB (xs.drop j) (ys.drop j)
        rw [if_pos rfl]
        exact ih (by simpa using h1) (by simpa using h2) (fun k hk => h (k + 1) (by omega))
theorem beforeB_at {xs ys : List Int} {j : Nat} (h1 : j < xs.length) (h2 : j < ys.length) (hne : nth xs j ≠ nth ys j) (h : ∀ k, k < j → nth xs k = nth ys k) : beforeB xs ys = decide (nth xs j < nth ys j) := by
  rw [beforeB_same j (by omega) (by omega) h, List.drop_eq_getElem_cons h1, List.drop_eq_getElem_cons h2]
  rw [nth_eq _ _ h1, nth_eq _ _ h2] at *
  show (if xs[j] = ys[j] then _ else _) = _
  rw [if_neg hne]
theorem beforeB_end {xs ys : List Int} {j : Nat} (h1 : j ≤ xs.length) (h2 : j ≤ ys.length) (he : j = xs.length ∨ j = ys.length) (h : ∀ k, k < j → nth xs k = nth ys k) : beforeB xs ys = false := by
  rw [beforeB_same j h1 h2 h]
  rcases he with e | e
  · rw [List.drop_eq_nil_of_le (by omega)]; rfl
  · have e2 : ys.drop j = [] := List.drop_eq_nil_of_le (by omega)
    rw [e2]; cases xs.drop j <;> rfl
set_option maxRecDepth 20000 in
set_option maxHeartbeats 2000000 in
theorem before_any (a : Option Addr) (cap : Nat) (xs : List Int) (b : Option Addr) (cap2 : Nat) (ys : List Int) (w : World) (hx : xs.length ≤ 1000000) (hy : ys.length ≤ 1000000) (ha : Ints .i64 w a xs) (hb : Ints .i64 w b ys) :
    Calls Try.prog 45 #[.slice a xs.length cap, .slice b ys.length cap2] w fun e w' => e = .returned (.bool (beforeB xs ys)) ∧ Below w.heap.size w w' := by
  have HA := Lib.hid ha
  have HB := Lib.hid hb
  clear ha hb
  go_enter Try.func45, Try.ntmps45
  go_wp2_with fail
  go_loopw [5] (fun i wi => ∃ j : Nat, j ≤ xs.length ∧ j ≤ ys.length ∧ i = .int .i64 j ∧ Hid (∀ k, k < j → nth xs k = nth ys k) ∧ Drew w wi) (fun i _ => xs.length - (intOf i).toNat)
  case atStart => exact ⟨0, by omega, by omega, rfl, Lib.hid (fun k h => by omega), Drew.refl _⟩
  case round =>
    obtain ⟨j, hj, hj2, rfl, hr, hdr⟩ := hrel
    by_cases hlt : j < xs.length
    · have k1 : (j : Int) < ↑xs.length := by omega
      by_cases hlty : j < ys.length
      · obtain ⟨b1, o1, rfl, c1⟩ := (HA.out.drew hdr) j hlt
        obtain ⟨b2, o2, rfl, c2⟩ := (HB.out.drew hdr) j hlty
        have k2 : (j : Int) < ↑ys.length := by omega
        have k3 : (0 : Int) ≤ ↑j := by omega
        cases he : (nth xs j != nth ys j) with
        | false =>
          have HE : Hid (nth xs j = nth ys j) := Lib.hid (by simpa using he)
          go_wp2_with fail
          go_quiet (fail)
          go_wp2_with fail
          go_roundw
          case rel => exact ⟨j + 1, by omega, by omega, by go_num, Lib.hid (fun k hk => by rcases Nat.lt_succ_iff_lt_or_eq.1 hk with h | rfl; exact hr.out k h; exact HE.out), hdr.drewN _⟩
          case measure => simp [intOf]; omega
        | true =>
          have HE := Lib.hid (beforeB_at hlt hlty (by simpa using he) hr.out)
          go_wp2_with fail
          go_quiet (fail)
          have c1 := (Drew.cell ⟨nq, rfl⟩ _).trans c1
          have c2 := (Drew.cell ⟨nq, rfl⟩ _).trans c2
          go_wp2_with fail
          go_quiet (fail)
          go_wp2_with fail
          go_ret
          exact ⟨ret_bool (by rw [HE.out]), ((hdr.drewN _).drewN _).below _⟩
      · have k2 : ¬ (j : Int) < ↑ys.length := by omega
        have HE := Lib.hid (beforeB_end hj hj2 (.inr (by omega)) hr.out)
        go_wp2_with fail
        go_ret
        exact ⟨ret_bool (by rw [HE.out]), hdr.below _⟩
    · have k1 : ¬ (j : Int) < ↑xs.length := by omega
      have HE := Lib.hid (beforeB_end hj hj2 (.inl (by omega)) hr.out)
      go_wp2_with fail
      go_ret
      exact ⟨ret_bool (by rw [HE.out]), hdr.below _⟩
end Go.Proofs.Ytpkffjcmoghaaaa
/- Walk of PunchEither. -/
namespace Go.Proofs.Ytpkffjcmoghaaaa
open Go.RowKit Go.Lib Go.Sort
theorem givenL_nth (S : List P.Star) (by_ : List Int) {k i : Nat} (h : i < k) : nth (givenL S by_ k) i = givenW S by_ i := by
  unfold givenL nth
  simp [h]
theorem givenL_in {p L : Int} {S : List P.Star} (hv : P.Valid p L S) (by_ : List Int) : P.inB S (givenL S by_ S.length) = true := by
  unfold P.inB
  rw [List.all_eq_true]
  intro i hi
  have hi' : i < S.length := by simpa using hi
  have h := givenW_in hv (by_ := by_) hi'
  rw [decide_eq_true_eq]
  have e : P.wear (givenL S by_ S.length) i = givenW S by_ i := givenL_nth S by_ hi'
  rw [e]; exact h
theorem given_full {p L : Int} {S : List P.Star} (hc : P.checkJob p L S = 0) (hf : ¬ P.Fits S p L) (by_ : List Int) : P.checkPlan p L S (givenL S by_ S.length) = 10 := by
  have hv := P.checkJob_iff.1 hc
  refine checkPlan_few hc (givenL_length _ _ _) (givenL_in hv by_) ?_
  cases hb : P.fewB p L (givenL S by_ S.length) with
  | false => rfl
  | true =>
    exfalso
    have h0 := checkPlan_ok hc (givenL_length _ _ _) (givenL_in hv by_) hb
    obtain ⟨-, -, hp⟩ := P.checkPlan_iff.1 h0
    exact hf (hp.fits L)
theorem before_no {p L : Int} {S : List P.Star} {l : List Int} (hf : P.Fits S p L) (h : P.checkPlan p L S l = 0) : beforeB l (P.plan S p L) = false := by
  obtain ⟨hv, hlen, hp⟩ := P.checkPlan_iff.1 h
  have hpl := plan_len hv hf
  obtain ⟨pn, rfl⟩ := Int.eq_ofNat_of_zero_le (show 0 ≤ p by have := hv.p1; omega)
  obtain ⟨Ln, rfl⟩ := Int.eq_ofNat_of_zero_le (show 0 ≤ L by have := hv.l1; omega)
  by_cases he : ∃ j, j < l.length ∧ nth l j ≠ nth (P.plan S pn Ln) j
  · obtain ⟨j0, h0⟩ := he
    obtain ⟨j, ⟨hj, hne⟩, hmin⟩ := P.least_ex (q := fun j => j < l.length ∧ nth l j ≠ nth (P.plan S pn Ln) j) j0 h0
    have hpre : ∀ k, k < j → nth l k = nth (P.plan S pn Ln) k := fun k hk => Classical.byContradiction fun hn => hmin k hk ⟨by omega, hn⟩
    rw [beforeB_at hj (by omega) hne hpre]
    have := P.plan_least hv.ok hf hp (i := j) (by omega) (fun k hk => hpre k hk)
    have e1 : P.wear (P.plan S pn Ln) j = nth (P.plan S pn Ln) j := rfl
    have e2 : P.wear l j = nth l j := rfl
    rw [decide_eq_false_iff_not]; omega
  · exact beforeB_end (j := l.length) (Nat.le_refl _) (by omega) (.inl rfl) (fun k hk => Classical.byContradiction fun hn => he ⟨k, hk, hn⟩)
set_option maxRecDepth 20000 in
set_option maxHeartbeats 4000000 in
theorem either_walk (a : Option Addr) (cap : Nat) (p L : Int) (S : List P.Star) (b : Option Addr) (cap2 : Nat) (by_ : List Int) (n2 n3 : Int) (w : World) (ha : Stars w a S) (hbl : Ints .u8 w b by_) (hby : ∀ n ∈ by_, (Lit.int .u8 n).wf = true) (h2 : (Lit.int .u8 n2).wf = true) (h3 : (Lit.int .u8 n3).wf = true) :
    Calls Try.prog 7 #[jobV p L a S.length cap, .slice b by_.length cap2, .int .u8 n2, .int .u8 n3] w fun e w' => e = .returned (.bool true) ∧ Below w.heap.size w w' := by
  have hn2 := u8_bd h2
  have hn3 := u8_bd h3
  have HBy := Lib.hid (fun n hn => u8_bd (hby n hn))
  clear h2 h3 hby
  have HI0 := Lib.hid (hbl.alloc (.cells #[.int .i64 p, .int .i64 L, .slice a S.length cap] 24))
  have HJ0 := Lib.hid (Job.new ha p L cap 24)
  have HB0 := Lib.hid (Below.new w (.cells #[.int .i64 p, .int .i64 L, .slice a S.length cap] 24))
  clear ha hbl
  have HF := fine_any a cap p L S (w.alloc (.cells #[.int .i64 p, .int .i64 L, .slice a S.length cap] 24)) HJ0.out.st
  by_cases hc : P.checkJob p L S = 0
  · rw [decide_eq_true hc] at HF
    have HF := Lib.hid HF
    have HZ := Lib.hid hc
    have HV := Lib.hid (P.checkJob_iff.1 hc)
    have hl : S.length ≤ 1000000 := by have := HV.out.len; omega
    clear hc
    by_cases h30 : 30 < by_.length
    · have h30I : (30 : Int) < (by_.length : Int) := by omega
      clear h30
      go_enter Try.func7, Try.ntmps7
      go_wp2_with fail
      refine (HF.out).mono ?_
      rintro e w1 ⟨rfl, hb⟩
      have HJ1 := Lib.hid (HJ0.out.on hb)
      have HB2 := Lib.hid (HB0.out.trans (hb.mono HB0.out.size))
      have HI3 := Lib.hid (HI0.out.below hb)
      clear hb
      go_wp2_with fail
      refine (works_any _).mono ?_
      rintro e w2 ⟨rfl, hb⟩
      have HJ4 := Lib.hid (HJ1.out.on hb)
      have HB5 := Lib.hid (HB2.out.trans (hb.mono HB2.out.size))
      have HI6 := Lib.hid (HI3.out.below hb)
      clear hb
      go_wp2_with fail
      go_ret
      exact ⟨rfl, HB5.out⟩
    · have h30I : ¬ (30 : Int) < (by_.length : Int) := by omega
      have hl30 : by_.length ≤ 1000 := by omega
      have hL1 := HV.out.l1
      have hL20 := HV.out.l20
      have hA0 := Int.emod_nonneg n2 (b := L) (by omega)
      have hA1 := Int.emod_lt_of_pos n2 (b := L) (by omega)
      have q1 : n2.tmod L = n2 % L := tmod_pos hn2.1
      have hne : L ≠ 0 := by omega
      have k0 : IntKind.i64.wrap n2 = n2 := IntWalk.i64_in _ (by omega)
      have k1 : IntKind.i64.wrap n3 = n3 := IntWalk.i64_in _ (by omega)
      generalize n2 % L = A at *
      have k2 : IntKind.i64.wrap A = A := IntWalk.i64_in _ (by omega)
      have hM0 := Int.emod_nonneg n3 (b := L - A) (by omega)
      have hM1 := Int.emod_lt_of_pos n3 (b := L - A) (by omega)
      have q2 : n3.tmod (L - A) = n3 % (L - A) := tmod_pos hn3.1
      have hne2 : L - A ≠ 0 := by omega
      generalize n3 % (L - A) = M at *
      have k3 : IntKind.i64.wrap (L - A) = L - A := IntWalk.i64_in _ (by omega)
      have k4 : IntKind.i64.wrap M = M := IntWalk.i64_in _ (by omega)
      have k5 : IntKind.i64.wrap (A + M) = A + M := IntWalk.i64_in _ (by omega)
      have HA : Hid (0 ≤ A ∧ A ≤ A + M ∧ A + M < L) := Lib.hid ⟨hA0, by omega, by omega⟩
      have HFl := Lib.hid (givenL_length S by_ S.length)
      clear h30
      cases hf : P.fitsB S p L
      · have Hfb := Lib.hid hf
        have HNF : Hid (¬ P.Fits S p L) := Lib.hid (fun h => by have := P.fitsB_iff.2 h; rw [hf] at this; cases this)
        clear hf
        go_enter Try.func7, Try.ntmps7
        go_wp2_with fail
        refine (HF.out).mono ?_
        rintro e w1 ⟨rfl, hb⟩
        have HJ7 := Lib.hid (HJ0.out.on hb)
        have HB8 := Lib.hid (HB0.out.trans (hb.mono HB0.out.size))
        have HI9 := Lib.hid (HI0.out.below hb)
        clear hb
        have hC := planned_any a cap p L S w1 HZ.out HJ7.out.st
        rw [Hfb.out] at hC
        have HC := Lib.hid hC
        clear hC
        have x10 := HJ7.out.x1
        have x11 := HJ7.out.x2
        have x12 := HJ7.out.x3
        go_wp2_with fail
        refine HC.out.mono ?_
        rintro e w2 ⟨rfl, hb⟩
        have HJ13 := Lib.hid (HJ7.out.on hb)
        have HB14 := Lib.hid (HB8.out.trans (hb.mono HB8.out.size))
        have HI15 := Lib.hid (HI9.out.below hb)
        clear x10 x11 x12
        clear hb HC
        have x16 := HJ13.out.x1
        have x17 := HJ13.out.x2
        have x18 := HJ13.out.x3
        go_wp2_with fail
        refine (given_any a cap p L S b cap2 by_ w2 HV.out HJ13.out.st HI15.out HBy.out hl30).mono ?_
        rintro e w3 ⟨v4, rfl, hown, hb⟩
        obtain ⟨-, A4, C4, rfl, hi4, -⟩ := Ints.of_ownsRow hown
        have HJ19 := Lib.hid (HJ13.out.on hb)
        have HB20 := Lib.hid (HB14.out.trans (hb.mono HB14.out.size))
        have HI21 := Lib.hid (HI15.out.below hb)
        clear x16 x17 x18
        have IG := Lib.hid hi4
        clear hb hown hi4
        have hgl : (givenL S by_ S.length).length ≤ 1000000 := by rw [HFl.out]; exact hl
        have HCp := Lib.hid (given_full HZ.out HNF.out by_)
        have HFl2 := HFl.out
        generalize givenL S by_ S.length = G at *
        rw [← HFl2]
        clear HFl2
        have hC := checkPlan_any a cap p L S A4 C4 G w3 hl hgl HJ19.out.st IG.out
        rw [HCp.out] at hC
        have HC := Lib.hid hC
        clear hC
        have x22 := HJ19.out.x1
        have x23 := HJ19.out.x2
        have x24 := HJ19.out.x3
        go_wp2_with fail
        refine HC.out.mono ?_
        rintro e w4 ⟨rfl, hb⟩
        have HJ25 := Lib.hid (HJ19.out.on hb)
        have HB26 := Lib.hid (HB20.out.trans (hb.mono HB20.out.size))
        have IG27 := Lib.hid (IG.out.below hb)
        clear x22 x23 x24
        clear hb HC
        by_cases hcnt : (P.cnt S A (A + M) : Int) ≤ p * (A + M - A + 1)
        · have HWn := Lib.hid (windowE_sum HZ.out HA.out hcnt)
          clear hcnt
          have r0 := cell_regrown HJ25.out.x1
          have r1 := cell_regrown HJ25.out.x2
          have r2 := cell_regrown HJ25.out.x3
          have cA : ∀ dd os, Calls Try.prog 30 #[jobV p L a S.length cap, .int .i64 A, .int .i64 (A + M)] (Go.Sort.grow (redrawn w4 dd) os) fun e w'' => e = .returned (.tuple #[.int .i64 (P.windowE p L S A (A + M)).1, .int .i64 14]) ∧ ∃ p : Regrown, w'' = Go.Sort.grow (redrawn w4 p.d) p.os := fun dd os =>
            Calls.regrown_of (by have := checkWindow_any a cap p L S A (A + M) (Go.Sort.grow (redrawn w4 dd) os) hl (HJ25.out.st.below (below_regrown w4 dd os)); rw [HWn.out] at this ⊢; exact this)
          have x28 := HJ25.out.x1
          have x29 := HJ25.out.x2
          have x30 := HJ25.out.x3
          go_wp2_with fail
          clear x28 x29 x30
          refine wp_region_quiet_below (by kernel_rfl) (by kernel_rfl) ?_
          repeat (quiet_step (exact cA _ _))
          refine wpQuiet_nil ?_
          intro _ hw'
          obtain ⟨⟨dq, osq⟩, hw''⟩ := hw'
          subst hw''
          have hb := below_regrown w4 dq osq
          clear r0 r1 r2 cA
          have HJ31 := Lib.hid (HJ25.out.on hb)
          have HB32 := Lib.hid (HB26.out.trans (hb.mono HB26.out.size))
          have IG33 := Lib.hid (IG27.out.below hb)
          clear hb
          have hC := refCheckPlan_any a cap p L S A4 C4 G (Go.Sort.grow (redrawn w4 dq) osq) hl hgl HJ31.out.st IG33.out
          rw [HCp.out] at hC
          have HC := Lib.hid hC
          clear hC
          have x34 := HJ31.out.x1
          have x35 := HJ31.out.x2
          have x36 := HJ31.out.x3
          go_wp2_with fail
          refine HC.out.mono ?_
          rintro e w5 ⟨rfl, hb⟩
          have HJ37 := Lib.hid (HJ31.out.on hb)
          have HB38 := Lib.hid (HB32.out.trans (hb.mono HB32.out.size))
          have IG39 := Lib.hid (IG33.out.below hb)
          clear x34 x35 x36
          clear hb HC
          go_wp2_with fail
          refine (works_any _).mono ?_
          rintro e w6 ⟨rfl, hb⟩
          have HJ40 := Lib.hid (HJ37.out.on hb)
          have HB41 := Lib.hid (HB38.out.trans (hb.mono HB38.out.size))
          have IG42 := Lib.hid (IG39.out.below hb)
          clear hb
          go_wp2_with fail
          go_ret
          exact ⟨rfl, HB41.out⟩
        · have HWn := Lib.hid (windowE_ok HZ.out HA.out hcnt)
          clear hcnt
          have r0 := cell_regrown HJ25.out.x1
          have r1 := cell_regrown HJ25.out.x2
          have r2 := cell_regrown HJ25.out.x3
          have cA : ∀ dd os, Calls Try.prog 30 #[jobV p L a S.length cap, .int .i64 A, .int .i64 (A + M)] (Go.Sort.grow (redrawn w4 dd) os) fun e w'' => e = .returned (.tuple #[.int .i64 (P.windowE p L S A (A + M)).1, .int .i64 0]) ∧ ∃ p : Regrown, w'' = Go.Sort.grow (redrawn w4 p.d) p.os := fun dd os =>
            Calls.regrown_of (by have := checkWindow_any a cap p L S A (A + M) (Go.Sort.grow (redrawn w4 dd) os) hl (HJ25.out.st.below (below_regrown w4 dd os)); rw [HWn.out] at this ⊢; exact this)
          have x43 := HJ25.out.x1
          have x44 := HJ25.out.x2
          have x45 := HJ25.out.x3
          go_wp2_with fail
          clear x43 x44 x45
          refine wp_region_quiet_below (by kernel_rfl) (by kernel_rfl) ?_
          repeat (quiet_step (exact cA _ _))
          refine wpQuiet_nil ?_
          intro _ hw'
          obtain ⟨⟨dq, osq⟩, hw''⟩ := hw'
          subst hw''
          have hb := below_regrown w4 dq osq
          clear r0 r1 r2 cA
          have HJ46 := Lib.hid (HJ25.out.on hb)
          have HB47 := Lib.hid (HB26.out.trans (hb.mono HB26.out.size))
          have IG48 := Lib.hid (IG27.out.below hb)
          clear hb
          have hC := refCheckPlan_any a cap p L S A4 C4 G (Go.Sort.grow (redrawn w4 dq) osq) hl hgl HJ46.out.st IG48.out
          rw [HCp.out] at hC
          have HC := Lib.hid hC
          clear hC
          have x49 := HJ46.out.x1
          have x50 := HJ46.out.x2
          have x51 := HJ46.out.x3
          go_wp2_with fail
          refine HC.out.mono ?_
          rintro e w5 ⟨rfl, hb⟩
          have HJ52 := Lib.hid (HJ46.out.on hb)
          have HB53 := Lib.hid (HB47.out.trans (hb.mono HB47.out.size))
          have IG54 := Lib.hid (IG48.out.below hb)
          clear x49 x50 x51
          clear hb HC
          go_wp2_with fail
          refine (works_any _).mono ?_
          rintro e w6 ⟨rfl, hb⟩
          have HJ55 := Lib.hid (HJ52.out.on hb)
          have HB56 := Lib.hid (HB53.out.trans (hb.mono HB53.out.size))
          have IG57 := Lib.hid (IG54.out.below hb)
          clear hb
          go_wp2_with fail
          go_ret
          exact ⟨rfl, HB56.out⟩
      · have Hfb := Lib.hid hf
        have HFt := Lib.hid (P.fitsB_iff.1 hf)
        clear hf
        go_enter Try.func7, Try.ntmps7
        go_wp2_with fail
        refine (HF.out).mono ?_
        rintro e w1 ⟨rfl, hb⟩
        have HJ58 := Lib.hid (HJ0.out.on hb)
        have HB59 := Lib.hid (HB0.out.trans (hb.mono HB0.out.size))
        have HI60 := Lib.hid (HI0.out.below hb)
        clear hb
        have hC := planned_any a cap p L S w1 HZ.out HJ58.out.st
        rw [Hfb.out] at hC
        have HC := Lib.hid hC
        clear hC
        have x61 := HJ58.out.x1
        have x62 := HJ58.out.x2
        have x63 := HJ58.out.x3
        go_wp2_with fail
        refine HC.out.mono ?_
        rintro e w2 ⟨rfl, hb⟩
        have HJ64 := Lib.hid (HJ58.out.on hb)
        have HB65 := Lib.hid (HB59.out.trans (hb.mono HB59.out.size))
        have HI66 := Lib.hid (HI60.out.below hb)
        clear x61 x62 x63
        clear hb HC
        have x67 := HJ64.out.x1
        have x68 := HJ64.out.x2
        have x69 := HJ64.out.x3
        go_wp2_with fail
        refine (given_any a cap p L S b cap2 by_ w2 HV.out HJ64.out.st HI66.out HBy.out hl30).mono ?_
        rintro e w3 ⟨v4, rfl, hown, hb⟩
        obtain ⟨-, A4, C4, rfl, hi4, -⟩ := Ints.of_ownsRow hown
        have HJ70 := Lib.hid (HJ64.out.on hb)
        have HB71 := Lib.hid (HB65.out.trans (hb.mono HB65.out.size))
        have HI72 := Lib.hid (HI66.out.below hb)
        clear x67 x68 x69
        have IG := Lib.hid hi4
        clear hb hown hi4
        have hgl : (givenL S by_ S.length).length ≤ 1000000 := by rw [HFl.out]; exact hl
        have HBf := Lib.hid (fun h => before_no (l := givenL S by_ S.length) HFt.out h)
        have HFl2 := HFl.out
        generalize givenL S by_ S.length = G at *
        rw [← HFl2]
        clear HFl2
        have hC := checkPlan_any a cap p L S A4 C4 G w3 hl hgl HJ70.out.st IG.out
        have HC := Lib.hid hC
        clear hC
        have x73 := HJ70.out.x1
        have x74 := HJ70.out.x2
        have x75 := HJ70.out.x3
        go_wp2_with fail
        refine HC.out.mono ?_
        rintro e w4 ⟨rfl, hb⟩
        have HJ76 := Lib.hid (HJ70.out.on hb)
        have HB77 := Lib.hid (HB71.out.trans (hb.mono HB71.out.size))
        have IG78 := Lib.hid (IG.out.below hb)
        clear x73 x74 x75
        clear hb HC
        have HPe := Lib.hid (planE_yes HZ.out Hfb.out)
        have hpl : (P.plan S p L).length ≤ 1000000 := by rw [plan_len HV.out HFt.out]; exact hl
        have HWn := Lib.hid (windowE_sum HZ.out HA.out (HFt.out A (A + M) HA.out.1 HA.out.2.1 HA.out.2.2))
        have r0 := cell_regrown HJ76.out.x1
        have r1 := cell_regrown HJ76.out.x2
        have r2 := cell_regrown HJ76.out.x3
        have cA : ∀ dd os, Calls Try.prog 30 #[jobV p L a S.length cap, .int .i64 A, .int .i64 (A + M)] (Go.Sort.grow (redrawn w4 dd) os) fun e w'' => e = .returned (.tuple #[.int .i64 (P.windowE p L S A (A + M)).1, .int .i64 14]) ∧ ∃ p : Regrown, w'' = Go.Sort.grow (redrawn w4 p.d) p.os := fun dd os =>
          Calls.regrown_of (by have := checkWindow_any a cap p L S A (A + M) (Go.Sort.grow (redrawn w4 dd) os) hl (HJ76.out.st.below (below_regrown w4 dd os)); rw [HWn.out] at this ⊢; exact this)
        have x79 := HJ76.out.x1
        have x80 := HJ76.out.x2
        have x81 := HJ76.out.x3
        go_wp2_with fail
        clear x79 x80 x81
        refine wp_region_quiet_below (by kernel_rfl) (by kernel_rfl) ?_
        repeat (quiet_step (exact cA _ _))
        refine wpQuiet_nil ?_
        intro _ hw'
        obtain ⟨⟨dq, osq⟩, hw''⟩ := hw'
        subst hw''
        have hb := below_regrown w4 dq osq
        clear r0 r1 r2 cA
        have HJ82 := Lib.hid (HJ76.out.on hb)
        have HB83 := Lib.hid (HB77.out.trans (hb.mono HB77.out.size))
        have IG84 := Lib.hid (IG78.out.below hb)
        clear hb
        have hC := refCheckPlan_any a cap p L S A4 C4 G (Go.Sort.grow (redrawn w4 dq) osq) hl hgl HJ82.out.st IG84.out
        have HC := Lib.hid hC
        clear hC
        have x85 := HJ82.out.x1
        have x86 := HJ82.out.x2
        have x87 := HJ82.out.x3
        go_wp2_with fail
        refine HC.out.mono ?_
        rintro e w5 ⟨rfl, hb⟩
        have HJ88 := Lib.hid (HJ82.out.on hb)
        have HB89 := Lib.hid (HB83.out.trans (hb.mono HB83.out.size))
        have IG90 := Lib.hid (IG84.out.below hb)
        clear x85 x86 x87
        clear hb HC
        have hC := plan_any a cap p L S w5 hl HJ88.out.st
        rw [HPe.out] at hC
        dsimp only at hC
        have HC := Lib.hid hC
        clear hC
        have x91 := HJ88.out.x1
        have x92 := HJ88.out.x2
        have x93 := HJ88.out.x3
        go_wp2_with fail
        refine HC.out.mono ?_
        rintro e w6 ⟨Ap, Cp, rfl, hi, hb⟩
        have HJ94 := Lib.hid (HJ88.out.on hb)
        have HB95 := Lib.hid (HB89.out.trans (hb.mono HB89.out.size))
        have IG96 := Lib.hid (IG90.out.below hb)
        have Ip := Lib.hid hi
        clear x91 x92 x93
        clear hb hi HC
        by_cases he : P.checkPlan p L S G = 0
        · have hB := before_any A4 C4 G Ap Cp (P.plan S p L) w6 hgl hpl IG96.out Ip.out
          rw [HBf.out he] at hB
          have HC := Lib.hid hB
          have heb : (P.checkPlan p L S G != 0) = false := by simp [he]
          clear he hB
          generalize P.checkPlan p L S G = E at *
          go_wp2_with fail
          refine HC.out.mono ?_
          rintro e w7 ⟨rfl, hb⟩
          have HJ97 := Lib.hid (HJ94.out.on hb)
          have HB98 := Lib.hid (HB95.out.trans (hb.mono HB95.out.size))
          have IG99 := Lib.hid (IG96.out.below hb)
          have Ip100 := Lib.hid (Ip.out.below hb)
          clear hb HC
          go_wp2_with fail
          refine (works_any _).mono ?_
          rintro e w8 ⟨rfl, hb⟩
          have HJ101 := Lib.hid (HJ97.out.on hb)
          have HB102 := Lib.hid (HB98.out.trans (hb.mono HB98.out.size))
          have IG103 := Lib.hid (IG99.out.below hb)
          have Ip104 := Lib.hid (Ip100.out.below hb)
          clear hb
          go_wp2_with fail
          go_ret
          exact ⟨rfl, HB102.out⟩
        · have heb := ne_bool he
          clear he
          generalize P.checkPlan p L S G = E at *
          go_wp2_with fail
          refine (works_any _).mono ?_
          rintro e w7 ⟨rfl, hb⟩
          have HJ105 := Lib.hid (HJ94.out.on hb)
          have HB106 := Lib.hid (HB95.out.trans (hb.mono HB95.out.size))
          have IG107 := Lib.hid (IG96.out.below hb)
          have Ip108 := Lib.hid (Ip.out.below hb)
          clear hb
          go_wp2_with fail
          go_ret
          exact ⟨rfl, HB106.out⟩
  · rw [decide_eq_false hc] at HF
    have HF := Lib.hid HF
    clear hc
    go_enter Try.func7, Try.ntmps7
    go_wp2_with fail
    refine (HF.out).mono ?_
    rintro e w1 ⟨rfl, hb⟩
    have HJ109 := Lib.hid (HJ0.out.on hb)
    have HB110 := Lib.hid (HB0.out.trans (hb.mono HB0.out.size))
    have HI111 := Lib.hid (HI0.out.below hb)
    clear hb
    go_wp2_with fail
    refine (works_any _).mono ?_
    rintro e w2 ⟨rfl, hb⟩
    have HJ112 := Lib.hid (HJ109.out.on hb)
    have HB113 := Lib.hid (HB110.out.trans (hb.mono HB110.out.size))
    have HI114 := Lib.hid (HI111.out.below hb)
    clear hb
    go_wp2_with fail
    go_ret
    exact ⟨rfl, HB113.out⟩
end Go.Proofs.Ytpkffjcmoghaaaa
/- Plain Lean: sets of stars as bits; heaviest choices. -/
namespace Go.Proofs.Ytpkffjcmoghaaaa
open Go.RowKit Go.Lib Go.Sort
theorem nth_intsN {l : List Nat} {i : Nat} (h : i < l.length) : nth (intsN l) i = (l[i] : Int) := by
  unfold nth intsN; simp [h]
theorem isList_nat {l : List Nat} {n : Nat} (hs : l.Pairwise (· < ·)) (hn : ∀ x ∈ l, x < n) : P.isList (intsN l) n = true := by
  refine isList_iff.2 fun i hi => ?_
  rw [intsN_length] at hi
  rw [nth_intsN hi]
  have h1 := hn _ (List.getElem_mem hi)
  refine ⟨by omega, by omega, fun h0 => ?_⟩
  rw [nth_intsN (by omega)]
  have := List.pairwise_iff_getElem.1 hs (i - 1) i (by omega) hi (by omega)
  omega
theorem struck_nat {p L : Int} {S : List P.Star} (hc : P.checkJob p L S = 0) {l : List Nat} (hs : l.Pairwise (· < ·)) (hn : ∀ x ∈ l, x < S.length) : P.struckE p L S (intsN l) = if P.fitsB (P.sel S l) p L then (P.weigh S l, 0) else (0, 13) := by
  have h := isList_nat hs hn
  cases hf : P.fitsB (P.sel S l) p L with
  | true => rw [struckE_yes hc h (by rw [idx_intsN]; exact hf), idx_intsN]; rfl
  | false => rw [struckE_no hc h (by rw [idx_intsN]; exact hf)]; rfl
theorem lt_nodup {l : List Nat} (hs : l.Pairwise (· < ·)) : l.Nodup := hs.imp fun h => by omega
theorem set_of_fits {p L : Int} {S : List P.Star} {l : List Nat} (hf : P.fitsB (P.sel S l) p L = true) (hs : l.Nodup) (hn : ∀ x ∈ l, x < S.length) : P.Set_ S p L l := ⟨P.fitsB_iff.1 hf, hs, hn⟩
/-- The stars that Chosen gives. -/
def best (p L : Int) (S : List P.Star) : List Nat := P.sorted S (P.chosen S p L [] (-1))
section
variable {p L : Int} {S : List P.Star}
theorem best_set0 (hv : P.Valid p L S) : P.Set_ S p L (P.chosen S p L [] (-1)) := P.chosen_set (P.set_nil hv) (-1)
theorem best_perm (hv : P.Valid p L S) : (best p L S).Perm (P.chosen S p L [] (-1)) := P.sorted_perm (best_set0 hv).nd (best_set0 hv).inn
theorem best_lt (_hv : P.Valid p L S) : (best p L S).Pairwise (· < ·) := P.sorted_lt _ _
theorem best_in (hv : P.Valid p L S) : ∀ x ∈ best p L S, x < S.length := fun x hx => (best_set0 hv).inn x ((best_perm hv).mem_iff.1 hx)
theorem best_set (hv : P.Valid p L S) : P.Set_ S p L (best p L S) := ⟨(best_set0 hv).ind.perm (best_perm hv).symm, lt_nodup (best_lt hv), best_in hv⟩
theorem best_len (hv : P.Valid p L S) : (best p L S).length ≤ S.length := P.set_len (best_set hv)
theorem best_struck (hc : P.checkJob p L S = 0) : P.struckE p L S (intsN (best p L S)) = (P.heavy S p L, 0) := by
  have hv := P.checkJob_iff.1 hc
  rw [struck_nat hc (best_lt hv) (best_in hv), P.fitsB_iff.2 (best_set hv).ind, P.weigh_perm (best_perm hv)]
  rfl
theorem bitsL_lt (n b : Nat) : (bitsL n b).Pairwise (· < ·) := List.Pairwise.filter _ List.pairwise_lt_range
theorem bitsL_mem {n b i : Nat} : i ∈ bitsL n b ↔ i < n ∧ b.testBit i = true := by simp [bitsL]
theorem bits_struck (hc : P.checkJob p L S = 0) (b : Nat) : ∃ W e, P.struckE p L S (intsN (bitsL S.length b)) = (W, e) ∧ (e = 13 ∨ e = 0 ∧ W ≤ P.heavy S p L ∧ (bitsL S.length b).length ≤ (best p L S).length) := by
  have hv := P.checkJob_iff.1 hc
  have hin : ∀ x ∈ bitsL S.length b, x < S.length := fun x hx => (bitsL_mem.1 hx).1
  rw [struck_nat hc (bitsL_lt _ _) hin]
  cases hf : P.fitsB (P.sel S (bitsL S.length b)) p L with
  | false => exact ⟨_, _, rfl, .inl rfl⟩
  | true =>
    have hs := set_of_fits hf (lt_nodup (bitsL_lt _ _)) hin
    refine ⟨_, _, rfl, .inr ⟨rfl, P.heavy_le hv hs, ?_⟩⟩
    rw [(best_perm hv).length_eq]
    exact P.chosen_most hv (P.set_nil hv) (-1) hs (fun i _ _ => by omega)
/-- The bits of a list. -/
def bitOf : List Nat → Nat
  | [] => 0
  | i :: l => 2 ^ i ||| bitOf l
theorem bitOf_test (l : List Nat) (j : Nat) : (bitOf l).testBit j = decide (j ∈ l) := by
  induction l with
  | nil => simp [bitOf]
  | cons i l ih =>
    rw [bitOf, Nat.testBit_or, ih, Nat.testBit_two_pow]
    by_cases h : i = j
    · subst h; simp
    · have h' : j ≠ i := fun e => h e.symm
      simp [h, h']
theorem bitOf_lt {l : List Nat} (h : ∀ i ∈ l, i < 16) : bitOf l < 65536 := by
  induction l with
  | nil => simp [bitOf]
  | cons i l ih =>
    have h1 := h i (by simp)
    have h2 := ih (fun j hj => h j (by simp [hj]))
    have h3 : 2 ^ i < 2 ^ 16 := Nat.pow_lt_pow_right (by decide) h1
    exact Nat.or_lt_two_pow (n := 16) h3 h2
theorem bitOf_snoc (l : List Nat) (i : Nat) : bitOf (l ++ [i]) = bitOf l ||| 2 ^ i := by
  refine Nat.eq_of_testBit_eq fun j => ?_
  rw [Nat.testBit_or, bitOf_test, bitOf_test, Nat.testBit_two_pow]
  by_cases h : i = j
  · subst h; simp
  · have h' : j ≠ i := fun e => h e.symm
    simp [h, h']
theorem bitOf_next (l : List Nat) {k : Nat} (h : k < l.length) : bitOf (l.take (k + 1)) = bitOf (l.take k) ||| 2 ^ l[k] := by
  rw [List.take_succ_eq_append_getElem h, bitOf_snoc]
theorem or_u16 {a b : Nat} (ha : a < 65536) (hb : b < 65536) : bits .or .u16 (a : Int) (b : Int) = ((a ||| b : Nat) : Int) := (bits_nat .u16 16 (by decide) wraps_u16 a b (by omega) (by omega)).2
theorem shl_u16 {i : Nat} (hi : i < 16) : IntKind.u16.wrap (1 * 2 ^ i) = ((2 ^ i : Nat) : Int) := by
  have h3 : 2 ^ i < 2 ^ 16 := Nat.pow_lt_pow_right (by decide) hi
  have e : (1 : Int) * 2 ^ i = ((2 ^ i : Nat) : Int) := by simp
  rw [e]
  have h3' : 2 ^ i < 65536 := h3
  have h4 := Int.ofNat_lt.2 h3'
  have h5 : (0 : Int) ≤ ((2 ^ i : Nat) : Int) := Int.natCast_nonneg _
  generalize ((2 ^ i : Nat) : Int) = z at *
  exact wraps_u16 _ h5 (by omega)
/-- With a star more there is no plan. -/
theorem best_full (hc : P.checkJob p L S = 0) {i : Nat} (hi : i < S.length) (hn : i ∉ best p L S) : P.struckE p L S (intsN (bitsL S.length (bitOf (best p L S) ||| 2 ^ i))) = (0, 13) := by
  have hv := P.checkJob_iff.1 hc
  have hin : ∀ x ∈ bitsL S.length (bitOf (best p L S) ||| 2 ^ i), x < S.length := fun x hx => (bitsL_mem.1 hx).1
  rw [struck_nat hc (bitsL_lt _ _) hin]
  cases hf : P.fitsB (P.sel S (bitsL S.length (bitOf (best p L S) ||| 2 ^ i))) p L with
  | false => rfl
  | true =>
    exfalso
    have hs := set_of_fits hf (lt_nodup (bitsL_lt _ _)) hin
    have h1 := P.chosen_most hv (P.set_nil hv) (-1) hs (fun i _ _ => by omega)
    rw [← (best_perm hv).length_eq] at h1
    have h2 : (i :: best p L S).length ≤ (bitsL S.length (bitOf (best p L S) ||| 2 ^ i)).length := by
      refine List.Nodup.length_le_of_subset (List.nodup_cons.2 ⟨hn, lt_nodup (best_lt hv)⟩) fun x hx => bitsL_mem.2 ?_
      rw [Nat.testBit_or, bitOf_test, Nat.testBit_two_pow]
      rcases List.mem_cons.1 hx with rfl | hx
      · exact ⟨hi, by simp⟩
      · exact ⟨best_in hv x hx, by simp [hx]⟩
    simp only [List.length_cons] at h2
    omega
end
/-- A slice of numbers. -/
def KLs (l : List Int) : Known := fun v w => ∃ A C, v = .slice A l.length C ∧ Ints .i64 w A l
theorem KLs.st (l : List Int) : ∀ v w w', KLs l v w → Below w.heap.size w w' → KLs l v w' := fun _ _ _ ⟨A, C, e, h⟩ hb => ⟨A, C, e, h.below hb⟩
section
variable {Q : Exit → Act → World → Prop} {R : List Known} {ks : List Nat} {a : Act} {w : World} {i : Nat} {dst : Option Tmp} {ty : TypeId} {pos : String} {after : Array Edge}
set_option maxRecDepth 20000 in
theorem step_listed {p L : Int} {ad : Option Addr} {cap : Nat} {S : List P.Star} {b j1 j2 q1 q2 : Nat} {ats : Array TypeId} (hn : S.length ≤ 16) (hb6 : b < 65536)
    (hq1 : ks.getD j1 0 = q1) (hj1 : j1 ∈ (after.toList.filter (fun e => Region.binds .any e)).map (fun e => e.on)) (hR1 : Rat R j1 = KEq (jobV p L ad S.length cap))
    (hq2 : ks.getD j2 0 = q2) (hj2 : j2 ∈ (after.toList.filter (fun e => Region.binds .any e)).map (fun e => e.on)) (hR2 : Rat R j2 = KEq (.int .u16 b)) (hR : Rat R i = KLs (intsN (bitsL S.length b))) :
    StepG Try.prog Q R ks a w i ⟨dst, .call { callee := .value (.func 46), args := #[.tmp q1, .tmp q2], argTypes := ats }, ty, pos, after, none⟩ := by
  intro a' w' hA hb hd K hK
  have e1 : a'.eval (.tmp q1) = jobV p L ad S.length cap := by have := hd j1 hj1; rw [hR1, hq1] at this; exact this
  have e2 : a'.eval (.tmp q2) = .int .u16 b := by have := hd j2 hj2; rw [hR2, hq2] at this; exact this
  refine op_call rfl (enters_of Try.func46 (by kernel_rfl) rfl) (args := #[jobV p L ad S.length cap, .int .u16 b]) (by simp [← e1, ← e2]) (listed_any ad cap p L S b w' hn hb6) (fun e' w'' ⟨v, h1, h2, h3⟩ => ⟨v, h1, ?_⟩)
  obtain ⟨-, A4, C4, rfl, hi4, -⟩ := Ints.of_ownsRow h2
  exact hK _ _ h3 (by rw [hR]; exact ⟨A4, C4, by rw [intsN_length], hi4⟩)
set_option maxRecDepth 20000 in
theorem step_struck2 {B : Nat} {p L : Int} {ad : Option Addr} {cap : Nat} {S : List P.Star} {j1 j2 q1 q2 : Nat} {l : List Int} {ats : Array TypeId} {c : Int × Int} (hJ : Job w B p L ad cap S) (hl : S.length ≤ 1000000) (hn : l.length ≤ 1000) (hc : P.struckE p L S l = c)
    (hq1 : ks.getD j1 0 = q1) (hj1 : j1 ∈ (after.toList.filter (fun e => Region.binds .any e)).map (fun e => e.on)) (hR1 : Rat R j1 = KEq (jobV p L ad S.length cap))
    (hq2 : ks.getD j2 0 = q2) (hj2 : j2 ∈ (after.toList.filter (fun e => Region.binds .any e)).map (fun e => e.on)) (hR2 : Rat R j2 = KLs l) (hR : Rat R i = KEq (.tuple #[.int .i64 c.1, .int .i64 c.2])) :
    StepG Try.prog Q R ks a w i ⟨dst, .call { callee := .value (.func 34), args := #[.tmp q1, .tmp q2], argTypes := ats }, ty, pos, after, none⟩ := by
  intro a' w' hA hb hd K hK
  have e1 : a'.eval (.tmp q1) = jobV p L ad S.length cap := by have := hd j1 hj1; rw [hR1, hq1] at this; exact this
  obtain ⟨A, C, e2, hi⟩ := (show KLs l _ _ by have := hd j2 hj2; rw [hR2, hq2] at this; exact this)
  refine op_call rfl (enters_of Try.func34 (by kernel_rfl) rfl) (args := #[jobV p L ad S.length cap, .slice A l.length C]) (by simp [← e1, ← e2]) (checkStruck_any ad cap p L S A C l w' hl (by omega) (hJ.on hb).st hi) (fun e' w'' ⟨h1, h2⟩ => ⟨_, h1, ?_⟩)
  exact hK _ _ h2 (by rw [hR]; show _ = _; rw [hc])
/-- A shift of one by a known number. -/
theorem step_shl {j q n : Nat} {t : Nat} (hn : n < 16) (hq : ks.getD j 0 = q) (hj : j ∈ (after.toList.filter (fun e => Region.binds .any e)).map (fun e => e.on)) (hRj : Rat R j = KEq (.int .i64 n)) (hR : Rat R i = KEq (.int .u16 ((2 ^ n : Nat) : Int))) :
    StepG Try.prog Q R ks a w i ⟨dst, .binOp .shl t (.const (.int .u16 1)) (.tmp q) 3, ty, pos, after, none⟩ := by
  intro a' w' hA hb hd K hK
  have e : a'.eval (.tmp q) = .int .i64 n := by have := hd j hj; rw [hRj, hq] at this; exact this
  have e' := tmp_of e
  have h0 : (0 : Int) ≤ (n : Int) := by omega
  have h1 := shl_u16 hn
  refine op_value (w' := w') (v := .int .u16 ((2 ^ n : Nat) : Int)) (by simp [execOp, go_sem, e']; simpa using h1) (hK _ _ (Below.refl _ _) (by rw [hR]; rfl))
theorem step_or {j1 j2 q1 q2 a1 a2 : Nat} {t t2 : Nat} (h1 : a1 < 65536) (h2 : a2 < 65536) (hq1 : ks.getD j1 0 = q1) (hj1 : j1 ∈ (after.toList.filter (fun e => Region.binds .any e)).map (fun e => e.on)) (hR1 : Rat R j1 = KEq (.int .u16 a1))
    (hq2 : ks.getD j2 0 = q2) (hj2 : j2 ∈ (after.toList.filter (fun e => Region.binds .any e)).map (fun e => e.on)) (hR2 : Rat R j2 = KEq (.int .u16 a2)) (hR : Rat R i = KEq (.int .u16 ((a1 ||| a2 : Nat) : Int))) :
    StepG Try.prog Q R ks a w i ⟨dst, .binOp .or t (.tmp q1) (.tmp q2) t2, ty, pos, after, none⟩ := by
  intro a' w' hA hb hd K hK
  have e1 : a'.eval (.tmp q1) = .int .u16 a1 := by have := hd j1 hj1; rw [hR1, hq1] at this; exact this
  have e2 : a'.eval (.tmp q2) = .int .u16 a2 := by have := hd j2 hj2; rw [hR2, hq2] at this; exact this
  have e1' := tmp_of e1
  have e2' := tmp_of e2
  have h := or_u16 h1 h2
  refine op_value (w' := w') (v := .int .u16 ((a1 ||| a2 : Nat) : Int)) (by simp [execOp, go_sem, e1', e2']; exact h) (hK _ _ (Below.refl _ _) (by rw [hR]; rfl))
end
end Go.Proofs.Ytpkffjcmoghaaaa
/- Walk of PunchHeavy. -/
namespace Go.Proofs.Ytpkffjcmoghaaaa
open Go.RowKit Go.Lib Go.Sort
set_option maxRecDepth 20000 in
set_option maxHeartbeats 4000000 in
theorem heavy_walk (a : Option Addr) (cap : Nat) (p L : Int) (S : List P.Star) (n1 : Int) (w : World) (ha : Stars w a S) (h1 : (Lit.int .u16 n1).wf = true) :
    Calls Try.prog 8 #[jobV p L a S.length cap, .int .u16 n1] w fun e w' => e = .returned (.bool true) ∧ Below w.heap.size w w' := by
  obtain ⟨b, rfl⟩ : ∃ b : Nat, n1 = b := ⟨n1.toNat, by have := u16_bd h1; omega⟩
  have hb6 : b < 65536 := by have := u16_bd h1; omega
  clear h1
  have HJ0 := Lib.hid (Job.new ha p L cap 24)
  have HB0 := Lib.hid (Below.new w (.cells #[.int .i64 p, .int .i64 L, .slice a S.length cap] 24))
  clear ha
  have HF := fine_any a cap p L S (w.alloc (.cells #[.int .i64 p, .int .i64 L, .slice a S.length cap] 24)) HJ0.out.st
  by_cases hc : P.checkJob p L S = 0
  · rw [decide_eq_true hc] at HF
    have HF := Lib.hid HF
    have HZ := Lib.hid hc
    have HV := Lib.hid (P.checkJob_iff.1 hc)
    have hl : S.length ≤ 1000000 := by have := HV.out.len; omega
    clear hc
    have HCh : Hid (P.chosenE p L S = (intsN (best p L S), 0)) := Lib.hid (chosenE_ok HZ.out)
    have HHv := Lib.hid (heavyE_ok HZ.out)
    have HSt := Lib.hid (best_struck HZ.out)
    have HIn := Lib.hid (best_in HV.out)
    have HLn := Lib.hid (best_len HV.out)
    have HFl := Lib.hid (fun i (hi : i < S.length) hn => best_full HZ.out (i := i) hi hn)
    have h16 : S.length ≤ 16 := HV.out.len
    obtain ⟨Wb, eb, hbs, hbr⟩ := bits_struck HZ.out b
    have HBs := Lib.hid hbs
    clear hbs
    generalize best p L S = D at *
    generalize P.heavy S p L = H at *
    have HlD := Lib.hid (intsN_length D)
    have hD16 : D.length ≤ 16 := by have := HLn.out; omega
    rcases hbr with rfl | ⟨rfl, hbW, hbL⟩
    · go_enter Try.func8, Try.ntmps8
      go_wp2_with fail
      refine (HF.out).mono ?_
      rintro e w1 ⟨rfl, hb⟩
      have HJ1 := Lib.hid (HJ0.out.on hb)
      have HB2 := Lib.hid (HB0.out.trans (hb.mono HB0.out.size))
      clear hb
      have hC := chosen_any a cap p L S w1 hl HJ1.out.st
      rw [HCh.out] at hC
      dsimp only at hC
      have HC := Lib.hid hC
      clear hC
      have x3 := HJ1.out.x1
      have x4 := HJ1.out.x2
      have x5 := HJ1.out.x3
      go_wp2_with fail
      refine HC.out.mono ?_
      rintro e w2 ⟨Ac, Cc, rfl, hi, hb⟩
      have HJ6 := Lib.hid (HJ1.out.on hb)
      have HB7 := Lib.hid (HB2.out.trans (hb.mono HB2.out.size))
      have Ic := Lib.hid hi
      clear x3 x4 x5
      clear hb hi HC
      have hC := heaviest_any a cap p L S w2 hl HJ6.out.st
      rw [HHv.out] at hC
      have HC := Lib.hid hC
      clear hC
      have x8 := HJ6.out.x1
      have x9 := HJ6.out.x2
      have x10 := HJ6.out.x3
      go_wp2_with fail
      refine HC.out.mono ?_
      rintro e w3 ⟨rfl, hb⟩
      have HJ11 := Lib.hid (HJ6.out.on hb)
      have HB12 := Lib.hid (HB7.out.trans (hb.mono HB7.out.size))
      have Ic13 := Lib.hid (Ic.out.below hb)
      clear x8 x9 x10
      clear hb HC
      have hC := checkStruck_any a cap p L S Ac Cc (intsN D) w3 hl (by first | (have := HlD.out; omega) | (rw [intsN_length]; have := bitsL_len S.length b; omega)) HJ11.out.st Ic13.out
      rw [HSt.out] at hC
      have HC := Lib.hid hC
      clear hC
      have x14 := HJ11.out.x1
      have x15 := HJ11.out.x2
      have x16 := HJ11.out.x3
      go_wp2_with fail
      refine HC.out.mono ?_
      rintro e w4 ⟨rfl, hb⟩
      have HJ17 := Lib.hid (HJ11.out.on hb)
      have HB18 := Lib.hid (HB12.out.trans (hb.mono HB12.out.size))
      have Ic19 := Lib.hid (Ic13.out.below hb)
      clear x14 x15 x16
      clear hb HC
      have hC := refCheckStruck_any a cap p L S Ac Cc (intsN D) w4 hl (by first | (have := HlD.out; omega) | (rw [intsN_length]; have := bitsL_len S.length b; omega)) HJ17.out.st Ic19.out
      rw [HSt.out] at hC
      have HC := Lib.hid hC
      clear hC
      have x20 := HJ17.out.x1
      have x21 := HJ17.out.x2
      have x22 := HJ17.out.x3
      go_wp2_with fail
      refine HC.out.mono ?_
      rintro e w5 ⟨rfl, hb⟩
      have HJ23 := Lib.hid (HJ17.out.on hb)
      have HB24 := Lib.hid (HB18.out.trans (hb.mono HB18.out.size))
      have Ic25 := Lib.hid (Ic19.out.below hb)
      clear x20 x21 x22
      clear hb HC
      have x26 := HJ23.out.x1
      have x27 := HJ23.out.x2
      have x28 := HJ23.out.x3
      go_wp2_with fail
      refine (listed_any a cap p L S b w5 h16 hb6).mono ?_
      rintro e w6 ⟨v4, rfl, hown, hb⟩
      obtain ⟨-, A4, C4, rfl, hi4, -⟩ := Ints.of_ownsRow hown
      have HJ29 := Lib.hid (HJ23.out.on hb)
      have HB30 := Lib.hid (HB24.out.trans (hb.mono HB24.out.size))
      have Ic31 := Lib.hid (Ic25.out.below hb)
      clear x26 x27 x28
      have I4 := Lib.hid hi4
      clear hb hown hi4
      have hC := checkStruck_any a cap p L S A4 C4 (intsN (bitsL S.length b)) w6 hl (by first | (have := HlD.out; omega) | (rw [intsN_length]; have := bitsL_len S.length b; omega)) HJ29.out.st I4.out
      rw [HBs.out] at hC
      rw [intsN_length] at hC
      have HC := Lib.hid hC
      clear hC
      have x32 := HJ29.out.x1
      have x33 := HJ29.out.x2
      have x34 := HJ29.out.x3
      go_wp2_with fail
      refine HC.out.mono ?_
      rintro e w7 ⟨rfl, hb⟩
      have HJ35 := Lib.hid (HJ29.out.on hb)
      have HB36 := Lib.hid (HB30.out.trans (hb.mono HB30.out.size))
      have Ic37 := Lib.hid (Ic31.out.below hb)
      have I438 := Lib.hid (I4.out.below hb)
      clear x32 x33 x34
      clear hb HC
      clear I4
      go_wp2_with fail
      go_loopw [14, 15] (fun t i wr => ∃ k : Nat, k ≤ D.length ∧ i = .int .i64 k ∧ t = .int .u16 ((bitOf (D.take k) : Nat) : Int) ∧ Drew w7 wr) (fun _ i _ => D.length - (intOf i).toNat)
      case atStart => exact ⟨0, by omega, rfl, rfl, Drew.refl _⟩
      case round =>
        obtain ⟨k, hk, rfl, rfl, hdr⟩ := hrel
        have hb := hdr.below w7.heap.size
        have HJ39 := Lib.hid (HJ35.out.on hb)
        have HB40 := Lib.hid (HB36.out.trans (hb.mono HB36.out.size))
        have Ic41 := Lib.hid (Ic37.out.below hb)
        clear hb
        by_cases hlt : k < D.length
        · obtain ⟨b1, o1, hA, c1⟩ := Ic41.out k (by have := HlD.out; omega)
          subst hA
          obtain ⟨d, hd⟩ : ∃ d, D[k] = d := ⟨_, rfl⟩
          rw [nth_intsN hlt, hd] at c1
          have hd16 : d < 16 := by have := HIn.out _ (List.getElem_mem hlt); rw [hd] at this; omega
          have HNx : Hid (bitOf (D.take (k + 1)) = bitOf (D.take k) ||| 2 ^ d) := Lib.hid (by rw [bitOf_next D hlt, hd])
          have hB6 : bitOf (D.take k) < 65536 := bitOf_lt fun i hi => by have := HIn.out i (List.mem_of_mem_take hi); omega
          have hsh := shl_u16 hd16
          have hsh2 : IntKind.u16.wrap ((2 : Int) ^ d) = ((2 ^ d : Nat) : Int) := by have := shl_u16 hd16; rw [Int.one_mul] at this; exact this
          have h2d : 2 ^ d < 65536 := Nat.pow_lt_pow_right (by decide) hd16
          have hor := or_u16 hB6 h2d
          have hd0 : (0 : Int) ≤ (d : Int) := by omega
          have hkI : (k : Int) < ((intsN D).length : Int) := by have := HlD.out; omega
          have hk0 : (0 : Int) ≤ (k : Int) := by omega
          clear hd
          generalize bitOf (D.take k) = B at *
          generalize 2 ^ d = z at *
          go_wp2_with fail
          go_roundw
          case rel => exact ⟨k + 1, by omega, by go_num, by rw [HNx.out], hdr⟩
          case measure => simp [intOf]; omega
        · have hkI : ¬ (k : Int) < ((intsN D).length : Int) := by have := HlD.out; omega
          have hkD : k = D.length := by omega
          subst hkD
          rw [List.take_length]
          have hkI2 := hkI
          clear hlt hk hdr
          go_wp2_with fail
          clear hkI hkI2
          obtain ⟨wo, hwo⟩ : ∃ wo : World, wo = wr := ⟨_, rfl⟩
          subst hwo
          have hB6 : bitOf D < 65536 := bitOf_lt fun i hi => by have := HIn.out i hi; omega
          have HMem := Lib.hid (bitOf_test D)
          generalize hBe : bitOf D = B at *
          clear hBe
          go_loopw [16, 17, 18] (fun i _ _ wr => ∃ k : Nat, k ≤ S.length ∧ i = .int .i64 k ∧ Hid (Below wo.heap.size wo wr)) (fun i _ _ _ => S.length - (intOf i).toNat)
          case atStart => exact ⟨0, by omega, rfl, Lib.hid (Below.refl _ _)⟩
          case round =>
            obtain ⟨k, hk, rfl, hbh⟩ := hrel
            have hb := hbh.out
            have HJ42 := Lib.hid (HJ39.out.on hb)
            have HB43 := Lib.hid (HB40.out.trans (hb.mono HB40.out.size))
            clear hb
            have x3 := HJ42.out.x3
            by_cases hlt : k < S.length
            · have hkI : (k : Int) < (S.length : Int) := by omega
              have hk0 : (0 : Int) ≤ (k : Int) := by omega
              have hand := shr_and B k hB6
              cases hbit : B.testBit k
              · have hnk : ¬ k ∈ D := by have := HMem.out k; rw [hbit] at this; simpa using this.symm
                have HFk := Lib.hid (HFl.out k hlt hnk)
                rw [hbit] at hand
                simp only [Bool.false_eq_true, if_false] at hand
                clear hbit hnk
                have hk16 : k < 16 := by omega
                have h2k : 2 ^ k < 65536 := Nat.pow_lt_pow_right (by decide) hk16
                have hor6 : B ||| 2 ^ k < 65536 := Nat.or_lt_two_pow (n := 16) hB6 h2k
                have hbl : (intsN (bitsL S.length (B ||| 2 ^ k))).length ≤ 1000 := by rw [intsN_length]; have := bitsL_len S.length (B ||| 2 ^ k); omega
                go_wp2_with fail
                refine wp_region_grows [126, 127, 128, 129, 130, 131, 132, 133, 125, 134, 135, 17, 18] [KEq (jobV p L a S.length cap), KEq (jobV p L a S.length cap), KEq (.int .u16 ((B : Nat) : Int)), KEq (.int .i64 ((k : Nat) : Int)), KEq (.int .u16 ((2 ^ k : Nat) : Int)), KEq (.int .u16 ((B ||| 2 ^ k : Nat) : Int)), KLs (intsN (bitsL S.length (B ||| 2 ^ k))), KEq (.tuple #[.int .i64 ((0 : Int), (13 : Int)).1, .int .i64 ((0 : Int), (13 : Int)).2]), KEq (.tuple #[.int .i64 ((0 : Int), (13 : Int)).1, .int .i64 ((0 : Int), (13 : Int)).2]), KEq (.int .i64 0), KEq (.int .i64 13), KEq (.int .i64 0), KEq (.int .i64 13)] (by kernel_rfl) (by kernel_rfl) (by kernel_rfl) rfl ⟨KEq.st (jobV p L a S.length cap), KEq.st (jobV p L a S.length cap), KEq.st (.int .u16 ((B : Nat) : Int)), KEq.st (.int .i64 ((k : Nat) : Int)), KEq.st (.int .u16 ((2 ^ k : Nat) : Int)), KEq.st (.int .u16 ((B ||| 2 ^ k : Nat) : Int)), KLs.st (intsN (bitsL S.length (B ||| 2 ^ k))), KEq.st (.tuple #[.int .i64 ((0 : Int), (13 : Int)).1, .int .i64 ((0 : Int), (13 : Int)).2]), KEq.st (.tuple #[.int .i64 ((0 : Int), (13 : Int)).1, .int .i64 ((0 : Int), (13 : Int)).2]), KEq.st (.int .i64 0), KEq.st (.int .i64 13), KEq.st (.int .i64 0), KEq.st (.int .i64 13), trivial⟩ ⟨step_loadJob HJ42.out (by decide) rfl rfl, step_loadJob HJ42.out (by decide) rfl rfl, step_moveOut (by decide) rfl rfl, step_moveOut (by decide) rfl rfl, step_shl (j := 3) hk16 rfl (by decide +kernel) rfl rfl, step_or (j1 := 2) (j2 := 4) hB6 h2k rfl (by decide +kernel) rfl rfl (by decide +kernel) rfl rfl, step_listed (j1 := 1) (j2 := 5) h16 hor6 rfl (by decide +kernel) rfl rfl (by decide +kernel) rfl rfl, step_struck2 (j1 := 0) (j2 := 6) HJ42.out hl hbl HFk.out rfl (by decide +kernel) rfl rfl (by decide +kernel) rfl rfl, step_move (j := 7) rfl (by decide +kernel) rfl rfl, step_extract (j := 8) rfl (by decide +kernel) rfl rfl rfl, step_extract (j := 8) rfl (by decide +kernel) rfl rfl rfl, step_assign (j := 9) rfl (by decide +kernel) rfl rfl, step_assign (j := 10) rfl (by decide +kernel) rfl rfl, trivial⟩ ?_
                rintro w8 hb _ rfl _ rfl _ rfl _ rfl _ rfl _ rfl _ ⟨_, _, rfl, -⟩ _ rfl _ rfl _ rfl _ rfl _ rfl _ rfl
                have HJ44 := Lib.hid (HJ42.out.on hb)
                have HB45 := Lib.hid (HB43.out.trans (hb.mono HB43.out.size))
                have hbh2 := Lib.hid (hbh.out.trans (hb.mono hbh.out.size))
                clear hb
                simp only [EndsG]
                go_simp
                go_wp2_with fail
                go_roundw
                case rel => exact ⟨k + 1, by omega, by go_num, hbh2⟩
                case measure => simp [intOf]; omega
              · rw [hbit] at hand
                simp only [if_true] at hand
                clear hbit
                go_wp2_with fail
                go_roundw
                case rel => exact ⟨k + 1, by omega, by go_num, hbh⟩
                case measure => simp [intOf]; omega
            · have hkI : ¬ (k : Int) < (S.length : Int) := by omega
              go_wp2_with fail
              clear hkI x3
              refine (works_any _).mono ?_
              rintro e w8 ⟨rfl, hb⟩
              have HJ46 := Lib.hid (HJ42.out.on hb)
              have HB47 := Lib.hid (HB43.out.trans (hb.mono HB43.out.size))
              clear hb
              go_wp2_with fail
              go_ret
              exact ⟨rfl, HB47.out⟩
    · have hW2 : ¬ H < Wb := by omega
      have hL2 : ¬ ((intsN D).length : Int) < ((bitsL S.length b).length : Int) := by have := HlD.out; omega
      go_enter Try.func8, Try.ntmps8
      go_wp2_with fail
      refine (HF.out).mono ?_
      rintro e w1 ⟨rfl, hb⟩
      have HJ48 := Lib.hid (HJ0.out.on hb)
      have HB49 := Lib.hid (HB0.out.trans (hb.mono HB0.out.size))
      clear hb
      have hC := chosen_any a cap p L S w1 hl HJ48.out.st
      rw [HCh.out] at hC
      dsimp only at hC
      have HC := Lib.hid hC
      clear hC
      have x50 := HJ48.out.x1
      have x51 := HJ48.out.x2
      have x52 := HJ48.out.x3
      go_wp2_with fail
      refine HC.out.mono ?_
      rintro e w2 ⟨Ac, Cc, rfl, hi, hb⟩
      have HJ53 := Lib.hid (HJ48.out.on hb)
      have HB54 := Lib.hid (HB49.out.trans (hb.mono HB49.out.size))
      have Ic := Lib.hid hi
      clear x50 x51 x52
      clear hb hi HC
      have hC := heaviest_any a cap p L S w2 hl HJ53.out.st
      rw [HHv.out] at hC
      have HC := Lib.hid hC
      clear hC
      have x55 := HJ53.out.x1
      have x56 := HJ53.out.x2
      have x57 := HJ53.out.x3
      go_wp2_with fail
      refine HC.out.mono ?_
      rintro e w3 ⟨rfl, hb⟩
      have HJ58 := Lib.hid (HJ53.out.on hb)
      have HB59 := Lib.hid (HB54.out.trans (hb.mono HB54.out.size))
      have Ic60 := Lib.hid (Ic.out.below hb)
      clear x55 x56 x57
      clear hb HC
      have hC := checkStruck_any a cap p L S Ac Cc (intsN D) w3 hl (by first | (have := HlD.out; omega) | (rw [intsN_length]; have := bitsL_len S.length b; omega)) HJ58.out.st Ic60.out
      rw [HSt.out] at hC
      have HC := Lib.hid hC
      clear hC
      have x61 := HJ58.out.x1
      have x62 := HJ58.out.x2
      have x63 := HJ58.out.x3
      go_wp2_with fail
      refine HC.out.mono ?_
      rintro e w4 ⟨rfl, hb⟩
      have HJ64 := Lib.hid (HJ58.out.on hb)
      have HB65 := Lib.hid (HB59.out.trans (hb.mono HB59.out.size))
      have Ic66 := Lib.hid (Ic60.out.below hb)
      clear x61 x62 x63
      clear hb HC
      have hC := refCheckStruck_any a cap p L S Ac Cc (intsN D) w4 hl (by first | (have := HlD.out; omega) | (rw [intsN_length]; have := bitsL_len S.length b; omega)) HJ64.out.st Ic66.out
      rw [HSt.out] at hC
      have HC := Lib.hid hC
      clear hC
      have x67 := HJ64.out.x1
      have x68 := HJ64.out.x2
      have x69 := HJ64.out.x3
      go_wp2_with fail
      refine HC.out.mono ?_
      rintro e w5 ⟨rfl, hb⟩
      have HJ70 := Lib.hid (HJ64.out.on hb)
      have HB71 := Lib.hid (HB65.out.trans (hb.mono HB65.out.size))
      have Ic72 := Lib.hid (Ic66.out.below hb)
      clear x67 x68 x69
      clear hb HC
      have x73 := HJ70.out.x1
      have x74 := HJ70.out.x2
      have x75 := HJ70.out.x3
      go_wp2_with fail
      refine (listed_any a cap p L S b w5 h16 hb6).mono ?_
      rintro e w6 ⟨v4, rfl, hown, hb⟩
      obtain ⟨-, A4, C4, rfl, hi4, -⟩ := Ints.of_ownsRow hown
      have HJ76 := Lib.hid (HJ70.out.on hb)
      have HB77 := Lib.hid (HB71.out.trans (hb.mono HB71.out.size))
      have Ic78 := Lib.hid (Ic72.out.below hb)
      clear x73 x74 x75
      have I4 := Lib.hid hi4
      clear hb hown hi4
      have hC := checkStruck_any a cap p L S A4 C4 (intsN (bitsL S.length b)) w6 hl (by first | (have := HlD.out; omega) | (rw [intsN_length]; have := bitsL_len S.length b; omega)) HJ76.out.st I4.out
      rw [HBs.out] at hC
      rw [intsN_length] at hC
      have HC := Lib.hid hC
      clear hC
      have x79 := HJ76.out.x1
      have x80 := HJ76.out.x2
      have x81 := HJ76.out.x3
      go_wp2_with fail
      refine HC.out.mono ?_
      rintro e w7 ⟨rfl, hb⟩
      have HJ82 := Lib.hid (HJ76.out.on hb)
      have HB83 := Lib.hid (HB77.out.trans (hb.mono HB77.out.size))
      have Ic84 := Lib.hid (Ic78.out.below hb)
      have I485 := Lib.hid (I4.out.below hb)
      clear x79 x80 x81
      clear hb HC
      clear I4
      go_wp2_with fail
      go_loopw [14, 15] (fun t i wr => ∃ k : Nat, k ≤ D.length ∧ i = .int .i64 k ∧ t = .int .u16 ((bitOf (D.take k) : Nat) : Int) ∧ Drew w7 wr) (fun _ i _ => D.length - (intOf i).toNat)
      case atStart => exact ⟨0, by omega, rfl, rfl, Drew.refl _⟩
      case round =>
        obtain ⟨k, hk, rfl, rfl, hdr⟩ := hrel
        have hb := hdr.below w7.heap.size
        have HJ86 := Lib.hid (HJ82.out.on hb)
        have HB87 := Lib.hid (HB83.out.trans (hb.mono HB83.out.size))
        have Ic88 := Lib.hid (Ic84.out.below hb)
        clear hb
        by_cases hlt : k < D.length
        · obtain ⟨b1, o1, hA, c1⟩ := Ic88.out k (by have := HlD.out; omega)
          subst hA
          obtain ⟨d, hd⟩ : ∃ d, D[k] = d := ⟨_, rfl⟩
          rw [nth_intsN hlt, hd] at c1
          have hd16 : d < 16 := by have := HIn.out _ (List.getElem_mem hlt); rw [hd] at this; omega
          have HNx : Hid (bitOf (D.take (k + 1)) = bitOf (D.take k) ||| 2 ^ d) := Lib.hid (by rw [bitOf_next D hlt, hd])
          have hB6 : bitOf (D.take k) < 65536 := bitOf_lt fun i hi => by have := HIn.out i (List.mem_of_mem_take hi); omega
          have hsh := shl_u16 hd16
          have hsh2 : IntKind.u16.wrap ((2 : Int) ^ d) = ((2 ^ d : Nat) : Int) := by have := shl_u16 hd16; rw [Int.one_mul] at this; exact this
          have h2d : 2 ^ d < 65536 := Nat.pow_lt_pow_right (by decide) hd16
          have hor := or_u16 hB6 h2d
          have hd0 : (0 : Int) ≤ (d : Int) := by omega
          have hkI : (k : Int) < ((intsN D).length : Int) := by have := HlD.out; omega
          have hk0 : (0 : Int) ≤ (k : Int) := by omega
          clear hd
          generalize bitOf (D.take k) = B at *
          generalize 2 ^ d = z at *
          go_wp2_with fail
          go_roundw
          case rel => exact ⟨k + 1, by omega, by go_num, by rw [HNx.out], hdr⟩
          case measure => simp [intOf]; omega
        · have hkI : ¬ (k : Int) < ((intsN D).length : Int) := by have := HlD.out; omega
          have hkD : k = D.length := by omega
          subst hkD
          rw [List.take_length]
          have hkI2 := hkI
          clear hlt hk hdr
          go_wp2_with fail
          clear hkI hkI2
          obtain ⟨wo, hwo⟩ : ∃ wo : World, wo = wr := ⟨_, rfl⟩
          subst hwo
          have hB6 : bitOf D < 65536 := bitOf_lt fun i hi => by have := HIn.out i hi; omega
          have HMem := Lib.hid (bitOf_test D)
          generalize hBe : bitOf D = B at *
          clear hBe
          go_loopw [16, 17, 18] (fun i _ _ wr => ∃ k : Nat, k ≤ S.length ∧ i = .int .i64 k ∧ Hid (Below wo.heap.size wo wr)) (fun i _ _ _ => S.length - (intOf i).toNat)
          case atStart => exact ⟨0, by omega, rfl, Lib.hid (Below.refl _ _)⟩
          case round =>
            obtain ⟨k, hk, rfl, hbh⟩ := hrel
            have hb := hbh.out
            have HJ89 := Lib.hid (HJ86.out.on hb)
            have HB90 := Lib.hid (HB87.out.trans (hb.mono HB87.out.size))
            clear hb
            have x3 := HJ89.out.x3
            by_cases hlt : k < S.length
            · have hkI : (k : Int) < (S.length : Int) := by omega
              have hk0 : (0 : Int) ≤ (k : Int) := by omega
              have hand := shr_and B k hB6
              cases hbit : B.testBit k
              · have hnk : ¬ k ∈ D := by have := HMem.out k; rw [hbit] at this; simpa using this.symm
                have HFk := Lib.hid (HFl.out k hlt hnk)
                rw [hbit] at hand
                simp only [Bool.false_eq_true, if_false] at hand
                clear hbit hnk
                have hk16 : k < 16 := by omega
                have h2k : 2 ^ k < 65536 := Nat.pow_lt_pow_right (by decide) hk16
                have hor6 : B ||| 2 ^ k < 65536 := Nat.or_lt_two_pow (n := 16) hB6 h2k
                have hbl : (intsN (bitsL S.length (B ||| 2 ^ k))).length ≤ 1000 := by rw [intsN_length]; have := bitsL_len S.length (B ||| 2 ^ k); omega
                go_wp2_with fail
                refine wp_region_grows [126, 127, 128, 129, 130, 131, 132, 133, 125, 134, 135, 17, 18] [KEq (jobV p L a S.length cap), KEq (jobV p L a S.length cap), KEq (.int .u16 ((B : Nat) : Int)), KEq (.int .i64 ((k : Nat) : Int)), KEq (.int .u16 ((2 ^ k : Nat) : Int)), KEq (.int .u16 ((B ||| 2 ^ k : Nat) : Int)), KLs (intsN (bitsL S.length (B ||| 2 ^ k))), KEq (.tuple #[.int .i64 ((0 : Int), (13 : Int)).1, .int .i64 ((0 : Int), (13 : Int)).2]), KEq (.tuple #[.int .i64 ((0 : Int), (13 : Int)).1, .int .i64 ((0 : Int), (13 : Int)).2]), KEq (.int .i64 0), KEq (.int .i64 13), KEq (.int .i64 0), KEq (.int .i64 13)] (by kernel_rfl) (by kernel_rfl) (by kernel_rfl) rfl ⟨KEq.st (jobV p L a S.length cap), KEq.st (jobV p L a S.length cap), KEq.st (.int .u16 ((B : Nat) : Int)), KEq.st (.int .i64 ((k : Nat) : Int)), KEq.st (.int .u16 ((2 ^ k : Nat) : Int)), KEq.st (.int .u16 ((B ||| 2 ^ k : Nat) : Int)), KLs.st (intsN (bitsL S.length (B ||| 2 ^ k))), KEq.st (.tuple #[.int .i64 ((0 : Int), (13 : Int)).1, .int .i64 ((0 : Int), (13 : Int)).2]), KEq.st (.tuple #[.int .i64 ((0 : Int), (13 : Int)).1, .int .i64 ((0 : Int), (13 : Int)).2]), KEq.st (.int .i64 0), KEq.st (.int .i64 13), KEq.st (.int .i64 0), KEq.st (.int .i64 13), trivial⟩ ⟨step_loadJob HJ89.out (by decide) rfl rfl, step_loadJob HJ89.out (by decide) rfl rfl, step_moveOut (by decide) rfl rfl, step_moveOut (by decide) rfl rfl, step_shl (j := 3) hk16 rfl (by decide +kernel) rfl rfl, step_or (j1 := 2) (j2 := 4) hB6 h2k rfl (by decide +kernel) rfl rfl (by decide +kernel) rfl rfl, step_listed (j1 := 1) (j2 := 5) h16 hor6 rfl (by decide +kernel) rfl rfl (by decide +kernel) rfl rfl, step_struck2 (j1 := 0) (j2 := 6) HJ89.out hl hbl HFk.out rfl (by decide +kernel) rfl rfl (by decide +kernel) rfl rfl, step_move (j := 7) rfl (by decide +kernel) rfl rfl, step_extract (j := 8) rfl (by decide +kernel) rfl rfl rfl, step_extract (j := 8) rfl (by decide +kernel) rfl rfl rfl, step_assign (j := 9) rfl (by decide +kernel) rfl rfl, step_assign (j := 10) rfl (by decide +kernel) rfl rfl, trivial⟩ ?_
                rintro w8 hb _ rfl _ rfl _ rfl _ rfl _ rfl _ rfl _ ⟨_, _, rfl, -⟩ _ rfl _ rfl _ rfl _ rfl _ rfl _ rfl
                have HJ91 := Lib.hid (HJ89.out.on hb)
                have HB92 := Lib.hid (HB90.out.trans (hb.mono HB90.out.size))
                have hbh2 := Lib.hid (hbh.out.trans (hb.mono hbh.out.size))
                clear hb
                simp only [EndsG]
                go_simp
                go_wp2_with fail
                go_roundw
                case rel => exact ⟨k + 1, by omega, by go_num, hbh2⟩
                case measure => simp [intOf]; omega
              · rw [hbit] at hand
                simp only [if_true] at hand
                clear hbit
                go_wp2_with fail
                go_roundw
                case rel => exact ⟨k + 1, by omega, by go_num, hbh⟩
                case measure => simp [intOf]; omega
            · have hkI : ¬ (k : Int) < (S.length : Int) := by omega
              go_wp2_with fail
              clear hkI x3
              refine (works_any _).mono ?_
              rintro e w8 ⟨rfl, hb⟩
              have HJ93 := Lib.hid (HJ89.out.on hb)
              have HB94 := Lib.hid (HB90.out.trans (hb.mono HB90.out.size))
              clear hb
              go_wp2_with fail
              go_ret
              exact ⟨rfl, HB94.out⟩
  · rw [decide_eq_false hc] at HF
    have HF := Lib.hid HF
    clear hc
    go_enter Try.func8, Try.ntmps8
    go_wp2_with fail
    refine (HF.out).mono ?_
    rintro e w1 ⟨rfl, hb⟩
    have HJ95 := Lib.hid (HJ0.out.on hb)
    have HB96 := Lib.hid (HB0.out.trans (hb.mono HB0.out.size))
    clear hb
    go_wp2_with fail
    refine (works_any _).mono ?_
    rintro e w2 ⟨rfl, hb⟩
    have HJ97 := Lib.hid (HJ95.out.on hb)
    have HB98 := Lib.hid (HB96.out.trans (hb.mono HB96.out.size))
    clear hb
    go_wp2_with fail
    go_ret
    exact ⟨rfl, HB98.out⟩
end Go.Proofs.Ytpkffjcmoghaaaa
