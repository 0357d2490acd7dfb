/- One text of ComL, ComM. -/
import Derived.Test.YtkcgkfhfogdihaaJ6
import Derived.RangeFuncCalls
import Derived.RangeFuncLeaves
import Derived.Shelf.Abstract
import Derived.OwnWalkIn
import Derived.TacticsInMore
import Derived.LoopNIn
import Derived.LoopIn
/- Walk of the program's pick: all sets of as many sightings as determine a path are yielded. -/
namespace Go.Proofs.Ytkcgkfhfogdihaa
open Go.RowKit Go.Shelf
attribute [local go_sem] Oper.semAt_some
/-- Blocks of cells from B on lie as they lay. -/
structure KeepsCells (B : Nat) (W W' : World) : Prop where
  size : W.heap.size ≤ W'.heap.size
  same : ∀ (k : Nat) (o : Obj), B ≤ k → W.heap[k]? = some o → o.isCells = true → W'.heap[k]? = some o
theorem KeepsCells.refl (B : Nat) (W : World) : KeepsCells B W W := ⟨Nat.le_refl _, fun _ _ _ h _ => h⟩
theorem KeepsCells.trans {B : Nat} {X Y Z : World} (h : KeepsCells B X Y) (k : KeepsCells B Y Z) : KeepsCells B X Z := ⟨Nat.le_trans h.size k.size, fun i o hB hi ho => k.same i o hB (h.same i o hB hi ho) ho⟩
theorem KeepsCells.of_below {B : Nat} {W W' : World} (h : Below W.heap.size W W') : KeepsCells B W W' := ⟨h.size, fun k _ _ hk _ => (h.block k (Array.getElem?_eq_some_iff.1 hk).1).trans hk⟩
theorem KeepsCells.of_grownBy {B : Nat} {W W' : World} {row : Option Nat} (hg : W.grownBy W' row) (hrow : ∀ j, row = some j → j < B) : KeepsCells B W W' :=
  ⟨hg.size, fun k _ hB hk _ => (hg.block k (Array.getElem?_eq_some_iff.1 hk).1 (fun e => by have := hrow k e.symm; omega)).trans hk⟩
theorem cells_of_cell {W : World} {a : Addr} {v : Value} (h : W.cell? a = some v) : ∃ o : Obj, W.heap[a.block]? = some o ∧ o.isCells = true := by
  unfold World.cell? at h
  cases ho : W.heap[a.block]? with
  | none => simp [ho] at h
  | some o => exact ⟨o, rfl, by cases o <;> simp_all [Obj.isCells]⟩
theorem KeepsCells.cell {B : Nat} {W W' : World} (h : KeepsCells B W W') {a : Addr} {v : Value} (hB : B ≤ a.block) (hc : W.cell? a = some v) : W'.cell? a = some v := by
  obtain ⟨o, ho, hcs⟩ := cells_of_cell hc
  have h2 := h.same a.block o hB ho hcs
  rw [← hc]
  exact World.cell?_of_block (h2.trans ho.symm)
theorem Ints.keptCells {k : IntKind} {B : Nat} {W W' : World} {a : Option Addr} {zs : List Int} (h : Ints k W a zs) (hk : KeepsCells B W W') (hB : ∀ b off, a = some ⟨b, off, none⟩ → B ≤ b) : Ints k W' a zs := fun i hi => by
  obtain ⟨b, off, e, hc⟩ := h i hi
  exact ⟨b, off, e, hk.cell (hB b off e) hc⟩
/-- A set of sightings, as it is yielded. -/
structure SetAt where
  a : Option Addr
  cap : Nat
  ss : List Int
/-- What a round of the loop over all sets keeps. -/
def KpS (n₀ n₁ : Nat) (W W' : World) : Prop := Below n₀ W W' ∧ KeepsCells n₁ W W'
/-- A set that is yielded lies as it should. -/
def SxS (n d : Nat) (x : SetAt) (W : World) : Prop := Ints .i64 W x.a x.ss ∧ R.Ord n x.ss ∧ x.ss.length = d + 1
namespace C
/-- The first sighting behind those that are begun with. -/
def frm (ss : List Int) : Nat := if ss.length = 0 then 0 else (nth ss (ss.length - 1)).toNat + 1
/-- All sets that begin with some sightings, whose next one is before i. -/
def AllS (n d : Nat) (ss : List Int) (ys : List SetAt) (i : Nat) : Prop :=
  (∀ x ∈ ys, R.Ord n x.ss ∧ x.ss.length = d + 1) ∧ ∀ tt, R.Ord n tt → tt.length = d + 1 → tt.take ss.length = ss → nth tt ss.length < i → ∃ x ∈ ys, x.ss = tt
def AllK (n d : Nat) (ss : List Int) (ys : List SetAt) : Prop :=
  (∀ x ∈ ys, R.Ord n x.ss ∧ x.ss.length = d + 1) ∧ ∀ tt, R.Ord n tt → tt.length = d + 1 → tt.take ss.length = ss → ∃ x ∈ ys, x.ss = tt
end C
theorem depthNone (F : Fence) (hd : F.depth = none) (k : Nat) : F.depth.isSome = true → 1 ≤ k := fun h => by rw [hd] at h; cases h
theorem roundAny {F : Fence} (hd : F.depth = none) {m m' : Nat} {P : Program} {l : Nat} {f : FuncId} {tmps : Array Value} {assign body : Code} {w : World} {R : Ending → World → Prop}
    (h : RoundIn F m P l f tmps assign body w R) : RoundIn F m' P l f tmps assign body w R := ⟨h.1, fun c cs _ => h.2 c cs (fun d h => by rw [hd] at h; cases h)⟩
theorem yieldAny {F : Fence} (hd : F.depth = none) {m : Nat} (m' : Nat) {P : Program} {l : Nat} {args : Array Value} {W : World} {R : Ending → World → Prop} (h : YieldAt F m P l args W R) : YieldAt F m' P l args W R := by
  obtain ⟨fn, tmps, assign, body, hy, hR⟩ := h
  exact ⟨fn, tmps, assign, body, hy, roundAny hd hR⟩
/-- 'append(s[:n:n], x ..)' inside a fence. -/
theorem listNewIn {F : Fence} {nF : Nat} {t e : TypeId} {z : Value} {size bytes : Nat} (R : RowT t e z size bytes) {ops : Array Oper} {rest : List Oper} {o : Oper} {a : Act} {W : World} {Q : Exit → Act → World → Prop} (hgd : o.guard = none) (s x : Operand)
    (ho : o.op = .call { callee := .builtin .append, args := #[s, x], argTypes := #[t, t] }) (ao : Option Addr) (n : Nat) (olds : List Value) (news : List Value) (m c : Nat) (ad : Addr) (hs : a.eval s = .slice ao n n)
    (hnil : ao = none → n = 0) (hlo : olds.length = n * size) (holds : ∀ b, ao = some b → ∀ j u, olds[j]? = some u → W.cell? (b.add j) = some u) (hx : a.eval x = .slice (some ad) m c) (hl : news.length = m * size) (hm : 0 < m)
    (hnews : ∀ j u, news[j]? = some u → W.cell? (ad.add j) = some u) (h1 : ∀ u ∈ news, u.oneCell' = true) (hn : n + m ≤ 2000000)
    (h : ∀ v' w', w'.ownsRow W.heap.size e size v' (n + m) (olds ++ news) → W.grownBy w' none → wpListIn F nF Try.prog ops Q rest (a.put o.dst v') w') :
    wpListIn F nF Try.prog ops Q (o :: rest) a W := by
  refine wpListIn_plain hgd fun K hK => ?_
  obtain ⟨i0, hi, hz0, hz1, hz2⟩ := info_parts R.hi
  have hb := R.hs.2
  have hbytes : (n + m) * bytes ≤ 140737488355328 := Nat.le_trans (Nat.mul_le_mul hn hb) (by decide)
  have hrun : ∃ v' w', (Builtin.append_ #[t, t] o.type #[.slice ao n n, .slice (some ad) m c]).run Try.prog W = .ok v' w' ∧ w'.ownsRow W.heap.size e size v' (n + m) (olds ++ news) ∧ W.grownBy w' none := by
    cases ao with
    | none =>
      obtain rfl := hnil rfl
      have holds0 : olds = [] := List.eq_nil_of_length_eq_zero (by simpa using hlo)
      subst holds0
      obtain ⟨v', w', hr, h2, h3, _, h5⟩ := run_append_own_at (P := Try.prog) W W.heap.size t o.type e i0 z size bytes R.ht hi hz0 hz1 hz2 R.hz R.hs.1 _ 0 [] (World.ownsRow_nil _ _ _ _) ad m c news hl hnews h1 (by unfold maxLen; omega) hbytes (Nat.le_refl _)
      exact ⟨v', w', hr, h2, h3⟩
    | some b =>
      exact run_append_arg_grows W t o.type e i0 z size bytes R.ht hi hz0 hz1 hz2 R.hz R.hs.1 b n n olds hlo (holds b rfl) ad m c news hl hnews (by omega) (by unfold maxLen; omega) hbytes
  obtain ⟨v', w', hr, h2, h3⟩ := hrun
  unfold Oper.wpIn
  refine ⟨by simp [Oper.about, ho, resolve, Target.leads, Sem.run_pure], ?_⟩
  rw [Oper.semAt_plain F _ _ (by rw [ho]; intro c hc'; cases hc')]
  simp [execOp, ho, resolve, invoke, builtin, hs, hx, hr, Result.andThen]
  exact hK _ _ (h v' w' h2 h3)
namespace C
theorem nth_snoc (ss : List Int) (x : Int) (i : Nat) : nth (ss ++ [x]) i = if i < ss.length then nth ss i else if i = ss.length then x else 0 := by
  unfold nth
  simp only [List.getD_eq_getElem?_getD]
  split
  · rw [List.getElem?_append_left (by assumption)]
  · split
    · subst_vars; simp
    · rw [List.getElem?_eq_none (by simp; omega)]; rfl
theorem ord_snoc {n : Nat} {ss : List Int} (h : R.Ord n ss) {i : Nat} (hi : i < n) (hf : frm ss ≤ i) : R.Ord n (ss ++ [(i : Int)]) := by
  intro j hj
  rw [List.length_append, List.length_singleton] at hj
  rw [nth_snoc, nth_snoc]
  by_cases h1 : j < ss.length
  · rw [if_pos h1, if_pos (by omega)]; exact h j h1
  · have : j = ss.length := by omega
    subst this
    rw [if_neg (by omega), if_pos rfl]
    refine ⟨by omega, by omega, fun h0 => ?_⟩
    rw [if_pos (by omega)]
    unfold frm at hf
    rw [if_neg (by omega)] at hf
    have := (h (ss.length - 1) (by omega)).1
    omega
theorem frm_le {n : Nat} {ss : List Int} (h : R.Ord n ss) : frm ss ≤ n := by
  unfold frm
  split
  · omega
  · have := h (ss.length - 1) (by omega); omega
theorem nth_take (tt : List Int) (m i : Nat) (h : i < m) : nth (tt.take m) i = nth tt i := by
  unfold nth; simp only [List.getD_eq_getElem?_getD, List.getElem?_take, if_pos h]
theorem frm_lt {n : Nat} {ss tt : List Int} (ho : R.Ord n tt) (hl : ss.length < tt.length) (ht : tt.take ss.length = ss) : (frm ss : Int) ≤ nth tt ss.length := by
  have h1 := ho ss.length hl
  unfold frm
  split
  · omega
  · have h2 := h1.2.2 (by omega)
    have e : nth ss (ss.length - 1) = nth tt (ss.length - 1) := by
      have := nth_take tt ss.length (ss.length - 1) (by omega)
      rw [ht] at this; exact this
    have h3 := ho (ss.length - 1) (by omega)
    rw [e]; omega
theorem allS_start {n d : Nat} {ss : List Int} (hl : ss.length < d + 1) : AllS n d ss [] (frm ss) :=
  ⟨fun x hx => by simp at hx, fun tt ho htl ht hlt => by have := frm_lt ho (by omega) ht; omega⟩
theorem allS_step {n d : Nat} {ss : List Int} {ys ys2 : List SetAt} {i : Nat} (hl : ss.length < d + 1) (h : AllS n d ss ys i) (h2 : AllK n d (ss ++ [(i : Int)]) ys2) : AllS n d ss (ys ++ ys2) (i + 1) := by
  refine ⟨fun x hx => ?_, fun tt ho htl ht hlt => ?_⟩
  · rcases List.mem_append.1 hx with h' | h'
    · exact h.1 x h'
    · exact h2.1 x h'
  · by_cases e : nth tt ss.length < i
    · obtain ⟨x, hx, hs⟩ := h.2 tt ho htl ht e
      exact ⟨x, List.mem_append_left _ hx, hs⟩
    · have e2 : nth tt ss.length = i := by omega
      obtain ⟨x, hx, hs⟩ := h2.2 tt ho htl (by rw [List.length_append, List.length_singleton, take_succ_nth tt ss.length (by omega), ht, e2])
      exact ⟨x, List.mem_append_right _ hx, hs⟩
theorem allS_end {n d : Nat} {ss : List Int} {ys : List SetAt} (hl : ss.length < d + 1) (h : AllS n d ss ys n) : AllK n d ss ys :=
  ⟨h.1, fun tt ho htl ht => h.2 tt ho htl ht (ho ss.length (by omega)).2.1⟩
end C
theorem KpS.trans {n₀ n₁ : Nat} {X Y Z : World} (h : KpS n₀ n₁ X Y) (k : KpS n₀ n₁ Y Z) : KpS n₀ n₁ X Z := ⟨h.1.trans k.1, h.2.trans k.2⟩
theorem KpS.of_below {n₀ n₁ : Nat} {X Y : World} (h : Below X.heap.size X Y) (hn : n₀ ≤ X.heap.size) : KpS n₀ n₁ X Y := ⟨h.mono hn, KeepsCells.of_below h⟩
set_option maxRecDepth 100000 in
set_option maxHeartbeats 2000000 in
theorem pick_in (F : Fence) (hd : F.depth = none) (h91 : F.fn 91) (hro : F.round = none) (y N n₀ n₁ B d : Nat) (sa : Option Addr) (sn scap : Nat) (hs12 : sn ≤ 12) (hd3 : d ≤ 3) (hBn : B < n₀) (J : List SetAt → World → Prop)
    (hY : ∀ m pre x W, J pre W → SxS sn d x W → pre.length < N → YieldAt F m Try.prog y #[.slice x.a x.ss.length x.cap] W fun e W' => e = .returned (.bool true) ∧ J (pre ++ [x]) W' ∧ KpS n₀ n₁ W W')
    (hJ : ∀ s W W', J s W → W.grownBy W' none → J s W') :
    ∀ (k n : Nat) (a : Option Addr) (cap : Nat) (ss : List Int) (pre : List SetAt) (W : World), ss.length + k = d + 1 → Ints .i64 W a ss → R.Ord sn ss → (∀ b off, a = some ⟨b, off, none⟩ → n₁ ≤ b) → n₁ ≤ W.heap.size → n₀ ≤ W.heap.size → J pre W → pre.length + 12 ^ k ≤ N → ss.length ≤ cap →
      W.cell? ⟨B, 0, none⟩ = some (.int .i64 d) → W.cell? ⟨B, 1, none⟩ = some (.slice sa sn scap) →
      CallsIn F n Try.prog 91 #[.pointer (some ⟨B, 0, none⟩), .slice a ss.length cap, .func (.yield y) #[] #[]] W fun e W' =>
        e = .returned (.bool true) ∧ KpS n₀ n₁ W W' ∧ ∃ ys, J (pre ++ ys) W' ∧ ys.length ≤ 12 ^ k ∧ C.AllK sn d ss ys := by
  intro k
  induction k with
  | zero =>
    intro n a cap ss pre W hk hi ho hb hn1 hn0 hj hN hcap hx1 hx2
    have hlen : ss.length = d + 1 := by omega
    obtain ⟨fn, tmps, assign, body, hy, hR⟩ := hY (n - 1) pre ⟨a, cap, ss⟩ W hj ⟨hi, ho, hlen⟩ (by have := hN; simp at this; omega)
    have k1 : IntKind.i64.wrap ((d : Int) + 1) = (d : Int) + 1 := IntWalk.i64_in _ (by omega)
    have HAll := Lib.hid (show C.AllK sn d ss [⟨a, cap, ss⟩] from ⟨fun x hx => by
      rw [List.mem_singleton] at hx; subst hx; exact ⟨ho, hlen⟩, fun tt _ htl ht => ⟨⟨a, cap, ss⟩, by simp, by rw [← ht, List.take_of_length_le (by omega)]⟩⟩)
    dsimp only at hy
    rw [hlen] at hy ⊢
    have hdd := depthNone F hd
    clear hY hi ho hb hJ hlen hk hcap
    refine callsIn_of_wp Try.func91 rfl h91 ?_ hro
    simp only [Try.ntmps91, List.size_toArray, List.length_cons, List.length_nil, Nat.reduceAdd, Nat.reduceSub, Array.replicate_succ, Array.replicate_zero, List.push_toArray, List.append_toArray, List.nil_append, List.cons_append]
    gi_wp2_with ((try refine ⟨hdd _, ?_⟩); refine hR.mono ?_; clear hR; rintro e W2 ⟨rfl, hJ2, hK2⟩)
    go_ret
    exact ⟨rfl, hK2, [⟨a, cap, ss⟩], hJ2, by simp, HAll.out⟩
  | succ k ih =>
    intro n a cap ss pre W hk hi ho hb hn1 hn0 hj hN hcap hx1 hx2
    have k1 : IntKind.i64.wrap ((d : Int) + 1) = (d : Int) + 1 := IntWalk.i64_in _ (by omega)
    have k2 : ((ss.length : Int) == (d : Int) + 1) = false := by simp; omega
    have hsl : ss.length < d + 1 := by omega
    have hdd := depthNone F hd
    have HI := Lib.hid hi
    have HO := Lib.hid ho
    have HB := Lib.hid hb
    have IH := Lib.hid (ih (n - 1))
    have hfr := C.frm_le ho
    have HJ := Lib.hid hj
    have HJA := Lib.hid hJ
    have hpow : pre.length + 12 * 12 ^ k ≤ N := by rw [Nat.pow_succ, Nat.mul_comm] at hN; exact hN
    clear hY hi ho hb ih hj hJ hN
    have HX1 := Lib.hid hx1
    have HX2 := Lib.hid hx2
    by_cases hz : ss.length = 0
    · have HF : Hid ((C.frm ss : Int) = 0) := Lib.hid (by unfold C.frm; rw [if_pos hz]; rfl)
      have hzI : ¬ (0 : Int) < ↑ss.length := by omega
      clear hz
      refine callsIn_of_wp Try.func91 rfl h91 ?_ hro
      simp only [Try.ntmps91, List.size_toArray, List.length_cons, List.length_nil, Nat.reduceAdd, Nat.reduceSub, Array.replicate_succ, Array.replicate_zero, List.push_toArray, List.append_toArray, List.nil_append, List.cons_append]
      gi_wp2_with fail
      gi_loopw [8] (fun i wr => ∃ (i' : Nat) (ys : List SetAt), i = .int .i64 i' ∧ C.frm ss ≤ i' ∧ i' ≤ sn ∧ J (pre ++ ys) wr ∧ KpS n₀ n₁ W wr ∧ ys.length ≤ (i' - C.frm ss) * 12 ^ k ∧ C.AllS sn d ss ys i') (fun i _ => sn - (intOf i).toNat)
      case atStart => exact ⟨C.frm ss, [], by rw [HF.out], Nat.le_refl _, hfr, by rw [List.append_nil]; exact HJ.out, ⟨Below.refl _ _, KeepsCells.refl _ _⟩, by simp, C.allS_start hsl⟩
      case round =>
        obtain ⟨i', ys, rfl, hfi, hin, hj, hK, hyl, hall⟩ := hrel
        have hx2' := (hK.1.cell (p := ⟨B, 1, none⟩) hBn).trans HX2.out
        have hsz := hK.2.size
        by_cases hlt : i' < sn
        · have hltI : (i' : Int) < ↑sn := by omega
          have hij := (HI.out.keptCells hK.2 HB.out)
          have hnil : a = none → ss.length = 0 := fun e => by
            by_cases h0 : ss.length = 0
            · exact h0
            · obtain ⟨b, off, e', _⟩ := hij 0 (by omega)
              rw [e] at e'; cases e'
          have hjn : ss.length + 1 ≤ 2000000 := by omega
          have HI2 := Lib.hid (hij.alloc (.cells #[.int .i64 i'] 3))
          have HNil := Lib.hid hnil
          have HJr := Lib.hid hj
          have HKr := Lib.hid hK
          have HAll := Lib.hid hall
          have hcapI : (ss.length : Int) ≤ ↑cap := by omega
          clear hij hnil hj hK hall
          gi_wp2_with (gi_at_builtin; refine listNewIn T34 rfl (.tmp 48) (.tmp 50) rfl a ss.length (ss.map (.int .i64)) [.int .i64 i'] 1 1 ⟨wr.heap.size, 0, none⟩ rfl HNil.out (by simp) HI2.out.olds rfl rfl (by omega) (news_new _ _ _) (by simp [Value.oneCell']) hjn ?_; intro v1 w1 hown1 hg1)
          have hb1 : Below wr.heap.size wr w1 := (Below.new wr _).trans ((below_none hg1).mono (by simp))
          have hgrw : wr.grownBy w1 none := (World.grownBy_alloc wr _ none).trans hg1
          obtain ⟨g, cap1, rfl⟩ : ∃ g cap1, v1 = .slice (some ⟨g, 0, none⟩) (ss.length + 1) cap1 := by
            rcases hown1.2 with ⟨_, h⟩ | ⟨g, cap2, cur, h, _⟩
            · omega
            · exact ⟨g, cap2, h⟩
          have hgl := (hown1.lt g rfl).1
          have hmul : (i' - C.frm ss) * 12 ^ k + 12 ^ k ≤ 12 * 12 ^ k := by
            have : (i' - C.frm ss + 1) * 12 ^ k ≤ 12 * 12 ^ k := Nat.mul_le_mul_right _ (by omega)
            rw [Nat.add_mul, Nat.one_mul] at this; exact this
          have hJ1 := HJA.out _ _ _ HJr.out hgrw
          have hK1 : KpS n₀ n₁ W w1 := HKr.out.trans (KpS.of_below hb1 (by omega))
          have hpos := Nat.two_pow_pos k
          have hcall := IH.out (some ⟨g, 0, none⟩) cap1 (ss ++ [(i' : Int)]) (pre ++ ys) w1 (by simp; omega) (by
              have he : (ss ++ [(i' : Int)]).map (Value.int .i64) = ss.map (.int .i64) ++ [.int .i64 i'] := by simp
              obtain ⟨-, ao, cp, e, hi, -⟩ := Ints.of_ownsRow (zs := ss ++ [(i' : Int)]) (by rw [he]; exact hown1)
              cases e; exact hi) (C.ord_snoc HO.out hlt hfi) (fun b off e => by cases e; simp at hgl; omega) (by have := hb1.size; omega) (by have := hb1.size; omega) hJ1 (by rw [List.length_append]; omega) (by rw [List.length_append, List.length_singleton]; exact (owns_cap hown1).1)
              ((hK1.1.cell (p := ⟨B, 0, none⟩) hBn).trans HX1.out) ((hK1.1.cell (p := ⟨B, 1, none⟩) hBn).trans HX2.out)
          rw [List.length_append, List.length_singleton] at hcall
          have HCall := Lib.hid hcall
          have HK1 := Lib.hid hK1
          clear hcall hK1 hJ1 hb1 hgrw hown1 hg1 hgl
          gi_wp2_with ((try refine ⟨hdd _, ?_⟩); gi_at_call 91; refine HCall.out.mono ?_; clear HCall; rintro e w2 ⟨rfl, hK2, ys2, hj2, hl2, ha2⟩)
          go_roundw
          case rel => exact ⟨i' + 1, ys ++ ys2, by go_num, by omega, by omega, by rw [← List.append_assoc]; exact hj2, HK1.out.trans hK2, by rw [List.length_append, show i' + 1 - C.frm ss = (i' - C.frm ss) + 1 by omega, Nat.add_mul, Nat.one_mul]; omega, C.allS_step hsl HAll.out ha2⟩
          case measure => simp [intOf]; omega
        · have his : i' = sn := by omega
          subst his
          have HAll := Lib.hid (C.allS_end hsl hall)
          have hfin : ys.length ≤ 12 ^ (k + 1) := by
            have : (i' - C.frm ss) * 12 ^ k ≤ 12 * 12 ^ k := Nat.mul_le_mul_right _ (by omega)
            rw [Nat.pow_succ, Nat.mul_comm]; omega
          clear hall
          gi_wp2_with fail
          go_ret
          exact ⟨rfl, hK, ys, hj, hfin, HAll.out⟩
    · have hzI : 0 < ss.length := by omega
      have hlast : ∃ m : Nat, nth ss (ss.length - 1) = m := ⟨(nth ss (ss.length - 1)).toNat, by have := (HO.out (ss.length - 1) (by omega)).1; omega⟩
      obtain ⟨m, hm⟩ := hlast
      have hml := (HO.out (ss.length - 1) (by omega)).2.1
      rw [hm] at hml
      have HF : Hid ((C.frm ss : Int) = m + 1) := Lib.hid (by unfold C.frm; rw [if_neg hz, hm]; simp)
      obtain ⟨b, off, rfl, hc⟩ := HI.out (ss.length - 1) (by omega)
      rw [hm] at hc
      have kk1 : IntKind.i64.wrap ((ss.length : Int) - 1) = (ss.length : Int) - 1 := IntWalk.i64_in _ (by omega)
      have kk2 : (0 : Int) ≤ (ss.length : Int) - 1 := by omega
      have kk3 : ((ss.length : Int) - 1).toNat = ss.length - 1 := by omega
      have kk4 : (ss.length : Int) - 1 < ↑ss.length := by omega
      have kk5 : IntKind.i64.wrap ((m : Int) + 1) = (m : Int) + 1 := IntWalk.i64_in _ (by omega)
      clear hm hz
      refine callsIn_of_wp Try.func91 rfl h91 ?_ hro
      simp only [Try.ntmps91, List.size_toArray, List.length_cons, List.length_nil, Nat.reduceAdd, Nat.reduceSub, Array.replicate_succ, Array.replicate_zero, List.push_toArray, List.append_toArray, List.nil_append, List.cons_append]
      gi_wp2_with fail
      gi_loopw [8] (fun i wr => ∃ (i' : Nat) (ys : List SetAt), i = .int .i64 i' ∧ C.frm ss ≤ i' ∧ i' ≤ sn ∧ J (pre ++ ys) wr ∧ KpS n₀ n₁ W wr ∧ ys.length ≤ (i' - C.frm ss) * 12 ^ k ∧ C.AllS sn d ss ys i') (fun i _ => sn - (intOf i).toNat)
      case atStart => exact ⟨C.frm ss, [], by rw [HF.out], Nat.le_refl _, hfr, by rw [List.append_nil]; exact HJ.out, ⟨Below.refl _ _, KeepsCells.refl _ _⟩, by simp, C.allS_start hsl⟩
      case round =>
        obtain ⟨i', ys, rfl, hfi, hin, hj, hK, hyl, hall⟩ := hrel
        have hx2' := (hK.1.cell (p := ⟨B, 1, none⟩) hBn).trans HX2.out
        have hsz := hK.2.size
        by_cases hlt : i' < sn
        · have hltI : (i' : Int) < ↑sn := by omega
          have hij := (HI.out.keptCells hK.2 HB.out)
          have hnil : some (⟨b, off, none⟩ : Addr) = none → ss.length = 0 := fun e => by
            by_cases h0 : ss.length = 0
            · exact h0
            · obtain ⟨b, off, e', _⟩ := hij 0 (by omega)
              rw [e] at e'; cases e'
          have hjn : ss.length + 1 ≤ 2000000 := by omega
          have HI2 := Lib.hid (hij.alloc (.cells #[.int .i64 i'] 3))
          have HNil := Lib.hid hnil
          have HJr := Lib.hid hj
          have HKr := Lib.hid hK
          have HAll := Lib.hid hall
          have hcapI : (ss.length : Int) ≤ ↑cap := by omega
          clear hij hnil hj hK hall
          gi_wp2_with (gi_at_builtin; refine listNewIn T34 rfl (.tmp 48) (.tmp 50) rfl (some ⟨b, off, none⟩) ss.length (ss.map (.int .i64)) [.int .i64 i'] 1 1 ⟨wr.heap.size, 0, none⟩ rfl HNil.out (by simp) HI2.out.olds rfl rfl (by omega) (news_new _ _ _) (by simp [Value.oneCell']) hjn ?_; intro v1 w1 hown1 hg1)
          have hb1 : Below wr.heap.size wr w1 := (Below.new wr _).trans ((below_none hg1).mono (by simp))
          have hgrw : wr.grownBy w1 none := (World.grownBy_alloc wr _ none).trans hg1
          obtain ⟨g, cap1, rfl⟩ : ∃ g cap1, v1 = .slice (some ⟨g, 0, none⟩) (ss.length + 1) cap1 := by
            rcases hown1.2 with ⟨_, h⟩ | ⟨g, cap2, cur, h, _⟩
            · omega
            · exact ⟨g, cap2, h⟩
          have hgl := (hown1.lt g rfl).1
          have hmul : (i' - C.frm ss) * 12 ^ k + 12 ^ k ≤ 12 * 12 ^ k := by
            have : (i' - C.frm ss + 1) * 12 ^ k ≤ 12 * 12 ^ k := Nat.mul_le_mul_right _ (by omega)
            rw [Nat.add_mul, Nat.one_mul] at this; exact this
          have hJ1 := HJA.out _ _ _ HJr.out hgrw
          have hK1 : KpS n₀ n₁ W w1 := HKr.out.trans (KpS.of_below hb1 (by omega))
          have hpos := Nat.two_pow_pos k
          have hcall := IH.out (some ⟨g, 0, none⟩) cap1 (ss ++ [(i' : Int)]) (pre ++ ys) w1 (by simp; omega) (by
              have he : (ss ++ [(i' : Int)]).map (Value.int .i64) = ss.map (.int .i64) ++ [.int .i64 i'] := by simp
              obtain ⟨-, ao, cp, e, hi, -⟩ := Ints.of_ownsRow (zs := ss ++ [(i' : Int)]) (by rw [he]; exact hown1)
              cases e; exact hi) (C.ord_snoc HO.out hlt hfi) (fun b off e => by cases e; simp at hgl; omega) (by have := hb1.size; omega) (by have := hb1.size; omega) hJ1 (by rw [List.length_append]; omega) (by rw [List.length_append, List.length_singleton]; exact (owns_cap hown1).1)
              ((hK1.1.cell (p := ⟨B, 0, none⟩) hBn).trans HX1.out) ((hK1.1.cell (p := ⟨B, 1, none⟩) hBn).trans HX2.out)
          rw [List.length_append, List.length_singleton] at hcall
          have HCall := Lib.hid hcall
          have HK1 := Lib.hid hK1
          clear hcall hK1 hJ1 hb1 hgrw hown1 hg1 hgl
          gi_wp2_with ((try refine ⟨hdd _, ?_⟩); gi_at_call 91; refine HCall.out.mono ?_; clear HCall; rintro e w2 ⟨rfl, hK2, ys2, hj2, hl2, ha2⟩)
          go_roundw
          case rel => exact ⟨i' + 1, ys ++ ys2, by go_num, by omega, by omega, by rw [← List.append_assoc]; exact hj2, HK1.out.trans hK2, by rw [List.length_append, show i' + 1 - C.frm ss = (i' - C.frm ss) + 1 by omega, Nat.add_mul, Nat.one_mul]; omega, C.allS_step hsl HAll.out ha2⟩
          case measure => simp [intOf]; omega
        · have his : i' = sn := by omega
          subst his
          have HAll := Lib.hid (C.allS_end hsl hall)
          have hfin : ys.length ≤ 12 ^ (k + 1) := by
            have : (i' - C.frm ss) * 12 ^ k ≤ 12 * 12 ^ k := Nat.mul_le_mul_right _ (by omega)
            rw [Nat.pow_succ, Nat.mul_comm]; omega
          clear hall
          gi_wp2_with fail
          go_ret
          exact ⟨rfl, hK, ys, hj, hfin, HAll.out⟩
end Go.Proofs.Ytkcgkfhfogdihaa
/- Walks of the program's sets, greatest, Compare. -/
namespace Go.Proofs.Ytkcgkfhfogdihaa
open Go.RowKit Go.Shelf
attribute [local go_sem] Oper.semAt_some
set_option maxRecDepth 100000 in
set_option maxHeartbeats 1000000 in
theorem sets1_seq (F : Fence) (hd : F.depth = none) (n : Nat) (h90 : F.fn 90) (h91 : F.fn 91) (hro : F.round = none) (Bx n₀ n₁ B d : Nat) (sa : Option Addr) (sn scap : Nat) (hs12 : sn ≤ 12) (hd3 : d ≤ 3) (hBn : B < n₀) (w : World)
    (hn0 : n₀ ≤ w.heap.size) (hn1 : n₁ ≤ w.heap.size) (hbx : w.cell? ⟨Bx, 0, none⟩ = some (.pointer (some ⟨B, 0, none⟩))) (hx1 : w.cell? ⟨B, 0, none⟩ = some (.int .i64 d)) (hx2 : w.cell? ⟨B, 1, none⟩ = some (.slice sa sn scap)) :
    SeqX F n Try.prog 90 #[.pointer (some ⟨Bx, 0, none⟩)] (fun x : SetAt => #[.slice x.a x.ss.length x.cap]) (SxS sn d) (KpS n₀ n₁) (fun xs => xs.length ≤ 12 ^ (d + 1) ∧ C.AllK sn d [] xs) (12 ^ (d + 1)) w := fun l J W hW hJ hY h0 => by
  have hdd := depthNone F hd
  have hs := hW.size
  have hp := pick_in F hd h91 hro l (12 ^ (d + 1)) n₀ n₁ B d sa sn scap hs12 hd3 hBn J (fun m pre x W' hj hx hlt => yieldAny hd m (hY pre x W' hj hx hlt)) (fun s W W' hs hg => hJ s W W' none hs hg (fun r e => by cases e))
    (d + 1) (n - 1) none 0 [] [] W (by simp) (Ints.nil _ _ _) (fun i hi => by simp at hi) (fun b off e => by cases e) (by omega) (by omega) h0 (by simp) (by simp) (cell_on hW hx1) (cell_on hW hx2)
  have hbx' := cell_on hW hbx
  have HP := Lib.hid hp
  clear hp hY hJ
  show CallsIn F n Try.prog 90 #[.func (.yield l) #[] #[], .pointer (some ⟨Bx, 0, none⟩)] W _
  refine callsIn_of_wp Try.func90 rfl h90 ?_ hro
  simp only [Try.ntmps90, List.size_toArray, List.length_cons, List.length_nil, Nat.reduceAdd, Nat.reduceSub, Array.replicate_succ, Array.replicate_zero, List.push_toArray, List.append_toArray, List.nil_append, List.cons_append]
  gi_wp2_with ((try refine ⟨hdd _, ?_⟩); gi_at_call 91; refine HP.out.mono ?_; clear HP; rintro e w2 ⟨rfl, hK2, ys2, hj2, hl2, ha2⟩)
  go_end0
  exact ⟨⟨_, rfl⟩, ys2, ⟨hl2, ha2⟩, by simpa using hj2⟩

set_option maxHeartbeats 400000 in
theorem sets_any (B : Nat) (w : World) : Calls Try.prog 83 #[.pointer (some ⟨B, 0, none⟩)] w fun e w' => e = .returned (.func (.func 90) #[] #[.pointer (some ⟨w.heap.size, 0, none⟩)]) ∧ w' = w.alloc (.cells #[.pointer (some ⟨B, 0, none⟩)] 72) := by
  go_enter Try.func83, Try.ntmps83
  go_wp2_with fail
  go_ret
  exact ⟨rfl, rfl⟩

namespace C
def great (zs : List Int) (j : Nat) : Int := up (fun i m => max m (nth zs i)) 0 j
/-- Of two lists of numbers, which comes first: from the i-th on. -/
def cmpFrom : List Int → List Int → Int
  | [], [] => 0
  | [], _ :: _ => -1
  | _ :: _, [] => 1
  | a :: r, b :: s => if a < b then -1 else if b < a then 1 else cmpFrom r s
end C
set_option maxRecDepth 100000 in
set_option maxHeartbeats 400000 in
theorem greatest_any (a : Option Addr) (cap : Nat) (zs : List Int) (w : World) (hl : zs.length ≤ 1000000) (ha : Ints .i64 w a zs) :
    Calls Try.prog 84 #[.slice a zs.length cap] w fun e w' => e = .returned (.int .i64 (C.great zs zs.length)) ∧ w = w' := by
  have HA := Lib.hid ha; clear ha
  go_enter Try.func84, Try.ntmps84
  go_wp2_with fail
  go_loop [3, 8] (fun m i => ∃ j : Nat, j ≤ zs.length ∧ i = .int .i64 j ∧ m = .int .i64 (C.great zs j)) (fun _ i => zs.length - (intOf i).toNat)
  case atStart => exact ⟨0, by omega, rfl, rfl⟩
  case round =>
    obtain ⟨j, hj, rfl, rfl⟩ := hrel
    by_cases hlt : j < zs.length
    · obtain ⟨b, off, rfl, hc⟩ := HA.out j hlt
      have hltI : (j : Int) < ↑zs.length := by omega
      have HS : Hid (C.great zs (j + 1) = max (C.great zs j) (nth zs j)) := Lib.hid rfl
      go_wp2_with fail
      go_round
      case rel => exact ⟨j + 1, by omega, by go_num, by rw [HS.out, Int.max_def]; congr 1; split <;> split <;> omega⟩
      case measure => simp [intOf]; omega
    · have HE : Hid (j = zs.length) := Lib.hid (by omega)
      go_wp2_with fail
      go_ret
      exact ⟨ret_int (by rw [HE.out]), rfl⟩
set_option maxHeartbeats 400000 in
theorem nan_any (n : Int) (w : World) : Calls Try.prog 105 #[.int .i64 n] w fun e w' => e = .returned (.bool false) ∧ w = w' := by
  go_enter Try.func105, Try.ntmps105
  go_wp2_with fail
  go_ret
  exact ⟨rfl, rfl⟩
namespace C
def cmp1 (a b : Int) : Int := if a < b then -1 else if b < a then 1 else 0
theorem cmp1_lt {a b : Int} (h : a < b) : cmp1 a b = -1 := by unfold cmp1; rw [if_pos h]
theorem cmp1_gt {a b : Int} (h : b < a) : cmp1 a b = 1 := by unfold cmp1; rw [if_neg (by omega), if_pos h]
theorem cmp1_eq {a b : Int} (h : ¬ a < b) (h2 : ¬ b < a) : cmp1 a b = 0 := by unfold cmp1; rw [if_neg h, if_neg h2]
end C
set_option maxHeartbeats 400000 in
theorem cmp_any (a b : Int) (w : World) : Calls Try.prog 94 #[.int .i64 a, .int .i64 b] w fun e w' => e = .returned (.int .i64 (C.cmp1 a b)) ∧ w = w' := by
  have HC := Lib.hid (fun n => nan_any n w)
  by_cases h1 : a < b
  · have HF := Lib.hid (C.cmp1_lt h1)
    go_enter Try.func94, Try.ntmps94
    go_wp2_with fail
    refine (HC.out a).mono ?_
    rintro e w' ⟨rfl, rfl⟩
    go_wp2_with fail
    refine (HC.out b).mono ?_
    rintro e w' ⟨rfl, rfl⟩
    go_wp2_with fail
    go_ret
    exact ⟨ret_int (by rw [HF.out]), rfl⟩
  · by_cases h2 : b < a
    · have HF := Lib.hid (C.cmp1_gt h2)
      have h1' : b ≤ a := by omega
      clear h1
      go_enter Try.func94, Try.ntmps94
      go_wp2_with fail
      refine (HC.out a).mono ?_
      rintro e w' ⟨rfl, rfl⟩
      go_wp2_with fail
      refine (HC.out b).mono ?_
      rintro e w' ⟨rfl, rfl⟩
      go_wp2_with fail
      go_ret
      exact ⟨ret_int (by rw [HF.out]), rfl⟩
    · have HF := Lib.hid (C.cmp1_eq h1 h2)
      have h1' : b ≤ a := by omega
      have h2' : a ≤ b := by omega
      clear h1 h2
      go_enter Try.func94, Try.ntmps94
      go_wp2_with fail
      refine (HC.out a).mono ?_
      rintro e w' ⟨rfl, rfl⟩
      go_wp2_with fail
      refine (HC.out b).mono ?_
      rintro e w' ⟨rfl, rfl⟩
      go_wp2_with fail
      go_ret
      exact ⟨ret_int (by rw [HF.out]), rfl⟩
namespace C
theorem drop_nth (zs : List Int) (j : Nat) (h : j < zs.length) : zs.drop j = nth zs j :: zs.drop (j + 1) := by
  rw [List.drop_eq_getElem_cons h, nth_eq zs j h]
theorem cmpFrom_cons (a b : Int) (r s : List Int) : cmpFrom (a :: r) (b :: s) = if cmp1 a b = 0 then cmpFrom r s else cmp1 a b := by
  show (if a < b then -1 else if b < a then 1 else cmpFrom r s) = _
  unfold cmp1
  by_cases h : a < b
  · rw [if_pos h, if_pos h, if_neg (by decide)]
  · rw [if_neg h, if_neg h]
    by_cases h2 : b < a
    · rw [if_pos h2, if_pos h2, if_neg (by decide)]
    · rw [if_neg h2, if_neg h2, if_pos rfl]
end C
set_option maxRecDepth 100000 in
set_option maxHeartbeats 800000 in
/-- Two lists of as many numbers. -/
theorem compare_any (a1 a2 : Option Addr) (cap1 cap2 n : Nat) (zs ys : List Int) (w : World) (hz : zs.length = n) (hy : ys.length = n) (hn : n ≤ 1000000) (h1 : Ints .i64 w a1 zs) (h2 : Ints .i64 w a2 ys) :
    Calls Try.prog 87 #[.slice a1 n cap1, .slice a2 n cap2] w fun e w' => e = .returned (.int .i64 (C.cmpFrom zs ys)) ∧ w = w' := by
  have H1 := Lib.hid h1
  have H2 := Lib.hid h2
  have HZ := Lib.hid hz
  have HY := Lib.hid hy
  have HC := Lib.hid (fun a b => cmp_any a b w)
  clear h1 h2 hz hy
  go_enter Try.func87, Try.ntmps87
  go_wp2_with fail
  go_loop [11] (fun i => ∃ j : Nat, j ≤ n ∧ i = .int .i64 j ∧ Hid (C.cmpFrom zs ys = C.cmpFrom (zs.drop j) (ys.drop j))) (fun i => n - (intOf i).toNat)
  case atStart => exact ⟨0, by omega, rfl, Lib.hid rfl⟩
  case round =>
    obtain ⟨j, hj, rfl, HR⟩ := hrel
    by_cases hlt : j < n
    · obtain ⟨b, off, rfl, hc⟩ := H1.out j (by rw [HZ.out]; exact hlt)
      obtain ⟨b2, off2, rfl, hc2⟩ := H2.out j (by rw [HY.out]; exact hlt)
      have hltI : (j : Int) < ↑n := by omega
      have HD : Hid (C.cmpFrom zs ys = if C.cmp1 (nth zs j) (nth ys j) = 0 then C.cmpFrom (zs.drop (j + 1)) (ys.drop (j + 1)) else C.cmp1 (nth zs j) (nth ys j)) := Lib.hid (by
        rw [HR.out, C.drop_nth zs j (by rw [HZ.out]; exact hlt), C.drop_nth ys j (by rw [HY.out]; exact hlt), C.cmpFrom_cons])
      cases hq : (C.cmp1 (nth zs j) (nth ys j) != 0) with
      | true =>
        have HQ := Lib.hid hq
        go_wp2_with fail
        refine (HC.out _ _).mono ?_
        rintro e w' ⟨rfl, rfl⟩
        go_wp2_with fail
        go_ret
        exact ⟨ret_int (by rw [HD.out, if_neg (by have := HQ.out; simpa using this)]), rfl⟩
      | false =>
        have HQ := Lib.hid hq
        go_wp2_with fail
        refine (HC.out _ _).mono ?_
        rintro e w' ⟨rfl, rfl⟩
        go_wp2_with fail
        go_round
        case rel => exact ⟨j + 1, by omega, by go_num, Lib.hid (by rw [HD.out, if_pos (by have := HQ.out; simpa using this)])⟩
        case measure => simp [intOf]; omega
    · have HE : Hid (C.cmpFrom zs ys = 0) := Lib.hid (by
        have e : j = n := by omega
        rw [HR.out, List.drop_of_length_le (by rw [HZ.out]; omega), List.drop_of_length_le (by rw [HY.out]; omega)]; rfl)
      go_wp2_with fail
      go_ret
      exact ⟨ret_int (by rw [HE.out]), rfl⟩
end Go.Proofs.Ytkcgkfhfogdihaa
