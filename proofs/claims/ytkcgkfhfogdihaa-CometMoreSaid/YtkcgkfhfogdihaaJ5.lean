/- One text of ComJ, ComK. -/
import Derived.Test.YtkcgkfhfogdihaaJ4
import Derived.ArgAppend
import Derived.Lib.QuietBelow
/- Walks of the program's numbers, lies, on. -/
namespace Go.Proofs.Ytkcgkfhfogdihaa
open Go.RowKit
/-- 'append(s[:n:n], x ..)': a new row, whatever s is. -/
theorem wpNew {t e : TypeId} {z : Value} {size bytes : Nat} (R : RowT t e z size bytes) {o : Oper} {a : Act} {W : World} {K : Act → World → Prop} {Q : Exit → Act → World → Prop} (s x : Operand)
    (ho : o.op = .call { callee := .builtin .append, args := #[s, x], argTypes := #[t, t] }) (ao : Option Addr) (n : Nat) (olds : List Value) (news : List Value) (m c : Nat) (ad : Addr) (hs : a.eval s = .slice ao n n)
    (hnil : ao = none → n = 0) (hlo : olds.length = n * size) (holds : ∀ b, ao = some b → ∀ j u, olds[j]? = some u → W.cell? (b.add j) = some u) (hx : a.eval x = .slice (some ad) m c) (hl : news.length = m * size) (hm : 0 < m)
    (hnews : ∀ j u, news[j]? = some u → W.cell? (ad.add j) = some u) (h1 : ∀ u ∈ news, u.oneCell' = true) (hn : n + m ≤ 2000000)
    (h : ∀ v' w', w'.ownsRow W.heap.size e size v' (n + m) (olds ++ news) → W.grownBy w' none → K (a.put o.dst v') w') : o.wp Try.prog a W K Q := by
  obtain ⟨i0, hi, hz0, hz1, hz2⟩ := info_parts R.hi
  have hb := R.hs.2
  have hbytes : (n + m) * bytes ≤ 140737488355328 := Nat.le_trans (Nat.mul_le_mul hn hb) (by decide)
  have hrun : ∃ v' w', (Builtin.append_ #[t, t] o.type #[.slice ao n n, .slice (some ad) m c]).run Try.prog W = .ok v' w' ∧ w'.ownsRow W.heap.size e size v' (n + m) (olds ++ news) ∧ W.grownBy w' none := by
    cases ao with
    | none =>
      obtain rfl := hnil rfl
      have holds0 : olds = [] := List.eq_nil_of_length_eq_zero (by simpa using hlo)
      subst holds0
      obtain ⟨v', w', hr, h2, h3, _, h5⟩ := run_append_own_at (P := Try.prog) W W.heap.size t o.type e i0 z size bytes R.ht hi hz0 hz1 hz2 R.hz R.hs.1 _ 0 [] (World.ownsRow_nil _ _ _ _) ad m c news hl hnews h1 (by unfold maxLen; omega) hbytes (Nat.le_refl _)
      exact ⟨v', w', hr, h2, h3⟩
    | some b =>
      exact run_append_arg_grows W t o.type e i0 z size bytes R.ht hi hz0 hz1 hz2 R.hz R.hs.1 b n n olds hlo (holds b rfl) ad m c news hl hnews (by omega) (by unfold maxLen; omega) hbytes
  obtain ⟨v', w', hr, h2, h3⟩ := hrun
  unfold Oper.wp execOp
  simp only [ho, resolve, invoke, builtin, Sem.run_bind, Sem.run_pure, Result.andThen_ok, List.map_toArray, List.map_cons, List.map_nil, hs, hx, hr]
  exact h v' w' h2 h3
theorem listNew {t e : TypeId} {z : Value} {size bytes : Nat} (R : RowT t e z size bytes) {ops : Array Oper} {rest : List Oper} {o : Oper} {a : Act} {W : World} {Q : Exit → Act → World → Prop} (hgd : o.guard = none) (s x : Operand)
    (ho : o.op = .call { callee := .builtin .append, args := #[s, x], argTypes := #[t, t] }) (ao : Option Addr) (n : Nat) (olds : List Value) (news : List Value) (m c : Nat) (ad : Addr) (hs : a.eval s = .slice ao n n)
    (hnil : ao = none → n = 0) (hlo : olds.length = n * size) (holds : ∀ b, ao = some b → ∀ j u, olds[j]? = some u → W.cell? (b.add j) = some u) (hx : a.eval x = .slice (some ad) m c) (hl : news.length = m * size) (hm : 0 < m)
    (hnews : ∀ j u, news[j]? = some u → W.cell? (ad.add j) = some u) (h1 : ∀ u ∈ news, u.oneCell' = true) (hn : n + m ≤ 2000000)
    (h : ∀ v' w', w'.ownsRow W.heap.size e size v' (n + m) (olds ++ news) → W.grownBy w' none → wpList Try.prog ops Q rest (a.put o.dst v') w') :
    wpList Try.prog ops Q (o :: rest) a W :=
  wpList_plain hgd fun _ hK => wpNew R s x ho ao n olds news m c ad hs hnil hlo holds hx hl hm hnews h1 hn fun v' w' h1 h2 => hK _ _ (h v' w' h1 h2)
/-- A slice's numbers, as its cells. -/
theorem Ints.olds {k : IntKind} {w : World} {ao : Option Addr} {zs : List Int} (h : Ints k w ao zs) : ∀ b, ao = some b → ∀ j u, (zs.map (Value.int k))[j]? = some u → w.cell? (b.add j) = some u := fun b e => by subst e; exact Ints.news h
theorem below_none {w w' : World} (h : w.grownBy w' none) : Below w.heap.size w w' := (Below.refl _ w).grown h (Nat.le_refl _) (fun k e => by cases e)
theorem track_cells {w : World} {H : Nat} {q : List Int} (h0 : w.cell? ⟨H, 0, none⟩ = some (.int .i64 (nth q 0))) (h1 : w.cell? ⟨H, 1, none⟩ = some (.int .i64 (nth q 1))) (h2 : w.cell? ⟨H, 2, none⟩ = some (.int .i64 (nth q 2))) (h3 : w.cell? ⟨H, 3, none⟩ = some (.int .i64 (nth q 3))) :
    ∀ k, k < 4 → w.cell? ⟨H, k, none⟩ = some (.int .i64 (nth q k)) := by
  intro k hk
  have : k = 0 ∨ k = 1 ∨ k = 2 ∨ k = 3 := by omega
  rcases this with rfl | rfl | rfl | rfl <;> assumption
set_option maxRecDepth 100000 in
set_option maxHeartbeats 1000000 in
theorem cnumbers_any (B : Nat) (d : Nat) (a : Option Addr) (cap : Nat) (l : List (Int × Int)) (q : List Int) (w : World) (hL : Logged w B d a cap l) (hd : d ≤ 3) (hq : q.length = d + 1) :
    Calls Try.prog 60 #[.pointer (some ⟨B, 0, none⟩), trackV q] w fun e w' => ∃ v, e = .returned v ∧ w'.ownsRow w.heap.size 2 1 v q.length (q.map (.int .i64)) ∧ Below w.heap.size w w' := by
  have hb0 := Below.new w (.cells #[.int .i64 (nth q 0), .int .i64 (nth q 1), .int .i64 (nth q 2), .int .i64 (nth q 3)] 76)
  have HL := Lib.hid (hL.on hb0)
  have HB := Lib.hid hb0
  have HC := Lib.hid (track_cells (w := w.alloc (.cells #[.int .i64 (nth q 0), .int .i64 (nth q 1), .int .i64 (nth q 2), .int .i64 (nth q 3)] 76)) (H := w.heap.size) (q := q) (by simp) (by simp) (by simp) (by simp))
  clear hL hb0
  have hx1 := HL.out.x1
  have k1 : IntKind.i64.wrap ((d : Int) + 1) = (d : Int) + 1 := IntWalk.i64_in _ (by omega)
  have k2 : (0 : Int) ≤ (d : Int) + 1 := by omega
  have k3 : (d : Int) + 1 ≤ 4 := by omega
  have k4 : ((d : Int) + 1).toNat = d + 1 := by omega
  unfold trackV
  go_enter Try.func60, Try.ntmps60
  go_wp2_with fail
  clear hx1
  generalize w.alloc (.cells #[.int .i64 (nth q 0), .int .i64 (nth q 1), .int .i64 (nth q 2), .int .i64 (nth q 3)] 76) = W0 at *
  have hw0 := HB.out.size
  go_loopw [5, 16] (fun v i wi => ∃ j : Nat, j ≤ d + 1 ∧ i = .int .i64 j ∧ wi.ownsRow w.heap.size 2 1 v j ((q.take j).map (.int .i64)) ∧ Below W0.heap.size W0 wi) (fun _ i _ => d + 1 - (intOf i).toNat)
  case atStart => exact ⟨0, Nat.zero_le _, rfl, World.ownsRow_nil _ _ _ _, Below.refl _ _⟩
  case round =>
    obtain ⟨j, hj, rfl, hown, hb⟩ := hrel
    have hbs := hb.size
    by_cases hlt : j < d + 1
    · obtain ⟨-, ao, cp, rfl, hi, hcp⟩ := Ints.of_ownsRow hown
      have hcj := cell_on hb (HC.out j (by omega))
      have hltI : (j : Int) < ↑d + 1 := by omega
      have hcpI : (j : Int) ≤ ↑cp := by omega
      have hjn : j + 1 ≤ 2000000 := by omega
      have hnil : ao = none → j = 0 := fun e => by
        by_cases h0 : j = 0
        · exact h0
        · obtain ⟨b, off, e', _⟩ := hi 0 (by simp; omega)
          rw [e] at e'; cases e'
      have hlo : ((q.take j).map (Value.int .i64)).length = j * 1 := by simp; omega
      have HI := Lib.hid (hi.alloc (.cells #[.int .i64 (nth q j)] 2))
      have HNil := Lib.hid hnil
      have HLo := Lib.hid hlo
      have HB2 := Lib.hid hb
      clear hown hi hnil hlo hb
      go_wp2_with (at_builtin; refine listNew T22 rfl (.tmp 25) (.tmp 27) rfl ao j _ [.int .i64 (nth q j)] 1 1 ⟨wr.heap.size, 0, none⟩ rfl HNil.out HLo.out HI.out.olds rfl rfl (by omega) (news_new _ _ _) (by simp [Value.oneCell']) hjn ?_; intro v1 w1 hown1 hg1)
      have hb3 := (HB2.out.alloc hbs (.cells #[.int .i64 (nth q j)] 2)).trans ((below_none hg1).mono (by simp; omega))
      have hown2 := owns_mono hown1 (show w.heap.size ≤ _ by simp; omega)
      go_roundw
      case rel => exact ⟨j + 1, by omega, by go_num, by rw [take_succ_nth q j (by omega), List.map_append]; exact hown2, hb3⟩
      case measure => simp [intOf]; omega
    · have hjd : j = d + 1 := by omega
      subst hjd
      rw [List.take_of_length_le (by omega)] at hown
      go_wp2_with fail
      go_ret
      exact ⟨_, rfl, by rw [hq]; exact hown, HB.out.trans (hb.mono hw0)⟩
theorem nth_pad (q : List Int) (i : Nat) (hi : i < 4) : nth [nth q 0, nth q 1, nth q 2, nth q 3] i = nth q i := by
  have : i = 0 ∨ i = 1 ∨ i = 2 ∨ i = 3 := by omega
  rcases this with rfl | rfl | rfl | rfl <;> rfl
theorem nth_zero {q : List Int} {i : Nat} (h : q.length ≤ i) : nth q i = 0 := by simp [nth, h]
theorem nth_num {q : List Int} (hz : q.all R.numOk = true) (i : Nat) : R.numOk (nth q i) = true := by
  by_cases h : i < q.length
  · exact R.all_nth hz h
  · rw [nth_zero (by omega)]; rfl
/-- The zeros behind a path do not turn its place. -/
theorem atD_pad {q : List Int} (hq : q.length ≤ 4) (d : Int) : R.atD [nth q 0, nth q 1, nth q 2, nth q 3] d = R.atD q d := by
  rcases R.list4 hq with rfl | ⟨a, rfl⟩ | ⟨a, b, rfl⟩ | ⟨a, b, c, rfl⟩ | ⟨a, b, c, e, rfl⟩ <;> simp [R.atD, R.atFrom, up, nth]
theorem pad_num {q : List Int} (hz : q.all R.numOk = true) : [nth q 0, nth q 1, nth q 2, nth q 3].all R.numOk = true := by
  simp [nth_num hz]
set_option maxRecDepth 100000 in
set_option maxHeartbeats 1000000 in
theorem lies_any (B : Nat) (d : Int) (a : Option Addr) (cap : Nat) (l : List (Int × Int)) (q : List Int) (i : Nat) (w : World) (hL : Logged w B d a cap l) (hv : R.Valid d l) (hq : q.length ≤ 4) (hz : q.all R.numOk = true) (hi : i < l.length) :
    Calls Try.prog 70 #[.pointer (some ⟨B, 0, none⟩), trackV q, .int .i64 i] w fun e w' => e = .returned (.bool (R.atD q (dayN l i) == plcN l i)) ∧ Below w.heap.size w w' := by
  have hb0 := Below.new w (.cells #[.int .i64 (nth q 0), .int .i64 (nth q 1), .int .i64 (nth q 2), .int .i64 (nth q 3)] 76)
  have HL := Lib.hid (hL.on hb0)
  have HB := Lib.hid hb0
  have HC := Lib.hid (track_cells (w := w.alloc (.cells #[.int .i64 (nth q 0), .int .i64 (nth q 1), .int .i64 (nth q 2), .int .i64 (nth q 3)] 76)) (H := w.heap.size) (q := q) (by simp) (by simp) (by simp) (by simp))
  have h12 := hv.len
  have hf := hv.fit i hi
  unfold R.FitS at hf
  obtain ⟨f0, f1, -, -⟩ := hf
  have hsz0 := hb0.size
  clear hL hb0
  have hx2 := HL.out.x2
  obtain ⟨ba, offa, rfl, hday, hplc⟩ := HL.out.sig i hi
  have hiI : (i : Int) < ↑l.length := by omega
  unfold trackV
  go_enter Try.func70, Try.ntmps70
  have hW : ∃ W0, w.alloc (.cells #[.int .i64 (nth q 0), .int .i64 (nth q 1), .int .i64 (nth q 2), .int .i64 (nth q 3)] 76) = W0 := ⟨_, rfl⟩
  go_wp2_with fail
  have hb1 := HB.out.alloc hsz0 (.cells #[.int .i64 (dayN l i), .int .i64 (plcN l i)] 57)
  have hs1 : ∀ c, c < 4 → ((w.alloc (.cells #[.int .i64 (nth q 0), .int .i64 (nth q 1), .int .i64 (nth q 2), .int .i64 (nth q 3)] 76)).alloc (.cells #[.int .i64 (dayN l i), .int .i64 (plcN l i)] 57)).cell? ⟨w.heap.size, c, none⟩ = some (.int .i64 (nth q c)) := fun c hc => cell_on (Below.new _ _) (HC.out c hc)
  have e0 : ((w.alloc (.cells #[.int .i64 (nth q 0), .int .i64 (nth q 1), .int .i64 (nth q 2), .int .i64 (nth q 3)] 76)).alloc (.cells #[.int .i64 (dayN l i), .int .i64 (plcN l i)] 57)).cell? ⟨w.heap.size + 1, 0, none⟩ = some (.int .i64 (dayN l i)) := by simp
  have e1 : ((w.alloc (.cells #[.int .i64 (nth q 0), .int .i64 (nth q 1), .int .i64 (nth q 2), .int .i64 (nth q 3)] 76)).alloc (.cells #[.int .i64 (dayN l i), .int .i64 (plcN l i)] 57)).cell? ⟨w.heap.size + 1, 1, none⟩ = some (.int .i64 (plcN l i)) := by simp
  generalize ((w.alloc (.cells #[.int .i64 (nth q 0), .int .i64 (nth q 1), .int .i64 (nth q 2), .int .i64 (nth q 3)] 76)).alloc (.cells #[.int .i64 (dayN l i), .int .i64 (plcN l i)] 57)) = W1 at *
  clear hx2 hday hplc
  have c0 := cell_regrown e0
  have c1 := cell_regrown e1
  have hI : Ints .i64 W1 (some ⟨w.heap.size, 0, none⟩) [nth q 0, nth q 1, nth q 2, nth q 3] := fun j hj => ⟨w.heap.size, 0, rfl, by
    rw [Nat.zero_add, nth_pad q j (by simpa using hj)]; exact hs1 j (by simpa using hj)⟩
  have cP : ∀ dd os, Calls Try.prog 56 #[.slice (some ⟨w.heap.size, 0, none⟩) 4 4, .int .i64 (dayN l i)] (Go.Sort.grow (redrawn W1 dd) os) fun e w'' => e = .returned (.int .i64 (R.atD q (dayN l i))) ∧ ∃ p : Regrown, w'' = Go.Sort.grow (redrawn W1 p.d) p.os := fun dd os =>
    Calls.regrown_of (by
      have := cplace_any (some ⟨w.heap.size, 0, none⟩) 4 [nth q 0, nth q 1, nth q 2, nth q 3] (dayN l i) (Go.Sort.grow (redrawn W1 dd) os) (by simp) f0 f1 (pad_num hz) (hI.below (below_regrown W1 dd os))
      rw [atD_pad hq] at this
      exact this)
  have HB1 := Lib.hid hb1
  clear hW hs1 hI e0 e1 hb1
  refine wp_region_quiet_below (by kernel_rfl) (by kernel_rfl) ?_
  repeat (quiet_step (exact cP _ _))
  refine wpQuiet_nil ?_
  intro _ hw'
  obtain ⟨⟨dq, osq⟩, hw''⟩ := hw'
  subst hw''
  have hbq := below_regrown W1 dq osq
  go_wp2_with fail
  go_ret
  exact ⟨rfl, HB1.out.trans (hbq.mono (by have := HB1.out.size; omega))⟩
end Go.Proofs.Ytkcgkfhfogdihaa
/- Walk of the program's on. -/
namespace Go.Proofs.Ytkcgkfhfogdihaa
open Go.RowKit
namespace C
/-- How many of the first j sightings lie on a path. -/
def onN (l : List (Int × Int)) (q : List Int) (j : Nat) : Nat := up (fun i n => if (R.atD q (dayN l i) == plcN l i) = true then n + 1 else n) 0 j
theorem onN_succ (l : List (Int × Int)) (q : List Int) (j : Nat) : onN l q (j + 1) = if (R.atD q (dayN l j) == plcN l j) = true then onN l q j + 1 else onN l q j := rfl
theorem onN_le (l : List (Int × Int)) (q : List Int) (j : Nat) : onN l q j ≤ j := by
  induction j with
  | zero => exact Nat.le_refl _
  | succ j ih => rw [onN_succ]; split <;> omega
theorem sizeTo_low (b k : Nat) : ∀ j, j ≤ k → R.sizeTo (b + 2 ^ k) j = R.sizeTo b j := by
  intro j
  induction j with
  | zero => intro _; rfl
  | succ j ih =>
    intro hj
    show R.sizeTo (b + 2 ^ k) j + (b + 2 ^ k) / 2 ^ j % 2 = R.sizeTo b j + b / 2 ^ j % 2
    rw [ih (by omega)]
    have e : 2 ^ k = 2 ^ j * (2 * 2 ^ (k - j - 1)) := by
      rw [show 2 * 2 ^ (k - j - 1) = 2 ^ (k - j) by rw [show k - j = (k - j - 1) + 1 by omega, Nat.pow_succ, Nat.mul_comm]; simp, ← Nat.pow_add]
      congr 1; omega
    rw [e, Nat.add_mul_div_left _ _ (Nat.two_pow_pos j)]
    omega
theorem onN_size {l : List (Int × Int)} (h : l.length ≤ 12) (q : List Int) : ∀ k, k ≤ l.length → R.size (R.onTo l q k) = onN l q k := by
  intro k
  induction k with
  | zero => intro _; show R.size 0 = 0; decide
  | succ k ih =>
    intro hk
    have hlt := R.onTo_lt l q k
    have hlt2 := R.onTo_lt l q (k + 1)
    rw [onN_succ, ← ih (by omega)]
    show R.size (if R.atD q (dayN l k) = plcN l k then R.onTo l q k + 2 ^ k else R.onTo l q k) = _
    by_cases hl : R.atD q (dayN l k) = plcN l k
    · have hl' : (R.atD q (dayN l k) == plcN l k) = true := by simp [hl]
      rw [if_pos hl, if_pos hl']
      have e1 : R.size (R.onTo l q k + 2 ^ k) = R.sizeTo (R.onTo l q k + 2 ^ k) (k + 1) := by
        have : R.sizeTo (R.onTo l q k + 2 ^ k) ((k + 1) + (11 - k)) = _ := R.sizeTo_end (Nat.div_eq_of_lt (by rw [Nat.pow_succ]; omega)) (11 - k)
        rw [← this]; unfold R.size; congr 1; omega
      have e2 : R.size (R.onTo l q k) = R.sizeTo (R.onTo l q k) k := by
        have : R.sizeTo (R.onTo l q k) (k + (12 - k)) = _ := R.sizeTo_end (Nat.div_eq_of_lt hlt) (12 - k)
        rw [← this]; unfold R.size; congr 1; omega
      rw [e1, e2]
      show R.sizeTo (R.onTo l q k + 2 ^ k) k + (R.onTo l q k + 2 ^ k) / 2 ^ k % 2 = _
      rw [sizeTo_low _ _ k (Nat.le_refl _), Nat.add_div_right _ (Nat.two_pow_pos k), Nat.div_eq_of_lt hlt]
    · have hl' : ¬ (R.atD q (dayN l k) == plcN l k) = true := by simp [hl]
      rw [if_neg hl, if_neg hl']
def onL (l : List (Int × Int)) (q : List Int) : Nat := onN l q l.length
theorem onL_size {l : List (Int × Int)} (h : l.length ≤ 12) (q : List Int) : R.size (R.on l q) = onL l q := onN_size h q l.length (Nat.le_refl _)
end C
set_option maxRecDepth 100000 in
set_option maxHeartbeats 1000000 in
theorem con_any (B : Nat) (d : Int) (a : Option Addr) (cap : Nat) (l : List (Int × Int)) (q : List Int) (w : World) (hL : Logged w B d a cap l) (hv : R.Valid d l) (hq : q.length ≤ 4) (hz : q.all R.numOk = true) :
    Calls Try.prog 63 #[.pointer (some ⟨B, 0, none⟩), trackV q] w fun e w' => e = .returned (.int .i64 (C.onL l q)) ∧ Below w.heap.size w w' := by
  have hb0 := Below.new w (.cells #[.int .i64 (nth q 0), .int .i64 (nth q 1), .int .i64 (nth q 2), .int .i64 (nth q 3)] 76)
  have HL := Lib.hid (hL.on hb0)
  have HB := Lib.hid hb0
  have HC := Lib.hid (track_cells (w := w.alloc (.cells #[.int .i64 (nth q 0), .int .i64 (nth q 1), .int .i64 (nth q 2), .int .i64 (nth q 3)] 76)) (H := w.heap.size) (q := q) (by simp) (by simp) (by simp) (by simp))
  have hLies := Lib.hid (fun i (hi : i < l.length) W (hW : Logged W B d a cap l) => lies_any B d a cap l q i W hW hv hq hz hi)
  have h12 := hv.len
  have hsz0 := hb0.size
  clear hL hb0 hv hz
  have hx2 := HL.out.x2
  unfold trackV
  go_enter Try.func63, Try.ntmps63
  go_wp2_with fail
  clear hx2
  unfold trackV at hLies
  have hN : ∃ W0, W0 = w.alloc (.cells #[.int .i64 (nth q 0), .int .i64 (nth q 1), .int .i64 (nth q 2), .int .i64 (nth q 3)] 76) := ⟨_, rfl⟩
  obtain ⟨W0, hW0⟩ := hN
  rw [← hW0] at HL HB HC hsz0 ⊢
  clear hW0
  go_loopw [5, 16] (fun n i wi => ∃ j : Nat, j ≤ l.length ∧ i = .int .i64 j ∧ n = .int .i64 (C.onN l q j) ∧ Below W0.heap.size W0 wi) (fun _ i _ => l.length - (intOf i).toNat)
  case atStart => exact ⟨0, Nat.zero_le _, rfl, rfl, Below.refl _ _⟩
  case round =>
    obtain ⟨j, hj, rfl, rfl, hb⟩ := hrel
    have hbs := hb.size
    have hle := C.onN_le l q j
    by_cases hlt : j < l.length
    · have HCall := Lib.hid (hLies.out j hlt wr (HL.out.on hb))
      have q0 := cell_on hb (HC.out 0 (by omega))
      have q1 := cell_on hb (HC.out 1 (by omega))
      have q2 := cell_on hb (HC.out 2 (by omega))
      have q3 := cell_on hb (HC.out 3 (by omega))
      have hltI : (j : Int) < ↑l.length := by omega
      have HB2 := Lib.hid hb
      clear hb
      cases hlie : (R.atD q (dayN l j) == plcN l j) with
      | true =>
        have HS : Hid (C.onN l q (j + 1) = C.onN l q j + 1) := Lib.hid (by rw [C.onN_succ, if_pos hlie])
        rw [hlie] at HCall
        clear hlie
        go_wp2_with fail
        refine HCall.out.mono ?_
        rintro e w1 ⟨rfl, hb1⟩
        go_wp2_with fail
        go_roundw
        case rel => exact ⟨j + 1, by omega, by go_num, by rw [HS.out]; go_num, HB2.out.trans (hb1.mono hbs)⟩
        case measure => simp [intOf]; omega
      | false =>
        have HS : Hid (C.onN l q (j + 1) = C.onN l q j) := Lib.hid (by rw [C.onN_succ, if_neg (by rw [hlie]; simp)])
        rw [hlie] at HCall
        clear hlie
        go_wp2_with fail
        refine HCall.out.mono ?_
        rintro e w1 ⟨rfl, hb1⟩
        go_wp2_with fail
        go_roundw
        case rel => exact ⟨j + 1, by omega, by go_num, by rw [HS.out], HB2.out.trans (hb1.mono hbs)⟩
        case measure => simp [intOf]; omega
    · have HE : Hid (j = l.length) := Lib.hid (by omega)
      go_wp2_with fail
      go_ret
      exact ⟨ret_int (by rw [HE.out]; rfl), HB.out.trans (hb.mono hsz0)⟩
end Go.Proofs.Ytkcgkfhfogdihaa
