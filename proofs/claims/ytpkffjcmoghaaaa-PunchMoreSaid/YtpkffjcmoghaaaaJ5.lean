/- One text of ComA, ComB, ComC. -/
import Derived.Test.YtpkffjcmoghaaaaJ4
import Derived.Shelf.Abstract
/- Walks of the program's functions: within, CheckJob. -/
namespace Go.Proofs.Ytpkffjcmoghaaaa
open Go.RowKit
def outB (lo hi : Int) (n : Int) : Bool := decide (n < lo ∨ hi < n)
set_option maxHeartbeats 400000 in
theorem withinF_any (lo hi n : Int) (b1 b2 : Nat) (w : World) (h1 : w.cell? ⟨b1, 0, none⟩ = some (.int .i64 lo)) (h2 : w.cell? ⟨b2, 0, none⟩ = some (.int .i64 hi)) :
    Calls Try.prog 77 #[.int .i64 n, .pointer (some ⟨b1, 0, none⟩), .pointer (some ⟨b2, 0, none⟩)] w fun e w' => e = .returned (.bool (outB lo hi n)) ∧ w = w' := by
  by_cases c1 : n < lo
  · have HE : Hid (outB lo hi n = true) := Lib.hid (by unfold outB; rw [decide_eq_true_eq]; exact .inl c1)
    go_enter Try.func77, Try.ntmps77
    go_wp2_with fail
    go_ret
    exact ⟨ret_bool (by rw [HE.out]), rfl⟩
  · by_cases c2 : hi < n
    · have HE : Hid (outB lo hi n = true) := Lib.hid (by unfold outB; rw [decide_eq_true_eq]; exact .inr c2)
      go_enter Try.func77, Try.ntmps77
      go_wp2_with fail
      go_ret
      exact ⟨ret_bool (by rw [HE.out]), rfl⟩
    · have HE : Hid (outB lo hi n = false) := Lib.hid (by unfold outB; rw [decide_eq_false_iff_not]; omega)
      go_enter Try.func77, Try.ntmps77
      go_wp2_with fail
      go_ret
      exact ⟨ret_bool (by rw [HE.out]), rfl⟩
/-- The index of the first that meets q, -1 if none does. -/
def idxBy (q : Int → Bool) (l : List Int) : Int := ((l.findIdx? q).map Int.ofNat).getD (-1)
theorem idxBy_hit {q : Int → Bool} {l : List Int} {j : Nat} (hj : j < l.length) (h1 : ∀ k, k < j → q (nth l k) = false) (h2 : q (nth l j) = true) : idxBy q l = j := by
  have : l.findIdx? q = some j := by
    rw [List.findIdx?_eq_some_iff_getElem]
    refine ⟨hj, by rw [← nth_eq l j hj]; exact h2, fun k hk => ?_⟩
    have := h1 k hk
    rw [nth_eq l k (by omega)] at this
    simp [this]
  unfold idxBy; rw [this]; rfl
theorem idxBy_none {q : Int → Bool} {l : List Int} (h1 : ∀ k, k < l.length → q (nth l k) = false) : idxBy q l = -1 := by
  have : l.findIdx? q = none := by
    rw [List.findIdx?_eq_none_iff]
    intro x hx
    obtain ⟨k, hk, rfl⟩ := List.getElem_of_mem hx
    have := h1 k hk
    rwa [nth_eq l k hk] at this
  unfold idxBy; rw [this]; rfl
theorem idxBy_any (q : Int → Bool) (l : List Int) : decide (0 ≤ idxBy q l) = l.any q := by
  by_cases h : ∃ k, k < l.length ∧ q (nth l k) = true
  · obtain ⟨k0, h0, h1⟩ := h
    obtain ⟨k, ⟨hk, hq⟩, hmin⟩ := P.least_ex (q := fun k => k < l.length ∧ q (nth l k) = true) k0 ⟨h0, h1⟩
    rw [idxBy_hit hk (fun j hj => by have := hmin j hj; cases h : q (nth l j); rfl; exact absurd ⟨by omega, h⟩ this) hq]
    have : l.any q = true := by rw [List.any_eq_true]; exact ⟨nth l k, nth_mem hk, hq⟩
    rw [this, decide_eq_true_eq]; omega
  · have hn : ∀ k, k < l.length → q (nth l k) = false := fun k hk => by cases hq : q (nth l k); rfl; exact absurd ⟨k, hk, hq⟩ h
    rw [idxBy_none hn]
    have : l.any q = false := by
      rw [List.any_eq_false]; intro x hx
      obtain ⟨k, hk, rfl⟩ := List.getElem_of_mem hx
      have := hn k hk; rw [nth_eq l k hk] at this; simp [this]
    rw [this]; simp
set_option maxHeartbeats 400000 in
theorem indexInt_any (f : Nat) (cb : Array Value) (q : Int → Bool) (b : Option Addr) (cap : Nat) (l : List Int) (w : World) (hl : l.length ≤ 1000000) (hb : Ints .i64 w b l) (eg : ∀ args w, (callFunc f args).run Try.prog w = .ok (.enter f args) w)
    (hq : ∀ n, Calls Try.prog f (#[.int .i64 n] ++ cb) w fun e w' => e = .returned (.bool (q n)) ∧ w = w') :
    Calls Try.prog 89 #[.slice b l.length cap, .func (.func f) #[] cb] w fun e w' => e = .returned (.int .i64 (idxBy q l)) ∧ w = w' := by
  have HA := Lib.hid hb; clear hb
  have HQ := Lib.hid hq; clear hq
  go_enter Try.func89, Try.ntmps89
  go_wp2_with fail
  go_loop [5, 8] (fun _ i => ∃ j : Nat, j ≤ l.length ∧ i = .int .i64 j ∧ Hid (∀ k, k < j → q (nth l k) = false)) (fun _ i => l.length - (intOf i).toNat)
  case atStart => exact ⟨0, by omega, rfl, Lib.hid (fun k hk => by omega)⟩
  case round =>
    obtain ⟨j, hj, rfl, hr⟩ := hrel
    by_cases hlt : j < l.length
    · obtain ⟨b1, off1, rfl, c⟩ := HA.out j hlt
      cases hqj : q (nth l j) with
      | true =>
        have HE := Lib.hid (idxBy_hit hlt hr.out hqj)
        have HC := HQ.out (nth l j)
        rw [hqj] at HC
        have HC := Lib.hid HC
        clear hqj
        go_wp2_with fail
        refine HC.out.mono ?_
        rintro e w' ⟨rfl, rfl⟩
        go_wp2_with fail
        go_ret
        exact ⟨ret_int (by rw [HE.out]), rfl⟩
      | false =>
        have HE : Hid (∀ k, k < j + 1 → q (nth l k) = false) := Lib.hid (fun k hk => by
          by_cases e : k = j
          · rw [e]; exact hqj
          · exact hr.out k (by omega))
        have HC := HQ.out (nth l j)
        rw [hqj] at HC
        have HC := Lib.hid HC
        clear hqj
        go_wp2_with fail
        refine HC.out.mono ?_
        rintro e w' ⟨rfl, rfl⟩
        go_wp2_with fail
        go_round
        case rel => exact ⟨j + 1, by omega, by go_num, HE⟩
        case measure => simp [intOf]; omega
    · have HE := Lib.hid (idxBy_none (l := l) (q := q) (fun k hk => hr.out k (by omega)))
      go_wp2_with fail
      go_ret
      exact ⟨ret_int (by rw [HE.out]), rfl⟩
set_option maxHeartbeats 400000 in
theorem containsFInt_any (f : Nat) (cb : Array Value) (q : Int → Bool) (b : Option Addr) (cap : Nat) (l : List Int) (w : World) (hl : l.length ≤ 1000000) (hb : Ints .i64 w b l) (eg : ∀ args w, (callFunc f args).run Try.prog w = .ok (.enter f args) w)
    (hq : ∀ n, Calls Try.prog f (#[.int .i64 n] ++ cb) w fun e w' => e = .returned (.bool (q n)) ∧ w = w') :
    Calls Try.prog 76 #[.slice b l.length cap, .func (.func f) #[] cb] w fun e w' => e = .returned (.bool (l.any q)) ∧ w = w' := by
  have HC := Lib.hid (indexInt_any f cb q b cap l w hl hb eg hq)
  have HE := Lib.hid (idxBy_any q l)
  clear hb hq
  generalize idxBy q l = x at *
  go_enter Try.func76, Try.ntmps76
  go_wp2_with fail
  refine HC.out.mono ?_
  rintro e w' ⟨rfl, rfl⟩
  go_wp2_with fail
  go_ret
  exact ⟨ret_bool (by rw [← HE.out]), rfl⟩
def withinB (lo hi : Int) (l : List Int) : Bool := l.all fun n => decide (lo ≤ n ∧ n ≤ hi)
theorem withinB_any (lo hi : Int) (l : List Int) : (!l.any (outB lo hi)) = withinB lo hi l := by
  unfold withinB
  induction l with
  | nil => rfl
  | cons x r ih =>
    rw [List.any_cons, List.all_cons, ← ih, Bool.not_or]
    congr 1
    unfold outB
    by_cases h : lo ≤ x ∧ x ≤ hi
    · rw [decide_eq_true h, decide_eq_false (by omega)]; rfl
    · rw [decide_eq_false h, decide_eq_true (by omega)]; rfl
set_option maxRecDepth 100000 in
set_option maxHeartbeats 400000 in
theorem within_any (lo hi : Int) (b : Option Addr) (cap : Nat) (l : List Int) (w : World) (hl : l.length ≤ 1000000) (hb : Ints .i64 w b l) :
    Calls Try.prog 52 #[.int .i64 lo, .int .i64 hi, .slice b l.length cap] w fun e w' => e = .returned (.bool (withinB lo hi l)) ∧ Below w.heap.size w w' := by
  have eg : ∀ args w, (callFunc 77 args).run Try.prog w = .ok (.enter 77 args) w := enters_of Try.func77 (by kernel_rfl) rfl
  have hb1 := (Below.new w (.cells #[.int .i64 lo] 3)).alloc (by simp) (.cells #[.int .i64 hi] 3)
  have HC := Lib.hid (containsFInt_any 77 #[.pointer (some ⟨w.heap.size, 0, none⟩), .pointer (some ⟨w.heap.size + 1, 0, none⟩)] (outB lo hi) b cap l ((w.alloc (.cells #[.int .i64 lo] 3)).alloc (.cells #[.int .i64 hi] 3)) hl (hb.below hb1) eg
    (fun n => withinF_any lo hi n w.heap.size (w.heap.size + 1) _ (cell_on (Below.new _ _) (by simp)) (by have := cell_new1 (w.alloc (.cells #[.int .i64 lo] 3)) (.int .i64 hi) 3; simpa only [World.size_alloc] using this)))
  have HB := Lib.hid hb1
  have HE := Lib.hid (withinB_any lo hi l)
  clear hb hb1
  go_enter Try.func52, Try.ntmps52
  go_wp2_with fail
  refine HC.out.mono ?_
  rintro e w' ⟨rfl, rfl⟩
  go_wp2_with fail
  go_ret
  exact ⟨ret_bool (by rw [← HE.out]), HB.out⟩
/-- One number. -/
theorem within_one (lo hi n : Int) (w : World) (g : Nat) (c : w.cell? ⟨g, 0, none⟩ = some (.int .i64 n)) :
    Calls Try.prog 52 #[.int .i64 lo, .int .i64 hi, .slice (some ⟨g, 0, none⟩) 1 1] w fun e w' => e = .returned (.bool (decide (lo ≤ n ∧ n ≤ hi))) ∧ Below w.heap.size w w' := by
  have h := within_any lo hi (some ⟨g, 0, none⟩) 1 [n] w (by simp) (fun i hi => by
    have : i = 0 := by simp at hi; omega
    subst this; exact ⟨g, 0, rfl, by simpa [nth] using c⟩)
  refine h.mono ?_
  rintro e w' ⟨rfl, hb⟩
  exact ⟨by unfold withinB; simp, hb⟩
end Go.Proofs.Ytpkffjcmoghaaaa
/- Walks of the program's functions: CheckJob, open. -/
namespace Go.Proofs.Ytpkffjcmoghaaaa
open Go.RowKit
/-- A star, as a value. -/
abbrev starV (s : P.Star) : Value := .agg #[.int .i64 s.1, .int .i64 s.2.1, .int .i64 s.2.2]
set_option maxRecDepth 100000 in
set_option maxHeartbeats 2000000 in
theorem odd_any (L : Int) (B : Nat) (s : P.Star) (w : World) (hL0 : 1 ≤ L) (hL : L ≤ 20) (h1 : w.cell? ⟨B, 1, none⟩ = some (.int .i64 L)) :
    Calls Try.prog 51 #[starV s, .pointer (some ⟨B, 0, none⟩)] w fun e w' => e = .returned (.bool (!P.okB L s)) ∧ Below w.heap.size w w' := by
  obtain ⟨f, t, wt⟩ := s
  have HC0 := Lib.hid (Cells.new w #[.int .i64 f, .int .i64 t, .int .i64 wt] 59)
  have HB0 := Lib.hid (Below.new w (.cells #[.int .i64 f, .int .i64 t, .int .i64 wt] 59))
  have hBl := World.block_lt_of_cell? w _ h1
  simp only at hBl
  have HL := Lib.hid h1
  have k1 : IntKind.i64.wrap (L - 1) = L - 1 := IntWalk.i64_in _ (by omega)
  have HCa := fun w1 (h : Below (w.alloc (.cells #[.int .i64 f, .int .i64 t, .int .i64 wt] 59)).heap.size (w.alloc (.cells #[.int .i64 f, .int .i64 t, .int .i64 wt] 59)) w1) => HC0.out.on h
  by_cases c1 : 0 ≤ f ∧ f ≤ L - 1
  · have d1 := within_one 0 (L - 1) f ((w.alloc (.cells #[.int .i64 f, .int .i64 t, .int .i64 wt] 59)).alloc (.cells #[.int .i64 f] 3)) (w.heap.size + 1) (by have := cell_new1 (w.alloc (.cells #[.int .i64 f, .int .i64 t, .int .i64 wt] 59)) (.int .i64 f) 3; simpa only [World.size_alloc] using this)
    rw [decide_eq_true c1] at d1
    have D1 := Lib.hid d1
    have D2 := Lib.hid (fun w1 : World => within_one f (L - 1) t (w1.alloc (.cells #[.int .i64 t] 3)) w1.heap.size (cell_new1 _ _ _))
    have HCb := Lib.hid (HC0.out.on (Below.new _ (.cells #[.int .i64 f] 3)))
    have HLb := Lib.hid (cell_on (Below.new _ (.cells #[.int .i64 f] 3)) (cell_on (Below.new w (.cells #[.int .i64 f, .int .i64 t, .int .i64 wt] 59)) HL.out))
    clear d1 HCa
    by_cases c2 : f ≤ t ∧ t ≤ L - 1
    · have D2' : Hid (∀ w1 : World, Calls Try.prog 52 #[.int .i64 f, .int .i64 (L - 1), .slice (some ⟨w1.heap.size, 0, none⟩) 1 1] (w1.alloc (.cells #[.int .i64 t] 3)) fun e w' => e = .returned (.bool true) ∧ Below (w1.alloc (.cells #[.int .i64 t] 3)).heap.size (w1.alloc (.cells #[.int .i64 t] 3)) w') := Lib.hid (fun w1 => by have := D2.out w1; rwa [decide_eq_true c2] at this)
      clear D2
      have D2 := D2'
      clear D2'
      by_cases c3 : wt < 1
      · have HE : Hid (P.okB L (f, t, wt) = false) := Lib.hid (by unfold P.okB; rw [decide_eq_false_iff_not]; simp only; omega)
        clear c1 c2
        go_enter Try.func51, Try.ntmps51
        go_wp2_with fail
        refine D1.out.mono ?_
        rintro e w1 ⟨rfl, hb1⟩
        have HC1 := Lib.hid (HCb.out.on hb1)
        have y1 := cell_on hb1 HLb.out
        have HB1 : Hid (Below w.heap.size w w1) := Lib.hid ((HB0.out.alloc (by simp) _).trans (hb1.mono (by simp; omega)))
        have hsz := HB1.out.size
        have hlt1 := HC1.out.lt
        have z0 := HC1.out.cel 0 _ rfl
        have z1 := HC1.out.cel 1 _ rfl
        clear hb1
        go_wp2_with fail
        refine (D2.out w1).mono ?_
        rintro e w2 ⟨rfl, hb2⟩
        have HC2 := Lib.hid ((HC1.out.on (Below.new _ _)).on hb2)
        have HB2 : Hid (Below w.heap.size w w2) := Lib.hid ((HB1.out.alloc hsz _).trans (hb2.mono (by simp; omega)))
        have z2 := HC2.out.cel 2 _ rfl
        clear hb2 z0 z1 y1
        go_wp2_with fail
        go_ret
        exact ⟨ret_bool (by rw [HE.out]; first | done | rfl | (simp; omega)), HB2.out⟩
      · by_cases c4 : 100 < wt
        · have HE : Hid (P.okB L (f, t, wt) = false) := Lib.hid (by unfold P.okB; rw [decide_eq_false_iff_not]; simp only; omega)
          clear c1 c2
          go_enter Try.func51, Try.ntmps51
          go_wp2_with fail
          refine D1.out.mono ?_
          rintro e w1 ⟨rfl, hb1⟩
          have HC1 := Lib.hid (HCb.out.on hb1)
          have y1 := cell_on hb1 HLb.out
          have HB1 : Hid (Below w.heap.size w w1) := Lib.hid ((HB0.out.alloc (by simp) _).trans (hb1.mono (by simp; omega)))
          have hsz := HB1.out.size
          have hlt1 := HC1.out.lt
          have z0 := HC1.out.cel 0 _ rfl
          have z1 := HC1.out.cel 1 _ rfl
          clear hb1
          go_wp2_with fail
          refine (D2.out w1).mono ?_
          rintro e w2 ⟨rfl, hb2⟩
          have HC2 := Lib.hid ((HC1.out.on (Below.new _ _)).on hb2)
          have HB2 : Hid (Below w.heap.size w w2) := Lib.hid ((HB1.out.alloc hsz _).trans (hb2.mono (by simp; omega)))
          have z2 := HC2.out.cel 2 _ rfl
          clear hb2 z0 z1 y1
          go_wp2_with fail
          go_ret
          exact ⟨ret_bool (by rw [HE.out]; first | done | rfl | (simp; omega)), HB2.out⟩
        · have HE : Hid (P.okB L (f, t, wt) = true) := Lib.hid (by unfold P.okB; rw [decide_eq_true_eq]; simp only; omega)
          clear c1 c2
          go_enter Try.func51, Try.ntmps51
          go_wp2_with fail
          refine D1.out.mono ?_
          rintro e w1 ⟨rfl, hb1⟩
          have HC1 := Lib.hid (HCb.out.on hb1)
          have y1 := cell_on hb1 HLb.out
          have HB1 : Hid (Below w.heap.size w w1) := Lib.hid ((HB0.out.alloc (by simp) _).trans (hb1.mono (by simp; omega)))
          have hsz := HB1.out.size
          have hlt1 := HC1.out.lt
          have z0 := HC1.out.cel 0 _ rfl
          have z1 := HC1.out.cel 1 _ rfl
          clear hb1
          go_wp2_with fail
          refine (D2.out w1).mono ?_
          rintro e w2 ⟨rfl, hb2⟩
          have HC2 := Lib.hid ((HC1.out.on (Below.new _ _)).on hb2)
          have HB2 : Hid (Below w.heap.size w w2) := Lib.hid ((HB1.out.alloc hsz _).trans (hb2.mono (by simp; omega)))
          have z2 := HC2.out.cel 2 _ rfl
          clear hb2 z0 z1 y1
          go_wp2_with fail
          go_ret
          exact ⟨ret_bool (by rw [HE.out]; first | done | rfl | (simp; omega)), HB2.out⟩
    · have HE : Hid (P.okB L (f, t, wt) = false) := Lib.hid (by unfold P.okB; rw [decide_eq_false_iff_not]; simp only; omega)
      have D2' : Hid (∀ w1 : World, Calls Try.prog 52 #[.int .i64 f, .int .i64 (L - 1), .slice (some ⟨w1.heap.size, 0, none⟩) 1 1] (w1.alloc (.cells #[.int .i64 t] 3)) fun e w' => e = .returned (.bool false) ∧ Below (w1.alloc (.cells #[.int .i64 t] 3)).heap.size (w1.alloc (.cells #[.int .i64 t] 3)) w') := Lib.hid (fun w1 => by have := D2.out w1; rwa [decide_eq_false c2] at this)
      clear D2
      have D2 := D2'
      clear D2' c1 c2
      go_enter Try.func51, Try.ntmps51
      go_wp2_with fail
      refine D1.out.mono ?_
      rintro e w1 ⟨rfl, hb1⟩
      have HC1 := Lib.hid (HCb.out.on hb1)
      have y1 := cell_on hb1 HLb.out
      have HB1 : Hid (Below w.heap.size w w1) := Lib.hid ((HB0.out.alloc (by simp) _).trans (hb1.mono (by simp; omega)))
      have hsz := HB1.out.size
      have hlt1 := HC1.out.lt
      have z0 := HC1.out.cel 0 _ rfl
      have z1 := HC1.out.cel 1 _ rfl
      clear hb1
      go_wp2_with fail
      refine (D2.out w1).mono ?_
      rintro e w2 ⟨rfl, hb2⟩
      have HC2 := Lib.hid ((HC1.out.on (Below.new _ _)).on hb2)
      have HB2 : Hid (Below w.heap.size w w2) := Lib.hid ((HB1.out.alloc hsz _).trans (hb2.mono (by simp; omega)))
      have z2 := HC2.out.cel 2 _ rfl
      clear hb2 z0 z1 y1
      go_wp2_with fail
      go_ret
      exact ⟨ret_bool (by rw [HE.out]; first | done | rfl | (simp; omega)), HB2.out⟩
  · have HE : Hid (P.okB L (f, t, wt) = false) := Lib.hid (by unfold P.okB; rw [decide_eq_false_iff_not]; simp only; omega)
    have d1 := within_one 0 (L - 1) f ((w.alloc (.cells #[.int .i64 f, .int .i64 t, .int .i64 wt] 59)).alloc (.cells #[.int .i64 f] 3)) (w.heap.size + 1) (by have := cell_new1 (w.alloc (.cells #[.int .i64 f, .int .i64 t, .int .i64 wt] 59)) (.int .i64 f) 3; simpa only [World.size_alloc] using this)
    rw [decide_eq_false c1] at d1
    have D1 := Lib.hid d1
    clear d1 c1 HC0 HCa
    go_enter Try.func51, Try.ntmps51
    go_wp2_with fail
    refine D1.out.mono ?_
    rintro e w1 ⟨rfl, hb1⟩
    go_wp2_with fail
    go_ret
    exact ⟨ret_bool (by rw [HE.out]; rfl), (HB0.out.alloc (by simp) _).trans (hb1.mono (by simp; omega))⟩
/-! ### slices.IndexFunc, ContainsFunc of stars -/
set_option maxHeartbeats 1000000 in
theorem indexStar_any (f : Nat) (cb : Array Value) (q : P.Star → Bool) (b : Option Addr) (cap : Nat) (S : List P.Star) (w : World) (hl : S.length ≤ 1000000) (hb : Stars w b S) (eg : ∀ args w, (callFunc f args).run Try.prog w = .ok (.enter f args) w)
    (hq : ∀ s W, Below w.heap.size w W → Calls Try.prog f (#[starV s] ++ cb) W fun e w' => e = .returned (.bool (q s)) ∧ Below W.heap.size W w') :
    Calls Try.prog 78 #[.slice b S.length cap, .func (.func f) #[] cb] w fun e w' => ∃ x : Int, e = .returned (.int .i64 x) ∧ decide (0 ≤ x) = S.any q ∧ Below w.heap.size w w' := by
  have HA := Lib.hid hb; clear hb
  have HQ := Lib.hid hq; clear hq
  go_enter Try.func78, Try.ntmps78
  go_wp2_with fail
  go_loopw [5, 8] (fun _ i wr => ∃ j : Nat, j ≤ S.length ∧ i = .int .i64 j ∧ Hid (∀ k, k < j → q (P.star S k) = false) ∧ Hid (Below w.heap.size w wr)) (fun _ i _ => S.length - (intOf i).toNat)
  case atStart => exact ⟨0, by omega, rfl, Lib.hid (fun k hk => by omega), Lib.hid (Below.refl _ _)⟩
  case round =>
    obtain ⟨j, hj, rfl, hr, HB⟩ := hrel
    by_cases hlt : j < S.length
    · obtain ⟨b1, off1, rfl, c1, c2, c3⟩ := (HA.out.below HB.out) j hlt
      have HC := HQ.out (P.star S j) wr HB.out
      cases hqj : q (P.star S j) with
      | true =>
        have HE : Hid (decide ((0 : Int) ≤ (j : Int)) = S.any q) := Lib.hid (by
          have : S.any q = true := by rw [List.any_eq_true]; exact ⟨_, P.star_mem hlt, hqj⟩
          rw [this, decide_eq_true_eq]; omega)
        rw [hqj] at HC
        have HC := Lib.hid HC
        clear hqj
        go_wp2_with fail
        refine HC.out.mono ?_
        rintro e w' ⟨rfl, hb⟩
        go_wp2_with fail
        go_ret
        exact ⟨_, rfl, HE.out, HB.out.trans (hb.mono HB.out.size)⟩
      | false =>
        have HE : Hid (∀ k, k < j + 1 → q (P.star S k) = false) := Lib.hid (fun k hk => by
          by_cases e : k = j
          · rw [e]; exact hqj
          · exact hr.out k (by omega))
        rw [hqj] at HC
        have HC := Lib.hid HC
        clear hqj
        go_wp2_with fail
        refine HC.out.mono ?_
        rintro e w' ⟨rfl, hb⟩
        have HB2 := Lib.hid (HB.out.trans (hb.mono HB.out.size))
        clear hb
        go_wp2_with fail
        go_roundw
        case rel => exact ⟨j + 1, by omega, by go_num, HE, HB2⟩
        case measure => simp [intOf]; omega
    · have HE : Hid (decide ((0 : Int) ≤ -1) = S.any q) := Lib.hid (by
        have : S.any q = false := by
          rw [List.any_eq_false]; intro x hx
          obtain ⟨k, hk, rfl⟩ := List.getElem_of_mem hx
          have := hr.out k (by omega)
          simp [P.star, hk] at this; simp [this]
        rw [this]; rfl)
      go_wp2_with fail
      go_ret
      exact ⟨-1, rfl, HE.out, HB.out⟩
set_option maxHeartbeats 400000 in
theorem containsFStar_any (f : Nat) (cb : Array Value) (q : P.Star → Bool) (b : Option Addr) (cap : Nat) (S : List P.Star) (w : World) (hl : S.length ≤ 1000000) (hb : Stars w b S) (eg : ∀ args w, (callFunc f args).run Try.prog w = .ok (.enter f args) w)
    (hq : ∀ s W, Below w.heap.size w W → Calls Try.prog f (#[starV s] ++ cb) W fun e w' => e = .returned (.bool (q s)) ∧ Below W.heap.size W w') :
    Calls Try.prog 53 #[.slice b S.length cap, .func (.func f) #[] cb] w fun e w' => e = .returned (.bool (S.any q)) ∧ Below w.heap.size w w' := by
  have HC := Lib.hid (indexStar_any f cb q b cap S w hl hb eg hq)
  clear hb hq
  go_enter Try.func53, Try.ntmps53
  go_wp2_with fail
  refine HC.out.mono ?_
  rintro e w' ⟨x, rfl, hx, hb⟩
  have HX := Lib.hid hx
  clear hx
  go_wp2_with fail
  go_ret
  exact ⟨ret_bool (by rw [← HX.out]), hb⟩
/-! ### CheckJob -/
theorem checkJob_many {p L : Int} {S : List P.Star} (h1 : 1 ≤ p ∧ p ≤ 5) (h2 : 1 ≤ L ∧ L ≤ 20) (h : 16 < S.length) : P.checkJob p L S = 6 := by unfold P.checkJob; rw [if_neg (by omega), if_pos h]
theorem checkJob_rng {p L : Int} {S : List P.Star} (h : ¬ (1 ≤ p ∧ p ≤ 5) ∨ ¬ (1 ≤ L ∧ L ≤ 20)) : P.checkJob p L S = 3 := by unfold P.checkJob; rw [if_pos (by omega)]
theorem checkJob_odd {p L : Int} {S : List P.Star} (h1 : 1 ≤ p ∧ p ≤ 5) (h2 : 1 ≤ L ∧ L ≤ 20) (h : S.length ≤ 16) : P.checkJob p L S = if S.any (fun s => !P.okB L s) then 3 else 0 := by
  unfold P.checkJob; rw [if_neg (by omega), if_neg (by omega)]
  have : S.any (fun s => !P.okB L s) = !S.all (P.okB L) := by rw [List.all_eq_not_any_not, Bool.not_not]
  rw [this]; cases S.all (P.okB L) <;> rfl
set_option maxRecDepth 100000 in
set_option maxHeartbeats 2000000 in
theorem checkJob_any (a : Option Addr) (cap : Nat) (p L : Int) (S : List P.Star) (w : World) (hl : S.length ≤ 1000000) (ha : Stars w a S) :
    Calls Try.prog 19 #[jobV p L a S.length cap] w fun e w' => e = .returned (.int .i64 (P.checkJob p L S)) ∧ Below w.heap.size w w' := by
  have eg : ∀ args w, (callFunc 51 args).run Try.prog w = .ok (.enter 51 args) w := enters_of Try.func51 (by kernel_rfl) rfl
  have HJ0 := Lib.hid (Job.new ha p L cap 24)
  have HB0 := Lib.hid (Below.new w (.cells #[.int .i64 p, .int .i64 L, .slice a S.length cap] 24))
  clear ha
  by_cases c1 : 1 ≤ p ∧ p ≤ 5
  · have d1 := within_one 1 5 p ((w.alloc (.cells #[.int .i64 p, .int .i64 L, .slice a S.length cap] 24)).alloc (.cells #[.int .i64 p] 3)) (w.heap.size + 1) (by have := cell_new1 (w.alloc (.cells #[.int .i64 p, .int .i64 L, .slice a S.length cap] 24)) (.int .i64 p) 3; simpa only [World.size_alloc] using this)
    rw [decide_eq_true c1] at d1
    have D1 := Lib.hid d1
    have HJ1 := Lib.hid (HJ0.out.on (Below.new _ (.cells #[.int .i64 p] 3)))
    clear d1
    by_cases c2 : 1 ≤ L ∧ L ≤ 20
    · have D2 : Hid (∀ w1 : World, Calls Try.prog 52 #[.int .i64 1, .int .i64 20, .slice (some ⟨w1.heap.size, 0, none⟩) 1 1] (w1.alloc (.cells #[.int .i64 L] 3)) fun e w' => e = .returned (.bool true) ∧ Below (w1.alloc (.cells #[.int .i64 L] 3)).heap.size (w1.alloc (.cells #[.int .i64 L] 3)) w') := Lib.hid (fun w1 => by
        have := within_one 1 20 L (w1.alloc (.cells #[.int .i64 L] 3)) w1.heap.size (cell_new1 _ _ _); rwa [decide_eq_true c2] at this)
      by_cases c3 : 16 < S.length
      · have HE := Lib.hid (checkJob_many c1 c2 c3)
        clear c1 c2
        go_enter Try.func19, Try.ntmps19
        go_wp2_with fail
        refine D1.out.mono ?_
        rintro e w1 ⟨rfl, hb1⟩
        have HJ2 := Lib.hid (HJ1.out.on hb1)
        have HB1 : Hid (Below w.heap.size w w1) := Lib.hid ((HB0.out.alloc (by simp) _).trans (hb1.mono (by simp; omega)))
        have x1 := HJ2.out.x2
        have hlt := HJ2.out.lt
        have hsz := HB1.out.size
        clear hb1
        go_wp2_with fail
        refine (D2.out w1).mono ?_
        rintro e w2 ⟨rfl, hb2⟩
        have HJ3 := Lib.hid ((HJ2.out.on (Below.new _ _)).on hb2)
        have HB2 : Hid (Below w.heap.size w w2) := Lib.hid ((HB1.out.alloc hsz _).trans (hb2.mono (by simp; omega)))
        have x3 := HJ3.out.x3
        clear hb2 x1
        go_wp2_with fail
        go_ret
        exact ⟨ret_int (by rw [HE.out]), HB2.out⟩
      · have HE := Lib.hid (checkJob_odd (S := S) c1 c2 (by omega))
        have c3' : S.length ≤ 16 := by omega
        obtain ⟨l1, l20⟩ := c2
        clear c1 c3
        have HCF := Lib.hid (fun W (hW : Job W w.heap.size p L a cap S) => containsFStar_any 51 #[.pointer (some ⟨w.heap.size, 0, none⟩)] (fun s => !P.okB L s) a cap S W hl hW.st eg (fun s W' hW' => odd_any L w.heap.size s W' l1 l20 (hW.on hW').x2))
        cases hodd : S.any (fun s => !P.okB L s)
        all_goals
          rw [hodd] at HCF HE
          clear hodd
          go_enter Try.func19, Try.ntmps19
          go_wp2_with fail
          refine D1.out.mono ?_
          rintro e w1 ⟨rfl, hb1⟩
          have HJ2 := Lib.hid (HJ1.out.on hb1)
          have HB1 : Hid (Below w.heap.size w w1) := Lib.hid ((HB0.out.alloc (by simp) _).trans (hb1.mono (by simp; omega)))
          have x1 := HJ2.out.x2
          have hlt := HJ2.out.lt
          have hsz := HB1.out.size
          clear hb1
          go_wp2_with fail
          refine (D2.out w1).mono ?_
          rintro e w2 ⟨rfl, hb2⟩
          have HJ3 := Lib.hid ((HJ2.out.on (Below.new _ _)).on hb2)
          have HB2 : Hid (Below w.heap.size w w2) := Lib.hid ((HB1.out.alloc hsz _).trans (hb2.mono (by simp; omega)))
          have x3 := HJ3.out.x3
          clear hb2 x1
          go_wp2_with fail
          refine (HCF.out w2 HJ3.out).mono ?_
          rintro e w3 ⟨rfl, hb3⟩
          go_wp2_with fail
          go_ret
          exact ⟨ret_int (by rw [HE.out]; rfl), HB2.out.trans (hb3.mono HB2.out.size)⟩
    · have HE := Lib.hid (checkJob_rng (p := p) (S := S) (.inr c2))
      have D2 : Hid (∀ w1 : World, Calls Try.prog 52 #[.int .i64 1, .int .i64 20, .slice (some ⟨w1.heap.size, 0, none⟩) 1 1] (w1.alloc (.cells #[.int .i64 L] 3)) fun e w' => e = .returned (.bool false) ∧ Below (w1.alloc (.cells #[.int .i64 L] 3)).heap.size (w1.alloc (.cells #[.int .i64 L] 3)) w') := Lib.hid (fun w1 => by
        have := within_one 1 20 L (w1.alloc (.cells #[.int .i64 L] 3)) w1.heap.size (cell_new1 _ _ _); rwa [decide_eq_false c2] at this)
      clear c1 c2
      go_enter Try.func19, Try.ntmps19
      go_wp2_with fail
      refine D1.out.mono ?_
      rintro e w1 ⟨rfl, hb1⟩
      have HJ2 := Lib.hid (HJ1.out.on hb1)
      have HB1 : Hid (Below w.heap.size w w1) := Lib.hid ((HB0.out.alloc (by simp) _).trans (hb1.mono (by simp; omega)))
      have x1 := HJ2.out.x2
      have hlt := HJ2.out.lt
      have hsz := HB1.out.size
      clear hb1
      go_wp2_with fail
      refine (D2.out w1).mono ?_
      rintro e w2 ⟨rfl, hb2⟩
      go_wp2_with fail
      go_ret
      exact ⟨ret_int (by rw [HE.out]), (HB1.out.alloc hsz _).trans (hb2.mono (by simp; omega))⟩
  · have HE := Lib.hid (checkJob_rng (L := L) (S := S) (.inl c1))
    have d1 := within_one 1 5 p ((w.alloc (.cells #[.int .i64 p, .int .i64 L, .slice a S.length cap] 24)).alloc (.cells #[.int .i64 p] 3)) (w.heap.size + 1) (by have := cell_new1 (w.alloc (.cells #[.int .i64 p, .int .i64 L, .slice a S.length cap] 24)) (.int .i64 p) 3; simpa only [World.size_alloc] using this)
    rw [decide_eq_false c1] at d1
    have D1 := Lib.hid d1
    clear d1 c1
    go_enter Try.func19, Try.ntmps19
    go_wp2_with fail
    refine D1.out.mono ?_
    rintro e w1 ⟨rfl, hb1⟩
    go_wp2_with fail
    go_ret
    exact ⟨ret_int (by rw [HE.out]), (HB0.out.alloc (by simp) _).trans (hb1.mono (by simp; omega))⟩
end Go.Proofs.Ytpkffjcmoghaaaa
/- Walks of the program's functions: the comparisons of the sorts. -/
namespace Go.Proofs.Ytpkffjcmoghaaaa
open Go.RowKit
def cmpI (x y : Int) : Int := if x < y then -1 else if y < x then 1 else 0
set_option maxHeartbeats 400000 in
theorem compare_any (x y : Int) (w : World) : Calls Try.prog 91 #[.int .i64 x, .int .i64 y] w fun e w' => e = .returned (.int .i64 (cmpI x y)) ∧ w = w' := by
  by_cases h1 : x < y
  · have HE : Hid (cmpI x y = -1) := Lib.hid (by unfold cmpI; rw [if_pos h1])
    go_enter Try.func91, Try.ntmps91
    go_wp2
    go_ret
    exact ⟨ret_int (by rw [HE.out]), rfl⟩
  · by_cases h2 : y < x
    · have HE : Hid (cmpI x y = 1) := Lib.hid (by unfold cmpI; rw [if_neg h1, if_pos h2])
      go_enter Try.func91, Try.ntmps91
      go_wp2
      go_ret
      exact ⟨ret_int (by rw [HE.out]), rfl⟩
    · have HE : Hid (cmpI x y = 0) := Lib.hid (by unfold cmpI; rw [if_neg h1, if_neg h2])
      go_enter Try.func91, Try.ntmps91
      go_wp2
      go_ret
      exact ⟨ret_int (by rw [HE.out]), rfl⟩
set_option maxHeartbeats 400000 in
theorem compare64_any (x y : Int) (w : World) : Calls Try.prog 85 #[.int .i64 x, .int .i64 y] w fun e w' => e = .returned (.int .i64 (cmpI x y)) ∧ w = w' := by
  by_cases h1 : x < y
  · have HE : Hid (cmpI x y = -1) := Lib.hid (by unfold cmpI; rw [if_pos h1])
    go_enter Try.func85, Try.ntmps85
    go_wp2
    go_ret
    exact ⟨ret_int (by rw [HE.out]), rfl⟩
  · by_cases h2 : y < x
    · have HE : Hid (cmpI x y = 1) := Lib.hid (by unfold cmpI; rw [if_neg h1, if_pos h2])
      go_enter Try.func85, Try.ntmps85
      go_wp2
      go_ret
      exact ⟨ret_int (by rw [HE.out]), rfl⟩
    · have HE : Hid (cmpI x y = 0) := Lib.hid (by unfold cmpI; rw [if_neg h1, if_neg h2])
      go_enter Try.func85, Try.ntmps85
      go_wp2
      go_ret
      exact ⟨ret_int (by rw [HE.out]), rfl⟩
/-- A captured bench. -/
structure Held (w : World) (c B : Nat) (p L : Int) (a : Option Addr) (cap : Nat) (S : List P.Star) : Prop where
  ptr : w.cell? ⟨c, 0, none⟩ = some (.pointer (some ⟨B, 0, none⟩))
  job : Job w B p L a cap S
theorem Held.on {w w' : World} {c B : Nat} {p L : Int} {a : Option Addr} {cap : Nat} {S : List P.Star} (h : Held w c B p L a cap S) (hb : Below w.heap.size w w') : Held w' c B p L a cap S := ⟨cell_on hb h.ptr, h.job.on hb⟩
theorem Held.kept {w w' : World} {c B : Nat} {p L : Int} {a : Option Addr} {cap : Nat} {S : List P.Star} {row : Option Nat} (h : Held w c B p L a cap S) (hg : w.grownBy w' row) (hc : row ≠ some c) (hB : row ≠ some B) (hr : 0 < S.length → ∀ b off, a = some ⟨b, off, none⟩ → row ≠ some b) : Held w' c B p L a cap S :=
  ⟨hg.cell h.ptr (fun e => hc e.symm), h.job.kept hg hB hr⟩
set_option maxHeartbeats 1000000 in
theorem cloT_any (c B : Nat) (p L : Int) (a : Option Addr) (cap : Nat) (S : List P.Star) (x y : Nat) (w : World) (hx : x < S.length) (hy : y < S.length) (h : Held w c B p L a cap S) :
    Calls Try.prog 90 #[.int .i64 (x : Int), .int .i64 (y : Int), .pointer (some ⟨c, 0, none⟩)] w fun e w' => e = .returned (.int .i64 (cmpI (P.star S x).2.1 (P.star S y).2.1)) ∧ ∃ q, w' = w.drewN q := by
  have c0 := h.ptr
  have x3 := h.job.x3
  obtain ⟨b, off, rfl, -, s1, -⟩ := h.job.st x hx
  obtain ⟨b', off', e, -, s2, -⟩ := h.job.st y hy
  cases e
  have q1 : (0 : Int) ≤ (x : Int) := by omega
  have q2 : (x : Int) < (S.length : Int) := by omega
  have q3 : (0 : Int) ≤ (y : Int) := by omega
  have q4 : (y : Int) < (S.length : Int) := by omega
  have HC := Lib.hid (fun n => compare_any (P.star S x).2.1 (P.star S y).2.1 (w.drewN n))
  clear h
  go_enter Try.func90, Try.ntmps90
  go_wp2_with fail
  go_quiet ((go_at_call 91; exact quiet_same (HC.out _)))
  go_wp2_with fail
  go_ret
  exact ⟨rfl, _, rfl⟩
set_option maxHeartbeats 1000000 in
theorem cloW_any (c B : Nat) (p L : Int) (a : Option Addr) (cap : Nat) (S : List P.Star) (x y : Nat) (w : World) (hx : x < S.length) (hy : y < S.length) (h : Held w c B p L a cap S) :
    Calls Try.prog 84 #[.int .i64 (x : Int), .int .i64 (y : Int), .pointer (some ⟨c, 0, none⟩)] w fun e w' => e = .returned (.int .i64 (cmpI (P.star S y).2.2 (P.star S x).2.2)) ∧ ∃ q, w' = w.drewN q := by
  have c0 := h.ptr
  have x3 := h.job.x3
  obtain ⟨b, off, rfl, -, -, s1⟩ := h.job.st x hx
  obtain ⟨b', off', e, -, -, s2⟩ := h.job.st y hy
  cases e
  have q1 : (0 : Int) ≤ (x : Int) := by omega
  have q2 : (x : Int) < (S.length : Int) := by omega
  have q3 : (0 : Int) ≤ (y : Int) := by omega
  have q4 : (y : Int) < (S.length : Int) := by omega
  have HC := Lib.hid (fun n => compare64_any (P.star S y).2.2 (P.star S x).2.2 (w.drewN n))
  clear h
  go_enter Try.func84, Try.ntmps84
  go_wp2_with fail
  go_quiet ((go_at_call 85; exact quiet_same (HC.out _)))
  go_wp2_with fail
  go_ret
  exact ⟨rfl, _, rfl⟩
end Go.Proofs.Ytpkffjcmoghaaaa
