/- One text of RefG, RefH, RefI, LawA. -/
import Derived.Test.YtcjbnifafofpbaaGreatDoorJ2
import Derived.Laws.OwnMore
import Derived.Laws.AppendOwnNone
/- Walks of the reference's TellOf, Tell. -/
namespace Go.Proofs.YtcjbnifafofpbaaGreatDoor
open Go.RowKit
theorem least_is {q : List X.W} {e : X.W} (h : e ∈ q) (k : ∀ x ∈ q, X.less x e = false) : X.least q = some e := by
  cases hq : X.least q with
  | none => rw [X.least_none] at hq; subst hq; cases h
  | some f =>
    obtain ⟨h1, h2⟩ := X.least_some hq
    have a := h2 e h
    have b := k f h1
    rcases X.less_total e f with c | rfl | c
    · rw [a] at c; cases c
    · rfl
    · rw [b] at c; cases c
theorem least_snoc (q : List X.W) (w : X.W) : X.least (q ++ [w]) = match X.least q with | none => some w | some b => if X.less w b = true then some w else some b := by
  have irr : ∀ x, X.less x x = false := fun x => by
    cases k : X.less x x with
    | false => rfl
    | true => have := X.less_asymm k; rw [k] at this; cases this
  cases hq : X.least q with
  | none =>
    rw [X.least_none] at hq
    subst hq
    exact least_is (by simp) (fun x hx => by rw [List.mem_singleton.1 hx]; exact irr w)
  | some b =>
    obtain ⟨h1, h2⟩ := X.least_some hq
    by_cases hw : X.less w b = true
    · simp only [hw, if_true]
      refine least_is (by simp) (fun x hx => ?_)
      rcases List.mem_append.1 hx with hx | hx
      · cases k : X.less x w with
        | false => rfl
        | true => have := h2 x hx; rw [X.less_trans k hw] at this; cases this
      · rw [List.mem_singleton.1 hx]; exact irr w
    · simp only [hw, Bool.false_eq_true, if_false]
      refine least_is (List.mem_append_left _ h1) (fun x hx => ?_)
      rcases List.mem_append.1 hx with hx | hx
      · exact h2 x hx
      · rw [List.mem_singleton.1 hx]; simpa using hw
theorem apart_filter (l : List X.W) (u v : X.W) : X.apart l u v = (X.ends l u ++ X.ends l v).filter (fun w => !(decide (w ∈ X.ends l u) == decide (w ∈ X.ends l v))) := by
  unfold X.apart
  rw [List.filter_append]
  congr 1
  · apply List.filter_congr
    intro w hw
    rw [Bool.eq_iff_iff]; simp [hw]
  · apply List.filter_congr
    intro w hw
    rw [Bool.eq_iff_iff]; simp [hw]
/-- 'append(s, x ..)': a slice that came in onto a row of the call's own. -/
theorem listAppS {ops : Array Oper} {rest : List Oper} {o : Oper} {a : Act} {W : World} {Q : Exit → Act → World → Prop} (hgd : o.guard = none) (s x : Operand)
    (ho : o.op = .call { callee := .builtin .append, args := #[s, x], argTypes := #[22, 22] }) (base : Nat) (v : Value) (A B : List X.W) (ad : Option Addr) (c : Nat) (hs : a.eval s = v)
    (hown : W.ownsRow base 9 1 v A.length (A.map sv)) (hx : a.eval x = .slice ad B.length c) (hB : Strs W ad B) (h0 : ad = none → c = 0) (hn : A.length + B.length ≤ 2000000) (hbase : base ≤ W.heap.size)
    (h : ∀ v' w', w'.ownsRow base 9 1 v' (A ++ B).length ((A ++ B).map sv) → W.grownBy w' v.ownBlock → wpList Tryz.prog ops Q rest (a.put o.dst v') w') :
    wpList Tryz.prog ops Q (o :: rest) a W := by
  cases ad with
  | none =>
    have hB0 : B = [] := by
      cases B with
      | nil => rfl
      | cons x r => obtain ⟨b, off, e, -⟩ := hB 0 (by simp); cases e
    subst hB0
    rw [h0 rfl] at hx
    obtain ⟨i0, hi, _, _, _⟩ := info_parts T22.hi
    refine wpList_append_own_none hgd s x 22 ho base 9 i0 1 T22.ht hi v A.length (A.map sv) hs hown hx (h v W (by rw [List.append_nil]; exact hown) (grownBy_of_below (Below.refl _ _) _))
  | some p =>
    refine listApp T22 hgd s x ho base v A.length (A.map sv) (B.map sv) B.length c p hs hown hx (by simp) (fun j u hj => ?_) (by intro u hu; obtain ⟨w, -, rfl⟩ := List.mem_map.1 hu; rfl) hn hbase (fun v' w' h1 h2 _ => h v' w' (by rw [List.length_append, List.map_append]; exact h1) h2)
    have hjl : j < B.length := by have := (List.getElem?_eq_some_iff.1 hj).1; simpa using this
    obtain ⟨b, off, e, hc⟩ := hB j hjl
    cases e
    rw [addr_add, hc]
    simp [hjl] at hj
    rw [← hj, wat_eq B j hjl]
theorem owns_empty (w : World) {base : Nat} (e : TypeId) (size : Nat) (hb : base ≤ w.heap.size) : (w.alloc (.cells #[] e)).ownsRow base e size (.slice (some ⟨w.heap.size, 0, none⟩) 0 0) 0 [] := World.ownsRow_made w #[] 0 hb (by decide) (by simp)
theorem less_no {x b : X.W} (h1 : ¬ x.length < b.length) (h3 : X.lt x b = false) : ¬ X.less x b = true := by
  intro h
  rcases X.less_iff.1 h with h | ⟨-, h⟩
  · exact h1 h
  · rw [h3] at h; cases h
/-- What is found so far. -/
def bestOf (q : List X.W) : X.W := (X.least q).getD []
theorem best_skip {p : X.W → Bool} {all : List X.W} {j : Nat} (h : j < all.length) (hp : p (wat all j) = false) : X.least ((all.take (j + 1)).filter p) = X.least ((all.take j).filter p) := by
  rw [filter_take h, hp]; simp
theorem best_take {p : X.W → Bool} {all : List X.W} {j : Nat} (h : j < all.length) (hp : p (wat all j) = true) : X.least ((all.take (j + 1)).filter p) = match X.least ((all.take j).filter p) with | none => some (wat all j) | some b => if X.less (wat all j) b = true then some (wat all j) else some b := by
  rw [filter_take h, hp, if_pos rfl, least_snoc]
attribute [local go_sem] bytesLess_lt
set_option maxRecDepth 20000 in
set_option maxHeartbeats 1000000 in
theorem tellOf_any (a : Option Addr) (cap : Nat) (l : List X.W) (u v : X.W) (w : World) (hl : l.length ≤ 1000000) (hr : Rooms l) (hu : u.length ≤ 140737488355328) (hv : v.length ≤ 140737488355328) (ha : Strs w a l) :
    Calls Tryz.prog 77 #[.slice a l.length cap, sv u, sv v] w fun e w' => e = .returned (.tuple #[sv (bestOf (X.apart l u v)), .bool (X.least (X.apart l u v)).isSome]) ∧ Below w.heap.size w w' := by
  have HE : Hid (∀ W u, u.length ≤ 140737488355328 → Strs W a l → Calls Tryz.prog 58 #[.slice a l.length cap, sv u] W fun e w' => OutS W w' e (X.ends l u)) := Lib.hid (fun W u h1 h2 => endings_any a cap l u W hl hr h1 h2)
  have HA := Lib.hid ha
  have HAp := Lib.hid (apart_filter l u v)
  have hE1 := ends_len_le l u
  have hE2 := ends_len_le l v
  have HR : Hid (Rooms (X.ends l u ++ X.ends l v)) := Lib.hid (fun e he => by
    rcases List.mem_append.1 he with h | h
    · have := hr _ (X.mem_ends.1 h); simp at this; omega
    · have := hr _ (X.mem_ends.1 h); simp at this; omega)
  clear ha hr
  go_enter Tryz.func77, Tryz.ntmps77
  go_wp2_with fail
  refine (HE.out _ u hu HA.out).mono ?_
  rintro e w3 ⟨a6, c6, rfl, hs6, ⟨-, hn6⟩, hb6⟩
  have HA3 := Lib.hid (HA.out.below hb6)
  have HB3 := Lib.hid hb6
  have HS6 := Lib.hid hs6
  clear hb6 hs6
  go_wp2_with fail
  refine (HE.out _ v hv HA3.out).mono ?_
  rintro e w4 ⟨a7, c7, rfl, hs7, ⟨-, hn7⟩, hb7⟩
  have HB4 := Lib.hid (HB3.out.trans (hb7.mono HB3.out.size))
  have HS64 := Lib.hid (HS6.out.below hb7)
  have HS7 := Lib.hid hs7
  have HN6 := Lib.hid hn6
  have HN7 := Lib.hid hn7
  clear hb7 hs7 HA3 HB3 HS6 HA HE hn6 hn7
  generalize X.ends l u = E1 at *
  generalize X.ends l v = E2 at *
  have HO4 := Lib.hid (owns_empty w4 (base := w4.heap.size) 9 1 (Nat.le_refl _))
  have HS6' := Lib.hid (HS64.out.alloc (.cells #[] 9))
  have hz : w4.heap.size ≤ (w4.alloc (.cells #[] 9)).heap.size := by simp
  have hB5 := Below.new w4 (.cells #[] 9)
  go_wp2_with (first
    | (at_builtin; refine listAppS rfl (.tmp 21) (.tmp 22) rfl w4.heap.size (.slice (some ⟨w4.heap.size, 0, none⟩) 0 0) [] E1 a6 c6 rfl HO4.out rfl HS6'.out HN6.out (by simp; omega) hz ?_; intro v8 w8 h8 g8; have HO8 := Lib.hid (show w8.ownsRow w4.heap.size 9 1 v8 E1.length (E1.map sv) from h8); have HB8 := Lib.hid (hB5.grown g8 hz (fun g e => (HO4.out.lt g e).1)); have HS78 := Lib.hid (HS7.out.below HB8.out); have hz8 := HB8.out.size; clear h8 g8)
    | (at_builtin; refine listAppS rfl (.tmp 23) (.tmp 24) rfl w4.heap.size v8 E1 E2 a7 c7 rfl HO8.out rfl HS78.out HN7.out (by omega) hz8 ?_; intro v9 w9 h9 g9; have HO9 := Lib.hid h9; have HB9 := Lib.hid (HB8.out.grown g9 hz8 (fun g e => (HO8.out.lt g e).1)); clear h9 g9))
  obtain ⟨-, a9, c9, rfl, hs9, -⟩ := Strs.of_ownsRow HO9.out
  have HS9 := Lib.hid hs9
  have HS69 := Lib.hid (HS64.out.below HB9.out)
  have HS79 := Lib.hid (HS7.out.below HB9.out)
  have HBw := Lib.hid (HB4.out.trans (HB9.out.mono HB4.out.size))
  have hal : (E1 ++ E2).length ≤ 2000000 := by rw [List.length_append]; omega
  have hE1l : E1.length ≤ 1000000 := by omega
  have hE2l : E2.length ≤ 1000000 := by omega
  clear hs9 HO9 HB9 HS78 HB8 HO8 HO4 HS6' HS7 HS64 hB5 hz hz8 HN6 HN7 HB4
  obtain ⟨p, hp⟩ : ∃ p : X.W → Bool, p = fun w => !(decide (w ∈ E1) == decide (w ∈ E2)) := ⟨_, rfl⟩
  rw [← hp] at HAp
  have HP := Lib.hid hp
  clear hp
  generalize E1 ++ E2 = all at *
  go_wp2_with fail
  go_loop [11, 12, 13, 14] (fun b f i _ => ∃ j : Nat, j ≤ all.length ∧ i = .int .i64 j ∧ b = sv (bestOf ((all.take j).filter p)) ∧ f = .bool (X.least ((all.take j).filter p)).isSome) (fun _ _ i _ => all.length - (intOf i).toNat)
  case atStart => exact ⟨0, by omega, rfl, rfl, rfl⟩
  case round =>
    obtain ⟨j, hj, rfl, rfl, rfl⟩ := hrel
    by_cases hlt : j < all.length
    · have hltI : (j : Int) < (all.length : Int) := by omega
      obtain ⟨b1, off, rfl, c1⟩ := HS9.out j hlt
      have HX : Hid (p (wat all j) = !(decide (wat all j ∈ E1) == decide (wat all j ∈ E2))) := Lib.hid (by rw [HP.out])
      have HSk := Lib.hid (fun h => best_skip (p := p) hlt h)
      have HTk := Lib.hid (fun h => best_take (p := p) hlt h)
      have hxr := HR.out _ (wat_mem hlt)
      generalize wat all j = x at *
      have HH1 := Lib.hid (fun W h => has_any a6 c6 E1 x W hE1l h)
      have HH2 := Lib.hid (fun W h => has_any a7 c7 E2 x W hE2l h)
      generalize decide (x ∈ E1) = d1 at *
      generalize decide (x ∈ E2) = d2 at *
      by_cases hd : d1 = d2
      · subst hd
        have HSk2 := Lib.hid (HSk.out (by rw [HX.out]; simp))
        have hbo : Hid (bestOf ((all.take (j + 1)).filter p) = bestOf ((all.take j).filter p)) := Lib.hid (by unfold bestOf; rw [HSk2.out])
        clear HSk HTk HX
        generalize X.least ((all.take j).filter p) = q at *
        generalize bestOf ((all.take j).filter p) = bo at *
        go_wp2_with fail
        refine (HH1.out _ HS69.out).mono ?_
        rintro e w10 ⟨rfl, rfl⟩
        go_wp2_with fail
        refine (HH2.out _ HS79.out).mono ?_
        rintro e w11 ⟨rfl, rfl⟩
        go_wp2_with fail
        go_round
        case rel => exact ⟨j + 1, by omega, by go_num, by rw [hbo.out], by rw [HSk2.out]⟩
        case measure => simp [intOf]; omega
      · have HTk2 := Lib.hid (HTk.out (by rw [HX.out]; simpa using hd))
        have hdb : (d1 == d2) = false := beq_eq_false_iff_ne.2 hd
        have HBo : Hid (∀ e, X.least ((all.take (j + 1)).filter p) = some e → bestOf ((all.take (j + 1)).filter p) = e) := Lib.hid (fun e h => by unfold bestOf; rw [h]; rfl)
        clear HSk HTk HX hd
        cases hq : X.least ((all.take j).filter p) with
        | none =>
          have hbo : bestOf ((all.take j).filter p) = [] := by unfold bestOf; rw [hq]; rfl
          have HN : Hid (X.least ((all.take (j + 1)).filter p) = some x) := Lib.hid (by rw [HTk2.out, hq])
          have HN2 := Lib.hid (HBo.out x HN.out)
          rw [hbo]
          clear hbo hq HTk2 HBo
          go_wp2_with fail
          refine (HH1.out _ HS69.out).mono ?_
          rintro e w10 ⟨rfl, rfl⟩
          go_wp2_with fail
          refine (HH2.out _ HS79.out).mono ?_
          rintro e w11 ⟨rfl, rfl⟩
          go_wp2_with fail
          go_round
          case rel => exact ⟨j + 1, by omega, by go_num, by rw [HN2.out], by rw [HN.out]; rfl⟩
          case measure => simp [intOf]; omega
        | some b =>
          have hbo : bestOf ((all.take j).filter p) = b := by unfold bestOf; rw [hq]; rfl
          have HN : Hid (X.least ((all.take (j + 1)).filter p) = if X.less x b = true then some x else some b) := Lib.hid (by rw [HTk2.out, hq])
          have hbr : b.length ≤ 140737488355328 := by
            have := (X.least_some hq).1
            exact HR.out b (List.mem_of_mem_take (List.mem_filter.1 this).1)
          have ht1 := bs_tl x
          have ht2 := bs_tl b
          rw [hbo]
          clear hbo hq HTk2
          by_cases h1 : x.length < b.length
          · have HN1 : Hid (X.least ((all.take (j + 1)).filter p) = some x) := Lib.hid (by rw [HN.out, if_pos (X.less_iff.2 (.inl h1))])
            have HN2 := Lib.hid (HBo.out x HN1.out)
            have h1I : (x.length : Int) < (b.length : Int) := by omega
            clear HN HBo
            go_wp2_with fail
            refine (HH1.out _ HS69.out).mono ?_
            rintro e w10 ⟨rfl, rfl⟩
            go_wp2_with fail
            refine (HH2.out _ HS79.out).mono ?_
            rintro e w11 ⟨rfl, rfl⟩
            go_wp2_with fail
            go_round
            case rel => exact ⟨j + 1, by omega, by go_num, by rw [HN2.out], by rw [HN1.out]; rfl⟩
            case measure => simp [intOf]; omega
          · have h1I : ¬ (x.length : Int) < (b.length : Int) := by omega
            by_cases h2 : x.length = b.length
            · have h2I : ((x.length : Int) == (b.length : Int)) = true := by rw [h2]; simp
              cases h3 : X.lt x b with
              | true =>
                have HN1 : Hid (X.least ((all.take (j + 1)).filter p) = some x) := Lib.hid (by rw [HN.out, if_pos (X.less_iff.2 (.inr ⟨h2, h3⟩))])
                have HN2 := Lib.hid (HBo.out x HN1.out)
                clear HN HBo h2
                go_wp2_with fail
                refine (HH1.out _ HS69.out).mono ?_
                rintro e w10 ⟨rfl, rfl⟩
                go_wp2_with fail
                refine (HH2.out _ HS79.out).mono ?_
                rintro e w11 ⟨rfl, rfl⟩
                go_wp2_with fail
                go_round
                case rel => exact ⟨j + 1, by omega, by go_num, by rw [HN2.out], by rw [HN1.out]; rfl⟩
                case measure => simp [intOf]; omega
              | false =>
                have HN1 : Hid (X.least ((all.take (j + 1)).filter p) = some b) := Lib.hid (by rw [HN.out, if_neg (less_no h1 h3)])
                have HN2 := Lib.hid (HBo.out b HN1.out)
                clear HN HBo h2
                go_wp2_with fail
                refine (HH1.out _ HS69.out).mono ?_
                rintro e w10 ⟨rfl, rfl⟩
                go_wp2_with fail
                refine (HH2.out _ HS79.out).mono ?_
                rintro e w11 ⟨rfl, rfl⟩
                go_wp2_with fail
                go_round
                case rel => exact ⟨j + 1, by omega, by go_num, by rw [HN2.out], by rw [HN1.out]; rfl⟩
                case measure => simp [intOf]; omega
            · have h2I : ((x.length : Int) == (b.length : Int)) = false := by rw [beq_eq_false_iff_ne]; omega
              have HN1 : Hid (X.least ((all.take (j + 1)).filter p) = some b) := Lib.hid (by rw [HN.out, if_neg (fun h => by have := X.less_iff.1 h; omega)])
              have HN2 := Lib.hid (HBo.out b HN1.out)
              clear HN HBo
              go_wp2_with fail
              refine (HH1.out _ HS69.out).mono ?_
              rintro e w10 ⟨rfl, rfl⟩
              go_wp2_with fail
              refine (HH2.out _ HS79.out).mono ?_
              rintro e w11 ⟨rfl, rfl⟩
              go_wp2_with fail
              go_round
              case rel => exact ⟨j + 1, by omega, by go_num, by rw [HN2.out], by rw [HN1.out]; rfl⟩
              case measure => simp [intOf]; omega
    · have e : (all.take j).filter p = X.apart l u v := by rw [List.take_of_length_le (by omega), HAp.out]
      rw [e]
      clear e HAp HP
      go_wp2_with fail
      go_ret2
      exact ⟨rfl, HBw.out⟩
/-- A word and an error that a call gives. -/
def OutWE (w w' : World) (e : Ending) (r : X.W × Int) : Prop := e = .returned (.tuple #[sv r.1, .int .i64 r.2]) ∧ Below w.heap.size w w'
theorem tell_any (a : Option Addr) (cap : Nat) (l : List X.W) (u v : X.W) (w : World) (hl : l.length ≤ 1000000) (hr : Rooms l) (hu : u.length ≤ 140737488355328) (hv : v.length ≤ 140737488355328) (ha : Strs w a l) :
    Calls Tryz.prog 34 #[.slice a l.length cap, sv u, sv v] w fun e w' => OutWE w w' e (X.tellE l u v) := by
  have HC := Lib.hid (fun W hd => checkList_any a cap l W hl hr (ha.drew hd))
  have HWu := Lib.hid (fun W => word_any u W hu)
  have HWv := Lib.hid (fun W => word_any v W hv)
  have HT := Lib.hid (fun W h => tellOf_any a cap l u v W hl hr hu hv h)
  have HA := Lib.hid ha
  have HE : Hid (X.tellE l u v = if X.listE l ≠ 0 then ([], X.listE l) else if X.wordE u ≠ 0 then ([], X.wordE u) else if X.wordE v ≠ 0 then ([], X.wordE v) else match X.least (X.apart l u v) with | none => ([], 5) | some e => (e, 0)) := Lib.hid rfl
  clear ha
  generalize X.tellE l u v = R at *
  generalize X.listE l = t at *
  generalize X.wordE u = p at *
  generalize X.wordE v = q at *
  by_cases h : t = 0
  · subst h
    by_cases hp : p = 0
    · subst hp
      by_cases hq : q = 0
      · subst hq
        have HE2 : Hid (R = match X.least (X.apart l u v) with | none => ([], 5) | some e => (e, 0)) := Lib.hid (by rw [HE.out]; rfl)
        go_enter Tryz.func34, Tryz.ntmps34
        go_wp2_with fail
        refine (HC.out _ (Drew.refl _)).mono ?_
        rintro e w1 ⟨rfl, hd1⟩
        have HD := Lib.hid hd1
        clear hd1
        go_wp2_with fail
        refine (HWu.out _).mono ?_
        rintro e w2 ⟨rfl, rfl⟩
        go_wp2_with fail
        refine (HWv.out _).mono ?_
        rintro e w3 ⟨rfl, rfl⟩
        go_wp2_with fail
        refine (HT.out _ (HA.out.drew HD.out)).mono ?_
        rintro e w4 ⟨rfl, hb⟩
        have HB := Lib.hid ((HD.out.below _).trans (hb.mono (HD.out.below w.heap.size).size))
        clear hb
        cases hm : X.least (X.apart l u v) with
        | none =>
          have HE3 : Hid (R = ([], 5)) := Lib.hid (by rw [HE2.out, hm])
          have hb0 : bestOf (X.apart l u v) = [] := by unfold bestOf; rw [hm]; rfl
          rw [hb0]
          clear hm hb0
          go_wp2_with fail
          go_ret2
          rw [HE3.out]
          exact ⟨rfl, HB.out⟩
        | some x =>
          have HE3 : Hid (R = (x, 0)) := Lib.hid (by rw [HE2.out, hm])
          have hb0 : bestOf (X.apart l u v) = x := by unfold bestOf; rw [hm]; rfl
          rw [hb0]
          clear hm hb0
          go_wp2_with fail
          go_ret2
          rw [HE3.out]
          exact ⟨rfl, HB.out⟩
      · have HE2 : Hid (R = ([], q)) := Lib.hid (by rw [HE.out, if_neg (by simp), if_neg (by simp), if_pos hq])
        have hb : (q != 0) = true := by simpa using hq
        go_enter Tryz.func34, Tryz.ntmps34
        go_wp2_with fail
        refine (HC.out _ (Drew.refl _)).mono ?_
        rintro e w1 ⟨rfl, hd1⟩
        have HD := Lib.hid hd1
        clear hd1
        go_wp2_with fail
        refine (HWu.out _).mono ?_
        rintro e w2 ⟨rfl, rfl⟩
        go_wp2_with fail
        refine (HWv.out _).mono ?_
        rintro e w3 ⟨rfl, rfl⟩
        go_wp2_with fail
        refine (HWv.out _).mono ?_
        rintro e w4 ⟨rfl, rfl⟩
        go_wp2_with fail
        go_ret2
        rw [HE2.out]
        exact ⟨rfl, HD.out.below _⟩
    · have HE2 : Hid (R = ([], p)) := Lib.hid (by rw [HE.out, if_neg (by simp), if_pos hp])
      have hb : (p != 0) = true := by simpa using hp
      go_enter Tryz.func34, Tryz.ntmps34
      go_wp2_with fail
      refine (HC.out _ (Drew.refl _)).mono ?_
      rintro e w1 ⟨rfl, hd1⟩
      have HD := Lib.hid hd1
      clear hd1
      go_wp2_with fail
      refine (HWu.out _).mono ?_
      rintro e w2 ⟨rfl, rfl⟩
      go_wp2_with fail
      refine (HWu.out _).mono ?_
      rintro e w3 ⟨rfl, rfl⟩
      go_wp2_with fail
      go_ret2
      rw [HE2.out]
      exact ⟨rfl, HD.out.below _⟩
  · have HE2 : Hid (R = ([], t)) := Lib.hid (by rw [HE.out, if_pos h])
    have hb : (t != 0) = true := by simpa using h
    go_enter Tryz.func34, Tryz.ntmps34
    go_wp2_with fail
    refine (HC.out _ (Drew.refl _)).mono ?_
    rintro e w1 ⟨rfl, hd1⟩
    have HD1 := Lib.hid hd1
    clear hd1
    go_wp2_with fail
    refine (HC.out _ HD1.out).mono ?_
    rintro e w2 ⟨rfl, hd2⟩
    have HD := Lib.hid (HD1.out.trans hd2)
    clear hd2
    go_wp2_with fail
    go_ret2
    rw [HE2.out]
    exact ⟨rfl, HD.out.below _⟩
end Go.Proofs.YtcjbnifafofpbaaGreatDoor
/- Walks of the reference's Number and Name, behind Names' contract. -/
namespace Go.Proofs.YtcjbnifafofpbaaGreatDoor
open Go.RowKit
theorem idx_at : ∀ {l : List X.W} {j : Nat} {x : X.W}, j < l.length → x ∉ l.take j → wat l j = x → l.idxOf x = j
  | [], j, x, h, _, _ => by simp at h
  | y :: r, 0, x, _, _, e => by
    have : y = x := e
    subst this; simp
  | y :: r, j + 1, x, h, hn, e => by
    rw [List.take_succ_cons, List.mem_cons, not_or] at hn
    have ih := idx_at (l := r) (by simpa using h) hn.2 e
    rw [List.idxOf_cons, ih]
    have : (y == x) = false := beq_eq_false_iff_ne.2 (fun e => hn.1 e.symm)
    rw [this]; rfl
set_option maxRecDepth 20000 in
theorem number_of (a : Option Addr) (cap : Nat) (s : List X.St) (x : X.W) (w : World) (hx : x.length ≤ 140737488355328) (hn : (X.namesE s).1.length ≤ 1000000)
    (hN : Calls Tryz.prog 25 #[.slice a s.length cap] w fun e w' => OutSE w w' e (X.namesE s)) :
    Calls Tryz.prog 27 #[.slice a s.length cap, sv x] w fun e w' => e = .returned (.tuple #[.int .i64 (X.numberE s x).1, .int .i64 (X.numberE s x).2]) ∧ Below w.heap.size w w' := by
  have HN := Lib.hid hN
  have HW := Lib.hid (fun W => word_any x W hx)
  have HE : Hid (X.numberE s x = if (X.namesE s).2 ≠ 0 then (0, (X.namesE s).2) else if X.wordE x ≠ 0 then (0, X.wordE x) else if x ∈ (X.namesE s).1 then ((((X.namesE s).1.idxOf x : Nat) : Int), (0 : Int)) else (0, 5)) := Lib.hid rfl
  clear hN
  generalize X.numberE s x = R at *
  generalize X.namesE s = N at *
  obtain ⟨l, c⟩ := N
  dsimp only at hn HE
  have HN' : Hid (Calls Tryz.prog 25 #[.slice a s.length cap] w fun e w' => ∃ a' cap', e = .returned (.tuple #[.slice a' l.length cap', .int .i64 c]) ∧ Strs w' a' l ∧ Below w.heap.size w w') := Lib.hid (HN.out.mono fun e w' ⟨a', cap', h1, h2, _, h3⟩ => ⟨a', cap', h1, h2, h3⟩)
  clear HN
  by_cases hc : c = 0
  · subst hc
    generalize X.wordE x = q at *
    by_cases hq : q = 0
    · subst hq
      have HE2 : Hid (R = if x ∈ l then (((l.idxOf x : Nat) : Int), (0 : Int)) else (0, 5)) := Lib.hid (by rw [HE.out]; rfl)
      go_enter Tryz.func27, Tryz.ntmps27
      go_wp2_with fail
      refine HN'.out.mono ?_
      rintro e w1 ⟨a1, c1, rfl, hs1, hb1⟩
      have HS1 := Lib.hid hs1
      have HB1 := Lib.hid hb1
      clear hs1 hb1
      go_wp2_with fail
      refine (HW.out _).mono ?_
      rintro e w2 ⟨rfl, rfl⟩
      go_wp2_with fail
      go_loop [8] (fun i => ∃ j : Nat, j ≤ l.length ∧ i = .int .i64 j ∧ Hid (x ∉ l.take j)) (fun i => l.length - (intOf i).toNat)
      case atStart => exact ⟨0, by omega, rfl, Lib.hid (by simp)⟩
      case round =>
        obtain ⟨j, hj, rfl, HL⟩ := hrel
        by_cases hlt : j < l.length
        · have hltI : (j : Int) < (l.length : Int) := by omega
          obtain ⟨b, off, rfl, c2⟩ := HS1.out j hlt
          have HM := Lib.hid (wat_mem hlt)
          have HS := Lib.hid (take_succ_wat l j hlt)
          have HI := Lib.hid (fun e => idx_at hlt HL.out (x := x) e)
          generalize wat l j = y at *
          by_cases hy : y = x
          · subst hy
            have HF : Hid (R = ((j : Int), 0)) := Lib.hid (by rw [HE2.out, if_pos HM.out, HI.out rfl])
            go_wp2_with fail
            go_ret2
            rw [HF.out]
            exact ⟨rfl, HB1.out⟩
          · have hb : ((⟨y.toArray⟩ : ByteArray).toList == (⟨x.toArray⟩ : ByteArray).toList) = false := by rw [bs_tl, bs_tl]; exact beq_eq_false_iff_ne.2 hy
            have hy2 : (y == x) = false := beq_eq_false_iff_ne.2 hy
            have HX := Lib.hid hy
            clear hy HI
            go_wp2_with fail
            go_round
            case rel => exact ⟨j + 1, by omega, by go_num, Lib.hid (by rw [HS.out]; simp [HL.out]; exact fun e => HX.out e.symm)⟩
            case measure => simp [intOf]; omega
        · have e : l.take j = l := List.take_of_length_le (by omega)
          rw [e] at HL
          have HF : Hid (R = (0, 5)) := Lib.hid (by rw [HE2.out, if_neg HL.out])
          go_wp2_with fail
          go_ret2
          rw [HF.out]
          exact ⟨rfl, HB1.out⟩
    · have HF : Hid (R = (0, q)) := Lib.hid (by rw [HE.out, if_neg (by simp), if_pos hq])
      have hb : (q != 0) = true := by simpa using hq
      go_enter Tryz.func27, Tryz.ntmps27
      go_wp2_with fail
      refine HN'.out.mono ?_
      rintro e w1 ⟨a1, c1, rfl, -, hb1⟩
      have HB1 := Lib.hid hb1
      clear hb1
      go_wp2_with fail
      refine (HW.out _).mono ?_
      rintro e w2 ⟨rfl, rfl⟩
      go_wp2_with fail
      refine (HW.out _).mono ?_
      rintro e w3 ⟨rfl, rfl⟩
      go_wp2_with fail
      go_ret2
      rw [HF.out]
      exact ⟨rfl, HB1.out⟩
  · have HF : Hid (R = (0, c)) := Lib.hid (by rw [HE.out, if_pos hc])
    have hb : (c != 0) = true := by simpa using hc
    go_enter Tryz.func27, Tryz.ntmps27
    go_wp2_with fail
    refine HN'.out.mono ?_
    rintro e w1 ⟨a1, c1, rfl, -, hb1⟩
    have HB1 := Lib.hid hb1
    clear hb1
    go_wp2_with fail
    go_ret2
    rw [HF.out]
    exact ⟨rfl, HB1.out⟩
theorem name_of (a : Option Addr) (cap : Nat) (s : List X.St) (n : Int) (w : World) (hn : (X.namesE s).1.length ≤ 1000000)
    (hN : Calls Tryz.prog 25 #[.slice a s.length cap] w fun e w' => OutSE w w' e (X.namesE s)) :
    Calls Tryz.prog 29 #[.slice a s.length cap, .int .i64 n] w fun e w' => OutWE w w' e (X.nameE s n) := by
  have HN := Lib.hid hN
  have HE : Hid (X.nameE s n = if (X.namesE s).2 ≠ 0 then ([], (X.namesE s).2) else if n < 0 ∨ ((X.namesE s).1.length : Int) ≤ n then ([], 3) else ((X.namesE s).1.getD n.toNat [], 0)) := Lib.hid rfl
  clear hN
  generalize X.nameE s n = R at *
  generalize X.namesE s = N at *
  obtain ⟨l, c⟩ := N
  dsimp only at hn HE
  have HN' : Hid (Calls Tryz.prog 25 #[.slice a s.length cap] w fun e w' => ∃ a' cap', e = .returned (.tuple #[.slice a' l.length cap', .int .i64 c]) ∧ Strs w' a' l ∧ Below w.heap.size w w') := Lib.hid (HN.out.mono fun e w' ⟨a', cap', h1, h2, _, h3⟩ => ⟨a', cap', h1, h2, h3⟩)
  clear HN
  by_cases hc : c = 0
  · subst hc
    by_cases h1 : n < 0
    · have HF : Hid (R = ([], 3)) := Lib.hid (by rw [HE.out, if_neg (by simp), if_pos (.inl h1)])
      go_enter Tryz.func29, Tryz.ntmps29
      go_wp2_with fail
      refine HN'.out.mono ?_
      rintro e w1 ⟨a1, c1, rfl, -, hb1⟩
      have HB1 := Lib.hid hb1
      clear hb1
      go_wp2_with fail
      go_ret2
      rw [HF.out]
      exact ⟨rfl, HB1.out⟩
    · by_cases h2 : (l.length : Int) ≤ n
      · have HF : Hid (R = ([], 3)) := Lib.hid (by rw [HE.out, if_neg (by simp), if_pos (.inr h2)])
        go_enter Tryz.func29, Tryz.ntmps29
        go_wp2_with fail
        refine HN'.out.mono ?_
        rintro e w1 ⟨a1, c1, rfl, -, hb1⟩
        have HB1 := Lib.hid hb1
        clear hb1
        go_wp2_with fail
        go_ret2
        rw [HF.out]
        exact ⟨rfl, HB1.out⟩
      · obtain ⟨m, rfl⟩ := Int.eq_ofNat_of_zero_le (show 0 ≤ n by omega)
        have HF : Hid (R = (wat l m, 0)) := Lib.hid (by rw [HE.out, if_neg (by simp), if_neg (by omega)]; rfl)
        have hm : m < l.length := by omega
        go_enter Tryz.func29, Tryz.ntmps29
        go_wp2_with fail
        refine HN'.out.mono ?_
        rintro e w1 ⟨a1, c1, rfl, hs1, hb1⟩
        have HB1 := Lib.hid hb1
        obtain ⟨b, off, rfl, c2⟩ := hs1 m hm
        clear hb1 hs1
        go_wp2_with fail
        go_ret2
        rw [HF.out]
        exact ⟨rfl, HB1.out⟩
  · have HF : Hid (R = ([], c)) := Lib.hid (by rw [HE.out, if_pos hc])
    have hb : (c != 0) = true := by simpa using hc
    go_enter Tryz.func29, Tryz.ntmps29
    go_wp2_with fail
    refine HN'.out.mono ?_
    rintro e w1 ⟨a1, c1, rfl, -, hb1⟩
    have HB1 := Lib.hid hb1
    clear hb1
    go_wp2_with fail
    go_ret2
    rw [HF.out]
    exact ⟨rfl, HB1.out⟩
end Go.Proofs.YtcjbnifafofpbaaGreatDoor
/- Walk of the reference's CheckStates. -/
namespace Go.Proofs.YtcjbnifafofpbaaGreatDoor
open Go.RowKit
theorem at_eq (s : List X.St) (i : Nat) (h : i < s.length) : X.at_ s i = s[i] := by simp [X.at_, h]
theorem take_succ_at (s : List X.St) (i : Nat) (h : i < s.length) : s.take (i + 1) = s.take i ++ [X.at_ s i] := by rw [List.take_succ_eq_append_getElem h, at_eq s i h]
theorem anyS_snoc {p : X.St → Bool} {s : List X.St} {j : Nat} (h : j < s.length) : (s.take (j + 1)).any p = ((s.take j).any p || p (X.at_ s j)) := by rw [take_succ_at s j h, List.any_append]; simp
theorem anyS_hit {p : X.St → Bool} {s : List X.St} {j : Nat} (h : j < s.length) (k : p (X.at_ s j) = true) : s.any p = true := List.any_eq_true.2 ⟨_, X.at_mem h, k⟩
theorem up_wc : ∀ {l : X.W}, X.upB l = true ↔ ∀ k, k + 1 < l.length → (wc l k).toNat < (wc l (k + 1)).toNat
  | [] => by simp [X.upB]
  | [x] => by simp [X.upB]
  | x :: y :: r => by
    have ih := up_wc (l := y :: r)
    unfold X.upB
    rw [Bool.and_eq_true, ih, decide_eq_true_iff, UInt8.lt_iff_toNat_lt]
    constructor
    · rintro ⟨h, k⟩ i hi
      cases i with
      | zero => exact h
      | succ i => exact k i (by simpa using hi)
    · intro h
      exact ⟨h 0 (by simp), fun k hk => h (k + 1) (by simpa using hk)⟩
theorem inB_iff {n i : Nat} {l : List Int} : X.inB n i l = true ↔ ∀ k, k < l.length → (i : Int) < nth l k ∧ nth l k < (n : Int) := by
  unfold X.inB
  rw [List.all_eq_true]
  simp only [Bool.and_eq_true, decide_eq_true_eq]
  constructor
  · intro h k hk; rw [nth_eq l k hk]; exact h _ (List.getElem_mem hk)
  · intro h x hx
    obtain ⟨k, hk, rfl⟩ := List.getElem_of_mem hx
    have := h k hk
    rwa [nth_eq l k hk] at this
/-- All letters have room. -/
def RoomsS (s : List X.St) : Prop := ∀ x ∈ s, x.letters.length ≤ 140737488355328 ∧ x.next.length ≤ 140737488355328
set_option maxRecDepth 20000 in
set_option maxHeartbeats 2000000 in
theorem checkStates_any (a : Option Addr) (cap : Nat) (s : List X.St) (w : World) (hl : s.length ≤ 1000000) (hr : RoomsS s) (ha : Sts w a s) :
    Calls Tryz.prog 31 #[.slice a s.length cap] w fun e w' => e = .returned (.int .i64 (X.statesE s)) ∧ Drew w w' := by
  have HA := Lib.hid ha; have HR := Lib.hid hr; clear ha hr
  by_cases h1 : s.length < 1
  · have HF : Hid (X.statesE s = 6) := Lib.hid (by unfold X.statesE; rw [if_pos (.inl h1)])
    have hI : (s.length : Int) < 1 := by omega
    go_enter Tryz.func31, Tryz.ntmps31
    go_wp2
    go_ret
    exact ⟨ret_int HF.out.symm, Drew.refl _⟩
  by_cases h3 : 301 < s.length
  · have HF : Hid (X.statesE s = 6) := Lib.hid (by unfold X.statesE; rw [if_pos (.inr h3)])
    have hI : ¬ (s.length : Int) < 1 := by omega
    have hI2 : (301 : Int) < (s.length : Int) := by omega
    go_enter Tryz.func31, Tryz.ntmps31
    go_wp2
    go_ret
    exact ⟨ret_int HF.out.symm, Drew.refl _⟩
  have HF0 : Hid (X.statesE s = if s.any (fun x => decide (x.ends ≠ 0) && decide (x.ends ≠ 1)) = true then 2 else if s.any (fun x => decide (x.letters.length ≠ x.next.length)) = true then 15 else if s.any (fun x => !X.letters x.letters || !X.upB x.letters) = true then 8 else if (List.range s.length).all (fun i => X.inB s.length i (X.at_ s i).next) = true then 0 else 3) := Lib.hid (by unfold X.statesE; rw [if_neg (by omega)])
  have hI : ¬ (s.length : Int) < 1 := by omega
  have hI2 : ¬ (301 : Int) < (s.length : Int) := by omega
  clear h1 h3
  go_enter Tryz.func31, Tryz.ntmps31
  go_wp2
  go_loop [3] (fun i => ∃ j : Nat, j ≤ s.length ∧ i = .int .i64 j ∧ Hid ((s.take j).any (fun x => decide (x.ends ≠ 0) && decide (x.ends ≠ 1)) = false)) (fun i => s.length - (intOf i).toNat)
  case atStart => exact ⟨0, by omega, rfl, Lib.hid (by simp)⟩
  case round =>
    obtain ⟨j, hj, rfl, HL⟩ := hrel
    by_cases hlt : j < s.length
    · have hltI : (j : Int) < (s.length : Int) := by omega
      obtain ⟨b, off, rfl, c1, -, -⟩ := HA.out j hlt
      have HS := Lib.hid (anyS_snoc (p := fun x => decide (x.ends ≠ 0) && decide (x.ends ≠ 1)) hlt)
      have HH := Lib.hid (anyS_hit (p := fun x => decide (x.ends ≠ 0) && decide (x.ends ≠ 1)) hlt)
      generalize (X.at_ s j).ends = en at *
      by_cases e0 : en = 0
      · subst e0
        go_wp2
        go_round
        case rel => exact ⟨j + 1, by omega, by go_num, Lib.hid (by rw [HS.out, HL.out]; rfl)⟩
        case measure => simp [intOf]; omega
      · by_cases e1 : en = 1
        · subst e1
          go_wp2
          go_round
          case rel => exact ⟨j + 1, by omega, by go_num, Lib.hid (by rw [HS.out, HL.out]; rfl)⟩
          case measure => simp [intOf]; omega
        · have HF : Hid (X.statesE s = 2) := Lib.hid (by rw [HF0.out, if_pos (HH.out (by simp [e0, e1]))])
          have b0 : (en != 0) = true := by simpa using e0
          have b1 : (en != 1) = true := by simpa using e1
          go_wp2
          go_ret
          exact ⟨ret_int HF.out.symm, Drew.refl _⟩
    · have e : s.take j = s := List.take_of_length_le (by omega)
      rw [e] at HL
      have HF1 : Hid (X.statesE s = if s.any (fun x => decide (x.letters.length ≠ x.next.length)) = true then 15 else if s.any (fun x => !X.letters x.letters || !X.upB x.letters) = true then 8 else if (List.range s.length).all (fun i => X.inB s.length i (X.at_ s i).next) = true then 0 else 3) := Lib.hid (by rw [HF0.out, HL.out]; rfl)
      clear HL e HF0
      go_wp2
      clear hlt hj
      go_loopw [4] (fun i wr => ∃ j : Nat, j ≤ s.length ∧ i = .int .i64 j ∧ Hid ((s.take j).any (fun x => decide (x.letters.length ≠ x.next.length)) = false) ∧ Hid (Drew w wr)) (fun i _ => s.length - (intOf i).toNat)
      case atStart => exact ⟨0, by omega, rfl, Lib.hid (by simp), Lib.hid (Drew.refl _)⟩
      case round =>
        obtain ⟨j, hj, rfl, HL, HD⟩ := hrel
        by_cases hlt : j < s.length
        · have hltI : (j : Int) < (s.length : Int) := by omega
          obtain ⟨b, off, rfl, -, c2, a2, cap2, c3, -⟩ := HA.out j hlt
          have HS := Lib.hid (anyS_snoc (p := fun x => decide (x.letters.length ≠ x.next.length)) hlt)
          have HH := Lib.hid (anyS_hit (p := fun x => decide (x.letters.length ≠ x.next.length)) hlt)
          have hrr := HR.out _ (X.at_mem hlt)
          have hr1 := hrr.1
          have hr2 := hrr.2
          clear hrr
          generalize (X.at_ s j).letters = A at *
          generalize (X.at_ s j).next = N at *
          have c2 := (HD.out.cell _).trans c2
          have c3 := (HD.out.cell _).trans c3
          by_cases hAN : A.length = N.length
          · have bz : ((A.length : Int) != (N.length : Int)) = false := by rw [hAN]; simp
            have HX : Hid (decide (A.length ≠ N.length) = false) := Lib.hid (by simp [hAN])
            clear hAN
            go_wp2
            go_quiet (fail)
            go_wp2
            go_roundw
            case rel => exact ⟨j + 1, by omega, by go_num, Lib.hid (by rw [HS.out, HL.out, HX.out]; rfl), Lib.hid (HD.out.drewN _)⟩
            case measure => simp [intOf]; omega
          · have HF : Hid (X.statesE s = 15) := Lib.hid (by rw [HF1.out, if_pos (HH.out (by simp [hAN]))])
            have bz : ((A.length : Int) != (N.length : Int)) = true := by simp; omega
            clear hAN
            go_wp2
            go_quiet (fail)
            go_wp2
            go_ret
            exact ⟨ret_int HF.out.symm, HD.out.drewN _⟩
        · have e : s.take j = s := List.take_of_length_le (by omega)
          rw [e] at HL
          have HF2 : Hid (X.statesE s = if s.any (fun x => !X.letters x.letters || !X.upB x.letters) = true then 8 else if (List.range s.length).all (fun i => X.inB s.length i (X.at_ s i).next) = true then 0 else 3) := Lib.hid (by rw [HF1.out, HL.out]; rfl)
          clear HL e HF1
          go_wp2
          clear hlt hj
          go_loopw [5, 6] (fun i _ wr => ∃ j : Nat, j ≤ s.length ∧ i = .int .i64 j ∧ Hid ((s.take j).any (fun x => !X.letters x.letters || !X.upB x.letters) = false) ∧ Hid (Drew w wr)) (fun i _ _ => s.length - (intOf i).toNat)
          case atStart => exact ⟨0, by omega, rfl, Lib.hid (by simp), HD⟩
          case round =>
            clear HD
            obtain ⟨j, hj, rfl, HL, HD⟩ := hrel
            obtain ⟨wo, rfl⟩ : ∃ wo : World, wo = wr := ⟨_, rfl⟩
            by_cases hlt : j < s.length
            · have hltI : (j : Int) < (s.length : Int) := by omega
              have hj0 : (0 : Int) ≤ (j : Int) := by omega
              obtain ⟨b, off, rfl, -, c2, -⟩ := HA.out j hlt
              have HS := Lib.hid (anyS_snoc (p := fun x => !X.letters x.letters || !X.upB x.letters) hlt)
              have HH := Lib.hid (anyS_hit (p := fun x => !X.letters x.letters || !X.upB x.letters) hlt)
              have hr1 := (HR.out _ (X.at_mem hlt)).1
              generalize (X.at_ s j).letters = A at *
              have HC2 := Lib.hid c2
              have c2 := (HD.out.cell _).trans c2
              have HC := Lib.hid (fun W => letters_any A W hr1)
              cases hlet : X.letters A with
              | false =>
                have HF : Hid (X.statesE s = 8) := Lib.hid (by rw [HF2.out, if_pos (HH.out (by rw [hlet]; rfl))])
                rw [hlet] at HC
                clear hlet
                go_wp2_with (go_at_call 64; refine (HC.out _).mono ?_; rintro e w3 ⟨rfl, rfl⟩)
                go_ret
                exact ⟨ret_int HF.out.symm, HD.out⟩
              | true =>
                have HUp : Hid (X.upB A = false → X.statesE s = 8) := Lib.hid (fun h => by rw [HF2.out, if_pos (HH.out (by rw [hlet, h]; rfl))])
                have HNx : Hid (X.upB A = true → (s.take (j + 1)).any (fun x => !X.letters x.letters || !X.upB x.letters) = false) := Lib.hid (fun h => by rw [HS.out, HL.out, hlet, h]; rfl)
                rw [hlet] at HC
                clear hlet HS HH HL
                go_wp2_with (go_at_call 64; refine (HC.out _).mono ?_; rintro e w3 ⟨rfl, rfl⟩)
                clear c2
                go_loopw [6] (fun i wi => ∃ k : Nat, (k ≤ A.length ∨ k = 1) ∧ 1 ≤ k ∧ i = .int .i64 k ∧ Hid (∀ q, q + 1 < k → q + 1 < A.length → (wc A q).toNat < (wc A (q + 1)).toNat) ∧ Hid (Drew w wi)) (fun i _ => A.length + 1 - (intOf i).toNat)
                case atStart => exact ⟨1, .inr rfl, by omega, rfl, Lib.hid (fun q h => by omega), HD⟩
                case round =>
                  obtain ⟨k, hk, hk1, rfl, HK, HDi⟩ := hrel
                  have c2 := (HDi.out.cell _).trans HC2.out
                  by_cases hkl : k < A.length
                  · obtain ⟨i, rfl⟩ : ∃ i, k = i + 1 := ⟨k - 1, by omega⟩
                    have hkI : ((i + 1 : Nat) : Int) < (A.length : Int) := by omega
                    have hi0 : (0 : Int) ≤ (i : Int) := by omega
                    have hiI : (i : Int) < (A.length : Int) := by omega
                    have hkk : (0 : Int) ≤ ((i + 1 : Nat) : Int) := by omega
                    have kw : IntKind.i64.wrap (((i + 1 : Nat) : Int) - 1) = (i : Int) := by rw [IntWalk.i64_in _ (by omega)]; omega
                    have ec1 := bs_at A (i + 1)
                    have ec2 := bs_at A i
                    have HN : Hid (((wc A (i + 1)).toNat ≤ (wc A i).toNat → X.upB A = false) ∧ (¬ (wc A (i + 1)).toNat ≤ (wc A i).toNat → ∀ q, q + 1 < i + 1 + 1 → q + 1 < A.length → (wc A q).toNat < (wc A (q + 1)).toNat)) := Lib.hid (by
                      constructor
                      · intro h
                        cases q : X.upB A with
                        | false => rfl
                        | true => have := up_wc.1 q i hkl; omega
                      · intro h q hq hql
                        by_cases e : q = i
                        · subst e; omega
                        · exact HK.out q (by omega) hql)
                    generalize wc A (i + 1) = x at *
                    generalize wc A i = y at *
                    by_cases hxy : x.toNat ≤ y.toNat
                    · have HF := Lib.hid (HUp.out (HN.out.1 hxy))
                      have hxI : (x.toNat : Int) ≤ (y.toNat : Int) := by omega
                      clear HN
                      go_wp2
                      go_quiet (fail)
                      go_wp2
                      go_ret
                      exact ⟨ret_int HF.out.symm, HDi.out.drewN _⟩
                    · have HN2 := Lib.hid (HN.out.2 hxy)
                      have hxI : ¬ (x.toNat : Int) ≤ (y.toNat : Int) := by omega
                      clear HN
                      go_wp2
                      go_quiet (fail)
                      go_wp2
                      go_roundw
                      case rel => exact ⟨i + 1 + 1, .inl (by omega), by omega, by go_num, HN2, Lib.hid (HDi.out.drewN _)⟩
                      case measure => simp [intOf]; omega
                  · have hkI : ¬ (k : Int) < (A.length : Int) := by omega
                    have HN2 := Lib.hid (HNx.out (up_wc.2 (fun q hq => HK.out q (by omega) hq)))
                    clear HK
                    go_wp2
                    go_roundw
                    case rel => exact ⟨j + 1, by omega, by go_num, HN2, HDi⟩
                    case measure => simp [intOf]; omega
            · have e : s.take j = s := List.take_of_length_le (by omega)
              rw [e] at HL
              have HF3 : Hid (X.statesE s = if (List.range s.length).all (fun i => X.inB s.length i (X.at_ s i).next) = true then 0 else 3) := Lib.hid (by rw [HF2.out, HL.out]; rfl)
              clear HL e HF2
              go_wp2
              clear hlt hj
              go_loop [7, 8] (fun i _ => ∃ j : Nat, j ≤ s.length ∧ i = .int .i64 j ∧ Hid (∀ i', i' < j → X.inB s.length i' (X.at_ s i').next = true)) (fun i _ => s.length - (intOf i).toNat)
              case atStart => exact ⟨0, by omega, rfl, Lib.hid (fun q h => by omega)⟩
              case round =>
                obtain ⟨j, hj, rfl, HL⟩ := hrel
                by_cases hlt : j < s.length
                · have hltI : (j : Int) < (s.length : Int) := by omega
                  have hj0 : (0 : Int) ≤ (j : Int) := by omega
                  obtain ⟨b, off, rfl, -, -, a2, cap2, c3, hi3⟩ := HA.out j hlt
                  have hr2 := (HR.out _ (X.at_mem hlt)).2
                  have HNo : Hid (X.inB s.length j (X.at_ s j).next = false → X.statesE s = 3) := Lib.hid (fun h => by
                    rw [HF3.out, if_neg]
                    rw [List.all_eq_true]
                    intro hall
                    have := hall j (List.mem_range.2 hlt)
                    rw [h] at this; cases this)
                  have HYes : Hid (X.inB s.length j (X.at_ s j).next = true → ∀ i', i' < j + 1 → X.inB s.length i' (X.at_ s i').next = true) := Lib.hid (fun h q hq => by
                    by_cases e : q = j
                    · subst e; exact h
                    · exact HL.out q (by omega))
                  generalize (X.at_ s j).next = N at *
                  have HI := Lib.hid (hi3.drew HD.out)
                  have c3 := (HD.out.cell _).trans c3
                  clear hi3 HL
                  go_wp2
                  go_loop [8] (fun i => ∃ k : Nat, k ≤ N.length ∧ i = .int .i64 k ∧ Hid (∀ q, q < k → (j : Int) < nth N q ∧ nth N q < (s.length : Int))) (fun i => N.length - (intOf i).toNat)
                  case atStart => exact ⟨0, by omega, rfl, Lib.hid (fun q h => by omega)⟩
                  case round =>
                    obtain ⟨k, hk, rfl, HK⟩ := hrel
                    by_cases hkl : k < N.length
                    · have hkI : (k : Int) < (N.length : Int) := by omega
                      have hk0 : (0 : Int) ≤ (k : Int) := by omega
                      obtain ⟨b3, off3, rfl, c4⟩ := HI.out k hkl
                      have HKn : Hid ((j : Int) < nth N k → nth N k < (s.length : Int) → ∀ q, q < k + 1 → (j : Int) < nth N q ∧ nth N q < (s.length : Int)) := Lib.hid (fun h1 h2 q hq => by
                        by_cases e : q = k
                        · subst e; exact ⟨h1, h2⟩
                        · exact HK.out q (by omega))
                      have HBad : Hid (¬ ((j : Int) < nth N k ∧ nth N k < (s.length : Int)) → X.statesE s = 3) := Lib.hid (fun h => HNo.out (by
                        cases q : X.inB s.length j N with
                        | false => rfl
                        | true => exact absurd (inB_iff.1 q k hkl) h))
                      generalize nth N k = v at *
                      by_cases h1 : v ≤ (j : Int)
                      · have HF := Lib.hid (HBad.out (by omega))
                        go_wp2
                        go_ret
                        exact ⟨ret_int HF.out.symm, HD.out⟩
                      · by_cases h2 : (s.length : Int) ≤ v
                        · have HF := Lib.hid (HBad.out (by omega))
                          go_wp2
                          go_ret
                          exact ⟨ret_int HF.out.symm, HD.out⟩
                        · have HN2 := Lib.hid (HKn.out (by omega) (by omega))
                          go_wp2
                          go_round
                          case rel => exact ⟨k + 1, by omega, by go_num, HN2⟩
                          case measure => simp [intOf]; omega
                    · have HN2 := Lib.hid (HYes.out (inB_iff.2 (fun q hq => HK.out q (by omega))))
                      have hkI : ¬ (k : Int) < (N.length : Int) := by omega
                      go_wp2
                      go_round
                      case rel => exact ⟨j + 1, by omega, by go_num, HN2⟩
                      case measure => simp [intOf]; omega
                · have HF : Hid (X.statesE s = 0) := Lib.hid (by
                    rw [HF3.out, if_pos]
                    rw [List.all_eq_true]
                    intro q hq
                    exact HL.out q (by have := List.mem_range.1 hq; omega))
                  go_wp2
                  go_ret
                  exact ⟨ret_int HF.out.symm, HD.out⟩
end Go.Proofs.YtcjbnifafofpbaaGreatDoor
/- Walks of the statements' own small functions: great, fine, within, texts, Texts, state. -/
namespace Go.Proofs.YtcjbnifafofpbaaGreatDoor
open Go.RowKit
/-- A list that is too great for a statement. -/
def greatB (l : List X.W) : Bool := decide (40 < l.length) || l.any (fun s => decide (20 < s.length))
theorem greatB_true {l : List X.W} (h : greatB l = true) : X.listE l ≠ 0 := by
  intro e
  have hL := X.listE_iff.1 e
  unfold greatB at h
  rw [Bool.or_eq_true, decide_eq_true_iff, List.any_eq_true] at h
  rcases h with h | ⟨s, hs, h⟩
  · have := hL.many; omega
  · rw [decide_eq_true_iff] at h; have := hL.long s hs; omega
theorem greatB_false {l : List X.W} (h : greatB l = false) : l.length ≤ 40 ∧ ∀ s ∈ l, s.length ≤ 20 := by
  unfold greatB at h
  rw [Bool.or_eq_false_iff, decide_eq_false_iff_not, List.any_eq_false] at h
  exact ⟨by omega, fun s hs => by have := h.2 s hs; rw [decide_eq_true_iff] at this; omega⟩
theorem great_any (a : Option Addr) (cap : Nat) (l : List X.W) (w : World) (ha : Strs w a l) :
    Calls Tryz.prog 16 #[.slice a l.length cap] w fun e w' => e = .returned (.bool (greatB l)) ∧ w = w' := by
  have HA := Lib.hid ha
  clear ha
  by_cases h40 : 40 < l.length
  · have hI : (40 : Int) < (l.length : Int) := by omega
    have HF : Hid (greatB l = true) := Lib.hid (by unfold greatB; rw [decide_eq_true h40]; rfl)
    go_enter Tryz.func16, Tryz.ntmps16
    go_wp2
    go_ret
    exact ⟨ret_bool HF.out.symm, rfl⟩
  · have hI : ¬ (40 : Int) < (l.length : Int) := by omega
    have HF0 : Hid (greatB l = l.any (fun s => decide (20 < s.length))) := Lib.hid (by unfold greatB; rw [decide_eq_false h40]; rfl)
    go_enter Tryz.func16, Tryz.ntmps16
    go_wp2
    go_loopw [3] (fun i wr => ∃ j : Nat, j ≤ l.length ∧ i = .int .i64 j ∧ Hid (∀ k, k < j → (wat l k).length ≤ 20) ∧ w = wr) (fun i _ => l.length - (intOf i).toNat)
    case atStart => exact ⟨0, by omega, rfl, Lib.hid (fun k hk => by omega), rfl⟩
    case round =>
      obtain ⟨j, hj, rfl, HS, rfl⟩ := hrel
      by_cases hlt : j < l.length
      · have hltI : (j : Int) < (l.length : Int) := by omega
        obtain ⟨b1, off1, rfl, c1⟩ := HA.out j hlt
        by_cases h20 : 20 < (wat l j).length
        · have HF : Hid (greatB l = true) := Lib.hid (by rw [HF0.out, List.any_eq_true]; exact ⟨_, wat_mem hlt, by rw [decide_eq_true_iff]; exact h20⟩)
          have h2 : (20 : Int) < ((wat l j).length : Int) := by omega
          go_wp2
          go_ret
          exact ⟨ret_bool HF.out.symm, rfl⟩
        · have h2 : ¬ (20 : Int) < ((wat l j).length : Int) := by omega
          have HS2 : Hid (∀ k, k < j + 1 → (wat l k).length ≤ 20) := Lib.hid (fun k hk => by
            rcases Nat.lt_succ_iff_lt_or_eq.1 hk with h | rfl
            · exact HS.out k h
            · omega)
          go_wp2
          go_roundw
          case rel => exact ⟨j + 1, by omega, by go_num, HS2, by trivial⟩
          case measure => simp [intOf]; omega
      · have HF : Hid (greatB l = false) := Lib.hid (by
          rw [HF0.out, List.any_eq_false]
          intro s hs
          rw [decide_eq_true_iff]
          obtain ⟨k, hk, rfl⟩ := List.mem_iff_getElem.1 hs
          have := HS.out k (by omega)
          rw [wat_eq l k hk] at this; omega)
        go_wp2
        go_ret
        exact ⟨ret_bool HF.out.symm, rfl⟩
/-- A valid list. -/
theorem fine_any (a : Option Addr) (cap : Nat) (l : List X.W) (w : World) (ha : Strs w a l) :
    Calls Tryz.prog 45 #[.slice a l.length cap] w fun e w' => e = .returned (.bool (decide (X.listE l = 0))) ∧ Drew w w' := by
  have HG := great_any a cap l w ha
  cases hg : greatB l with
  | true =>
    have HF : Hid (decide (X.listE l = 0) = false) := Lib.hid (decide_eq_false (greatB_true hg))
    rw [hg] at HG
    have HG := Lib.hid HG
    clear hg ha
    go_enter Tryz.func45, Tryz.ntmps45
    go_wp2_with fail
    refine HG.out.mono ?_
    rintro e w1 ⟨rfl, rfl⟩
    go_wp2_with fail
    go_ret
    exact ⟨ret_bool HF.out.symm, Drew.refl _⟩
  | false =>
    obtain ⟨h1, h2⟩ := greatB_false hg
    have HC := Lib.hid (checkList_any a cap l w (by omega) (fun s hs => by have := h2 s hs; omega) ha)
    rw [hg] at HG
    have HG := Lib.hid HG
    clear hg ha h1 h2
    by_cases hz : X.listE l = 0
    · rw [hz] at HC
      rw [decide_eq_true hz]
      clear hz
      go_enter Tryz.func45, Tryz.ntmps45
      go_wp2_with fail
      refine HG.out.mono ?_
      rintro e w1 ⟨rfl, rfl⟩
      go_wp2_with fail
      refine HC.out.mono ?_
      rintro e w2 ⟨rfl, hd⟩
      go_wp2_with fail
      go_ret
      exact ⟨rfl, hd⟩
    · rw [decide_eq_false hz]
      generalize X.listE l = q at *
      have hq : (q == 0) = false := by simpa using hz
      clear hz
      go_enter Tryz.func45, Tryz.ntmps45
      go_wp2_with fail
      refine HG.out.mono ?_
      rintro e w1 ⟨rfl, rfl⟩
      go_wp2_with fail
      refine HC.out.mono ?_
      rintro e w2 ⟨rfl, hd⟩
      go_wp2_with fail
      go_ret
      exact ⟨rfl, hd⟩
/-- Each word of a list is in another one. -/
def withinL (l m : List X.W) : Bool := l.all (fun s => decide (s ∈ m))
theorem withinL_iff {l m : List X.W} : withinL l m = true ↔ ∀ s ∈ l, s ∈ m := by unfold withinL; simp
theorem withinS_any (a : Option Addr) (cap : Nat) (l : List X.W) (b : Option Addr) (cap2 : Nat) (m : List X.W) (w : World) (hl : l.length ≤ 1000000) (hm : m.length ≤ 1000000) (ha : Strs w a l) (hb : Strs w b m) :
    Calls Tryz.prog 50 #[.slice a l.length cap, .slice b m.length cap2] w fun e w' => e = .returned (.bool (withinL l m)) ∧ w = w' := by
  have HA := Lib.hid ha
  have HH := Lib.hid (fun s => has_any b cap2 m s w hm hb)
  clear ha hb
  go_enter Tryz.func50, Tryz.ntmps50
  go_wp2
  go_loopw [5] (fun i wr => ∃ j : Nat, j ≤ l.length ∧ i = .int .i64 j ∧ Hid (∀ k, k < j → wat l k ∈ m) ∧ w = wr) (fun i _ => l.length - (intOf i).toNat)
  case atStart => exact ⟨0, by omega, rfl, Lib.hid (fun k hk => by omega), rfl⟩
  case round =>
    obtain ⟨j, hj, rfl, HS, rfl⟩ := hrel
    by_cases hlt : j < l.length
    · have hltI : (j : Int) < (l.length : Int) := by omega
      obtain ⟨b1, off1, rfl, c1⟩ := HA.out j hlt
      have HC := HH.out (wat l j)
      by_cases hx : wat l j ∈ m
      · rw [decide_eq_true hx] at HC
        have HC := Lib.hid HC
        have HS2 : Hid (∀ k, k < j + 1 → wat l k ∈ m) := Lib.hid (fun k hk => by
          rcases Nat.lt_succ_iff_lt_or_eq.1 hk with h | rfl
          · exact HS.out k h
          · exact hx)
        clear hx
        go_wp2_with fail
        refine HC.out.mono ?_
        rintro e w1 ⟨rfl, rfl⟩
        go_wp2_with fail
        go_roundw
        case rel => exact ⟨j + 1, by omega, by go_num, HS2, by trivial⟩
        case measure => simp [intOf]; omega
      · rw [decide_eq_false hx] at HC
        have HC := Lib.hid HC
        have HF : Hid (withinL l m = false) := Lib.hid (by
          rw [Bool.eq_false_iff]; intro e; exact hx (withinL_iff.1 e _ (wat_mem hlt)))
        clear hx
        go_wp2_with fail
        refine HC.out.mono ?_
        rintro e w1 ⟨rfl, rfl⟩
        go_wp2_with fail
        go_ret
        exact ⟨ret_bool HF.out.symm, rfl⟩
    · have HF : Hid (withinL l m = true) := Lib.hid (withinL_iff.2 (fun s hs => by
        obtain ⟨k, hk, rfl⟩ := List.mem_iff_getElem.1 hs
        have := HS.out k (by omega)
        rwa [wat_eq l k hk] at this))
      go_wp2
      go_ret
      exact ⟨ret_bool HF.out.symm, rfl⟩
theorem texts_any (v : Value) (w : World) : Calls Tryz.prog 53 #[v] w fun e w' => e = .returned v ∧ w = w' := by
  go_enter Tryz.func53, Tryz.ntmps53
  go_wp2
  go_ret
  exact ⟨rfl, rfl⟩
theorem textsS_any (a : Option Addr) (cap : Nat) (l : List X.W) (b : Option Addr) (cap2 : Nat) (m : List X.W) (w : World) (hl : l.length ≤ 1000000) (ha : Strs w a l) (hb : Strs w b m) :
    Calls Tryz.prog 32 #[.slice a l.length cap, .slice b m.length cap2] w fun e w' => e = .returned (.bool (decide (l = m))) ∧ Drew w w' := by
  have HC := Lib.hid (same_any a cap l b cap2 m w hl ha hb)
  clear ha hb
  generalize decide (l = m) = B at *
  go_enter Tryz.func32, Tryz.ntmps32
  go_wp2_with fail
  refine HC.out.mono ?_
  rintro e w1 ⟨rfl, hd⟩
  go_wp2_with fail
  go_ret
  exact ⟨rfl, hd⟩
set_option maxRecDepth 20000 in
theorem state54_any (e : Int) (A : X.W) (v : Value) (a : Option Addr) (n cap : Nat) (hv : v = .slice a n cap) (w : World) :
    Calls Tryz.prog 54 #[.int .i64 e, sv A, v] w fun r w' => r = .returned (.agg #[.int .i64 e, sv A, v]) ∧ Below w.heap.size w w' := by
  subst hv
  go_enter Tryz.func54, Tryz.ntmps54
  go_wp2_with fail
  exact bodyPost_ret (v := .agg #[.int .i64 e, sv A, .slice a n cap]) (by simp [results, Tryz.results54, go_sem]) rfl ⟨rfl, Below.new _ _⟩
end Go.Proofs.YtcjbnifafofpbaaGreatDoor
