/- One text of RefL, LastM, RefK, XP. -/
import Derived.Test.YtcjbnifafofpbaaGreatDoorJ21
import Derived.Laws.BytesString
/- Walk of the reference's Build. -/
namespace Go.Proofs.YtcjbnifafofpbaaGreatDoor
open Go.RowKit Go.Lib
theorem conv_byteR (b cap : Nat) (n : Int) (W : World) (h : W.cell? ⟨b, 0, none⟩ = some (.int .u8 n)) : (convert 53 9 (.slice (some ⟨b, 0, none⟩) 1 cap)).run Tryz.prog W = .ok (.string ⟨#[UInt8.ofNat n.toNat]⟩) W := by
  have hl : (loadCells ⟨b, 0, none⟩ 1).run Tryz.prog W = .ok ([n].map (Value.int .u8)).toArray W := by
    simp [loadCells, h, go_sem]
  have h2 := run_bytesToString (P := Tryz.prog) W ⟨b, 0, none⟩ 1 cap [n] hl
  unfold convert
  simp [Sem.run_bind, run_underlying Tryz.underlying53, run_underlying Tryz.underlying9, run_underlying Tryz.underlying5, h2, go_sem]
  rfl
theorem conv_k (b k : Nat) (c : UInt8) (hc : UInt8.ofNat (97 + k) = c) (W : World) (h : W.cell? ⟨b, 0, none⟩ = some (.int .u8 (97 + (k : Int)))) : (convert 53 9 (.slice (some ⟨b, 0, none⟩) 1 1)).run Tryz.prog W = .ok (.string ⟨#[c]⟩) W := by
  rw [conv_byteR b 1 _ W h]
  have : ((97 : Int) + (k : Int)).toNat = 97 + k := by omega
  rw [this, hc]
set_option maxRecDepth 20000 in
/-- Endings, once more: what it gives lies behind what was there. -/
theorem endings_far (a : Option Addr) (cap : Nat) (l : List X.W) (u : X.W) (w : World) (hl : l.length ≤ 1000000) (hr : Rooms l) (hu : u.length ≤ 140737488355328) (ha : Strs w a l) :
    Calls Tryz.prog 58 #[.slice a l.length cap, sv u] w fun e w' => ∃ a cap, e = .returned (.slice a (X.ends l u).length cap) ∧ Strs w' a (X.ends l u) ∧ (∀ b off, a = some ⟨b, off, none⟩ → w.heap.size ≤ b) ∧ RowKit.Below w.heap.size w w' := by
  have HA := Lib.hid ha; have HR := Lib.hid hr; clear ha hr
  go_enter Tryz.func58, Tryz.ntmps58
  go_wp2
  go_loopw [5, 6] (fun o i wr => ∃ j : Nat, j ≤ l.length ∧ i = .int .i64 j ∧ Hid (wr.ownsRow w.heap.size 9 1 o (X.ends (l.take j) u).length ((X.ends (l.take j) u).map sv)) ∧ Hid (RowKit.Below w.heap.size w wr)) (fun _ i _ => l.length - (RowKit.intOf i).toNat)
  case atStart => exact ⟨0, by omega, rfl, Lib.hid (World.ownsRow_nil _ _ _ _), Lib.hid (RowKit.Below.refl _ _)⟩
  case round =>
    obtain ⟨j, hj, rfl, HO, HB⟩ := hrel
    by_cases hlt : j < l.length
    · have hltI : (j : Int) < (l.length : Int) := by omega
      obtain ⟨b, off, rfl, c0⟩ := HA.out j hlt
      have c1 := cell_on HB.out c0
      have hx := HR.out _ (wat_mem hlt)
      have HS := Lib.hid (X.ends_snoc (l.take j) (wat l j) u)
      rw [← take_succ_wat l j hlt] at HS
      have hn : (X.ends (l.take j) u).length + 1 ≤ 2000000 := by have := ends_len_le (l.take j) u; rw [List.length_take] at this; omega
      generalize wat l j = x at *
      have HC := Lib.hid (fun W => begins_any x u W hx hu)
      clear c0
      cases hp : u.isPrefixOf x with
      | true =>
        have hle : u.length ≤ x.length := (List.isPrefixOf_iff_prefix.1 hp).length_le
        have hle2 : (u.length : Int) ≤ (x.length : Int) := by omega
        have ex : (ByteArray.mk x.toArray).extract u.length x.length = ⟨(x.drop u.length).toArray⟩ := by rw [ByteArray.extract_mk, List.take_of_length_le (by simp)]
        have HS2 : Hid (X.ends (l.take (j + 1)) u = X.ends (l.take j) u ++ [x.drop u.length]) := Lib.hid (by rw [HS.out, hp]; rfl)
        rw [hp] at HC
        clear hp HS
        generalize x.drop u.length = y at *
        have O5 := Lib.hid (HO.out.alloc (.cells #[sv y] 9))
        have hnews := Lib.hid (news_new wr #[sv y] 9)
        have hszW : w.heap.size ≤ (wr.alloc (.cells #[sv y] 9)).heap.size := by have := HB.out.size; simp; omega
        have hsz := HB.out.size
        go_wp2_with (first | (go_at_call 94; refine (HC.out _).mono ?_; rintro e w3 ⟨rfl, rfl⟩) | (at_builtin; refine listApp T22 rfl (.tmp 19) (.tmp 27) rfl w.heap.size u5 (X.ends (l.take j) u).length ((X.ends (l.take j) u).map sv) [sv y] 1 1 ⟨wr.heap.size, 0, none⟩ rfl O5.out rfl rfl hnews.out (by simp [Value.oneCell']) hn hszW ?_; intro v8 w8 hown8 hg8 hL8))
        go_roundw
        case rel => exact ⟨j + 1, by omega, by go_num, by rw [HS2.out, List.length_append, List.map_append]; exact Lib.hid hown8, Lib.hid ((HB.out.alloc hsz _).grown hg8 hszW (fun g e => (HO.out.lt g e).1))⟩
        case measure => simp [RowKit.intOf]; omega
      | false =>
        have HS2 : Hid (X.ends (l.take (j + 1)) u = X.ends (l.take j) u) := Lib.hid (by rw [HS.out, hp]; simp)
        rw [hp] at HC
        clear hp HS
        go_wp2_with (go_at_call 94; refine (HC.out _).mono ?_; rintro e w3 ⟨rfl, rfl⟩)
        go_roundw
        case rel => exact ⟨j + 1, by omega, by go_num, by rw [HS2.out]; exact HO, HB⟩
        case measure => simp [RowKit.intOf]; omega
    · have e : l.take j = l := List.take_of_length_le (by omega)
      rw [e] at HO
      obtain ⟨-, a5, c5, rfl, hs5, hc5⟩ := Strs.of_ownsRow HO.out
      have HS5 := Lib.hid hs5
      have HF5 := Lib.hid (fun b off (e : a5 = some ⟨b, off, none⟩) => (HO.out.lt b (by rw [e]; rfl)).1)
      clear hs5 HO
      go_wp2
      go_ret
      exact ⟨a5, c5, rfl, HS5.out, HF5.out, HB.out⟩
/-- A slice of one byte. -/
def KBy (n : Int) : Known := fun v w => ∃ g, v = .slice (some ⟨g, 0, none⟩) 1 1 ∧ w.cell? ⟨g, 0, none⟩ = some (.int .u8 n)
theorem KBy.st (n : Int) : ∀ v w w', KBy n v w → RowKit.Below w.heap.size w w' → KBy n v w' := fun _ _ _ ⟨g, e, h⟩ hb => ⟨g, e, cell_on hb h⟩
section
variable {Q : Exit → Act → World → Prop} {R : List Known} {ks : List Nat} {a : Act} {w : World} {i : Nat} {dst : Option Tmp} {ty : TypeId} {pos : String} {after : Array Edge}
set_option maxRecDepth 20000 in
theorem step_byte {j q : Nat} {n : Int} (hq : ks.getD j 0 = q) (hj : j ∈ (after.toList.filter (fun e => Region.binds .any e)).map (fun e => e.on)) (hRj : Rat R j = KEq (.int .u8 n)) (hR : Rat R i = KBy n) :
    StepG Tryz.prog Q R ks a w i ⟨dst, .buildSlice 53 1 #[(0, .tmp q)], ty, pos, after, none⟩ := by
  intro a' w' hA hb hd K hK
  have e : a'.eval (.tmp q) = .int .u8 n := by have := hd j hj; rw [hRj, hq] at this; exact this
  have e' := tmp_of e
  refine op_value (w' := w'.alloc (.cells #[.int .u8 n] 5)) (v := .slice (some ⟨w'.heap.size, 0, none⟩) 1 1) (by simp [execOp, go_sem, e']) (hK _ _ (Below.new _ _) (by rw [hR]; exact ⟨_, rfl, cell_new1 _ _ _⟩))
set_option maxRecDepth 20000 in
theorem step_text {j q k : Nat} {c : UInt8} (hc : UInt8.ofNat (97 + k) = c) (hq : ks.getD j 0 = q) (hj : j ∈ (after.toList.filter (fun e => Region.binds .any e)).map (fun e => e.on)) (hRj : Rat R j = KBy (97 + (k : Int))) (hR : Rat R i = KEq (.string ⟨#[c]⟩)) :
    StepG Tryz.prog Q R ks a w i ⟨dst, .convert 53 9 (.tmp q), ty, pos, after, none⟩ := by
  intro a' w' hA hb hd K hK
  obtain ⟨g, e, hg⟩ : KBy (97 + (k : Int)) (a'.eval (.tmp q)) w' := by have := hd j hj; rw [hRj, hq] at this; exact this
  have e' := tmp_of e
  have hr := conv_k g k c hc w' hg
  refine op_value (w' := w') (v := .string ⟨#[c]⟩) (by simp [execOp, go_sem, e', hr]) (hK _ _ (RowKit.Below.refl _ _) (by rw [hR]; rfl))
end
/-- The state so far, while its next way is looked for. -/
structure Stq (l : List X.W) (u : X.W) (k b x t : Nat) (v : Value) (w : World) : Prop where
  cel : Cells w b [.int .i64 (if u ∈ l then 1 else 0), sv (X.outsTo l u (k + 1)), v]
  row : w.ownsRow (b + 1) 3 1 v (X.upTo (X.nextTo l u k) x t).length ((X.upTo (X.nextTo l u k) x t).map (.int .i64))
theorem Stq.below {l : List X.W} {u : X.W} {k b x t : Nat} {v : Value} {w w' : World} (h : Stq l u k b x t v w) (hb : RowKit.Below w.heap.size w w') : Stq l u k b x t v w' := ⟨h.cel.on hb, owns_below h.row hb⟩
attribute [local go_sem] build58
set_option maxRecDepth 20000 in
set_option maxHeartbeats 4000000 in
theorem buildR_any (a : Option Addr) (cap : Nat) (l : List X.W) (w : World) (hl : l.length ≤ 1000000) (hrl : Rooms l) (ha : Strs w a l) :
    Calls Tryz.prog 19 #[.slice a l.length cap] w fun e w' => OutBE w w' e (X.buildE l) := by
  have HC := Lib.hid (fun W hd => checkList_any a cap l W hl hrl (ha.drew hd))
  by_cases h : X.listE l = 0
  case neg =>
    have HE : Hid (X.buildE l = ([], X.listE l)) := Lib.hid (by unfold X.buildE; rw [if_neg h])
    have hn := ne_bool h
    generalize X.listE l = q at *
    clear h ha
    go_enter Tryz.func19, Tryz.ntmps19
    go_wp2_with fail
    refine (HC.out _ (Drew.refl _)).mono ?_
    rintro e w1 ⟨rfl, hd1⟩
    have HD1 := Lib.hid hd1
    clear hd1
    go_wp2_with fail
    refine (HC.out _ HD1.out).mono ?_
    rintro e w2 ⟨rfl, hd2⟩
    have HD := Lib.hid (HD1.out.trans hd2)
    clear hd2
    go_wp2_with fail
    go_ret2
    rw [HE.out]
    exact ⟨none, 0, rfl, fun i hi => by simp at hi, by simp, HD.out.below _⟩
  have HE : Hid (X.buildE l = (X.build l, 0)) := Lib.hid (by unfold X.buildE; rw [if_pos h])
  have hL := X.listE_iff.1 h
  rw [h] at HC
  have HA := Lib.hid ha
  have HTo := Lib.hid (fun W hd => tops_any a cap l W hL (ha.drew hd))
  have HFit := Lib.hid (List_.fit hL)
  have HTl : Hid (∀ j, j < (X.tops l).length → wat (X.tops l) j ∈ X.tops l) := Lib.hid (fun j hj => wat_mem hj)
  have hTn : (X.tops l).length ≤ 1000000 := by have := X.tops_len hL; have := X.scan_len hL; omega
  have HBd : Hid (∀ j, j < (X.tops l).length → ((X.tops l).take (j + 1)).map (X.state l) = ((X.tops l).take j).map (X.state l) ++ [X.state l (wat (X.tops l) j)]) := Lib.hid (fun j hj => X.build_take l hj)
  have HAll : Hid (((X.tops l).take (X.tops l).length).map (X.state l) = X.build l) := Lib.hid (by rw [List.take_length]; rfl)
  have HIx : Hid (∀ u, X.ends l u ≠ [] → X.idx l (X.ends l u) < (X.tops l).length ∧ ∀ k, k < (X.tops l).length → (X.ends l (wat (X.tops l) k) = X.ends l u ↔ k = X.idx l (X.ends l u))) :=
    Lib.hid (fun u hu => ⟨(X.idx_spec hL (X.scan_ends hu)).1, fun k hk => X.idx_iff hL hu hk⟩)
  have hl3 := (List_.fit hL).1
  have HR := Lib.hid hrl
  clear h ha hL
  go_enter Tryz.func19, Tryz.ntmps19
  go_wp2_with fail
  refine (HC.out _ (Drew.refl _)).mono ?_
  rintro e w1 ⟨rfl, hd1⟩
  have HD1 := Lib.hid hd1
  clear hd1
  go_wp2_with fail
  refine (HTo.out _ HD1.out).mono ?_
  rintro e W0 ⟨a3, c3, rfl, hst, -, hb0⟩
  have HB0 := Lib.hid ((HD1.out.below w.heap.size).trans (hb0.mono (HD1.out.below w.heap.size).size))
  have HS := Lib.hid (HA.out.below HB0.out)
  have HT := Lib.hid hst
  clear hst hb0
  go_wp2_with fail
  go_loopw [5, 6, 7, 8, 9, 10, 11] (fun o i _ _ _ _ _ wr => ∃ (j : Nat) (q : List Q3), j ≤ (X.tops l).length ∧ i = .int .i64 j ∧ Hid (q.map (·.1) = ((X.tops l).take j).map (X.state l)) ∧ Hid (Outs W0.heap.size wr o q) ∧ Hid (RowKit.Below W0.heap.size W0 wr)) (fun _ i _ _ _ _ _ _ => (X.tops l).length - (RowKit.intOf i).toNat)
  case atStart => exact ⟨0, [], by omega, rfl, Lib.hid rfl, Lib.hid (Outs.nil _ _), Lib.hid (RowKit.Below.refl _ _)⟩
  case round =>
    obtain ⟨j, q, hj, rfl, HQ, HO, HBl⟩ := hrel
    obtain ⟨V, rfl⟩ : ∃ V, V = wr := ⟨_, rfl⟩
    by_cases hlt : j < (X.tops l).length
    · have hltI : (j : Int) < ((X.tops l).length : Int) := by omega
      obtain ⟨b1, off1, rfl, c1⟩ := (HT.out.below HBl.out) j hlt
      have HBj := Lib.hid (HBd.out j hlt)
      have hul := HFit.out.2.2 _ (HTl.out j hlt)
      have HC1 := Lib.hid c1
      generalize wat (X.tops l) j = u at *
      have hb1 := Below.new V (.cells #[.int .i64 0, .string ⟨#[]⟩, .slice none 0 0] 58)
      have hcl : Cells (V.alloc (.cells #[.int .i64 0, .string ⟨#[]⟩, .slice none 0 0] 58)) V.heap.size [.int .i64 0, .string ⟨#[]⟩, .slice none 0 0] := Cells.new V #[.int .i64 0, .string ⟨#[]⟩, .slice none 0 0] 58
      have c1 := cell_on hb1 c1
      have HCl := Lib.hid hcl
      have HB1 := Lib.hid hb1
      have HCn := Lib.hid (has_any a cap l u _ (by omega) ((HS.out.below HBl.out).below hb1))
      clear hb1 hcl
      go_wp2_with fail
      refine HCn.out.mono ?_
      rintro e W1 ⟨rfl, hW1⟩
      rw [hW1] at HCl HB1
      clear hW1 c1 HCn
      have z0 := HCl.out.cel 0 _ rfl
      have f0 := HCl.out.fr 0
      have h2 : ∃ W2, (W2 = if u ∈ l then W1.setCell ⟨V.heap.size, 0, none⟩ (.int .i64 1) else W1) ∧ Stt l u 0 V.heap.size (.slice none 0 0) W2 ∧ RowKit.Below V.heap.size V W2 := by
        refine ⟨_, rfl, ?_⟩
        by_cases hm : u ∈ l
        · rw [if_pos hm]
          refine ⟨⟨?_, World.ownsRow_nil _ _ _ _⟩, HB1.out.setCell (p := ⟨V.heap.size, 0, none⟩) (Nat.le_refl _) _⟩
          rw [if_pos hm]
          exact HCl.out.set 0 (.int .i64 1) (by simp)
        · rw [if_neg hm]
          refine ⟨⟨?_, World.ownsRow_nil _ _ _ _⟩, HB1.out⟩
          rw [if_neg hm]
          exact HCl.out
      obtain ⟨W2, hW2, hS2, hB2⟩ := h2
      have HS2 := Lib.hid hS2
      have HB2 := Lib.hid hB2
      clear hS2 hB2 HCl HB1
      by_cases hm : u ∈ l
      case' pos =>
        rw [decide_eq_true hm]
        rw [if_pos hm] at hW2
        subst hW2
        go_wp2_with fail
        clear z0 f0 hm
        generalize W1.setCell ⟨V.heap.size, 0, none⟩ (.int .i64 1) = W2 at *
      case' neg =>
        rw [decide_eq_false hm]
        rw [if_neg hm] at hW2
        subst hW2
        go_wp2_with fail
        clear z0 f0 hm
      all_goals (
        go_loopw [8, 9, 10, 11] (fun c _ _ _ wi => ∃ (k : Nat) (v : Value), k ≤ 26 ∧ c = .int .u8 (97 + (k : Int)) ∧ Hid (Stt l u k V.heap.size v wi) ∧ Hid (RowKit.Below V.heap.size V wi)) (fun c _ _ _ _ => (123 - RowKit.intOf c).toNat)
        case atStart => exact ⟨0, _, by omega, rfl, HS2, HB2⟩
        case round =>
          clear HS2 HB2
          obtain ⟨k, v, hk, rfl, HSt, HBi⟩ := hrel
          obtain ⟨Y, rfl⟩ : ∃ Y, Y = wr := ⟨_, rfl⟩
          have HBw := Lib.hid (HBl.out.trans (HBi.out.mono HBl.out.size))
          by_cases hk26 : k < 26
          · have hle : (97 : Int) + (k : Int) ≤ 122 := by omega
            have kU : IntKind.u8.wrap (97 + (k : Int) + 1) = 97 + (k : Int) + 1 := IntWalk.u8_in _ (by omega)
            have hol := X.outsTo_len l u k
            have c1 := cell_on HBi.out HC1.out
            have HSk := Lib.hid (fun he => HSt.out.skip hk26 he)
            have HOt := Lib.hid (fun he => X.outsTo_take (l := l) (w := u) hk26 he)
            have HNt := Lib.hid (fun he => X.nextTo_take (l := l) (w := u) hk26 he)
            obtain ⟨c, hc⟩ : ∃ c, UInt8.ofNat (97 + k) = c := ⟨_, rfl⟩
            rw [hc] at HSk HOt HNt
            have HCc := Lib.hid hc
            clear hc
            have hadd : (ByteArray.mk u.toArray) ++ (ByteArray.mk #[c]) = ⟨(u ++ [c]).toArray⟩ := ByteArray.mk_append_mk u [c]
            have hsz : ¬ 9223372036854775807 < u.length + 1 := by omega
            have hj0 : (0 : Int) ≤ (j : Int) := by omega
            go_wp2_with fail
            refine wp_region_grows [37, 38, 39, 40, 41, 42, 43, 44, 9] [KEq (.slice (some ⟨b1, off1, none⟩) (X.tops l).length c3), KEq (.int .i64 (j : Int)), KEq (.pointer (some ⟨b1, off1 + j, none⟩)), KEq (sv u), KEq (.int .u8 (97 + (k : Int))), KBy (97 + (k : Int)), KEq (.string ⟨#[c]⟩), KEq (sv (u ++ [c])), KEq (sv (u ++ [c]))] (by kernel_rfl) (by kernel_rfl) (by kernel_rfl) rfl
              ⟨KEq.st _, KEq.st _, KEq.st _, KEq.st _, KEq.st _, KBy.st _, KEq.st _, KEq.st _, KEq.st _, trivial⟩
              ⟨step_moveOut (q := 4) (by decide) rfl rfl, step_moveOut (q := 6) (by decide) rfl rfl, step_by2 (j1 := 0) (j2 := 1) (q1 := 37) (q2 := 38) rfl (by decide +kernel) rfl rfl (by decide +kernel) rfl rfl (fun a' w' e1 e2 hb => by simp [execOp, go_sem, e1, e2, hltI, hj0]),
                step_by1 (j := 2) (q := 39) rfl (by decide +kernel) rfl rfl (fun a' w' e hb => by have y := cell_on hb c1; simp [execOp, go_sem, e, y]), step_moveOut (q := 8) (by decide) rfl rfl, step_byte (j := 4) rfl (by decide +kernel) rfl rfl, step_text (j := 5) HCc.out rfl (by decide +kernel) rfl rfl,
                step_by2 (j1 := 3) (j2 := 6) (q1 := 40) (q2 := 43) rfl (by decide +kernel) rfl rfl (by decide +kernel) rfl rfl (fun a' w' e1 e2 hb => by simp [execOp, go_sem, e1, e2, hadd, hsz]), step_by1 (j := 7) (q := 44) rfl (by decide +kernel) rfl rfl (fun a' w' e hb => by simp [execOp, go_sem, e]), trivial⟩ ?_
            rintro w3 hb3 _ rfl _ rfl _ rfl _ rfl _ rfl _ ⟨g3, rfl, -⟩ _ rfl _ rfl _ rfl
            simp only [EndsG]
            go_simp
            have hW3 := HBw.out.trans (hb3.mono HBw.out.size)
            have HEn := endings_far a cap l (u ++ [c]) w3 hl HR.out (by simp; omega) (HS.out.below hW3)
            have hd3 : V.heap.size < w3.heap.size := by have := (HSt.out.below hb3).cel.lt; exact this
            have HV3 := Lib.hid (fun g e => (((HSt.out.below hb3).row.lt g e).2 : g < w3.heap.size))
            have HSk3 := Lib.hid (fun he => (HSk.out he).below hb3)
            have HSt3 := Lib.hid (HSt.out.below hb3)
            have HB3 := Lib.hid (HBi.out.trans (hb3.mono HBi.out.size))
            clear hb3 hW3 c1 hadd hsz hle HSk
            by_cases he : X.ends l (u ++ [c]) = []
            · rw [he] at HEn
              have HEn := Lib.hid HEn
              have HSk4 := Lib.hid (HSk3.out he)
              clear he HSk3
              go_wp2_with fail
              refine HEn.out.mono ?_
              intro e w4 hG
              obtain ⟨aE, cE, rfl, -, -, hb4⟩ := hG
              have HS4 := Lib.hid (HSk4.out.below hb4)
              have HB4 := Lib.hid (HB3.out.trans (hb4.mono HB3.out.size))
              clear hb4
              go_wp2_with fail
              go_roundw
              case rel => exact ⟨k + 1, v, by omega, by simp; omega, HS4, HB4⟩
              case measure => simp [RowKit.intOf]; omega
            · obtain ⟨hx, hiff⟩ := HIx.out _ he
              have HN1 := Lib.hid (HNt.out he)
              have HO1 := Lib.hid (HOt.out he)
              clear HNt HOt
              have HIff := Lib.hid hiff
              have hE0 : (X.ends l (u ++ [c])).length ≠ 0 := fun e => he (List.eq_nil_of_length_eq_zero e)
              have hEl := ends_len_le l (u ++ [c])
              generalize X.idx l (X.ends l (u ++ [c])) = x at *
              generalize X.ends l (u ++ [c]) = E at *
              have hEB : ((E.length : Int) == 0) = false := by simpa using hE0
              have HEn := Lib.hid HEn
              have HEz := Lib.hid hE0
              clear he HSk3 hiff hE0
              go_wp2_with fail
              refine HEn.out.mono ?_
              intro e w4 hG
              obtain ⟨aE, cE, rfl, hsE, hfE, hb4⟩ := hG
              have hb5 := hb4.trans ((Below.new w4 (.cells #[.int .u8 (97 + (k : Int))] 5)).mono hb4.size)
              have hS5 := HSt3.out.below hb5
              have z1 := (HSt3.out.below hb4).cel.cel 1 _ rfl
              have z1b := hS5.cel.cel 1 _ rfl
              have f1 := hS5.cel.fr 1
              have hcv := conv_k w4.heap.size k c HCc.out (w4.alloc (.cells #[.int .u8 (97 + (k : Int))] 5)) (cell_new1 _ _ _)
              have hadd2 : (ByteArray.mk (X.outsTo l u k).toArray) ++ (ByteArray.mk #[c]) = ⟨(X.outsTo l u k ++ [c]).toArray⟩ := ByteArray.mk_append_mk _ [c]
              have hsz2 : ¬ 9223372036854775807 < (X.outsTo l u k).length + 1 := by omega
              have HS4 := Lib.hid (HSt3.out.below hb4)
              have HSE := Lib.hid hsE
              have HFE := Lib.hid hfE
              have HB4 := Lib.hid (HB3.out.trans (hb4.mono HB3.out.size))
              have hs34 := hb4.size
              clear hb4 hb5 hS5 hsE hfE HEn
              go_wp2_with fail
              generalize hv5 : (w4.alloc (.cells #[.int .u8 (97 + (k : Int))] 5)).setCell ⟨V.heap.size, 1, none⟩ (.string ⟨(X.outsTo l u k ++ [c]).toArray⟩) = w5
              have hQ5 : Stq l u k V.heap.size x 0 v w5 := by
                rw [← hv5]
                refine ⟨?_, ?_⟩
                · rw [HO1.out]; exact (HS4.out.cel.on (Below.new _ _)).set 1 _ (by simp)
                · rw [X.upTo_zero]; exact owns_setOther (owns_below HS4.out.row (Below.new _ _)) _ _ _ (fun e => by have := (HS4.out.row.lt _ e).1; omega)
              have hE5 : Strs w5 aE E := by
                rw [← hv5]
                exact (HSE.out.alloc _).setAside V.heap.size 1 _ (fun b off e => by have := HFE.out b off e; omega)
              have hF5 : Off w5 v aE := fun b off e => ⟨fun e2 => by have := HV3.out b e2; have := HFE.out b off e; omega, by
                subst e
                obtain ⟨b', off', e', hc'⟩ := hE5 0 (by have := HEz.out; omega)
                cases e'
                exact World.block_lt_of_cell? _ _ hc'⟩
              have hB5 : RowKit.Below V.heap.size V w5 := by rw [← hv5]; exact (HB4.out.alloc HB4.out.size _).setCell (p := ⟨V.heap.size, 1, none⟩) (Nat.le_refl _) _
              have HQ5 := Lib.hid hQ5
              have HE5 := Lib.hid hE5
              have HF5 := Lib.hid hF5
              have HB5 := Lib.hid hB5
              clear hv5 hQ5 hE5 hF5 hB5 HS4 HSE HB4 z1 z1b f1 hcv hadd2 hsz2 hs34 HSt3 HB3 HV3
              go_loopw [11] (fun i wi => ∃ (t : Nat) (v2 : Value), t ≤ (X.tops l).length ∧ i = .int .i64 (t : Int) ∧ Hid (Stq l u k V.heap.size x t v2 wi) ∧ Hid (Strs wi aE E) ∧ Hid (Off wi v2 aE) ∧ Hid (RowKit.Below V.heap.size V wi)) (fun i _ => (X.tops l).length - (RowKit.intOf i).toNat)
              case atStart => exact ⟨0, v, by omega, rfl, HQ5, HE5, HF5, HB5⟩
              case round =>
                clear HQ5 HE5 HF5 HB5
                obtain ⟨t, v2, ht, rfl, HQt, HEt, HFt, HBt⟩ := hrel
                by_cases htl : t < (X.tops l).length
                · have htI : (t : Int) < ((X.tops l).length : Int) := by omega
                  have hWt := HBl.out.trans (HBt.out.mono HBl.out.size)
                  have ct := (HT.out.below hWt).cellAt t htl
                  have hul2 := HFit.out.2.2 _ (HTl.out t htl)
                  have hIt := HIff.out t htl
                  have HEn2 := Lib.hid (endings_any a cap l (wat (X.tops l) t) wr hl HR.out (by omega) (HS.out.below hWt))
                  have hEl2 := ends_len_le l (wat (X.tops l) t)
                  generalize wat (X.tops l) t = y at *
                  have hnl : (X.upTo (X.nextTo l u k) x t).length + 1 ≤ 2000000 := by have := X.upTo_len (X.nextTo l u k) x t; rw [X.nextTo_len] at this; omega
                  clear hWt
                  by_cases htx : t = x
                  · have hd := decide_eq_true (hIt.2 htx)
                    have HD := Lib.hid hd
                    have HU : Hid (X.upTo (X.nextTo l u k) x (t + 1) = X.upTo (X.nextTo l u k) x t ++ [(t : Int)]) := Lib.hid (by rw [htx]; exact X.upTo_hit _ _)
                    clear hIt hd htx
                    go_wp2_with fail
                    refine HEn2.out.mono ?_
                    intro e w6 hG
                    obtain ⟨aF, cF, rfl, hsF, -, hb6⟩ := hG
                    have HSm := Lib.hid (same_any aF cF (X.ends l y) aE cE E w6 (by omega) hsF (HEt.out.below hb6))
                    rw [HD.out] at HSm
                    have HQ6 := Lib.hid (HQt.out.below hb6)
                    have HE6 := Lib.hid (HEt.out.below hb6)
                    have HF6 := Lib.hid (HFt.out.below hb6.size)
                    have HB6 := Lib.hid (HBt.out.trans (hb6.mono HBt.out.size))
                    clear hb6 hsF ct
                    go_wp2_with fail
                    refine HSm.out.mono ?_
                    rintro e w7 ⟨rfl, hd7⟩
                    have hb7 := hd7.below w6.heap.size
                    have hQ7 := HQ6.out.below hb7
                    have hE7 := HE6.out.below hb7
                    have hF7 := HF6.out.below hb7.size
                    have hB7 := HB6.out.trans (hb7.mono HB6.out.size)
                    clear hb7 hd7
                    have hown := hQ7.row
                    have O7 := Lib.hid (owns_below hown (Below.new w7 (.cells #[.int .i64 (t : Int)] 3)))
                    have C7 := Lib.hid (hQ7.cel.on (Below.new w7 (.cells #[.int .i64 (t : Int)] 3)))
                    have B7 := Lib.hid (hB7.alloc hB7.size (.cells #[.int .i64 (t : Int)] 3))
                    have E7 := Lib.hid (hE7.alloc (.cells #[.int .i64 (t : Int)] 3))
                    have F7 := Lib.hid (hF7.below (w' := w7.alloc (.cells #[.int .i64 (t : Int)] 3)) (by simp))
                    have z2 := hQ7.cel.cel 2 _ rfl
                    have hnews := Lib.hid (news_new w7 #[.int .i64 (t : Int)] 3)
                    have hbs : V.heap.size + 1 ≤ (w7.alloc (.cells #[.int .i64 (t : Int)] 3)).heap.size := by have := hQ7.cel.lt; simp; omega
                    have hvb : some V.heap.size ≠ v2.ownBlock := fun e => by have := (hown.lt _ e.symm).1; omega
                    have HVb := Lib.hid hvb
                    clear hown hQ7 hE7 hF7 hB7 hvb HQ6 HE6 HF6 HB6
                    go_wp2_with (at_builtin; refine listApp T56 rfl (.tmp 73) (.tmp 75) rfl (V.heap.size + 1) v2 _ _ [.int .i64 (t : Int)] 1 1 ⟨w7.heap.size, 0, none⟩ rfl O7.out rfl rfl hnews.out (by simp [Value.oneCell']) hnl hbs ?_; intro v8 w8 hown8 hg8 hL8; have C8 := Lib.hid (C7.out.grown hg8 HVb.out); have B8 := Lib.hid (B7.out.grown hg8 B7.out.size (fun g e => by have := (O7.out.lt g e).1; omega)); have E8 := Lib.hid (E7.out.grown hg8 F7.out); have F8 := Lib.hid (F7.out.app hg8 hL8); have O8 := Lib.hid (show w8.ownsRow (V.heap.size + 1) 3 1 v8 (X.upTo (X.nextTo l u k) x (t + 1)).length ((X.upTo (X.nextTo l u k) x (t + 1)).map (.int .i64)) by rw [HU.out, List.length_append, List.map_append]; exact hown8); clear hown8 hg8 hL8; obtain ⟨-, a8, c8, rfl, -, -⟩ := Ints.of_ownsRow O8.out; have y2 := C8.out.cel 2 _ rfl; have f2 := C8.out.fr 2)
                    go_roundw
                    case rel =>
                      refine ⟨t + 1, _, by omega, by go_num, Lib.hid ⟨C8.out.set 2 _ (by simp), owns_setOther O8.out _ _ _ (fun e => by have := (O8.out.lt _ e).1; omega)⟩, Lib.hid (E8.out.setAside V.heap.size 2 _ (fun b off e => by have := HFE.out b off e; omega)), Lib.hid (F8.out.below (by simp [World.setCell])), Lib.hid (B8.out.setCell (p := ⟨V.heap.size, 2, none⟩) (Nat.le_refl _) _)⟩
                    case measure => simp [RowKit.intOf]; omega
                  · have hd := decide_eq_false (fun e => htx (hIt.1 e))
                    have HD := Lib.hid hd
                    have HU : Hid (X.upTo (X.nextTo l u k) x (t + 1) = X.upTo (X.nextTo l u k) x t) := Lib.hid (X.upTo_miss _ htx)
                    clear hIt hd htx
                    go_wp2_with fail
                    refine HEn2.out.mono ?_
                    intro e w6 hG
                    obtain ⟨aF, cF, rfl, hsF, -, hb6⟩ := hG
                    have HSm := Lib.hid (same_any aF cF (X.ends l y) aE cE E w6 (by omega) hsF (HEt.out.below hb6))
                    rw [HD.out] at HSm
                    have HQ6 := Lib.hid (HQt.out.below hb6)
                    have HE6 := Lib.hid (HEt.out.below hb6)
                    have HF6 := Lib.hid (HFt.out.below hb6.size)
                    have HB6 := Lib.hid (HBt.out.trans (hb6.mono HBt.out.size))
                    clear hb6 hsF ct
                    go_wp2_with fail
                    refine HSm.out.mono ?_
                    rintro e w7 ⟨rfl, hd7⟩
                    have hb7 := hd7.below w6.heap.size
                    have hQ7 := HQ6.out.below hb7
                    have HQ7 : Hid (Stq l u k V.heap.size x (t + 1) v2 w7) := Lib.hid ⟨hQ7.cel, by rw [HU.out]; exact hQ7.row⟩
                    have HE7 := Lib.hid (HE6.out.below hb7)
                    have HF7 := Lib.hid (HF6.out.below hb7.size)
                    have HB7 := Lib.hid (HB6.out.trans (hb7.mono HB6.out.size))
                    clear hb7 hd7 hQ7
                    go_wp2_with fail
                    go_roundw
                    case rel => exact ⟨t + 1, v2, by omega, by go_num, HQ7, HE7, HF7, HB7⟩
                    case measure => simp [RowKit.intOf]; omega
                · have ht2 : t = (X.tops l).length := by omega
                  subst ht2
                  have HSn : Hid (Stt l u (k + 1) V.heap.size v2 wr) := Lib.hid ⟨HQt.out.cel, by
                    have := HQt.out.row
                    rw [X.upTo_all _ hx] at this
                    rw [HN1.out]; exact this⟩
                  go_wp2_with fail
                  go_roundw
                  case rel => exact ⟨k + 1, v2, by omega, by simp; omega, HSn, HBt⟩
                  case measure => simp [RowKit.intOf]; omega
          · have hk : k = 26 := by omega
            subst hk
            have hle : ¬ ((97 : Int) + ((26 : Nat) : Int) ≤ 122) := by omega
            obtain ⟨-, a5, c5, rfl, hi5, -⟩ := Ints.of_ownsRow (k := .i64) HSt.out.row
            have z0 := HSt.out.cel.cel 0 _ rfl
            have z1 := HSt.out.cel.cel 1 _ rfl
            have z2 := HSt.out.cel.cel 2 _ rfl
            have hqn : q.length = j := by
              have := congrArg List.length HQ.out
              rw [List.length_map, List.length_map, List.length_take] at this; omega
            have hOo := HO.out.below HBi.out
            have hf5 : Off Y u5 a5 := Off.behind V.heap.size (fun g e => (HO.out.row.lt g e).2) (fun b off e => by
              subst e
              have := HSt.out.row.lt b rfl
              omega)
            obtain ⟨p, hp⟩ : ∃ p : Q3, p = (⟨if u ∈ l then 1 else 0, X.outsTo l u 26, X.nextTo l u 26⟩, a5, c5) := ⟨_, rfl⟩
            have HQ1 : Hid ((q ++ [p]).map (·.1) = ((X.tops l).take (j + 1)).map (X.state l)) := Lib.hid (by rw [HBj.out, List.map_append, HQ.out, hp, X.state_all]; rfl)
            have hpc : [.int .i64 (if u ∈ l then 1 else 0), sv (X.outsTo l u 26), .slice a5 (X.nextTo l u 26).length c5] = cellsQ p := by rw [hp]
            have hOa := hOo.below (Below.new Y (.cells #[.int .i64 (if u ∈ l then 1 else 0), sv (X.outsTo l u 26), .slice a5 (X.nextTo l u 26).length c5] 58))
            have hfa := hf5.below (w' := Y.alloc (.cells #[.int .i64 (if u ∈ l then 1 else 0), sv (X.outsTo l u 26), .slice a5 (X.nextTo l u 26).length c5] 58)) (by simp)
            have hia := hi5.alloc (.cells #[.int .i64 (if u ∈ l then 1 else 0), sv (X.outsTo l u 26), .slice a5 (X.nextTo l u 26).length c5] 58)
            have hnews : ∀ jj uu, (cellsQ p)[jj]? = some uu → (Y.alloc (.cells #[.int .i64 (if u ∈ l then 1 else 0), sv (X.outsTo l u 26), .slice a5 (X.nextTo l u 26).length c5] 58)).cell? ((⟨Y.heap.size, 0, none⟩ : Addr).add jj) = some uu := by
              rw [← hpc]; exact news_new Y #[.int .i64 (if u ∈ l then 1 else 0), sv (X.outsTo l u 26), .slice a5 (X.nextTo l u 26).length c5] 58
            have h1c : ∀ uu ∈ cellsQ p, uu.oneCell' = true := by rw [← hpc]; simp [Value.oneCell']
            have hbs : W0.heap.size ≤ (Y.alloc (.cells #[.int .i64 (if u ∈ l then 1 else 0), sv (X.outsTo l u 26), .slice a5 (X.nextTo l u 26).length c5] 58)).heap.size := by have := HBw.out.size; simp; omega
            have hia' : Ints .i64 (Y.alloc (.cells #[.int .i64 (if u ∈ l then 1 else 0), sv (X.outsTo l u 26), .slice a5 (X.nextTo l u 26).length c5] 58)) p.2.1 p.1.next := by rw [hp]; exact hia
            have hfa' : Off (Y.alloc (.cells #[.int .i64 (if u ∈ l then 1 else 0), sv (X.outsTo l u 26), .slice a5 (X.nextTo l u 26).length c5] 58)) u5 p.2.1 := by rw [hp]; exact hfa
            have HOa := Lib.hid hOa
            have HIa := Lib.hid hia'
            have HFa := Lib.hid hfa'
            have HNe := Lib.hid hnews
            have H1c := Lib.hid h1c
            have HBa := Lib.hid (HBw.out.alloc HBw.out.size (.cells #[.int .i64 (if u ∈ l then 1 else 0), sv (X.outsTo l u 26), .slice a5 (X.nextTo l u 26).length c5] 58))
            have hqn1 : q.length + 1 ≤ 2000000 := by omega
            clear hOo hf5 hi5 hp hpc hOa hfa hia hnews h1c hia' hfa'
            go_wp2_with (at_builtin; refine listApp T25 rfl (.tmp 78) (.tmp 80) rfl W0.heap.size u5 q.length (rowOf q) (cellsQ p) 1 1 ⟨Y.heap.size, 0, none⟩ rfl HOa.out.row rfl (by simp [cellsQ]) HNe.out H1c.out hqn1 hbs ?_; intro o8 w8 hown8 hg8 hL8)
            go_roundw
            case rel => exact ⟨j + 1, q ++ [p], by omega, by go_num, HQ1, Lib.hid (HOa.out.app hown8 hg8 hL8 HIa.out HFa.out), Lib.hid (HBa.out.grown hg8 hbs (fun g e => (HOa.out.row.lt g e).1))⟩
            case measure => simp [RowKit.intOf]; omega)
    · have hj2 : j = (X.tops l).length := by omega
      subst hj2
      have hq := HQ.out
      rw [HAll.out] at hq
      obtain ⟨a6, c6, rfl, hs6, hc6⟩ := HO.out.sts
      have hqn : q.length = (X.build l).length := by rw [← hq, List.length_map]
      rw [hq] at hs6
      rw [hqn] at hc6
      have HS6 := Lib.hid hs6
      have HBe := Lib.hid (HB0.out.trans (HBl.out.mono HB0.out.size))
      rw [hqn]
      clear hq hs6
      go_wp2_with fail
      go_ret2
      rw [HE.out]
      exact ⟨a6, c6, rfl, HS6.out, hc6, HBe.out⟩
end Go.Proofs.YtcjbnifafofpbaaGreatDoor
/- The law for regions that grow and end in a row, once more, for longer chains of waits. -/
namespace Go.Proofs.YtcjbnifafofpbaaGreatDoor
open Go Go.RowKit
section
variable {P : Program} {Q : Exit → Act → World → Prop}
def rowBx (F : Nat) (L : List Oper) (n : Nat) : Bool :=
  (List.range (L.length - n)).all fun i => match L[n + i]? with
    | some o => o.guard.isNone && (List.range (n + i)).all (fun j => clB L F (n + i) j) && o.after.all (fun e => !Region.binds .any e || decide (e.on < n + i))
    | none => false
theorem rowBx_at {F : Nat} {L : List Oper} {n : Nat} (h : rowBx F L n = true) {i : Nat} {o : Oper} (hi : n ≤ i) (ho : L[i]? = some o) : o.guard = none ∧ (∀ j, j < i → clB L F i j = true) ∧ (∀ e ∈ o.after, Region.binds .any e = true → e.on < i) := by
  unfold rowBx at h
  have hil := (List.getElem?_eq_some_iff.1 ho).1
  have := List.all_eq_true.1 h (i - n) (List.mem_range.2 (by omega))
  rw [show n + (i - n) = i by omega, ho] at this
  simp only [Bool.and_eq_true, Option.isNone_iff_eq_none] at this
  obtain ⟨⟨hg, h1⟩, h2⟩ := this
  refine ⟨hg, fun j hj => ?_, fun e he hb => ?_⟩
  · have := List.all_eq_true.1 h1 j (List.mem_range.2 hj)
    exact this
  · have := Array.all_eq_true_iff_forall_mem.1 h2 e he
    rw [hb] at this; simpa using this
theorem wp_region_growrowx {F : Nat} {id : Nat} {a : Act} {w : World} {L : List Oper} (n : Nat) (ks : List Nat) (R : List Known) (hm : P.follows .mixedOrders = true) (hG : growB (L.take n) ks = true) (hn0 : decide (n < L.length) = true) (hT : rowBx F L n = true) (hsz : ks.all (fun k => decide (k < a.tmps.size)) = true) (hl : R.length = ks.length) (hst : StableAll R)
    (hstep : StepsG P Q R ks a w (L.take n) 0)
    (hend : ∀ w', Below w.heap.size w w' → EndsG w' (fun a' => RowWp P Q (L.drop n) a' w') ks R a) : (Code.region id L.toArray true).wp P Q a w := by
  have hn := of_decide_eq_true hn0
  obtain ⟨h1, h2, h3, h4⟩ := growB_spec hG
  have hnk : ks.length = n := by rw [← h1, List.length_take]; omega
  have hsz' : ∀ k ∈ ks, k < a.tmps.size := fun k hk => by have := List.all_eq_true.1 hsz k hk; simpa using this
  have htk : ∀ i, i < n → (L.take n)[i]? = L[i]? := fun i hi => by rw [List.getElem?_take, if_pos hi]
  refine wp_region_any hm ?_
  refine wpAny_inv (fun B a' w' => (∀ i o, L[i]? = some o → B i = true → ∀ e ∈ o.after, Region.binds .any e = true → B e.on = true) ∧ ∃ m, (∀ j, n ≤ j → j < L.length → (B j = true ↔ j < n + m)) ∧ (m = 0 → Agr ks a a' ∧ Below w.heap.size w w' ∧ ∀ i, B i = true → i < n → Rat R i (a'.eval (.tmp (ks.getD i 0))) w') ∧ (0 < m → (∀ i, i < n → B i = true) ∧ RowWp P Q (L.drop (n + m)) a' w')) ?_ ?_ ?_ _ _ _ _ (by simp) ?_ ⟨?_, 0, ?_, ?_, ?_⟩
  · intro i o ho
    have ho2 : L[i]? = some o := by simpa using ho
    by_cases hi : i < n
    · exact h3 o (List.mem_of_getElem? (i := i) (by rw [htk i hi]; exact ho2))
    · exact (rowBx_at hT (by omega) ho2).1
  · rintro i o B a' w' ho hBi hd ⟨hC, m, hB, hI, hQ⟩
    have ho2 : L[i]? = some o := by simpa using ho
    have hil := (List.getElem?_eq_some_iff.1 ho2).1
    have hC2 : ∀ i' o', L[i']? = some o' → updB B i i' = true → ∀ e ∈ o'.after, Region.binds .any e = true → updB B i e.on = true := by
      intro i' o' ho' hB' e he hb
      have up : B e.on = true → updB B i e.on = true := fun h => by unfold updB; rw [h, ite_self]
      by_cases hii : i' = i
      · subst hii
        rw [ho2] at ho'; cases ho'
        exact up (hd e he hb)
      · unfold updB at hB'; rw [if_neg hii] at hB'
        exact up (hC i' o' ho' hB' e he hb)
    by_cases hi : i < n
    · have hm0 : m = 0 := by
        cases m with
        | zero => rfl
        | succ m => have := (hQ (by omega)).1 i hi; rw [hBi] at this; cases this
      subst hm0
      obtain ⟨hA, hb, hR⟩ := hI rfl
      have ho3 : (L.take n)[i]? = some o := by rw [htk i hi]; exact ho2
      obtain ⟨hj, hdst, hlow⟩ := h4 i o ho3
      have hS := StepsG.at hstep i o ho3
      rw [Nat.zero_add] at hS
      refine hS a' w' hA hb (fun j hj' => ?_) _ (fun v w'' hb2 hv => ?_)
      · obtain ⟨e, he, rfl⟩ := List.mem_map.1 hj'
        rw [List.mem_filter] at he
        exact hR e.on (hd e (by simpa using he.1) he.2) (by have := hlow e (by simpa using he.1) he.2; omega)
      · rw [hdst]
        refine ⟨hC2, 0, fun j hj1 hj2 => ?_, fun _ => ⟨hA.put (List.getElem_mem hj) v, hb.trans (hb2.mono hb.size), fun j hBj hjl => ?_⟩, fun h => absurd h (by omega)⟩
        · unfold updB; rw [if_neg (by omega)]; exact hB j hj1 hj2
        · by_cases e : j = i
          · subst e
            have : ks.getD j 0 = ks[j] := by simp [hj]
            rw [this, eval_put_same a' v (by rw [hA.size]; exact hsz' _ (List.getElem_mem hj))]
            exact hv
          · have hjk : j < ks.length := by omega
            have hne : ks.getD j 0 ≠ ks[i] := by
              have : ks.getD j 0 = ks[j] := by simp [hjk]
              rw [this]
              exact fun e2 => e (nodup_inj h2 hjk hj e2)
            rw [eval_put_ne a' v hne]
            have hBj' : B j = true := by unfold updB at hBj; rwa [if_neg e] at hBj
            exact hst.at j _ _ _ (hR j hBj' hjl) hb2
    · obtain ⟨hg0, hall0, hlow0⟩ := rowBx_at hT (by omega) ho2
      have hall : ∀ j, j < i → B j = true := fun j hj => clB_spec hC F i j (hall0 j hj) (fun o' ho' => by rw [ho2] at ho'; cases ho'; exact hd)
      have him : i = n + m := by
        have h6 : ¬ i < n + m := fun h => by have := (hB i (by omega) hil).2 h; rw [hBi] at this; cases this
        by_cases h7 : n + m < i
        · have := (hB (n + m) (by omega) (by omega)).1 (hall _ h7)
          omega
        · omega
      subst him
      have hRow : RowWp P Q (L.drop (n + m)) a' w' := by
        by_cases hm0 : m = 0
        · subst hm0
          obtain ⟨hA, hb, hR⟩ := hI rfl
          have hX := (hend w' hb).all (vs := ks.map fun k => a'.eval (.tmp k)) (by simp) hl (fun j hj => by
            have hjn : j < n := by omega
            have := hR j (hall j (by omega)) hjn
            have e1 : ks.getD j 0 = ks[j] := by simp [hj]
            have e2 : (ks.map fun k => a'.eval (.tmp k)).getD j undef = a'.eval (.tmp ks[j]) := by simp [hj]
            rw [e2, ← e1]; exact this)
          rw [← hA.back h2 hsz'] at hX
          exact hX
        · exact (hQ (by omega)).2
      have hdrop : L.drop (n + m) = o :: L.drop (n + m + 1) := by
        have : L[n + m]'hil = o := by rw [List.getElem?_eq_getElem hil] at ho2; exact Option.some.inj ho2
        rw [← this]; exact List.drop_eq_getElem_cons hil
      rw [hdrop] at hRow
      refine Oper.wp_mono (fun a'' w'' hq => ?_) hRow
      refine ⟨hC2, m + 1, fun j hj1 hj2 => ?_, fun h => absurd h (by omega), fun _ => ⟨fun j hj => ?_, hq⟩⟩
      · unfold updB
        by_cases e : j = n + m
        · rw [if_pos e]; simp; omega
        · rw [if_neg e, hB j hj1 hj2]; omega
      · unfold updB; rw [if_neg (by omega)]; exact hall j (by omega)
  · rintro listed a' w' hs hr ⟨-, m, hB, -, hQ⟩
    have hall := all_listed2 (L := L) (fun j o ho e he hb => ?_) (by simpa using hs) hr
    · have hlast := (hB (L.length - 1) (by omega) (by omega)).1 (hall _ (by omega))
      have := (hQ (by omega)).2
      rw [List.drop_eq_nil_of_le (by omega)] at this
      exact this
    · by_cases hj : j < n
      · obtain ⟨_, _, hlow⟩ := h4 j o (by rw [htk j hj]; exact ho)
        exact hlow e he hb
      · exact (rowBx_at hT (by omega) ho).2.2 e he hb
  · rw [Array.toList_replicate]
    exact Nat.le_trans List.countP_le_length (by simp)
  · intro i o _ h
    simp only [Array.getD_eq_getD_getElem?, Array.getElem?_replicate] at h
    split at h <;> simp at h
  · intro j hj hjl
    simp [hjl]; omega
  · intro _
    refine ⟨Agr.refl _ _, (Below.refl _ w).drew, fun i hi => ?_⟩
    simp only [Array.getD_eq_getD_getElem?, Array.getElem?_replicate] at hi
    split at hi <;> simp at hi
  · intro h; exact absurd h (by omega)
end
end Go.Proofs.YtcjbnifafofpbaaGreatDoor
/- Walk of the reference's read. -/
namespace Go.Proofs.YtcjbnifafofpbaaGreatDoor
open Go.RowKit
set_option maxRecDepth 20000 in
set_option maxHeartbeats 4000000 in
theorem read_any (s : List X.St) (hA : X.Auto s) (hfew : Few s) (mm : List Int) (cap : Nat) (a1 : Option Addr) (cap1 : Nat) (hm : mm.length = s.length) (hmm : ∀ i, i < s.length → (nth mm i = 0 ↔ X.reads s i = [])) (a : Option Addr) :
    ∀ (d i : Nat), s.length - i ≤ d → i < s.length → ∀ (begun : X.W) (w : World), begun.length ≤ i → (X.reads s i).length ≤ 1000 → Sts w a s → Ints .i64 w a1 mm →
      Calls Tryz.prog 67 #[.slice a s.length cap, .slice a1 mm.length cap1, .int .i64 (i : Int), sv begun] w fun e w' => OutS w w' e ((X.reads s i).map (begun ++ ·)) := by
  intro d
  induction d with
  | zero => intro i hd hi; omega
  | succ d ih0 =>
    intro i hd hi begun w hbl hrl0 hst hmi
    have hn2 := hA.n2
    have ih := fun (n : Nat) (h1 : i < n) (h2 : n < s.length) => ih0 n (by omega) h2
    clear ih0
    have HIh := Lib.hid ih
    have HAu := Lib.hid hA
    clear ih
    obtain ⟨b, off, rfl, c1, c2, a2, cap2, c3, hi3⟩ := hst i hi
    obtain ⟨b4, off4, rfl, c4⟩ := hmi i (by omega)
    have hz := hmm i hi
    have HC1 := Lib.hid c1
    have HC2 := Lib.hid c2
    have HC3 := Lib.hid c3
    have HNi := Lib.hid hi3
    have HSt := Lib.hid hst
    have HMm := Lib.hid hmi
    have hiI : (i : Int) < (s.length : Int) := by omega
    have hi0 : (0 : Int) ≤ (i : Int) := by omega
    have hiM : (i : Int) < (mm.length : Int) := by omega
    have HAll := Lib.hid (readsTo_all hA hi begun)
    have HLen := Lib.hid (fun k => readsTo_len hA hi (k := k) begun)
    have HSucc := Lib.hid (fun k h1 h2 => readsTo_succ s i (k := k) begun h1 h2)
    have heq := hA.eq _ (X.at_mem hi)
    have hNl := (hfew _ (X.at_mem hi)).2
    have HNx : Hid (∀ k, k < (X.at_ s i).next.length → (i : Int) < nth (X.at_ s i).next k ∧ nth (X.at_ s i).next k < s.length) := Lib.hid (fun k hk => by
      rw [nth_eq _ k hk]; exact hA.nx i hi _ (List.getElem_mem hk))
    have HR0 : Hid (readsTo s i 0 begun = if (X.at_ s i).ends = 1 then [begun] else []) := Lib.hid (by unfold readsTo; simp)
    have hen := hA.en _ (X.at_mem hi)
    clear hst hmi hi3 hmm hA hm
    by_cases h0 : X.reads s i = []
    · have hm0 : nth mm i = 0 := hz.2 h0
      rw [hm0] at c4
      rw [h0]
      go_enter Tryz.func67, Tryz.ntmps67
      go_wp2
      go_ret
      exact ⟨none, 0, rfl, Strs.nil _ _, by simp, Below.refl _ _⟩
    · have hm0 : (nth mm i == 0) = false := beq_eq_false_iff_ne.2 (fun e => h0 (hz.1 e))
      clear h0 hz
      generalize nth mm i = mv at *
      generalize (X.at_ s i).letters = A at *
      generalize (X.at_ s i).next = N at *
      rcases hen with hen | hen
      case' inl =>
        rw [hen] at c1 HR0
        go_enter Tryz.func67, Tryz.ntmps67
        have HO0 : Hid (w.ownsRow w.heap.size 9 1 (.slice none 0 0) (readsTo s i 0 begun).length ((readsTo s i 0 begun).map sv)) := Lib.hid (by rw [HR0.out]; exact World.ownsRow_nil _ _ _ _)
        have HBl0 := Lib.hid (Below.refl w.heap.size w)
        go_wp2_with fail
        clear c1 hen HC1
      case' inr =>
        rw [hen] at c1 HR0
        have O5 := Lib.hid ((World.ownsRow_nil w w.heap.size 9 1).alloc (.cells #[sv begun] 9))
        have hnews := Lib.hid (news_new w #[sv begun] 9)
        have hszW : w.heap.size ≤ (w.alloc (.cells #[sv begun] 9)).heap.size := by simp
        go_enter Tryz.func67, Tryz.ntmps67
        go_wp2_with (at_builtin; refine listApp T22 rfl (.tmp 22) (.tmp 24) rfl w.heap.size (.slice none 0 0) 0 [] [sv begun] 1 1 ⟨w.heap.size, 0, none⟩ rfl O5.out rfl rfl hnews.out (by simp [Value.oneCell']) (by omega) hszW ?_; intro v8 w8 hown8 hg8 hL8)
        have HO0 : Hid (w8.ownsRow w.heap.size 9 1 v8 (readsTo s i 0 begun).length ((readsTo s i 0 begun).map sv)) := Lib.hid (by rw [HR0.out]; exact hown8)
        have HBl0 : Hid (Below w.heap.size w w8) := Lib.hid ((Below.new w (.cells #[sv begun] 9)).grown hg8 hszW (fun g e => by cases e))
        clear c1 hen HC1 O5 hnews hszW hown8 hg8 hL8
      all_goals (
        go_loopw [9, 10] (fun o x wr => ∃ k : Nat, k ≤ N.length ∧ x = .int .i64 k ∧ Hid (wr.ownsRow w.heap.size 9 1 o (readsTo s i k begun).length ((readsTo s i k begun).map sv)) ∧ Hid (Below w.heap.size w wr)) (fun _ x _ => N.length - (intOf x).toNat)
        case atStart => exact ⟨0, by omega, rfl, HO0, HBl0⟩
        case round =>
          clear HO0 HBl0
          obtain ⟨k, hk, rfl, HO, HB⟩ := hrel
          have c2 := cell_on HB.out HC2.out
          have c3 := cell_on HB.out HC3.out
          by_cases hkl : k < N.length
          · have hkI : (k : Int) < (N.length : Int) := by omega
            have hk0 : (0 : Int) ≤ (k : Int) := by omega
            obtain ⟨b3, off3, rfl, c4⟩ := HNi.out k hkl
            have c4 := cell_on HB.out c4
            have HRs := Lib.hid (HSucc.out k (by omega) hkl)
            have hle := HLen.out (k + 1)
            have hv := HNx.out k hkl
            obtain ⟨n, hn⟩ := Int.eq_ofNat_of_zero_le (show 0 ≤ nth N k by omega)
            rw [hn] at c4 hv HRs
            have ex : (ByteArray.mk A.toArray).extract k (k + 1) = ⟨[wc A k].toArray⟩ := by
              rw [ByteArray.extract_mk, show k + 1 - k = 1 by omega, List.drop_eq_getElem_cons (show k < A.length by omega), wc_eq A k (by omega)]; rfl
            have hkA : k ≤ A.length := by omega
            generalize wc A k = c at *
            have hadd : (ByteArray.mk begun.toArray) ++ (ByteArray.mk [c].toArray) = ⟨(begun ++ [c]).toArray⟩ := ByteArray.mk_append_mk begun [c]
            have hadd2 : begun.length + 1 ≤ 9223372036854775807 := by omega
            have hk01 : (0 : Int) ≤ (k : Int) + 1 := by omega
            have hkA1 : (k : Int) + 1 ≤ (A.length : Int) := by omega
            have hkt : ((k : Int) + 1).toNat = k + 1 := by omega
            have hk11 : (k : Int) ≤ (k : Int) + 1 := by omega
            have kk1 : IntKind.i64.wrap ((k : Int) + 1) = (k : Int) + 1 := IntWalk.i64_in _ (by omega)
            have hrl : (X.reads s n).length ≤ 1000 := by
              have h2 := congrArg List.length HRs.out
              rw [List.length_append, List.length_map, Int.toNat_natCast] at h2
              omega
            have HIH : Hid (∀ w', Below wr.heap.size wr w' → Calls Tryz.prog 67 #[.slice (some ⟨b, off, none⟩) s.length cap, .slice (some ⟨b4, off4, none⟩) mm.length cap1, .int .i64 (n : Int), sv (begun ++ [c])] w' fun e w'' => OutS w' w'' e ((X.reads s n).map ((begun ++ [c]) ++ ·))) :=
              Lib.hid (fun w' hb => HIh.out n (by omega) (by omega) (begun ++ [c]) w' (by rw [List.length_append, List.length_singleton]; omega) hrl (HSt.out.below (HB.out.trans (hb.mono HB.out.size))) (HMm.out.below (HB.out.trans (hb.mono HB.out.size))))
            go_wp2_with fail
            refine wp_region_growrowx (F := 12) 23 [36, 37, 38, 39, 40, 41, 42, 43, 44, 45, 46, 47, 48, 49, 50, 51, 52, 53, 54, 55, 56, 57, 58] [KEq u9, KEq (.slice (some ⟨b, off, none⟩) s.length cap), KEq (.slice (some ⟨b4, off4, none⟩) mm.length cap1), KEq (.slice (some ⟨b, off, none⟩) s.length cap), KEq (.int .i64 (i : Int)), KEq (.pointer (some ⟨b, off + i * 3, none⟩)), KEq (.pointer (some ⟨b, off + i * 3 + 2, none⟩)), KEq (.slice (some ⟨b3, off3, none⟩) N.length cap2), KEq (.int .i64 (k : Int)), KEq (.pointer (some ⟨b3, off3 + k, none⟩)), KEq (.int .i64 (n : Int)), KEq (sv begun), KEq (.slice (some ⟨b, off, none⟩) s.length cap), KEq (.int .i64 (i : Int)), KEq (.pointer (some ⟨b, off + i * 3, none⟩)), KEq (.pointer (some ⟨b, off + i * 3 + 1, none⟩)), KEq (sv A), KEq (.int .i64 (k : Int)), KEq (.int .i64 (k : Int)), KEq (.int .i64 ((k : Int) + 1)), KEq (sv [c]), KEq (sv (begun ++ [c])), KSt ((X.reads s n).map ((begun ++ [c]) ++ ·))] (by kernel_rfl) (by kernel_rfl) (by kernel_rfl) (by kernel_rfl) (by kernel_rfl) rfl ⟨KEq.st u9, KEq.st (.slice (some ⟨b, off, none⟩) s.length cap), KEq.st (.slice (some ⟨b4, off4, none⟩) mm.length cap1), KEq.st (.slice (some ⟨b, off, none⟩) s.length cap), KEq.st (.int .i64 (i : Int)), KEq.st (.pointer (some ⟨b, off + i * 3, none⟩)), KEq.st (.pointer (some ⟨b, off + i * 3 + 2, none⟩)), KEq.st (.slice (some ⟨b3, off3, none⟩) N.length cap2), KEq.st (.int .i64 (k : Int)), KEq.st (.pointer (some ⟨b3, off3 + k, none⟩)), KEq.st (.int .i64 (n : Int)), KEq.st (sv begun), KEq.st (.slice (some ⟨b, off, none⟩) s.length cap), KEq.st (.int .i64 (i : Int)), KEq.st (.pointer (some ⟨b, off + i * 3, none⟩)), KEq.st (.pointer (some ⟨b, off + i * 3 + 1, none⟩)), KEq.st (sv A), KEq.st (.int .i64 (k : Int)), KEq.st (.int .i64 (k : Int)), KEq.st (.int .i64 ((k : Int) + 1)), KEq.st (sv [c]), KEq.st (sv (begun ++ [c])), KSt.st ((X.reads s n).map ((begun ++ [c]) ++ ·)), trivial⟩ ⟨step_moveOut (q := 9) (by decide) rfl rfl, step_moveOut (q := 0) (by decide) rfl rfl, step_moveOut (q := 1) (by decide) rfl rfl, step_moveOut (q := 0) (by decide) rfl rfl, step_moveOut (q := 2) (by decide) rfl rfl, step_by2 (j1 := 3) (j2 := 4) (q1 := 39) (q2 := 40) rfl (by decide +kernel) rfl rfl (by decide +kernel) rfl rfl (fun a' w' e1 e2 hb => by simp [execOp, go_sem, e1, e2, hiI, hi0]), step_by1 (j := 5) (q := 41) rfl (by decide +kernel) rfl rfl (fun a' w' e hb => by simp [execOp, go_sem, e]), step_by1 (j := 6) (q := 42) rfl (by decide +kernel) rfl rfl (fun a' w' e hb => by have x := cell_on hb c3; simp [execOp, go_sem, e, x]), step_moveOut (q := 10) (by decide) rfl rfl, step_by2 (j1 := 7) (j2 := 8) (q1 := 43) (q2 := 44) rfl (by decide +kernel) rfl rfl (by decide +kernel) rfl rfl (fun a' w' e1 e2 hb => by simp [execOp, go_sem, e1, e2, hkI, hk0]), step_by1 (j := 9) (q := 45) rfl (by decide +kernel) rfl rfl (fun a' w' e hb => by have x := cell_on hb c4; simp [execOp, go_sem, e, x]), step_moveOut (q := 3) (by decide) rfl rfl, step_moveOut (q := 0) (by decide) rfl rfl, step_moveOut (q := 2) (by decide) rfl rfl, step_by2 (j1 := 12) (j2 := 13) (q1 := 48) (q2 := 49) rfl (by decide +kernel) rfl rfl (by decide +kernel) rfl rfl (fun a' w' e1 e2 hb => by simp [execOp, go_sem, e1, e2, hiI, hi0]), step_by1 (j := 14) (q := 50) rfl (by decide +kernel) rfl rfl (fun a' w' e hb => by simp [execOp, go_sem, e]), step_by1 (j := 15) (q := 51) rfl (by decide +kernel) rfl rfl (fun a' w' e hb => by have x := cell_on hb c2; simp [execOp, go_sem, e, x]), step_moveOut (q := 10) (by decide) rfl rfl, step_moveOut (q := 10) (by decide) rfl rfl, step_by1 (j := 18) (q := 54) rfl (by decide +kernel) rfl rfl (fun a' w' e hb => by simp [execOp, go_sem, e, kk1]), step_by3 (j1 := 16) (j2 := 17) (j3 := 19) (q1 := 52) (q2 := 53) (q3 := 55) rfl (by decide +kernel) rfl rfl (by decide +kernel) rfl rfl (by decide +kernel) rfl rfl (fun a' w' e1 e2 e3 hb => by simp [execOp, go_sem, e1, e2, e3, ex, hk0, hkA1, hkt, hk11]), step_by2 (j1 := 11) (j2 := 20) (q1 := 47) (q2 := 56) rfl (by decide +kernel) rfl rfl (by decide +kernel) rfl rfl (fun a' w' e1 e2 hb => by simp [execOp, go_sem, e1, e2, hadd, hadd2]), step_read (j1 := 1) (j2 := 2) (j3 := 10) (j4 := 21) (q1 := 37) (q2 := 38) (q3 := 46) (q4 := 57) rfl (by decide +kernel) rfl rfl (by decide +kernel) rfl rfl (by decide +kernel) rfl rfl (by decide +kernel) rfl rfl HIH.out, trivial⟩ ?_
            rintro w5 hb5 u9 rfl _ rfl _ rfl _ rfl _ rfl _ rfl _ rfl _ rfl _ rfl _ rfl _ rfl _ rfl _ rfl _ rfl _ rfl _ rfl _ rfl _ rfl _ rfl _ rfl _ rfl _ rfl _ ⟨aR, cR, rfl, hR, zR⟩
            simp only [EndsG, Act.put, List.setIfInBounds_toArray, List.set_cons_zero, List.set_cons_succ, List.drop, RowWp]
            have hO5 := owns_below HO.out hb5
            have hRs := HRs.out
            rw [Int.toNat_natCast] at hRs
            have hnn : (readsTo s i k begun).length + ((X.reads s n).map ((begun ++ [c]) ++ ·)).length ≤ 2000000 := by
              have := congrArg List.length hRs
              rw [List.length_append] at this; omega
            have hb5s : w.heap.size ≤ w5.heap.size := Nat.le_trans HB.out.size hb5.size
            refine wpAppS rfl (.tmp 36) (.tmp 58) rfl w.heap.size u9 (readsTo s i k begun) ((X.reads s n).map ((begun ++ [c]) ++ ·)) aR cR rfl hO5 rfl hR zR hnn hb5s ?_
            intro v7 w7 hown7 hg7
            rw [← hRs] at hown7
            have HO7 := Lib.hid hown7
            have HB7 := Lib.hid ((HB.out.trans (hb5.mono HB.out.size)).grown hg7 hb5s (fun g e => (hO5.lt g e).1))
            clear hown7 hg7 hO5 hRs hb5 hR zR HIH c2 c3 c4 ex hadd
            go_simp
            go_wp2_with fail
            go_roundw
            case rel => exact ⟨k + 1, by omega, by go_num, HO7, HB7⟩
            case measure => simp [intOf]; omega
          · have hk2 : k = N.length := by omega
            subst hk2
            rw [HAll.out] at HO
            obtain ⟨-, a5, c5, rfl, hs5, hc5⟩ := Strs.of_ownsRow HO.out
            have HS5 := Lib.hid hs5
            clear hs5 HO
            go_wp2_with fail
            go_ret
            exact ⟨a5, c5, rfl, HS5.out, hc5, HB.out⟩)
end Go.Proofs.YtcjbnifafofpbaaGreatDoor
/- Plain Lean: how long words of an automaton are; the counts of the reference. -/
namespace X
theorem reads_len {s : List St} (h : Auto s) : ∀ (k i : Nat), i < s.length → s.length - i ≤ k → ∀ w ∈ reads s i, w.length ≤ k
  | 0, i, hi, hk, w, hw => by omega
  | k + 1, i, hi, hk, [], hw => by simp
  | k + 1, i, hi, hk, c :: w, hw => by
    obtain ⟨n, hz, hw2⟩ := (mem_reads_cons h hi).1 hw
    have hn := h.nx i hi n (List.of_mem_zip hz).2
    have := reads_len h k n.toNat (by omega) (by omega) w hw2
    simp; omega
theorem lonI_bd {s : List St} (h : Auto s) {i : Nat} (hi : i < s.length) : -1 ≤ lonI (reads s i) ∧ lonI (reads s i) ≤ 301 := by
  unfold lonI
  split
  · omega
  · have : longest (reads s i) ≤ 301 := longest_bd (fun w hw => by have := reads_len h (s.length - i) i hi (Nat.le_refl _) w hw; have := h.n2; omega)
    omega
theorem lonI_part {s : List St} (h : Auto s) {i k : Nat} (hi : i < s.length) : -1 ≤ lonI (part s i k) ∧ lonI (part s i k) ≤ 301 := by
  have hsub : ∀ w ∈ part s i k, w ∈ reads s i := by
    intro w hw
    rw [← part_all h hi]
    have he := h.eq _ (at_mem hi)
    unfold part at *
    rcases List.mem_append.1 hw with h1 | h1
    · exact List.mem_append_left _ h1
    · refine List.mem_append_right _ ?_
      obtain ⟨p, hp, h2⟩ := List.mem_flatMap.1 h1
      refine List.mem_flatMap.2 ⟨p, ?_, h2⟩
      rw [List.take_of_length_le (by rw [List.length_zip, he]; simp)]
      exact List.mem_of_mem_take hp
  unfold lonI
  split
  · omega
  · have : longest (part s i k) ≤ 301 := longest_bd (fun w hw => by have := reads_len h (s.length - i) i hi (Nat.le_refl _) w (hsub w hw); have := h.n2; omega)
    omega
theorem capI_bd (q : List W) : 0 ≤ capI q ∧ capI q ≤ 31 := by unfold capI; split <;> omega
theorem capI_min (p q : List W) (c : UInt8) : min 31 (capI p + capI q) = capI (p ++ q.map (c :: ·)) := by
  rw [← capI_app, Int.min_def]
  split <;> split <;> omega
theorem lonI_max (p q : List W) (c : UInt8) (h : 0 ≤ lonI q) : max (lonI p) (1 + lonI q) = lonI (p ++ q.map (c :: ·)) := by
  rw [← lonI_app, if_pos h, Int.max_def]
  split <;> split <;> omega
theorem lonI_none (p q : List W) (c : UInt8) (h : ¬ 0 ≤ lonI q) : lonI p = lonI (p ++ q.map (c :: ·)) := by
  rw [← lonI_app, if_neg h]
end X
