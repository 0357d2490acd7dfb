/- One text of ComJ, ComK, ComL, ComM, ComN. -/
import Derived.Test.YtpkffjcmoghaaaaJ10
import Derived.Scope
import Derived.Deep.MidRow
import Derived.Lib.LazyBuf
/- Walks of the program's functions: plan. -/
namespace Go.Proofs.Ytpkffjcmoghaaaa
open Go.RowKit
/-- The agg of a list of ints. -/
abbrev aggI (zs : List Int) : Value := .agg (zs.map (Value.int .i64)).toArray
theorem eqItems_ints (d : Nat) (xs ys : List Int) (w : World) : ∀ (is : List Nat), (∀ i ∈ is, i < xs.length ∧ i < ys.length) →
    (Op.eqItems (d + 1) 3 1 (xs.map (Value.int .i64)).toArray (ys.map (Value.int .i64)).toArray is).run Try.prog w = .ok (is.all fun i => decide (nth xs i = nth ys i)) w
  | [], _ => rfl
  | i :: is, h => by
    have ih := eqItems_ints d xs ys w is (fun j hj => h j (List.mem_cons_of_mem _ hj))
    obtain ⟨h1, h2⟩ := h i (List.mem_cons_self)
    unfold Op.eqItems
    have a3 := Try.isAgg3
    have u3 := Try.underlying3
    go_simp
    rw [nth_eq xs i h1, nth_eq ys i h2]
    by_cases e : xs[i] = ys[i] <;> simp [e]
theorem eqArr (xs ys : List Int) (hx : xs.length = 20) (hy : ys.length = 20) (w : World) : (binOp .eql 70 (aggI xs) (aggI ys)).run Try.prog w = .ok (.bool ((List.range 20).all fun i => decide (nth xs i = nth ys i))) w := by
  obtain ⟨i0, hi, -, -, -⟩ := info_parts T25.hi
  have hc : Try.prog.cellsOf 3 = 1 := by kernel_rfl
  rw [run_eql_struct, show (10000 : Nat) = 9998 + 1 + 1 from rfl, run_equalIn_array w (9998 + 1) _ _ Try.underlying70 hi, hc]
  rw [eqItems_ints 9998 xs ys w (List.range 20) (fun i h => by have := List.mem_range.1 h; omega)]
  rfl
def zeros : List Value := List.replicate 20 (.int .i64 0)
/-- How many stars are struck at each wear. -/
def cntsL (U : List Int) : List Int := (List.range 20).map fun (v : Nat) => ((U.countP fun u => decide (u = (v : Int))) : Int)
theorem cntsL_length (U : List Int) : (cntsL U).length = 20 := by simp [cntsL]
theorem nth_cntsL (U : List Int) {v : Nat} (h : v < 20) : nth (cntsL U) v = ((U.countP fun u => decide (u = (v : Int))) : Int) := by simp [nth, cntsL, h]
theorem clearW (w : World) : Cells ((w.alloc (.cells zeros.toArray 70)).setCells w.heap.size 0 zeros) w.heap.size ((cntsL []).map (Value.int .i64)) ∧ Below w.heap.size w ((w.alloc (.cells zeros.toArray 70)).setCells w.heap.size 0 zeros)  := by
  have hc : ∀ j, j < zeros.length → ((w.alloc (.cells zeros.toArray 70)).cell? ⟨w.heap.size, 0 + j, none⟩).isSome = true := fun j hj => by
    rw [Nat.zero_add]; simp [zeros] at hj ⊢; exact hj
  have h0 := World.cell?_setCells_in w.heap.size zeros 0 (w.alloc (.cells zeros.toArray 70)) hc 0 (by decide)
  have hlt := World.block_lt_of_cell? _ _ h0
  refine ⟨⟨fun o u h => ?_, fun o => ?_, hlt⟩, below_setCells (Nat.le_refl _) _ _ _ (Below.new w _)⟩
  · have ho : o < zeros.length := by have := (List.getElem?_eq_some_iff.1 h).1; simpa [cntsL, zeros] using this
    have := World.cell?_setCells_in w.heap.size zeros 0 (w.alloc (.cells zeros.toArray 70)) hc o ho
    rw [Nat.zero_add] at this
    rw [this]
    have hz : (cntsL []).map (Value.int .i64) = zeros := by rfl
    rw [hz, List.getElem?_eq_getElem ho] at h
    exact h
  · rw [World.frozen?_setCells]; simp
theorem cntsL_snoc (U : List Int) {m : Nat} (_h : m < 20) : ((cntsL U).map (Value.int .i64)).set m (.int .i64 (((U.countP fun u => decide (u = (m : Int)) : Nat) : Int) + 1)) = (cntsL (U ++ [(m : Int)])).map (Value.int .i64) := by
  apply List.ext_getElem
  · simp [cntsL]
  · intro i h1 h2
    have hi : i < 20 := by simpa [cntsL] using h2
    rw [List.getElem_set]
    simp only [cntsL, List.getElem_map, List.getElem_range, List.countP_append, List.countP_singleton]
    by_cases e : m = i
    · subst e; simp
    · have e' : ¬ (m : Int) = (i : Int) := by omega
      simp [e, e']
theorem nth_rep (i : Nat) : nth (List.replicate 20 (0 : Int)) i = 0 := by
  unfold nth
  rw [List.getD_eq_getElem?_getD, List.getElem?_replicate]
  split <;> rfl
theorem cntsL_get (U : List Int) {j : Nat} (h : j < 20) : ((cntsL U).map (Value.int .i64))[j]? = some (.int .i64 (nth (cntsL U) j)) := by
  rw [nth_cntsL U h]; simp [cntsL, h]
set_option maxRecDepth 20000 in
theorem eqCnt (U : List Int) (hU : ∀ u ∈ U, 0 ≤ u ∧ u < 20) (W : World) : (binOp .eql 70 (.agg ((cntsL U).map (Value.int .i64)).toArray) (.agg #[.int .i64 0, .int .i64 0, .int .i64 0, .int .i64 0, .int .i64 0, .int .i64 0, .int .i64 0, .int .i64 0, .int .i64 0, .int .i64 0, .int .i64 0, .int .i64 0, .int .i64 0, .int .i64 0, .int .i64 0, .int .i64 0, .int .i64 0, .int .i64 0, .int .i64 0, .int .i64 0])).run Try.prog W = .ok (.bool (decide (U = []))) W := by
  have h : (binOp .eql 70 (.agg ((cntsL U).map (Value.int .i64)).toArray) (.agg #[.int .i64 0, .int .i64 0, .int .i64 0, .int .i64 0, .int .i64 0, .int .i64 0, .int .i64 0, .int .i64 0, .int .i64 0, .int .i64 0, .int .i64 0, .int .i64 0, .int .i64 0, .int .i64 0, .int .i64 0, .int .i64 0, .int .i64 0, .int .i64 0, .int .i64 0, .int .i64 0])).run Try.prog W = .ok (.bool ((List.range 20).all fun i => decide (nth (cntsL U) i = nth (List.replicate 20 0) i))) W := eqArr (cntsL U) (List.replicate 20 0) (cntsL_length U) rfl W
  refine h.trans ?_
  suffices hk : ((List.range 20).all fun i => decide (nth (cntsL U) i = nth (List.replicate 20 0) i)) = decide (U = []) by rw [hk]
  have hn : ∀ i, i < 20 → nth (cntsL U) i = ((U.countP fun u => decide (u = (i : Int)) : Nat) : Int) ∧ nth (List.replicate 20 (0 : Int)) i = 0 := fun i hi => ⟨nth_cntsL U hi, nth_rep i⟩
  cases U with
  | nil =>
    simp only [decide_true]
    rw [List.all_eq_true]
    intro i hi
    have hi' : i < 20 := by simpa using hi
    rw [(hn i hi').1, (hn i hi').2]; rfl
  | cons u r =>
    have hu := hU u (by simp)
    have : ¬ (u :: r = []) := by simp
    rw [decide_eq_false this, List.all_eq_false]
    refine ⟨u.toNat, by simp; omega, ?_⟩
    rw [(hn u.toNat (by omega)).1, (hn u.toNat (by omega)).2]
    have e : ((u.toNat : Nat) : Int) = u := by omega
    rw [e, List.countP_cons]
    simp; omega
structure PlanI (w0 : World) (C B : Nat) (p L : Nat) (a : Option Addr) (cap : Nat) (S : List P.Star) (T : List P.Star) (U : List Int) (v : Value) (Bk : Nat) (w : World) : Prop where
  job : Job w B (p : Int) (L : Int) a cap S
  cur : ∃ ak capk, Job w Bk (p : Int) (L : Int) ak capk T ∧ ∀ b, (b = Bk ∨ (0 < T.length ∧ ∃ off, ak = some ⟨b, off, none⟩)) → b ≠ C ∧ v.ownBlock ≠ some b
  row : w.ownsRow (C + 1) 3 1 v U.length (U.map (.int .i64))
  cnt : Cells w C ((cntsL U).map (.int .i64))
  bel : Below C w0 w
theorem PlanI.on {w0 : World} {C B : Nat} {p L : Nat} {a : Option Addr} {cap : Nat} {S T : List P.Star} {U : List Int} {v : Value} {Bk : Nat} {w w' : World} (h : PlanI w0 C B p L a cap S T U v Bk w) (hb : Below w.heap.size w w') : PlanI w0 C B p L a cap S T U v Bk w' :=
  ⟨h.job.on hb, by obtain ⟨ak, ck, h1, h2⟩ := h.cur; exact ⟨ak, ck, h1.on hb, h2⟩, owns_below h.row hb, h.cnt.on hb, h.bel.trans (hb.mono (Nat.le_of_lt h.cnt.lt))⟩
set_option maxRecDepth 20000 in
set_option maxHeartbeats 4000000 in
theorem planP_any (B : Nat) (p L : Nat) (a : Option Addr) (cap : Nat) (S : List P.Star) (w : World) (h : Job w B (p : Int) (L : Int) a cap S) (hv : P.Valid p L S) (hf : P.Fits S p L) :
    Calls Try.prog 57 #[.pointer (some ⟨B, 0, none⟩)] w fun e w' => ∃ v, e = .returned v ∧ w'.ownsRow w.heap.size 3 1 v (P.plan S p L).length ((P.plan S p L).map (.int .i64)) ∧ Below w.heap.size w w' := by
  have hcl : ∀ ty, (Builtin.clear_ #[25] ty #[.slice (some ⟨w.heap.size, 0, none⟩) 20 20]).run Try.prog (w.alloc (.cells #[.int .i64 0, .int .i64 0, .int .i64 0, .int .i64 0, .int .i64 0, .int .i64 0, .int .i64 0, .int .i64 0, .int .i64 0, .int .i64 0, .int .i64 0, .int .i64 0, .int .i64 0, .int .i64 0, .int .i64 0, .int .i64 0, .int .i64 0, .int .i64 0, .int .i64 0, .int .i64 0] 70)) = .ok (.tuple #[]) ((w.alloc (.cells #[.int .i64 0, .int .i64 0, .int .i64 0, .int .i64 0, .int .i64 0, .int .i64 0, .int .i64 0, .int .i64 0, .int .i64 0, .int .i64 0, .int .i64 0, .int .i64 0, .int .i64 0, .int .i64 0, .int .i64 0, .int .i64 0, .int .i64 0, .int .i64 0, .int .i64 0, .int .i64 0] 70)).setCells w.heap.size 0 zeros) := fun ty =>
    Lib.run_clear_slice _ 25 3 ty (.int .i64 0) Try.underlying25 Try.zeroValue3 rfl rfl w.heap.size 0 20 20 (by omega) (fun j hj => by rw [Nat.zero_add]; have : j < 20 := hj; rcases j with _ | _ | _ | _ | _ | _ | _ | _ | _ | _ | _ | _ | _ | _ | _ | _ | _ | _ | _ | _ | j <;> first | (simp; done) | omega) (fun j hj => by simp)
  have hlt := h.lt
  have hn16 := hv.len
  have HA0 := Lib.hid h.st.lt
  have HJ := Lib.hid h
  clear h
  go_enter Try.func57, Try.ntmps57
  go_wp2_with fail
  refine wp_scope_straight ?_
  go_wp2_with fail
  refine wp_label ?_
  have hclr : Cells ((w.alloc (.cells #[.int .i64 0, .int .i64 0, .int .i64 0, .int .i64 0, .int .i64 0, .int .i64 0, .int .i64 0, .int .i64 0, .int .i64 0, .int .i64 0, .int .i64 0, .int .i64 0, .int .i64 0, .int .i64 0, .int .i64 0, .int .i64 0, .int .i64 0, .int .i64 0, .int .i64 0, .int .i64 0] 70)).setCells w.heap.size 0 zeros) w.heap.size ((cntsL []).map (Value.int .i64)) ∧ Below w.heap.size w ((w.alloc (.cells #[.int .i64 0, .int .i64 0, .int .i64 0, .int .i64 0, .int .i64 0, .int .i64 0, .int .i64 0, .int .i64 0, .int .i64 0, .int .i64 0, .int .i64 0, .int .i64 0, .int .i64 0, .int .i64 0, .int .i64 0, .int .i64 0, .int .i64 0, .int .i64 0, .int .i64 0, .int .i64 0] 70)).setCells w.heap.size 0 zeros) := clearW w
  generalize (w.alloc (.cells #[.int .i64 0, .int .i64 0, .int .i64 0, .int .i64 0, .int .i64 0, .int .i64 0, .int .i64 0, .int .i64 0, .int .i64 0, .int .i64 0, .int .i64 0, .int .i64 0, .int .i64 0, .int .i64 0, .int .i64 0, .int .i64 0, .int .i64 0, .int .i64 0, .int .i64 0, .int .i64 0] 70)).setCells w.heap.size 0 zeros = W2 at *
  obtain ⟨k1, k2⟩ := hclr
  have hI0 := Lib.hid (show PlanI w w.heap.size B p L a cap S (P.planTo S p L 0).1 (P.planTo S p L 0).2 (.slice none 0 0) B W2 from ⟨HJ.out.on k2, ⟨a, cap, HJ.out.on k2, fun b hb => ⟨by
    rcases hb with rfl | ⟨hp, off, e⟩
    · omega
    · have := HJ.out.st.lt hp b off e; omega, by simp [Value.ownBlock]⟩⟩, World.ownsRow_nil _ _ _ _, k1, k2⟩)
  have hszW : w.heap.size + 1 ≤ W2.heap.size := k1.lt
  have x3 := (HJ.out.on k2).x3
  clear hcl k1 k2
  simp only [Exit.then]
  go_wp2_with fail
  go_loopw [3, 4, 6, 7, 8, 9, 18] (fun v v4 _ _ _ _ i wr => ∃ (k Bk : Nat), k ≤ S.length ∧ i = .int .i64 k ∧ v4 = .pointer (some ⟨Bk, 0, none⟩) ∧ Hid (PlanI w w.heap.size B p L a cap S (P.planTo S p L k).1 (P.planTo S p L k).2 v Bk wr)) (fun _ _ _ _ _ _ i _ => S.length - (intOf i).toNat)
  case atStart => exact ⟨0, B, by omega, rfl, rfl, hI0⟩
  case round =>
    clear hI0
    obtain ⟨k, Bk, hk, rfl, rfl, HI⟩ := hrel
    have HPT := Lib.hid (P.planTo_spec hv.ok hf k hk)
    by_cases hlt2 : k < S.length
    · have hI : (k : Int) < (S.length : Int) := by omega
      have hq0 : (0 : Int) ≤ (k : Int) := by omega
      obtain ⟨f0, f1, f2⟩ := P.star_ok hv.ok hlt2
      obtain ⟨sb, soff, hae, s1, s2, s3⟩ := HI.out.job.st k hlt2
      have hbn := Below.new wr (.cells #[.int .i64 (P.star S k).1, .int .i64 (P.star S k).2.1, .int .i64 (P.star S k).2.2] 59)
      have HI1 := Lib.hid (HI.out.on hbn)
      have CD := Lib.hid (Cells.new wr #[.int .i64 (P.star S k).1, .int .i64 (P.star S k).2.1, .int .i64 (P.star S k).2.2] 59)
      have d0 := CD.out.cel 0 _ rfl
      have hCD : w.heap.size < wr.heap.size := HI.out.cnt.lt
      subst hae
      clear hbn HI
      go_wp2_with fail
      clear s1 s2 s3 d0
      generalize wr.alloc (.cells #[.int .i64 (P.star S k).1, .int .i64 (P.star S k).2.1, .int .i64 (P.star S k).2.2] 59) = W3 at *
      obtain ⟨D, hD⟩ : ∃ D, wr.heap.size = D := ⟨_, rfl⟩
      rw [hD] at CD hCD ⊢
      clear hD
      have hL20 := hv.l20
      go_loopw [3, 4, 8, 9] (fun v v4 x _ wi => ∃ (m : Nat), x = .int .i64 m ∧ v4 = .pointer (some ⟨Bk, 0, none⟩) ∧ v = u3 ∧ (P.star S k).1 ≤ (m : Int) ∧ (m : Int) ≤ (P.star S k).2.1 + 1 ∧ Hid (∀ z : Int, (P.star S k).1 ≤ z → z < (m : Int) → P.canAt (P.planTo S p L k).1 p L k z = false) ∧ Hid (PlanI w w.heap.size B p L (some ⟨sb, soff, none⟩) cap S (P.planTo S p L k).1 (P.planTo S p L k).2 u3 Bk wi) ∧ Hid (Cells wi D [.int .i64 (P.star S k).1, .int .i64 (P.star S k).2.1, .int .i64 (P.star S k).2.2])) (fun _ _ x _ _ => ((P.star S k).2.1 + 1 - intOf x).toNat)
      case atStart => exact ⟨(P.star S k).1.toNat, by rw [Int.toNat_of_nonneg f0], rfl, rfl, by omega, by omega, Lib.hid (fun z h1 h2 => by omega), HI1, CD⟩
      case round =>
        clear HI1 CD
        obtain ⟨m, rfl, rfl, rfl, hm1, hm2, HN, HI, HD⟩ := hrel
        have d1 := HD.out.cel 1 _ rfl
        by_cases hle : (m : Int) ≤ (P.star S k).2.1
        · have hm20 : m < 20 := by omega
          have cm : wr.cell? ⟨w.heap.size, m, none⟩ = some (.int .i64 (((P.planTo S p L k).2.countP fun u => decide (u = (m : Int)) : Nat) : Int)) := HI.out.cnt.cel m _ (by simp [cntsL, hm20])
          have x1 := HI.out.job.x1
          have k1 : (0 : Int) ≤ (m : Int) := by omega
          have k2 : (m : Int) < 20 := by omega
          by_cases hful : (P.planTo S p L k).2.countP (fun u => decide (u = (m : Int))) = p
          · have hcan := P.canAt_full HPT.out hlt2 (by omega) (by omega) hful
            have HCan := Lib.hid hcan
            rw [hful] at cm
            clear hcan hful
            go_wp2_with fail
            go_quiet (fail)
            go_wp2_with fail
            have HI2 := Lib.hid (HI.out.on (((Drew.refl wr).drewN nq).below _))
            have HD2 := Lib.hid (HD.out.on (((Drew.refl wr).drewN nq).below _))
            go_roundw
            case rel => exact ⟨m + 1, by go_num, rfl, rfl, by omega, by omega, Lib.hid (fun z h1 h2 => by
              by_cases e : z = (m : Int)
              · rw [e]; exact HCan.out
              · exact HN.out z h1 (by omega)), HI2, HD2⟩
            case measure => simp [intOf]; omega
          · obtain ⟨ak, ck, hJk, haway⟩ := HI.out.cur
            have HAt := Lib.hid (fun W (hW : Job W Bk (p : Int) (L : Int) ak ck (P.planTo S p L k).1) => atP_any Bk (p : Int) (L : Int) ak ck (P.planTo S p L k).1 k (m : Int) W (by rw [HPT.out.len]; exact hlt2) (by have := HPT.out.len; have := hv.len; omega) hW)
            have HFi := Lib.hid (fun W b' a' c' (hW : Job W b' (p : Int) (L : Int) a' c' (P.atW (P.planTo S p L k).1 k (m : Int))) => fitsP_any b' p L a' c' (P.atW (P.planTo S p L k).1 k (m : Int)) W (by rw [P.atW_length]; have := HPT.out.len; have := hv.len; omega) hW (by have := hv.p5; omega) (by omega) (HPT.out.ok.at (by rw [HPT.out.len]; exact hlt2) (by omega) (by omega)))
            have HJk := Lib.hid hJk
            have HAw := Lib.hid haway
            obtain ⟨c, hc⟩ : ∃ c, (P.planTo S p L k).2.countP (fun u => decide (u = (m : Int))) = c := ⟨_, rfl⟩
            rw [hc] at cm hful
            have hbq : ((c : Int) == (p : Int)) = false := by simp; omega
            have HCc := Lib.hid hc
            clear hJk haway hful hc
            go_wp2_with fail
            go_quiet (fail)
            have HI2 := Lib.hid (HI.out.on (((Drew.refl wr).drewN nq).below _))
            have HD2 := Lib.hid (HD.out.on (((Drew.refl wr).drewN nq).below _))
            have HJ2 := Lib.hid (HJk.out.on (((Drew.refl wr).drewN nq).below _))
            clear cm x1 d1 HI HD HJk
            generalize wr.drewN nq = W4 at *
            go_wp2_with fail
            refine (HAt.out W4 HJ2.out).mono ?_
            rintro e w5 ⟨Bc, ac, cc, rfl, hJc, hBc, hac, hb5⟩
            have HI5 := Lib.hid (HI2.out.on hb5)
            have HD5 := Lib.hid (HD2.out.on hb5)
            have HJc := Lib.hid hJc
            have hCW : w.heap.size < W4.heap.size := HI2.out.cnt.lt
            have HRw : Hid (∀ g, u3.ownBlock = some g → g < W4.heap.size) := Lib.hid (fun g e => (HI2.out.row.lt g e).2)
            have HAc : Hid (∀ b, (b = Bc ∨ (0 < (P.atW (P.planTo S p L k).1 k (m : Int)).length ∧ ∃ off, ac = some ⟨b, off, none⟩)) → W4.heap.size ≤ b) := Lib.hid (fun b hb => by
              rcases hb with rfl | ⟨-, off, e⟩
              · exact hBc
              · exact hac b off e)
            have hW45 := hb5.size
            clear HI2 HD2 HJ2 hb5 hJc hac hBc
            have HFc := Lib.hid (HFi.out w5 Bc ac cc HJc.out)
            have hcd : P.fitsB (P.atW (P.planTo S p L k).1 k (m : Int)) p L = P.canAt (P.planTo S p L k).1 p L k (m : Int) := rfl
            cases hcan : P.canAt (P.planTo S p L k).1 p L k (m : Int) with
            | false =>
              rw [hcan] at hcd
              rw [hcd] at HFc
              have HCan := Lib.hid hcan
              clear hcan hcd
              go_wp2_with fail
              refine HFc.out.mono ?_
              rintro e w6 ⟨rfl, hb6⟩
              have HI6 := Lib.hid (HI5.out.on hb6)
              have HD6 := Lib.hid (HD5.out.on hb6)
              clear hb6
              go_wp2_with fail
              go_roundw
              case rel => exact ⟨m + 1, by go_num, rfl, rfl, by omega, by omega, Lib.hid (fun z h1 h2 => by
                by_cases e : z = (m : Int)
                · rw [e]; exact HCan.out
                · exact HN.out z h1 (by omega)), HI6, HD6⟩
              case measure => simp [intOf]; omega
            | true =>
              rw [hcan] at hcd
              rw [hcd] at HFc
              have HLW := Lib.hid (P.leastW_at (k := ((P.star S k).2.1 - (P.star S k).1 + 1).toNat) hm1 (by omega) hcan HN.out)
              clear hcan hcd
              go_wp2_with fail
              refine HFc.out.mono ?_
              rintro e w6 ⟨rfl, hb6⟩
              have HI6 := Lib.hid (HI5.out.on hb6)
              have HJ6 := Lib.hid (HJc.out.on hb6)
              have hW56 := hb6.size
              have hW46 : W4.heap.size ≤ w6.heap.size := by omega
              clear hb6 hW56
              have cm6 : w6.cell? ⟨w.heap.size, m, none⟩ = some (.int .i64 (c : Int)) := HI6.out.cnt.cel m _ (by have := HCc.out; simp [cntsL, hm20, this])
              have fm6 := HI6.out.cnt.fr m
              have hw1 : IntKind.i64.wrap ((c : Int) + 1) = (c : Int) + 1 := IntWalk.i64_in _ (by
                have h1 := HCc.out
                have h2 := List.countP_le_length (p := fun u => decide (u = (m : Int))) (l := (P.planTo S p L k).2)
                rw [h1, HPT.out.wears] at h2
                have := hv.len; omega)
              have hP1 : P.planTo S p L (k + 1) = (P.atW (P.planTo S p L k).1 k (m : Int), (P.planTo S p L k).2 ++ [(m : Int)]) := by
                show (_, _) = _
                rw [HLW.out]
              have hlU := HPT.out.wears
              have hkn : (P.planTo S p L k).2.length + 1 ≤ 2000000 := by rw [hlU]; have := hv.len; omega
              have hrC : u3.ownBlock ≠ some w.heap.size := fun e => by have := (HI6.out.row.lt _ e).1; omega
              have hsz6 := HI6.out.cnt.lt
              have hrow7 := (owns_setOther HI6.out.row w.heap.size m (.int .i64 ((c : Int) + 1)) hrC).alloc (.cells #[.int .i64 (m : Int)] 3)
              have hnews := news_new (w6.setCell ⟨w.heap.size, m, none⟩ (.int .i64 ((c : Int) + 1))) #[.int .i64 (m : Int)] 3
              have hszW : w.heap.size + 1 ≤ ((w6.setCell ⟨w.heap.size, m, none⟩ (.int .i64 ((c : Int) + 1))).alloc (.cells #[.int .i64 (m : Int)] 3)).heap.size := by simp [World.setCell]; omega
              have hs7 : (w6.setCell ⟨w.heap.size, m, none⟩ (.int .i64 ((c : Int) + 1))).heap.size = w6.heap.size := by simp [World.setCell]
              rw [hs7] at hnews
              have HS7 := Lib.hid hs7
              clear hs7
              have HRow7 := Lib.hid hrow7
              have HN7 := Lib.hid hnews
              have HP1 := Lib.hid hP1
              clear hrow7 hnews hP1 HLW HN HFc HFi HAt HJc HI5 HD5 hlU
              go_wp2_with (at_builtin; refine listApp T25 rfl (.tmp 52) (.tmp 54) rfl (w.heap.size + 1) u3 (P.planTo S p L k).2.length ((P.planTo S p L k).2.map (.int .i64)) [.int .i64 (m : Int)] 1 1 ⟨w6.heap.size, 0, none⟩ rfl HRow7.out rfl rfl HN7.out (by simp [Value.oneCell']) hkn hszW ?_; intro v8 w8 hown8 hg8 hL8)
              have hs7 := HS7.out
              have hs8 : ((w6.setCell ⟨w.heap.size, m, none⟩ (.int .i64 ((c : Int) + 1))).alloc (.cells #[.int .i64 (m : Int)] 3)).heap.size = w6.heap.size + 1 := by rw [World.size_alloc, hs7]
              have hsb : sb < w.heap.size := HA0.out (by omega) sb soff rfl
              have hbn := Below.new (w6.setCell ⟨w.heap.size, m, none⟩ (.int .i64 ((c : Int) + 1))) (.cells #[.int .i64 (m : Int)] 3)
              have hub : ∀ b, b < w6.heap.size → (u3.ownBlock ≠ some b) → v8.ownBlock ≠ some b := fun b hb hne e => by
                rcases hL8 with e2 | e2
                · exact hne (e2 ▸ e)
                · rw [hs8] at e2; rw [e2] at e; cases e; omega
              have hI8 : PlanI w w.heap.size B p L (some ⟨sb, soff, none⟩) cap S (P.atW (P.planTo S p L k).1 k (m : Int)) ((P.planTo S p L k).2 ++ [(m : Int)]) v8 Bc w8 := by
                refine ⟨?_, ⟨ac, cc, ?_, ?_⟩, ?_, ?_, ?_⟩
                · refine ((HI6.out.job.setAside w.heap.size m _ (by omega) (fun b off e => by cases e; omega)).on hbn).kept hg8 (fun e => by have := (HI6.out.row.lt _ e).1; omega) (fun _ b off e e2 => by cases e; have := (HI6.out.row.lt _ e2).1; omega)
                · refine ((HJ6.out.setAside w.heap.size m _ (fun e => by have := HAc.out Bc (.inl rfl); omega) (fun b off e => ?_)).on hbn).kept hg8 (fun e => by have := HRw.out _ e; have := HAc.out Bc (.inl rfl); omega) (fun hp b off e e2 => by have := HRw.out _ e2; have := HAc.out b (.inr ⟨hp, off, e⟩); omega)
                  have := HAc.out b (.inr ⟨by rw [P.atW_length, HPT.out.len]; omega, off, e⟩)
                  omega
                · intro b hb
                  have h1 := HAc.out b hb
                  refine ⟨by omega, hub b ?_ (fun e => by have := HRw.out _ e; omega)⟩
                  rcases hb with rfl | ⟨hp, off, e⟩
                  · exact HJ6.out.lt
                  · exact HJ6.out.st.lt hp b off e
                · rw [List.length_append, List.length_singleton, List.map_append]; exact hown8
                · have h1 := (HI6.out.cnt.set m (.int .i64 ((c : Int) + 1)) (by simp [cntsL, hm20])).on hbn
                  have h2 := h1.grown hg8 (fun e => by have := (HI6.out.row.lt _ e.symm).1; omega)
                  have h3 := cntsL_snoc (P.planTo S p L k).2 hm20
                  rw [HCc.out] at h3
                  rw [← h3]; exact h2
                · exact ((HI6.out.bel.setCell (p := ⟨w.heap.size, m, none⟩) (Nat.le_refl _) _).trans (hbn.mono (by rw [hs7]; omega))).grown hg8 (by rw [hs8]; omega) (fun g e => by have := (HI6.out.row.lt _ e).1; omega)
              have HI8 := Lib.hid hI8
              clear hI8 hown8 hg8 hL8 hub hbn
              go_roundw
              case rel => exact ⟨k + 1, Bc, by omega, by go_num, rfl, by rw [HP1.out]; exact HI8⟩
              case measure => simp [intOf]; omega
        · exfalso
          obtain ⟨z, z1, z2, z3⟩ := P.canAt_ex HPT.out.ok HPT.out.fits (i := k) (by rw [HPT.out.len]; exact hlt2)
          rw [HPT.out.rest k (Nat.le_refl _)] at z1 z2
          rw [HN.out z z1 (by omega)] at z3
          cases z3
    · have hI : ¬ (k : Int) < (S.length : Int) := by omega
      have hkn : k = S.length := by omega
      subst hkn
      have HPl : Hid (P.plan S p L = (P.planTo S p L S.length).2) := Lib.hid rfl
      have hUw : ∀ u ∈ (P.planTo S p L S.length).2, 0 ≤ u ∧ u < 20 := fun u hu => by
        obtain ⟨j, hj, e⟩ := List.getElem_of_mem hu
        have hj' : j < S.length := by rw [HPT.out.wears] at hj; exact hj
        have hd := (HPT.out.done j hj').2
        have hg : (P.planTo S p L S.length).2.getD j 0 = u := by simp [hj, e]
        rw [hg] at hd
        have := P.star_ok hv.ok hj'
        have := hv.l20
        omega
      have hUl := HPT.out.wears
      have HCt := Lib.hid HI.out.cnt
      have HRo := Lib.hid HI.out.row
      have HBe := Lib.hid HI.out.bel
      clear HI HPT
      generalize (P.planTo S p L S.length).2 = U at *
      have hEq := eqCnt U hUw
      have hrg : wr.rangeAt w.heap.size 0 ((cntsL U).map (Value.int .i64)) := fun j v h => by rw [Nat.zero_add]; exact HCt.out.cel j v h
      have hif : (Try.prog.info? 70).map (·.size) = some ((cntsL U).map (Value.int .i64)).length := by rw [List.length_map, cntsL_length]; kernel_rfl
      generalize (cntsL U).map (Value.int .i64) = AA at hEq hrg hif
      have HRg := Lib.hid hrg
      have HIf := Lib.hid hif
      clear hrg hif
      by_cases hS : S = []
      · subst hS
        have hU0 : U = [] := List.eq_nil_of_length_eq_zero hUl
        subst hU0
        simp only [decide_true] at hEq
        go_wp2_with (refine wpList_load_mid rfl 70 (.tmp 5) rfl w.heap.size 0 rfl AA (.array 20 3) HRg.out Try.underlying70 rfl HIf.out ?_)
        go_ret
        exact ⟨_, rfl, by rw [HPl.out]; exact World.ownsRow_nil _ _ _ _, HBe.out⟩
      · have hU0 : ¬ (U = []) := fun e => hS (List.eq_nil_of_length_eq_zero (by rw [← hUl, e]; rfl))
        rw [decide_eq_false hU0] at hEq
        clear hU0 hS
        go_wp2_with (refine wpList_load_mid rfl 70 (.tmp 5) rfl w.heap.size 0 rfl AA (.array 20 3) HRg.out Try.underlying70 rfl HIf.out ?_)
        go_ret
        exact ⟨_, rfl, by rw [HPl.out]; exact owns_mono HRo.out (by omega), HBe.out⟩
end Go.Proofs.Ytpkffjcmoghaaaa
/- Walks of the program's functions: has, weight. -/
namespace Go.Proofs.Ytpkffjcmoghaaaa
open Go.RowKit
set_option maxRecDepth 20000 in
set_option maxHeartbeats 2000000 in
theorem hasP_any (B : Nat) (p L : Int) (a : Option Addr) (cap : Nat) (S : List P.Star) (f t : Int) (w : World) (hl : S.length ≤ 1000000) (h : Job w B p L a cap S) :
    Calls Try.prog 62 #[.pointer (some ⟨B, 0, none⟩), .agg #[.int .i64 f, .int .i64 t]] w fun e w' => e = .returned (.int .i64 (P.cnt S f t : Nat)) ∧ Below w.heap.size w w' := by
  have hbn := Below.new w (.cells #[.int .i64 f, .int .i64 t] 83)
  have x3 := (h.on hbn).x3
  have HJ := Lib.hid (h.on hbn)
  have HC := Lib.hid (Cells.new w #[.int .i64 f, .int .i64 t] 83)
  have HB := Lib.hid hbn
  clear h hbn
  go_enter Try.func62, Try.ntmps62
  go_wp2_with fail
  generalize w.alloc (.cells #[.int .i64 f, .int .i64 t] 83) = W1 at *
  obtain ⟨C, hC⟩ : ∃ C, w.heap.size = C := ⟨_, rfl⟩
  rw [hC] at HC HB ⊢
  have HCe := Lib.hid hC
  clear hC x3
  go_loopw [5, 7, 14] (fun n _ i wr => ∃ j : Nat, j ≤ S.length ∧ i = .int .i64 j ∧ n = .int .i64 (P.cnt (S.take j) f t : Nat) ∧ Hid (Job wr B p L a cap S) ∧ Hid (Cells wr C [.int .i64 f, .int .i64 t]) ∧ Hid (Below C w wr)) (fun _ _ i _ => S.length - (intOf i).toNat)
  case atStart => exact ⟨0, by omega, rfl, rfl, HJ, HC, HB⟩
  case round =>
    clear HJ HC HB
    obtain ⟨j, hj, rfl, rfl, HJ, HC, HB⟩ := hrel
    by_cases hlt : j < S.length
    · obtain ⟨sb, soff, hae, s1, s2, s3⟩ := HJ.out.st j hlt
      have hCt := Lib.hid (cnt_take S f t j hlt)
      have hb : P.cnt (S.take j) f t ≤ 1000000 := Nat.le_trans (cnt_le _ _ _) (by rw [List.length_take]; omega)
      have hI : (j : Int) < (S.length : Int) := by omega
      have hbn := Below.new wr (.cells #[.int .i64 (P.star S j).1, .int .i64 (P.star S j).2.1, .int .i64 (P.star S j).2.2] 59)
      have HJ1 := Lib.hid (HJ.out.on hbn)
      have HC1 := Lib.hid (HC.out.on hbn)
      have HB1 := Lib.hid (HB.out.trans (hbn.mono (Nat.le_of_lt HC.out.lt)))
      have D := Cells.new wr #[.int .i64 (P.star S j).1, .int .i64 (P.star S j).2.1, .int .i64 (P.star S j).2.2] 59
      have d0 := D.cel 0 _ rfl
      have d1 := D.cel 1 _ rfl
      have e0 := HC1.out.cel 0 _ rfl
      have e1 := HC1.out.cel 1 _ rfl
      subst hae
      clear hbn D HJ HC HB
      by_cases c1 : f ≤ (P.star S j).1
      · by_cases c2 : (P.star S j).2.1 ≤ t
        · go_wp2_with fail
          go_roundw
          case rel => exact ⟨j + 1, by omega, by go_num, by rw [hCt.out, if_pos ⟨c1, c2⟩]; go_num, HJ1, HC1, HB1⟩
          case measure => simp [intOf]; omega
        · go_wp2_with fail
          go_roundw
          case rel => exact ⟨j + 1, by omega, by go_num, by rw [hCt.out, if_neg (fun h => c2 h.2)]; go_num, HJ1, HC1, HB1⟩
          case measure => simp [intOf]; omega
      · go_wp2_with fail
        go_roundw
        case rel => exact ⟨j + 1, by omega, by go_num, by rw [hCt.out, if_neg (fun h => c1 h.1)]; go_num, HJ1, HC1, HB1⟩
        case measure => simp [intOf]; omega
    · have hI : ¬ (j : Int) < (S.length : Int) := by omega
      go_wp2_with fail
      go_ret
      exact ⟨ret_int (by rw [List.take_of_length_le (by omega)]), by rw [HCe.out]; exact HB.out⟩
set_option maxRecDepth 20000 in
set_option maxHeartbeats 2000000 in
theorem weightP_any (B : Nat) (p L : Int) (a : Option Addr) (cap : Nat) (S : List P.Star) (w : World) (hl : S.length ≤ 1000000) (hw : ∀ s ∈ S, 1 ≤ s.2.2 ∧ s.2.2 ≤ 100) (h : Job w B p L a cap S) :
    Calls Try.prog 67 #[.pointer (some ⟨B, 0, none⟩)] w fun e w' => e = .returned (.int .i64 (wsum S)) ∧ Below w.heap.size w w' := by
  have x3 := h.x3
  have HW := Lib.hid hw
  have HJ := Lib.hid h
  clear h hw
  go_enter Try.func67, Try.ntmps67
  go_wp2_with fail
  clear x3
  go_loopw [3, 5, 12] (fun n _ i wr => ∃ j : Nat, j ≤ S.length ∧ i = .int .i64 j ∧ n = .int .i64 (wsum (S.take j)) ∧ Hid (Job wr B p L a cap S) ∧ Hid (Below w.heap.size w wr)) (fun _ _ i _ => S.length - (intOf i).toNat)
  case atStart => exact ⟨0, by omega, rfl, rfl, HJ, Lib.hid (Below.refl _ _)⟩
  case round =>
    clear HJ
    obtain ⟨j, hj, rfl, rfl, HJ, HB⟩ := hrel
    by_cases hlt : j < S.length
    · obtain ⟨sb, soff, hae, s1, s2, s3⟩ := HJ.out.st j hlt
      have HS := Lib.hid (wsum_take S j hlt)
      obtain ⟨m1, m2⟩ := wsum_bd (S := S.take j) (fun s hs => HW.out s (List.mem_of_mem_take hs))
      obtain ⟨m3, m4⟩ := HW.out _ (P.star_mem hlt)
      have hb3 : ((S.take j).length : Int) ≤ 1000000 := by rw [List.length_take]; omega
      have hI : (j : Int) < (S.length : Int) := by omega
      have hbn := Below.new wr (.cells #[.int .i64 (P.star S j).1, .int .i64 (P.star S j).2.1, .int .i64 (P.star S j).2.2] 59)
      have HJ1 := Lib.hid (HJ.out.on hbn)
      have HB1 := Lib.hid (HB.out.trans (hbn.mono HB.out.size))
      have D := Cells.new wr #[.int .i64 (P.star S j).1, .int .i64 (P.star S j).2.1, .int .i64 (P.star S j).2.2] 59
      have d2 := D.cel 2 _ rfl
      subst hae
      clear hbn D HJ HB
      go_wp2_with fail
      go_roundw
      case rel => exact ⟨j + 1, by omega, by go_num, by rw [HS.out], HJ1, HB1⟩
      case measure => simp [intOf]; omega
    · have hI : ¬ (j : Int) < (S.length : Int) := by omega
      have HS : Hid (S.take j = S) := Lib.hid (List.take_of_length_le (by omega))
      go_wp2_with fail
      go_ret
      exact ⟨ret_int (by rw [HS.out]), HB.out⟩
end Go.Proofs.Ytpkffjcmoghaaaa
/- Walks of the program's functions: open; isList. -/
namespace Go.Proofs.Ytpkffjcmoghaaaa
open Go.RowKit
def openC (p L : Int) (S : List P.Star) (l : List Int) : Int := if P.checkJob p L S ≠ 0 then P.checkJob p L S else if withinB 0 ((S.length : Int) - 1) l then 0 else 2
/-- What open gives. -/
def Opened (w w' : World) (e : Ending) (p L : Int) (a : Option Addr) (cap : Nat) (S : List P.Star) (c : Int) : Prop :=
  ((c ≠ 0 ∧ e = .returned (.tuple #[.pointer none, .int .i64 c])) ∨ (c = 0 ∧ ∃ B, e = .returned (.tuple #[.pointer (some ⟨B, 0, none⟩), .int .i64 0]) ∧ Cells w' B [.int .i64 p, .int .i64 L, .slice a S.length cap] ∧ w.heap.size ≤ B)) ∧ Below w.heap.size w w'
set_option maxRecDepth 20000 in
set_option maxHeartbeats 2000000 in
theorem open_any (a : Option Addr) (cap : Nat) (p L : Int) (S : List P.Star) (ba : Option Addr) (cap2 : Nat) (l : List Int) (w : World) (hl : S.length ≤ 1000000) (hl2 : l.length ≤ 1000000) (ha : Stars w a S) (hb : Ints .i64 w ba l) :
    Calls Try.prog 55 #[jobV p L a S.length cap, .slice ba l.length cap2] w fun e w' => Opened w w' e p L a cap S (openC p L S l) := by
  have hbn := Below.new w (.cells #[.int .i64 p, .int .i64 L, .slice a S.length cap] 24)
  have HC0 := Lib.hid (Cells.new w #[.int .i64 p, .int .i64 L, .slice a S.length cap] 24)
  have HB0 := Lib.hid hbn
  have HK := Lib.hid (checkJob_any a cap p L S _ hl (ha.alloc (.cells #[.int .i64 p, .int .i64 L, .slice a S.length cap] 24)))
  have HI0 := Lib.hid (hb.alloc (.cells #[.int .i64 p, .int .i64 L, .slice a S.length cap] 24))
  clear ha hb hbn
  by_cases hc : P.checkJob p L S = 0
  · rw [hc] at HK
    have hw1 : IntKind.i64.wrap ((S.length : Int) - 1) = (S.length : Int) - 1 := IntWalk.i64_in _ (by omega)
    have HE : Hid (openC p L S l = if withinB 0 ((S.length : Int) - 1) l then 0 else 2) := Lib.hid (by unfold openC; rw [hc]; rfl)
    have HWi := Lib.hid (fun W (h : Ints .i64 W ba l) => within_any 0 ((S.length : Int) - 1) ba cap2 l W hl2 h)
    clear hc
    go_enter Try.func55, Try.ntmps55
    go_wp2_with fail
    refine HK.out.mono ?_
    rintro e w1 ⟨rfl, hb1⟩
    have HC1 := Lib.hid (HC0.out.on hb1)
    have HB1 := Lib.hid (HB0.out.trans (hb1.mono HB0.out.size))
    have HI1 := Lib.hid (HI0.out.below hb1)
    have e2 := HC1.out.cel 2 _ rfl
    clear hb1 HC0 HB0 HI0
    go_wp2_with fail
    refine (HWi.out _ HI1.out).mono ?_
    rintro e w2 ⟨rfl, hb2⟩
    have HC2 := Lib.hid (HC1.out.on hb2)
    have HB2 := Lib.hid (HB1.out.trans (hb2.mono HB1.out.size))
    clear e2 HC1 HB1 HI1 hb2
    cases hwi : withinB 0 ((S.length : Int) - 1) l with
    | false =>
      have HE2 : Hid (openC p L S l = 2) := Lib.hid (by rw [HE.out, hwi]; rfl)
      clear hwi
      go_wp2_with fail
      go_ret2
      exact ⟨.inl ⟨by rw [HE2.out]; decide, by rw [HE2.out]; rfl⟩, HB2.out⟩
    | true =>
      have HE2 : Hid (openC p L S l = 0) := Lib.hid (by rw [HE.out, hwi]; rfl)
      have e0 := HC2.out.cel 0 _ rfl
      have e1 := HC2.out.cel 1 _ rfl
      have e2 := HC2.out.cel 2 _ rfl
      clear hwi
      go_wp2_with fail
      go_ret2
      exact ⟨.inr ⟨HE2.out, _, rfl, Cells.new w2 _ 77, HB2.out.size⟩, HB2.out.trans ((Below.new w2 _).mono HB2.out.size)⟩
  · have HE : Hid (openC p L S l = P.checkJob p L S) := Lib.hid (by unfold openC; rw [if_pos hc])
    generalize P.checkJob p L S = C at *
    go_enter Try.func55, Try.ntmps55
    go_wp2_with fail
    refine HK.out.mono ?_
    rintro e w1 ⟨rfl, hb1⟩
    have HB1 := Lib.hid (HB0.out.trans (hb1.mono HB0.out.size))
    have hc' := ne_bool hc
    clear hb1 HC0 HB0 HI0
    go_wp2_with fail
    go_ret2
    exact ⟨.inl ⟨by rw [HE.out]; exact hc, by rw [HE.out]; rfl⟩, HB1.out⟩
end Go.Proofs.Ytpkffjcmoghaaaa
/- Walks of the program's functions: isList; contains; the copy of a row of indexes. -/
namespace Go.Proofs.Ytpkffjcmoghaaaa
open Go.RowKit
set_option maxRecDepth 20000 in
set_option maxHeartbeats 2000000 in
theorem isListP_any (b : Option Addr) (cap : Nat) (l : List Int) (below : Int) (w : World) (hl : l.length ≤ 1000000) (hbw : 0 ≤ below ∧ below ≤ 1000000) (hb : Ints .i64 w b l) :
    Calls Try.prog 65 #[.slice b l.length cap, .int .i64 below] w fun e w' => e = .returned (.bool (P.isList l below)) ∧ Below w.heap.size w w' := by
  have HA := Lib.hid hb; clear hb
  obtain ⟨hb0, hb1⟩ := hbw
  go_enter Try.func65, Try.ntmps65
  go_wp2_with fail
  go_loopw [5, 7, 10] (fun nx _ i wr => ∃ (j : Nat) (z : Int), j ≤ l.length ∧ i = .int .i64 j ∧ nx = .int .i64 z ∧ (j = 0 → z = 0) ∧ (0 < j → z = nth l (j - 1) + 1 ∧ 0 ≤ nth l (j - 1) ∧ nth l (j - 1) < below) ∧ Hid (∀ k, k < j → 0 ≤ nth l k ∧ nth l k < below ∧ (0 < k → nth l (k - 1) < nth l k)) ∧ Hid (Below w.heap.size w wr)) (fun _ _ i _ => l.length - (intOf i).toNat)
  case atStart => exact ⟨0, 0, by omega, rfl, rfl, fun _ => rfl, fun h => by omega, Lib.hid (fun k h => by omega), Lib.hid (Below.refl _ _)⟩
  case round =>
    obtain ⟨j, z, hj, rfl, rfl, hz0, hz1, hr, HB⟩ := hrel
    by_cases hlt : j < l.length
    · obtain ⟨bb, off, rfl, -⟩ := HA.out j hlt
      have hc := cell_on (HB.out) ((HA.out).cellAt j hlt)
      have hI : (j : Int) < (l.length : Int) := by omega
      have hzb : 0 ≤ z ∧ z ≤ 1000000 := by
        rcases Nat.eq_zero_or_pos j with h | h
        · rw [hz0 h]; omega
        · have := hz1 h; omega
      have hbn := Below.new wr (.cells #[.int .i64 (nth l j)] 3)
      have HWo := Lib.hid (within_one z (below - 1) (nth l j) (wr.alloc (.cells #[.int .i64 (nth l j)] 3)) wr.heap.size (cell_new1 _ _ _))
      have HB1 := Lib.hid (HB.out.trans (hbn.mono HB.out.size))
      clear hbn HB
      by_cases hok : z ≤ nth l j ∧ nth l j ≤ below - 1
      · rw [decide_eq_true hok] at HWo
        have HZ0 := Lib.hid hz0
        have HZ1 := Lib.hid hz1
        obtain ⟨ho1, ho2⟩ := hok
        have hnw : IntKind.i64.wrap (nth l j + 1) = nth l j + 1 := IntWalk.i64_in _ (by omega)
        clear hz0 hz1
        generalize hx : nth l j = x at *
        have HX := Lib.hid hx
        clear hx
        go_wp2_with fail
        refine HWo.out.mono ?_
        rintro e w2 ⟨rfl, hb2⟩
        have HB2 := Lib.hid (HB1.out.trans (hb2.mono HB1.out.size))
        clear hb2
        go_wp2_with fail
        go_roundw
        case rel => exact ⟨j + 1, x + 1, by omega, by go_num, by go_num, fun h => by omega, fun _ => by rw [Nat.add_sub_cancel, HX.out]; omega, Lib.hid (fun k hk => by
          by_cases e : k = j
          · subst e
            rw [HX.out]
            refine ⟨by omega, by omega, fun h => ?_⟩
            have := HZ1.out h; omega
          · exact hr.out k (by omega)), HB2⟩
        case measure => simp [intOf]; omega
      · rw [decide_eq_false hok] at HWo
        have HF := Lib.hid (isList_no (below := below) hlt (fun h => by
          apply hok
          rcases Nat.eq_zero_or_pos j with h0 | h0
          · have := hz0 h0; omega
          · have := hz1 h0; have := h.2.2 h0; omega))
        clear hz0 hz1 hok
        generalize nth l j = x at *
        go_wp2_with fail
        refine HWo.out.mono ?_
        rintro e w2 ⟨rfl, hb2⟩
        go_wp2_with fail
        go_ret
        exact ⟨by rw [HF.out]; rfl, HB1.out.trans (hb2.mono HB1.out.size)⟩
    · have hI : ¬ (j : Int) < (l.length : Int) := by omega
      have HF : Hid (P.isList l below = true) := Lib.hid (isList_iff.2 (fun i hi => hr.out i (by omega)))
      go_wp2_with fail
      go_ret
      exact ⟨by rw [HF.out]; rfl, HB.out⟩
theorem take_mem_succ {l : List Int} {j : Nat} (h : j < l.length) (x : Int) : x ∈ l.take (j + 1) ↔ x ∈ l.take j ∨ x = nth l j := by
  rw [take_succ_nth l j h]; simp
set_option maxRecDepth 20000 in
set_option maxHeartbeats 2000000 in
theorem containsP_any (b : Option Addr) (cap : Nat) (l : List Int) (x : Int) (w : World) (hl : l.length ≤ 1000000) (hb : Ints .i64 w b l) :
    Calls Try.prog 86 #[.slice b l.length cap, .int .i64 x] w fun e w' => e = .returned (.bool (decide (x ∈ l))) ∧ w = w' := by
  have HI : Hid (Calls Try.prog 97 #[.slice b l.length cap, .int .i64 x] w fun e w' => ∃ k : Int, e = .returned (.int .i64 k) ∧ (0 ≤ k ↔ x ∈ l) ∧ w = w') := Lib.hid (by
    have HA := Lib.hid hb; clear hb
    go_enter Try.func97, Try.ntmps97
    go_wp2_with fail
    go_loop [5, 8] (fun _ i => ∃ j : Nat, j ≤ l.length ∧ i = .int .i64 j ∧ Hid (x ∉ l.take j)) (fun _ i => l.length - (intOf i).toNat)
    case atStart => exact ⟨0, by omega, rfl, Lib.hid (by simp)⟩
    case round =>
      obtain ⟨j, hj, rfl, hn⟩ := hrel
      by_cases hlt : j < l.length
      · obtain ⟨bb, off, rfl, -⟩ := HA.out j hlt
        have hc := (HA.out).cellAt j hlt
        have hI : (j : Int) < (l.length : Int) := by omega
        have hq0 : (0 : Int) ≤ (j : Int) := by omega
        by_cases he : x = nth l j
        · have HM : Hid (x ∈ l) := Lib.hid (by rw [he, nth_eq l j hlt]; exact List.getElem_mem hlt)
          rw [← he] at hc
          clear he
          go_wp2_with fail
          go_ret
          exact ⟨(j : Int), rfl, ⟨fun _ => HM.out, fun _ => hq0⟩, rfl⟩
        · have HM : Hid (x ∉ l.take (j + 1)) := Lib.hid (by rw [take_mem_succ hlt]; rintro (h | h); exact hn.out h; exact he h)
          have hbq : (x == nth l j) = false := by simp [he]
          generalize nth l j = z at *
          go_wp2_with fail
          go_round
          case rel => exact ⟨j + 1, by omega, by go_num, HM⟩
          case measure => simp [intOf]; omega
      · have hI : ¬ (j : Int) < (l.length : Int) := by omega
        have HM : Hid (x ∉ l) := Lib.hid (by have := hn.out; rwa [List.take_of_length_le (by omega)] at this)
        go_wp2_with fail
        go_ret
        exact ⟨-1, rfl, ⟨fun h => by omega, fun h => absurd h HM.out⟩, rfl⟩)
  clear hb
  go_enter Try.func86, Try.ntmps86
  go_wp2_with fail
  refine HI.out.mono ?_
  rintro e w1 ⟨k, rfl, hk, rfl⟩
  have HK := Lib.hid hk
  clear hk
  go_wp2_with fail
  go_ret
  exact ⟨ret_bool (decide_eq_decide.2 HK.out), rfl⟩
set_option maxRecDepth 20000 in
set_option maxHeartbeats 1000000 in
theorem cloneI_any (a : Option Addr) (cap : Nat) (l : List Int) (w : World) (hl : l.length ≤ 1000000) (ha : Ints .i64 w a l) :
    Calls Try.prog 82 #[.slice a l.length cap] w fun e w' => ∃ v, e = .returned v ∧ w'.ownsRow w.heap.size 3 1 v l.length (l.map (.int .i64)) ∧ Below w.heap.size w w' := by
  cases a with
  | none =>
    have h0 : l = [] := by
      cases l with
      | nil => rfl
      | cons s r => obtain ⟨b, off, e, -⟩ := ha 0 (by simp); cases e
    subst h0
    have hn := fun W => Lib.run_eql_slice_nil (P := Try.prog) W 25 3 none 0 cap 0 0 Try.underlying25
    go_enter Try.func82, Try.ntmps82
    go_wp2_with fail
    go_ret
    exact ⟨_, rfl, World.ownsRow_nil _ _ _ _, Below.refl _ _⟩
  | some ad =>
    have HA := Lib.hid (ha.alloc (.cells #[] 3))
    have HO1 : Hid ((w.alloc (.cells #[] 3)).ownsRow w.heap.size 3 1 (.slice (some ⟨w.heap.size, 0, none⟩) 0 0) 0 []) := Lib.hid (owns_empty w (base := w.heap.size) 3 1 (Nat.le_refl _))
    have HN : Hid (∀ j u, (l.map (Value.int .i64))[j]? = some u → (w.alloc (.cells #[] 3)).cell? (ad.add j) = some u) := Lib.hid (by
      intro j u hj
      have hlt : j < l.length := by have := (List.getElem?_eq_some_iff.1 hj).1; simpa using this
      obtain ⟨b, off, e, c⟩ := HA.out j hlt
      cases e
      rw [addr_add, c]
      simp [hlt] at hj
      rw [← hj, nth_eq l j hlt])
    have hlt : w.heap.size ≤ (w.alloc (.cells #[] 3)).heap.size := by simp
    have hln : 0 + l.length ≤ 2000000 := by omega
    clear ha
    have hn := fun W => Lib.run_eql_slice_nil (P := Try.prog) W 25 3 (some ad) l.length cap 0 0 Try.underlying25
    go_enter Try.func82, Try.ntmps82
    go_wp2_with (at_builtin; refine listApp T25 rfl (.tmp 5) (.tmp 6) rfl w.heap.size (.slice (some ⟨w.heap.size, 0, none⟩) 0 0) 0 [] (l.map (.int .i64)) l.length cap ad rfl HO1.out rfl (by simp) HN.out (ints_one l) hln hlt ?_; intro v1 w1 hown1 hg1 hL1)
    go_ret
    exact ⟨v1, rfl, by simpa using hown1, ((Below.new w _).grown hg1 (by simp) (fun k e => by simp [Value.ownBlock] at e; omega))⟩
end Go.Proofs.Ytpkffjcmoghaaaa
/- Walks of the program's functions: some. -/
namespace Go.Proofs.Ytpkffjcmoghaaaa
open Go.RowKit
structure SomeI (w0 : World) (C B : Nat) (p L : Int) (a : Option Addr) (cap : Nat) (S : List P.Star) (T : List P.Star) (v : Value) (w : World) : Prop where
  job : Job w B p L a cap S
  cel : Cells w C [.int .i64 p, .int .i64 L, v]
  row : w.ownsRow (C + 1) 59 3 v T.length (flatS T)
  bel : Below C w0 w
theorem SomeI.on {w0 : World} {C B : Nat} {p L : Int} {a : Option Addr} {cap : Nat} {S T : List P.Star} {v : Value} {w w' : World} (h : SomeI w0 C B p L a cap S T v w) (hb : Below w.heap.size w w') : SomeI w0 C B p L a cap S T v w' :=
  ⟨h.job.on hb, h.cel.on hb, owns_below h.row hb, h.bel.trans (hb.mono (Nat.le_of_lt h.cel.lt))⟩
set_option maxRecDepth 20000 in
set_option maxHeartbeats 4000000 in
theorem someP_any (B : Nat) (p L : Int) (a : Option Addr) (cap : Nat) (S : List P.Star) (ai : Option Addr) (ci : Nat) (I : List Nat) (w : World) (hl : S.length ≤ 1000000) (hlI : I.length ≤ 1000000) (h : Job w B p L a cap S) (hI : Ints .i64 w ai (intsN I)) (hlt : ∀ i ∈ I, i < S.length) :
    Calls Try.prog 66 #[.pointer (some ⟨B, 0, none⟩), .slice ai I.length ci] w fun e w' => ∃ C a' cap', e = .returned (.pointer (some ⟨C, 0, none⟩)) ∧ Job w' C p L a' cap' (P.sel S I) ∧ w.heap.size ≤ C ∧ Below w.heap.size w w' := by
  have x1 := h.x1
  have x2 := h.x2
  have hbB := h.lt
  have hbn : Below w.heap.size w ((w.alloc (.cells #[.int .i64 p, .int .i64 L, .slice none 0 0] 77)).drew) := (Below.new w _).drew
  have hsz0 : True := trivial
  have HI0 := Lib.hid (show SomeI w w.heap.size B p L a cap S (P.sel S (I.take 0)) (.slice none 0 0) ((w.alloc (.cells #[.int .i64 p, .int .i64 L, .slice none 0 0] 77)).drew) from
    ⟨h.on hbn, (Cells.new w #[.int .i64 p, .int .i64 L, .slice none 0 0] 77).on ((Below.refl _ _).drew), World.ownsRow_nil _ _ _ _, hbn⟩)
  have HA0 := Lib.hid h.st.lt
  have HIn := Lib.hid hI
  have HLt := Lib.hid hlt
  clear h hI hbn hlt
  go_enter Try.func66, Try.ntmps66
  go_wp2_with fail
  go_still_tail 12, (by kernel_rfl)
  change wpList _ _ _ _ _ w.drew
  go_wp2_with fail
  generalize (w.alloc (.cells #[.int .i64 p, .int .i64 L, .slice none 0 0] 77)).drew = W1 at *
  obtain ⟨C, hC⟩ : ∃ C, w.heap.size = C := ⟨_, rfl⟩
  rw [hC] at HI0 HA0 hbB ⊢
  have HCe := Lib.hid hC
  clear hC x1 x2 hsz0
  go_loopw [7, 23] (fun _ i wr => ∃ (j : Nat) (v : Value), j ≤ I.length ∧ i = .int .i64 j ∧ Hid (SomeI w C B p L a cap S (P.sel S (I.take j)) v wr)) (fun _ i _ => I.length - (intOf i).toNat)
  case atStart => exact ⟨0, _, by omega, rfl, HI0⟩
  case round =>
    clear HI0
    obtain ⟨j, v, hj, rfl, HI⟩ := hrel
    by_cases hlt : j < I.length
    · have hij : I[j] < S.length := HLt.out _ (List.getElem_mem hlt)
      obtain ⟨bi, oi, rfl, -⟩ := HIn.out j (by rw [intsN_length]; exact hlt)
      have hci := cell_on (by rw [HCe.out]; exact HI.out.bel) (HIn.out.cellAt j (by rw [intsN_length]; exact hlt))
      have hni : nth (intsN I) j = ((I[j] : Nat) : Int) := by simp [nth, intsN, hlt]
      rw [hni] at hci
      have hTk : P.sel S (I.take (j + 1)) = P.sel S (I.take j) ++ [P.star S I[j]] := by rw [List.take_succ_eq_append_getElem hlt, sel_snoc]
      have HTk := Lib.hid hTk
      have hTl : (P.sel S (I.take j)).length = j := by simp [P.sel, List.length_take]; omega
      have HTl := Lib.hid hTl
      clear hni hTk hTl
      generalize I[j] = m at *
      generalize P.sel S (I.take j) = T at *
      have hI3 : (j : Int) < (I.length : Int) := by omega
      obtain ⟨sb, soff, hae, s1, s2, s3⟩ := HI.out.job.st m hij
      have hsb : sb < C := HA0.out (by omega) sb soff hae
      subst hae
      have y2 := HI.out.cel.cel 2 _ rfl
      have x3 := HI.out.job.x3
      have k1 : (0 : Int) ≤ (m : Int) := by omega
      have k2 : (m : Int) < (S.length : Int) := by omega
      go_wp2_with fail
      clear hci
      refine wp_region_field 14 19 16 (fun w' => w'.cell? ⟨C, 2, none⟩ = some v ∧ w'.cell? ⟨B, 2, none⟩ = some (.slice (some ⟨sb, soff, none⟩) S.length cap) ∧ w'.cell? ⟨sb, soff + m * 3, none⟩ = some (.int .i64 (P.star S m).1) ∧ w'.cell? ⟨sb, soff + m * 3 + 1, none⟩ = some (.int .i64 (P.star S m).2.1) ∧ w'.cell? ⟨sb, soff + m * 3 + 2, none⟩ = some (.int .i64 (P.star S m).2.2)) (by kernel_rfl) (by kernel_rfl) ⟨y2, x3, s1, s2, s3⟩ ?_
      simp only [List.take_succ_cons, List.take_zero, List.drop_succ_cons, List.drop_zero]
      iterate 14 (refine headH_step _ (fun w' hS' => by (obtain ⟨g1, g2, g3, g4, g5⟩ := hS'; simp [execOp, go_sem, *]; try rfl)) ?_)
      refine headH_nil ?_
      change tailH _ _ _ _ _ wr.drew
      refine tailH_step (fun K hK => ?_)
      go_simp
      obtain ⟨W1, hW1⟩ : ∃ W1, W1 = (wr.alloc (.cells #[.int .i64 (P.star S m).1, .int .i64 (P.star S m).2.1, .int .i64 (P.star S m).2.2] 59)).drew := ⟨_, rfl⟩
      rw [← hW1]
      have hb1 : Below wr.heap.size wr W1 := by rw [hW1]; exact (Below.new wr _).drew
      have hnews : ∀ j u, (encS (P.star S m))[j]? = some u → W1.cell? ((⟨wr.heap.size, 0, none⟩ : Addr).add j) = some u := by rw [hW1]; exact news_new wr #[.int .i64 (P.star S m).1, .int .i64 (P.star S m).2.1, .int .i64 (P.star S m).2.2] 59
      have hI1 := HI.out.on hb1
      have hsC := HI.out.cel.lt
      have hsz1 := hb1.size
      have hJ2 : ∀ w2, W1.grownBy w2 v.ownBlock → Job w2 B p L (some ⟨sb, soff, none⟩) cap S := fun w2 hg => hI1.job.kept hg (fun e => by have := (hI1.row.lt _ e).1; omega) (fun _ b off e e2 => by cases e; have := (hI1.row.lt _ e2).1; omega)
      have hC2 : ∀ w2, W1.grownBy w2 v.ownBlock → Cells w2 C [.int .i64 p, .int .i64 L, v] := fun w2 hg => hI1.cel.grown hg (fun e => by have := (hI1.row.lt _ e.symm).1; omega)
      have hB2 : ∀ w2, W1.grownBy w2 v.ownBlock → Below C w w2 := fun w2 hg => hI1.bel.grown hg (by omega) (fun g e => by have := (hI1.row.lt _ e).1; omega)
      have hrow1 := hI1.row
      have hS1 : ∀ w2, Job w2 B p L (some ⟨sb, soff, none⟩) cap S → Cells w2 C [.int .i64 p, .int .i64 L, v] → w2.cell? ⟨C, 2, none⟩ = some v ∧ w2.cell? ⟨B, 2, none⟩ = some (.slice (some ⟨sb, soff, none⟩) S.length cap) ∧ w2.cell? ⟨sb, soff + m * 3, none⟩ = some (.int .i64 (P.star S m).1) ∧ w2.cell? ⟨sb, soff + m * 3 + 1, none⟩ = some (.int .i64 (P.star S m).2.1) ∧ w2.cell? ⟨sb, soff + m * 3 + 2, none⟩ = some (.int .i64 (P.star S m).2.2) := fun w2 h1 h2 => by
        obtain ⟨b', o', e, g1, g2, g3⟩ := h1.st m hij
        cases e
        exact ⟨h2.cel 2 _ rfl, h1.x3, g1, g2, g3⟩
      have hTn : T.length + 1 ≤ 2000000 := by rw [HTl.out]; omega
      clear hW1
      refine hK _ _ (hS1 _ hI1.job hI1.cel) ?_
      clear hK K y2 x3 s1 s2 s3
      refine tailH_step (fun K hK => ?_)
      refine wpApp T22 (.tmp 32) (.tmp 41) rfl (C + 1) v T.length (flatS T) (encS (P.star S m)) 1 1 ⟨wr.heap.size, 0, none⟩ rfl hrow1 rfl rfl hnews (by simp [encS, Value.oneCell']) hTn (by omega) (fun v2 w2 hown2 hg2 hL2 => ?_)
      rw [← flatS_snoc] at hown2
      obtain ⟨-, a2, c2, rfl, -, -⟩ := owns_stars hown2
      have HJ2 := Lib.hid (hJ2 w2 hg2)
      have HC2 := Lib.hid (hC2 w2 hg2)
      have HB2 := Lib.hid (hB2 w2 hg2)
      have HR2 := Lib.hid hown2
      have HS2 := Lib.hid (hS1 w2 HJ2.out HC2.out)
      have hv2 : (Value.slice a2 (T.length + 1) c2).ownBlock ≠ some C := fun e => by have := (hown2.lt _ e).1; omega
      refine hK _ _ HS2.out ?_
      clear hK K hJ2 hC2 hB2 hI1 hnews hrow1 hown2 hg2 hL2 hb1 hS1 HI
      refine tailH_step (fun K hK => ?_)
      go_simp
      refine hK _ _ HS2.out ?_
      clear hK K
      refine tailH_step (fun K hK => ?_)
      go_simp
      refine hK _ _ HS2.out ?_
      clear hK K
      refine tailH_step (fun K hK => ?_)
      go_simp
      refine hK _ _ HS2.out ?_
      clear hK K
      have z2 := HC2.out.cel 2 _ rfl
      have f2 := HC2.out.fr 2
      refine tailH_last (fun K hK => ?_)
      go_simp
      refine hK _ _ (NoPanic.normal ?_)
      clear hK K z2 f2
      have hn : SomeI w C B p L (some ⟨sb, soff, none⟩) cap S (T ++ [P.star S m]) (.slice a2 (T.length + 1) c2) (w2.setCell ⟨C, 2, none⟩ (.slice a2 (T.length + 1) c2)) :=
        ⟨HJ2.out.setAside C 2 _ (by omega) (fun b off e => by cases e; omega), HC2.out.set 2 _ (by simp), by
          rw [List.length_append, List.length_singleton]; exact owns_setOther HR2.out C 2 _ hv2, HB2.out.setCell (p := ⟨C, 2, none⟩) (Nat.le_refl _) _⟩
      have HN := Lib.hid hn
      clear hn hv2
      go_wp2_with fail
      go_roundw
      case rel => exact ⟨j + 1, _, by omega, by go_num, by rw [HTk.out]; exact HN⟩
      case measure => simp [intOf]; omega
    · have hnI : ¬ (j : Int) < (I.length : Int) := by omega
      have hT : I.take j = I := List.take_of_length_le (by omega)
      rw [hT] at HI
      clear hT
      obtain ⟨hlv, a', c', rfl, hst, hcap⟩ := owns_stars HI.out.row
      have hst' := Lib.hid hst
      clear hst hlv
      go_wp2_with fail
      go_ret
      exact ⟨C, rfl, ⟨a', c', Cells.job HI.out.cel hst'.out⟩, by rw [HCe.out]; exact Nat.le_refl _, by rw [HCe.out]; exact HI.out.bel⟩
end Go.Proofs.Ytpkffjcmoghaaaa
