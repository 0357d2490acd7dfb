/- One text of ComV, ComW, ComX, ComY, LawA, LawB, Steps, LawC, LawD, LawE, LawG, LawI, LawH, LawF. -/
import Derived.Test.YtpkffjcmoghaaaaJ14
import Derived.Laws.CopyOwn
/- Walks of the program's functions: Plan. -/
namespace Go.Proofs.Ytpkffjcmoghaaaa
open Go.RowKit Go.Shelf
set_option maxRecDepth 20000 in
set_option maxHeartbeats 2000000 in
theorem plan_any (a : Option Addr) (cap : Nat) (p L : Int) (S : List P.Star) (w : World) (hl : S.length ≤ 1000000) (ha : Stars w a S) :
    Calls Try.prog 23 #[jobV p L a S.length cap] w fun e w' => GaveL w w' e (P.planE p L S).1 (P.planE p L S).2 := by
  have HB0 := Lib.hid (Below.new w (.cells #[.int .i64 p, .int .i64 L, .slice a S.length cap] 24))
  have HO := Lib.hid (open_any a cap p L S none 0 [] _ hl (by simp) (ha.alloc (.cells #[.int .i64 p, .int .i64 L, .slice a S.length cap] 24)) (Ints.nil _ _ _))
  have HS0 := Lib.hid (ha.alloc (.cells #[.int .i64 p, .int .i64 L, .slice a S.length cap] 24))
  have HC0 := Lib.hid (Cells.new w #[.int .i64 p, .int .i64 L, .slice a S.length cap] 24)
  clear ha
  rw [openC_nil] at HO
  by_cases hc : P.checkJob p L S = 0
  · have hv := P.checkJob_iff.1 hc
    have HZc := Lib.hid hc
    rw [hc] at HO
    have HV := Lib.hid hv
    obtain ⟨pn, rfl⟩ := Int.eq_ofNat_of_zero_le (show 0 ≤ p by have := hv.p1; omega)
    obtain ⟨Ln, rfl⟩ := Int.eq_ofNat_of_zero_le (show 0 ≤ L by have := hv.l1; omega)
    clear hc hv
    cases hf : P.fitsB S pn Ln
    · have HE := Lib.hid (planE_no HZc.out hf)
      go_enter Try.func23, Try.ntmps23
      go_wp2_with fail
      refine HO.out.mono ?_
      rintro e w1 ⟨hcase, hb1⟩
      rcases hcase with ⟨h, -⟩ | ⟨-, B, rfl, hcl, hge⟩
      · exact absurd rfl h
      have HB1 := Lib.hid (HB0.out.trans (hb1.mono HB0.out.size))
      have HJ1 := Lib.hid (hcl.job (HS0.out.below hb1))
      have HS1 := Lib.hid (HS0.out.below hb1)
      have HC1 := Lib.hid (HC0.out.on hb1)
      have HU1 := Lib.hid hcl
      have HGe := Lib.hid hge
      clear hb1 hcl HO HB0 HS0 HC0 hge
      have HFi := fitsP_any B pn Ln a cap S w1 HV.out.len HJ1.out (by have := HV.out.p5; omega) (by have := HV.out.l20; omega) HV.out.ok
      rw [hf] at HFi
      have HFi := Lib.hid HFi
      clear hf
      go_wp2_with fail
      refine (HFi.out).mono ?_
      rintro e w2 ⟨rfl, hb⟩
      have HB2 := Lib.hid (HB1.out.trans (hb.mono HB1.out.size))
      have HJ3 := Lib.hid (HJ1.out.on hb)
      have HS4 := Lib.hid (HS1.out.below hb)
      have HC5 := Lib.hid (HC1.out.on hb)
      have HU6 := Lib.hid (HU1.out.on hb)
      clear hb
      go_wp2_with fail
      go_ret2
      exact ⟨none, 0, by rw [HE.out]; rfl, by rw [HE.out]; exact Ints.nil _ _ _, HB2.out⟩
    · have HE := Lib.hid (planE_yes HZc.out hf)
      go_enter Try.func23, Try.ntmps23
      go_wp2_with fail
      refine HO.out.mono ?_
      rintro e w1 ⟨hcase, hb1⟩
      rcases hcase with ⟨h, -⟩ | ⟨-, B, rfl, hcl, hge⟩
      · exact absurd rfl h
      have HB1 := Lib.hid (HB0.out.trans (hb1.mono HB0.out.size))
      have HJ1 := Lib.hid (hcl.job (HS0.out.below hb1))
      have HS1 := Lib.hid (HS0.out.below hb1)
      have HC1 := Lib.hid (HC0.out.on hb1)
      have HU1 := Lib.hid hcl
      have HGe := Lib.hid hge
      clear hb1 hcl HO HB0 HS0 HC0 hge
      have HFi := fitsP_any B pn Ln a cap S w1 HV.out.len HJ1.out (by have := HV.out.p5; omega) (by have := HV.out.l20; omega) HV.out.ok
      rw [hf] at HFi
      have HFi := Lib.hid HFi
      have HFt := Lib.hid (P.fitsB_iff.1 hf)
      clear hf
      go_wp2_with fail
      refine (HFi.out).mono ?_
      rintro e w2 ⟨rfl, hb⟩
      have HB2 := Lib.hid (HB1.out.trans (hb.mono HB1.out.size))
      have HJ3 := Lib.hid (HJ1.out.on hb)
      have HS4 := Lib.hid (HS1.out.below hb)
      have HC5 := Lib.hid (HC1.out.on hb)
      have HU6 := Lib.hid (HU1.out.on hb)
      clear hb
      have hn := HV.out.len
      obtain ⟨i0, hi, hz0, hz1, hz2⟩ := info_parts T25.hi
      have hby : i0.bytes * S.length ≤ 281474976710656 := by rw [hz2]; omega
      have h63 : S.length ≤ 9223372036854775807 := by omega
      have HIi := Lib.hid (And.intro hi (And.intro hz0 hz1))
      clear hi hz0 hz1 hz2 HFi
      have x3 := HC5.out.cel 2 _ rfl
      have hbn := Below.new w2 (.cells (madeCells #[.int .i64 0] S.length) 3)
      have HPl := fun W hW => planP_any B pn Ln a cap S W hW HV.out HFt.out
      have HPl := Lib.hid HPl
      have HG7 := Lib.hid (alloc_new w2 (.cells (madeCells #[.int .i64 0] S.length) 3))
      go_wp2_with (at_make; refine wpList_make_row _ rfl _ _ 25 rfl 3 i0 (.int .i64 0) Try.underlying25 HIi.out.1 HIi.out.2.1 HIi.out.2.2 rfl _ _ S.length rfl rfl hby h63 ?_)
      clear x3
      have HB8 := Lib.hid (HB2.out.trans (hbn.mono HB2.out.size))
      have HJ9 := Lib.hid (HJ3.out.on hbn)
      have HS10 := Lib.hid (HS4.out.below hbn)
      have HC11 := Lib.hid (HC5.out.on hbn)
      have HU12 := Lib.hid (HU6.out.on hbn)
      clear hbn
      refine (HPl.out _ HJ9.out).mono ?_
      rintro e w3 ⟨v3, rfl, hown3, hb3⟩
      obtain ⟨-, a3, c3, rfl, hi3, -⟩ := Ints.of_ownsRow hown3
      have hlp := (P.plan_spec HV.out.ok HFt.out).1
      have hg3 : w3.heap[w2.heap.size]? = some (.cells (madeCells #[.int .i64 0] S.length) 3 (0, 0)) := (hb3.block _ (by simp)).trans HG7.out
      have HB13 := Lib.hid (HB8.out.trans (hb3.mono HB8.out.size))
      have HJ14 := Lib.hid (HJ9.out.on hb3)
      have HS15 := Lib.hid (HS10.out.below hb3)
      have HC16 := Lib.hid (HC11.out.on hb3)
      have HU17 := Lib.hid (HU12.out.on hb3)
      have hgt : w2.heap.size < w3.heap.size := by have := hb3.size; rw [World.size_alloc] at this; omega
      have HPl3 := Lib.hid hi3
      have hszm : (madeCells #[Value.int .i64 0] S.length).size = S.length := by simp [madeCells]
      have hszl : (madeCells #[Value.int .i64 0] S.length).toList.length = S.length := hszm
      have HG3 : Hid (w3.heap[w2.heap.size]? = some (.cells (madeCells #[Value.int .i64 0] S.length).toList.toArray 3 (0, 0))) := Lib.hid (by rw [Array.toArray_toList]; exact hg3)
      have HMin : Hid (((P.plan S pn Ln).map (Value.int .i64)).length = Nat.min (P.plan S pn Ln).length S.length) := Lib.hid (by rw [List.length_map, hlp]; exact (Nat.min_self _).symm)
      have HFit : Hid (0 + ((P.plan S pn Ln).map (Value.int .i64)).length ≤ (madeCells #[Value.int .i64 0] S.length).toList.length) := Lib.hid (by rw [List.length_map, hlp, hszl]; omega)
      have HPos : Hid (0 < ((P.plan S pn Ln).map (Value.int .i64)).length → ∃ ad, a3 = some ad ∧ ∀ j v, ((P.plan S pn Ln).map (Value.int .i64))[j]? = some v → w3.cell? (ad.add j) = some v) := Lib.hid (fun h => by
        cases a3 with
        | none => exfalso; obtain ⟨b, o, h, -⟩ := hi3 0 (by simpa using h); cases h
        | some b => exact ⟨b, rfl, hi3.news⟩)
      have HOne := Lib.hid (ints_one (P.plan S pn Ln))
      have HSp : Hid (splice (madeCells #[Value.int .i64 0] S.length).toList 0 ((P.plan S pn Ln).map (Value.int .i64)) = (P.plan S pn Ln).map (Value.int .i64)) := Lib.hid (by
        unfold splice
        rw [List.take_zero, List.nil_append, List.drop_eq_nil_of_le (by rw [hszl, List.length_map, hlp]; omega), List.append_nil])
      have HLp := Lib.hid hlp
      have HGe3 : Hid (w.heap.size ≤ w2.heap.size) := Lib.hid (HB2.out.size)
      clear hown3 hb3 hi3 hg3 hszm hszl hlp hgt HPl
      generalize (madeCells #[Value.int .i64 0] S.length).toList = Z at *
      generalize P.plan S pn Ln = l at *
      go_wp2_with (refine wpList_copy_splice rfl (.tmp 24) (.tmp 26) 25 25 rfl 3 Try.underlying25 (by kernel_rfl) (some ⟨w2.heap.size, 0, none⟩) a3 S.length S.length l.length c3 rfl rfl w2.heap.size 0 Z 3 HG3.out (l.map (.int .i64)) HMin.out (fun h => ⟨rfl, HPos.out h⟩) HFit.out HOne.out w2.heap.size w3 (Below.refl _ _) (Nat.le_refl _) ?_; intro w4 hg4 hb4)
      go_ret2
      have hg5 := hg4.out
      rw [HSp.out] at hg5
      refine ⟨some ⟨w2.heap.size, 0, none⟩, S.length, by rw [HE.out]; show _ = Ending.returned (.tuple #[.slice _ l.length _, _]); rw [HLp.out]; rfl, ?_, HB13.out.trans (hb4.mono HGe3.out)⟩
      rw [HE.out]
      intro j hj
      refine ⟨w2.heap.size, 0, rfl, ?_⟩
      have hj' : j < l.length := hj
      simp [World.cell?, hg5, nth, hj']
  · have HE := Lib.hid (planE_bad hc)
    have hc' := ne_bool hc
    generalize P.checkJob p L S = C at *
    go_enter Try.func23, Try.ntmps23
    go_wp2_with fail
    refine HO.out.mono ?_
    rintro e w1 ⟨hcase, hb1⟩
    rcases hcase with ⟨-, rfl⟩ | ⟨h, -⟩
    · have HB1 := Lib.hid (HB0.out.trans (hb1.mono HB0.out.size))
      clear hb1 HO
      go_wp2_with fail
      go_ret2
      exact ⟨none, 0, by rw [HE.out]; rfl, by rw [HE.out]; exact Ints.nil _ _ _, HB1.out⟩
    · exact absurd h hc
end Go.Proofs.Ytpkffjcmoghaaaa
/- Walks of the program's functions: Fewest. -/
namespace Go.Proofs.Ytpkffjcmoghaaaa
open Go.RowKit Go.Lib Go.Sort
def cellN (w : World) (b : Nat) : Nat := (intOf ((w.cell? ⟨b, 0, none⟩).getD (.int .i64 0))).toNat
theorem fitsB_few {S : List P.Star} {L : Int} (q : Nat) : P.fitsB S q L = decide (P.fewest S L ≤ q) := by
  rw [Bool.eq_iff_iff, P.fitsB_iff, P.fits_fewest, decide_eq_true_eq]
structure FewI (w0 : World) (B : Nat) (L : Int) (a : Option Addr) (cap : Nat) (S : List P.Star) (k p : Int) (w : World) : Prop where
  job : Cells w B [.int .i64 k, .int .i64 L, .slice a S.length cap]
  box : Cells w w0.heap.size [.int .i64 p, .int .i64 L, .slice a S.length cap]
  st : Stars w a S
  bel : Below w0.heap.size w0 w
  ge : w0.heap.size < B
  off : ∀ b off, a = some ⟨b, off, none⟩ → 0 < S.length → b < w0.heap.size
theorem FewI.on {w0 : World} {B : Nat} {L : Int} {a : Option Addr} {cap : Nat} {S : List P.Star} {k p : Int} {w w' : World} (h : FewI w0 B L a cap S k p w) (hb : Below w.heap.size w w') : FewI w0 B L a cap S k p w' :=
  ⟨h.job.on hb, h.box.on hb, h.st.below hb, h.bel.trans (hb.mono h.bel.size), h.ge, h.off⟩
theorem FewI.set {w0 : World} {B : Nat} {L : Int} {a : Option Addr} {cap : Nat} {S : List P.Star} {k p : Int} {w : World} (h : FewI w0 B L a cap S k p w) (k2 : Int) : FewI w0 B L a cap S k2 p (w.setCell ⟨B, 0, none⟩ (.int .i64 k2)) := by
  have hge := h.ge
  refine ⟨h.job.set 0 _ (by simp), h.box.setOther 0 _ (by omega), ?_, h.bel.setCell (p := ⟨B, 0, none⟩) (Nat.le_of_lt hge) _, hge, h.off⟩
  rcases Nat.eq_zero_or_pos S.length with h0 | h0
  · intro i hi; omega
  · exact h.st.setAside B 0 _ (fun b off e => by have := h.off b off e h0; omega)
set_option maxRecDepth 20000 in
set_option maxHeartbeats 2000000 in
theorem fewest_any (a : Option Addr) (cap : Nat) (p L : Int) (S : List P.Star) (w : World) (hl : S.length ≤ 1000000) (ha : Stars w a S) :
    Calls Try.prog 25 #[jobV p L a S.length cap] w fun e w' => e = .returned (.tuple #[.int .i64 (P.fewestE p L S).1, .int .i64 (P.fewestE p L S).2]) ∧ Below w.heap.size w w' := by
  have HOff := Lib.hid (fun b off e (h : 0 < S.length) => ha.lt h b off e)
  have HB0 := Lib.hid (Below.new w (.cells #[.int .i64 p, .int .i64 L, .slice a S.length cap] 24))
  have HO := Lib.hid (open_any a cap p L S none 0 [] _ hl (by simp) (ha.alloc (.cells #[.int .i64 p, .int .i64 L, .slice a S.length cap] 24)) (Ints.nil _ _ _))
  have HS0 := Lib.hid (ha.alloc (.cells #[.int .i64 p, .int .i64 L, .slice a S.length cap] 24))
  have HC0 := Lib.hid (Cells.new w #[.int .i64 p, .int .i64 L, .slice a S.length cap] 24)
  clear ha
  rw [openC_nil] at HO
  by_cases hc : P.checkJob p L S = 0
  · have hv := P.checkJob_iff.1 hc
    have HZc := Lib.hid hc
    rw [hc] at HO
    have HV := Lib.hid hv
    obtain ⟨pn, rfl⟩ := Int.eq_ofNat_of_zero_le (show 0 ≤ p by have := hv.p1; omega)
    obtain ⟨Ln, rfl⟩ := Int.eq_ofNat_of_zero_le (show 0 ≤ L by have := hv.l1; omega)
    clear hc hv
    have HE := Lib.hid (fewestE_ok HZc.out)
    by_cases h0 : S.length = 0
    · have hz : ((S.length : Int) == 0) = true := by simp [h0]
      have HP0 := Lib.hid h0
      clear h0
      go_enter Try.func25, Try.ntmps25
      go_wp2_with fail
      refine HO.out.mono ?_
      rintro e w1 ⟨hcase, hb1⟩
      rcases hcase with ⟨h, -⟩ | ⟨-, B, rfl, hcl, hge⟩
      · exact absurd rfl h
      have HB1 := Lib.hid (HB0.out.trans (hb1.mono HB0.out.size))
      have HJ1 := Lib.hid (hcl.job (HS0.out.below hb1))
      have HS1 := Lib.hid (HS0.out.below hb1)
      have HC1 := Lib.hid (HC0.out.on hb1)
      have HU1 := Lib.hid hcl
      have HGe := Lib.hid hge
      clear hb1 hcl HO HB0 HS0 HC0 hge
      have x3 := HC1.out.cel 2 _ rfl
      go_wp2_with fail
      go_ret2
      have hS : S = [] := List.eq_nil_of_length_eq_zero HP0.out
      refine ⟨?_, HB1.out⟩
      rw [HE.out, hS, P.fewest_nil]; rfl
    · have hz : ((S.length : Int) == 0) = false := beq_eq_false_iff_ne.2 (by omega)
      have HP0 := Lib.hid h0
      clear h0
      go_enter Try.func25, Try.ntmps25
      go_wp2_with fail
      refine HO.out.mono ?_
      rintro e w1 ⟨hcase, hb1⟩
      rcases hcase with ⟨h, -⟩ | ⟨-, B, rfl, hcl, hge⟩
      · exact absurd rfl h
      have HB1 := Lib.hid (HB0.out.trans (hb1.mono HB0.out.size))
      have HJ1 := Lib.hid (hcl.job (HS0.out.below hb1))
      have HS1 := Lib.hid (HS0.out.below hb1)
      have HC1 := Lib.hid (HC0.out.on hb1)
      have HU1 := Lib.hid hcl
      have HGe := Lib.hid hge
      clear hb1 hcl HO HB0 HS0 HC0 hge
      have x3 := HC1.out.cel 2 _ rfl
      have HI1 : Hid (FewI w B Ln a cap S pn pn w1) := Lib.hid ⟨HU1.out, HC1.out, HS1.out, HB1.out, Nat.lt_of_lt_of_le (by simp) HGe.out, HOff.out⟩
      have f0 := HI1.out.job.fr 0
      have e0 := HI1.out.job.cel 0 _ rfl
      go_wp2_with fail
      clear hz x3
      have HI2 := Lib.hid (HI1.out.set 1)
      clear f0 e0
      go_loopw [] (fun wr => ∃ k : Nat, 1 ≤ k ∧ k ≤ S.length ∧ Hid (k ≤ P.fewest S Ln) ∧ Hid (FewI w B Ln a cap S k pn wr)) (fun wr => S.length - cellN wr B)
      case atStart => exact ⟨1, by omega, Nat.pos_of_ne_zero HP0.out, Lib.hid (P.fewest_pos HV.out.ok (Nat.pos_of_ne_zero HP0.out)), HI2⟩
      case round =>
        obtain ⟨k, hk1, hkn, hkf, HI⟩ := hrel
        have HN : Hid (cellN wr B = k) := Lib.hid (by have := HI.out.job.cel 0 _ rfl; unfold cellN; rw [this]; simp [intOf])
        have hl16 := HV.out.len
        have e0 := HI.out.job.cel 0 _ rfl
        have b2 := HI.out.box.cel 2 _ rfl
        by_cases hlt : k < S.length
        · have hltI : (k : Int) < (S.length : Int) := by omega
          have r0 := cell_regrown e0
          have r2 := cell_regrown b2
          have kw : IntKind.i64.wrap ((k : Int) + 1) = (k : Int) + 1 := IntWalk.i64_in _ (by omega)
          by_cases hf : P.fewest S Ln ≤ k
          · have cF : ∀ dd os, Calls Try.prog 56 #[.pointer (some ⟨B, 0, none⟩)] (Go.Sort.grow (redrawn wr dd) os) fun e w'' => e = .returned (.bool true) ∧ ∃ p : Regrown, w'' = Go.Sort.grow (redrawn wr p.d) p.os := fun dd os =>
              Calls.regrown_of (by
                have hI := HI.out.on (below_regrown wr dd os)
                have := fitsP_any B k Ln a cap S _ hl16 (hI.job.job hI.st) (by omega) (by have := HV.out.l20; omega) HV.out.ok
                rw [fitsB_few, decide_eq_true hf] at this; exact this)
            have HEq : Hid (P.fewest S Ln = k) := Lib.hid (Nat.le_antisymm hf hkf.out)
            clear e0 b2 hf
            go_wp2_with fail
            refine wp_region_quiet_below (by kernel_rfl) (by kernel_rfl) ?_
            repeat (quiet_step (exact cF _ _))
            refine wpQuiet_nil ?_
            intro _ hw'
            obtain ⟨⟨dq, osq⟩, hw''⟩ := hw'
            subst hw''
            have HI3 := Lib.hid (HI.out.on (below_regrown wr dq osq))
            clear r0 r2 cF
            have e0 := HI3.out.job.cel 0 _ rfl
            go_wp2_with fail
            go_ret2
            exact ⟨by rw [HE.out, HEq.out]; rfl, HI3.out.bel⟩
          · have cF : ∀ dd os, Calls Try.prog 56 #[.pointer (some ⟨B, 0, none⟩)] (Go.Sort.grow (redrawn wr dd) os) fun e w'' => e = .returned (.bool false) ∧ ∃ p : Regrown, w'' = Go.Sort.grow (redrawn wr p.d) p.os := fun dd os =>
              Calls.regrown_of (by
                have hI := HI.out.on (below_regrown wr dd os)
                have := fitsP_any B k Ln a cap S _ hl16 (hI.job.job hI.st) (by omega) (by have := HV.out.l20; omega) HV.out.ok
                rw [fitsB_few, decide_eq_false hf] at this; exact this)
            have HF1 : Hid (k + 1 ≤ P.fewest S Ln) := Lib.hid (by omega)
            clear e0 b2 hf
            go_wp2_with fail
            refine wp_region_quiet_below (by kernel_rfl) (by kernel_rfl) ?_
            repeat (quiet_step (exact cF _ _))
            refine wpQuiet_nil ?_
            intro _ hw'
            obtain ⟨⟨dq, osq⟩, hw''⟩ := hw'
            subst hw''
            have HI3 := Lib.hid (HI.out.on (below_regrown wr dq osq))
            clear r0 r2 cF
            have e0 := HI3.out.job.cel 0 _ rfl
            have f0 := HI3.out.job.fr 0
            go_wp2_with fail
            have HI4 := Lib.hid (HI3.out.set ((k + 1 : Nat) : Int))
            have HN4 : Hid (cellN ((Go.Sort.grow (redrawn wr dq) osq).setCell ⟨B, 0, none⟩ (.int .i64 ((k : Int) + 1))) B = k + 1) := Lib.hid (by have := HI4.out.job.cel 0 _ rfl; unfold cellN; rw [show ((k : Int) + 1) = ((k + 1 : Nat) : Int) by omega, this]; simp [intOf])
            go_roundw
            case rel => exact ⟨k + 1, by omega, by omega, HF1, by have := HI4; rw [show ((k + 1 : Nat) : Int) = (k : Int) + 1 by omega] at this ⊢; exact this⟩
            case measure => rw [HN.out, HN4.out]; omega
        · have hltI : ¬ (k : Int) < (S.length : Int) := by omega
          have HEq : Hid (P.fewest S Ln = k) := Lib.hid (Nat.le_antisymm (by have := (P.fewest_spec S Ln).1; omega) hkf.out)
          go_wp2_with fail
          go_quiet (fail)
          have HI3 := Lib.hid (HI.out.on (Drew.below ⟨nq, rfl⟩ _))
          clear e0 b2
          have e0 := HI3.out.job.cel 0 _ rfl
          go_wp2_with fail
          go_ret2
          exact ⟨by rw [HE.out, HEq.out]; rfl, HI3.out.bel⟩
  · have HE := Lib.hid (fewestE_bad hc)
    have hc' := ne_bool hc
    generalize P.checkJob p L S = C at *
    go_enter Try.func25, Try.ntmps25
    go_wp2_with fail
    refine HO.out.mono ?_
    rintro e w1 ⟨hcase, hb1⟩
    rcases hcase with ⟨-, rfl⟩ | ⟨h, -⟩
    · have HB1 := Lib.hid (HB0.out.trans (hb1.mono HB0.out.size))
      clear hb1 HO
      go_wp2_with fail
      go_ret2
      exact ⟨by rw [HE.out]; rfl, HB1.out⟩
    · exact absurd h hc
end Go.Proofs.Ytpkffjcmoghaaaa
/- Walks of the program's functions: Times. -/
namespace Go.Proofs.Ytpkffjcmoghaaaa
open Go.RowKit Go.Shelf
theorem canAtP {p L : Nat} {S : List P.Star} {i : Nat} {y : Int} (hv : P.Valid p L S) (hi : i < S.length) (h1 : 0 ≤ y) (h2 : y < L) (W : World) (C : Nat) (a' : Option Addr) (c' : Nat) (hJ : Job W C (p : Int) (L : Int) a' c' (P.atW S i y)) :
    Calls Try.prog 56 #[.pointer (some ⟨C, 0, none⟩)] W fun e w' => e = .returned (.bool (P.canAt S p L i y)) ∧ Below W.heap.size W w' :=
  fitsP_any C p L a' c' (P.atW S i y) W (by rw [P.atW_length]; exact hv.len) hJ (by have := hv.p5; omega) (by have := hv.l20; omega) (hv.ok.at hi h1 h2)
set_option maxRecDepth 20000 in
set_option maxHeartbeats 2000000 in
theorem times_any (a : Option Addr) (cap : Nat) (p L : Int) (S : List P.Star) (i : Int) (w : World) (hl : S.length ≤ 1000000) (ha : Stars w a S) :
    Calls Try.prog 27 #[jobV p L a S.length cap, .int .i64 i] w fun e w' => GaveL w w' e (P.timesE p L S i).1 (P.timesE p L S i).2 := by
  have hsz0 : w.heap.size ≤ (w.alloc (.cells #[.int .i64 p, .int .i64 L, .slice a S.length cap] 24)).heap.size := by simp
  have HB0 := Lib.hid ((Below.new w (.cells #[.int .i64 p, .int .i64 L, .slice a S.length cap] 24)).alloc hsz0 (.cells #[.int .i64 i] 3))
  have HS0 := Lib.hid ((ha.alloc (.cells #[.int .i64 p, .int .i64 L, .slice a S.length cap] 24)).alloc (.cells #[.int .i64 i] 3))
  have HC0 := Lib.hid ((Cells.new w #[.int .i64 p, .int .i64 L, .slice a S.length cap] 24).on (Below.new _ (.cells #[.int .i64 i] 3)))
  have hi1 : Ints .i64 ((w.alloc (.cells #[.int .i64 p, .int .i64 L, .slice a S.length cap] 24)).alloc (.cells #[.int .i64 i] 3)) (some ⟨w.heap.size + 1, 0, none⟩) [i] := by
    intro j hj
    have : j = 0 := by simp at hj; omega
    subst this
    refine ⟨w.heap.size + 1, 0, rfl, ?_⟩
    have := cell_new1 (w.alloc (.cells #[.int .i64 p, .int .i64 L, .slice a S.length cap] 24)) (.int .i64 i) 3
    rw [World.size_alloc] at this
    simp [nth]
  have HO := Lib.hid (open_any a cap p L S (some ⟨w.heap.size + 1, 0, none⟩) 1 [i] _ hl (by simp) HS0.out hi1)
  clear ha hi1 hsz0
  rw [openC_one] at HO
  by_cases hc : P.starred p L S i = 0
  · obtain ⟨hv, hi0, hin⟩ := starred_zero hc
    have HZc := Lib.hid hc
    rw [hc] at HO
    have HV := Lib.hid hv
    obtain ⟨pn, rfl⟩ := Int.eq_ofNat_of_zero_le (show 0 ≤ p by have := hv.p1; omega)
    obtain ⟨Ln, rfl⟩ := Int.eq_ofNat_of_zero_le (show 0 ≤ L by have := hv.l1; omega)
    obtain ⟨m, rfl⟩ := Int.eq_ofNat_of_zero_le hi0
    clear hc
    cases hf : P.fitsB S pn Ln
    · have HE := Lib.hid (timesE_no HZc.out hf)
      obtain ⟨r1, r2, r3⟩ := hv.star (show m < S.length by omega)
      have hL20 := hv.l20
      clear hv
      go_enter Try.func27, Try.ntmps27
      go_wp2_with fail
      refine HO.out.mono ?_
      rintro e w1 ⟨hcase, hb1⟩
      rcases hcase with ⟨h, -⟩ | ⟨-, B, rfl, hcl, hge⟩
      · exact absurd rfl h
      have HB1 := Lib.hid (HB0.out.trans (hb1.mono HB0.out.size))
      have HJ1 := Lib.hid (hcl.job (HS0.out.below hb1))
      have HS1 := Lib.hid (HS0.out.below hb1)
      have HC1 := Lib.hid (HC0.out.on hb1)
      have HU1 := Lib.hid hcl
      have HGe := Lib.hid hge
      clear hb1 hcl HO HB0 HS0 HC0 hge
      have HFi := fitsP_any B pn Ln a cap S w1 HV.out.len HJ1.out (by have := HV.out.p5; omega) (by have := HV.out.l20; omega) HV.out.ok
      rw [hf] at HFi
      have HFi := Lib.hid HFi
      clear hf
      go_wp2_with fail
      refine (HFi.out).mono ?_
      rintro e w2 ⟨rfl, hb⟩
      have HB2 := Lib.hid (HB1.out.trans (hb.mono HB1.out.size))
      have HJ3 := Lib.hid (HJ1.out.on hb)
      have HS4 := Lib.hid (HS1.out.below hb)
      have HC5 := Lib.hid (HC1.out.on hb)
      have HU6 := Lib.hid (HU1.out.on hb)
      clear hb
      go_wp2_with fail
      go_ret2
      exact ⟨none, 0, by rw [HE.out]; rfl, by rw [HE.out]; exact Ints.nil _ _ _, HB2.out⟩
    · have HE := Lib.hid (timesE_yes HZc.out hf)
      obtain ⟨r1, r2, r3⟩ := hv.star (show m < S.length by omega)
      have hL20 := hv.l20
      clear hv
      go_enter Try.func27, Try.ntmps27
      go_wp2_with fail
      refine HO.out.mono ?_
      rintro e w1 ⟨hcase, hb1⟩
      rcases hcase with ⟨h, -⟩ | ⟨-, B, rfl, hcl, hge⟩
      · exact absurd rfl h
      have HB1 := Lib.hid (HB0.out.trans (hb1.mono HB0.out.size))
      have HJ1 := Lib.hid (hcl.job (HS0.out.below hb1))
      have HS1 := Lib.hid (HS0.out.below hb1)
      have HC1 := Lib.hid (HC0.out.on hb1)
      have HU1 := Lib.hid hcl
      have HGe := Lib.hid hge
      clear hb1 hcl HO HB0 HS0 HC0 hge
      have HFi := fitsP_any B pn Ln a cap S w1 HV.out.len HJ1.out (by have := HV.out.p5; omega) (by have := HV.out.l20; omega) HV.out.ok
      rw [hf] at HFi
      have HFi := Lib.hid HFi
      clear hf
      go_wp2_with fail
      refine (HFi.out).mono ?_
      rintro e w2 ⟨rfl, hb⟩
      have HB2 := Lib.hid (HB1.out.trans (hb.mono HB1.out.size))
      have HJ3 := Lib.hid (HJ1.out.on hb)
      have HS4 := Lib.hid (HS1.out.below hb)
      have HC5 := Lib.hid (HC1.out.on hb)
      have HU6 := Lib.hid (HU1.out.on hb)
      clear hb
      have hi : m < S.length := by omega
      have x3 := HC5.out.cel 2 _ rfl
      have hst := HS4.out m hi
      obtain ⟨bb, off, rfl, c1, c2, -⟩ := hst
      obtain ⟨i0, hi0', hz0, hz1, hz2⟩ := info_parts T25.hi
      have HIi := Lib.hid (And.intro hi0' (And.intro hz0 (And.intro hz1 hz2)))
      clear hi0' hz0 hz1 hz2 HFi
      have q0 : (0 : Int) ≤ (m : Int) := by omega
      have q1 : (m : Int) < (S.length : Int) := by omega
      go_wp2_with fail
      clear x3 c1 c2
      go_loopw [8, 9] (fun o x wr => ∃ (k : Nat) (ao : Option Addr) (co : Nat), k ≤ ((P.star S m).2.1 - (P.star S m).1 + 1).toNat ∧ x = .int .i64 ((P.star S m).1 + k) ∧ o = .slice ao (P.timesTo S pn Ln m (P.star S m).1 k).length co ∧ (P.timesTo S pn Ln m (P.star S m).1 k).length ≤ co ∧ Hid (Ints .i64 wr ao (P.timesTo S pn Ln m (P.star S m).1 k)) ∧ Hid (Below w2.heap.size w2 wr)) (fun _ x _ => ((P.star S m).2.1 + 1 - intOf x).toNat)
      case atStart => exact ⟨0, none, 0, by omega, by simp, rfl, Nat.le_refl _, Lib.hid (Ints.nil _ _ _), Lib.hid (Below.refl _ _)⟩
      case round =>
        obtain ⟨k, ao, co, hk, rfl, rfl, hco, HO, HBw⟩ := hrel
        have hT0 : (P.timesTo S pn Ln m (P.star S m).1 k).length ≤ k := timesTo_len _ _ _ _ _ _
        have HB7 := Lib.hid (HB2.out.trans (HBw.out.mono HB2.out.size))
        have HJ8 := Lib.hid (HJ3.out.on HBw.out)
        have HS9 := Lib.hid (HS4.out.below HBw.out)
        have HC10 := Lib.hid (HC5.out.on HBw.out)
        have HU11 := Lib.hid (HU6.out.on HBw.out)
        have x3 := HC10.out.cel 2 _ rfl
        have hst := HS9.out m hi
        obtain ⟨b', off', e', -, c2, -⟩ := hst
        cases e'
        by_cases hlt : (P.star S m).1 + (k : Int) ≤ (P.star S m).2.1
        · have HT := Lib.hid (timesTo_succ S pn Ln m (P.star S m).1 k)
          have hk2 : k ≤ 20 := by omega
          obtain ⟨y, hy⟩ : ∃ y : Int, y = (P.star S m).1 + (k : Int) := ⟨_, rfl⟩
          have HY := Lib.hid hy
          rw [← hy] at HT hlt ⊢
          have hy0 : 0 ≤ y := by omega
          have hy20 : y < 20 := by omega
          have hyL : y < (Ln : Int) := by omega
          clear hy
          have HAt := Lib.hid (atP_any B (pn : Int) (Ln : Int) (some ⟨bb, off, none⟩) cap S m y wr hi hl HJ8.out)
          have HCan := Lib.hid (canAtP HV.out hi hy0 hyL)
          cases hcan : P.canAt S pn Ln m y
          · have HT2 : Hid (P.timesTo S pn Ln m (P.star S m).1 (k + 1) = P.timesTo S pn Ln m (P.star S m).1 k) := Lib.hid (by rw [HT.out, hcan]; simp)
            rw [hcan] at HCan
            clear hcan HT
            generalize P.timesTo S pn Ln m (P.star S m).1 k = T at *
            go_wp2_with fail
            refine HAt.out.mono ?_
            rintro e w3 ⟨C3, a3, c3, rfl, hj3, -, -, hb⟩
            have HB12 := Lib.hid (HB7.out.trans (hb.mono HB7.out.size))
            have HJ13 := Lib.hid (HJ8.out.on hb)
            have HS14 := Lib.hid (HS9.out.below hb)
            have HC15 := Lib.hid (HC10.out.on hb)
            have HU16 := Lib.hid (HU11.out.on hb)
            have HO17 := Lib.hid (HO.out.below hb)
            have HW18 := Lib.hid (HBw.out.trans (hb.mono HBw.out.size))
            clear x3 c2
            have HK3 := Lib.hid hj3
            clear hb hj3 HAt
            go_wp2_with fail
            refine (HCan.out w3 C3 a3 c3 HK3.out).mono ?_
            rintro e w4 ⟨rfl, hb⟩
            have HB19 := Lib.hid (HB12.out.trans (hb.mono HB12.out.size))
            have HJ20 := Lib.hid (HJ13.out.on hb)
            have HS21 := Lib.hid (HS14.out.below hb)
            have HC22 := Lib.hid (HC15.out.on hb)
            have HU23 := Lib.hid (HU16.out.on hb)
            have HO24 := Lib.hid (HO17.out.below hb)
            have HW25 := Lib.hid (HW18.out.trans (hb.mono HW18.out.size))
            clear hb HCan HK3
            go_wp2_with fail
            go_roundw
            case rel => exact ⟨k + 1, ao, co, by have := HY.out; omega, by have := HY.out; go_num, by rw [HT2.out], by rw [HT2.out]; exact hco, by rw [HT2.out]; exact Lib.hid HO24.out, Lib.hid (HW25.out)⟩
            case measure => simp [intOf]; omega
          · have HT2 : Hid (P.timesTo S pn Ln m (P.star S m).1 (k + 1) = P.timesTo S pn Ln m (P.star S m).1 k ++ [y]) := Lib.hid (by rw [HT.out, hcan]; simp)
            rw [hcan] at HCan
            clear hcan HT
            generalize P.timesTo S pn Ln m (P.star S m).1 k = T at *
            go_wp2_with fail
            refine HAt.out.mono ?_
            rintro e w3 ⟨C3, a3, c3, rfl, hj3, -, -, hb⟩
            have HB26 := Lib.hid (HB7.out.trans (hb.mono HB7.out.size))
            have HJ27 := Lib.hid (HJ8.out.on hb)
            have HS28 := Lib.hid (HS9.out.below hb)
            have HC29 := Lib.hid (HC10.out.on hb)
            have HU30 := Lib.hid (HU11.out.on hb)
            have HO31 := Lib.hid (HO.out.below hb)
            have HW32 := Lib.hid (HBw.out.trans (hb.mono HBw.out.size))
            clear x3 c2
            have HK3 := Lib.hid hj3
            clear hb hj3 HAt
            go_wp2_with fail
            refine (HCan.out w3 C3 a3 c3 HK3.out).mono ?_
            rintro e w4 ⟨rfl, hb⟩
            have HB33 := Lib.hid (HB26.out.trans (hb.mono HB26.out.size))
            have HJ34 := Lib.hid (HJ27.out.on hb)
            have HS35 := Lib.hid (HS28.out.below hb)
            have HC36 := Lib.hid (HC29.out.on hb)
            have HU37 := Lib.hid (HU30.out.on hb)
            have HO38 := Lib.hid (HO31.out.below hb)
            have HW39 := Lib.hid (HW32.out.trans (hb.mono HW32.out.size))
            clear hb HCan HK3
            have hnw := Lib.hid (news_new w4 #[.int .i64 y] 3)
            have h1c : ∀ u ∈ [Value.int .i64 y], u.oneCell' = true := by simp [Value.oneCell']
            have hmx2 : T.length + 1 ≤ maxLen := by unfold maxLen; omega
            have hby2 : (T.length + 1) * 8 ≤ 140737488355328 := by omega
            have hfl : T.length < T.length + 1 := by omega
            have hlo : (T.map (Value.int .i64)).length = T.length * 1 := by simp
            have HF8 : Hid (∀ (v8 : Value) (w8 : World), w8.ownsRow (w4.alloc (.cells #[.int .i64 y] 3)).heap.size 3 1 v8 (T.length + 1) (T.map (.int .i64) ++ [.int .i64 y]) → (w4.alloc (.cells #[.int .i64 y] 3)).grownBy w8 none → Below w4.heap.size w4 w8 ∧ ∃ a8 c8, v8 = .slice a8 (T ++ [y]).length c8 ∧ (T ++ [y]).length ≤ c8 ∧ Ints .i64 w8 a8 (T ++ [y])) := Lib.hid (fun v8 w8 hw8 hg8 => by
              have hb : Below w4.heap.size w4 w8 := (Below.new w4 (.cells #[.int .i64 y] 3)).grown hg8 (by simp) (fun q e => by cases e)
              have hw9 : w8.ownsRow (w4.alloc (.cells #[.int .i64 y] 3)).heap.size 3 1 v8 (T.length + 1) ((T ++ [y]).map (.int .i64)) := by
                rw [List.map_append]; exact hw8
              obtain ⟨h9, a8, c8, rfl, hi8, hc8⟩ := Ints.of_ownsRow hw9
              exact ⟨hb, a8, c8, by rw [← h9], by rw [← h9]; exact hc8, hi8⟩)
            cases ao with
            | none =>
              have hT00 : T = [] := by
                cases T with
                | nil => rfl
                | cons t r => obtain ⟨b, o, e, -⟩ := HO38.out 0 (by simp); cases e
              subst hT00
              go_wp2_with (at_builtin; refine listApp T25 rfl (.tmp 51) (.tmp 53) rfl (w4.alloc (.cells #[.int .i64 y] 3)).heap.size (.slice none 0 0) 0 [] [.int .i64 y] 1 1 ⟨w4.heap.size, 0, none⟩ rfl (World.ownsRow_nil _ _ _ _) rfl rfl hnw.out h1c (by decide) (Nat.le_refl _) ?_; intro v8 w8 hown8 hg8 _)
              obtain ⟨hb8, a8, c8, rfl, hc8, hi8⟩ := HF8.out _ _ hown8 hg8
              have HB8 := Lib.hid hb8
              have HI8 := Lib.hid hi8
              clear hown8 hg8 hb8 hi8
              go_roundw
              case rel => exact ⟨k + 1, a8, c8, by have := HY.out; omega, by have := HY.out; go_num, by rw [HT2.out], by rw [HT2.out]; exact hc8, by rw [HT2.out]; exact HI8, Lib.hid (HW39.out.trans (HB8.out.mono HW39.out.size))⟩
              case measure => simp [intOf]; omega
            | some ad =>
              have hol : Hid (∀ b, some ad = some b → ∀ j u, (T.map (Value.int .i64))[j]? = some u → (w4.alloc (.cells #[.int .i64 y] 3)).cell? (b.add j) = some u) := Lib.hid (fun b e => by cases e; exact (HO38.out.alloc (.cells #[.int .i64 y] 3)).news)
              go_wp2_with (at_builtin; refine wpList_append_grows _ rfl (.tmp 51) (.tmp 53) 25 rfl 3 i0 (.int .i64 0) 1 8 Try.underlying25 HIi.out.1 HIi.out.2.1 HIi.out.2.2.1 HIi.out.2.2.2 rfl (by decide) (some ad) T.length T.length (T.map (.int .i64)) rfl (fun e => by cases e) hlo hol.out ⟨w4.heap.size, 0, none⟩ 1 1 [.int .i64 y] rfl rfl hnw.out h1c hfl hmx2 hby2 ?_; intro v8 w8 hown8 hg8)
              obtain ⟨hb8, a8, c8, rfl, hc8, hi8⟩ := HF8.out _ _ hown8 hg8
              have HB8 := Lib.hid hb8
              have HI8 := Lib.hid hi8
              clear hown8 hg8 hb8 hi8
              go_roundw
              case rel => exact ⟨k + 1, a8, c8, by have := HY.out; omega, by have := HY.out; go_num, by rw [HT2.out], by rw [HT2.out]; exact hc8, by rw [HT2.out]; exact HI8, Lib.hid (HW39.out.trans (HB8.out.mono HW39.out.size))⟩
              case measure => simp [intOf]; omega
        · have hkk : k = ((P.star S m).2.1 - (P.star S m).1 + 1).toNat := by omega
          have HF : Hid (P.timesE pn Ln S (m : Int) = (P.timesTo S pn Ln m (P.star S m).1 k, 0)) := Lib.hid (by rw [HE.out, hkk]; rfl)
          clear hkk
          go_wp2_with fail
          go_ret2
          exact ⟨ao, co, by rw [HF.out]; first | done | rfl, by rw [HF.out]; exact HO.out, HB7.out⟩
  · have HE := Lib.hid (timesE_bad hc)
    have hc' := ne_bool hc
    generalize P.starred p L S i = C at *
    go_enter Try.func27, Try.ntmps27
    go_wp2_with fail
    refine HO.out.mono ?_
    rintro e w1 ⟨hcase, hb1⟩
    rcases hcase with ⟨-, rfl⟩ | ⟨h, -⟩
    · have HB1 := Lib.hid (HB0.out.trans (hb1.mono HB0.out.size))
      clear hb1 HO
      go_wp2_with fail
      go_ret2
      exact ⟨none, 0, by rw [HE.out]; rfl, by rw [HE.out]; exact Ints.nil _ _ _, HB1.out⟩
    · exact absurd h hc
end Go.Proofs.Ytpkffjcmoghaaaa
/- Walks of the program's functions: the greatest of numbers; CheckPlan. -/
namespace Go.Proofs.Ytpkffjcmoghaaaa
open Go.RowKit Go.Lib Go.Sort
set_option maxRecDepth 20000 in
set_option maxHeartbeats 1000000 in
theorem max_any (b : Option Addr) (cap : Nat) (l : List Int) (w : World) (h0 : 0 < l.length) (hl : l.length ≤ 1000000) (hb : Ints .i64 w b l) :
    Calls Try.prog 54 #[.slice b l.length cap] w fun e w' => (∃ m, e = .returned (.int .i64 m) ∧ (∃ j, j < l.length ∧ m = nth l j) ∧ ∀ j, j < l.length → nth l j ≤ m) ∧ w = w' := by
  have HA := Lib.hid hb; clear hb
  obtain ⟨bb, off, rfl, -⟩ := HA.out 0 h0
  have c0 := HA.out.cellAt 0 h0
  rw [Nat.add_zero] at c0
  have h1 : ¬ (l.length : Int) < 1 := by omega
  have hI0 : (0 : Int) < (l.length : Int) := by omega
  go_enter Try.func54, Try.ntmps54
  go_wp2_with fail
  clear c0 h1
  go_loop [3, 4] (fun m i => ∃ (j : Nat) (z : Int), 1 ≤ j ∧ j ≤ l.length ∧ i = .int .i64 j ∧ m = .int .i64 z ∧ Hid (∃ k, k < l.length ∧ z = nth l k) ∧ Hid (∀ k, k < j → nth l k ≤ z)) (fun _ i => l.length - (intOf i).toNat)
  case atStart => exact ⟨1, nth l 0, by omega, by omega, rfl, rfl, Lib.hid ⟨0, h0, rfl⟩, Lib.hid (fun k hk => by have h : k = 0 := (by omega); rw [h]; exact Int.le_refl _)⟩
  case round =>
    obtain ⟨j, z, h1, hj, rfl, rfl, HE, HM⟩ := hrel
    by_cases hlt : j < l.length
    · have c := HA.out.cellAt j hlt
      have hI : (j : Int) < (l.length : Int) := by omega
      have HE2 : Hid (∃ k, k < l.length ∧ max z (nth l j) = nth l k) := Lib.hid (by
        by_cases h : z ≤ nth l j
        · exact ⟨j, hlt, by omega⟩
        · obtain ⟨k, hk, e⟩ := HE.out
          exact ⟨k, hk, by omega⟩)
      have HM2 : Hid (∀ k, k < j + 1 → nth l k ≤ max z (nth l j)) := Lib.hid (fun k hk => by
        by_cases e : k = j
        · subst e; omega
        · have := HM.out k (by omega); omega)
      generalize nth l j = x at *
      go_wp2_with fail
      go_round
      case rel => exact ⟨j + 1, max z x, by omega, by omega, by go_num, by first | rfl | (simp [Int.max_def]; done) | (go_num; done), HE2, HM2⟩
      case measure => simp [intOf]; omega
    · have hI : ¬ (j : Int) < (l.length : Int) := by omega
      have hj2 : j = l.length := by omega
      go_wp2_with fail
      go_ret
      exact ⟨⟨z, rfl, HE.out, fun k hk => HM.out k (by omega)⟩, rfl⟩
/-- The greatest of a list. -/
def IsMax (l : List Int) (m : Int) : Prop := (∃ j, j < l.length ∧ m = nth l j) ∧ ∀ j, j < l.length → nth l j ≤ m
theorem isMax_ex : ∀ (l : List Int), 0 < l.length → ∃ m, IsMax l m
  | [], h => by simp at h
  | [x], _ => ⟨x, ⟨0, by simp, rfl⟩, fun j hj => by have h : j = 0 := (by simp at hj; omega); rw [h]; exact Int.le_refl _⟩
  | x :: y :: r, _ => by
    obtain ⟨m, ⟨j, hj, e⟩, hm⟩ := isMax_ex (y :: r) (by simp)
    by_cases h : x ≤ m
    · refine ⟨m, ⟨j + 1, by simp at hj ⊢; omega, e⟩, fun k hk => ?_⟩
      cases k with
      | zero => exact h
      | succ k => exact hm k (by simp at hk ⊢; omega)
    · refine ⟨x, ⟨0, by simp, rfl⟩, fun k hk => ?_⟩
      cases k with
      | zero => exact Int.le_refl _
      | succ k => have := hm k (by simp at hk ⊢; omega); exact Int.le_trans this (by omega)
theorem IsMax.uniq {l : List Int} {m n : Int} (h : IsMax l m) (k : IsMax l n) : m = n := by
  obtain ⟨⟨i, hi, e1⟩, h2⟩ := h
  obtain ⟨⟨j, hj, e2⟩, k2⟩ := k
  have := h2 j hj
  have := k2 i hi
  omega
theorem max_is (b : Option Addr) (cap : Nat) (l : List Int) (M : Int) (w : World) (hM : IsMax l M) (h0 : 0 < l.length) (hl : l.length ≤ 1000000) (hb : Ints .i64 w b l) :
    Calls Try.prog 54 #[.slice b l.length cap] w fun e w' => e = .returned (.int .i64 M) ∧ w = w' :=
  (max_any b cap l w h0 hl hb).mono fun e w' ⟨⟨m, he, h1, h2⟩, hw⟩ => ⟨by rw [he, hM.uniq ⟨h1, h2⟩], hw⟩
theorem Cells.ints {w : World} {b : Nat} {l : List Int} (h : Cells w b (l.map (Value.int .i64))) : Ints .i64 w (some ⟨b, 0, none⟩) l := fun i hi =>
  ⟨b, 0, rfl, by rw [Nat.zero_add]; exact h.cel i _ (by simp [nth, hi])⟩
theorem inB_wear {p L : Int} {S : List P.Star} {l : List Int} (hv : P.Valid p L S) (hn : l.length = S.length) (h : P.inB S l = true) : ∀ j, j < l.length → 0 ≤ nth l j ∧ nth l j < L ∧ nth l j < 20 := by
  intro j hj
  unfold P.inB at h
  rw [List.all_eq_true] at h
  have := h j (by simp; omega)
  rw [decide_eq_true_eq] at this
  have hs := hv.star (show j < S.length by omega)
  have h20 := hv.l20
  have e : P.wear l j = nth l j := rfl
  omega
theorem few_max {p L : Int} {S : List P.Star} {l : List Int} (hv : P.Valid p L S) (hn : l.length = S.length) (h : P.inB S l = true) {M : Int} (hM : IsMax (cntsL l) M) : P.fewB p L l = decide (M ≤ p) := by
  have hw := inB_wear hv hn h
  obtain ⟨⟨j, hj, e⟩, h2⟩ := hM
  have hj20 : j < 20 := by rw [cntsL_length] at hj; exact hj
  rw [nth_cntsL l hj20] at e
  by_cases hp : M ≤ p
  · rw [decide_eq_true hp]
    unfold P.fewB
    rw [List.all_eq_true]
    intro v hv'
    have hvL : v < L.toNat := by simpa using hv'
    have hv20 : v < 20 := by have := hv.l20; omega
    have := h2 v (by rw [cntsL_length]; exact hv20)
    rw [nth_cntsL l hv20] at this
    rw [decide_eq_true_eq]
    unfold P.cntEq
    omega
  · rw [decide_eq_false hp]
    have hp1 := hv.p1
    have hc : 0 < l.countP (fun u => decide (u = (j : Int))) := by omega
    obtain ⟨x, hx, hxe⟩ := List.countP_pos_iff.1 hc
    rw [decide_eq_true_eq] at hxe
    obtain ⟨i, hi, rfl⟩ := List.getElem_of_mem hx
    have := hw i hi
    rw [nth_eq l i hi] at this
    exact fewB_no (n := j) (by omega) (by unfold P.cntEq; omega)
set_option maxRecDepth 20000 in
set_option maxHeartbeats 4000000 in
theorem checkPlan_any (a : Option Addr) (cap : Nat) (p L : Int) (S : List P.Star) (b : Option Addr) (cap2 : Nat) (l : List Int) (w : World) (hl : S.length ≤ 1000000) (hl2 : l.length ≤ 1000000) (ha : Stars w a S) (hb : Ints .i64 w b l) :
    Calls Try.prog 21 #[jobV p L a S.length cap, .slice b l.length cap2] w fun e w' => e = .returned (.int .i64 (P.checkPlan p L S l)) ∧ Below w.heap.size w w' := by
  have hb0 := Below.new w (.cells #[.int .i64 p, .int .i64 L, .slice a S.length cap] 24)
  have HJ0 := Lib.hid (Job.new ha p L cap 24)
  have HI0 := Lib.hid (hb.below hb0)
  have HB0 := Lib.hid hb0
  have HC := Lib.hid (fun W hW => checkJob_any a cap p L S W hl hW)
  clear ha hb0 hb
  by_cases hc : P.checkJob p L S = 0
  · rw [hc] at HC
    have HV := Lib.hid (P.checkJob_iff.1 hc)
    have HZ := Lib.hid hc
    clear hc
    by_cases hlen : l.length = S.length
    · have hlenI : (l.length : Int) = (S.length : Int) := by omega
      have HL := Lib.hid hlen
      have hne : ((l.length : Int) != (S.length : Int)) = false := by rw [hlenI]; simp
      clear hlenI hlen
      go_enter Try.func21, Try.ntmps21
      go_wp2_with fail
      refine (HC.out _ HJ0.out.st).mono ?_
      rintro e w1 ⟨rfl, hb1⟩
      have HB1 := Lib.hid (HB0.out.trans (hb1.mono HB0.out.size))
      have HJ1 := Lib.hid (HJ0.out.on hb1)
      have HI1 := Lib.hid (HI0.out.below hb1)
      clear hb1 HJ0 HI0 HB0 HC
      have x3 := HJ1.out.x3
      go_wp2_with fail
      clear x3
      go_loopw [6, 27] (fun _ i wr => ∃ j : Nat, j ≤ S.length ∧ i = .int .i64 j ∧ Hid (inTo S l j = true) ∧ Hid (Below w1.heap.size w1 wr)) (fun _ i _ => S.length - (intOf i).toNat)
      case atStart => exact ⟨0, by omega, rfl, Lib.hid rfl, Lib.hid (Below.refl _ _)⟩
      case round =>
        obtain ⟨j, hj, rfl, HT, HD⟩ := hrel
        by_cases hlt : j < S.length
        · have hltI : (j : Int) < (S.length : Int) := by omega
          have hltl : (j : Int) < (l.length : Int) := by have := HL.out; omega
          have q0 : (0 : Int) ≤ (j : Int) := by omega
          obtain ⟨b1, off1, rfl, c1⟩ := (HI1.out.below HD.out) j (by rw [HL.out]; exact hlt)
          obtain ⟨b2, off2, rfl, s1, s2, s3⟩ := (HJ1.out.on HD.out).st j hlt
          have HWi := within_one (P.star S j).1 (P.star S j).2.1 (nth l j) ((wr.alloc (.cells #[.int .i64 (P.star S j).1, .int .i64 (P.star S j).2.1, .int .i64 (P.star S j).2.2] 59)).alloc (.cells #[.int .i64 (nth l j)] 3)).drew (wr.heap.size + 1) (by have := cell_new1 (wr.alloc (.cells #[.int .i64 (P.star S j).1, .int .i64 (P.star S j).2.1, .int .i64 (P.star S j).2.2] 59)) (.int .i64 (nth l j)) 3; rw [World.size_alloc] at this; exact this)
          have hbn := Below.new wr (.cells #[.int .i64 (P.star S j).1, .int .i64 (P.star S j).2.1, .int .i64 (P.star S j).2.2] 59)
          have HD2 := Lib.hid (HD.out.trans (hbn.mono HD.out.size))
          have HK : Hid (∀ W, Below (wr.alloc (.cells #[.int .i64 (P.star S j).1, .int .i64 (P.star S j).2.1, .int .i64 (P.star S j).2.2] 59)).heap.size (wr.alloc (.cells #[.int .i64 (P.star S j).1, .int .i64 (P.star S j).2.1, .int .i64 (P.star S j).2.2] 59)) W → W.cell? ⟨wr.heap.size, 0, none⟩ = some (.int .i64 (P.star S j).1) ∧ W.cell? ⟨wr.heap.size, 1, none⟩ = some (.int .i64 (P.star S j).2.1) ∧ W.cell? ⟨b1, off1 + j, none⟩ = some (.int .i64 (nth l j))) := Lib.hid (fun W hW => ⟨cell_on hW (by simp), cell_on hW (by simp), cell_on hW (cell_on hbn c1)⟩)
          cases hin : decide ((P.star S j).1 ≤ nth l j ∧ nth l j ≤ (P.star S j).2.1)
          all_goals
            rw [hin] at HWi
            have HWi := Lib.hid HWi
          · rw [decide_eq_false_iff_not] at hin
            have HF := Lib.hid (checkPlan_in HZ.out HL.out (inB_no hlt (fun h => hin h)))
            clear hin hbn
            generalize nth l j = x at *
            generalize (P.star S j).1 = f at *
            generalize (P.star S j).2.1 = t at *
            generalize (P.star S j).2.2 = g at *
            go_wp2_with fail
            clear s1 s2 s3 c1
            obtain ⟨z0, z1, z2⟩ := HK.out _ (Below.refl _ _)
            go_region_held3 (fun w' => w'.cell? ⟨wr.heap.size, 0, none⟩ = some (.int .i64 f) ∧ w'.cell? ⟨wr.heap.size, 1, none⟩ = some (.int .i64 t) ∧ w'.cell? ⟨b1, off1 + j, none⟩ = some (.int .i64 x))
              (first | exact HK.out _ (((Below.refl _ _).alloc (Nat.le_refl _) _).drew.trans (hbP.mono (by simp))) | go_keep)
              ((go_at_call 52; refine HWi.out.mono ?_; rintro e wP ⟨rfl, hbP⟩))
            have hbQ := HD2.out.trans ((((Below.refl _ _).alloc (Nat.le_refl _) _).drew.trans (hbP.mono (by simp))).mono HD2.out.size)
            clear hbP z0 z1 z2
            go_wp2_with fail
            go_ret
            exact ⟨ret_int (by rw [HF.out]), HB1.out.trans (hbQ.mono HB1.out.size)⟩
          · rw [decide_eq_true_eq] at hin
            have HT2 := Lib.hid (inTo_succ HT.out (show _ ≤ P.wear l j from hin.1) hin.2)
            clear hin hbn
            generalize nth l j = x at *
            generalize (P.star S j).1 = f at *
            generalize (P.star S j).2.1 = t at *
            generalize (P.star S j).2.2 = g at *
            go_wp2_with fail
            clear s1 s2 s3 c1
            obtain ⟨z0, z1, z2⟩ := HK.out _ (Below.refl _ _)
            go_region_held3 (fun w' => w'.cell? ⟨wr.heap.size, 0, none⟩ = some (.int .i64 f) ∧ w'.cell? ⟨wr.heap.size, 1, none⟩ = some (.int .i64 t) ∧ w'.cell? ⟨b1, off1 + j, none⟩ = some (.int .i64 x))
              (first | exact HK.out _ (((Below.refl _ _).alloc (Nat.le_refl _) _).drew.trans (hbP.mono (by simp))) | go_keep)
              ((go_at_call 52; refine HWi.out.mono ?_; rintro e wP ⟨rfl, hbP⟩))
            have hbQ := HD2.out.trans ((((Below.refl _ _).alloc (Nat.le_refl _) _).drew.trans (hbP.mono (by simp))).mono HD2.out.size)
            clear hbP z0 z1 z2
            go_wp2_with fail
            go_roundw
            case rel => exact ⟨j + 1, by omega, by go_num, HT2, Lib.hid hbQ⟩
            case measure => simp [intOf]; omega
        · have hltI : ¬ (j : Int) < (S.length : Int) := by omega
          have HIn : Hid (P.inB S l = true) := Lib.hid (by have := HT.out; rw [show j = S.length by omega] at this; exact this)
          have HWr := Lib.hid (inB_wear HV.out HL.out HIn.out)
          have hbn := Below.new wr (.cells #[.int .i64 0, .int .i64 0, .int .i64 0, .int .i64 0, .int .i64 0, .int .i64 0, .int .i64 0, .int .i64 0, .int .i64 0, .int .i64 0, .int .i64 0, .int .i64 0, .int .i64 0, .int .i64 0, .int .i64 0, .int .i64 0, .int .i64 0, .int .i64 0, .int .i64 0, .int .i64 0] 70)
          have HC0 : Hid (Cells (wr.alloc (.cells #[.int .i64 0, .int .i64 0, .int .i64 0, .int .i64 0, .int .i64 0, .int .i64 0, .int .i64 0, .int .i64 0, .int .i64 0, .int .i64 0, .int .i64 0, .int .i64 0, .int .i64 0, .int .i64 0, .int .i64 0, .int .i64 0, .int .i64 0, .int .i64 0, .int .i64 0, .int .i64 0] 70)) wr.heap.size ((cntsL (l.take 0)).map (.int .i64))) := Lib.hid (Cells.new wr #[.int .i64 0, .int .i64 0, .int .i64 0, .int .i64 0, .int .i64 0, .int .i64 0, .int .i64 0, .int .i64 0, .int .i64 0, .int .i64 0, .int .i64 0, .int .i64 0, .int .i64 0, .int .i64 0, .int .i64 0, .int .i64 0, .int .i64 0, .int .i64 0, .int .i64 0, .int .i64 0] 70)
          have HB2 := Lib.hid (HB1.out.trans (HD.out.mono HB1.out.size))
          have HB3 := Lib.hid (HB2.out.trans (hbn.mono HB2.out.size))
          have HJ3 := Lib.hid ((HJ1.out.on HD.out).on hbn)
          have HI3 := Lib.hid ((HI1.out.below HD.out).below hbn)
          have hJl := (HJ1.out.on HD.out).lt
          have hIl := Lib.hid (fun (h : 0 < l.length) => (HI1.out.below HD.out).at h)
          clear hbn
          go_wp2_with fail
          generalize wr.alloc (.cells #[.int .i64 0, .int .i64 0, .int .i64 0, .int .i64 0, .int .i64 0, .int .i64 0, .int .i64 0, .int .i64 0, .int .i64 0, .int .i64 0, .int .i64 0, .int .i64 0, .int .i64 0, .int .i64 0, .int .i64 0, .int .i64 0, .int .i64 0, .int .i64 0, .int .i64 0, .int .i64 0] 70) = W3 at *
          obtain ⟨C, hC⟩ : ∃ C, wr.heap.size = C := ⟨_, rfl⟩
          rw [hC] at HC0 hJl hIl ⊢
          have hCge : w.heap.size ≤ C := by have := HB2.out.size; omega
          clear hC HB2 HT
          go_loopw [10, 46] (fun _ i wq => ∃ m : Nat, m ≤ l.length ∧ i = .int .i64 m ∧ Hid (Cells wq C ((cntsL (l.take m)).map (.int .i64))) ∧ Hid (Ints .i64 wq b l) ∧ Hid (wq.cell? ⟨w.heap.size, 0, none⟩ = some (.int .i64 p)) ∧ Hid (Below w.heap.size w wq)) (fun _ i _ => l.length - (intOf i).toNat)
          case atStart => exact ⟨0, by omega, rfl, HC0, HI3, Lib.hid HJ3.out.x1, HB3⟩
          case round =>
            clear HB3 HJ3 HI3 HC0
            obtain ⟨m, hm, rfl, HCt, HI, HX, HB⟩ := hrel
            by_cases hlt2 : m < l.length
            · have hlt2I : (m : Int) < (l.length : Int) := by omega
              obtain ⟨g1, g2, g3⟩ := HWr.out m hlt2
              obtain ⟨bb, off, rfl, hc⟩ := HI.out m hlt2
              have HTk := Lib.hid (take_succ_nth l m hlt2)
              obtain ⟨x, hx⟩ := Int.eq_ofNat_of_zero_le g1
              rw [hx] at hc g2 g3 HTk
              have hx20 : x < 20 := by omega
              have cm := HCt.out.cel x _ (cntsL_get (l.take m) hx20)
              rw [nth_cntsL _ hx20] at cm
              have fm := HCt.out.fr x
              have hc1 : (l.take m).countP (fun u => decide (u = (x : Int))) ≤ 1000000 := Nat.le_trans List.countP_le_length (by rw [List.length_take]; omega)
              have HSn := Lib.hid (cntsL_snoc (l.take m) hx20)
              generalize hU : (l.take m).countP (fun u => decide (u = (x : Int))) = c at *
              have q3 : (0 : Int) ≤ (x : Int) := by omega
              have q4 : (x : Int) < 20 := by omega
              have hCb : C ≠ bb := by obtain ⟨b', o', e, hlt⟩ := hIl.out (by omega); cases e; omega
              have kc : IntKind.i64.wrap ((c : Int) + 1) = (c : Int) + 1 := IntWalk.i64_in _ (by omega)
              clear g1 g2 g3 hU hx
              go_wp2_with fail
              go_roundw
              case rel => exact ⟨m + 1, by omega, by go_num, Lib.hid (by rw [HTk.out, ← HSn.out]; exact HCt.out.set x _ (by simp [cntsL, hx20])), Lib.hid (fun i hi => by obtain ⟨b', o', e, hcc⟩ := HI.out i hi; cases e; exact ⟨bb, off, rfl, (World.cell?_setCell_other _ _ _ _ (by first | (simp; done) | (simp; omega))).trans hcc⟩), Lib.hid ((World.cell?_setCell_other _ _ _ _ (by first | (simp; done) | (simp; omega))).trans HX.out), Lib.hid (HB.out.setCell (p := ⟨C, x, none⟩) hCge _)⟩
              case measure => simp [intOf]; omega
            · have hlt2I : ¬ (m : Int) < (l.length : Int) := by omega
              have hT : l.take m = l := List.take_of_length_le (by omega)
              rw [hT] at HCt
              clear hT
              obtain ⟨M, hM⟩ := isMax_ex (cntsL l) (by rw [cntsL_length]; omega)
              have HFM := Lib.hid (few_max HV.out HL.out HIn.out hM)
              have r0 := cell_regrown HX.out
              have cM : ∀ dd os, Calls Try.prog 54 #[.slice (some ⟨C, 0, none⟩) 20 20] (Go.Sort.grow (redrawn wr dd) os) fun e w'' => e = .returned (.int .i64 M) ∧ ∃ p : Regrown, w'' = Go.Sort.grow (redrawn wr p.d) p.os := fun dd os =>
                Calls.regrown_of ((max_is (some ⟨C, 0, none⟩) 20 (cntsL l) M _ hM (by rw [cntsL_length]; omega) (by rw [cntsL_length]; omega) ((HCt.out.on (below_regrown wr dd os)).ints)).mono fun e w' ⟨h1, h2⟩ => ⟨h1, by rw [← h2]; exact Below.refl _ _⟩)
              clear hM
              by_cases hMp : M ≤ p
              · rw [decide_eq_true hMp] at HFM
                have HF := Lib.hid (checkPlan_ok HZ.out HL.out HIn.out HFM.out)
                go_wp2_with fail
                refine wp_region_quiet_below (by kernel_rfl) (by kernel_rfl) ?_
                repeat (quiet_step (exact cM _ _))
                refine wpQuiet_nil ?_
                intro _ hw'
                obtain ⟨⟨dq, osq⟩, hw''⟩ := hw'
                subst hw''
                clear r0 cM
                go_wp2_with fail
                go_ret
                exact ⟨ret_int (by rw [HF.out]), HB.out.trans ((below_regrown wr dq osq).mono HB.out.size)⟩
              · rw [decide_eq_false hMp] at HFM
                have HF := Lib.hid (checkPlan_few HZ.out HL.out HIn.out HFM.out)
                have hMp2 : p < M := by omega
                clear hMp
                go_wp2_with fail
                refine wp_region_quiet_below (by kernel_rfl) (by kernel_rfl) ?_
                repeat (quiet_step (exact cM _ _))
                refine wpQuiet_nil ?_
                intro _ hw'
                obtain ⟨⟨dq, osq⟩, hw''⟩ := hw'
                subst hw''
                clear r0 cM
                go_wp2_with fail
                go_ret
                exact ⟨ret_int (by rw [HF.out]), HB.out.trans ((below_regrown wr dq osq).mono HB.out.size)⟩
    · have hne : ((l.length : Int) != (S.length : Int)) = true := by rw [bne_iff_ne]; omega
      have HF := Lib.hid (checkPlan_len HZ.out hlen)
      go_enter Try.func21, Try.ntmps21
      go_wp2_with fail
      refine (HC.out _ HJ0.out.st).mono ?_
      rintro e w1 ⟨rfl, hb1⟩
      have HB1 := Lib.hid (HB0.out.trans (hb1.mono HB0.out.size))
      have x3 := (HJ0.out.on hb1).x3
      clear hb1
      go_wp2_with fail
      go_ret
      exact ⟨ret_int (by rw [HF.out]), HB1.out⟩
  · have HF := Lib.hid (checkPlan_bad (l := l) hc)
    have hc' := ne_bool hc
    generalize P.checkJob p L S = C at *
    go_enter Try.func21, Try.ntmps21
    go_wp2_with fail
    refine (HC.out _ HJ0.out.st).mono ?_
    rintro e w1 ⟨rfl, hb1⟩
    have HB1 := Lib.hid (HB0.out.trans (hb1.mono HB0.out.size))
    clear hb1
    go_wp2_with fail
    go_ret
    exact ⟨ret_int (by rw [HF.out]), HB1.out⟩
end Go.Proofs.Ytpkffjcmoghaaaa
/- Walks of the statements' own small functions: great, Ints, of, fine. -/
namespace Go.Proofs.Ytpkffjcmoghaaaa
open Go.RowKit
theorem ext_nth {xs ys : List Int} (h : xs.length = ys.length) (hn : ∀ i, i < xs.length → nth xs i = nth ys i) : xs = ys := by
  apply List.ext_getElem h
  intro i h1 h2
  rw [← nth_eq xs i h1, ← nth_eq ys i h2]; exact hn i h1
set_option maxRecDepth 20000 in
set_option maxHeartbeats 1000000 in
theorem ints_any (a : Option Addr) (cap : Nat) (xs : List Int) (b : Option Addr) (cap2 : Nat) (ys : List Int) (w : World) (hx : xs.length ≤ 1000000) (_hy : ys.length ≤ 1000000) (ha : Ints .i64 w a xs) (hb : Ints .i64 w b ys) :
    Calls Try.prog 29 #[.slice a xs.length cap, .slice b ys.length cap2] w fun e w' => e = .returned (.bool (decide (xs = ys))) ∧ Below w.heap.size w w' := by
  have HA := Lib.hid ha
  have HB := Lib.hid hb
  clear ha hb
  by_cases hl : xs.length = ys.length
  · have hl' : ((xs.length : Int) != (ys.length : Int)) = false := by simp [hl]
    have HL := Lib.hid hl
    clear hl
    go_enter Try.func29, Try.ntmps29
    go_wp2_with fail
    go_loopw [5] (fun i wi => ∃ j : Nat, j ≤ xs.length ∧ i = .int .i64 j ∧ Hid (∀ k, k < j → nth xs k = nth ys k) ∧ Drew w wi) (fun i _ => xs.length - (intOf i).toNat)
    case atStart => exact ⟨0, by omega, rfl, Lib.hid (fun k h => by omega), Drew.refl _⟩
    case round =>
      obtain ⟨j, hj, rfl, hr, hdr⟩ := hrel
      by_cases hlt : j < xs.length
      · have hlty : j < ys.length := by have := HL.out; omega
        obtain ⟨b1, o1, rfl, c1⟩ := (HA.out.drew hdr) j hlt
        obtain ⟨b2, o2, rfl, c2⟩ := (HB.out.drew hdr) j hlty
        have k1 : (j : Int) < ↑xs.length := by omega
        have k2 : (j : Int) < ↑ys.length := by omega
        have k3 : (0 : Int) ≤ ↑j := by omega
        cases he : (nth xs j != nth ys j) with
        | false =>
          have HE : Hid (nth xs j = nth ys j) := Lib.hid (by simpa using he)
          go_wp2_with fail
          go_quiet (fail)
          go_wp2_with fail
          go_roundw
          case rel => exact ⟨j + 1, by omega, by go_num, Lib.hid (fun k hk => by rcases Nat.lt_succ_iff_lt_or_eq.1 hk with h | rfl; exact hr.out k h; exact HE.out), hdr.drewN _⟩
          case measure => simp [intOf]; omega
        | true =>
          have HE : Hid (decide (xs = ys) = false) := Lib.hid (by
            rw [decide_eq_false_iff_not]; intro e; rw [e] at he; simp at he)
          go_wp2_with fail
          go_quiet (fail)
          go_wp2_with fail
          go_ret
          exact ⟨ret_bool (by rw [HE.out]), (hdr.drewN _).below _⟩
      · have HE : Hid (decide (xs = ys) = true) := Lib.hid (by
          rw [decide_eq_true_iff]; exact ext_nth HL.out (fun i hi => hr.out i (by omega)))
        go_wp2_with fail
        go_ret
        exact ⟨ret_bool (by rw [HE.out]), hdr.below _⟩
  · have hl' : ((xs.length : Int) != (ys.length : Int)) = true := by rw [bne_iff_ne]; omega
    have HE : Hid (decide (xs = ys) = false) := Lib.hid (by rw [decide_eq_false_iff_not]; intro e; exact hl (by rw [e]))
    clear hl
    go_enter Try.func29, Try.ntmps29
    go_wp2_with fail
    go_ret
    exact ⟨ret_bool (by rw [HE.out]), Below.refl _ _⟩
theorem ints_same (a : Option Addr) (cap n : Nat) (xs : List Int) (b : Option Addr) (cap2 : Nat) (w : World) (hn : xs.length = n) (hn2 : n ≤ 1000000) (ha : Ints .i64 w a xs) (hb : Ints .i64 w b xs) :
    Calls Try.prog 29 #[.slice a n cap, .slice b n cap2] w fun e w' => e = .returned (.bool true) ∧ Below w.heap.size w w' := by
  subst hn
  have := ints_any a cap xs b cap2 xs w hn2 hn2 ha hb
  rw [decide_eq_true rfl] at this
  exact this
set_option maxHeartbeats 400000 in
theorem great_any (a : Option Addr) (cap n : Nat) (p L : Int) (w : World) :
    Calls Try.prog 17 #[jobV p L a n cap] w fun e w' => e = .returned (.bool (decide (24 < n))) ∧ Below w.heap.size w w' := by
  have HB := Lib.hid (Below.new w (.cells #[.int .i64 p, .int .i64 L, .slice a n cap] 24))
  by_cases h : 24 < n
  · have h' : (24 : Int) < ↑n := by omega
    have HE : Hid (decide (24 < n) = true) := Lib.hid (by simpa using h)
    clear h
    go_enter Try.func17, Try.ntmps17
    go_wp2_with fail
    go_ret
    exact ⟨ret_bool (by rw [HE.out]; first | done | simp), HB.out⟩
  · have h' : (n : Int) ≤ 24 := by omega
    have HE : Hid (decide (24 < n) = false) := Lib.hid (by simp; omega)
    clear h
    go_enter Try.func17, Try.ntmps17
    go_wp2_with fail
    go_ret
    exact ⟨ret_bool (by rw [HE.out]; first | done | (simp; done) | (simp; omega)), HB.out⟩
theorem of_any (v : Value) (w : World) : Calls Try.prog 50 #[v] w fun e w' => e = .returned v ∧ w = w' := by
  go_enter Try.func50, Try.ntmps50
  go_wp2_with fail
  go_ret
  exact ⟨rfl, rfl⟩
theorem checkJob_16 {p L : Int} {S : List P.Star} (h : 24 < S.length) : P.checkJob p L S ≠ 0 := fun e => by
  have := (P.checkJob_iff.1 e).len; omega
set_option maxRecDepth 20000 in
set_option maxHeartbeats 1000000 in
theorem fine_any (a : Option Addr) (cap : Nat) (p L : Int) (S : List P.Star) (w : World) (ha : Stars w a S) :
    Calls Try.prog 42 #[jobV p L a S.length cap] w fun e w' => e = .returned (.bool (decide (P.checkJob p L S = 0))) ∧ Below w.heap.size w w' := by
  have HB0 := Lib.hid (Below.new w (.cells #[.int .i64 p, .int .i64 L, .slice a S.length cap] 24))
  have HJ0 := Lib.hid (Job.new ha p L cap 24)
  have HG := great_any a cap S.length p L (w.alloc (.cells #[.int .i64 p, .int .i64 L, .slice a S.length cap] 24))
  clear ha
  by_cases h24 : 24 < S.length
  · rw [decide_eq_true h24] at HG
    have HG := Lib.hid HG
    have HE := Lib.hid (decide_eq_false (checkJob_16 (p := p) (L := L) h24))
    clear h24
    go_enter Try.func42, Try.ntmps42
    go_wp2_with fail
    refine HG.out.mono ?_
    rintro e w1 ⟨rfl, hb1⟩
    have HB1 := Lib.hid (HB0.out.trans (hb1.mono HB0.out.size))
    clear hb1
    go_wp2_with fail
    go_ret
    exact ⟨ret_bool (by rw [HE.out]), HB1.out⟩
  · rw [decide_eq_false h24] at HG
    have HG := Lib.hid HG
    have HC := Lib.hid (fun W hW => refCheckJob_any a cap p L S W (by omega) hW)
    clear h24
    by_cases hc : P.checkJob p L S = 0
    · have hcb : (P.checkJob p L S == 0) = true := by simp [hc]
      have HE := Lib.hid (decide_eq_true hc)
      clear hc
      generalize P.checkJob p L S = C at *
      go_enter Try.func42, Try.ntmps42
      go_wp2_with fail
      refine HG.out.mono ?_
      rintro e w1 ⟨rfl, hb1⟩
      have HB1 := Lib.hid (HB0.out.trans (hb1.mono HB0.out.size))
      have HJ1 := Lib.hid (HJ0.out.on hb1)
      clear hb1
      have x1 := HJ1.out.x1
      have x2 := HJ1.out.x2
      have x3 := HJ1.out.x3
      go_wp2_with fail
      refine (HC.out _ HJ1.out.st).mono ?_
      rintro e w2 ⟨rfl, hb2⟩
      go_wp2_with fail
      go_ret
      exact ⟨ret_bool (by rw [HE.out]), HB1.out.trans (hb2.mono HB1.out.size)⟩
    · have hcb : (P.checkJob p L S == 0) = false := by simp [hc]
      have HE := Lib.hid (decide_eq_false hc)
      clear hc
      generalize P.checkJob p L S = C at *
      go_enter Try.func42, Try.ntmps42
      go_wp2_with fail
      refine HG.out.mono ?_
      rintro e w1 ⟨rfl, hb1⟩
      have HB1 := Lib.hid (HB0.out.trans (hb1.mono HB0.out.size))
      have HJ1 := Lib.hid (HJ0.out.on hb1)
      clear hb1
      have x1 := HJ1.out.x1
      have x2 := HJ1.out.x2
      have x3 := HJ1.out.x3
      go_wp2_with fail
      refine (HC.out _ HJ1.out.st).mono ?_
      rintro e w2 ⟨rfl, hb2⟩
      go_wp2_with fail
      go_ret
      exact ⟨ret_bool (by rw [HE.out]), HB1.out.trans (hb2.mono HB1.out.size)⟩
end Go.Proofs.Ytpkffjcmoghaaaa
/- Walks of the statements' own small functions: Job, and the job of the examples. -/
namespace Go.Proofs.Ytpkffjcmoghaaaa
open Go.RowKit
/-- The stars that some numbers make. -/
def tripsTo (xs : List Int) (j : Nat) : List P.Star := up (fun i r => r ++ [(nth xs (3 * i), nth xs (3 * i + 1), nth xs (3 * i + 2))]) [] j
theorem tripsTo_succ (xs : List Int) (j : Nat) : tripsTo xs (j + 1) = tripsTo xs j ++ [(nth xs (3 * j), nth xs (3 * j + 1), nth xs (3 * j + 2))] := rfl
theorem tripsTo_length (xs : List Int) (j : Nat) : (tripsTo xs j).length = j := by
  induction j with
  | zero => rfl
  | succ j ih => rw [tripsTo_succ, List.length_append, ih]; rfl
structure MkI (w0 : World) (p L : Int) (xs : List Int) (v : Value) (j : Nat) (w : World) : Prop where
  cel : Cells w (w0.heap.size + 1) [.int .i64 p, .int .i64 L, v]
  res : Cells w w0.heap.size [.int .i64 0, .int .i64 0, .slice none 0 0]
  row : w.ownsRow (w0.heap.size + 2) 59 3 v j (flatS (tripsTo xs j))
  bel : Below w0.heap.size w0 w
theorem MkI.on {w0 : World} {p L : Int} {xs : List Int} {v : Value} {j : Nat} {w w' : World} (h : MkI w0 p L xs v j w) (hb : Below w.heap.size w w') : MkI w0 p L xs v j w' :=
  ⟨h.cel.on hb, h.res.on hb, owns_below h.row hb, h.bel.trans (hb.mono h.bel.size)⟩
set_option maxRecDepth 20000 in
set_option maxHeartbeats 4000000 in
theorem job_any (p L : Int) (b : Option Addr) (cap2 : Nat) (xs : List Int) (w : World) (hx : xs.length ≤ 1000) (hb : Ints .i64 w b xs) :
    Calls Try.prog 75 #[.int .i64 p, .int .i64 L, .slice b xs.length cap2] w fun e w' => ∃ v, e = .returned (.agg #[.int .i64 p, .int .i64 L, v]) ∧ w'.ownsRow w.heap.size 59 3 v (xs.length / 3) (flatS (tripsTo xs (xs.length / 3))) ∧ Below w.heap.size w w' := by
  have HB := Lib.hid hb
  have hb0 := (Below.new w (.cells #[.int .i64 0, .int .i64 0, .slice none 0 0] 24)).alloc (by simp) (.cells #[.int .i64 p, .int .i64 L, .slice none 0 0] 24)
  have HI := Lib.hid (show MkI w p L xs (.slice none 0 0) 0 ((w.alloc (.cells #[.int .i64 0, .int .i64 0, .slice none 0 0] 24)).alloc (.cells #[.int .i64 p, .int .i64 L, .slice none 0 0] 24)) from
    ⟨by have := Cells.new (w.alloc (.cells #[.int .i64 0, .int .i64 0, .slice none 0 0] 24)) #[.int .i64 p, .int .i64 L, .slice none 0 0] 24
        rw [World.size_alloc] at this; exact this, (Cells.new w #[.int .i64 0, .int .i64 0, .slice none 0 0] 24).on (Below.new _ _), World.ownsRow_nil _ _ _ _, hb0⟩)
  clear hb hb0
  go_enter Try.func75, Try.ntmps75
  go_wp2_with fail
  go_loopw [8] (fun i wi => ∃ j v, j ≤ xs.length / 3 ∧ i = .int .i64 ((3 * j : Nat) : Int) ∧ Hid (MkI w p L xs v j wi)) (fun i _ => xs.length - (intOf i).toNat)
  case atStart => exact ⟨0, _, by omega, rfl, HI⟩
  case round =>
    obtain ⟨j, v, hj, rfl, HI1⟩ := hrel
    generalize hm : 3 * j = m
    have k1 : IntKind.i64.wrap ((m : Int) + 1) = (m : Int) + 1 := IntWalk.i64_in _ (by omega)
    have kk : IntKind.i64.wrap ((m : Int) + 2) = (m : Int) + 2 := IntWalk.i64_in _ (by omega)
    by_cases hlt : m + 2 < xs.length
    · have hltI : (m : Int) + 2 < ↑xs.length := by omega
      have k2 : (m : Int) < ↑xs.length := by omega
      have k2' : (m : Int) + 1 < ↑xs.length := by omega
      have k3 : (0 : Int) ≤ ↑m := by omega
      have k4 : (0 : Int) ≤ (m : Int) + 1 := by omega
      have k4' : (0 : Int) ≤ (m : Int) + 2 := by omega
      have k5 : ((m : Int) + 1).toNat = m + 1 := by omega
      have k5' : ((m : Int) + 2).toNat = m + 2 := by omega
      obtain ⟨b1, o1, rfl, c1⟩ := (HB.out.below HI1.out.bel) m (by omega)
      have c2 := (HB.out.below HI1.out.bel).cellAt (m + 1) (by omega)
      have c3 := (HB.out.below HI1.out.bel).cellAt (m + 2) (by omega)
      have hx1 := HI1.out.cel.cel 2 _ rfl
      have HS : Hid (tripsTo xs (j + 1) = tripsTo xs j ++ [(nth xs m, nth xs (m + 1), nth xs (m + 2))]) := Lib.hid (by rw [tripsTo_succ, hm])
      have HTl := Lib.hid (tripsTo_length xs j)
      have hn : j + 1 ≤ 2000000 := by omega
      have HM := Lib.hid hm
      have hbl : b1 < w.heap.size := by obtain ⟨b', o', e, h⟩ := HB.out.at (by omega); cases e; exact h
      generalize nth xs m = a0 at *
      generalize nth xs (m + 1) = a1 at *
      generalize nth xs (m + 2) = a2 at *
      generalize hT2 : tripsTo xs (j + 1) = T2 at *
      have HT2 := Lib.hid hT2
      clear hT2
      clear hm
      go_wp2_with fail
      refine wp_region_field 17 20 19 (fun w' => w'.cell? ⟨w.heap.size + 1, 2, none⟩ = some v ∧ w'.cell? ⟨b1, o1 + m, none⟩ = some (.int .i64 a0) ∧ w'.cell? ⟨b1, o1 + (m + 1), none⟩ = some (.int .i64 a1) ∧ w'.cell? ⟨b1, o1 + (m + 2), none⟩ = some (.int .i64 a2)) (by kernel_rfl) (by kernel_rfl) ⟨hx1, c1, c2, c3⟩ ?_
      simp only [List.take_succ_cons, List.take_zero, List.drop_succ_cons, List.drop_zero]
      iterate 17 (refine headH_step _ (fun w' hS' => by (obtain ⟨s1, s2, s3, s4⟩ := hS'; simp [execOp, go_sem, *]; try rfl)) ?_)
      refine headH_nil ?_
      change tailH _ _ _ _ _ wr.drew
      refine tailH_step (fun K hK => ?_)
      go_simp
      obtain ⟨W1, hW1⟩ : ∃ W1, W1 = (wr.alloc (.cells #[.int .i64 a0, .int .i64 a1, .int .i64 a2] 59)).drew := ⟨_, rfl⟩
      rw [← hW1]
      have hb1 : Below wr.heap.size wr W1 := by rw [hW1]; exact (Below.new wr _).drew
      have hnews : ∀ j u, (encS (a0, a1, a2))[j]? = some u → W1.cell? ((⟨wr.heap.size, 0, none⟩ : Addr).add j) = some u := by rw [hW1]; exact news_new wr #[.int .i64 a0, .int .i64 a1, .int .i64 a2] 59
      have hI1 := HI1.out.on hb1
      have hrow1 := hI1.row
      have x1 := cell_on hb1 hx1
      have x2 := cell_on hb1 c1
      have x3 := cell_on hb1 c2
      have x4 := cell_on hb1 c3
      have hsz1 := hb1.size
      have hszr := HI1.out.bel.size
      have hC2 : ∀ w2, W1.grownBy w2 v.ownBlock → Cells w2 (w.heap.size + 1) [.int .i64 p, .int .i64 L, v] := fun w2 hg => hI1.cel.grown hg (fun e => by have := (hI1.row.lt _ e.symm).1; omega)
      have hC3 : ∀ w2, W1.grownBy w2 v.ownBlock → Cells w2 w.heap.size [.int .i64 0, .int .i64 0, .slice none 0 0] := fun w2 hg => hI1.res.grown hg (fun e => by have := (hI1.row.lt _ e.symm).1; omega)
      have hB2 : ∀ w2, W1.grownBy w2 v.ownBlock → Below w.heap.size w w2 := fun w2 hg => hI1.bel.grown hg (by omega) (fun g e => by have := (hI1.row.lt _ e).1; omega)
      have hne : some b1 ≠ v.ownBlock := fun e => by have := (hrow1.lt _ e.symm).1; omega
      have hcl := HI1.out.cel.lt
      clear hW1
      refine hK _ _ ⟨x1, x2, x3, x4⟩ ?_
      clear hK K hx1 c1 c2 c3
      refine tailH_step (fun K hK => ?_)
      refine wpApp T22 (.tmp 20) (.tmp 36) rfl (w.heap.size + 2) v j (flatS (tripsTo xs j)) (encS (a0, a1, a2)) 1 1 ⟨wr.heap.size, 0, none⟩ rfl hrow1 rfl rfl hnews (by simp [encS, Value.oneCell']) hn (by omega) (fun v2 w2 hown2 hg2 hL2 => ?_)
      rw [← flatS_snoc, ← HS.out] at hown2
      have HC2 := Lib.hid (hC2 w2 hg2)
      have HC3 := Lib.hid (hC3 w2 hg2)
      have HB2 := Lib.hid (hB2 w2 hg2)
      have HR2 := Lib.hid hown2
      have y1 := HC2.out.cel 2 _ rfl
      have y2 := hg2.cell x2 hne
      have y3 := hg2.cell x3 hne
      have y4 := hg2.cell x4 hne
      have hv2 : v2.ownBlock ≠ some (w.heap.size + 1) := fun e => by have := (hown2.lt _ e).1; omega
      obtain ⟨-, a5, c5, rfl, -, -⟩ := owns_stars hown2
      refine hK _ _ ⟨y1, y2, y3, y4⟩ ?_
      clear hK K hC2 hC3 hB2 hI1 hnews hrow1 hown2 hg2 hL2 hb1 HI1 x1 x2 x3 x4
      refine tailH_step (fun K hK => ?_)
      go_simp
      refine hK _ _ ⟨y1, y2, y3, y4⟩ ?_
      clear hK K y1 y2 y3 y4
      have z2 := HC2.out.cel 2 _ rfl
      have f2 := HC2.out.fr 2
      refine tailH_last (fun K hK => ?_)
      go_simp
      refine hK _ _ (NoPanic.normal ?_)
      clear hK K z2 f2
      have hn2 : MkI w p L xs (.slice a5 (j + 1) c5) (j + 1) (w2.setCell ⟨w.heap.size + 1, 2, none⟩ (.slice a5 (j + 1) c5)) :=
        ⟨HC2.out.set 2 _ (by simp), HC3.out.setOther 2 _ (by omega), by rw [HT2.out]; exact owns_setOther HR2.out (w.heap.size + 1) 2 (.slice a5 (j + 1) c5) hv2, HB2.out.setCell (p := ⟨w.heap.size + 1, 2, none⟩) (by show w.heap.size ≤ w.heap.size + 1; omega) _⟩
      have HN := Lib.hid hn2
      clear hn2 hv2
      go_wp2_with fail
      go_roundw
      case rel => exact ⟨j + 1, _, by have := HM.out; omega, by have := HM.out; go_num, HN⟩
      case measure => have := HM.out; simp [intOf]; omega
    · have hlt' : ¬ (m : Int) + 2 < (xs.length : Int) := by omega
      have hj2 : j = xs.length / 3 := by omega
      have HJ2 := Lib.hid hj2
      clear hm hj2 hlt
      obtain ⟨hlj, a5, c5, rfl, -, -⟩ := owns_stars HI1.out.row
      have e0 := HI1.out.cel.cel 0 _ rfl
      have e1 := HI1.out.cel.cel 1 _ rfl
      have e2 := HI1.out.cel.cel 2 _ rfl
      have z0 := HI1.out.res.cel 0 _ rfl
      have z1 := HI1.out.res.cel 1 _ rfl
      have z2 := HI1.out.res.cel 2 _ rfl
      have f0 := HI1.out.res.fr 0
      have f1 := HI1.out.res.fr 1
      have f2 := HI1.out.res.fr 2
      clear hlj
      go_wp2_with fail
      have hR := ((HI1.out.res.set 0 (.int .i64 p) (by simp)).set 1 (.int .i64 L) (by simp)).set 2 (.slice a5 j c5) (by simp)
      have hO := owns_setOther (owns_setOther (owns_setOther HI1.out.row w.heap.size 0 (.int .i64 p) (fun e => by have := (HI1.out.row.lt _ e).1; omega)) w.heap.size 1 (.int .i64 L) (fun e => by have := (HI1.out.row.lt _ e).1; omega)) w.heap.size 2 (.slice a5 j c5) (fun e => by have := (HI1.out.row.lt _ e).1; omega)
      have hBl := ((HI1.out.bel.setCell (p := ⟨w.heap.size, 0, none⟩) (Nat.le_refl _) (.int .i64 p)).setCell (p := ⟨w.heap.size, 1, none⟩) (Nat.le_refl _) (.int .i64 L)).setCell (p := ⟨w.heap.size, 2, none⟩) (Nat.le_refl _) (.slice a5 j c5)
      generalize ((wr.setCell ⟨w.heap.size, 0, none⟩ (.int .i64 p)).setCell ⟨w.heap.size, 1, none⟩ (.int .i64 L)).setCell ⟨w.heap.size, 2, none⟩ (.slice a5 j c5) = W at *
      have g0 := hR.cel 0 _ rfl
      have g1 := hR.cel 1 _ rfl
      have g2 := hR.cel 2 _ rfl
      exact bodyPost_ret (v := .agg #[.int .i64 p, .int .i64 L, .slice a5 j c5]) (by simp [results, Try.results75, go_sem, g0, g1, g2]) rfl ⟨_, rfl, by rw [← HJ2.out]; exact owns_mono hO (by omega), hBl⟩
/-- The stars of the examples. -/
def exS : List P.Star := [(0, 1, 5), (0, 0, 3), (1, 3, 4), (2, 3, 2), (3, 3, 6)]
theorem ints_new (w : World) (c : Array Value) (t : TypeId) (xs : List Int) (hc : c.toList = xs.map (Value.int .i64)) : Ints .i64 (w.alloc (.cells c t)) (some ⟨w.heap.size, 0, none⟩) xs := by
  intro i hi
  refine ⟨w.heap.size, 0, rfl, ?_⟩
  have := news_new w c t i (.int .i64 (nth xs i)) (by rw [hc]; simp [nth, hi])
  rwa [addr_add] at this
theorem example_any (p : Int) (w : World) :
    Calls Try.prog 49 #[.int .i64 p] w fun e w' => ∃ a cap, e = .returned (jobV p 5 a 5 cap) ∧ Stars w' a exS ∧ 5 ≤ cap ∧ Below w.heap.size w w' := by
  obtain ⟨W0, hW0⟩ : ∃ W0, (w.alloc (.cells #[.int .i64 0, .int .i64 0, .slice none 0 0] 24)) = W0 := ⟨_, rfl⟩
  have hs0 : W0.heap.size = w.heap.size + 1 := by rw [← hW0]; simp
  have hR0 : Cells W0 w.heap.size [.int .i64 0, .int .i64 0, .slice none 0 0] := by rw [← hW0]; exact Cells.new w #[.int .i64 0, .int .i64 0, .slice none 0 0] 24
  have hb0 : Below w.heap.size w W0 := by rw [← hW0]; exact Below.new w _
  have hbn := Below.new W0 (.cells #[.int .i64 0, .int .i64 1, .int .i64 5, .int .i64 0, .int .i64 0, .int .i64 3, .int .i64 1, .int .i64 3, .int .i64 4, .int .i64 2, .int .i64 3, .int .i64 2, .int .i64 3, .int .i64 3, .int .i64 6] 3)
  have hJ := job_any p 5 (some ⟨W0.heap.size, 0, none⟩) 15 ([0, 1, 5, 0, 0, 3, 1, 3, 4, 2, 3, 2, 3, 3, 6] : List Int) (W0.alloc (.cells #[.int .i64 0, .int .i64 1, .int .i64 5, .int .i64 0, .int .i64 0, .int .i64 3, .int .i64 1, .int .i64 3, .int .i64 4, .int .i64 2, .int .i64 3, .int .i64 2, .int .i64 3, .int .i64 3, .int .i64 6] 3)) (by simp) (ints_new W0 #[.int .i64 0, .int .i64 1, .int .i64 5, .int .i64 0, .int .i64 0, .int .i64 3, .int .i64 1, .int .i64 3, .int .i64 4, .int .i64 2, .int .i64 3, .int .i64 2, .int .i64 3, .int .i64 3, .int .i64 6] 3 [0, 1, 5, 0, 0, 3, 1, 3, 4, 2, 3, 2, 3, 3, 6] rfl)
  rw [show tripsTo ([0, 1, 5, 0, 0, 3, 1, 3, 4, 2, 3, 2, 3, 3, 6] : List Int) (([0, 1, 5, 0, 0, 3, 1, 3, 4, 2, 3, 2, 3, 3, 6] : List Int).length / 3) = exS from by decide +kernel] at hJ
  rw [hs0] at hJ
  have HJ := Lib.hid hJ
  have HR := Lib.hid (hR0.on hbn)
  have HB := Lib.hid (hb0.trans (hbn.mono hb0.size))
  have HS := Lib.hid hs0
  clear hR0 hb0 hbn hJ
  go_enter Try.func49, Try.ntmps49
  go_wp2_with fail
  clear hW0 hs0
  refine HJ.out.mono ?_
  rintro e w2 ⟨v, rfl, hown, hb2⟩
  obtain ⟨hl5, a, cap, rfl, hst, hcap⟩ := owns_stars hown
  have HB2 := Lib.hid (HB.out.trans (hb2.mono HB.out.size))
  have HR2 := Lib.hid (HR.out.on hb2)
  have HO := Lib.hid hown
  have hge : w.heap.size + 1 < (W0.alloc (.cells #[.int .i64 0, .int .i64 1, .int .i64 5, .int .i64 0, .int .i64 0, .int .i64 3, .int .i64 1, .int .i64 3, .int .i64 4, .int .i64 2, .int .i64 3, .int .i64 2, .int .i64 3, .int .i64 3, .int .i64 6] 3)).heap.size := by rw [World.size_alloc]; have := HS.out; omega
  have HGe := Lib.hid hge
  have z0 := HR2.out.cel 0 _ rfl
  have z1 := HR2.out.cel 1 _ rfl
  have z2 := HR2.out.cel 2 _ rfl
  have f0 := HR2.out.fr 0
  have f1 := HR2.out.fr 1
  have f2 := HR2.out.fr 2
  clear hown hb2 hl5 hge HJ HR HB hst
  go_wp2_with fail
  have hR := ((HR2.out.set 0 (.int .i64 p) (by simp)).set 1 (.int .i64 5) (by simp)).set 2 (.slice a 5 cap) (by simp)
  have hlt := HO.out.lt
  have hO := owns_setOther (owns_setOther (owns_setOther HO.out w.heap.size 0 (.int .i64 p) (fun e => by have := (hlt _ e).1; have := HGe.out; omega)) w.heap.size 1 (.int .i64 5) (fun e => by have := (hlt _ e).1; have := HGe.out; omega)) w.heap.size 2 (.slice a 5 cap) (fun e => by have := (hlt _ e).1; have := HGe.out; omega)
  have hBl := ((HB2.out.setCell (p := ⟨w.heap.size, 0, none⟩) (Nat.le_refl _) (.int .i64 p)).setCell (p := ⟨w.heap.size, 1, none⟩) (Nat.le_refl _) (.int .i64 5)).setCell (p := ⟨w.heap.size, 2, none⟩) (Nat.le_refl _) (.slice a 5 cap)
  generalize ((w2.setCell ⟨w.heap.size, 0, none⟩ (.int .i64 p)).setCell ⟨w.heap.size, 1, none⟩ (.int .i64 5)).setCell ⟨w.heap.size, 2, none⟩ (.slice a 5 cap) = W at *
  have g0 := hR.cel 0 _ rfl
  have g1 := hR.cel 1 _ rfl
  have g2 := hR.cel 2 _ rfl
  obtain ⟨-, a', cap', e', hst, -⟩ := owns_stars hO
  cases e'
  exact bodyPost_ret (v := jobV p 5 a 5 cap) (by simp [results, Try.results49, go_sem, g0, g1, g2]) rfl ⟨a, cap, rfl, hst, hcap, hBl⟩
end Go.Proofs.Ytpkffjcmoghaaaa
/- Steps of regions that only add to the world. -/
namespace Go.Proofs.Ytpkffjcmoghaaaa
open Go.RowKit
/-- The value is a slice of its own that reads as some numbers. -/
def KSl (n : Nat) (l : List Int) : Known := fun v w => ∃ g, v = .slice (some ⟨g, 0, none⟩) n n ∧ Ints .i64 w (some ⟨g, 0, none⟩) l
theorem KSl.st (n : Nat) (l : List Int) : ∀ v w w', KSl n l v w → Below w.heap.size w w' → KSl n l v w' := fun _ _ _ ⟨g, e, h⟩ hb => ⟨g, e, h.below hb⟩
section
variable {Q : Exit → Act → World → Prop} {R : List Known} {ks : List Nat} {a : Act} {w : World} {i : Nat} {dst : Option Tmp} {ty : TypeId} {pos : String} {after : Array Edge}
set_option maxRecDepth 20000 in
theorem step_loadJob {B : Nat} {p L : Int} {ad : Option Addr} {cap : Nat} {S : List P.Star} {q : Nat} (hJ : Job w B p L ad cap S) (hq : q ∉ ks) (he : a.eval (.tmp q) = .pointer (some ⟨B, 0, none⟩)) (hR : Rat R i = KEq (jobV p L ad S.length cap)) :
    StepG Try.prog Q R ks a w i ⟨dst, .load 24 (.tmp q), ty, pos, after, none⟩ := by
  intro a' w' hA hb hd K hK
  have e := tmp_of ((hA.eval hq).trans he)
  have x1 := (hJ.on hb).x1
  have x2 := (hJ.on hb).x2
  have x3 := (hJ.on hb).x3
  refine op_value (w' := w') (v := jobV p L ad S.length cap) (by simp [execOp, go_sem, e, x1, x2, x3]) (hK _ _ (Below.refl _ _) (by rw [hR]; rfl))
set_option maxRecDepth 20000 in
theorem step_of {j q : Nat} {n : Nat} {l : List Int} {ats : Array TypeId} (hq : ks.getD j 0 = q) (hj : j ∈ (after.toList.filter (fun e => Region.binds .any e)).map (fun e => e.on)) (hRj : Rat R j = KSl n l) (hR : Rat R i = KSl n l) :
    StepG Try.prog Q R ks a w i ⟨dst, .call { callee := .value (.func 50), args := #[.tmp q], argTypes := ats }, ty, pos, after, none⟩ := by
  intro a' w' hA hb hd K hK
  obtain ⟨g, e, hi⟩ := (show KSl n l _ _ by have := hd j hj; rw [hRj, hq] at this; exact this)
  refine op_call rfl (enters_of Try.func50 (by kernel_rfl) rfl) (args := #[.slice (some ⟨g, 0, none⟩) n n]) (by simp [← e]) (of_any _ w') (fun e' w'' ⟨h1, h2⟩ => ⟨_, h1, ?_⟩)
  subst h2
  exact hK _ _ (Below.refl _ _) (by rw [hR]; exact ⟨g, rfl, hi⟩)
set_option maxRecDepth 20000 in
theorem step_checkPlan {B : Nat} {p L : Int} {ad : Option Addr} {cap : Nat} {S : List P.Star} {j1 j2 q1 q2 n : Nat} {l : List Int} {ats : Array TypeId} {c : Int} (hJ : Job w B p L ad cap S) (hl : S.length ≤ 1000000) (hln : l.length = n) (hn : n ≤ 1000) (hc : P.checkPlan p L S l = c)
    (hq1 : ks.getD j1 0 = q1) (hj1 : j1 ∈ (after.toList.filter (fun e => Region.binds .any e)).map (fun e => e.on)) (hR1 : Rat R j1 = KEq (jobV p L ad S.length cap))
    (hq2 : ks.getD j2 0 = q2) (hj2 : j2 ∈ (after.toList.filter (fun e => Region.binds .any e)).map (fun e => e.on)) (hR2 : Rat R j2 = KSl n l) (hR : Rat R i = KEq (.int .i64 c)) :
    StepG Try.prog Q R ks a w i ⟨dst, .call { callee := .value (.func 21), args := #[.tmp q1, .tmp q2], argTypes := ats }, ty, pos, after, none⟩ := by
  intro a' w' hA hb hd K hK
  subst hln
  have e1 : a'.eval (.tmp q1) = jobV p L ad S.length cap := by have := hd j1 hj1; rw [hR1, hq1] at this; exact this
  obtain ⟨g, e2, hi⟩ := (show KSl l.length l _ _ by have := hd j2 hj2; rw [hR2, hq2] at this; exact this)
  refine op_call rfl (enters_of Try.func21 (by kernel_rfl) rfl) (args := #[jobV p L ad S.length cap, .slice (some ⟨g, 0, none⟩) l.length l.length]) (by simp [← e1, ← e2]) (checkPlan_any ad cap p L S (some ⟨g, 0, none⟩) l.length l w' hl (by omega) (hJ.on hb).st hi) (fun e' w'' ⟨h1, h2⟩ => ⟨_, h1, ?_⟩)
  exact hK _ _ h2 (by rw [hR]; show _ = _; rw [hc])
set_option maxRecDepth 20000 in
theorem step_build {n : Nat} {l : List Int} {its : Array (Nat × Operand)} {c : Array Value} (hc : c.toList = l.map (Value.int .i64)) (hrun : ∀ a' w', (execOp (Act.eval a') ⟨dst, .buildSlice 25 n its, ty, pos, after, none⟩).run Try.prog w' = .ok (.value (.slice (some ⟨w'.heap.size, 0, none⟩) n n)) (w'.alloc (.cells c 3))) (hR : Rat R i = KSl n l) :
    StepG Try.prog Q R ks a w i ⟨dst, .buildSlice 25 n its, ty, pos, after, none⟩ := by
  intro a' w' hA hb hd K hK
  exact op_value (hrun a' w') (hK _ _ (Below.new _ _) (by rw [hR]; exact ⟨_, rfl, ints_new w' c 3 l hc⟩))
set_option maxRecDepth 20000 in
theorem step_struck {B : Nat} {p L : Int} {ad : Option Addr} {cap : Nat} {S : List P.Star} {j1 j2 q1 q2 n : Nat} {l : List Int} {ats : Array TypeId} {c : Int × Int} (hJ : Job w B p L ad cap S) (hl : S.length ≤ 1000000) (hln : l.length = n) (hn : n ≤ 1000) (hc : P.struckE p L S l = c)
    (hq1 : ks.getD j1 0 = q1) (hj1 : j1 ∈ (after.toList.filter (fun e => Region.binds .any e)).map (fun e => e.on)) (hR1 : Rat R j1 = KEq (jobV p L ad S.length cap))
    (hq2 : ks.getD j2 0 = q2) (hj2 : j2 ∈ (after.toList.filter (fun e => Region.binds .any e)).map (fun e => e.on)) (hR2 : Rat R j2 = KSl n l) (hR : Rat R i = KEq (.tuple #[.int .i64 c.1, .int .i64 c.2])) :
    StepG Try.prog Q R ks a w i ⟨dst, .call { callee := .value (.func 34), args := #[.tmp q1, .tmp q2], argTypes := ats }, ty, pos, after, none⟩ := by
  intro a' w' hA hb hd K hK
  subst hln
  have e1 : a'.eval (.tmp q1) = jobV p L ad S.length cap := by have := hd j1 hj1; rw [hR1, hq1] at this; exact this
  obtain ⟨g, e2, hi⟩ := (show KSl l.length l _ _ by have := hd j2 hj2; rw [hR2, hq2] at this; exact this)
  refine op_call rfl (enters_of Try.func34 (by kernel_rfl) rfl) (args := #[jobV p L ad S.length cap, .slice (some ⟨g, 0, none⟩) l.length l.length]) (by simp [← e1, ← e2]) (checkStruck_any ad cap p L S (some ⟨g, 0, none⟩) l.length l w' hl (by omega) (hJ.on hb).st hi) (fun e' w'' ⟨h1, h2⟩ => ⟨_, h1, ?_⟩)
  exact hK _ _ h2 (by rw [hR]; show _ = _; rw [hc])
end
theorem GaveL.lit {w w' : World} {e : Ending} {l : List Int} {c : Int} {n : Nat} (h : GaveL w w' e l c) (hn : l.length = n) : ∃ a2 c2, e = .returned (.tuple #[.slice a2 n c2, .int .i64 c]) ∧ Ints .i64 w' a2 l ∧ Below w.heap.size w w' := by
  subst hn; exact h
theorem Ints.drewN' {k : IntKind} {w : World} {a : Option Addr} {zs : List Int} (h : Ints k w a zs) : Ints k w.drew a zs := h.drewN 1
end Go.Proofs.Ytpkffjcmoghaaaa
/- Walk of Works: the examples hold. -/
namespace Go.Proofs.Ytpkffjcmoghaaaa
open Go.RowKit Go.Lib Go.Sort
set_option maxRecDepth 20000 in
set_option maxHeartbeats 8000000 in
theorem works_any (w : World) : Calls Try.prog 18 #[] w fun e w' => e = .returned (.bool true) ∧ Below w.heap.size w w' := by
  obtain ⟨S, hS⟩ : ∃ S, S = exS := ⟨_, rfl⟩
  have Fp1 : Hid (P.planE 1 5 S = ([], 13)) := Lib.hid (by rw [hS]; decide +kernel)
  have Fp2 : Hid (P.planE 2 5 S = ([0, 0, 1, 2, 3], 0)) := Lib.hid (by rw [hS]; decide +kernel)
  have Fc1 : Hid (P.checkPlan 2 5 S [1, 0, 3, 2, 3] = 0) := Lib.hid (by rw [hS]; decide +kernel)
  have Fc2 : Hid (P.checkPlan 2 5 S [0, 0, 0, 2, 3] = 20) := Lib.hid (by rw [hS]; decide +kernel)
  have Fc3 : Hid (P.checkPlan 2 5 S [0, 0, 3, 3, 3] = 10) := Lib.hid (by rw [hS]; decide +kernel)
  have Fw1 : Hid (P.windowE 1 5 S 0 3 = (5, 0)) := Lib.hid (by rw [hS]; decide +kernel)
  have Fw2 : Hid (P.windowE 1 5 S 1 3 = (0, 14)) := Lib.hid (by rw [hS]; decide +kernel)
  have Ff : Hid (P.fewestE 1 5 S = (2, 0)) := Lib.hid (by rw [hS]; decide +kernel)
  have Ft : Hid (P.timesE 2 5 S 2 = ([1, 2, 3], 0)) := Lib.hid (by rw [hS]; decide +kernel)
  have Fch : Hid (P.chosenE 1 5 S = ([0, 1, 2, 4], 0)) := Lib.hid (by rw [hS]; decide +kernel)
  have Fh : Hid (P.heavyE 1 5 S = (18, 0)) := Lib.hid (by rw [hS]; decide +kernel)
  have Fs1 : Hid (P.struckE 1 5 S [1, 2, 3, 4] = (15, 0)) := Lib.hid (by rw [hS]; decide +kernel)
  have Fs2 : Hid (P.struckE 1 5 S [0, 1, 2, 3, 4] = (0, 13)) := Lib.hid (by rw [hS]; decide +kernel)
  have Fk : Hid (P.kindE 1 5 S 3 = (0, 0)) := Lib.hid (by rw [hS]; decide +kernel)
  have FF1 : Hid (P.fitsB S 1 5 = false) := Lib.hid (by rw [hS]; decide +kernel)
  have FF2 : Hid (P.fitsB S 2 5 = true) := Lib.hid (by rw [hS]; decide +kernel)
  have FJ1 : Hid (P.checkJob 1 5 S = 0) := Lib.hid (by rw [hS]; decide +kernel)
  have FJ2 : Hid (P.checkJob 2 5 S = 0) := Lib.hid (by rw [hS]; decide +kernel)
  have HLen : Hid (S.length ≤ 1000000) := Lib.hid (by rw [hS]; decide)
  have HL5 : Hid (5 = S.length) := Lib.hid (by rw [hS]; rfl)
  have HSx := Lib.hid hS
  clear hS
  go_enter Try.func18, Try.ntmps18
  go_wp2_with fail
  refine (example_any 1 w).mono ?_
  rintro e wa ⟨a1, c1, rfl, hs1, -, hba⟩
  go_wp2_with fail
  refine (example_any 2 wa).mono ?_
  rintro e wb ⟨a2, c2, rfl, hs2, -, hbb⟩
  rw [← HSx.out] at hs1 hs2
  have hs1 := hs1.below hbb
  have hbw := hba.trans (hbb.mono hba.size)
  obtain ⟨W0, hW0⟩ : ∃ W0, (wb.alloc (.cells #[.int .i64 1, .int .i64 5, .slice a1 5 c1] 24)).alloc (.cells #[.int .i64 2, .int .i64 5, .slice a2 5 c2] 24) = W0 := ⟨_, rfl⟩
  have hbn : Below wb.heap.size wb W0 := by rw [← hW0]; exact (Below.new wb _).alloc (by simp) _
  have J10 : Hid (Job W0 wb.heap.size 1 5 a1 c1 S) := Lib.hid (by
    have := (Job.new hs1 1 5 c1 24).on (Below.new _ (.cells #[.int .i64 2, .int .i64 5, .slice a2 5 c2] 24))
    rw [← HL5.out] at this; rw [← hW0]; exact this)
  have J20 : Hid (Job W0 (wb.heap.size + 1) 2 5 a2 c2 S) := Lib.hid (by
    have := Job.new (hs2.alloc (.cells #[.int .i64 1, .int .i64 5, .slice a1 5 c1] 24)) 2 5 c2 24
    rw [← HL5.out, World.size_alloc] at this; rw [← hW0]; exact this)
  have HB0 := Lib.hid (hbw.trans (hbn.mono hbw.size))
  clear hs1 hs2 hba hbb hbw hbn
  have x1 := J10.out.x1
  have x2 := J10.out.x2
  have x3 := J10.out.x3
  have hC := plan_any a1 c1 1 5 S W0 HLen.out J10.out.st
  rw [Fp1.out] at hC
  have HC := Lib.hid hC
  clear hC
  go_wp2_with fail
  clear hW0
  refine HC.out.mono ?_
  intro e w1 hG
  obtain ⟨Ap, Cp, rfl, hi, hb⟩ := hG.lit (n := 0) rfl
  have J14 := Lib.hid (J10.out.on hb)
  have J25 := Lib.hid (J20.out.on hb)
  have HB6 := Lib.hid (HB0.out.trans (hb.mono HB0.out.size))
  clear x1 x2 x3
  clear hb hi hG HC
  have hC := plan_any a2 c2 2 5 S w1 HLen.out J25.out.st
  rw [Fp2.out] at hC
  have HC := Lib.hid hC
  clear hC
  have x7 := J25.out.x1
  have x8 := J25.out.x2
  have x9 := J25.out.x3
  go_wp2_with fail
  refine HC.out.mono ?_
  intro e w2 hG
  obtain ⟨Aq, Cq, rfl, hi, hb⟩ := hG.lit (n := 5) rfl
  have J110 := Lib.hid (J14.out.on hb)
  have J211 := Lib.hid (J25.out.on hb)
  have HB12 := Lib.hid (HB6.out.trans (hb.mono HB6.out.size))
  have Iq := Lib.hid hi
  clear x7 x8 x9
  clear hb hi hG HC
  have x13 := J211.out.x1
  have x14 := J211.out.x2
  have x15 := J211.out.x3
  go_wp2_with fail
  clear x13 x14 x15
  refine wp_region_grows [48, 49, 50, 51, 52, 53, 54, 55, 56, 57, 58, 59, 7, 8, 9] [KEq (jobV 2 5 a2 S.length c2), KSl 5 [1, 0, 3, 2, 3], KSl 5 [1, 0, 3, 2, 3], KEq (.int .i64 0), KEq (jobV 2 5 a2 S.length c2), KSl 5 [0, 0, 0, 2, 3], KSl 5 [0, 0, 0, 2, 3], KEq (.int .i64 20), KEq (jobV 2 5 a2 S.length c2), KSl 5 [0, 0, 3, 3, 3], KSl 5 [0, 0, 3, 3, 3], KEq (.int .i64 10), KEq (.int .i64 0), KEq (.int .i64 20), KEq (.int .i64 10)] (by kernel_rfl) (by kernel_rfl) (by kernel_rfl) rfl ⟨KEq.st (jobV 2 5 a2 S.length c2), KSl.st 5 [1, 0, 3, 2, 3], KSl.st 5 [1, 0, 3, 2, 3], KEq.st (.int .i64 0), KEq.st (jobV 2 5 a2 S.length c2), KSl.st 5 [0, 0, 0, 2, 3], KSl.st 5 [0, 0, 0, 2, 3], KEq.st (.int .i64 20), KEq.st (jobV 2 5 a2 S.length c2), KSl.st 5 [0, 0, 3, 3, 3], KSl.st 5 [0, 0, 3, 3, 3], KEq.st (.int .i64 10), KEq.st (.int .i64 0), KEq.st (.int .i64 20), KEq.st (.int .i64 10), trivial⟩ ⟨step_loadJob J211.out (by decide) rfl rfl, step_build (l := [1, 0, 3, 2, 3]) (c := #[.int .i64 1, .int .i64 0, .int .i64 3, .int .i64 2, .int .i64 3]) rfl (fun a' w' => by simp [execOp, go_sem]) rfl, step_of (j := 1) rfl (by decide +kernel) rfl rfl, step_checkPlan (j1 := 0) (j2 := 2) J211.out HLen.out rfl (by decide) Fc1.out rfl (by decide +kernel) rfl rfl (by decide +kernel) rfl rfl, step_loadJob J211.out (by decide) rfl rfl, step_build (l := [0, 0, 0, 2, 3]) (c := #[.int .i64 0, .int .i64 0, .int .i64 0, .int .i64 2, .int .i64 3]) rfl (fun a' w' => by simp [execOp, go_sem]) rfl, step_of (j := 5) rfl (by decide +kernel) rfl rfl, step_checkPlan (j1 := 4) (j2 := 6) J211.out HLen.out rfl (by decide) Fc2.out rfl (by decide +kernel) rfl rfl (by decide +kernel) rfl rfl, step_loadJob J211.out (by decide) rfl rfl, step_build (l := [0, 0, 3, 3, 3]) (c := #[.int .i64 0, .int .i64 0, .int .i64 3, .int .i64 3, .int .i64 3]) rfl (fun a' w' => by simp [execOp, go_sem]) rfl, step_of (j := 9) rfl (by decide +kernel) rfl rfl, step_checkPlan (j1 := 8) (j2 := 10) J211.out HLen.out rfl (by decide) Fc3.out rfl (by decide +kernel) rfl rfl (by decide +kernel) rfl rfl, step_assign (j := 3) rfl (by decide +kernel) rfl rfl, step_assign (j := 7) rfl (by decide +kernel) rfl rfl, step_assign (j := 11) rfl (by decide +kernel) rfl rfl, trivial⟩ ?_
  rintro w3 hb _ rfl _ ⟨g1, rfl, -⟩ _ ⟨g2, rfl, -⟩ _ rfl _ rfl _ ⟨g3, rfl, -⟩ _ ⟨g4, rfl, -⟩ _ rfl _ rfl _ ⟨g5, rfl, -⟩ _ ⟨g6, rfl, -⟩ _ rfl _ rfl _ rfl _ rfl
  have J116 := Lib.hid (J110.out.on hb)
  have J217 := Lib.hid (J211.out.on hb)
  have HB18 := Lib.hid (HB12.out.trans (hb.mono HB12.out.size))
  have Iq19 := Lib.hid (Iq.out.below hb)
  clear hb
  simp only [EndsG]
  go_simp
  have hC := checkWindow_any a1 c1 1 5 S 0 3 w3 HLen.out J116.out.st
  rw [Fw1.out] at hC
  have HC := Lib.hid hC
  clear hC
  have x20 := J116.out.x1
  have x21 := J116.out.x2
  have x22 := J116.out.x3
  go_wp2_with fail
  refine (HC.out).mono ?_
  rintro e w4 ⟨rfl, hb⟩
  have J123 := Lib.hid (J116.out.on hb)
  have J224 := Lib.hid (J217.out.on hb)
  have HB25 := Lib.hid (HB18.out.trans (hb.mono HB18.out.size))
  have Iq26 := Lib.hid (Iq19.out.below hb)
  clear x20 x21 x22
  clear hb
  clear HC
  have hC := checkWindow_any a1 c1 1 5 S 1 3 w4 HLen.out J123.out.st
  rw [Fw2.out] at hC
  have HC := Lib.hid hC
  clear hC
  have x27 := J123.out.x1
  have x28 := J123.out.x2
  have x29 := J123.out.x3
  go_wp2_with fail
  refine (HC.out).mono ?_
  rintro e w5 ⟨rfl, hb⟩
  have J130 := Lib.hid (J123.out.on hb)
  have J231 := Lib.hid (J224.out.on hb)
  have HB32 := Lib.hid (HB25.out.trans (hb.mono HB25.out.size))
  have Iq33 := Lib.hid (Iq26.out.below hb)
  clear x27 x28 x29
  clear hb
  clear HC
  have HC := Lib.hid (window_any a1 c1 1 5 S w5 HLen.out J130.out.st)
  have x34 := J130.out.x1
  have x35 := J130.out.x2
  have x36 := J130.out.x3
  go_wp2_with fail
  refine HC.out.mono ?_
  rintro e w6 ⟨xa, ya, ca, rfl, hW, hb⟩
  have hWn : ca = 0 ∧ ∃ c1, P.windowE 1 5 S xa ya = (c1, 0) := by
    rcases hW with ⟨h1, h2, -⟩ | ⟨-, h2, -⟩ | ⟨-, h1, h2, h3, h4, h5⟩
    · exact absurd (h1.trans FJ1.out) h2
    · have := P.fitsB_iff.2 h2; rw [FF1.out] at this; cases this
    · exact ⟨h1, _, windowE_ok FJ1.out ⟨h2, h3, h4⟩ (by omega)⟩
  obtain ⟨hca, vc, hvc⟩ := hWn
  subst hca
  have HVc := Lib.hid hvc
  clear hvc hW
  have J137 := Lib.hid (J130.out.on hb)
  have J238 := Lib.hid (J231.out.on hb)
  have HB39 := Lib.hid (HB32.out.trans (hb.mono HB32.out.size))
  have Iq40 := Lib.hid (Iq33.out.below hb)
  clear x34 x35 x36
  clear hb HC
  have hC := fewest_any a1 c1 1 5 S w6 HLen.out J137.out.st
  rw [Ff.out] at hC
  have HC := Lib.hid hC
  clear hC
  have x41 := J137.out.x1
  have x42 := J137.out.x2
  have x43 := J137.out.x3
  go_wp2_with fail
  refine (HC.out).mono ?_
  rintro e w7 ⟨rfl, hb⟩
  have J144 := Lib.hid (J137.out.on hb)
  have J245 := Lib.hid (J238.out.on hb)
  have HB46 := Lib.hid (HB39.out.trans (hb.mono HB39.out.size))
  have Iq47 := Lib.hid (Iq40.out.below hb)
  clear x41 x42 x43
  clear hb
  clear HC
  have hC := times_any a2 c2 2 5 S 2 w7 HLen.out J245.out.st
  rw [Ft.out] at hC
  have HC := Lib.hid hC
  clear hC
  have x48 := J245.out.x1
  have x49 := J245.out.x2
  have x50 := J245.out.x3
  go_wp2_with fail
  refine HC.out.mono ?_
  intro e w8 hG
  obtain ⟨At, Ct, rfl, hi, hb⟩ := hG.lit (n := 3) rfl
  have J151 := Lib.hid (J144.out.on hb)
  have J252 := Lib.hid (J245.out.on hb)
  have HB53 := Lib.hid (HB46.out.trans (hb.mono HB46.out.size))
  have Iq54 := Lib.hid (Iq47.out.below hb)
  have It := Lib.hid hi
  clear x48 x49 x50
  clear hb hi hG HC
  have hC := chosen_any a1 c1 1 5 S w8 HLen.out J151.out.st
  rw [Fch.out] at hC
  have HC := Lib.hid hC
  clear hC
  have x55 := J151.out.x1
  have x56 := J151.out.x2
  have x57 := J151.out.x3
  go_wp2_with fail
  refine HC.out.mono ?_
  intro e w9 hG
  obtain ⟨Ac, Cc, rfl, hi, hb⟩ := hG.lit (n := 4) rfl
  have J158 := Lib.hid (J151.out.on hb)
  have J259 := Lib.hid (J252.out.on hb)
  have HB60 := Lib.hid (HB53.out.trans (hb.mono HB53.out.size))
  have Iq61 := Lib.hid (Iq54.out.below hb)
  have It62 := Lib.hid (It.out.below hb)
  have Ic := Lib.hid hi
  clear x55 x56 x57
  clear hb hi hG HC
  have hC := heaviest_any a1 c1 1 5 S w9 HLen.out J158.out.st
  rw [Fh.out] at hC
  have HC := Lib.hid hC
  clear hC
  have x63 := J158.out.x1
  have x64 := J158.out.x2
  have x65 := J158.out.x3
  go_wp2_with fail
  refine (HC.out).mono ?_
  rintro e w10 ⟨rfl, hb⟩
  have J166 := Lib.hid (J158.out.on hb)
  have J267 := Lib.hid (J259.out.on hb)
  have HB68 := Lib.hid (HB60.out.trans (hb.mono HB60.out.size))
  have Iq69 := Lib.hid (Iq61.out.below hb)
  have It70 := Lib.hid (It62.out.below hb)
  have Ic71 := Lib.hid (Ic.out.below hb)
  clear x63 x64 x65
  clear hb
  clear HC
  have x72 := J166.out.x1
  have x73 := J166.out.x2
  have x74 := J166.out.x3
  go_wp2_with fail
  clear x72 x73 x74
  refine wp_region_grows [97, 98, 99, 100, 96, 101, 102, 25, 26] [KEq (jobV 1 5 a1 S.length c1), KSl 4 [1, 2, 3, 4], KSl 4 [1, 2, 3, 4], KEq (.tuple #[.int .i64 (15, 0).1, .int .i64 (15, 0).2]), KEq (.tuple #[.int .i64 (15, 0).1, .int .i64 (15, 0).2]), KEq (.int .i64 15), KEq (.int .i64 0), KEq (.int .i64 15), KEq (.int .i64 0)] (by kernel_rfl) (by kernel_rfl) (by kernel_rfl) rfl ⟨KEq.st (jobV 1 5 a1 S.length c1), KSl.st 4 [1, 2, 3, 4], KSl.st 4 [1, 2, 3, 4], KEq.st (.tuple #[.int .i64 (15, 0).1, .int .i64 (15, 0).2]), KEq.st (.tuple #[.int .i64 (15, 0).1, .int .i64 (15, 0).2]), KEq.st (.int .i64 15), KEq.st (.int .i64 0), KEq.st (.int .i64 15), KEq.st (.int .i64 0), trivial⟩ ⟨step_loadJob J166.out (by decide) rfl rfl, step_build (l := [1, 2, 3, 4]) (c := #[.int .i64 1, .int .i64 2, .int .i64 3, .int .i64 4]) rfl (fun a' w' => by simp [execOp, go_sem]) rfl, step_of (j := 1) rfl (by decide +kernel) rfl rfl, step_struck (j1 := 0) (j2 := 2) J166.out HLen.out rfl (by decide) Fs1.out rfl (by decide +kernel) rfl rfl (by decide +kernel) rfl rfl, step_move (j := 3) rfl (by decide +kernel) rfl rfl, step_extract (j := 4) rfl (by decide +kernel) rfl rfl rfl, step_extract (j := 4) rfl (by decide +kernel) rfl rfl rfl, step_assign (j := 5) rfl (by decide +kernel) rfl rfl, step_assign (j := 6) rfl (by decide +kernel) rfl rfl, trivial⟩ ?_
  rintro w11 hb _ rfl _ ⟨_, rfl, -⟩ _ ⟨_, rfl, -⟩ _ rfl _ rfl _ rfl _ rfl _ rfl _ rfl
  have J175 := Lib.hid (J166.out.on hb)
  have J276 := Lib.hid (J267.out.on hb)
  have HB77 := Lib.hid (HB68.out.trans (hb.mono HB68.out.size))
  have Iq78 := Lib.hid (Iq69.out.below hb)
  have It79 := Lib.hid (It70.out.below hb)
  have Ic80 := Lib.hid (Ic71.out.below hb)
  clear hb
  simp only [EndsG]
  go_simp
  have x81 := J175.out.x1
  have x82 := J175.out.x2
  have x83 := J175.out.x3
  go_wp2_with fail
  clear x81 x82 x83
  refine wp_region_grows [104, 105, 106, 107, 103, 108, 109, 27, 28] [KEq (jobV 1 5 a1 S.length c1), KSl 5 [0, 1, 2, 3, 4], KSl 5 [0, 1, 2, 3, 4], KEq (.tuple #[.int .i64 (0, 13).1, .int .i64 (0, 13).2]), KEq (.tuple #[.int .i64 (0, 13).1, .int .i64 (0, 13).2]), KEq (.int .i64 0), KEq (.int .i64 13), KEq (.int .i64 0), KEq (.int .i64 13)] (by kernel_rfl) (by kernel_rfl) (by kernel_rfl) rfl ⟨KEq.st (jobV 1 5 a1 S.length c1), KSl.st 5 [0, 1, 2, 3, 4], KSl.st 5 [0, 1, 2, 3, 4], KEq.st (.tuple #[.int .i64 (0, 13).1, .int .i64 (0, 13).2]), KEq.st (.tuple #[.int .i64 (0, 13).1, .int .i64 (0, 13).2]), KEq.st (.int .i64 0), KEq.st (.int .i64 13), KEq.st (.int .i64 0), KEq.st (.int .i64 13), trivial⟩ ⟨step_loadJob J175.out (by decide) rfl rfl, step_build (l := [0, 1, 2, 3, 4]) (c := #[.int .i64 0, .int .i64 1, .int .i64 2, .int .i64 3, .int .i64 4]) rfl (fun a' w' => by simp [execOp, go_sem]) rfl, step_of (j := 1) rfl (by decide +kernel) rfl rfl, step_struck (j1 := 0) (j2 := 2) J175.out HLen.out rfl (by decide) Fs2.out rfl (by decide +kernel) rfl rfl (by decide +kernel) rfl rfl, step_move (j := 3) rfl (by decide +kernel) rfl rfl, step_extract (j := 4) rfl (by decide +kernel) rfl rfl rfl, step_extract (j := 4) rfl (by decide +kernel) rfl rfl rfl, step_assign (j := 5) rfl (by decide +kernel) rfl rfl, step_assign (j := 6) rfl (by decide +kernel) rfl rfl, trivial⟩ ?_
  rintro w12 hb _ rfl _ ⟨_, rfl, -⟩ _ ⟨_, rfl, -⟩ _ rfl _ rfl _ rfl _ rfl _ rfl _ rfl
  have J184 := Lib.hid (J175.out.on hb)
  have J285 := Lib.hid (J276.out.on hb)
  have HB86 := Lib.hid (HB77.out.trans (hb.mono HB77.out.size))
  have Iq87 := Lib.hid (Iq78.out.below hb)
  have It88 := Lib.hid (It79.out.below hb)
  have Ic89 := Lib.hid (Ic80.out.below hb)
  clear hb
  simp only [EndsG]
  go_simp
  have hC := kind_any a1 c1 1 5 S 3 w12 HLen.out J184.out.st
  rw [Fk.out] at hC
  have HC := Lib.hid hC
  clear hC
  have x90 := J184.out.x1
  have x91 := J184.out.x2
  have x92 := J184.out.x3
  go_wp2_with fail
  refine (HC.out).mono ?_
  rintro e w13 ⟨rfl, hb⟩
  have J193 := Lib.hid (J184.out.on hb)
  have J294 := Lib.hid (J285.out.on hb)
  have HB95 := Lib.hid (HB86.out.trans (hb.mono HB86.out.size))
  have Iq96 := Lib.hid (Iq87.out.below hb)
  have It97 := Lib.hid (It88.out.below hb)
  have Ic98 := Lib.hid (Ic89.out.below hb)
  clear x90 x91 x92
  clear hb
  clear HC
  have HC := Lib.hid (window_any a2 c2 2 5 S w13 HLen.out J294.out.st)
  have x99 := J294.out.x1
  have x100 := J294.out.x2
  have x101 := J294.out.x3
  go_wp2_with fail
  refine HC.out.mono ?_
  rintro e w14 ⟨xb, yb, cb, rfl, hW, hb⟩
  have hWn : xb = 0 ∧ yb = 0 ∧ cb = 5 := by
    rcases hW with ⟨h1, h2, -⟩ | ⟨-, -, h2⟩ | ⟨-, h1, h2, h3, h4, h5⟩
    · exact absurd (h1.trans FJ2.out) h2
    · exact h2
    · exfalso
      have := P.fitsB_iff.1 FF2.out xb yb h2 h3 h4
      omega
  obtain ⟨rfl, rfl, rfl⟩ := hWn
  clear hW
  have J1102 := Lib.hid (J193.out.on hb)
  have J2103 := Lib.hid (J294.out.on hb)
  have HB104 := Lib.hid (HB95.out.trans (hb.mono HB95.out.size))
  have Iq105 := Lib.hid (Iq96.out.below hb)
  have It106 := Lib.hid (It97.out.below hb)
  have Ic107 := Lib.hid (Ic98.out.below hb)
  clear x99 x100 x101
  clear hb HC
  have hC := refCheckWindow_any a1 c1 1 5 S xa ya w14 HLen.out J1102.out.st
  rw [HVc.out] at hC
  have HC := Lib.hid hC
  clear hC
  have x108 := J1102.out.x1
  have x109 := J1102.out.x2
  have x110 := J1102.out.x3
  go_wp2_with fail
  refine (HC.out).mono ?_
  rintro e w15 ⟨rfl, hb⟩
  have J1111 := Lib.hid (J1102.out.on hb)
  have J2112 := Lib.hid (J2103.out.on hb)
  have HB113 := Lib.hid (HB104.out.trans (hb.mono HB104.out.size))
  have Iq114 := Lib.hid (Iq105.out.below hb)
  have It115 := Lib.hid (It106.out.below hb)
  have Ic116 := Lib.hid (Ic107.out.below hb)
  clear x108 x109 x110
  clear hb
  clear HC
  go_wp2_with fail
  refine (of_any _ _).mono ?_
  rintro e w' ⟨rfl, rfl⟩
  have hbn := Below.new w15 (.cells #[.int .i64 0, .int .i64 0, .int .i64 1, .int .i64 2, .int .i64 3] 3)
  have hC := ints_same Aq Cq 5 [0, 0, 1, 2, 3] (some ⟨w15.heap.size, 0, none⟩) 5 (w15.alloc (.cells #[.int .i64 0, .int .i64 0, .int .i64 1, .int .i64 2, .int .i64 3] 3)) rfl (by decide) (Iq114.out.below hbn) (ints_new w15 #[.int .i64 0, .int .i64 0, .int .i64 1, .int .i64 2, .int .i64 3] 3 [0, 0, 1, 2, 3] rfl)
  have HC := Lib.hid hC
  clear hC
  go_wp2_with fail
  refine HC.out.mono ?_
  rintro e w16 ⟨rfl, hb2⟩
  have hb := hbn.trans (hb2.mono hbn.size)
  have J1117 := Lib.hid (J1111.out.on hb)
  have J2118 := Lib.hid (J2112.out.on hb)
  have HB119 := Lib.hid (HB113.out.trans (hb.mono HB113.out.size))
  have Iq120 := Lib.hid (Iq114.out.below hb)
  have It121 := Lib.hid (It115.out.below hb)
  have Ic122 := Lib.hid (Ic116.out.below hb)
  clear hb hb2 hbn HC
  go_wp2_with fail
  refine (of_any _ _).mono ?_
  rintro e w' ⟨rfl, rfl⟩
  have hbn := Below.new w16 (.cells #[.int .i64 1, .int .i64 2, .int .i64 3] 3)
  have hC := ints_same At Ct 3 [1, 2, 3] (some ⟨w16.heap.size, 0, none⟩) 3 (w16.alloc (.cells #[.int .i64 1, .int .i64 2, .int .i64 3] 3)) rfl (by decide) (It121.out.below hbn) (ints_new w16 #[.int .i64 1, .int .i64 2, .int .i64 3] 3 [1, 2, 3] rfl)
  have HC := Lib.hid hC
  clear hC
  go_wp2_with fail
  refine HC.out.mono ?_
  rintro e w17 ⟨rfl, hb2⟩
  have hb := hbn.trans (hb2.mono hbn.size)
  have J1123 := Lib.hid (J1117.out.on hb)
  have J2124 := Lib.hid (J2118.out.on hb)
  have HB125 := Lib.hid (HB119.out.trans (hb.mono HB119.out.size))
  have Iq126 := Lib.hid (Iq120.out.below hb)
  have It127 := Lib.hid (It121.out.below hb)
  have Ic128 := Lib.hid (Ic122.out.below hb)
  clear hb hb2 hbn HC
  go_wp2_with fail
  refine (of_any _ _).mono ?_
  rintro e w' ⟨rfl, rfl⟩
  have hbn := Below.new w17 (.cells #[.int .i64 0, .int .i64 1, .int .i64 2, .int .i64 4] 3)
  have hC := ints_same Ac Cc 4 [0, 1, 2, 4] (some ⟨w17.heap.size, 0, none⟩) 4 (w17.alloc (.cells #[.int .i64 0, .int .i64 1, .int .i64 2, .int .i64 4] 3)) rfl (by decide) (Ic128.out.below hbn) (ints_new w17 #[.int .i64 0, .int .i64 1, .int .i64 2, .int .i64 4] 3 [0, 1, 2, 4] rfl)
  have HC := Lib.hid hC
  clear hC
  go_wp2_with fail
  refine HC.out.mono ?_
  rintro e w18 ⟨rfl, hb2⟩
  have hb := hbn.trans (hb2.mono hbn.size)
  have J1129 := Lib.hid (J1123.out.on hb)
  have J2130 := Lib.hid (J2124.out.on hb)
  have HB131 := Lib.hid (HB125.out.trans (hb.mono HB125.out.size))
  have Iq132 := Lib.hid (Iq126.out.below hb)
  have It133 := Lib.hid (It127.out.below hb)
  have Ic134 := Lib.hid (Ic128.out.below hb)
  clear hb hb2 hbn HC
  go_wp2_with fail
  go_ret
  exact ⟨rfl, HB131.out⟩
end Go.Proofs.Ytpkffjcmoghaaaa
/- Walk of PunchKnown. -/
namespace Go.Proofs.Ytpkffjcmoghaaaa
open Go.RowKit Go.Lib Go.Sort
set_option maxRecDepth 20000 in
set_option maxHeartbeats 8000000 in
theorem known_walk (w : World) : Calls Try.prog 16 #[] w fun e w' => e = .returned (.bool true) ∧ Below w.heap.size w w' := by
  obtain ⟨S, hS⟩ : ∃ S, S = exS := ⟨_, rfl⟩
  have Fw : Hid (P.windowE 1 5 S 0 5 = (0, 2)) := Lib.hid (by rw [hS]; decide +kernel)
  have Ft1 : Hid (P.timesE 2 5 S 0 = ([0, 1], 0)) := Lib.hid (by rw [hS]; decide +kernel)
  have Ft2 : Hid (P.timesE 1 5 S 0 = ([], 13)) := Lib.hid (by rw [hS]; decide +kernel)
  have Ft3 : Hid (P.timesE 1 5 S 5 = ([], 2)) := Lib.hid (by rw [hS]; decide +kernel)
  have Fh : Hid (P.heavyE 2 5 S = (20, 0)) := Lib.hid (by rw [hS]; decide +kernel)
  have Fk1 : Hid (P.kindE 1 5 S 0 = (2, 0)) := Lib.hid (by rw [hS]; decide +kernel)
  have Fk2 : Hid (P.kindE 2 5 S 3 = (2, 0)) := Lib.hid (by rw [hS]; decide +kernel)
  have HLen : Hid (S.length ≤ 1000000) := Lib.hid (by rw [hS]; decide)
  have HL5 : Hid (5 = S.length) := Lib.hid (by rw [hS]; rfl)
  have HSx := Lib.hid hS
  clear hS
  go_enter Try.func16, Try.ntmps16
  go_wp2_with fail
  refine (example_any 1 w).mono ?_
  rintro e wa ⟨a1, c1, rfl, hs1, -, hba⟩
  go_wp2_with fail
  refine (example_any 2 wa).mono ?_
  rintro e wb ⟨a2, c2, rfl, hs2, -, hbb⟩
  rw [← HSx.out] at hs1 hs2
  have hs1 := hs1.below hbb
  have hbw := hba.trans (hbb.mono hba.size)
  obtain ⟨W0, hW0⟩ : ∃ W0, (wb.alloc (.cells #[.int .i64 1, .int .i64 5, .slice a1 5 c1] 24)).alloc (.cells #[.int .i64 2, .int .i64 5, .slice a2 5 c2] 24) = W0 := ⟨_, rfl⟩
  have hbn : Below wb.heap.size wb W0 := by rw [← hW0]; exact (Below.new wb _).alloc (by simp) _
  have J10 : Hid (Job W0 wb.heap.size 1 5 a1 c1 S) := Lib.hid (by
    have := (Job.new hs1 1 5 c1 24).on (Below.new _ (.cells #[.int .i64 2, .int .i64 5, .slice a2 5 c2] 24))
    rw [← HL5.out] at this; rw [← hW0]; exact this)
  have J20 : Hid (Job W0 (wb.heap.size + 1) 2 5 a2 c2 S) := Lib.hid (by
    have := Job.new (hs2.alloc (.cells #[.int .i64 1, .int .i64 5, .slice a1 5 c1] 24)) 2 5 c2 24
    rw [← HL5.out, World.size_alloc] at this; rw [← hW0]; exact this)
  have HB0 := Lib.hid (hbw.trans (hbn.mono hbw.size))
  clear hs1 hs2 hba hbb hbw hbn
  have hC := checkWindow_any a1 c1 1 5 S 0 5 W0 HLen.out J10.out.st
  rw [Fw.out] at hC
  have HC := Lib.hid hC
  clear hC
  have x1 := J10.out.x1
  have x2 := J10.out.x2
  have x3 := J10.out.x3
  go_wp2_with fail
  clear hW0
  refine HC.out.mono ?_
  rintro e w1 ⟨rfl, hb⟩
  have J14 := Lib.hid (J10.out.on hb)
  have J25 := Lib.hid (J20.out.on hb)
  have HB6 := Lib.hid (HB0.out.trans (hb.mono HB0.out.size))
  clear x1 x2 x3
  clear hb HC
  have hC := times_any a2 c2 2 5 S 0 w1 HLen.out J25.out.st
  rw [Ft1.out] at hC
  have HC := Lib.hid hC
  clear hC
  have x7 := J25.out.x1
  have x8 := J25.out.x2
  have x9 := J25.out.x3
  go_wp2_with fail
  refine HC.out.mono ?_
  intro e w2 hG
  obtain ⟨At, Ct, rfl, hi, hb⟩ := hG.lit (n := 2) rfl
  have J110 := Lib.hid (J14.out.on hb)
  have J211 := Lib.hid (J25.out.on hb)
  have HB12 := Lib.hid (HB6.out.trans (hb.mono HB6.out.size))
  have It := Lib.hid hi
  clear x7 x8 x9
  clear hb hi hG HC
  have hC := times_any a1 c1 1 5 S 0 w2 HLen.out J110.out.st
  rw [Ft2.out] at hC
  have HC := Lib.hid hC
  clear hC
  have x13 := J110.out.x1
  have x14 := J110.out.x2
  have x15 := J110.out.x3
  go_wp2_with fail
  refine HC.out.mono ?_
  intro e w3 hG
  obtain ⟨Au, Cu, rfl, hi, hb⟩ := hG.lit (n := 0) rfl
  have J116 := Lib.hid (J110.out.on hb)
  have J217 := Lib.hid (J211.out.on hb)
  have HB18 := Lib.hid (HB12.out.trans (hb.mono HB12.out.size))
  have It19 := Lib.hid (It.out.below hb)
  have Iu := Lib.hid hi
  clear x13 x14 x15
  clear hb hi hG HC
  have hC := times_any a1 c1 1 5 S 5 w3 HLen.out J116.out.st
  rw [Ft3.out] at hC
  have HC := Lib.hid hC
  clear hC
  have x20 := J116.out.x1
  have x21 := J116.out.x2
  have x22 := J116.out.x3
  go_wp2_with fail
  refine HC.out.mono ?_
  intro e w4 hG
  obtain ⟨Av, Cv, rfl, hi, hb⟩ := hG.lit (n := 0) rfl
  have J123 := Lib.hid (J116.out.on hb)
  have J224 := Lib.hid (J217.out.on hb)
  have HB25 := Lib.hid (HB18.out.trans (hb.mono HB18.out.size))
  have It26 := Lib.hid (It19.out.below hb)
  have Iv := Lib.hid hi
  clear x20 x21 x22
  clear hb hi hG HC
  have hC := heaviest_any a2 c2 2 5 S w4 HLen.out J224.out.st
  rw [Fh.out] at hC
  have HC := Lib.hid hC
  clear hC
  have x27 := J224.out.x1
  have x28 := J224.out.x2
  have x29 := J224.out.x3
  go_wp2_with fail
  refine (HC.out).mono ?_
  rintro e w5 ⟨rfl, hb⟩
  have J130 := Lib.hid (J123.out.on hb)
  have J231 := Lib.hid (J224.out.on hb)
  have HB32 := Lib.hid (HB25.out.trans (hb.mono HB25.out.size))
  have It33 := Lib.hid (It26.out.below hb)
  clear x27 x28 x29
  clear hb
  clear HC
  have hC := kind_any a1 c1 1 5 S 0 w5 HLen.out J130.out.st
  rw [Fk1.out] at hC
  have HC := Lib.hid hC
  clear hC
  have x34 := J130.out.x1
  have x35 := J130.out.x2
  have x36 := J130.out.x3
  go_wp2_with fail
  refine (HC.out).mono ?_
  rintro e w6 ⟨rfl, hb⟩
  have J137 := Lib.hid (J130.out.on hb)
  have J238 := Lib.hid (J231.out.on hb)
  have HB39 := Lib.hid (HB32.out.trans (hb.mono HB32.out.size))
  have It40 := Lib.hid (It33.out.below hb)
  clear x34 x35 x36
  clear hb
  clear HC
  have hC := kind_any a2 c2 2 5 S 3 w6 HLen.out J238.out.st
  rw [Fk2.out] at hC
  have HC := Lib.hid hC
  clear hC
  have x41 := J238.out.x1
  have x42 := J238.out.x2
  have x43 := J238.out.x3
  go_wp2_with fail
  refine (HC.out).mono ?_
  rintro e w7 ⟨rfl, hb⟩
  have J144 := Lib.hid (J137.out.on hb)
  have J245 := Lib.hid (J238.out.on hb)
  have HB46 := Lib.hid (HB39.out.trans (hb.mono HB39.out.size))
  have It47 := Lib.hid (It40.out.below hb)
  clear x41 x42 x43
  clear hb
  clear HC
  go_wp2_with fail
  refine (of_any _ _).mono ?_
  rintro e w' ⟨rfl, rfl⟩
  have hbn := Below.new w7 (.cells #[.int .i64 0, .int .i64 1] 3)
  have hC := ints_same At Ct 2 [0, 1] (some ⟨w7.heap.size, 0, none⟩) 2 (w7.alloc (.cells #[.int .i64 0, .int .i64 1] 3)) rfl (by decide) (It47.out.below hbn) (ints_new w7 #[.int .i64 0, .int .i64 1] 3 [0, 1] rfl)
  have HC := Lib.hid hC
  clear hC
  go_wp2_with fail
  refine HC.out.mono ?_
  rintro e w8 ⟨rfl, hb2⟩
  have hb := hbn.trans (hb2.mono hbn.size)
  have J148 := Lib.hid (J144.out.on hb)
  have J249 := Lib.hid (J245.out.on hb)
  have HB50 := Lib.hid (HB46.out.trans (hb.mono HB46.out.size))
  have It51 := Lib.hid (It47.out.below hb)
  clear hb hb2 hbn HC
  go_wp2_with fail
  refine (works_any _).mono ?_
  rintro e w9 ⟨rfl, hb⟩
  have J152 := Lib.hid (J148.out.on hb)
  have J253 := Lib.hid (J249.out.on hb)
  have HB54 := Lib.hid (HB50.out.trans (hb.mono HB50.out.size))
  have It55 := Lib.hid (It51.out.below hb)
  clear hb
  go_wp2_with fail
  go_ret
  exact ⟨rfl, HB54.out⟩
end Go.Proofs.Ytpkffjcmoghaaaa
/- Walk of planned: whether there is a plan, of a valid job. -/
namespace Go.Proofs.Ytpkffjcmoghaaaa
open Go.RowKit
theorem checkPlan_plan {p L : Int} {S : List P.Star} (hv : P.Valid p L S) (hf : P.Fits S p L) : P.checkPlan p L S (P.plan S p L) = 0 := by
  obtain ⟨pn, rfl⟩ := Int.eq_ofNat_of_zero_le (show 0 ≤ p by have := hv.p1; omega)
  obtain ⟨Ln, rfl⟩ := Int.eq_ofNat_of_zero_le (show 0 ≤ L by have := hv.l1; omega)
  obtain ⟨h1, h2⟩ := P.plan_spec hv.ok hf
  exact P.checkPlan_iff.2 ⟨hv, h1, h2⟩
theorem plan_len {p L : Int} {S : List P.Star} (hv : P.Valid p L S) (hf : P.Fits S p L) : (P.plan S p L).length = S.length := by
  obtain ⟨pn, rfl⟩ := Int.eq_ofNat_of_zero_le (show 0 ≤ p by have := hv.p1; omega)
  obtain ⟨Ln, rfl⟩ := Int.eq_ofNat_of_zero_le (show 0 ≤ L by have := hv.l1; omega)
  exact (P.plan_spec hv.ok hf).1
set_option maxRecDepth 20000 in
set_option maxHeartbeats 4000000 in
theorem planned_any (a : Option Addr) (cap : Nat) (p L : Int) (S : List P.Star) (w : World) (hc : P.checkJob p L S = 0) (ha : Stars w a S) :
    Calls Try.prog 43 #[jobV p L a S.length cap] w fun e w' => e = .returned (.tuple #[.bool (P.fitsB S p L), .bool true]) ∧ Below w.heap.size w w' := by
  have HZ := Lib.hid hc
  have HV := Lib.hid (P.checkJob_iff.1 hc)
  have hl : S.length ≤ 1000000 := by have := HV.out.len; omega
  have HJ0 := Lib.hid (Job.new ha p L cap 24)
  have HB0 := Lib.hid (Below.new w (.cells #[.int .i64 p, .int .i64 L, .slice a S.length cap] 24))
  clear ha hc
  cases hf : P.fitsB S p L
  · have HNF : Hid (¬ P.Fits S p L) := Lib.hid (fun h => by have := P.fitsB_iff.2 h; rw [hf] at this; cases this)
    have HF := Lib.hid (planE_no HZ.out hf)
    clear hf
    go_enter Try.func43, Try.ntmps43
    have hC := plan_any a cap p L S (w.alloc (.cells #[.int .i64 p, .int .i64 L, .slice a S.length cap] 24)) hl HJ0.out.st
    rw [HF.out] at hC
    dsimp only at hC
    have HC := Lib.hid hC
    clear hC
    have x1 := HJ0.out.x1
    have x2 := HJ0.out.x2
    have x3 := HJ0.out.x3
    go_wp2_with fail
    refine HC.out.mono ?_
    rintro e w1 ⟨Ap, Cp, rfl, hi, hb⟩
    have HJ4 := Lib.hid (HJ0.out.on hb)
    have HB5 := Lib.hid (HB0.out.trans (hb.mono HB0.out.size))
    have Ip := Lib.hid hi
    clear x1 x2 x3
    clear hb hi HC
    have hC := window_any a cap p L S w1 hl HJ4.out.st
    have HC := Lib.hid hC
    clear hC
    have x6 := HJ4.out.x1
    have x7 := HJ4.out.x2
    have x8 := HJ4.out.x3
    go_wp2_with fail
    refine HC.out.mono ?_
    rintro e w2 ⟨xq, yq, cq, rfl, hW, hb⟩
    have hWn : cq = 0 ∧ ∃ c1, P.windowE p L S xq yq = (c1, 0) := by
      rcases hW with ⟨h1, h2, -⟩ | ⟨-, h2, -⟩ | ⟨-, h1, h2, h3, h4, h5⟩
      · exact absurd (h1.trans HZ.out) h2
      · exact absurd h2 HNF.out
      · exact ⟨h1, _, windowE_ok HZ.out ⟨h2, h3, h4⟩ (by omega)⟩
    obtain ⟨rfl, vc, hvc⟩ := hWn
    have HVc := Lib.hid hvc
    clear hvc hW
    have HJ9 := Lib.hid (HJ4.out.on hb)
    have HB10 := Lib.hid (HB5.out.trans (hb.mono HB5.out.size))
    clear x6 x7 x8
    clear hb HC
    have hC := checkWindow_any a cap p L S xq yq w2 hl HJ9.out.st
    rw [HVc.out] at hC
    have HC := Lib.hid hC
    clear hC
    have x11 := HJ9.out.x1
    have x12 := HJ9.out.x2
    have x13 := HJ9.out.x3
    go_wp2_with fail
    refine HC.out.mono ?_
    rintro e w3 ⟨rfl, hb⟩
    have HJ14 := Lib.hid (HJ9.out.on hb)
    have HB15 := Lib.hid (HB10.out.trans (hb.mono HB10.out.size))
    clear x11 x12 x13
    clear hb HC
    have hC := refCheckWindow_any a cap p L S xq yq w3 hl HJ14.out.st
    rw [HVc.out] at hC
    have HC := Lib.hid hC
    clear hC
    have x16 := HJ14.out.x1
    have x17 := HJ14.out.x2
    have x18 := HJ14.out.x3
    go_wp2_with fail
    refine HC.out.mono ?_
    rintro e w4 ⟨rfl, hb⟩
    have HJ19 := Lib.hid (HJ14.out.on hb)
    have HB20 := Lib.hid (HB15.out.trans (hb.mono HB15.out.size))
    clear x16 x17 x18
    clear hb HC
    go_wp2_with fail
    go_ret2
    exact ⟨rfl, HB20.out⟩
  · have HFt := Lib.hid (P.fitsB_iff.1 hf)
    have HF := Lib.hid (planE_yes HZ.out hf)
    have HCk := Lib.hid (checkPlan_plan HV.out HFt.out)
    have HLp := Lib.hid (plan_len HV.out HFt.out)
    clear hf
    go_enter Try.func43, Try.ntmps43
    have hC := plan_any a cap p L S (w.alloc (.cells #[.int .i64 p, .int .i64 L, .slice a S.length cap] 24)) hl HJ0.out.st
    rw [HF.out] at hC
    dsimp only at hC
    have HC := Lib.hid hC
    clear hC
    have x21 := HJ0.out.x1
    have x22 := HJ0.out.x2
    have x23 := HJ0.out.x3
    go_wp2_with fail
    refine HC.out.mono ?_
    rintro e w1 ⟨Ap, Cp, rfl, hi, hb⟩
    have HJ24 := Lib.hid (HJ0.out.on hb)
    have HB25 := Lib.hid (HB0.out.trans (hb.mono HB0.out.size))
    have Ip := Lib.hid hi
    clear x21 x22 x23
    clear hb hi HC
    have hlp : (P.plan S p L).length ≤ 1000000 := by rw [HLp.out]; exact hl
    generalize P.plan S p L = l at *
    have hC := window_any a cap p L S w1 hl HJ24.out.st
    have HC := Lib.hid hC
    clear hC
    have x26 := HJ24.out.x1
    have x27 := HJ24.out.x2
    have x28 := HJ24.out.x3
    go_wp2_with fail
    refine HC.out.mono ?_
    rintro e w2 ⟨xq, yq, cq, rfl, hW, hb⟩
    have hWn : xq = 0 ∧ yq = 0 ∧ cq = 5 := by
      rcases hW with ⟨h1, h2, -⟩ | ⟨-, -, h2⟩ | ⟨-, h1, h2, h3, h4, h5⟩
      · exact absurd (h1.trans HZ.out) h2
      · exact h2
      · exfalso
        have := HFt.out xq yq h2 h3 h4
        omega
    obtain ⟨rfl, rfl, rfl⟩ := hWn
    clear hW
    have HJ29 := Lib.hid (HJ24.out.on hb)
    have HB30 := Lib.hid (HB25.out.trans (hb.mono HB25.out.size))
    have Ip31 := Lib.hid (Ip.out.below hb)
    clear x26 x27 x28
    clear hb HC
    have hC := refCheckPlan_any a cap p L S Ap Cp l w2 hl hlp HJ29.out.st Ip31.out
    rw [HCk.out] at hC
    have HC := Lib.hid hC
    clear hC
    have x32 := HJ29.out.x1
    have x33 := HJ29.out.x2
    have x34 := HJ29.out.x3
    go_wp2_with fail
    refine HC.out.mono ?_
    rintro e w3 ⟨rfl, hb⟩
    have HJ35 := Lib.hid (HJ29.out.on hb)
    have HB36 := Lib.hid (HB30.out.trans (hb.mono HB30.out.size))
    have Ip37 := Lib.hid (Ip31.out.below hb)
    clear x32 x33 x34
    clear hb HC
    have hC := checkPlan_any a cap p L S Ap Cp l w3 hl hlp HJ35.out.st Ip37.out
    rw [HCk.out] at hC
    have HC := Lib.hid hC
    clear hC
    have x38 := HJ35.out.x1
    have x39 := HJ35.out.x2
    have x40 := HJ35.out.x3
    go_wp2_with fail
    refine HC.out.mono ?_
    rintro e w4 ⟨rfl, hb⟩
    have HJ41 := Lib.hid (HJ35.out.on hb)
    have HB42 := Lib.hid (HB36.out.trans (hb.mono HB36.out.size))
    have Ip43 := Lib.hid (Ip37.out.below hb)
    clear x38 x39 x40
    clear hb HC
    go_wp2_with fail
    go_ret2
    exact ⟨rfl, HB42.out⟩
end Go.Proofs.Ytpkffjcmoghaaaa
/- Walk of PunchPlans. -/
namespace Go.Proofs.Ytpkffjcmoghaaaa
open Go.RowKit
theorem planE_len {p L : Int} {S : List P.Star} (hl : S.length ≤ 1000000) : (P.planE p L S).1.length ≤ 1000000 := by
  by_cases hc : P.checkJob p L S = 0
  · cases hf : P.fitsB S p L with
    | false => rw [planE_no hc hf]; simp
    | true => rw [planE_yes hc hf]; show (P.plan S p L).length ≤ _; rw [plan_len (P.checkJob_iff.1 hc) (P.fitsB_iff.1 hf)]; exact hl
  · rw [planE_bad hc]; simp
theorem times_len {p L : Int} {S : List P.Star} {i : Nat} (hv : P.Valid p L S) (hi : i < S.length) : (P.times S p L i).length ≤ 20 := by
  have h := timesTo_len S p L i (P.star S i).1 ((P.star S i).2.1 - (P.star S i).1 + 1).toNat
  have hs := hv.star hi
  have := hv.l20
  show (P.timesTo S p L i (P.star S i).1 _).length ≤ 20
  omega
theorem timesE_len {p L : Int} {S : List P.Star} {i : Int} : (P.timesE p L S i).1.length ≤ 1000000 := by
  by_cases hc : P.starred p L S i = 0
  · cases hf : P.fitsB S p L with
    | false => rw [timesE_no hc hf]; simp
    | true =>
      rw [timesE_yes hc hf]
      obtain ⟨hv, h0, h1⟩ := starred_zero hc
      have := times_len (i := i.toNat) hv (by omega)
      show (P.times S p L i.toNat).length ≤ _
      omega
  · rw [timesE_bad hc]; simp
theorem chosenE_len {p L : Int} {S : List P.Star} (hl : S.length ≤ 1000000) : (P.chosenE p L S).1.length ≤ 1000000 := by
  by_cases hc : P.checkJob p L S = 0
  · rw [chosenE_ok hc]
    show (intsN (P.sorted S _)).length ≤ _
    rw [intsN_length]
    exact Nat.le_trans (List.length_filter_le _ _) (by simpa using hl)
  · rw [chosenE_bad hc]; simp
set_option maxRecDepth 20000 in
set_option maxHeartbeats 4000000 in
theorem plans_walk (a : Option Addr) (cap : Nat) (p L : Int) (S : List P.Star) (i : Int) (w : World) (ha : Stars w a S) :
    Calls Try.prog 4 #[jobV p L a S.length cap, .int .i64 i] w fun e w' => e = .returned (.bool true) ∧ Below w.heap.size w w' := by
  have HJ0 := Lib.hid (Job.new ha p L cap 24)
  have HB0 := Lib.hid (Below.new w (.cells #[.int .i64 p, .int .i64 L, .slice a S.length cap] 24))
  clear ha
  have HG := great_any a cap S.length p L (w.alloc (.cells #[.int .i64 p, .int .i64 L, .slice a S.length cap] 24))
  by_cases h24 : 24 < S.length
  · rw [decide_eq_true h24] at HG
    have HG := Lib.hid HG
    clear h24
    go_enter Try.func4, Try.ntmps4
    go_wp2_with fail
    refine (HG.out).mono ?_
    rintro e w1 ⟨rfl, hb⟩
    have HJ1 := Lib.hid (HJ0.out.on hb)
    have HB2 := Lib.hid (HB0.out.trans (hb.mono HB0.out.size))
    clear hb
    go_wp2_with fail
    refine (works_any _).mono ?_
    rintro e w2 ⟨rfl, hb⟩
    have HJ3 := Lib.hid (HJ1.out.on hb)
    have HB4 := Lib.hid (HB2.out.trans (hb.mono HB2.out.size))
    clear hb
    go_wp2_with fail
    go_ret
    exact ⟨rfl, HB4.out⟩
  · rw [decide_eq_false h24] at HG
    have HG := Lib.hid HG
    have hl : S.length ≤ 1000000 := by omega
    clear h24
    go_enter Try.func4, Try.ntmps4
    go_wp2_with fail
    refine (HG.out).mono ?_
    rintro e w1 ⟨rfl, hb⟩
    have HJ5 := Lib.hid (HJ0.out.on hb)
    have HB6 := Lib.hid (HB0.out.trans (hb.mono HB0.out.size))
    clear hb
    have hC := plan_any a cap p L S w1 hl HJ5.out.st
    have HC := Lib.hid hC
    clear hC
    have x7 := HJ5.out.x1
    have x8 := HJ5.out.x2
    have x9 := HJ5.out.x3
    go_wp2_with fail
    refine HC.out.mono ?_
    rintro e w2 ⟨Ap, Cp, rfl, hi, hb⟩
    have HJ10 := Lib.hid (HJ5.out.on hb)
    have HB11 := Lib.hid (HB6.out.trans (hb.mono HB6.out.size))
    have Ip := Lib.hid hi
    clear x7 x8 x9
    clear hb hi HC
    have hC := refPlanG a cap p L S w2 hl HJ10.out.st
    have HC := Lib.hid hC
    clear hC
    have x12 := HJ10.out.x1
    have x13 := HJ10.out.x2
    have x14 := HJ10.out.x3
    go_wp2_with fail
    refine HC.out.mono ?_
    rintro e w3 ⟨Aq, Cq, rfl, hi, hb⟩
    have HJ15 := Lib.hid (HJ10.out.on hb)
    have HB16 := Lib.hid (HB11.out.trans (hb.mono HB11.out.size))
    have Ip17 := Lib.hid (Ip.out.below hb)
    have Iq := Lib.hid hi
    clear x12 x13 x14
    clear hb hi HC
    have hC := fewest_any a cap p L S w3 hl HJ15.out.st
    have HC := Lib.hid hC
    clear hC
    have x18 := HJ15.out.x1
    have x19 := HJ15.out.x2
    have x20 := HJ15.out.x3
    go_wp2_with fail
    refine HC.out.mono ?_
    rintro e w4 ⟨rfl, hb⟩
    have HJ21 := Lib.hid (HJ15.out.on hb)
    have HB22 := Lib.hid (HB16.out.trans (hb.mono HB16.out.size))
    have Ip23 := Lib.hid (Ip17.out.below hb)
    have Iq24 := Lib.hid (Iq.out.below hb)
    clear x18 x19 x20
    clear hb HC
    have hC := refFewest_any a cap p L S w4 hl HJ21.out.st
    have HC := Lib.hid hC
    clear hC
    have x25 := HJ21.out.x1
    have x26 := HJ21.out.x2
    have x27 := HJ21.out.x3
    go_wp2_with fail
    refine HC.out.mono ?_
    rintro e w5 ⟨rfl, hb⟩
    have HJ28 := Lib.hid (HJ21.out.on hb)
    have HB29 := Lib.hid (HB22.out.trans (hb.mono HB22.out.size))
    have Ip30 := Lib.hid (Ip23.out.below hb)
    have Iq31 := Lib.hid (Iq24.out.below hb)
    clear x25 x26 x27
    clear hb HC
    have hC := times_any a cap p L S i w5 hl HJ28.out.st
    have HC := Lib.hid hC
    clear hC
    have x32 := HJ28.out.x1
    have x33 := HJ28.out.x2
    have x34 := HJ28.out.x3
    go_wp2_with fail
    refine HC.out.mono ?_
    rintro e w6 ⟨At, Ct, rfl, hi, hb⟩
    have HJ35 := Lib.hid (HJ28.out.on hb)
    have HB36 := Lib.hid (HB29.out.trans (hb.mono HB29.out.size))
    have Ip37 := Lib.hid (Ip30.out.below hb)
    have Iq38 := Lib.hid (Iq31.out.below hb)
    have It := Lib.hid hi
    clear x32 x33 x34
    clear hb hi HC
    have hC := refTimesG a cap p L S i w6 hl HJ35.out.st
    have HC := Lib.hid hC
    clear hC
    have x39 := HJ35.out.x1
    have x40 := HJ35.out.x2
    have x41 := HJ35.out.x3
    go_wp2_with fail
    refine HC.out.mono ?_
    rintro e w7 ⟨Au, Cu, rfl, hi, hb⟩
    have HJ42 := Lib.hid (HJ35.out.on hb)
    have HB43 := Lib.hid (HB36.out.trans (hb.mono HB36.out.size))
    have Ip44 := Lib.hid (Ip37.out.below hb)
    have Iq45 := Lib.hid (Iq38.out.below hb)
    have It46 := Lib.hid (It.out.below hb)
    have Iu := Lib.hid hi
    clear x39 x40 x41
    clear hb hi HC
    have HC := Lib.hid (ints_same Ap Cp ((P.planE p L S).1).length ((P.planE p L S).1) Aq Cq w7 rfl (planE_len hl) Ip44.out Iq45.out)
    go_wp2_with fail
    refine HC.out.mono ?_
    rintro e w8 ⟨rfl, hb⟩
    have HJ47 := Lib.hid (HJ42.out.on hb)
    have HB48 := Lib.hid (HB43.out.trans (hb.mono HB43.out.size))
    have Ip49 := Lib.hid (Ip44.out.below hb)
    have Iq50 := Lib.hid (Iq45.out.below hb)
    have It51 := Lib.hid (It46.out.below hb)
    have Iu52 := Lib.hid (Iu.out.below hb)
    clear hb HC
    have HC := Lib.hid (ints_same At Ct ((P.timesE p L S i).1).length ((P.timesE p L S i).1) Au Cu w8 rfl (timesE_len) It51.out Iu52.out)
    go_wp2_with fail
    refine HC.out.mono ?_
    rintro e w9 ⟨rfl, hb⟩
    have HJ53 := Lib.hid (HJ47.out.on hb)
    have HB54 := Lib.hid (HB48.out.trans (hb.mono HB48.out.size))
    have Ip55 := Lib.hid (Ip49.out.below hb)
    have Iq56 := Lib.hid (Iq50.out.below hb)
    have It57 := Lib.hid (It51.out.below hb)
    have Iu58 := Lib.hid (Iu52.out.below hb)
    clear hb HC
    go_wp2_with fail
    refine (works_any _).mono ?_
    rintro e w10 ⟨rfl, hb⟩
    have HJ59 := Lib.hid (HJ53.out.on hb)
    have HB60 := Lib.hid (HB54.out.trans (hb.mono HB54.out.size))
    have Ip61 := Lib.hid (Ip55.out.below hb)
    have Iq62 := Lib.hid (Iq56.out.below hb)
    have It63 := Lib.hid (It57.out.below hb)
    have Iu64 := Lib.hid (Iu58.out.below hb)
    clear hb
    go_wp2_with fail
    go_ret
    exact ⟨rfl, HB60.out⟩
end Go.Proofs.Ytpkffjcmoghaaaa
/- Walk of PunchChosen. -/
namespace Go.Proofs.Ytpkffjcmoghaaaa
open Go.RowKit
set_option maxRecDepth 20000 in
set_option maxHeartbeats 4000000 in
theorem chosen_walk (a : Option Addr) (cap : Nat) (p L : Int) (S : List P.Star) (b : Option Addr) (cap2 : Nat) (l : List Int) (i : Int) (w : World) (ha : Stars w a S) (hbl : Ints .i64 w b l) :
    Calls Try.prog 6 #[jobV p L a S.length cap, .slice b l.length cap2, .int .i64 i] w fun e w' => e = .returned (.bool true) ∧ Below w.heap.size w w' := by
  have HI0 := Lib.hid (hbl.alloc (.cells #[.int .i64 p, .int .i64 L, .slice a S.length cap] 24))
  have HJ0 := Lib.hid (Job.new ha p L cap 24)
  have HB0 := Lib.hid (Below.new w (.cells #[.int .i64 p, .int .i64 L, .slice a S.length cap] 24))
  clear ha hbl
  have HG := great_any a cap S.length p L (w.alloc (.cells #[.int .i64 p, .int .i64 L, .slice a S.length cap] 24))
  by_cases h24 : 24 < S.length
  · rw [decide_eq_true h24] at HG
    have HG := Lib.hid HG
    clear h24
    go_enter Try.func6, Try.ntmps6
    go_wp2_with fail
    refine (HG.out).mono ?_
    rintro e w1 ⟨rfl, hb⟩
    have HJ1 := Lib.hid (HJ0.out.on hb)
    have HB2 := Lib.hid (HB0.out.trans (hb.mono HB0.out.size))
    have HI3 := Lib.hid (HI0.out.below hb)
    clear hb
    go_wp2_with fail
    refine (works_any _).mono ?_
    rintro e w2 ⟨rfl, hb⟩
    have HJ4 := Lib.hid (HJ1.out.on hb)
    have HB5 := Lib.hid (HB2.out.trans (hb.mono HB2.out.size))
    have HI6 := Lib.hid (HI3.out.below hb)
    clear hb
    go_wp2_with fail
    go_ret
    exact ⟨rfl, HB5.out⟩
  · rw [decide_eq_false h24] at HG
    have HG := Lib.hid HG
    have hl : S.length ≤ 1000000 := by omega
    clear h24
    by_cases h30 : 24 < l.length
    · have h30I : (24 : Int) < (l.length : Int) := by omega
      clear h30
      go_enter Try.func6, Try.ntmps6
      go_wp2_with fail
      refine (HG.out).mono ?_
      rintro e w1 ⟨rfl, hb⟩
      have HJ7 := Lib.hid (HJ0.out.on hb)
      have HB8 := Lib.hid (HB0.out.trans (hb.mono HB0.out.size))
      have HI9 := Lib.hid (HI0.out.below hb)
      clear hb
      go_wp2_with fail
      refine (works_any _).mono ?_
      rintro e w2 ⟨rfl, hb⟩
      have HJ10 := Lib.hid (HJ7.out.on hb)
      have HB11 := Lib.hid (HB8.out.trans (hb.mono HB8.out.size))
      have HI12 := Lib.hid (HI9.out.below hb)
      clear hb
      go_wp2_with fail
      go_ret
      exact ⟨rfl, HB11.out⟩
    · have h30I : ¬ (24 : Int) < (l.length : Int) := by omega
      have hl2 : l.length ≤ 1000000 := by omega
      clear h30
      go_enter Try.func6, Try.ntmps6
      go_wp2_with fail
      refine (HG.out).mono ?_
      rintro e w1 ⟨rfl, hb⟩
      have HJ13 := Lib.hid (HJ0.out.on hb)
      have HB14 := Lib.hid (HB0.out.trans (hb.mono HB0.out.size))
      have HI15 := Lib.hid (HI0.out.below hb)
      clear hb
      have x16 := HJ13.out.x1
      have x17 := HJ13.out.x2
      have x18 := HJ13.out.x3
      have HC := Lib.hid (checkStruck_any a cap p L S b cap2 l w1 hl hl2 HJ13.out.st HI15.out)
      go_wp2_with fail
      refine HC.out.mono ?_
      rintro e w2 ⟨rfl, hb⟩
      have HJ19 := Lib.hid (HJ13.out.on hb)
      have HB20 := Lib.hid (HB14.out.trans (hb.mono HB14.out.size))
      have HI21 := Lib.hid (HI15.out.below hb)
      clear x16 x17 x18
      clear hb HC
      have x22 := HJ19.out.x1
      have x23 := HJ19.out.x2
      have x24 := HJ19.out.x3
      have HC := Lib.hid (refCheckStruck_any a cap p L S b cap2 l w2 hl hl2 HJ19.out.st HI21.out)
      go_wp2_with fail
      refine HC.out.mono ?_
      rintro e w3 ⟨rfl, hb⟩
      have HJ25 := Lib.hid (HJ19.out.on hb)
      have HB26 := Lib.hid (HB20.out.trans (hb.mono HB20.out.size))
      have HI27 := Lib.hid (HI21.out.below hb)
      clear x22 x23 x24
      clear hb HC
      have hC := chosen_any a cap p L S w3 hl HJ25.out.st
      have HC := Lib.hid hC
      clear hC
      have x28 := HJ25.out.x1
      have x29 := HJ25.out.x2
      have x30 := HJ25.out.x3
      go_wp2_with fail
      refine HC.out.mono ?_
      rintro e w4 ⟨Ac, Cc, rfl, hi, hb⟩
      have HJ31 := Lib.hid (HJ25.out.on hb)
      have HB32 := Lib.hid (HB26.out.trans (hb.mono HB26.out.size))
      have HI33 := Lib.hid (HI27.out.below hb)
      have Ic := Lib.hid hi
      clear x28 x29 x30
      clear hb hi HC
      have hC := refChosenG a cap p L S w4 hl HJ31.out.st
      have HC := Lib.hid hC
      clear hC
      have x34 := HJ31.out.x1
      have x35 := HJ31.out.x2
      have x36 := HJ31.out.x3
      go_wp2_with fail
      refine HC.out.mono ?_
      rintro e w5 ⟨Ad, Cd, rfl, hi, hb⟩
      have HJ37 := Lib.hid (HJ31.out.on hb)
      have HB38 := Lib.hid (HB32.out.trans (hb.mono HB32.out.size))
      have HI39 := Lib.hid (HI33.out.below hb)
      have Ic40 := Lib.hid (Ic.out.below hb)
      have Id := Lib.hid hi
      clear x34 x35 x36
      clear hb hi HC
      have hC := heaviest_any a cap p L S w5 hl HJ37.out.st
      have HC := Lib.hid hC
      clear hC
      have x41 := HJ37.out.x1
      have x42 := HJ37.out.x2
      have x43 := HJ37.out.x3
      go_wp2_with fail
      refine HC.out.mono ?_
      rintro e w6 ⟨rfl, hb⟩
      have HJ44 := Lib.hid (HJ37.out.on hb)
      have HB45 := Lib.hid (HB38.out.trans (hb.mono HB38.out.size))
      have HI46 := Lib.hid (HI39.out.below hb)
      have Ic47 := Lib.hid (Ic40.out.below hb)
      have Id48 := Lib.hid (Id.out.below hb)
      clear x41 x42 x43
      clear hb HC
      have hC := refHeaviest_any a cap p L S w6 hl HJ44.out.st
      have HC := Lib.hid hC
      clear hC
      have x49 := HJ44.out.x1
      have x50 := HJ44.out.x2
      have x51 := HJ44.out.x3
      go_wp2_with fail
      refine HC.out.mono ?_
      rintro e w7 ⟨rfl, hb⟩
      have HJ52 := Lib.hid (HJ44.out.on hb)
      have HB53 := Lib.hid (HB45.out.trans (hb.mono HB45.out.size))
      have HI54 := Lib.hid (HI46.out.below hb)
      have Ic55 := Lib.hid (Ic47.out.below hb)
      have Id56 := Lib.hid (Id48.out.below hb)
      clear x49 x50 x51
      clear hb HC
      have hC := kind_any a cap p L S i w7 hl HJ52.out.st
      have HC := Lib.hid hC
      clear hC
      have x57 := HJ52.out.x1
      have x58 := HJ52.out.x2
      have x59 := HJ52.out.x3
      go_wp2_with fail
      refine HC.out.mono ?_
      rintro e w8 ⟨rfl, hb⟩
      have HJ60 := Lib.hid (HJ52.out.on hb)
      have HB61 := Lib.hid (HB53.out.trans (hb.mono HB53.out.size))
      have HI62 := Lib.hid (HI54.out.below hb)
      have Ic63 := Lib.hid (Ic55.out.below hb)
      have Id64 := Lib.hid (Id56.out.below hb)
      clear x57 x58 x59
      clear hb HC
      have hC := refKind_any a cap p L S i w8 hl HJ60.out.st
      have HC := Lib.hid hC
      clear hC
      have x65 := HJ60.out.x1
      have x66 := HJ60.out.x2
      have x67 := HJ60.out.x3
      go_wp2_with fail
      refine HC.out.mono ?_
      rintro e w9 ⟨rfl, hb⟩
      have HJ68 := Lib.hid (HJ60.out.on hb)
      have HB69 := Lib.hid (HB61.out.trans (hb.mono HB61.out.size))
      have HI70 := Lib.hid (HI62.out.below hb)
      have Ic71 := Lib.hid (Ic63.out.below hb)
      have Id72 := Lib.hid (Id64.out.below hb)
      clear x65 x66 x67
      clear hb HC
      have HC := Lib.hid (ints_same Ac Cc ((P.chosenE p L S).1).length ((P.chosenE p L S).1) Ad Cd w9 rfl (chosenE_len hl) Ic71.out Id72.out)
      go_wp2_with fail
      refine HC.out.mono ?_
      rintro e w10 ⟨rfl, hb⟩
      have HJ73 := Lib.hid (HJ68.out.on hb)
      have HB74 := Lib.hid (HB69.out.trans (hb.mono HB69.out.size))
      have HI75 := Lib.hid (HI70.out.below hb)
      have Ic76 := Lib.hid (Ic71.out.below hb)
      have Id77 := Lib.hid (Id72.out.below hb)
      clear hb HC
      go_wp2_with fail
      refine (works_any _).mono ?_
      rintro e w11 ⟨rfl, hb⟩
      have HJ78 := Lib.hid (HJ73.out.on hb)
      have HB79 := Lib.hid (HB74.out.trans (hb.mono HB74.out.size))
      have HI80 := Lib.hid (HI75.out.below hb)
      have Ic81 := Lib.hid (Ic76.out.below hb)
      have Id82 := Lib.hid (Id77.out.below hb)
      clear hb
      go_wp2_with fail
      go_ret
      exact ⟨rfl, HB79.out⟩
end Go.Proofs.Ytpkffjcmoghaaaa
/- Walk of PunchWindows. -/
namespace Go.Proofs.Ytpkffjcmoghaaaa
open Go.RowKit
set_option maxRecDepth 20000 in
set_option maxHeartbeats 4000000 in
theorem windows_walk (a : Option Addr) (cap : Nat) (p L : Int) (S : List P.Star) (x y : Int) (w : World) (ha : Stars w a S) :
    Calls Try.prog 5 #[jobV p L a S.length cap, .int .i64 x, .int .i64 y] w fun e w' => e = .returned (.bool true) ∧ Below w.heap.size w w' := by
  have HJ0 := Lib.hid (Job.new ha p L cap 24)
  have HB0 := Lib.hid (Below.new w (.cells #[.int .i64 p, .int .i64 L, .slice a S.length cap] 24))
  clear ha
  have HG := great_any a cap S.length p L (w.alloc (.cells #[.int .i64 p, .int .i64 L, .slice a S.length cap] 24))
  by_cases h24 : 24 < S.length
  · rw [decide_eq_true h24] at HG
    have HG := Lib.hid HG
    clear h24
    go_enter Try.func5, Try.ntmps5
    go_wp2_with fail
    refine (HG.out).mono ?_
    rintro e w1 ⟨rfl, hb⟩
    have HJ1 := Lib.hid (HJ0.out.on hb)
    have HB2 := Lib.hid (HB0.out.trans (hb.mono HB0.out.size))
    clear hb
    go_wp2_with fail
    refine (works_any _).mono ?_
    rintro e w2 ⟨rfl, hb⟩
    have HJ3 := Lib.hid (HJ1.out.on hb)
    have HB4 := Lib.hid (HB2.out.trans (hb.mono HB2.out.size))
    clear hb
    go_wp2_with fail
    go_ret
    exact ⟨rfl, HB4.out⟩
  · rw [decide_eq_false h24] at HG
    have HG := Lib.hid HG
    have hl : S.length ≤ 1000000 := by omega
    clear h24
    by_cases hc : P.checkJob p L S = 0
    · have HZ := Lib.hid hc
      have HV := Lib.hid (P.checkJob_iff.1 hc)
      clear hc
      have HHas := Lib.hid (fun W hW => has_any a cap S p L W hl (by have := HV.out.p1; omega) (by have := HV.out.p5; omega) HV.out.l20 hW)
      cases hf : P.fitsB S p L
      · rw [hf] at HHas
        have HNF : Hid (¬ P.Fits S p L) := Lib.hid (fun h => by have := P.fitsB_iff.2 h; rw [hf] at this; cases this)
        clear hf
        go_enter Try.func5, Try.ntmps5
        go_wp2_with fail
        refine (HG.out).mono ?_
        rintro e w1 ⟨rfl, hb⟩
        have HJ5 := Lib.hid (HJ0.out.on hb)
        have HB6 := Lib.hid (HB0.out.trans (hb.mono HB0.out.size))
        clear hb
        have hC := checkWindow_any a cap p L S x y w1 hl HJ5.out.st
        have HC := Lib.hid hC
        clear hC
        have x7 := HJ5.out.x1
        have x8 := HJ5.out.x2
        have x9 := HJ5.out.x3
        go_wp2_with fail
        refine HC.out.mono ?_
        rintro e w2 ⟨rfl, hb⟩
        have HJ10 := Lib.hid (HJ5.out.on hb)
        have HB11 := Lib.hid (HB6.out.trans (hb.mono HB6.out.size))
        clear x7 x8 x9
        clear hb HC
        have hC := refCheckWindow_any a cap p L S x y w2 hl HJ10.out.st
        have HC := Lib.hid hC
        clear hC
        have x12 := HJ10.out.x1
        have x13 := HJ10.out.x2
        have x14 := HJ10.out.x3
        go_wp2_with fail
        refine HC.out.mono ?_
        rintro e w3 ⟨rfl, hb⟩
        have HJ15 := Lib.hid (HJ10.out.on hb)
        have HB16 := Lib.hid (HB11.out.trans (hb.mono HB11.out.size))
        clear x12 x13 x14
        clear hb HC
        have hC := window_any a cap p L S w3 hl HJ15.out.st
        have HC := Lib.hid hC
        clear hC
        have x17 := HJ15.out.x1
        have x18 := HJ15.out.x2
        have x19 := HJ15.out.x3
        go_wp2_with fail
        refine HC.out.mono ?_
        rintro e w4 ⟨xq, yq, cq, rfl, hW, hb⟩
        have hWn : cq = 0 ∧ ∃ c1, P.windowE p L S xq yq = (c1, 0) := by
          rcases hW with ⟨h1, h2, -⟩ | ⟨-, h2, -⟩ | ⟨-, h1, h2, h3, h4, h5⟩
          · exact absurd (h1.trans HZ.out) h2
          · exact absurd h2 HNF.out
          · exact ⟨h1, _, windowE_ok HZ.out ⟨h2, h3, h4⟩ (by omega)⟩
        obtain ⟨rfl, vc, hvc⟩ := hWn
        have HVc := Lib.hid hvc
        clear hvc hW
        have HJ20 := Lib.hid (HJ15.out.on hb)
        have HB21 := Lib.hid (HB16.out.trans (hb.mono HB16.out.size))
        clear x17 x18 x19
        clear hb HC
        have hC := refCheckJob_any a cap p L S w4 hl HJ20.out.st
        rw [HZ.out] at hC
        have HC := Lib.hid hC
        clear hC
        have x22 := HJ20.out.x1
        have x23 := HJ20.out.x2
        have x24 := HJ20.out.x3
        go_wp2_with fail
        refine HC.out.mono ?_
        rintro e w5 ⟨rfl, hb⟩
        have HJ25 := Lib.hid (HJ20.out.on hb)
        have HB26 := Lib.hid (HB21.out.trans (hb.mono HB21.out.size))
        clear x22 x23 x24
        clear hb HC
        have x27 := HJ25.out.x1
        have x28 := HJ25.out.x2
        have x29 := HJ25.out.x3
        go_wp2_with fail
        refine (HHas.out _ HJ25.out.st).mono ?_
        rintro e w6 ⟨rfl, hb⟩
        have HJ30 := Lib.hid (HJ25.out.on hb)
        have HB31 := Lib.hid (HB26.out.trans (hb.mono HB26.out.size))
        clear x27 x28 x29
        clear hb
        have hC := refCheckWindow_any a cap p L S xq yq w6 hl HJ30.out.st
        rw [HVc.out] at hC
        have HC := Lib.hid hC
        clear hC
        have x32 := HJ30.out.x1
        have x33 := HJ30.out.x2
        have x34 := HJ30.out.x3
        go_wp2_with fail
        refine HC.out.mono ?_
        rintro e w7 ⟨rfl, hb⟩
        have HJ35 := Lib.hid (HJ30.out.on hb)
        have HB36 := Lib.hid (HB31.out.trans (hb.mono HB31.out.size))
        clear x32 x33 x34
        clear hb HC
        go_wp2_with fail
        refine (works_any _).mono ?_
        rintro e w8 ⟨rfl, hb⟩
        have HJ37 := Lib.hid (HJ35.out.on hb)
        have HB38 := Lib.hid (HB36.out.trans (hb.mono HB36.out.size))
        clear hb
        go_wp2_with fail
        go_ret
        exact ⟨rfl, HB38.out⟩
      · rw [hf] at HHas
        have HFt := Lib.hid (P.fitsB_iff.1 hf)
        clear hf
        go_enter Try.func5, Try.ntmps5
        go_wp2_with fail
        refine (HG.out).mono ?_
        rintro e w1 ⟨rfl, hb⟩
        have HJ39 := Lib.hid (HJ0.out.on hb)
        have HB40 := Lib.hid (HB0.out.trans (hb.mono HB0.out.size))
        clear hb
        have hC := checkWindow_any a cap p L S x y w1 hl HJ39.out.st
        have HC := Lib.hid hC
        clear hC
        have x41 := HJ39.out.x1
        have x42 := HJ39.out.x2
        have x43 := HJ39.out.x3
        go_wp2_with fail
        refine HC.out.mono ?_
        rintro e w2 ⟨rfl, hb⟩
        have HJ44 := Lib.hid (HJ39.out.on hb)
        have HB45 := Lib.hid (HB40.out.trans (hb.mono HB40.out.size))
        clear x41 x42 x43
        clear hb HC
        have hC := refCheckWindow_any a cap p L S x y w2 hl HJ44.out.st
        have HC := Lib.hid hC
        clear hC
        have x46 := HJ44.out.x1
        have x47 := HJ44.out.x2
        have x48 := HJ44.out.x3
        go_wp2_with fail
        refine HC.out.mono ?_
        rintro e w3 ⟨rfl, hb⟩
        have HJ49 := Lib.hid (HJ44.out.on hb)
        have HB50 := Lib.hid (HB45.out.trans (hb.mono HB45.out.size))
        clear x46 x47 x48
        clear hb HC
        have hC := window_any a cap p L S w3 hl HJ49.out.st
        have HC := Lib.hid hC
        clear hC
        have x51 := HJ49.out.x1
        have x52 := HJ49.out.x2
        have x53 := HJ49.out.x3
        go_wp2_with fail
        refine HC.out.mono ?_
        rintro e w4 ⟨xq, yq, cq, rfl, hW, hb⟩
        have hWn : xq = 0 ∧ yq = 0 ∧ cq = 5 := by
          rcases hW with ⟨h1, h2, -⟩ | ⟨-, -, h2⟩ | ⟨-, h1, h2, h3, h4, h5⟩
          · exact absurd (h1.trans HZ.out) h2
          · exact h2
          · exfalso
            have := HFt.out xq yq h2 h3 h4
            omega
        obtain ⟨rfl, rfl, rfl⟩ := hWn
        clear hW
        have HJ54 := Lib.hid (HJ49.out.on hb)
        have HB55 := Lib.hid (HB50.out.trans (hb.mono HB50.out.size))
        clear x51 x52 x53
        clear hb HC
        have hC := refCheckJob_any a cap p L S w4 hl HJ54.out.st
        rw [HZ.out] at hC
        have HC := Lib.hid hC
        clear hC
        have x56 := HJ54.out.x1
        have x57 := HJ54.out.x2
        have x58 := HJ54.out.x3
        go_wp2_with fail
        refine HC.out.mono ?_
        rintro e w5 ⟨rfl, hb⟩
        have HJ59 := Lib.hid (HJ54.out.on hb)
        have HB60 := Lib.hid (HB55.out.trans (hb.mono HB55.out.size))
        clear x56 x57 x58
        clear hb HC
        have x61 := HJ59.out.x1
        have x62 := HJ59.out.x2
        have x63 := HJ59.out.x3
        go_wp2_with fail
        refine (HHas.out _ HJ59.out.st).mono ?_
        rintro e w6 ⟨rfl, hb⟩
        have HJ64 := Lib.hid (HJ59.out.on hb)
        have HB65 := Lib.hid (HB60.out.trans (hb.mono HB60.out.size))
        clear x61 x62 x63
        clear hb
        go_wp2_with fail
        refine (works_any _).mono ?_
        rintro e w7 ⟨rfl, hb⟩
        have HJ66 := Lib.hid (HJ64.out.on hb)
        have HB67 := Lib.hid (HB65.out.trans (hb.mono HB65.out.size))
        clear hb
        go_wp2_with fail
        go_ret
        exact ⟨rfl, HB67.out⟩
    · have HZn := Lib.hid hc
      have hcb := beq_false_of_ne hc
      have hcn := ne_bool hc
      clear hc
      go_enter Try.func5, Try.ntmps5
      go_wp2_with fail
      refine (HG.out).mono ?_
      rintro e w1 ⟨rfl, hb⟩
      have HJ68 := Lib.hid (HJ0.out.on hb)
      have HB69 := Lib.hid (HB0.out.trans (hb.mono HB0.out.size))
      clear hb
      have hC := checkWindow_any a cap p L S x y w1 hl HJ68.out.st
      have HC := Lib.hid hC
      clear hC
      have x70 := HJ68.out.x1
      have x71 := HJ68.out.x2
      have x72 := HJ68.out.x3
      go_wp2_with fail
      refine HC.out.mono ?_
      rintro e w2 ⟨rfl, hb⟩
      have HJ73 := Lib.hid (HJ68.out.on hb)
      have HB74 := Lib.hid (HB69.out.trans (hb.mono HB69.out.size))
      clear x70 x71 x72
      clear hb HC
      have hC := refCheckWindow_any a cap p L S x y w2 hl HJ73.out.st
      have HC := Lib.hid hC
      clear hC
      have x75 := HJ73.out.x1
      have x76 := HJ73.out.x2
      have x77 := HJ73.out.x3
      go_wp2_with fail
      refine HC.out.mono ?_
      rintro e w3 ⟨rfl, hb⟩
      have HJ78 := Lib.hid (HJ73.out.on hb)
      have HB79 := Lib.hid (HB74.out.trans (hb.mono HB74.out.size))
      clear x75 x76 x77
      clear hb HC
      have hC := window_any a cap p L S w3 hl HJ78.out.st
      have HC := Lib.hid hC
      clear hC
      have x80 := HJ78.out.x1
      have x81 := HJ78.out.x2
      have x82 := HJ78.out.x3
      go_wp2_with fail
      refine HC.out.mono ?_
      rintro e w4 ⟨xq, yq, cq, rfl, hW, hb⟩
      have hWn : xq = 0 ∧ yq = 0 ∧ cq = P.checkJob p L S := by
        rcases hW with ⟨h1, h2, h3, h4⟩ | ⟨h1, -⟩ | ⟨h1, -⟩
        · exact ⟨h3, h4, h1⟩
        · exact absurd h1 HZn.out
        · exact absurd h1 HZn.out
      obtain ⟨rfl, rfl, rfl⟩ := hWn
      clear hW
      have HJ83 := Lib.hid (HJ78.out.on hb)
      have HB84 := Lib.hid (HB79.out.trans (hb.mono HB79.out.size))
      clear x80 x81 x82
      clear hb HC
      have hC := refCheckJob_any a cap p L S w4 hl HJ83.out.st
      have HC := Lib.hid hC
      clear hC
      have x85 := HJ83.out.x1
      have x86 := HJ83.out.x2
      have x87 := HJ83.out.x3
      go_wp2_with fail
      refine HC.out.mono ?_
      rintro e w5 ⟨rfl, hb⟩
      have HJ88 := Lib.hid (HJ83.out.on hb)
      have HB89 := Lib.hid (HB84.out.trans (hb.mono HB84.out.size))
      clear x85 x86 x87
      clear hb HC
      generalize P.checkJob p L S = C at *
      go_wp2_with fail
      refine (works_any _).mono ?_
      rintro e w6 ⟨rfl, hb⟩
      have HJ90 := Lib.hid (HJ88.out.on hb)
      have HB91 := Lib.hid (HB89.out.trans (hb.mono HB89.out.size))
      clear hb
      go_wp2_with fail
      go_ret
      exact ⟨rfl, HB91.out⟩
end Go.Proofs.Ytpkffjcmoghaaaa
/- Walk of PunchJobs. -/
namespace Go.Proofs.Ytpkffjcmoghaaaa
open Go.RowKit Go.Lib Go.Sort
set_option maxRecDepth 20000 in
set_option maxHeartbeats 4000000 in
theorem jobs_walk (a : Option Addr) (cap : Nat) (p L : Int) (S : List P.Star) (b : Option Addr) (cap2 : Nat) (l : List Int) (w : World) (ha : Stars w a S) (hbl : Ints .i64 w b l) :
    Calls Try.prog 3 #[jobV p L a S.length cap, .slice b l.length cap2] w fun e w' => e = .returned (.bool true) ∧ Below w.heap.size w w' := by
  have HI0 := Lib.hid (hbl.alloc (.cells #[.int .i64 p, .int .i64 L, .slice a S.length cap] 24))
  have HG := great_any a cap S.length p L (w.alloc (.cells #[.int .i64 p, .int .i64 L, .slice a S.length cap] 24))
  have HJ0 := Lib.hid (Job.new ha p L cap 24)
  have HB0 := Lib.hid (Below.new w (.cells #[.int .i64 p, .int .i64 L, .slice a S.length cap] 24))
  clear ha hbl
  by_cases h24 : 24 < S.length
  · rw [decide_eq_true h24] at HG
    have HG := Lib.hid HG
    clear h24
    go_enter Try.func3, Try.ntmps3
    go_wp2_with fail
    refine (HG.out).mono ?_
    rintro e w1 ⟨rfl, hb⟩
    have HJ1 := Lib.hid (HJ0.out.on hb)
    have HB2 := Lib.hid (HB0.out.trans (hb.mono HB0.out.size))
    have HI3 := Lib.hid (HI0.out.below hb)
    clear hb
    go_wp2_with fail
    refine (works_any _).mono ?_
    rintro e w2 ⟨rfl, hb⟩
    have HJ4 := Lib.hid (HJ1.out.on hb)
    have HB5 := Lib.hid (HB2.out.trans (hb.mono HB2.out.size))
    have HI6 := Lib.hid (HI3.out.below hb)
    clear hb
    go_wp2_with fail
    go_ret
    exact ⟨rfl, HB5.out⟩
  · rw [decide_eq_false h24] at HG
    have HG := Lib.hid HG
    have hl : S.length ≤ 1000000 := by omega
    clear h24
    by_cases h30 : 30 < l.length
    · have h30I : (30 : Int) < (l.length : Int) := by omega
      clear h30
      go_enter Try.func3, Try.ntmps3
      go_wp2_with fail
      refine (HG.out).mono ?_
      rintro e w1 ⟨rfl, hb⟩
      have HJ7 := Lib.hid (HJ0.out.on hb)
      have HB8 := Lib.hid (HB0.out.trans (hb.mono HB0.out.size))
      have HI9 := Lib.hid (HI0.out.below hb)
      clear hb
      go_wp2_with fail
      refine (works_any _).mono ?_
      rintro e w2 ⟨rfl, hb⟩
      have HJ10 := Lib.hid (HJ7.out.on hb)
      have HB11 := Lib.hid (HB8.out.trans (hb.mono HB8.out.size))
      have HI12 := Lib.hid (HI9.out.below hb)
      clear hb
      go_wp2_with fail
      go_ret
      exact ⟨rfl, HB11.out⟩
    · have h30I : ¬ (30 : Int) < (l.length : Int) := by omega
      have hl2 : l.length ≤ 1000000 := by omega
      clear h30
      go_enter Try.func3, Try.ntmps3
      go_wp2_with fail
      refine (HG.out).mono ?_
      rintro e w1 ⟨rfl, hb⟩
      have HJ13 := Lib.hid (HJ0.out.on hb)
      have HB14 := Lib.hid (HB0.out.trans (hb.mono HB0.out.size))
      have HI15 := Lib.hid (HI0.out.below hb)
      clear hb
      have r0 := cell_regrown HJ13.out.x1
      have r1 := cell_regrown HJ13.out.x2
      have r2 := cell_regrown HJ13.out.x3
      have cA : ∀ dd os, Calls Try.prog 19 #[jobV p L a S.length cap] (Go.Sort.grow (redrawn w1 dd) os) fun e w'' => e = .returned (.int .i64 (P.checkJob p L S)) ∧ ∃ p : Regrown, w'' = Go.Sort.grow (redrawn w1 p.d) p.os := fun dd os =>
        Calls.regrown_of (checkJob_any a cap p L S _ hl (HJ13.out.st.below (below_regrown w1 dd os)))
      have cB : ∀ dd os, Calls Try.prog 20 #[jobV p L a S.length cap] (Go.Sort.grow (redrawn w1 dd) os) fun e w'' => e = .returned (.int .i64 (P.checkJob p L S)) ∧ ∃ p : Regrown, w'' = Go.Sort.grow (redrawn w1 p.d) p.os := fun dd os =>
        Calls.regrown_of (refCheckJob_any a cap p L S _ hl (HJ13.out.st.below (below_regrown w1 dd os)))
      have cC : ∀ dd os, Calls Try.prog 21 #[jobV p L a S.length cap, .slice b l.length cap2] (Go.Sort.grow (redrawn w1 dd) os) fun e w'' => e = .returned (.int .i64 (P.checkPlan p L S l)) ∧ ∃ p : Regrown, w'' = Go.Sort.grow (redrawn w1 p.d) p.os := fun dd os =>
        Calls.regrown_of (checkPlan_any a cap p L S b cap2 l _ hl hl2 (HJ13.out.st.below (below_regrown w1 dd os)) (HI15.out.below (below_regrown w1 dd os)))
      have cD : ∀ dd os, Calls Try.prog 22 #[jobV p L a S.length cap, .slice b l.length cap2] (Go.Sort.grow (redrawn w1 dd) os) fun e w'' => e = .returned (.int .i64 (P.checkPlan p L S l)) ∧ ∃ p : Regrown, w'' = Go.Sort.grow (redrawn w1 p.d) p.os := fun dd os =>
        Calls.regrown_of (refCheckPlan_any a cap p L S b cap2 l _ hl hl2 (HJ13.out.st.below (below_regrown w1 dd os)) (HI15.out.below (below_regrown w1 dd os)))
      have cE : ∀ dd os, Calls Try.prog 18 #[] (Go.Sort.grow (redrawn w1 dd) os) fun e w'' => e = .returned (.bool true) ∧ ∃ p : Regrown, w'' = Go.Sort.grow (redrawn w1 p.d) p.os := fun dd os =>
        Calls.regrown_of (works_any _)
      go_wp2_with fail
      refine wp_region_quiet_below (by kernel_rfl) (by kernel_rfl) ?_
      repeat (quiet_step (first | exact cA _ _ | exact cB _ _ | exact cC _ _ | exact cD _ _ | exact cE _ _))
      refine wpQuiet_nil ?_
      intro _ hw'
      obtain ⟨⟨dq, osq⟩, hw''⟩ := hw'
      subst hw''
      have HBq := Lib.hid (below_regrown w1 dq osq)
      clear r0 r1 r2 cA cB cC cD cE
      go_wp2_with fail
      go_ret
      exact ⟨rfl, HB14.out.trans (HBq.out.mono HB14.out.size)⟩
end Go.Proofs.Ytpkffjcmoghaaaa
