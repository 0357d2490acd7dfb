/- Walk of PunchTurned. -/
import Derived.Test.YtpkffjcmoghaaaaJ16
namespace Go.Proofs.Ytpkffjcmoghaaaa
open Go.RowKit Go.Lib Go.Sort
structure XI (w0 : World) (p L : Int) (v : Value) (j : Nat) (T : List P.Star) (w : World) : Prop where
  cel : Cells w w0.heap.size [.int .i64 p, .int .i64 L, v]
  row : w.ownsRow (w0.heap.size + 1) 59 3 v j (flatS T)
  bel : Below w0.heap.size w0 w
theorem XI.on {w0 : World} {p L : Int} {v : Value} {j : Nat} {T : List P.Star} {w w' : World} (h : XI w0 p L v j T w) (hb : Below w.heap.size w w') : XI w0 p L v j T w' :=
  ⟨h.cel.on hb, owns_below h.row hb, h.bel.trans (hb.mono h.bel.size)⟩
theorem turn_next {L : Int} {S : List P.Star} {j : Nat} (h : j < S.length) : (P.turn L S).take (j + 1) = (P.turn L S).take j ++ [(L - 1 - (P.star S j).2.1, L - 1 - (P.star S j).1, (P.star S j).2.2)] := by
  have h' : j < (P.turn L S).length := by rw [P.turn_length]; exact h
  rw [List.take_succ_eq_append_getElem h']
  have e : (P.turn L S)[j] = P.star (P.turn L S) j := by simp [P.star, h']
  rw [e, P.star_turn h]
theorem rev_at {L : Int} {l : List Int} {n m : Nat} (hn : n + m + 1 = l.length) : nth ((l.map fun w => L - 1 - w).reverse) m = L - 1 - nth l n := by
  have h1 : m < ((l.map fun w => L - 1 - w).reverse).length := by simp; omega
  have h2 : n < l.length := by omega
  unfold nth
  rw [List.getD_eq_getElem?_getD, List.getD_eq_getElem?_getD, List.getElem?_eq_getElem h1, List.getElem?_eq_getElem h2]
  simp only [Option.getD_some, List.getElem_reverse, List.getElem_map, List.length_map]
  congr 2
  omega
set_option maxRecDepth 20000 in
set_option maxHeartbeats 20000000 in
theorem turned_walk (a : Option Addr) (cap : Nat) (p L : Int) (S : List P.Star) (n1 : Int) (w : World) (ha : Stars w a S) (h1 : (Lit.int .u8 n1).wf = true) :
    Calls Try.prog 11 #[jobV p L a S.length cap, .int .u8 n1] w fun e w' => e = .returned (.bool true) ∧ Below w.heap.size w w' := by
  have hn1 := u8_bd h1
  clear h1
  have HJ0 := Lib.hid (Job.new ha p L cap 24)
  have HB0 := Lib.hid (Below.new w (.cells #[.int .i64 p, .int .i64 L, .slice a S.length cap] 24))
  clear ha
  have HF := fine_any a cap p L S (w.alloc (.cells #[.int .i64 p, .int .i64 L, .slice a S.length cap] 24)) HJ0.out.st
  by_cases hc : P.checkJob p L S = 0
  · rw [decide_eq_true hc] at HF
    have HF := Lib.hid HF
    have HZ := Lib.hid hc
    have HV := Lib.hid (P.checkJob_iff.1 hc)
    have hl : S.length ≤ 1000000 := by have := HV.out.len; omega
    clear hc
    have h16 : S.length ≤ 16 := HV.out.len
    have HZT := Lib.hid (P.checkJob_iff.2 (P.turn_valid HV.out))
    have HLT := Lib.hid (P.turn_length L S)
    have HFT : Hid (P.fitsB (P.turn L S) p L = P.fitsB S p L) := Lib.hid P.fitsB_turn
    have HMS := Lib.hid (fewestE_ok HZ.out)
    have HMT : Hid (P.fewestE p L (P.turn L S) = (((P.fewest S L : Nat) : Int), 0)) := Lib.hid (by rw [fewestE_ok HZT.out, P.fewest_turn])
    have HHS := Lib.hid (heavyE_ok HZ.out)
    have HHT : Hid (P.heavyE p L (P.turn L S) = (P.heavy S p L, 0)) := Lib.hid (by rw [heavyE_ok HZT.out, P.heavy_turn HV.out])
    have HStS : Hid (∀ k : Nat, k < S.length → P.starred p L S (k : Int) = 0) := Lib.hid (fun k hk => by unfold P.starred; rw [if_neg (not_not_intro HZ.out), if_neg (by omega)])
    have HStT : Hid (∀ k : Nat, k < S.length → P.starred p L (P.turn L S) (k : Int) = 0) := Lib.hid (fun k hk => by unfold P.starred; rw [if_neg (not_not_intro HZT.out), if_neg (by rw [HLT.out]; omega)])
    have HKS : Hid (∀ k : Nat, k < S.length → P.kindE p L S (k : Int) = (P.kind S p L k, 0)) := Lib.hid (fun k hk => kindE_ok (HStS.out k hk))
    have HKT : Hid (∀ k : Nat, k < S.length → P.kindE p L (P.turn L S) (k : Int) = (P.kind S p L k, 0)) := Lib.hid (fun k hk => by rw [kindE_ok (HStT.out k hk), ← P.kind_turn HV.out hk]; rfl)
    have HTm : Hid (∀ k : Nat, k < S.length → ∃ (l : List Int) (e : Int), P.timesE p L S (k : Int) = (l, e) ∧ P.timesE p L (P.turn L S) (k : Int) = ((l.map fun w => L - 1 - w).reverse, e) ∧ l.length ≤ 20 ∧ (∀ v ∈ l, 0 ≤ v ∧ v < L) ∧ (P.fitsB S p L = true ∧ e = 0 ∨ P.fitsB S p L = false ∧ e = 13)) := Lib.hid (fun k hk => by
      cases hf : P.fitsB S p L with
      | true =>
        refine ⟨_, _, timesE_yes (HStS.out k hk) hf, ?_, ?_, ?_, .inl ⟨rfl, rfl⟩⟩
        · have e : ((k : Int)).toNat = k := by omega
          rw [timesE_yes (HStT.out k hk) (by rw [HFT.out, hf]), e, P.times_turn hk]
        · exact times_len HV.out hk
        · intro v hv
          have h := P.times_mem.1 hv
          have hs := HV.out.star hk
          have e : ((k : Int)).toNat = k := by omega
          rw [e] at h
          omega
      | false =>
        exact ⟨_, _, timesE_no (HStS.out k hk) hf, timesE_no (HStT.out k hk) (by rw [HFT.out, hf]), by simp, by simp, .inr ⟨rfl, rfl⟩⟩)
    have HTn : Hid (∀ j, j < S.length → (P.turn L S).take (j + 1) = (P.turn L S).take j ++ [(L - 1 - (P.star S j).2.1, L - 1 - (P.star S j).1, (P.star S j).2.2)]) := Lib.hid (fun j hj => turn_next hj)
    have hL1 := HV.out.l1
    have hL20 := HV.out.l20
    generalize P.turn L S = T at *
    generalize P.fewest S L = Fe at *
    generalize P.heavy S p L = Hv at *
    go_enter Try.func11, Try.ntmps11
    go_wp2_with fail
    refine (HF.out).mono ?_
    rintro e w1 ⟨rfl, hb⟩
    have HJ1 := Lib.hid (HJ0.out.on hb)
    have HB2 := Lib.hid (HB0.out.trans (hb.mono HB0.out.size))
    clear hb
    have HJlt := Lib.hid HJ1.out.lt
    have x3 := HJ1.out.x1
    have x4 := HJ1.out.x2
    have x5 := HJ1.out.x3
    go_wp2_with fail
    clear x3 x4 x5
    have HI : Hid (XI w1 p L (.slice none 0 0) 0 (T.take 0) (w1.alloc (.cells #[.int .i64 p, .int .i64 L, .slice none 0 0] 24))) := Lib.hid ⟨Cells.new w1 _ 24, World.ownsRow_nil _ _ _ _, Below.new _ _⟩
    go_loopw [6, 7] (fun i _ wr => ∃ (j : Nat) (v : Value), j ≤ S.length ∧ i = .int .i64 j ∧ Hid (XI w1 p L v j (T.take j) wr)) (fun i _ _ => S.length - (intOf i).toNat)
    case atStart => exact ⟨0, _, by omega, rfl, HI⟩
    case round =>
      obtain ⟨j, v, hj, rfl, HI1⟩ := hrel
      clear HI
      have hb := HI1.out.bel
      have HJ6 := Lib.hid (HJ1.out.on hb)
      have HB7 := Lib.hid (HB2.out.trans (hb.mono HB2.out.size))
      clear hb
      by_cases hlt : j < S.length
      · have hjI : (j : Int) < (S.length : Int) := by omega
        have hj0 : (0 : Int) ≤ (j : Int) := by omega
        obtain ⟨sb, so, hae, s1, s2, s3⟩ := HJ6.out.st j hlt
        subst hae
        have hst := HV.out.star hlt
        have HS := Lib.hid (HTn.out j hlt)
        have xL := HJ6.out.x2
        have x3 := HJ6.out.x3
        generalize (P.star S j).1 = a0 at *
        generalize (P.star S j).2.1 = a1 at *
        generalize (P.star S j).2.2 = a2 at *
        have k1 : IntKind.i64.wrap (L - 1) = L - 1 := IntWalk.i64_in _ (by omega)
        have k2 : IntKind.i64.wrap (L - 1 - a1) = L - 1 - a1 := IntWalk.i64_in _ (by omega)
        have k3 : IntKind.i64.wrap (L - 1 - a0) = L - 1 - a0 := IntWalk.i64_in _ (by omega)
        clear hst
        have hbq := Below.new wr (.cells #[.int .i64 a0, .int .i64 a1, .int .i64 a2] 59)
        have hx1 := HI1.out.cel.cel 2 _ rfl
        have hx1q := cell_on hbq hx1
        have xLq := cell_on hbq xL
        clear hbq
        have hb1 : Below wr.heap.size wr ((wr.alloc (.cells #[.int .i64 a0, .int .i64 a1, .int .i64 a2] 59)).alloc (.cells #[.int .i64 (L - 1 - a1), .int .i64 (L - 1 - a0), .int .i64 (a2)] 59)) := (Below.new wr _).alloc (by simp) _
        have HI5 := Lib.hid (HI1.out.on hb1)
        have HSzr := Lib.hid HI1.out.bel.size
        have Hvr : Hid (∀ g, v.ownBlock = some g → w1.heap.size + 1 ≤ g ∧ g < wr.heap.size) := Lib.hid (fun g e => HI1.out.row.lt g e)
        have Hnews : Hid (∀ j u, (encS (L - 1 - a1, L - 1 - a0, a2))[j]? = some u → ((wr.alloc (.cells #[.int .i64 a0, .int .i64 a1, .int .i64 a2] 59)).alloc (.cells #[.int .i64 (L - 1 - a1), .int .i64 (L - 1 - a0), .int .i64 (a2)] 59)).cell? ((⟨wr.heap.size + 1, 0, none⟩ : Addr).add j) = some u) := Lib.hid (by
          have := news_new (wr.alloc (.cells #[.int .i64 a0, .int .i64 a1, .int .i64 a2] 59)) #[.int .i64 (L - 1 - a1), .int .i64 (L - 1 - a0), .int .i64 (a2)] 59
          rw [World.size_alloc] at this; exact this)
        have hlen2 : j + 1 ≤ 2000000 := by omega
        have hszW : w1.heap.size + 1 ≤ ((wr.alloc (.cells #[.int .i64 a0, .int .i64 a1, .int .i64 a2] 59)).alloc (.cells #[.int .i64 (L - 1 - a1), .int .i64 (L - 1 - a0), .int .i64 (a2)] 59)).heap.size := by have := HI1.out.cel.lt; simp; omega
        have HC2 : Hid (∀ w2, ((wr.alloc (.cells #[.int .i64 a0, .int .i64 a1, .int .i64 a2] 59)).alloc (.cells #[.int .i64 (L - 1 - a1), .int .i64 (L - 1 - a0), .int .i64 (a2)] 59)).grownBy w2 v.ownBlock → Cells w2 w1.heap.size [.int .i64 p, .int .i64 L, v]) := Lib.hid (fun w2 hg => HI5.out.cel.grown hg (fun e => by have := (Hvr.out _ e.symm).1; omega))
        have HB2 : Hid (∀ w2, ((wr.alloc (.cells #[.int .i64 a0, .int .i64 a1, .int .i64 a2] 59)).alloc (.cells #[.int .i64 (L - 1 - a1), .int .i64 (L - 1 - a0), .int .i64 (a2)] 59)).grownBy w2 v.ownBlock → Below w1.heap.size w1 w2) := Lib.hid (fun w2 hg => HI5.out.bel.grown hg (by have := HSzr.out; simp; omega) (fun g e => by have := (Hvr.out _ e).1; omega))
        clear hb1
        go_wp2_with (at_builtin; refine listApp T22 rfl (.tmp 48) (.tmp 64) rfl (w1.heap.size + 1) v j (flatS (T.take j)) (encS (L - 1 - a1, L - 1 - a0, a2)) 1 1 ⟨wr.heap.size + 1, 0, none⟩ rfl HI5.out.row rfl rfl Hnews.out (by simp [encS, Value.oneCell']) hlen2 hszW ?_; intro v8 w8 hown8 hg8 hL8; have HC8 := Lib.hid (HC2.out w8 hg8); have HB8 := Lib.hid (HB2.out w8 hg8); rw [← flatS_snoc, ← HS.out] at hown8; have HR8 := Lib.hid hown8; obtain ⟨-, a5, c5, hv8, -, -⟩ := owns_stars hown8; subst hv8; have z2 := HC8.out.cel 2 _ rfl; have f2 := HC8.out.fr 2; clear hown8 hg8 hL8)
        have hv2 : (Value.slice a5 (j + 1) c5).ownBlock ≠ some w1.heap.size := fun e => by have := (HR8.out.lt _ e).1; omega
        have HN : Hid (XI w1 p L (.slice a5 (j + 1) c5) (j + 1) (T.take (j + 1)) (w8.setCell ⟨w1.heap.size, 2, none⟩ (.slice a5 (j + 1) c5))) := Lib.hid
          ⟨HC8.out.set 2 _ (by simp), owns_setOther HR8.out w1.heap.size 2 (.slice a5 (j + 1) c5) hv2, HB8.out.setCell (p := ⟨w1.heap.size, 2, none⟩) (Nat.le_refl _) _⟩
        go_roundw
        case rel => exact ⟨j + 1, _, by omega, by go_num, HN⟩
        case measure => simp [intOf]; omega
      · have hjI : ¬ (j : Int) < (S.length : Int) := by omega
        have hjE : j = T.length := by rw [HLT.out]; omega
        subst hjE
        rw [List.take_length] at HI1
        clear hlt hj
        obtain ⟨-, a5, c5, rfl, hs5, -⟩ := owns_stars HI1.out.row
        have HX := Lib.hid (HI1.out.cel.job hs5)
        clear hs5
        obtain ⟨wo, hwo⟩ : ∃ wo : World, wo = wr := ⟨_, rfl⟩
        subst hwo
        have hlT : T.length ≤ 1000000 := by rw [HLT.out]; exact hl
        have HFB : Hid (∃ F, P.fitsB S p L = F) := Lib.hid ⟨_, rfl⟩
        obtain ⟨F, hF⟩ := HFB.out
        have HF1 := Lib.hid hF
        have HF2 : Hid (P.fitsB T p L = F) := Lib.hid (by rw [HFT.out, hF])
        rw [hF] at HTm
        clear hF HFB
        have hC := planned_any a cap p L S wo HZ.out HJ6.out.st
        rw [HF1.out] at hC
        have HC := Lib.hid hC
        clear hC
        have x8 := HJ6.out.x1
        have x9 := HJ6.out.x2
        have x10 := HJ6.out.x3
        go_wp2_with fail
        refine HC.out.mono ?_
        rintro e w2 ⟨rfl, hb⟩
        have HJ11 := Lib.hid (HJ6.out.on hb)
        have HB12 := Lib.hid (HB7.out.trans (hb.mono HB7.out.size))
        have HX13 := Lib.hid (HX.out.on hb)
        clear x8 x9 x10
        clear hb HC
        clear hjI
        have hC := planned_any a5 c5 p L T w2 HZT.out HX13.out.st
        rw [HF2.out] at hC
        have HC := Lib.hid hC
        clear hC
        have x14 := HX13.out.x1
        have x15 := HX13.out.x2
        have x16 := HX13.out.x3
        go_wp2_with fail
        refine HC.out.mono ?_
        rintro e w3 ⟨rfl, hb⟩
        have HJ17 := Lib.hid (HJ11.out.on hb)
        have HB18 := Lib.hid (HB12.out.trans (hb.mono HB12.out.size))
        have HX19 := Lib.hid (HX13.out.on hb)
        clear x14 x15 x16
        clear hb HC
        have hC := fewest_any a cap p L S w3 hl HJ17.out.st
        rw [HMS.out] at hC
        have HC := Lib.hid hC
        clear hC
        have x20 := HJ17.out.x1
        have x21 := HJ17.out.x2
        have x22 := HJ17.out.x3
        go_wp2_with fail
        refine HC.out.mono ?_
        rintro e w4 ⟨rfl, hb⟩
        have HJ23 := Lib.hid (HJ17.out.on hb)
        have HB24 := Lib.hid (HB18.out.trans (hb.mono HB18.out.size))
        have HX25 := Lib.hid (HX19.out.on hb)
        clear x20 x21 x22
        clear hb HC
        have hC := fewest_any a5 c5 p L T w4 hlT HX25.out.st
        rw [HMT.out] at hC
        have HC := Lib.hid hC
        clear hC
        have x26 := HX25.out.x1
        have x27 := HX25.out.x2
        have x28 := HX25.out.x3
        go_wp2_with fail
        refine HC.out.mono ?_
        rintro e w5 ⟨rfl, hb⟩
        have HJ29 := Lib.hid (HJ23.out.on hb)
        have HB30 := Lib.hid (HB24.out.trans (hb.mono HB24.out.size))
        have HX31 := Lib.hid (HX25.out.on hb)
        clear x26 x27 x28
        clear hb HC
        have hC := heaviest_any a cap p L S w5 hl HJ29.out.st
        rw [HHS.out] at hC
        have HC := Lib.hid hC
        clear hC
        have x32 := HJ29.out.x1
        have x33 := HJ29.out.x2
        have x34 := HJ29.out.x3
        go_wp2_with fail
        refine HC.out.mono ?_
        rintro e w6 ⟨rfl, hb⟩
        have HJ35 := Lib.hid (HJ29.out.on hb)
        have HB36 := Lib.hid (HB30.out.trans (hb.mono HB30.out.size))
        have HX37 := Lib.hid (HX31.out.on hb)
        clear x32 x33 x34
        clear hb HC
        have hC := heaviest_any a5 c5 p L T w6 hlT HX37.out.st
        rw [HHT.out] at hC
        have HC := Lib.hid hC
        clear hC
        have x38 := HX37.out.x1
        have x39 := HX37.out.x2
        have x40 := HX37.out.x3
        go_wp2_with fail
        refine HC.out.mono ?_
        rintro e w7 ⟨rfl, hb⟩
        have HJ41 := Lib.hid (HJ35.out.on hb)
        have HB42 := Lib.hid (HB36.out.trans (hb.mono HB36.out.size))
        have HX43 := Lib.hid (HX37.out.on hb)
        clear x38 x39 x40
        clear hb HC
        by_cases hS0 : S.length = 0
        · have hz : ((S.length : Int) == 0) = true := by simp [hS0]
          clear hS0
          cases F
          · have x44 := HJ41.out.x1
            have x45 := HJ41.out.x2
            have x46 := HJ41.out.x3
            go_wp2_with fail
            refine (works_any _).mono ?_
            rintro e w8 ⟨rfl, hb⟩
            have HJ47 := Lib.hid (HJ41.out.on hb)
            have HB48 := Lib.hid (HB42.out.trans (hb.mono HB42.out.size))
            have HX49 := Lib.hid (HX43.out.on hb)
            clear hb
            clear x44 x45 x46
            go_wp2_with fail
            go_ret
            exact ⟨rfl, HB48.out⟩
          · have x50 := HJ41.out.x1
            have x51 := HJ41.out.x2
            have x52 := HJ41.out.x3
            go_wp2_with fail
            refine (works_any _).mono ?_
            rintro e w8 ⟨rfl, hb⟩
            have HJ53 := Lib.hid (HJ41.out.on hb)
            have HB54 := Lib.hid (HB42.out.trans (hb.mono HB42.out.size))
            have HX55 := Lib.hid (HX43.out.on hb)
            clear hb
            clear x50 x51 x52
            go_wp2_with fail
            go_ret
            exact ⟨rfl, HB54.out⟩
        · have hz : ((S.length : Int) == 0) = false := beq_eq_false_iff_ne.2 (by omega)
          have hr0 := Int.emod_nonneg n1 (b := (S.length : Int)) (by omega)
          have hr1 := Int.emod_lt_of_pos n1 (b := (S.length : Int)) (by omega)
          have q1 : n1.tmod (S.length : Int) = n1 % (S.length : Int) := tmod_pos hn1.1
          have e1 : ¬ (S.length : Int) = 0 := by omega
          generalize n1 % (S.length : Int) = r at *
          obtain ⟨m, rfl⟩ := Int.eq_ofNat_of_zero_le hr0
          have hmS : m < S.length := by omega
          have k0 : IntKind.i64.wrap n1 = n1 := IntWalk.i64_in _ (by omega)
          have k2 : IntKind.i64.wrap (m : Int) = (m : Int) := IntWalk.i64_in _ (by omega)
          have HKs := Lib.hid (HKS.out m hmS)
          have HKt := Lib.hid (HKT.out m hmS)
          obtain ⟨l, e, ht1, ht2, hl20, hlv, hFe⟩ := HTm.out m hmS
          have HT1 := Lib.hid ht1
          have HT2 := Lib.hid ht2
          have HLv := Lib.hid hlv
          have HRv : Hid (∀ n m', n + m' + 1 = l.length → nth ((l.map fun w => L - 1 - w).reverse) m' = L - 1 - nth l n) := Lib.hid (fun n m' h => rev_at h)
          have HRl : Hid (((l.map fun w => L - 1 - w).reverse).length = l.length) := Lib.hid (by simp)
          clear ht1 ht2 hlv hr0 hr1 hS0
          generalize (l.map fun w => L - 1 - w).reverse = lt at *
          generalize P.kind S p L m = Km at *
          rcases hFe with ⟨rfl, rfl⟩ | ⟨rfl, rfl⟩
          · have x56 := HJ41.out.x1
            have x57 := HJ41.out.x2
            have x58 := HJ41.out.x3
            go_wp2_with fail
            clear x56 x57 x58
            have hC := kind_any a cap p L S (m : Int) w7 hl HJ41.out.st
            rw [HKs.out] at hC
            have HC := Lib.hid hC
            clear hC
            have x59 := HJ41.out.x1
            have x60 := HJ41.out.x2
            have x61 := HJ41.out.x3
            go_wp2_with fail
            refine HC.out.mono ?_
            rintro e w8 ⟨rfl, hb⟩
            have HJ62 := Lib.hid (HJ41.out.on hb)
            have HB63 := Lib.hid (HB42.out.trans (hb.mono HB42.out.size))
            have HX64 := Lib.hid (HX43.out.on hb)
            have HBK := Lib.hid hb
            clear x59 x60 x61
            clear hb HC
            have hC := kind_any a5 c5 p L T (m : Int) w8 hlT HX64.out.st
            rw [HKt.out] at hC
            have HC := Lib.hid hC
            clear hC
            have x65 := HX64.out.x1
            have x66 := HX64.out.x2
            have x67 := HX64.out.x3
            go_wp2_with fail
            refine HC.out.mono ?_
            rintro e w9 ⟨rfl, hb⟩
            have HJ68 := Lib.hid (HJ62.out.on hb)
            have HB69 := Lib.hid (HB63.out.trans (hb.mono HB63.out.size))
            have HX70 := Lib.hid (HX64.out.on hb)
            have HBK := Lib.hid hb
            clear x65 x66 x67
            clear hb HC
            have hC := times_any a cap p L S (m : Int) w9 hl HJ68.out.st
            rw [HT1.out] at hC
            dsimp only at hC
            have HC := Lib.hid hC
            clear hC
            have x71 := HJ68.out.x1
            have x72 := HJ68.out.x2
            have x73 := HJ68.out.x3
            go_wp2_with fail
            refine HC.out.mono ?_
            rintro e w10 ⟨At, Ct, rfl, hi, hb⟩
            have HJ74 := Lib.hid (HJ68.out.on hb)
            have HB75 := Lib.hid (HB69.out.trans (hb.mono HB69.out.size))
            have HX76 := Lib.hid (HX70.out.on hb)
            have It := Lib.hid hi
            clear x71 x72 x73
            clear hb hi HC
            have hC := times_any a5 c5 p L T (m : Int) w10 hlT HX76.out.st
            rw [HT2.out] at hC
            dsimp only at hC
            have HC := Lib.hid hC
            clear hC
            have x77 := HX76.out.x1
            have x78 := HX76.out.x2
            have x79 := HX76.out.x3
            go_wp2_with fail
            refine HC.out.mono ?_
            rintro e w11 ⟨Au, Cu, rfl, hi, hb⟩
            have HJ80 := Lib.hid (HJ74.out.on hb)
            have HB81 := Lib.hid (HB75.out.trans (hb.mono HB75.out.size))
            have HX82 := Lib.hid (HX76.out.on hb)
            have It83 := Lib.hid (It.out.below hb)
            have Iu := Lib.hid hi
            clear x77 x78 x79
            clear hb hi HC
            have hll : ((l.length : Int) != (lt.length : Int)) = false := by rw [HRl.out]; simp
            have HRz : Hid (lt.length = l.length) := HRl
            go_wp2_with fail
            clear hll
            go_loopw [25] (fun i wr => ∃ n : Nat, n ≤ l.length ∧ i = .int .i64 n ∧ Hid (Drew w11 wr)) (fun i _ => l.length - (intOf i).toNat)
            case atStart => exact ⟨0, by omega, rfl, Lib.hid (Drew.refl _)⟩
            case round =>
              obtain ⟨n, hn, rfl, hdr⟩ := hrel
              have hb := hdr.out.below w11.heap.size
              have HJ84 := Lib.hid (HJ80.out.on hb)
              have HB85 := Lib.hid (HB81.out.trans (hb.mono HB81.out.size))
              have HX86 := Lib.hid (HX82.out.on hb)
              have It87 := Lib.hid (It83.out.below hb)
              have Iu88 := Lib.hid (Iu.out.below hb)
              clear hb
              by_cases hnl : n < l.length
              · have hnI : (n : Int) < (l.length : Int) := by omega
                have hn0 : (0 : Int) ≤ (n : Int) := by omega
                obtain ⟨m', hm'⟩ : ∃ m' : Nat, n + m' + 1 = l.length := ⟨l.length - 1 - n, by omega⟩
                have hmt : m' < lt.length := by rw [HRl.out]; omega
                obtain ⟨tb, to, hte, c1⟩ := It87.out n hnl
                subst hte
                obtain ⟨ub, uo, hue, c2⟩ := Iu88.out m' hmt
                subst hue
                have hv := HLv.out _ (nth_mem hnl)
                have hv2 := HRv.out n m' hm'
                have hlt20 : lt.length = l.length := HRl.out
                have w1' : IntKind.i64.wrap (L - 1) = L - 1 := IntWalk.i64_in _ (by omega)
                have w2' : IntKind.i64.wrap ((lt.length : Int) - 1) = (lt.length : Int) - 1 := IntWalk.i64_in _ (by omega)
                have w3' : IntKind.i64.wrap ((lt.length : Int) - 1 - (n : Int)) = (m' : Int) := by rw [IntWalk.i64_in _ (by omega)]; omega
                have hm0 : (0 : Int) ≤ (m' : Int) := by omega
                have hmI : (m' : Int) < (lt.length : Int) := by omega
                have w4' : IntKind.i64.wrap (L - 1 - nth lt m') = nth l n := by rw [IntWalk.i64_in _ (by omega)]; omega
                clear hv hv2 hlt20 hm'
                generalize nth lt m' = V2 at *
                generalize nth l n = V1 at *
                have x89 := HJ84.out.x1
                have x90 := HJ84.out.x2
                have x91 := HJ84.out.x3
                go_wp2_with fail
                go_quiet (fail)
                go_wp2_with fail
                clear x89 x90 x91
                go_roundw
                case rel => exact ⟨n + 1, by omega, by go_num, Lib.hid (hdr.out.drewN _)⟩
                case measure => simp [intOf]; omega
              · have hnI : ¬ (n : Int) < (l.length : Int) := by omega
                go_wp2_with fail
                refine (works_any _).mono ?_
                rintro e w12 ⟨rfl, hb⟩
                have HJ92 := Lib.hid (HJ84.out.on hb)
                have HB93 := Lib.hid (HB85.out.trans (hb.mono HB85.out.size))
                have HX94 := Lib.hid (HX86.out.on hb)
                clear hb
                go_wp2_with fail
                go_ret
                exact ⟨rfl, HB93.out⟩
          · have x95 := HJ41.out.x1
            have x96 := HJ41.out.x2
            have x97 := HJ41.out.x3
            go_wp2_with fail
            clear x95 x96 x97
            have hC := kind_any a cap p L S (m : Int) w7 hl HJ41.out.st
            rw [HKs.out] at hC
            have HC := Lib.hid hC
            clear hC
            have x98 := HJ41.out.x1
            have x99 := HJ41.out.x2
            have x100 := HJ41.out.x3
            go_wp2_with fail
            refine HC.out.mono ?_
            rintro e w8 ⟨rfl, hb⟩
            have HJ101 := Lib.hid (HJ41.out.on hb)
            have HB102 := Lib.hid (HB42.out.trans (hb.mono HB42.out.size))
            have HX103 := Lib.hid (HX43.out.on hb)
            have HBK := Lib.hid hb
            clear x98 x99 x100
            clear hb HC
            have hC := kind_any a5 c5 p L T (m : Int) w8 hlT HX103.out.st
            rw [HKt.out] at hC
            have HC := Lib.hid hC
            clear hC
            have x104 := HX103.out.x1
            have x105 := HX103.out.x2
            have x106 := HX103.out.x3
            go_wp2_with fail
            refine HC.out.mono ?_
            rintro e w9 ⟨rfl, hb⟩
            have HJ107 := Lib.hid (HJ101.out.on hb)
            have HB108 := Lib.hid (HB102.out.trans (hb.mono HB102.out.size))
            have HX109 := Lib.hid (HX103.out.on hb)
            have HBK := Lib.hid hb
            clear x104 x105 x106
            clear hb HC
            have hC := times_any a cap p L S (m : Int) w9 hl HJ107.out.st
            rw [HT1.out] at hC
            dsimp only at hC
            have HC := Lib.hid hC
            clear hC
            have x110 := HJ107.out.x1
            have x111 := HJ107.out.x2
            have x112 := HJ107.out.x3
            go_wp2_with fail
            refine HC.out.mono ?_
            rintro e w10 ⟨At, Ct, rfl, hi, hb⟩
            have HJ113 := Lib.hid (HJ107.out.on hb)
            have HB114 := Lib.hid (HB108.out.trans (hb.mono HB108.out.size))
            have HX115 := Lib.hid (HX109.out.on hb)
            have It := Lib.hid hi
            clear x110 x111 x112
            clear hb hi HC
            have hC := times_any a5 c5 p L T (m : Int) w10 hlT HX115.out.st
            rw [HT2.out] at hC
            dsimp only at hC
            have HC := Lib.hid hC
            clear hC
            have x116 := HX115.out.x1
            have x117 := HX115.out.x2
            have x118 := HX115.out.x3
            go_wp2_with fail
            refine HC.out.mono ?_
            rintro e w11 ⟨Au, Cu, rfl, hi, hb⟩
            have HJ119 := Lib.hid (HJ113.out.on hb)
            have HB120 := Lib.hid (HB114.out.trans (hb.mono HB114.out.size))
            have HX121 := Lib.hid (HX115.out.on hb)
            have It122 := Lib.hid (It.out.below hb)
            have Iu := Lib.hid hi
            clear x116 x117 x118
            clear hb hi HC
            have hll : ((l.length : Int) != (lt.length : Int)) = false := by rw [HRl.out]; simp
            have HRz : Hid (lt.length = l.length) := HRl
            go_wp2_with fail
            clear hll
            go_loopw [25] (fun i wr => ∃ n : Nat, n ≤ l.length ∧ i = .int .i64 n ∧ Hid (Drew w11 wr)) (fun i _ => l.length - (intOf i).toNat)
            case atStart => exact ⟨0, by omega, rfl, Lib.hid (Drew.refl _)⟩
            case round =>
              obtain ⟨n, hn, rfl, hdr⟩ := hrel
              have hb := hdr.out.below w11.heap.size
              have HJ123 := Lib.hid (HJ119.out.on hb)
              have HB124 := Lib.hid (HB120.out.trans (hb.mono HB120.out.size))
              have HX125 := Lib.hid (HX121.out.on hb)
              have It126 := Lib.hid (It122.out.below hb)
              have Iu127 := Lib.hid (Iu.out.below hb)
              clear hb
              by_cases hnl : n < l.length
              · have hnI : (n : Int) < (l.length : Int) := by omega
                have hn0 : (0 : Int) ≤ (n : Int) := by omega
                obtain ⟨m', hm'⟩ : ∃ m' : Nat, n + m' + 1 = l.length := ⟨l.length - 1 - n, by omega⟩
                have hmt : m' < lt.length := by rw [HRl.out]; omega
                obtain ⟨tb, to, hte, c1⟩ := It126.out n hnl
                subst hte
                obtain ⟨ub, uo, hue, c2⟩ := Iu127.out m' hmt
                subst hue
                have hv := HLv.out _ (nth_mem hnl)
                have hv2 := HRv.out n m' hm'
                have hlt20 : lt.length = l.length := HRl.out
                have w1' : IntKind.i64.wrap (L - 1) = L - 1 := IntWalk.i64_in _ (by omega)
                have w2' : IntKind.i64.wrap ((lt.length : Int) - 1) = (lt.length : Int) - 1 := IntWalk.i64_in _ (by omega)
                have w3' : IntKind.i64.wrap ((lt.length : Int) - 1 - (n : Int)) = (m' : Int) := by rw [IntWalk.i64_in _ (by omega)]; omega
                have hm0 : (0 : Int) ≤ (m' : Int) := by omega
                have hmI : (m' : Int) < (lt.length : Int) := by omega
                have w4' : IntKind.i64.wrap (L - 1 - nth lt m') = nth l n := by rw [IntWalk.i64_in _ (by omega)]; omega
                clear hv hv2 hlt20 hm'
                generalize nth lt m' = V2 at *
                generalize nth l n = V1 at *
                have x128 := HJ123.out.x1
                have x129 := HJ123.out.x2
                have x130 := HJ123.out.x3
                go_wp2_with fail
                go_quiet (fail)
                go_wp2_with fail
                clear x128 x129 x130
                go_roundw
                case rel => exact ⟨n + 1, by omega, by go_num, Lib.hid (hdr.out.drewN _)⟩
                case measure => simp [intOf]; omega
              · have hnI : ¬ (n : Int) < (l.length : Int) := by omega
                go_wp2_with fail
                refine (works_any _).mono ?_
                rintro e w12 ⟨rfl, hb⟩
                have HJ131 := Lib.hid (HJ123.out.on hb)
                have HB132 := Lib.hid (HB124.out.trans (hb.mono HB124.out.size))
                have HX133 := Lib.hid (HX125.out.on hb)
                clear hb
                go_wp2_with fail
                go_ret
                exact ⟨rfl, HB132.out⟩
  · rw [decide_eq_false hc] at HF
    have HF := Lib.hid HF
    clear hc
    go_enter Try.func11, Try.ntmps11
    go_wp2_with fail
    refine (HF.out).mono ?_
    rintro e w1 ⟨rfl, hb⟩
    have HJ134 := Lib.hid (HJ0.out.on hb)
    have HB135 := Lib.hid (HB0.out.trans (hb.mono HB0.out.size))
    clear hb
    go_wp2_with fail
    refine (works_any _).mono ?_
    rintro e w2 ⟨rfl, hb⟩
    have HJ136 := Lib.hid (HJ134.out.on hb)
    have HB137 := Lib.hid (HB135.out.trans (hb.mono HB135.out.size))
    clear hb
    go_wp2_with fail
    go_ret
    exact ⟨rfl, HB137.out⟩
end Go.Proofs.Ytpkffjcmoghaaaa
