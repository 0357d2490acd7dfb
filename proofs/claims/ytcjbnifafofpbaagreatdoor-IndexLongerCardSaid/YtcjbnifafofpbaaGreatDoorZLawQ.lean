/- Walk of IndexLonger. -/
import Derived.Test.YtcjbnifafofpbaaGreatDoorJ24
import Derived.Laws.BytesString
namespace Go.Proofs.YtcjbnifafofpbaaGreatDoor
open Go.RowKit Go.Lib
theorem u8_bd {n : Int} (h : (Lit.int .u8 n).wf = true) : 0 ≤ n ∧ n ≤ 255 := by
  simp [Lit.wf] at h
  have h1 : IntKind.u8.min = 0 := by decide
  have h2 : IntKind.u8.max = 255 := by decide
  omega
theorem tmod26 (N : Nat) : (N : Int).tmod 26 = ((N % 26 : Nat) : Int) := by
  rw [Int.tmod_eq_emod_of_nonneg (by omega)]; omega
theorem conv_byte (b cap : Nat) (n : Int) (W : World) (h : W.cell? ⟨b, 0, none⟩ = some (.int .u8 n)) : (convert 53 9 (.slice (some ⟨b, 0, none⟩) 1 cap)).run Tryz.prog W = .ok (.string ⟨#[UInt8.ofNat n.toNat]⟩) W := by
  have hl : (loadCells ⟨b, 0, none⟩ 1).run Tryz.prog W = .ok ([n].map (Value.int .u8)).toArray W := by
    simp [loadCells, h, go_sem]
  have h2 := run_bytesToString (P := Tryz.prog) W ⟨b, 0, none⟩ 1 cap [n] hl
  unfold convert
  simp [Sem.run_bind, run_underlying Tryz.underlying53, run_underlying Tryz.underlying9, run_underlying Tryz.underlying5, h2, go_sem]
  rfl
/-- The letter with a number. -/
def letN (N : Nat) : UInt8 := UInt8.ofNat (97 + N % 26)
theorem letN_letter (N : Nat) : X.letter (letN N) = true := by
  have : ∀ k : Fin 26, X.letter (UInt8.ofNat (97 + (k : Nat))) = true := by decide +kernel
  exact this ⟨N % 26, Nat.mod_lt _ (by omega)⟩
theorem letN_run (N : Nat) : IntKind.u8.wrap (97 + (N : Int).tmod 26) = 97 + (N : Int) % 26 := by
  rw [tmod26]; exact (IntWalk.u8_in _ (by have := Nat.mod_lt N (show 0 < 26 by omega); omega)).trans (by omega)
theorem conv_letN (N cap : Nat) (W : World) : (convert 53 9 (.slice (some ⟨W.heap.size, 0, none⟩) 1 cap)).run Tryz.prog (W.alloc (.cells #[.int .u8 (97 + (N : Int) % 26)] 5)) = .ok (.string ⟨#[letN N]⟩) (W.alloc (.cells #[.int .u8 (97 + (N : Int) % 26)] 5)) := by
  rw [conv_byte W.heap.size cap _ _ (cell_new1 _ _ _)]
  have : ((97 : Int) + (N : Int) % 26).toNat = 97 + N % 26 := by omega
  rw [this]; rfl
set_option maxRecDepth 20000 in
set_option maxHeartbeats 8000000 in
theorem longer_walk (a0 : Option Addr) (cap0 : Nat) (l0 : List X.W) (n1 : Int) (w : World) (z0 : a0 = none → cap0 = 0) (w0 : Strs w a0 l0) (w1 : (Lit.int .u8 n1).wf = true) :
    Calls Tryz.prog 12 #[.slice a0 l0.length cap0, .int .u8 n1] w fun e w' => e = .returned (.bool true) ∧ RowKit.Below w.heap.size w w' := by
  have HB0 := Lib.hid (RowKit.Below.refl w.heap.size w)
  have I0 := Lib.hid w0
  clear w0
  obtain ⟨N, rfl⟩ : ∃ N : Nat, n1 = (N : Int) := ⟨n1.toNat, by have := u8_bd w1; omega⟩
  have hN := u8_bd w1
  clear w1
  by_cases h0 : X.listE l0 = 0
  case pos =>
    have hL0 := X.listE_iff.1 h0
    have e0 := hL0.many
    have HD0 := Lib.hid (decide_eq_true h0)
    have HL := Lib.hid hL0
    clear h0 hL0
    by_cases hz : l0.length = 0
    case pos =>
      have hzI : ((l0.length : Int) == 0) = true := by rw [hz]; rfl
      clear hz
      go_enter Tryz.func12, Tryz.ntmps12
      have hC := fine_any a0 cap0 l0 w I0.out
      rw [HD0.out] at hC
      have HC := Lib.hid hC
      clear hC
      go_wp2_with fail
      refine HC.out.mono ?_
      rintro e w1 ⟨rfl, hd⟩
      have hb := hd.below w.heap.size
      clear hd
      have hb := hb
      have HB0 := Lib.hid (HB0.out.trans (hb.mono HB0.out.size))
      have I01 := Lib.hid (I0.out.below hb)
      clear hb HC
      have HC := Lib.hid (works_any w1)
      go_wp2_with fail
      refine HC.out.mono ?_
      rintro e w2 ⟨rfl, hb⟩
      have HB2 := Lib.hid (HB0.out.trans (hb.mono HB0.out.size))
      have I03 := Lib.hid (I01.out.below hb)
      clear hb HC
      go_wp2_with fail
      go_ret
      exact ⟨rfl, HB2.out⟩
    case neg =>
      have hzI : ((l0.length : Int) == 0) = false := by simpa using hz
      have hne : l0 ≠ [] := fun e => hz (by rw [e]; rfl)
      have HNe := Lib.hid hne
      have kN := letN_run N
      have hcv := conv_letN N 1
      have HLt := Lib.hid (letN_letter N)
      clear hne hz
      go_enter Tryz.func12, Tryz.ntmps12
      have hC := fine_any a0 cap0 l0 w I0.out
      rw [HD0.out] at hC
      have HC := Lib.hid hC
      clear hC
      go_wp2_with fail
      refine HC.out.mono ?_
      rintro e w1 ⟨rfl, hd⟩
      have hb := hd.below w.heap.size
      clear hd
      have hb := hb
      have HB4 := Lib.hid (HB0.out.trans (hb.mono HB0.out.size))
      have I05 := Lib.hid (I0.out.below hb)
      clear hb HC
      have hw := hcv w1
      go_wp2_with fail
      clear hw
      obtain ⟨w2, hV⟩ : ∃ V, V = w1.alloc (.cells #[.int .u8 (97 + (N : Int) % 26)] 5) := ⟨_, rfl⟩
      have hb := Below.new w1 (.cells #[.int .u8 (97 + (N : Int) % 26)] 5)
      rw [← hV] at hb ⊢
      clear hV
      have HB6 := Lib.hid (HB4.out.trans (hb.mono HB4.out.size))
      have I07 := Lib.hid (I05.out.below hb)
      clear hb
      clear hcv kN
      generalize letN N = c at *
      go_wp2_with fail
      obtain ⟨V0, hV0⟩ : ∃ V0, V0 = w2 := ⟨_, rfl⟩
      go_loopw [6, 7] (fun o i wr => ∃ j : Nat, j ≤ l0.length ∧ i = .int .i64 j ∧ Hid (∀ k, k < j → (wat l0 k).length ≤ 9) ∧ Hid (wr.ownsRow w2.heap.size 9 1 o j ((X.front c (l0.take j)).map sv)) ∧ Hid (RowKit.Below w2.heap.size w2 wr)) (fun _ i _ => l0.length - (RowKit.intOf i).toNat)
      case atStart => exact ⟨0, by omega, rfl, Lib.hid (fun k hk => by omega), Lib.hid (World.ownsRow_nil _ _ _ _), Lib.hid (RowKit.Below.refl _ _)⟩
      case round =>
        clear hV0 V0
        obtain ⟨j, hj, rfl, HS, HO, HLp⟩ := hrel
        have HB8 := Lib.hid (HB6.out.trans (HLp.out.mono HB6.out.size))
        have I09 := Lib.hid (I07.out.below HLp.out)
        by_cases hlt : j < l0.length
        case pos =>
          have hltI : (j : Int) < (l0.length : Int) := by omega
          obtain ⟨b1, o1, rfl, c1⟩ := I09.out j hlt
          by_cases h4 : 10 ≤ (wat l0 j).length
          case pos =>
            have hI4 : (10 : Int) ≤ ((wat l0 j).length : Int) := by omega
            have HC := Lib.hid (works_any wr)
            go_wp2_with fail
            refine HC.out.mono ?_
            rintro e w3 ⟨rfl, hb⟩
            have HB10 := Lib.hid (HB8.out.trans (hb.mono HB8.out.size))
            have I011 := Lib.hid (I09.out.below hb)
            clear hb HC
            go_wp2_with fail
            go_ret
            exact ⟨rfl, HB10.out⟩
          case neg =>
            have hI4 : ¬ (10 : Int) ≤ ((wat l0 j).length : Int) := by omega
            have HS2 : Hid (∀ k, k < j + 1 → (wat l0 k).length ≤ 9) := Lib.hid (fun k hk => by
              rcases Nat.lt_succ_iff_lt_or_eq.1 hk with h | rfl
              · exact HS.out k h
              · omega)
            have HF : Hid (X.front c (l0.take (j + 1)) = X.front c (l0.take j) ++ [c :: wat l0 j]) := Lib.hid (by rw [take_succ_wat l0 j hlt]; unfold X.front; rw [List.map_append]; rfl)
            generalize wat l0 j = x at *
            have hadd : (ByteArray.mk #[c]) ++ (ByteArray.mk x.toArray) = ⟨(c :: x).toArray⟩ := ByteArray.mk_append_mk [c] x
            have hadd3 : (ByteArray.mk [c].toArray) ++ (ByteArray.mk x.toArray) = ⟨(c :: x).toArray⟩ := ByteArray.mk_append_mk [c] x
            have hsz : ¬ 9223372036854775807 < 1 + x.length := by omega
            have O5 := Lib.hid (HO.out.alloc (.cells #[sv (c :: x)] 9))
            have hnews := Lib.hid (news_new wr #[sv (c :: x)] 9)
            have hszW : w2.heap.size ≤ (wr.alloc (.cells #[sv (c :: x)] 9)).heap.size := by have := HLp.out.size; simp; omega
            have hsz1 := HLp.out.size
            go_wp2_with (at_builtin; refine listApp T22 rfl (.tmp 42) (.tmp 49) rfl w2.heap.size u6 j ((X.front c (l0.take j)).map sv) [sv (c :: x)] 1 1 ⟨wr.heap.size, 0, none⟩ rfl O5.out rfl rfl hnews.out (by simp [Value.oneCell']) (by omega) hszW ?_; intro v8 w8 hown8 hg8 hL8)
            go_roundw
            case rel => exact ⟨j + 1, by omega, by go_num, HS2, by rw [HF.out, List.map_append]; exact Lib.hid hown8, Lib.hid ((HLp.out.alloc hsz1 _).grown hg8 hszW (fun g e => (HO.out.lt g e).1))⟩
            case measure => simp [RowKit.intOf]; omega
        case neg =>
          have hj2 : j = l0.length := by omega
          subst hj2
          rw [List.take_length] at HO
          have h9 : ∀ s ∈ l0, s.length ≤ 9 := fun s hs => by
            obtain ⟨k, hk, rfl⟩ := List.mem_iff_getElem.1 hs
            have := HS.out k hk
            rwa [wat_eq l0 k hk] at this
          have hLm := X.front_list HL.out h9 HLt.out
          have hbf := X.build_front HL.out HNe.out h9 HLt.out
          obtain ⟨hml, a5, c5, rfl, hs5, -⟩ := Strs.of_ownsRow HO.out
          have HLm := Lib.hid hLm
          have HBf := Lib.hid hbf
          have HML := Lib.hid hml
          have I5 := Lib.hid hs5
          obtain ⟨hf, hbl⟩ := few_of HL.out
          have HF := Lib.hid hf
          have hbp : 0 < (X.build l0).length := by rw [X.build_len]; have := X.tops_pos HL.out; omega
          have hmb : (X.build (X.front c l0)).length = (X.build l0).length + 1 := by rw [hbf]; simp
          have HAt0 : Hid (X.at_ (X.build (X.front c l0)) 0 = ⟨0, [c], [1]⟩) := Lib.hid (by rw [hbf]; rfl)
          have HAt : Hid (∀ i, i < (X.build l0).length → X.at_ (X.build (X.front c l0)) (i + 1) = ⟨(X.at_ (X.build l0) i).ends, (X.at_ (X.build l0) i).letters, (X.at_ (X.build l0) i).next.map (· + 1)⟩) := Lib.hid (fun i hi => by
            rw [hbf]; unfold X.at_; simp [hi])
          have HNx : Hid (∀ i, i < (X.build l0).length → ∀ k, k < (X.at_ (X.build l0) i).next.length → nth (X.at_ (X.build l0) i).next k < 301 ∧ 0 ≤ nth (X.at_ (X.build l0) i).next k) := Lib.hid (fun i hi k hk => by
            have hA := X.build_auto HL.out
            have := hA.nx i hi _ (List.getElem_mem hk)
            have := hA.n2
            rw [nth_eq _ k hk]; omega)
          have HBu := Lib.hid (fun W (hW : Strs W a5 (X.front c l0)) => built_any a5 c5 (X.front c l0) W HLm.out hW)
          rw [← hml] at HBu
          have HBl := Lib.hid (fun A C W (hW : Strs W A l0) => built_any A C l0 W HL.out hW)
          generalize X.build (X.front c l0) = B2 at *
          generalize X.build l0 = B at *
          clear hf hbf hLm hs5 hml HO h9
          have hC := HBl.out a0 cap0 wr I09.out
          have HC := Lib.hid hC
          clear hC
          go_wp2_with fail
          refine HC.out.mono ?_
          rintro e w3 ⟨Ab, Cb, rfl, hi, -, hb⟩
          have HB12 := Lib.hid (HB8.out.trans (hb.mono HB8.out.size))
          have I013 := Lib.hid (I09.out.below hb)
          have I514 := Lib.hid (I5.out.below hb)
          have Ib := Lib.hid hi
          clear hi
          clear hb HC
          have hC := HBu.out w3 I514.out
          have HC := Lib.hid hC
          clear hC
          go_wp2_with fail
          refine HC.out.mono ?_
          rintro e w4 ⟨At, Ct, rfl, hi, -, hb⟩
          have HB15 := Lib.hid (HB12.out.trans (hb.mono HB12.out.size))
          have I016 := Lib.hid (I013.out.below hb)
          have I517 := Lib.hid (I514.out.below hb)
          have Ib18 := Lib.hid (Ib.out.below hb)
          have It := Lib.hid hi
          clear hi
          clear hb HC
          have hmI : (B2.length : Int) = (B.length : Int) + 1 := by omega
          have hmP : (0 : Int) < (B2.length : Int) := by omega
          have kB : IntKind.i64.wrap ((B.length : Int) + 1) = (B.length : Int) + 1 := IntWalk.i64_in _ (by omega)
          obtain ⟨bt, ot, rfl, t0, t1, at2, ct2, t2, it2⟩ := It.out 0 (by omega)
          rw [Nat.zero_mul, Nat.add_zero] at t0 t1 t2
          rw [HAt0.out] at t0 t1 t2 it2
          obtain ⟨bn, on, rfl, tn⟩ := it2 0 (by simp)
          have tn : w4.cell? ⟨bn, on, none⟩ = some (.int .i64 1) := tn
          have t2 : w4.cell? ⟨bt, ot + 2, none⟩ = some (.slice (some ⟨bn, on, none⟩) 1 ct2) := t2
          have hbf2 : ((B2.length : Int) != (B.length : Int) + 1) = false := by rw [hmI]; simp
          go_wp2_with fail
          clear t0 t1 t2 tn it2
          go_loopw [12, 13, 14] (fun i _ _ wr => ∃ j : Nat, j ≤ B.length ∧ i = .int .i64 j ∧ Hid (RowKit.Below w4.heap.size w4 wr)) (fun i _ _ _ => B.length - (RowKit.intOf i).toNat)
          case atStart => exact ⟨0, by omega, rfl, Lib.hid (RowKit.Below.refl _ _)⟩
          case round =>
            obtain ⟨j, hj, rfl, HLq⟩ := hrel
            have HB19 := Lib.hid (HB15.out.trans (HLq.out.mono HB15.out.size))
            have Ib20 := Lib.hid (Ib18.out.below HLq.out)
            have It21 := Lib.hid (It.out.below HLq.out)
            by_cases hlt : j < B.length
            case pos =>
              obtain ⟨V, rfl⟩ : ∃ V, V = wr := ⟨_, rfl⟩
              have hltI : (j : Int) < (B.length : Int) := by omega
              have hj0 : (0 : Int) ≤ (j : Int) := by omega
              have kj : IntKind.i64.wrap ((j : Int) + 1) = (j : Int) + 1 := IntWalk.i64_in _ (by omega)
              have hj1 : (j : Int) + 1 < (B2.length : Int) := by omega
              have hj2 : (0 : Int) ≤ (j : Int) + 1 := by omega
              have hj3 : ((j : Int) + 1).toNat = j + 1 := by omega
              obtain ⟨bt', ot', et, p0, p1, ap, cp, p2, ip⟩ := It21.out (j + 1) (by omega)
              cases et
              obtain ⟨bb, ob, rfl, q0, q1, aq, cq, q2, iq⟩ := Ib20.out j hlt
              rw [HAt.out j hlt] at p0 p1 p2 ip
              simp only at p0 p1 p2 ip
              rw [List.length_map] at p2
              have hnx := HNx.out j hlt
              have hnl := (HF.out _ (X.at_mem hlt)).2
              generalize (X.at_ B j).ends = E at *
              generalize (X.at_ B j).letters = A at *
              generalize (X.at_ B j).next = Nx at *
              have hbn := Below.new V (.cells #[.int .i64 E, sv A, .slice ap Nx.length cp] 58)
              have q0 := cell_on hbn q0
              have q1 := cell_on hbn q1
              have q2 := cell_on hbn q2
              have HQ2 := Lib.hid q2
              have HIp := Lib.hid (ip.alloc (.cells #[.int .i64 E, sv A, .slice ap Nx.length cp] 58))
              have HIq := Lib.hid (iq.alloc (.cells #[.int .i64 E, sv A, .slice ap Nx.length cp] 58))
              have HX2 : Hid ((V.alloc (.cells #[.int .i64 E, sv A, .slice ap Nx.length cp] 58)).cell? ⟨V.heap.size, 2, none⟩ = some (.slice ap Nx.length cp)) := Lib.hid ((Cells.new V #[.int .i64 E, sv A, .slice ap Nx.length cp] 58).cel 2 _ rfl)
              have HBn := Lib.hid hbn
              have HNx2 := Lib.hid hnx
              clear hbn ip iq hnx
              have HNm : Hid (∀ k, k < Nx.length → nth (Nx.map (· + 1)) k = nth Nx k + 1) := Lib.hid (fun k hk => by simp [nth, hk])
              have HNl : Hid ((Nx.map (· + 1)).length = Nx.length) := Lib.hid (by simp)
              go_wp2_with fail
              go_quiet (fail)
              go_wp2_with fail
              clear p0 p1 p2 q0 q1 q2
              go_loopw [14] (fun x wr' => ∃ k : Nat, k ≤ Nx.length ∧ x = .int .i64 k ∧ Hid (Drew (V.alloc (.cells #[.int .i64 E, sv A, .slice ap Nx.length cp] 58)) wr')) (fun x _ => Nx.length - (RowKit.intOf x).toNat)
              case atStart => exact ⟨0, by omega, rfl, Lib.hid ⟨_, rfl⟩⟩
              case round =>
                obtain ⟨k, hk, rfl, HD⟩ := hrel
                have x2 := (HD.out.cell _).trans HX2.out
                have q2 := (HD.out.cell _).trans HQ2.out
                have hk0 : (0 : Int) ≤ (k : Int) := by omega
                by_cases hkl : k < Nx.length
                case pos =>
                  have hkI : (k : Int) < (Nx.length : Int) := by omega
                  obtain ⟨bp, op, rfl, p3⟩ := (HIp.out.drew HD.out) k (by rw [HNl.out]; exact hkl)
                  obtain ⟨bq, oq, rfl, q3⟩ := (HIq.out.drew HD.out) k hkl
                  have hb := HNx2.out k hkl
                  rw [HNm.out k hkl] at p3
                  have kA : IntKind.i64.wrap (nth Nx k + 1) = nth Nx k + 1 := IntWalk.i64_in _ (by omega)
                  have kk : IntKind.i64.wrap ((k : Int) + 1) = (k : Int) + 1 := IntWalk.i64_in _ (by omega)
                  generalize nth Nx k = y at *
                  go_wp2_with fail
                  go_quiet (fail)
                  go_wp2_with fail
                  go_roundw
                  case rel => exact ⟨k + 1, by omega, by go_num, Lib.hid (HD.out.drewN _)⟩
                  case measure => simp [RowKit.intOf]; omega
                case neg =>
                  have hkI : ¬ (k : Int) < (Nx.length : Int) := by omega
                  have HLr := Lib.hid (HLq.out.trans ((HBn.out.trans ((HD.out.below _).mono HBn.out.size)).mono HLq.out.size))
                  go_wp2_with fail
                  go_roundw
                  case rel => exact ⟨j + 1, by omega, by go_num, HLr⟩
                  case measure => simp [RowKit.intOf]; omega
            case neg =>
              have HC := Lib.hid (works_any wr)
              go_wp2_with fail
              refine HC.out.mono ?_
              rintro e w5 ⟨rfl, hb⟩
              have HB22 := Lib.hid (HB19.out.trans (hb.mono HB19.out.size))
              have Ib23 := Lib.hid (Ib20.out.below hb)
              have It24 := Lib.hid (It21.out.below hb)
              clear hb HC
              go_wp2_with fail
              go_ret
              exact ⟨rfl, HB22.out⟩
  case neg =>
    go_enter Tryz.func12, Tryz.ntmps12
    have hC := fine_any a0 cap0 l0 w I0.out
    rw [decide_eq_false h0] at hC
    have HC := Lib.hid hC
    clear hC
    go_wp2_with fail
    refine HC.out.mono ?_
    rintro e w1 ⟨rfl, hd⟩
    have hb := hd.below w.heap.size
    clear hd
    have hb := hb
    have HB25 := Lib.hid (HB0.out.trans (hb.mono HB0.out.size))
    have I026 := Lib.hid (I0.out.below hb)
    clear hb HC
    have HC := Lib.hid (works_any w1)
    go_wp2_with fail
    refine HC.out.mono ?_
    rintro e w2 ⟨rfl, hb⟩
    have HB27 := Lib.hid (HB25.out.trans (hb.mono HB25.out.size))
    have I028 := Lib.hid (I026.out.below hb)
    clear hb HC
    go_wp2_with fail
    go_ret
    exact ⟨rfl, HB27.out⟩
end Go.Proofs.YtcjbnifafofpbaaGreatDoor
