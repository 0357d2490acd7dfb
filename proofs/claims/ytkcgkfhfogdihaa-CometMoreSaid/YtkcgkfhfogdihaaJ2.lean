/- One text of RefJ, RefK, RefL, RefM. -/
import Derived.Test.YtkcgkfhfogdihaaJ1
/- Walks of the reference's Best, Most, Count, Kind. -/
namespace Go.Proofs.Ytkcgkfhfogdihaa
open Go.RowKit
namespace R
def mostTo (out : List Nat) (k : Nat) : Nat := up (fun i m => max m (size (out.getD i 0))) 0 k
def most (deg : Int) (l : List (Int × Int)) : Nat := mostTo (paths deg l) (paths deg l).length
def bestTo (out : List Nat) (m k : Nat) : List Nat := up (fun i r => if size (out.getD i 0) = m then r ++ [out.getD i 0] else r) [] k
def best (deg : Int) (l : List (Int × Int)) : List Nat := bestTo (paths deg l) (most deg l) (paths deg l).length
theorem bestTo_length (out : List Nat) (m k : Nat) : (bestTo out m k).length ≤ k := by
  induction k with
  | zero => exact Nat.le_refl _
  | succ k ih =>
    show (if _ then bestTo out m k ++ [_] else bestTo out m k).length ≤ k + 1
    split
    · rw [List.length_append]; simp; omega
    · omega
theorem size_le (n : Nat) : size n ≤ 12 := sizeTo_le n 12
theorem mostTo_le (out : List Nat) (k : Nat) : mostTo out k ≤ 12 := by
  induction k with
  | zero => simp [mostTo, up]
  | succ k ih => show max (mostTo out k) (size _) ≤ 12; have := size_le (out.getD k 0); omega
theorem paths_lt {deg : Int} {l : List (Int × Int)} (h : l.length ≤ 12) (n : Nat) : ∀ x ∈ pathsTo deg l n, x < 4096 := by
  induction n with
  | zero => intro x hx; simp [pathsTo, up] at hx
  | succ n ih =>
    intro x hx
    have e : pathsTo deg l (n + 1) = pathStep deg l n (pathsTo deg l n) := rfl
    rw [e] at hx
    unfold pathStep at hx
    split at hx
    · exact ih x hx
    · split at hx
      · exact ih x hx
      · split at hx
        · exact ih x hx
        · rw [List.mem_append] at hx
          rcases hx with hx | hx
          · exact ih x hx
          · simp at hx; subst hx; exact on_lt _ _ h
theorem getD_lt {out : List Nat} (h : ∀ x ∈ out, x < 4096) (i : Nat) : out.getD i 0 < 4096 := by
  by_cases hi : i < out.length
  · have : out.getD i 0 = out[i] := by simp [hi]
    rw [this]; exact h _ (List.getElem_mem hi)
  · have : out.getD i 0 = 0 := by simp [List.getElem?_eq_none (by omega : out.length ≤ i)]
    omega
theorem paths_length {deg : Int} {l : List (Int × Int)} (h : l.length ≤ 12) : (paths deg l).length ≤ 4096 := by
  have h2 : (2 : Nat) ^ l.length ≤ 2 ^ 12 := Nat.pow_le_pow_right (by decide) h
  have h3 : (2 : Nat) ^ 12 = 4096 := by decide
  have := pathsTo_length deg l (2 ^ l.length)
  unfold paths; omega
end R
set_option maxRecDepth 100000 in
set_option maxHeartbeats 2000000 in
theorem best_any (a : Option Addr) (cap : Nat) (deg : Int) (l : List (Int × Int)) (w : World) (hv : R.Valid deg l) (ha : Sigs w a l) :
    Calls Try.prog 69 #[.agg #[.int .i64 deg, .slice a l.length cap]] w fun e w' => ∃ v, e = .returned (.tuple #[v, .int .i64 (R.most deg l)]) ∧ w'.ownsRow w.heap.size 3 1 v (R.best deg l).length ((nats (R.best deg l)).map (.int .i64)) ∧ Below w.heap.size w w' := by
  have hb0 := Lib.hid (Below.new w (.cells #[.int .i64 deg, .slice a l.length cap] 33))
  have HL0 := Lib.hid (Logged.new ha deg cap 33)
  have HV := Lib.hid hv
  have HLt := Lib.hid (R.paths_lt (deg := deg) hv.len (2 ^ l.length))
  have hpl := R.paths_length (deg := deg) hv.len
  clear ha hv
  go_enter Try.func69, Try.ntmps69
  go_wp2_with fail
  refine (paths_any a cap deg l _ HV.out HL0.out.sig).mono ?_
  rintro e w1 ⟨v, rfl, hown1, hb1⟩
  have hbel := hb0.out.trans (hb1.mono (by simp))
  have hown1 := owns_mono (base' := w.heap.size) hown1 (by simp)
  clear hb1 hb0 HL0
  obtain ⟨_, a1, cap1, rfl, hI1, hcap1⟩ := Ints.of_ownsRow hown1
  rw [nats_length] at *
  have hbs := hbel.size
  have hAt := fun b e => (hown1.lt b e).2
  have HI1 := Lib.hid hI1
  clear hI1 hown1
  go_wp2_with fail
  go_loopw [5, 6] (fun m i wi => ∃ k : Nat, k ≤ (R.paths deg l).length ∧ i = .int .i64 k ∧ m = .int .i64 (R.mostTo (R.paths deg l) k) ∧ wi = w1) (fun _ i _ => (R.paths deg l).length - (intOf i).toNat)
  case atStart => exact ⟨0, Nat.zero_le _, rfl, rfl, rfl⟩
  case round =>
    obtain ⟨k, hk, rfl, rfl, rfl⟩ := hrel
    by_cases hlt : k < (R.paths deg l).length
    · obtain ⟨b1, o1, rfl, hc1⟩ := HI1.out k (by rw [nats_length]; exact hlt)
      rw [nats_nth _ _ hlt] at hc1
      have hms : Hid (R.mostTo (R.paths deg l) (k + 1) = max (R.mostTo (R.paths deg l) k) (R.size ((R.paths deg l).getD k 0))) := rfl
      have HG := Lib.hid (R.getD_lt HLt.out k)
      have HC := Lib.hid (fun W => size_any ((R.paths deg l).getD k 0) W HG.out)
      generalize (R.paths deg l).getD k 0 = g at *
      go_wp2_with fail
      refine (HC.out _).mono ?_
      rintro e w2 ⟨rfl, rfl⟩
      go_wp2_with fail
      go_roundw
      case rel => exact ⟨k + 1, by omega, by go_num, by rw [hms.out]; congr 1; split <;> omega, trivial⟩
      case measure => simp [intOf]; omega
    · have hke : k = (R.paths deg l).length := by omega
      subst hke
      go_wp2_with fail
      obtain ⟨W1, rfl⟩ : ∃ W1, W1 = wr := ⟨_, rfl⟩
      rw [show R.mostTo (R.paths deg l) (R.paths deg l).length = R.most deg l from rfl]
      go_loopw [7, 8] (fun o i wi => ∃ k : Nat, k ≤ (R.paths deg l).length ∧ i = .int .i64 k ∧ wi.ownsRow W1.heap.size 3 1 o (R.bestTo (R.paths deg l) (R.most deg l) k).length ((nats (R.bestTo (R.paths deg l) (R.most deg l) k)).map (.int .i64)) ∧ Below W1.heap.size W1 wi) (fun _ i _ => (R.paths deg l).length - (intOf i).toNat)
      case atStart => exact ⟨0, Nat.zero_le _, rfl, World.ownsRow_nil _ _ _ _, Below.refl _ _⟩
      case round =>
        obtain ⟨k, hk, rfl, hown, hbl⟩ := hrel
        have hbls := hbl.size
        by_cases hlt : k < (R.paths deg l).length
        · obtain ⟨b1, o1, rfl, hc1⟩ := (HI1.out.below hbl) k (by rw [nats_length]; exact hlt)
          rw [nats_nth _ _ hlt] at hc1
          have hms : Hid (R.bestTo (R.paths deg l) (R.most deg l) (k + 1) = if R.size ((R.paths deg l).getD k 0) = R.most deg l then R.bestTo (R.paths deg l) (R.most deg l) k ++ [(R.paths deg l).getD k 0] else R.bestTo (R.paths deg l) (R.most deg l) k) := rfl
          have HG := Lib.hid (R.getD_lt HLt.out k)
          have HC := Lib.hid (fun W => size_any ((R.paths deg l).getD k 0) W HG.out)
          have hbt := R.bestTo_length (R.paths deg l) (R.most deg l) k
          have hn : (R.bestTo (R.paths deg l) (R.most deg l) k).length + 1 ≤ 2000000 := by omega
          generalize (R.paths deg l).getD k 0 = g at *
          by_cases he : R.size g = R.most deg l
          · have he' : ((R.size g : Int) == (R.most deg l : Int)) = true := by simp [he]
            have HE := Lib.hid he
            clear he
            go_wp2_with fail
            refine (HC.out _).mono ?_
            rintro e w2 ⟨rfl, rfl⟩
            go_wp2_with (at_builtin; refine listApp T34 rfl (.tmp 37) (.tmp 42) rfl W1.heap.size _ _ ((nats (R.bestTo (R.paths deg l) (R.most deg l) k)).map (.int .i64)) [.int .i64 (g : Int)] 1 1 ⟨wr.heap.size, 0, none⟩ rfl (hown.alloc _) rfl rfl (news_new _ _ _) (by simp [Value.oneCell']) hn (by simp; omega) ?_; intro v6 w6 hown6 hg6 hL6)
            go_roundw
            case rel => exact ⟨k + 1, by omega, by go_num, by rw [hms.out, if_pos HE.out, List.length_append, nats_snoc, List.map_append]; exact hown6, (hbl.alloc hbls _).grown hg6 (by simp; omega) (fun g e => (hown.lt g e).1)⟩
            case measure => simp [intOf]; omega
          · have he' : ((R.size g : Int) == (R.most deg l : Int)) = false := by simp; omega
            have HE := Lib.hid he
            clear he
            go_wp2_with fail
            refine (HC.out _).mono ?_
            rintro e w2 ⟨rfl, rfl⟩
            go_wp2_with fail
            go_roundw
            case rel => exact ⟨k + 1, by omega, by go_num, by rw [hms.out, if_neg HE.out]; exact hown, hbl⟩
            case measure => simp [intOf]; omega
        · have hke : k = (R.paths deg l).length := by omega
          subst hke
          go_wp2_with fail
          go_ret2
          exact ⟨_, rfl, owns_mono hown hbs, hbel.trans (hbl.mono hbs)⟩

namespace R
def mostE (deg : Int) (l : List (Int × Int)) : Int × Int := if checkLog deg l ≠ 0 then (0, checkLog deg l) else if most deg l = 0 then (0, 23) else (most deg l, 0)
def countE (deg : Int) (l : List (Int × Int)) : Int × Int := if checkLog deg l ≠ 0 then (0, checkLog deg l) else if most deg l = 0 then (0, 23) else ((best deg l).length, 0)
end R
set_option maxRecDepth 100000 in
set_option maxHeartbeats 1000000 in
theorem refMost_any (a : Option Addr) (cap : Nat) (deg : Int) (l : List (Int × Int)) (w : World) (hl : l.length ≤ 1000000) (ha : Sigs w a l) :
    Calls Try.prog 30 #[.agg #[.int .i64 deg, .slice a l.length cap]] w fun e w' => e = .returned (.tuple #[.int .i64 (R.mostE deg l).1, .int .i64 (R.mostE deg l).2]) ∧ Below w.heap.size w w' := by
  have hb0 := Lib.hid (Below.new w (.cells #[.int .i64 deg, .slice a l.length cap] 33))
  have HL0 := Lib.hid (Logged.new ha deg cap 33)
  have HCk := Lib.hid (fun W hW => refCheckLog_any a cap deg l W hl hW)
  clear ha
  by_cases hc : R.checkLog deg l = 0
  · have HV := Lib.hid (R.checkLog_zero hc)
    rw [hc] at HCk
    have HFF : Hid (R.mostE deg l = if R.most deg l = 0 then (0, 23) else ((R.most deg l : Int), 0)) := by unfold R.mostE; rw [if_neg (not_not_intro hc)]; trivial
    clear hc
    go_enter Try.func30, Try.ntmps30
    go_wp2_with fail
    refine (HCk.out _ HL0.out.sig).mono ?_
    rintro e w1 ⟨rfl, hb1⟩
    have HL1 := Lib.hid (HL0.out.on hb1)
    have HBel := Lib.hid (hb0.out.trans (hb1.mono (by simp)))
    clear hb1
    have hx1 := HL1.out.x1
    have hx2 := HL1.out.x2
    have hsz1 := HBel.out.size
    go_wp2_with fail
    refine (best_any a cap deg l _ HV.out HL1.out.sig).mono ?_
    rintro e w2 ⟨v, rfl, hown1, hb1⟩
    have HB2 := Lib.hid (HBel.out.trans (hb1.mono hsz1))
    clear hx1 hx2 hb1
    by_cases hz : R.most deg l = 0
    · have hz' : ((R.most deg l : Int) == 0) = true := by simp [hz]
      have HF := HFF.out
      rw [if_pos hz] at HF
      have HF := Lib.hid HF
      clear hz
      go_wp2_with fail
      go_ret2
      exact ⟨by rw [HFF.out, if_pos (by simpa using hz')]; first | done | rfl, HB2.out⟩
    · have hz' : ((R.most deg l : Int) == 0) = false := by simp; omega
      have HZ := Lib.hid hz
      clear hz
      go_wp2_with fail
      go_ret2
      exact ⟨by rw [HFF.out, if_neg HZ.out]; first | done | rfl, HB2.out⟩
  · have HF : Hid (R.mostE deg l = (0, R.checkLog deg l)) := by unfold R.mostE; rw [if_pos hc]; trivial
    have hc' : (R.checkLog deg l != 0) = true := by rw [bne_iff_ne]; exact hc
    clear hc
    go_enter Try.func30, Try.ntmps30
    go_wp2_with fail
    refine (HCk.out _ HL0.out.sig).mono ?_
    rintro e w1 ⟨rfl, hb1⟩
    have HL1 := Lib.hid (HL0.out.on hb1)
    have HBel := Lib.hid (hb0.out.trans (hb1.mono (by simp)))
    have hx1 := HL1.out.x1
    have hx2 := HL1.out.x2
    clear hb1
    go_wp2_with fail
    refine (HCk.out _ HL1.out.sig).mono ?_
    rintro e w2 ⟨rfl, hb2⟩
    go_wp2_with fail
    go_ret2
    have := HBel.out.size
    exact ⟨by rw [HF.out]; first | done | rfl, HBel.out.trans (hb2.mono this)⟩

set_option maxRecDepth 100000 in
set_option maxHeartbeats 1000000 in
theorem refCount_any (a : Option Addr) (cap : Nat) (deg : Int) (l : List (Int × Int)) (w : World) (hl : l.length ≤ 1000000) (ha : Sigs w a l) :
    Calls Try.prog 32 #[.agg #[.int .i64 deg, .slice a l.length cap]] w fun e w' => e = .returned (.tuple #[.int .i64 (R.countE deg l).1, .int .i64 (R.countE deg l).2]) ∧ Below w.heap.size w w' := by
  have hb0 := Lib.hid (Below.new w (.cells #[.int .i64 deg, .slice a l.length cap] 33))
  have HL0 := Lib.hid (Logged.new ha deg cap 33)
  have HCk := Lib.hid (fun W hW => refCheckLog_any a cap deg l W hl hW)
  clear ha
  by_cases hc : R.checkLog deg l = 0
  · have HV := Lib.hid (R.checkLog_zero hc)
    rw [hc] at HCk
    have HFF : Hid (R.countE deg l = if R.most deg l = 0 then (0, 23) else (((R.best deg l).length : Int), 0)) := by unfold R.countE; rw [if_neg (not_not_intro hc)]; trivial
    clear hc
    go_enter Try.func32, Try.ntmps32
    go_wp2_with fail
    refine (HCk.out _ HL0.out.sig).mono ?_
    rintro e w1 ⟨rfl, hb1⟩
    have HL1 := Lib.hid (HL0.out.on hb1)
    have HBel := Lib.hid (hb0.out.trans (hb1.mono (by simp)))
    clear hb1
    have hx1 := HL1.out.x1
    have hx2 := HL1.out.x2
    have hsz1 := HBel.out.size
    go_wp2_with fail
    refine (best_any a cap deg l _ HV.out HL1.out.sig).mono ?_
    rintro e w2 ⟨v, rfl, hown1, hb1⟩
    have HB2 := Lib.hid (HBel.out.trans (hb1.mono hsz1))
    obtain ⟨-, a1, cap1, rfl, hI1, hcap1⟩ := Ints.of_ownsRow hown1
    clear hx1 hx2 hb1 hown1 hI1
    by_cases hz : R.most deg l = 0
    · have hz' : ((R.most deg l : Int) == 0) = true := by simp [hz]
      clear hz
      go_wp2_with fail
      go_ret2
      exact ⟨by rw [HFF.out, if_pos (by simpa using hz')]; first | done | rfl, HB2.out⟩
    · have hz' : ((R.most deg l : Int) == 0) = false := by simp; omega
      have HZ := Lib.hid hz
      clear hz
      go_wp2_with fail
      go_ret2
      exact ⟨by rw [HFF.out, if_neg HZ.out]; first | done | rfl, HB2.out⟩
  · have HF : Hid (R.countE deg l = (0, R.checkLog deg l)) := by unfold R.countE; rw [if_pos hc]; trivial
    have hc' : (R.checkLog deg l != 0) = true := by rw [bne_iff_ne]; exact hc
    clear hc
    go_enter Try.func32, Try.ntmps32
    go_wp2_with fail
    refine (HCk.out _ HL0.out.sig).mono ?_
    rintro e w1 ⟨rfl, hb1⟩
    have HL1 := Lib.hid (HL0.out.on hb1)
    have HBel := Lib.hid (hb0.out.trans (hb1.mono (by simp)))
    have hx1 := HL1.out.x1
    have hx2 := HL1.out.x2
    clear hb1
    go_wp2_with fail
    refine (HCk.out _ HL1.out.sig).mono ?_
    rintro e w2 ⟨rfl, hb2⟩
    go_wp2_with fail
    go_ret2
    have := HBel.out.size
    exact ⟨by rw [HF.out]; first | done | rfl, HBel.out.trans (hb2.mono this)⟩
end Go.Proofs.Ytkcgkfhfogdihaa
/- Walk of the reference's Kind. -/
namespace Go.Proofs.Ytkcgkfhfogdihaa
open Go.RowKit
namespace R
/-- For how many of the first k the sighting is wrong. -/
def wrongTo (out : List Nat) (s k : Nat) : Nat := up (fun i n => n + (1 - out.getD i 0 / 2 ^ s % 2)) 0 k
def wrongs (deg : Int) (l : List (Int × Int)) (s : Nat) : Nat := wrongTo (best deg l) s (best deg l).length
def kindE (deg : Int) (l : List (Int × Int)) (s : Int) : Int × Int :=
  if checkLog deg l ≠ 0 then (0, checkLog deg l) else if s < 0 ∨ (l.length : Int) ≤ s then (0, 2) else if most deg l = 0 then (0, 23) else
    if wrongs deg l s.toNat = (best deg l).length then (2, 0) else (((min (wrongs deg l s.toNat) 1 : Nat) : Int), 0)
theorem best_mem {deg : Int} {l : List (Int × Int)} (h : l.length ≤ 12) : ∀ x ∈ best deg l, x < 4096 := by
  have key : ∀ k, ∀ x ∈ bestTo (paths deg l) (most deg l) k, x < 4096 := by
    intro k
    induction k with
    | zero => intro x hx; simp [bestTo, up] at hx
    | succ k ih =>
      intro x hx
      have e : bestTo (paths deg l) (most deg l) (k + 1) = if size ((paths deg l).getD k 0) = most deg l then bestTo (paths deg l) (most deg l) k ++ [(paths deg l).getD k 0] else bestTo (paths deg l) (most deg l) k := rfl
      rw [e] at hx
      split at hx
      · rw [List.mem_append] at hx
        rcases hx with hx | hx
        · exact ih x hx
        · simp only [List.mem_singleton] at hx; subst hx; exact getD_lt (paths_lt h _) k
      · exact ih x hx
  exact key _
theorem wrongTo_le (out : List Nat) (s k : Nat) : wrongTo out s k ≤ k := by
  induction k with
  | zero => exact Nat.le_refl _
  | succ k ih => show wrongTo out s k + (1 - _) ≤ k + 1; omega
theorem best_length {deg : Int} {l : List (Int × Int)} (h : l.length ≤ 12) : (best deg l).length ≤ 4096 := Nat.le_trans (bestTo_length _ _ _) (paths_length h)
end R

set_option maxRecDepth 100000 in
set_option maxHeartbeats 2000000 in
theorem refKind_any (a : Option Addr) (cap : Nat) (deg : Int) (l : List (Int × Int)) (s : Int) (w : World) (hl : l.length ≤ 1000000) (ha : Sigs w a l) :
    Calls Try.prog 34 #[.agg #[.int .i64 deg, .slice a l.length cap], .int .i64 s] w fun e w' => e = .returned (.tuple #[.int .i64 (R.kindE deg l s).1, .int .i64 (R.kindE deg l s).2]) ∧ Below w.heap.size w w' := by
  have hb0 := Lib.hid (Below.new w (.cells #[.int .i64 deg, .slice a l.length cap] 33))
  have HL0 := Lib.hid (Logged.new ha deg cap 33)
  have HCk := Lib.hid (fun W hW => refCheckLog_any a cap deg l W hl hW)
  clear ha
  by_cases hc : R.checkLog deg l = 0
  · have HV := Lib.hid (R.checkLog_zero hc)
    rw [hc] at HCk
    by_cases hs : s < 0 ∨ (l.length : Int) ≤ s
    · have HF : Hid (R.kindE deg l s = (0, 2)) := by unfold R.kindE; rw [if_neg (not_not_intro hc), if_pos hs]; trivial
      have hs' : s < 0 ∨ (0 ≤ s ∧ (l.length : Int) ≤ s) := by omega
      clear hc hs
      go_enter Try.func34, Try.ntmps34
      go_wp2_with fail
      refine (HCk.out _ HL0.out.sig).mono ?_
      rintro e w1 ⟨rfl, hb1⟩
      have HL1 := Lib.hid (HL0.out.on hb1)
      have HBel := Lib.hid (hb0.out.trans (hb1.mono (by simp)))
      clear hb1
      have hx1 := HL1.out.x1
      have hx2 := HL1.out.x2
      rcases hs' with hs | ⟨hs1, hs2⟩
      all_goals
        go_wp2_with fail
        go_ret2
        exact ⟨by rw [HF.out]; first | done | rfl, HBel.out⟩
    · have HFF : Hid (R.kindE deg l s = if R.most deg l = 0 then (0, 23) else if R.wrongs deg l s.toNat = (R.best deg l).length then (2, 0) else (((min (R.wrongs deg l s.toNat) 1 : Nat) : Int), 0)) := by unfold R.kindE; rw [if_neg (not_not_intro hc), if_neg hs]; trivial
      have hs1 : 0 ≤ s := by omega
      have hs2 : s < (l.length : Int) := by omega
      obtain ⟨t, rfl⟩ := Int.eq_ofNat_of_zero_le hs1
      have h12 := HV.out.len
      clear hc hs
      have hs3 : t < l.length := by omega
      go_enter Try.func34, Try.ntmps34
      go_wp2_with fail
      refine (HCk.out _ HL0.out.sig).mono ?_
      rintro e w1 ⟨rfl, hb1⟩
      have HL1 := Lib.hid (HL0.out.on hb1)
      have HBel := Lib.hid (hb0.out.trans (hb1.mono (by simp)))
      clear hb1
      have hx1 := HL1.out.x1
      have hx2 := HL1.out.x2
      have hsz1 := HBel.out.size
      go_wp2_with fail
      refine (best_any a cap deg l _ HV.out HL1.out.sig).mono ?_
      rintro e w2 ⟨v, rfl, hown1, hb1⟩
      have HB2 := Lib.hid (HBel.out.trans (hb1.mono hsz1))
      obtain ⟨-, a1, cap1, rfl, hI1, hcap1⟩ := Ints.of_ownsRow hown1
      have HI1 := Lib.hid hI1
      have hbl := R.best_length (deg := deg) h12
      have HBm := Lib.hid (R.best_mem (deg := deg) h12)
      clear hx1 hx2 hb1 hown1 hI1 hcap1
      by_cases hz : R.most deg l = 0
      · have hz' : ((R.most deg l : Int) == 0) = true := by simp [hz]
        clear hz
        go_wp2_with fail
        go_ret2
        exact ⟨by rw [HFF.out, if_pos (by simpa using hz')]; first | done | rfl, HB2.out⟩
      · have hz' : ((R.most deg l : Int) == 0) = false := by simp; omega
        have HZ := Lib.hid hz
        clear hz
        go_wp2_with fail
        go_loopw [8, 9] (fun o i wi => ∃ k : Nat, k ≤ (R.best deg l).length ∧ i = .int .i64 k ∧ o = .int .i64 (R.wrongTo (R.best deg l) t k) ∧ wi = w2) (fun _ i _ => (R.best deg l).length - (intOf i).toNat)
        case atStart => exact ⟨0, Nat.zero_le _, rfl, rfl, rfl⟩
        case round =>
          obtain ⟨k, hk, rfl, rfl, rfl⟩ := hrel
          by_cases hlt : k < (R.best deg l).length
          · obtain ⟨b1, o1, rfl, hc1⟩ := HI1.out k (by rw [nats_length]; exact hlt)
            rw [nats_nth _ _ hlt] at hc1
            have hms : Hid (R.wrongTo (R.best deg l) t (k + 1) = R.wrongTo (R.best deg l) t k + (1 - (R.best deg l).getD k 0 / 2 ^ t % 2)) := rfl
            have hg := R.getD_lt HBm.out k
            have hwl := R.wrongTo_le (R.best deg l) t k
            generalize (R.best deg l).getD k 0 = g at *
            have hcc : ((g : Int) / 2 ^ t) = ((g / 2 ^ t : Nat) : Int) := by simp
            have hb1 : bits .and .i64 ((g : Int) / 2 ^ t) 1 = ((g / 2 ^ t % 2 : Nat) : Int) := by
              rw [hcc]; generalize hgg : g / 2 ^ t = q at *; have hgn : q ≤ g := by rw [← hgg]; exact Nat.div_le_self g (2 ^ t)
              rw [bits_and1 (by omega) (by omega)]; omega
            have h2 : g / 2 ^ t % 2 < 2 := Nat.mod_lt _ (by decide)
            have HB1 := Lib.hid hb1
            clear hb1 hcc
            generalize hq : g / 2 ^ t % 2 = q at *
            clear hq
            have hb1 := HB1.out
            go_wp2_with fail
            go_roundw
            case rel => exact ⟨k + 1, by omega, by go_num, by rw [hms.out]; congr 1; omega, trivial⟩
            case measure => simp [intOf]; omega
          · have hke : k = (R.best deg l).length := by omega
            subst hke
            have e : R.wrongTo (R.best deg l) t (R.best deg l).length = R.wrongs deg l ((t : Int).toNat) := rfl
            rw [e]
            clear e
            generalize R.wrongs deg l ((t : Int).toNat) = W at *
            by_cases hw : W = (R.best deg l).length
            · have hw' : ((W : Int) == ((R.best deg l).length : Int)) = true := by simp [hw]
              have HW := Lib.hid hw
              clear hw
              go_wp2_with fail
              go_ret2
              exact ⟨by rw [HFF.out, if_neg HZ.out, if_pos HW.out]; first | done | rfl, HB2.out⟩
            · have hw' : ((W : Int) == ((R.best deg l).length : Int)) = false := by simp; omega
              have HW := Lib.hid hw
              clear hw
              by_cases hm : (W : Int) ≤ 1
              · have hm2 := Lib.hid (show min W 1 = W by omega)
                go_wp2_with fail
                go_ret2
                exact ⟨by rw [HFF.out, if_neg HZ.out, if_neg HW.out, hm2.out]; first | done | rfl, HB2.out⟩
              · have hm2 := Lib.hid (show min W 1 = 1 by omega)
                go_wp2_with fail
                go_ret2
                exact ⟨by rw [HFF.out, if_neg HZ.out, if_neg HW.out, hm2.out]; first | done | rfl, HB2.out⟩
  · have HF : Hid (R.kindE deg l s = (0, R.checkLog deg l)) := by unfold R.kindE; rw [if_pos hc]; trivial
    have hc' : (R.checkLog deg l != 0) = true := by rw [bne_iff_ne]; exact hc
    clear hc
    go_enter Try.func34, Try.ntmps34
    go_wp2_with fail
    refine (HCk.out _ HL0.out.sig).mono ?_
    rintro e w1 ⟨rfl, hb1⟩
    have HL1 := Lib.hid (HL0.out.on hb1)
    have HBel := Lib.hid (hb0.out.trans (hb1.mono (by simp)))
    have hx1 := HL1.out.x1
    have hx2 := HL1.out.x2
    clear hb1
    go_wp2_with fail
    refine (HCk.out _ HL1.out.sig).mono ?_
    rintro e w2 ⟨rfl, hb2⟩
    go_wp2_with fail
    go_ret2
    have := HBel.out.size
    exact ⟨by rw [HF.out]; first | done | rfl, HBel.out.trans (hb2.mono this)⟩
end Go.Proofs.Ytkcgkfhfogdihaa
/- Walks of the reference's Only and Least. -/
namespace Go.Proofs.Ytkcgkfhfogdihaa
open Go.RowKit
theorem dayN_left (r : List (Int × Int)) (d p : Int) (i : Nat) (h : i < r.length) : dayN (r ++ [(d, p)]) i = dayN r i ∧ plcN (r ++ [(d, p)]) i = plcN r i := by
  unfold dayN plcN; simp only [List.getD_eq_getElem?_getD]; rw [List.getElem?_append_left h]; exact ⟨rfl, rfl⟩
theorem dayN_right (r : List (Int × Int)) (d p : Int) : dayN (r ++ [(d, p)]) r.length = d ∧ plcN (r ++ [(d, p)]) r.length = p := by
  unfold dayN plcN; simp
theorem dayN_take (l : List (Int × Int)) (k i : Nat) (h : i < k) : dayN (l.take k) i = dayN l i ∧ plcN (l.take k) i = plcN l i := by
  unfold dayN plcN; simp [List.getD_eq_getElem?_getD, h]
namespace R
/-- What has been taken of the first j sightings. -/
structure Pre (l r : List (Int × Int)) (j : Nat) : Prop where
  fit : Fit r
  inc : Inc r
  lt : ∀ i, i < r.length → j < l.length → dayN r i < dayN l j
theorem Pre.nil (l : List (Int × Int)) (j : Nat) : Pre l [] j := ⟨fun i h => by simp at h, fun i h => by simp at h, fun i h => by simp at h⟩
theorem Pre.skip {l r : List (Int × Int)} {j : Nat} (h : Pre l r j) (hi : Inc l) (hj : j < l.length) : Pre l r (j + 1) :=
  ⟨h.fit, h.inc, fun i hlt hj2 => by have hd := hi j (by omega); have := h.lt i hlt hj; omega⟩
theorem Pre.add {l r : List (Int × Int)} {j : Nat} (h : Pre l r j) (hf : Fit l) (hi : Inc l) (hj : j < l.length) : Pre l (r ++ [(dayN l j, plcN l j)]) (j + 1) := by
  refine ⟨fun i hlt => ?_, fun i hlt => ?_, fun i hlt hj2 => ?_⟩
  · rw [List.length_append] at hlt
    by_cases hh : i < r.length
    · rw [(dayN_left _ _ _ i hh).1, (dayN_left _ _ _ i hh).2]; exact h.fit i hh
    · have : i = r.length := by simp at hlt; omega
      subst this
      rw [(dayN_right _ _ _).1, (dayN_right _ _ _).2]; exact hf j hj
  · rw [List.length_append] at hlt
    simp at hlt
    rw [(dayN_left _ _ _ i (by omega)).1]
    by_cases hh : i + 1 < r.length
    · rw [(dayN_left _ _ _ (i + 1) hh).1]; exact h.inc i (by omega)
    · have : i + 1 = r.length := by omega
      rw [this, (dayN_right _ _ _).1]; exact h.lt i (by omega) hj
  · rw [List.length_append] at hlt
    have hd := hi j (by omega)
    by_cases hh : i < r.length
    · rw [(dayN_left _ _ _ i hh).1]; have := h.lt i hh hj; omega
    · have : i = r.length := by simp at hlt; omega
      subst this
      rw [(dayN_right _ _ _).1]; exact hd
/-- The first of the sightings whose bits are 1, deg + 1 of them. -/
def firstTo (deg : Int) (l : List (Int × Int)) (bits j : Nat) : List (Int × Int) := up (fun i r => if bits / 2 ^ i % 2 = 1 ∧ (r.length : Int) ≤ deg then r ++ [(dayN l i, plcN l i)] else r) [] j
theorem firstTo_succ (deg : Int) (l : List (Int × Int)) (bits j : Nat) : firstTo deg l bits (j + 1) = if bits / 2 ^ j % 2 = 1 ∧ ((firstTo deg l bits j).length : Int) ≤ deg then firstTo deg l bits j ++ [(dayN l j, plcN l j)] else firstTo deg l bits j := rfl
theorem firstTo_pre {deg : Int} {l : List (Int × Int)} (hv : Valid deg l) (bits : Nat) : ∀ j, j ≤ l.length → Pre l (firstTo deg l bits j) j ∧ ((firstTo deg l bits j).length : Int) ≤ deg + 1 := by
  intro j
  induction j with
  | zero => intro _; exact ⟨Pre.nil l 0, by have := hv.d0; simp [firstTo, up]; omega⟩
  | succ j ih =>
    intro hj
    obtain ⟨h1, h2⟩ := ih (by omega)
    rw [firstTo_succ]
    split
    · rename_i hc; exact ⟨h1.add hv.fit hv.inc (by omega), by rw [List.length_append]; simp; omega⟩
    · exact ⟨h1.skip hv.inc (by omega), h2⟩
theorem first_piece {deg : Int} {l : List (Int × Int)} (hv : Valid deg l) (bits : Nat) : Piece (firstTo deg l bits l.length) := by
  obtain ⟨h1, h2⟩ := firstTo_pre hv bits l.length (Nat.le_refl _)
  have := hv.d3
  exact ⟨by omega, h1.fit, h1.inc⟩
/-- The first one of the list that meets a test: among the first k. -/
def hitTo (out : List Nat) (p : Nat → Bool) (k : Nat) : Option Nat := up (fun i r => match r with | some x => some x | none => if p (out.getD i 0) then some (out.getD i 0) else none) none k
theorem hitTo_succ (out : List Nat) (p : Nat → Bool) (k : Nat) : hitTo out p (k + 1) = match hitTo out p k with | some x => some x | none => if p (out.getD k 0) then some (out.getD k 0) else none := rfl
theorem hitTo_stays {out : List Nat} {p : Nat → Bool} {k x : Nat} (h : hitTo out p k = some x) (d : Nat) : hitTo out p (k + d) = some x := by
  induction d with
  | zero => exact h
  | succ d ih => rw [show k + (d + 1) = (k + d) + 1 from rfl, hitTo_succ, ih]
def onlyHit (deg : Int) (l : List (Int × Int)) (wrong : Int) : Option Nat := hitTo (paths deg l) (fun b => decide ((l.length : Int) - wrong ≤ size b)) (paths deg l).length
def onlyR (deg : Int) (l : List (Int × Int)) : Option Nat → List Int × Int
  | none => ([], 23)
  | some b => ((pass (firstTo deg l b l.length)).getD [], 0)
def onlyE (deg : Int) (l : List (Int × Int)) (wrong : Int) : List Int × Int :=
  if checkLog deg l ≠ 0 then ([], checkLog deg l) else if wrong < 0 ∨ 5 < wrong then ([], 2) else if (l.length : Int) < deg + 1 + 2 * wrong then ([], 13) else
    onlyR deg l (onlyHit deg l wrong)
def hitD (l : List (Int × Int)) (d : Nat) : Bool := match pass (l.take (d + 1)) with | none => false | some p => size (on l p) == l.length
def leastTo (l : List (Int × Int)) (k : Nat) : Option Nat := up (fun d r => match r with | some x => some x | none => if d < l.length ∧ hitD l d = true then some d else none) none k
theorem leastTo_succ (l : List (Int × Int)) (k : Nat) : leastTo l (k + 1) = match leastTo l k with | some x => some x | none => if k < l.length ∧ hitD l k = true then some k else none := rfl
theorem leastTo_stays {l : List (Int × Int)} {k x : Nat} (h : leastTo l k = some x) (d : Nat) : leastTo l (k + d) = some x := by
  induction d with
  | zero => exact h
  | succ d ih => rw [show k + (d + 1) = (k + d) + 1 from rfl, leastTo_succ, ih]
theorem leastTo_end {l : List (Int × Int)} {k : Nat} (h : leastTo l k = none) (hk : l.length ≤ k) (d : Nat) : leastTo l (k + d) = none := by
  induction d with
  | zero => exact h
  | succ d ih => rw [show k + (d + 1) = (k + d) + 1 from rfl, leastTo_succ, ih]; simp; omega
def leastR : Option Nat → Int × Int
  | none => (0, 23)
  | some d => ((d : Int), 0)
def leastE (deg : Int) (l : List (Int × Int)) : Int × Int :=
  if checkLog deg l ≠ 0 then (0, checkLog deg l) else if l.length = 0 then (0, 0) else leastR (leastTo l 4)
theorem take_piece {deg : Int} {l : List (Int × Int)} (hv : Valid deg l) {k : Nat} (hk : k ≤ 4) : Piece (l.take k) := by
  have hl : (l.take k).length = min k l.length := List.length_take
  refine ⟨by omega, fun i hi => ?_, fun i hi => ?_⟩
  · rw [(dayN_take l k i (by omega)).1, (dayN_take l k i (by omega)).2]; exact hv.fit i (by omega)
  · rw [(dayN_take l k i (by omega)).1, (dayN_take l k (i + 1) (by omega)).1]; exact hv.inc i (by omega)
end R
theorem Sigs.take {w : World} {a : Option Addr} {l : List (Int × Int)} (h : Sigs w a l) (k : Nat) : Sigs w a (l.take k) := by
  intro i hi
  have hl : (l.take k).length = min k l.length := List.length_take
  rw [(dayN_take l k i (by omega)).1, (dayN_take l k i (by omega)).2]
  exact h i (by omega)

set_option maxRecDepth 100000 in
set_option maxHeartbeats 2000000 in
theorem refLeast_any (a : Option Addr) (cap : Nat) (deg : Int) (l : List (Int × Int)) (w : World) (hl : l.length ≤ 1000000) (hcap : l.length ≤ cap) (ha : Sigs w a l) :
    Calls Try.prog 39 #[.agg #[.int .i64 deg, .slice a l.length cap]] w fun e w' => e = .returned (.tuple #[.int .i64 (R.leastE deg l).1, .int .i64 (R.leastE deg l).2]) ∧ Below w.heap.size w w' := by
  have hb0 := Lib.hid (Below.new w (.cells #[.int .i64 deg, .slice a l.length cap] 33))
  have HL0 := Lib.hid (Logged.new ha deg cap 33)
  have HCk := Lib.hid (fun W hW => refCheckLog_any a cap deg l W hl hW)
  clear ha
  by_cases hc : R.checkLog deg l = 0
  · have HV := Lib.hid (R.checkLog_zero hc)
    rw [hc] at HCk
    have h12 := HV.out.len
    have HFF : Hid (R.leastE deg l = if l.length = 0 then (0, 0) else R.leastR (R.leastTo l 4)) := by unfold R.leastE; rw [if_neg (not_not_intro hc)]; trivial
    clear hc
    go_enter Try.func39, Try.ntmps39
    go_wp2_with fail
    refine (HCk.out _ HL0.out.sig).mono ?_
    rintro e w1 ⟨rfl, hb1⟩
    have HL1 := Lib.hid (HL0.out.on hb1)
    have HBel := Lib.hid (hb0.out.trans (hb1.mono (by simp)))
    clear hb1
    have hx1 := HL1.out.x1
    have hx2 := HL1.out.x2
    have hsz1 := HBel.out.size
    by_cases hz : l.length = 0
    · have hz' : ((l.length : Int) == 0) = true := by simp [hz]
      have HZ := Lib.hid hz
      clear hz
      go_wp2_with fail
      go_ret2
      exact ⟨by rw [HFF.out, if_pos HZ.out]; first | done | rfl, HBel.out⟩
    · have hz' : ((l.length : Int) == 0) = false := by simp; intro h; simp [h] at hz
      have HZ := Lib.hid hz
      clear hz
      go_wp2_with fail
      clear hx1 hx2
      go_loopw [5, 6, 7] (fun d _ _ wi => ∃ k : Nat, k ≤ 4 ∧ k ≤ l.length ∧ d = .int .i64 k ∧ Hid (R.leastTo l k = none) ∧ Below w1.heap.size w1 wi) (fun d _ _ _ => 4 - (intOf d).toNat)
      case atStart => exact ⟨0, by omega, by omega, rfl, Lib.hid rfl, Below.refl _ _⟩
      case round =>
        obtain ⟨k, hk4, hkl, rfl, HNo, hbel⟩ := hrel
        have hbs := hbel.size
        have HL2 := Lib.hid (HL1.out.on hbel)
        have hx1 := HL2.out.x1
        have hx2 := HL2.out.x2
        by_cases hlt : k < 4 ∧ k < l.length
        · obtain ⟨h4, hln⟩ := hlt
          have k1 : (k : Int) ≤ 3 := by omega
          have k2 : (k : Int) < (l.length : Int) := by omega
          have k3 : (k : Int) + 1 ≤ (cap : Int) := by omega
          have HTl : Hid ((l.take (k + 1)).length = k + 1) := Lib.hid (by rw [List.length_take]; omega)
          have HPc := Lib.hid (R.take_piece HV.out (k := k + 1) (by omega))
          have HC := Lib.hid (fun W (hW : Sigs W a (l.take (k + 1))) => pass_any a cap (l.take (k + 1)) W hW HPc.out)
          rw [HTl.out] at HC
          have HSt := Lib.hid (R.leastTo_succ l k)
          rw [HNo.out] at HSt
          cases hps : R.pass (l.take (k + 1)) with
          | none =>
            have HN1 : Hid (R.leastTo l (k + 1) = none) := Lib.hid (by rw [HSt.out]; simp [R.hitD, hps])
            simp only [passL, hps, Option.isSome_none, Option.getD_none] at HC
            clear hps
            go_wp2_with fail
            refine (HC.out _ (HL2.out.sig.take _)).mono ?_
            rintro e w2 ⟨v, rfl, hown1, hb1⟩
            go_wp2_with fail
            go_roundw
            case rel => exact ⟨k + 1, by omega, by omega, by go_num, HN1, hbel.trans (hb1.mono hbs)⟩
            case measure => simp [intOf]; omega
          | some p =>
            have HPS := Lib.hid (HPc.out.pass_some hps)
            have HD : Hid (R.hitD l k = (R.size (R.on l p) == l.length)) := Lib.hid (by unfold R.hitD; rw [hps])
            simp only [passL, hps, Option.isSome_some, Option.getD_some] at HC
            clear hps
            have HO := Lib.hid (R.on_lt l p h12)
            go_wp2_with fail
            refine (HC.out _ (HL2.out.sig.take _)).mono ?_
            rintro e w2 ⟨v, rfl, hown1, hb1⟩
            obtain ⟨-, a4, cap4, rfl, hI4, hcap4⟩ := Ints.of_ownsRow hown1
            have HL4 := Lib.hid (HL2.out.on hb1)
            have hbel2 := hbel.trans (hb1.mono hbs)
            have HI4 := Lib.hid hI4
            clear hown1 hb1 hcap4 hI4 hx1 hx2
            have hx1 := HL4.out.x1
            have hx2 := HL4.out.x2
            go_wp2_with fail
            refine (on_any a cap l a4 cap4 p _ h12 HL4.out.sig HV.out.fit (by rw [HPS.out.1]; exact HPc.out.len) HPS.out.2.2 HI4.out).mono ?_
            rintro e w3 ⟨rfl, hD⟩
            have hbel3 := hbel2.trans (hD.below _)
            have hx1' := (hD.cell _).trans hx1
            have hx2' := (hD.cell _).trans hx2
            clear hx1 hx2 hD
            go_wp2_with fail
            refine (size_any (R.on l p) _ HO.out).mono ?_
            rintro e w4 ⟨rfl, rfl⟩
            generalize R.size (R.on l p) = S at *
            by_cases hs : S = l.length
            · have hs' : ((S : Int) == (l.length : Int)) = true := by simp [hs]
              have HN1 : Hid (R.leastTo l 4 = some k) := Lib.hid (by
                have : R.leastTo l (k + 1) = some k := by rw [HSt.out, HD.out]; simp [hs, hln]
                have := R.leastTo_stays this (4 - (k + 1))
                rwa [show k + 1 + (4 - (k + 1)) = 4 by omega] at this)
              clear hs
              go_wp2_with fail
              go_ret2
              exact ⟨by rw [HFF.out, if_neg HZ.out, HN1.out]; first | done | rfl, HBel.out.trans (hbel3.mono hsz1)⟩
            · have hs' : ((S : Int) == (l.length : Int)) = false := by simp; omega
              have HN1 : Hid (R.leastTo l (k + 1) = none) := Lib.hid (by rw [HSt.out, HD.out]; simp [hs])
              clear hs
              go_wp2_with fail
              go_roundw
              case rel => exact ⟨k + 1, by omega, by omega, by go_num, HN1, hbel3⟩
              case measure => simp [intOf]; omega
        · have HN1 : Hid (R.leastTo l 4 = none) := Lib.hid (by
            by_cases h4 : k = 4
            · rw [← h4]; exact HNo.out
            · have := R.leastTo_end HNo.out (by omega) (4 - k)
              rwa [show k + (4 - k) = 4 by omega] at this)
          have hl2 : 3 < (k : Int) ∨ ((k : Int) ≤ 3 ∧ (l.length : Int) ≤ (k : Int)) := by omega
          clear hlt
          rcases hl2 with h | ⟨h, h'⟩
          all_goals
            go_wp2_with fail
            go_ret2
            exact ⟨by rw [HFF.out, if_neg HZ.out, HN1.out]; first | done | rfl, HBel.out.trans (hbel.mono hsz1)⟩
  · have HF : Hid (R.leastE deg l = (0, R.checkLog deg l)) := by unfold R.leastE; rw [if_pos hc]; trivial
    have hc' : (R.checkLog deg l != 0) = true := by rw [bne_iff_ne]; exact hc
    clear hc
    go_enter Try.func39, Try.ntmps39
    go_wp2_with fail
    refine (HCk.out _ HL0.out.sig).mono ?_
    rintro e w1 ⟨rfl, hb1⟩
    have HL1 := Lib.hid (HL0.out.on hb1)
    have HBel := Lib.hid (hb0.out.trans (hb1.mono (by simp)))
    have hx1 := HL1.out.x1
    have hx2 := HL1.out.x2
    clear hb1
    go_wp2_with fail
    refine (HCk.out _ HL1.out.sig).mono ?_
    rintro e w2 ⟨rfl, hb2⟩
    go_wp2_with fail
    go_ret2
    have := HBel.out.size
    exact ⟨by rw [HF.out]; first | done | rfl, HBel.out.trans (hb2.mono this)⟩
end Go.Proofs.Ytkcgkfhfogdihaa
/- Walk of the reference's Only. -/
namespace Go.Proofs.Ytkcgkfhfogdihaa
open Go.RowKit

set_option maxRecDepth 100000 in
set_option maxHeartbeats 4000000 in
theorem refOnly_any (a : Option Addr) (cap : Nat) (deg : Int) (l : List (Int × Int)) (wrong : Int) (w : World) (hl : l.length ≤ 1000000) (ha : Sigs w a l) :
    Calls Try.prog 37 #[.agg #[.int .i64 deg, .slice a l.length cap], .int .i64 wrong] w fun e w' => ∃ v, e = .returned (.tuple #[v, .int .i64 (R.onlyE deg l wrong).2]) ∧ w'.ownsRow w.heap.size 2 1 v (R.onlyE deg l wrong).1.length ((R.onlyE deg l wrong).1.map (.int .i64)) ∧ Below w.heap.size w w' := by
  have hb0 := Lib.hid (Below.new w (.cells #[.int .i64 deg, .slice a l.length cap] 33))
  have HL0 := Lib.hid (Logged.new ha deg cap 33)
  have HCk := Lib.hid (fun W hW => refCheckLog_any a cap deg l W hl hW)
  clear ha
  by_cases hc : R.checkLog deg l = 0
  · have HV := Lib.hid (R.checkLog_zero hc)
    rw [hc] at HCk
    have h12 := HV.out.len
    have hd0 := HV.out.d0
    have hd3 := HV.out.d3
    by_cases hw : wrong < 0 ∨ 5 < wrong
    · have HF : Hid (R.onlyE deg l wrong = ([], 2)) := by unfold R.onlyE; rw [if_neg (not_not_intro hc), if_pos hw]; trivial
      have hw' : wrong < 0 ∨ (0 ≤ wrong ∧ 5 < wrong) := by omega
      clear hc hw
      go_enter Try.func37, Try.ntmps37
      go_wp2_with fail
      refine (HCk.out _ HL0.out.sig).mono ?_
      rintro e w1 ⟨rfl, hb1⟩
      have HBel := Lib.hid (hb0.out.trans (hb1.mono (by simp)))
      have HL1 := Lib.hid (HL0.out.on hb1)
      have hx1 := HL1.out.x1
      have hx2 := HL1.out.x2
      clear hb1
      rcases hw' with h | ⟨h, h'⟩
      all_goals
        go_wp2_with fail
        go_ret2
        exact ⟨_, by rw [HF.out]; first | done | rfl, by rw [HF.out]; exact World.ownsRow_nil _ _ _ _, HBel.out⟩
    · have hw0 : 0 ≤ wrong := by omega
      have hw5 : wrong ≤ 5 := by omega
      by_cases hpl : (l.length : Int) < deg + 1 + 2 * wrong
      · have HF : Hid (R.onlyE deg l wrong = ([], 13)) := by unfold R.onlyE; rw [if_neg (not_not_intro hc), if_neg hw, if_pos hpl]; trivial
        clear hc hw
        go_enter Try.func37, Try.ntmps37
        go_wp2_with fail
        refine (HCk.out _ HL0.out.sig).mono ?_
        rintro e w1 ⟨rfl, hb1⟩
        have HBel := Lib.hid (hb0.out.trans (hb1.mono (by simp)))
        have HL1 := Lib.hid (HL0.out.on hb1)
        have hx1 := HL1.out.x1
        have hx2 := HL1.out.x2
        clear hb1
        go_wp2_with fail
        go_ret2
        exact ⟨_, by rw [HF.out]; first | done | rfl, by rw [HF.out]; exact World.ownsRow_nil _ _ _ _, HBel.out⟩
      · have HFF : Hid (R.onlyE deg l wrong = R.onlyR deg l (R.onlyHit deg l wrong)) := by unfold R.onlyE; rw [if_neg (not_not_intro hc), if_neg hw, if_neg hpl]; trivial
        clear hc hw
        have hpl' : deg + 1 + 2 * wrong ≤ (l.length : Int) := by omega
        clear hpl
        go_enter Try.func37, Try.ntmps37
        go_wp2_with fail
        refine (HCk.out _ HL0.out.sig).mono ?_
        rintro e w1 ⟨rfl, hb1⟩
        have HBel := Lib.hid (hb0.out.trans (hb1.mono (by simp)))
        have HL1 := Lib.hid (HL0.out.on hb1)
        have hx1 := HL1.out.x1
        have hx2 := HL1.out.x2
        have hsz1 := HBel.out.size
        clear hb1
        go_wp2_with fail
        refine (paths_any a cap deg l _ HV.out HL1.out.sig).mono ?_
        rintro e w2 ⟨v, rfl, hown2, hb2⟩
        obtain ⟨-, a1, cap1, rfl, hI1, hcap1⟩ := Ints.of_ownsRow hown2
        have HB2 := Lib.hid (HBel.out.trans (hb2.mono hsz1))
        have HL2 := Lib.hid (HL1.out.on hb2)
        have HI := Lib.hid hI1
        have HLt := Lib.hid (R.paths_lt (deg := deg) h12 (2 ^ l.length))
        have hpln := R.paths_length (deg := deg) h12
        have hsz2 := HB2.out.size
        clear hx1 hx2 hb2 hown2 hI1 hcap1
        go_wp2_with fail
        go_loopw [8, 9, 10, 11, 12] (fun i _ _ _ _ wi => ∃ k : Nat, k ≤ (R.paths deg l).length ∧ i = .int .i64 k ∧ Hid (R.hitTo (R.paths deg l) (fun b => decide ((l.length : Int) - wrong ≤ R.size b)) k = none) ∧ wi = w2) (fun i _ _ _ _ _ => (R.paths deg l).length - (intOf i).toNat)
        case atStart => exact ⟨0, Nat.zero_le _, rfl, Lib.hid rfl, rfl⟩
        case round =>
          obtain ⟨k, hk, rfl, HNo, rfl⟩ := hrel
          by_cases hlt : k < (R.paths deg l).length
          · obtain ⟨b1, o1, rfl, hc1⟩ := HI.out k (by rw [nats_length]; exact hlt)
            rw [nats_nth _ _ hlt] at hc1
            have HSt := Lib.hid (R.hitTo_succ (R.paths deg l) (fun b => decide ((l.length : Int) - wrong ≤ R.size b)) k)
            rw [HNo.out] at HSt
            have hg : (R.paths deg l).getD k 0 < 4096 := R.getD_lt HLt.out k
            generalize hgk : (R.paths deg l).getD k 0 = g at *
            have HGk := Lib.hid hgk
            clear hgk
            have HG := Lib.hid hg
            have HSz := Lib.hid (R.size_le g)
            by_cases hs : (R.size g : Int) < (l.length : Int) - wrong
            · have HN1 : Hid (R.hitTo (R.paths deg l) (fun b => decide ((l.length : Int) - wrong ≤ R.size b)) (k + 1) = none) := Lib.hid (by rw [HSt.out]; simp; omega)
              go_wp2_with fail
              refine (size_any g _ HG.out).mono ?_
              rintro e w3 ⟨rfl, rfl⟩
              go_wp2_with fail
              go_roundw
              case rel => exact ⟨k + 1, by omega, by go_num, HN1, trivial⟩
              case measure => simp [intOf]; omega
            · have HN1 : Hid (R.onlyHit deg l wrong = some g) := Lib.hid (by
                have : R.hitTo (R.paths deg l) (fun b => decide ((l.length : Int) - wrong ≤ R.size b)) (k + 1) = some g := by rw [HSt.out]; simp; omega
                have := R.hitTo_stays this ((R.paths deg l).length - (k + 1))
                rwa [show k + 1 + ((R.paths deg l).length - (k + 1)) = (R.paths deg l).length by omega] at this)
              have hs' : (l.length : Int) - wrong ≤ (R.size g : Int) := by omega
              clear hs
              go_wp2_with fail
              refine (size_any g _ HG.out).mono ?_
              rintro e w3 ⟨rfl, rfl⟩
              go_wp2_with fail
              clear hc1
              have HC1 := Lib.hid ((HI.out k (by rw [nats_length]; exact hlt)))
              obtain ⟨W3, rfl⟩ : ∃ W3, W3 = wr := ⟨_, rfl⟩
              go_loopw [9, 10] (fun o i wi => ∃ j : Nat, j ≤ l.length ∧ i = .int .i64 j ∧ wi.ownsRow W3.heap.size 57 2 o (R.firstTo deg l g j).length (flat (R.firstTo deg l g j)) ∧ Below W3.heap.size W3 wi) (fun _ i _ => l.length - (intOf i).toNat)
              case atStart => exact ⟨0, Nat.zero_le _, rfl, World.ownsRow_nil _ _ _ _, Below.refl _ _⟩
              case round =>
                obtain ⟨j, hj, rfl, hownj, hbelj⟩ := hrel
                have HL3 := Lib.hid (HL2.out.on hbelj)
                have hx1 := HL3.out.x1
                have hx2 := HL3.out.x2
                have hsj := hbelj.size
                by_cases hltj : j < l.length
                · have hFl := (R.firstTo_pre HV.out g j (by omega)).2
                  have HFS := Lib.hid (R.firstTo_succ deg l g j)
                  have hg : g < 4096 := HG.out
                  obtain ⟨bq, oq, eq1, hcq⟩ := HC1.out
                  cases eq1
                  rw [nats_nth _ _ hlt, HGk.out] at hcq
                  have hcq := cell_on hbelj hcq
                  obtain ⟨ba, offa, rfl, hd1, hd2⟩ := HL3.out.sig j hltj
                  have hcc : ((g : Int) / 2 ^ j) = ((g / 2 ^ j : Nat) : Int) := by simp
                  have hb1 : bits .and .i64 ((g : Int) / 2 ^ j) 1 = ((g / 2 ^ j % 2 : Nat) : Int) := by
                    rw [hcc]; generalize hgg : g / 2 ^ j = q at *; have hgn : q ≤ g := by rw [← hgg]; exact Nat.div_le_self g (2 ^ j)
                    rw [bits_and1 (by omega) (by omega)]; omega
                  have h2 : g / 2 ^ j % 2 < 2 := Nat.mod_lt _ (by decide)
                  clear hcc hg
                  by_cases hbit : g / 2 ^ j % 2 = 1
                  · rw [hbit] at hb1
                    have HBit := Lib.hid hbit
                    clear hbit h2
                    by_cases hlen : ((R.firstTo deg l g j).length : Int) ≤ deg
                    · have HLen := Lib.hid hlen
                      have hn : (R.firstTo deg l g j).length + 1 ≤ 2000000 := by omega
                      obtain ⟨-, a9, cap9, rfl, hI9, hcap9⟩ := Sigs.of_ownsRow hownj
                      clear hI9 hcap9
                      go_wp2_with (at_builtin; refine listApp T31 rfl (.tmp 72) (.tmp 78) rfl W3.heap.size _ _ (flat (R.firstTo deg l g j)) [.int .i64 (dayN l j), .int .i64 (plcN l j)] 1 1 ⟨wr.heap.size, 0, none⟩ rfl (hownj.alloc _) rfl rfl (news_new _ _ _) (by simp [Value.oneCell']) hn (by simp; omega) ?_; intro v2 w5 hown5 hg5 hL5)
                      go_roundw
                      case rel => exact ⟨j + 1, by omega, by go_num, by rw [HFS.out, if_pos ⟨HBit.out, HLen.out⟩, flat_snoc, List.length_append]; exact hown5, (hbelj.alloc hsj _).grown hg5 (by simp; omega) (fun g e => (hownj.lt g e).1)⟩
                      case measure => simp [intOf]; omega
                    · have HLen := Lib.hid hlen
                      obtain ⟨-, a9, cap9, rfl, hI9, hcap9⟩ := Sigs.of_ownsRow hownj
                      clear hI9 hcap9
                      go_wp2_with fail
                      go_roundw
                      case rel => exact ⟨j + 1, by omega, by go_num, by rw [HFS.out, if_neg (fun h => HLen.out h.2)]; exact hownj, hbelj⟩
                      case measure => simp [intOf]; omega
                  · have hb0' : g / 2 ^ j % 2 = 0 := by omega
                    rw [hb0'] at hb1
                    have HBit := Lib.hid hbit
                    clear hbit hb0' h2
                    go_wp2_with fail
                    go_roundw
                    case rel => exact ⟨j + 1, by omega, by go_num, by rw [HFS.out, if_neg (fun h => HBit.out h.1)]; exact hownj, hbelj⟩
                    case measure => simp [intOf]; omega
                · have hjl : j = l.length := by omega
                  subst hjl
                  have HPc := Lib.hid (R.first_piece HV.out g)
                  obtain ⟨-, a3, cap3, rfl, hI3, hcap3⟩ := Sigs.of_ownsRow hownj
                  have HC := Lib.hid (pass_any a3 cap3 _ wr hI3 HPc.out)
                  clear hI3 hcap3 hownj
                  go_wp2_with fail
                  refine HC.out.mono ?_
                  rintro e w4 ⟨v, rfl, hown4, hb4⟩
                  go_wp2_with fail
                  go_ret2
                  exact ⟨_, by rw [HFF.out, HN1.out]; first | done | rfl, by rw [HFF.out, HN1.out]; exact owns_mono hown4 (by omega), HB2.out.trans ((hbelj.trans (hb4.mono hsj)).mono (by omega))⟩
          · have HN1 : Hid (R.onlyHit deg l wrong = none) := Lib.hid (by unfold R.onlyHit; rw [show (R.paths deg l).length = k by omega]; exact HNo.out)
            go_wp2_with fail
            go_ret2
            exact ⟨_, by rw [HFF.out, HN1.out]; first | done | rfl, by rw [HFF.out, HN1.out]; exact World.ownsRow_nil _ _ _ _, HB2.out⟩
  · have HF : Hid (R.onlyE deg l wrong = ([], R.checkLog deg l)) := by unfold R.onlyE; rw [if_pos hc]; trivial
    have hc' : (R.checkLog deg l != 0) = true := by rw [bne_iff_ne]; exact hc
    clear hc
    go_enter Try.func37, Try.ntmps37
    go_wp2_with fail
    refine (HCk.out _ HL0.out.sig).mono ?_
    rintro e w1 ⟨rfl, hb1⟩
    have HL1 := Lib.hid (HL0.out.on hb1)
    have HBel := Lib.hid (hb0.out.trans (hb1.mono (by simp)))
    have hx1 := HL1.out.x1
    have hx2 := HL1.out.x2
    clear hb1
    go_wp2_with fail
    refine (HCk.out _ HL1.out.sig).mono ?_
    rintro e w2 ⟨rfl, hb2⟩
    go_wp2_with fail
    go_ret2
    have := HBel.out.size
    exact ⟨_, by rw [HF.out]; first | done | rfl, by rw [HF.out]; exact World.ownsRow_nil _ _ _ _, HBel.out.trans (hb2.mono this)⟩
end Go.Proofs.Ytkcgkfhfogdihaa
