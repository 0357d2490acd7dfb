/- Walk of same. -/
import Derived.Test.YtkcgkfhfogdihaaMathI
import Derived.Test.YtkcgkfhfogdihaaLawI
namespace Go.Proofs.Ytkcgkfhfogdihaa
open Go.RowKit
theorem count_err (deg : Int) (l : List (Int × Int)) : (R.countE deg l).2 = (R.mostE deg l).2 := by
  unfold R.countE R.mostE
  split
  · rfl
  · split <;> rfl
theorem most_nil {deg : Int} {l : List (Int × Int)} (hv : R.Valid deg l) (h : l.length = 0) : R.mostE deg l = (0, 23) := by
  obtain ⟨d, rfl⟩ := hv.nat
  have : R.most (d : Int) l = 0 := by
    rcases C.most_ex hv with e | ⟨q, hq, e⟩
    · exact e
    · have h1 := ((C.found_iff hv).1 hq).2
      have h2 := C.onL_le l q
      omega
  unfold R.mostE
  rw [if_neg (not_not_intro hv.zero), if_pos this]
theorem least_nil {deg : Int} {l : List (Int × Int)} (hv : R.Valid deg l) (h : l.length = 0) : R.leastE deg l = (0, 0) := by
  unfold R.leastE
  rw [if_neg (not_not_intro hv.zero), if_pos h]
/-- The other log's index. -/
def other (tr : Bool) (n i : Nat) : Nat := if tr = true then n - 1 - i else i
set_option maxRecDepth 100000 in
set_option maxHeartbeats 4000000 in
theorem same_any (deg : Int) (l x : List (Int × Int)) (a : Option Addr) (ca : Nat) (a' : Option Addr) (ca' : Nat) (which : Int) (tr : Bool) (w : World) (ha : Sigs w a l) (hx : Sigs w a' x) (hvl : R.Valid deg l) (hvx : R.Valid deg x) (hlen : x.length = l.length)
    (hm : R.mostE deg l = R.mostE deg x) (hc : R.countE deg l = R.countE deg x) (hls : R.leastE deg l = R.leastE deg x) (hk : ∀ i : Nat, i < l.length → R.kindE deg l (i : Int) = R.kindE deg x ((other tr l.length i : Nat) : Int)) (hu : (Lit.int .u8 which).wf = true) :
    Calls Try.prog 48 #[.agg #[.int .i64 deg, .slice a l.length ca], .agg #[.int .i64 deg, .slice a' x.length ca'], .int .u8 which, .bool tr] w fun e w' => e = .returned (.bool true) ∧ Below w.heap.size w w' := by
  have hb0 := (Below.new w (.cells #[.int .i64 deg, .slice a l.length ca] 33)).alloc (by simp) (.cells #[.int .i64 deg, .slice a' x.length ca'] 33)
  have HL0 := Lib.hid ((Logged.new ha deg ca 33).on (Below.new _ (.cells #[.int .i64 deg, .slice a' x.length ca'] 33)))
  have HX0 : Hid (Logged ((w.alloc (.cells #[.int .i64 deg, .slice a l.length ca] 33)).alloc (.cells #[.int .i64 deg, .slice a' x.length ca'] 33)) (w.heap.size + 1) deg a' ca' x) := Lib.hid (by
    have := Logged.new (hx.alloc (.cells #[.int .i64 deg, .slice a l.length ca] 33)) deg ca' 33
    rw [World.size_alloc] at this
    exact this)
  have HB0 := Lib.hid hb0
  have HK := Lib.hid hk
  have hl12 := hvl.len
  have hl2 : l.length ≤ 1000000 := by omega
  have hx2 : x.length ≤ 1000000 := by omega
  have HVL := Lib.hid hvl
  have HLen := Lib.hid hlen
  have hub := u8_bd hu
  have HCm := Lib.hid (fun W h => cMost_any a ca deg l W hl2 h)
  have HCmx := fun W h => cMost_any a' ca' deg x W hx2 h
  rw [← hm] at HCmx
  have HCmx := Lib.hid HCmx
  have HCc := fun W h => cCount_any a ca deg l W hl2 h
  rw [count_err] at HCc
  have HCc := Lib.hid HCc
  have HCcx := fun W h => cCount_any a' ca' deg x W hx2 h
  rw [← hc, count_err] at HCcx
  have HCcx := Lib.hid HCcx
  have HCl := Lib.hid (fun W h => cLeast_any a ca deg l W hl2 h)
  have HClx := fun W h => cLeast_any a' ca' deg x W hx2 h
  rw [← hls] at HClx
  have HClx := Lib.hid HClx
  clear ha hx hb0 hk hvx hlen hm hc hls hu hvl
  go_enter Try.func48, Try.ntmps48
  go_wp2_with fail
  generalize (w.alloc (.cells #[.int .i64 deg, .slice a l.length ca] 33)).alloc (.cells #[.int .i64 deg, .slice a' x.length ca'] 33) = w0 at *
  refine (HCm.out w0 HL0.out.sig).mono ?_
  rintro e w1 ⟨rfl, hb⟩
  have HB1 := Lib.hid (HB0.out.trans (hb.mono HB0.out.size))
  have HL1 := Lib.hid (HL0.out.on hb)
  have HX1 := Lib.hid (HX0.out.on hb)
  clear hb
  have x1 := HL1.out.x1
  have x2 := HL1.out.x2
  have y1 := HX1.out.x1
  have y2 := HX1.out.x2
  go_wp2_with fail
  refine (HCmx.out w1 HX1.out.sig).mono ?_
  rintro e w2 ⟨rfl, hb⟩
  have HB2 := Lib.hid (HB1.out.trans (hb.mono HB1.out.size))
  have HL2 := Lib.hid (HL1.out.on hb)
  have HX2 := Lib.hid (HX1.out.on hb)
  clear hb x1 x2 y1 y2
  have x1 := HL2.out.x1
  have x2 := HL2.out.x2
  have y1 := HX2.out.x1
  have y2 := HX2.out.x2
  go_wp2_with fail
  refine (HCc.out w2 HL2.out.sig).mono ?_
  rintro e w3 ⟨rfl, hb⟩
  have HB3 := Lib.hid (HB2.out.trans (hb.mono HB2.out.size))
  have HL3 := Lib.hid (HL2.out.on hb)
  have HX3 := Lib.hid (HX2.out.on hb)
  clear hb x1 x2 y1 y2
  have x1 := HL3.out.x1
  have x2 := HL3.out.x2
  have y1 := HX3.out.x1
  have y2 := HX3.out.x2
  go_wp2_with fail
  refine (HCcx.out w3 HX3.out.sig).mono ?_
  rintro e w4 ⟨rfl, hb⟩
  have HB4 := Lib.hid (HB3.out.trans (hb.mono HB3.out.size))
  have HL4 := Lib.hid (HL3.out.on hb)
  have HX4 := Lib.hid (HX3.out.on hb)
  clear hb x1 x2 y1 y2
  have x1 := HL4.out.x1
  have x2 := HL4.out.x2
  have y1 := HX4.out.x1
  have y2 := HX4.out.x2
  go_wp2_with fail
  refine (HCl.out w4 HL4.out.sig).mono ?_
  rintro e w5 ⟨rfl, hb⟩
  have HB5 := Lib.hid (HB4.out.trans (hb.mono HB4.out.size))
  have HL5 := Lib.hid (HL4.out.on hb)
  have HX5 := Lib.hid (HX4.out.on hb)
  clear hb x1 x2 y1 y2
  have x1 := HL5.out.x1
  have x2 := HL5.out.x2
  have y1 := HX5.out.x1
  have y2 := HX5.out.x2
  go_wp2_with fail
  refine (HClx.out w5 HX5.out.sig).mono ?_
  rintro e w6 ⟨rfl, hb⟩
  have HB6 := Lib.hid (HB5.out.trans (hb.mono HB5.out.size))
  have HL6 := Lib.hid (HL5.out.on hb)
  have HX6 := Lib.hid (HX5.out.on hb)
  clear hb x1 x2 y1 y2
  have x1 := HL6.out.x1
  have x2 := HL6.out.x2
  have y1 := HX6.out.x1
  have y2 := HX6.out.x2
  by_cases hz : l.length = 0
  · have hzI : ((l.length : Int) == 0) = true := by rw [hz]; rfl
    have e1 := most_nil HVL.out hz
    have e2 := least_nil HVL.out hz
    rw [e1, e2]
    clear hz e1 e2
    go_wp2_with fail
    go_ret
    exact ⟨rfl, HB6.out⟩
  · have hzI : ((l.length : Int) == 0) = false := by simp; intro e; exact hz (by rw [e]; rfl)
    obtain ⟨j, hj, hj'⟩ := rem_nat hub.1 l.length (by omega)
    have k1 : IntKind.i64.wrap which = which := IntWalk.i64_in _ (by omega)
    have k2 : IntKind.i64.wrap (j : Int) = (j : Int) := IntWalk.i64_in _ (by omega)
    have k3 : IntKind.i64.wrap ((l.length : Int) - 1) = (l.length : Int) - 1 := IntWalk.i64_in _ (by omega)
    have hzz : ¬ ((l.length : Int) = 0) := by omega
    have HCk := Lib.hid (fun W h => cKind_any a ca deg l (j : Int) W hl2 h)
    have hkj := HK.out j hj
    cases tr with
    | false =>
      have HCkx := fun W h => cKind_any a' ca' deg x (j : Int) W hx2 h
      have hkj' : R.kindE deg l (j : Int) = R.kindE deg x (j : Int) := hkj
      rw [← hkj'] at HCkx
      have HCkx := Lib.hid HCkx
      clear hkj hkj' hub
      go_wp2_with fail
      refine (HCk.out w6 HL6.out.sig).mono ?_
      rintro e w7 ⟨rfl, hb⟩
      have HB7 := Lib.hid (HB6.out.trans (hb.mono HB6.out.size))
      have HL7 := Lib.hid (HL6.out.on hb)
      have HX7 := Lib.hid (HX6.out.on hb)
      clear hb x1 x2 y1 y2
      have x1 := HL7.out.x1
      have x2 := HL7.out.x2
      have y1 := HX7.out.x1
      have y2 := HX7.out.x2
      go_wp2_with fail
      refine (HCkx.out w7 HX7.out.sig).mono ?_
      rintro e w8 ⟨rfl, hb⟩
      go_wp2_with fail
      go_ret
      exact ⟨rfl, HB7.out.trans (hb.mono HB7.out.size)⟩
    | true =>
      have hkj' : R.kindE deg l (j : Int) = R.kindE deg x ((l.length : Int) - 1 - (j : Int)) := by
        rw [hkj]; congr 1; unfold other; rw [if_pos rfl]; omega
      have HCkx := fun W h => cKind_any a' ca' deg x ((l.length : Int) - 1 - (j : Int)) W hx2 h
      rw [← hkj'] at HCkx
      have HCkx := Lib.hid HCkx
      have k4 : IntKind.i64.wrap ((l.length : Int) - 1 - (j : Int)) = (l.length : Int) - 1 - (j : Int) := IntWalk.i64_in _ (by omega)
      clear hkj hkj' hub
      go_wp2_with fail
      refine (HCk.out w6 HL6.out.sig).mono ?_
      rintro e w7 ⟨rfl, hb⟩
      have HB7 := Lib.hid (HB6.out.trans (hb.mono HB6.out.size))
      have HL7 := Lib.hid (HL6.out.on hb)
      have HX7 := Lib.hid (HX6.out.on hb)
      clear hb x1 x2 y1 y2
      have x1 := HL7.out.x1
      have x2 := HL7.out.x2
      have y1 := HX7.out.x1
      have y2 := HX7.out.x2
      go_wp2_with fail
      refine (HCkx.out w7 HX7.out.sig).mono ?_
      rintro e w8 ⟨rfl, hb⟩
      go_wp2_with fail
      go_ret
      exact ⟨rfl, HB7.out.trans (hb.mono HB7.out.size)⟩
end Go.Proofs.Ytkcgkfhfogdihaa
