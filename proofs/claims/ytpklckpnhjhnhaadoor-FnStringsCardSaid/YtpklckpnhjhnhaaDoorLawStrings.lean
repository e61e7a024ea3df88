/- The law of strings: tensions grow with pitch and mass; highest pitches and least gauges are just enough. The condition is the row's own: the listed variables read as the program's text lays them. -/
import Derived.Test.YtpklckpnhjhnhaaDoorRows
import Derived.Test.YtpklckpnhjhnhaaDoorCards
import Derived.Test.YtpklckpnhjhnhaaDoorTie
import Derived.Test.YtpklckpnhjhnhaaDoorStrM
import Derived.Test.YtpklckpnhjhnhaaDoorR8
import Derived.Test.YtpklckpnhjhnhaaDoorHanded
import Derived.OpenShut
import Derived.ChangeOld
import Derived.Lib.SmallJoins
import Derived.Lib.LaidTab
import Derived.Stop.LaidErr
import Derived.Stop.Joined
import Derived.ProofKit
import Derived.LaidMore
import Derived.Lay
import Derived.SevenTiedAt
namespace Go.Proofs.YtpklckpnhjhnhaaDoor.lawStrings
open Go.ChangeShapes Go.WideShapes Go.ChangeAt Go.RowKit
set_option linter.unusedVariables false

theorem bytes_wf {z : List Int} (h : ∀ n ∈ z, (Lit.int .u8 n).wf = true) : Bytes z := fun j hj => by
  have := h (nth z j) (by rw [show nth z j = z[j] by simp [nth, hj]]; exact List.getElem_mem hj)
  simp only [Lit.wf, IntKind.min, IntKind.max, IntKind.signed, IntKind.bits, Bool.and_eq_true] at this
  simp at this
  omega
theorem Box4.set0 {c : Nat} {w : World} {v0 v1 v2 v3 : Value} (h : Box4 w c v0 v1 v2 v3) (u : Value) : Box4 (w.setCell ⟨c, 0, none⟩ u) c u v1 v2 v3 :=
  ⟨h.1.set0 u, by simpa using h.2.1, by simpa using h.2.2.1, by simpa using h.2.2.2.1, by simpa using h.2.2.2.2⟩
theorem Box4.other {c : Nat} {w : World} {v0 v1 v2 v3 : Value} (h : Box4 w c v0 v1 v2 v3) {p : Addr} (hp : c ≠ p.block) (u : Value) : Box4 (w.setCell p u) c v0 v1 v2 v3 := h.keep (Below.heap_setCell _ _ _ _ hp)
/-- Four numbers in a block. -/
def BoxI (w : World) (b : Nat) (p q r s : Int) : Prop := Box4 w b (.int .i64 p) (.int .i64 q) (.int .i64 r) (.int .i64 s)
/-- The law's three strings. -/
def Three (w : World) (b c d : Nat) (p q r s p' r' : Int) : Prop := BoxI w b p q r s ∧ BoxI w c p' q r s ∧ BoxI w d p q r' s
theorem Three.below {w w' : World} {b c d : Nat} {p q r s p' r' : Int} (h : Three w b c d p q r s p' r') (hb : Below w.heap.size w w') : Three w' b c d p q r s p' r' := ⟨Box4.below h.1 hb, Box4.below h.2.1 hb, Box4.below h.2.2 hb⟩
theorem Three.drewN {w : World} {b c d : Nat} {p q r s p' r' : Int} (h : Three w b c d p q r s p' r') (n : Nat) : Three (w.drewN n) b c d p q r s p' r' := ⟨Box4.drewN h.1 n, Box4.drewN h.2.1 n, Box4.drewN h.2.2 n⟩
theorem Three.setY {w : World} {b c d : Nat} {p q r s p' r' : Int} (h : Three w b c d p q r s p' r') (n : Int) (h1 : b ≠ c) (h2 : d ≠ c) : Three (w.setCell ⟨c, 0, none⟩ (.int .i64 n)) b c d p q r s n r' :=
  ⟨Box4.other h.1 (p := ⟨c, 0, none⟩) h1 _, Box4.set0 h.2.1 _, Box4.other h.2.2 (p := ⟨c, 0, none⟩) h2 _⟩
theorem Three.setZ {w : World} {b c d : Nat} {p q r s p' r' : Int} (h : Three w b c d p q r s p' r') (n : Int) (h1 : b ≠ d) (h2 : c ≠ d) : Three (w.setCell ⟨d, 2, none⟩ (.int .i64 n)) b c d p q r s p' n :=
  ⟨Box4.other h.1 (p := ⟨d, 2, none⟩) h1 _, Box4.other h.2.1 (p := ⟨d, 2, none⟩) h2 _, Box4.set2 h.2.2 _⟩
theorem tension_ok {p q r s : Int} (h : cordB p q r s = true) : shTensionOf.fF p q r s = (tenF p q r, 0) := by simp only [shTensionOf.fF, h, if_true]
theorem stop_ok {p q r s pt : Int} (h : cordB p q r s = true) (hp : p ≤ pt ∧ pt ≤ 10000) : shStopPlace.fF p q r s pt = (rdiv (10 * q * (pt - p)) pt, 0) := by
  have e : inB pt p 10000 = true := decide_eq_true hp
  simp only [shStopPlace.fF, h, e, if_true]
theorem stop_ok0 {p q r s : Int} (h : cordB p q r s = true) (hp : 1 ≤ p ∧ p ≤ 10000) : shStopPlace.fF p q r s p = (0, 0) := by
  rw [stop_ok h ⟨by omega, by omega⟩, stop_same (by omega)]
theorem tension_no {p q r s : Int} (h : cordB p q r s = false) : shTensionOf.fF p q r s = (0, 1) := by unfold shTensionOf.fF; rw [if_neg (by rw [h]; decide)]

set_option maxRecDepth 100000 in
set_option maxHeartbeats 4000000 in
theorem walk (a0 : Option Addr) (cap0 : Nat) (z0 : List Int) (a1 : Option Addr) (cap1 : Nat) (z1 : List Int) (w : World) (h0 : Nums .u8 w a0 z0) (m0 : z0.length ≤ maxLen) (f0 : ∀ n ∈ z0, (Lit.int .u8 n).wf = true) (h1 : Nums .u8 w a1 z1) (m1 : z1.length ≤ maxLen) (f1 : ∀ n ∈ z1, (Lit.int .u8 n).wf = true) (D : Door w) :
    Calls Tryd.prog 3 #[.slice a0 z0.length cap0, .slice a1 z1.length cap1] w fun e w' => e = .returned (.bool true) ∧ Below w.heap.size w w' := by
  have HD := Lib.hid D
  have HB0 := Lib.hid (bytes_wf f0)
  have HB1 := Lib.hid (bytes_wf f1)
  have HN0 := Lib.hid h0
  have HN1 := Lib.hid h1
  have HLN := Lib.hid (r8Long_c a0 a1 cap0 cap1 z0 z1 w m0 m1)
  clear D f0 f1 h0 h1 m0 m1
  by_cases hlong : 1048576 < z0.length ∨ 1048576 < z1.length
  · rw [decide_eq_true hlong] at HLN
    clear hlong
    go_enter Tryd.func3, Tryd.ntmps3
    go_wp2_with (go_at_call 7; refine call_same HLN.out ?_)
    go_ret
    exact ⟨rfl, Below.refl _ _⟩
  rw [decide_eq_false hlong] at HLN
  have HZ0 := Lib.hid (show z0.length ≤ 1048576 by omega)
  have HZ1 := Lib.hid (show z1.length ≤ 1048576 by omega)
  clear hlong
  go_enter Tryd.func3, Tryd.ntmps3
  go_wp2_with fail
  refine call_same HLN.out ?_
  go_wp2_with fail
  refine (r8String_c a0 cap0 z0 w HN0.out HB0.out HZ0.out).mono ?_
  rintro e w1 ⟨p, q, r, s, rfl, hd, hb1⟩
  have hok := hd.ok
  obtain ⟨hp, hq, hr, hs⟩ := hd
  have HOK := Lib.hid hok
  have HT := Lib.hid (tension_ok hok)
  have HTY := Lib.hid (tension_ok (cordB_of (p := p + 1) (q := q) (r := r) (s := s) (by omega) (by omega) (by omega) (by omega)))
  have HTZ := Lib.hid (tension_ok (cordB_of (p := p) (q := q) (r := r + 1) (s := s) (by omega) (by omega) (by omega) (by omega)))
  have ht : 1 ≤ tenF p q r := ten_pos ⟨hp, hq, hr, hs⟩
  have hty : tenF p q r ≤ tenF (p + 1) q r := shHighestPitch.tenF_mono (by omega) (by omega) (by omega) (by omega)
  have htz : tenF p q r ≤ tenF p q (r + 1) := ten_gauge (by omega) (by omega) (by omega)
  have hbt := (tenF_bd (CordIn.of hok)).2
  have HSF := Lib.hid (show shSafetyOf.fF p q r s = (1000 * s / tenF p q r, 0) by
    unfold shSafetyOf.fF
    rw [if_pos hok, if_neg (by omega)])
  have HTX := Lib.hid (read_back hok)
  have HTL := Lib.hid (text_len hok)
  have HA1 := Lib.hid hb1
  have hz1 := hb1.size
  have HX1 := Lib.hid (Box4.new w1 (.int .i64 p) (.int .i64 q) (.int .i64 r) (.int .i64 s) 25)
  have HAA1 := Lib.hid (hb1.alloc hz1 (.cells #[.int .i64 p, .int .i64 q, .int .i64 r, .int .i64 s] 25))
  clear hok hb1
  go_wp2_with fail
  refine call_below (shTensionOf.i_c p q r s _) ?_
  intro w2 hb2
  rw [HT.out]
  have HX2 := Lib.hid (HX1.out.below hb2)
  have HA2 := Lib.hid (below_next HAA1.out hb2)
  have HD2 := Lib.hid (HD.out.below HA2.out)
  clear hb2 HX1 HAA1
  obtain ⟨⟨c0, c1, c2, c3⟩, -⟩ := HX2.out
  go_wp2_with fail
  refine call_below (stringText_c p q r s w2 HD2.out.tab) ?_
  intro w3 hb3
  have HX3 := Lib.hid (HX2.out.below hb3)
  have HA3 := Lib.hid (below_next HA2.out hb3)
  have HD3 := Lib.hid (HD.out.below HA3.out)
  have HRD := Lib.hid (readString_c (quadT (cordB p q r s) p q r s) HTL.out w3 HD3.out)
  rw [HTX.out] at HRD
  generalize quadT (cordB p q r s) p q r s = txt at HRD ⊢
  clear hb3 HX2 HA2 HD2 c0 c1 c2 c3 HTX HTL
  go_wp2_with fail
  refine call_below HRD.out ?_
  intro w4 hb4
  have HX4 := Lib.hid (HX3.out.below hb4)
  have HA4 := Lib.hid (below_next HA3.out hb4)
  clear hb4 HX3 HA3 HD3 HRD
  obtain ⟨⟨c0, c1, c2, c3⟩, -⟩ := HX4.out
  unfold quadV
  have hlt4 : w1.heap.size < w4.heap.size := HX4.out.lt
  go_wp2_with fail
  have e1 : (w4.alloc (.cells #[.int .i64 p, .int .i64 q, .int .i64 r, .int .i64 s] 25)).heap.size = w4.heap.size + 1 := by simp
  have e2 : ((w4.alloc (.cells #[.int .i64 p, .int .i64 q, .int .i64 r, .int .i64 s] 25)).alloc (.cells #[.int .i64 (p + 1), .int .i64 q, .int .i64 r, .int .i64 s] 25)).heap.size = w4.heap.size + 1 + 1 := by simp
  have hC := (Box4.new (w4.alloc (.cells #[.int .i64 p, .int .i64 q, .int .i64 r, .int .i64 s] 25)) (.int .i64 (p + 1)) (.int .i64 q) (.int .i64 r) (.int .i64 s) 25).alloc (.cells #[.int .i64 p, .int .i64 q, .int .i64 (r + 1), .int .i64 s] 25)
  have hE := Box4.new ((w4.alloc (.cells #[.int .i64 p, .int .i64 q, .int .i64 r, .int .i64 s] 25)).alloc (.cells #[.int .i64 (p + 1), .int .i64 q, .int .i64 r, .int .i64 s] 25)) (.int .i64 p) (.int .i64 q) (.int .i64 (r + 1)) (.int .i64 s) 25
  have h8 := ((Box4.new w4 (.int .i64 p) (.int .i64 q) (.int .i64 r) (.int .i64 s) 25).alloc (.cells #[.int .i64 (p + 1), .int .i64 q, .int .i64 r, .int .i64 s] 25)).alloc (.cells #[.int .i64 p, .int .i64 q, .int .i64 (r + 1), .int .i64 s] 25)
  rw [e1] at hC
  rw [e2] at hE
  have H85 := Lib.hid h8
  have HTH5 := Lib.hid (show Three (((w4.alloc (.cells #[.int .i64 p, .int .i64 q, .int .i64 r, .int .i64 s] 25)).alloc (.cells #[.int .i64 (p + 1), .int .i64 q, .int .i64 r, .int .i64 s] 25)).alloc (.cells #[.int .i64 p, .int .i64 q, .int .i64 (r + 1), .int .i64 s] 25)) w1.heap.size (w4.heap.size + 1) (w4.heap.size + 1 + 1) p q r s (p + 1) (r + 1) from ⟨((HX4.out.alloc _).alloc _).alloc _, hC, hE⟩)
  have hsz4 := HA4.out.size
  have HA5 := Lib.hid (((HA4.out.alloc hsz4 (.cells #[.int .i64 p, .int .i64 q, .int .i64 r, .int .i64 s] 25)).alloc (by rw [e1]; omega) (.cells #[.int .i64 (p + 1), .int .i64 q, .int .i64 r, .int .i64 s] 25)).alloc (by rw [e2]; omega) (.cells #[.int .i64 p, .int .i64 q, .int .i64 (r + 1), .int .i64 s] 25))
  clear h8 hC hE e1 e2 HA4 HX4 HA1 c0 c1 c2 c3 hsz4
  generalize (((w4.alloc (.cells #[.int .i64 p, .int .i64 q, .int .i64 r, .int .i64 s] 25)).alloc (.cells #[.int .i64 (p + 1), .int .i64 q, .int .i64 r, .int .i64 s] 25)).alloc (.cells #[.int .i64 p, .int .i64 q, .int .i64 (r + 1), .int .i64 s] 25)) = w5 at H85 HTH5 HA5 ⊢
  have hne1 : w1.heap.size ≠ w4.heap.size + 1 := by omega
  have hne2 : w1.heap.size ≠ w4.heap.size + 1 + 1 := by omega
  have hne3 : w4.heap.size + 1 ≠ w4.heap.size + 1 + 1 := by omega
  have hge1 : w.heap.size ≤ w4.heap.size + 1 := by omega
  have hge2 : w.heap.size ≤ w4.heap.size + 1 + 1 := by omega
  generalize w4.heap.size + 1 + 1 = bz at *
  generalize w4.heap.size + 1 = by_ at *
  generalize w4.heap.size = b8 at *
  generalize w1.heap.size = bx at *
  refine call_below (shTensionOf.i_c (p + 1) q r s _) ?_
  intro w6 hb6
  rw [HTY.out]
  have HTH6 := Lib.hid (HTH5.out.below hb6)
  have HA6 := Lib.hid (below_next HA5.out hb6)
  have H86 := Lib.hid (Box4.below H85.out hb6)
  clear hb6 HTH5 HA5 H85
  obtain ⟨⟨⟨x0, x1, x2, x3⟩, -⟩, ⟨⟨y0, y1, y2, y3⟩, fy0, fy1, fy2, fy3⟩, ⟨⟨u0, u1, u2, u3⟩, fu0, fu1, fu2, fu3⟩⟩ := HTH6.out
  go_wp2_with fail
  refine call_below (shTensionOf.i_c p q (r + 1) s _) ?_
  intro w7 hb7
  rw [HTZ.out]
  have HTH7 := Lib.hid (HTH6.out.below hb7)
  have HA7 := Lib.hid (below_next HA6.out hb7)
  have H87 := Lib.hid (Box4.below H86.out hb7)
  clear hb7 HTH6 HA6 H86
  clear x0 x1 x2 x3 y0 y1 y2 y3 fy0 fy1 fy2 fy3 u0 u1 u2 u3 fu0 fu1 fu2 fu3
  obtain ⟨⟨⟨x0, x1, x2, x3⟩, -⟩, ⟨⟨y0, y1, y2, y3⟩, fy0, fy1, fy2, fy3⟩, ⟨⟨u0, u1, u2, u3⟩, fu0, fu1, fu2, fu3⟩⟩ := HTH7.out
  go_wp2_with fail
  refine call_below (shSafetyOf.i_c p q r s _) ?_
  intro w8 hb8
  rw [HSF.out]
  have HTH8 := Lib.hid (HTH7.out.below hb8)
  have HA8 := Lib.hid (below_next HA7.out hb8)
  have H88 := Lib.hid (Box4.below H87.out hb8)
  clear hb8 HTH7 HA7 H87
  clear x0 x1 x2 x3 y0 y1 y2 y3 fy0 fy1 fy2 fy3 u0 u1 u2 u3 fu0 fu1 fu2 fu3
  generalize tenF p q r = T at *
  generalize tenF (p + 1) q r = U at *
  generalize tenF p q (r + 1) = V at *
  have d1 : decide (T < 1) = false := decide_eq_false (by omega)
  have d2 : decide (U < T) = false := decide_eq_false (by omega)
  have d3 : decide (V < T) = false := decide_eq_false (by omega)
  obtain ⟨⟨⟨x0, x1, x2, x3⟩, -⟩, ⟨⟨y0, y1, y2, y3⟩, fy0, fy1, fy2, fy3⟩, ⟨⟨u0, u1, u2, u3⟩, fu0, fu1, fu2, fu3⟩⟩ := HTH8.out
  obtain ⟨⟨e0, e1, e2, e3⟩, -⟩ := H88.out
  go_wp2_with fail
  refine call_below (validString_c p q r s _) ?_
  intro w9 hb9
  rw [HOK.out]
  have HTH9 := Lib.hid (HTH8.out.below hb9)
  have HA9 := Lib.hid (below_next HA8.out hb9)
  clear hb9 HTH8 HA8
  clear x0 x1 x2 x3 y0 y1 y2 y3 fy0 fy1 fy2 fy3 u0 u1 u2 u3 fu0 fu1 fu2 fu3 e0 e1 e2 e3
  clear H88
  go_wp2_with fail
  refine (r8At_c a1 cap1 z1 0 10 _ (HN1.out.below HA9.out) HB1.out HZ1.out (by omega) (by omega) (by omega) (by omega)).mono ?_
  rintro e wq ⟨xa, rfl, hxa, rfl⟩
  obtain ⟨⟨⟨x0, x1, x2, x3⟩, -⟩, ⟨⟨y0, y1, y2, y3⟩, fy0, fy1, fy2, fy3⟩, ⟨⟨u0, u1, u2, u3⟩, fu0, fu1, fu2, fu3⟩⟩ := HTH9.out
  go_wp2_with fail
  generalize hm : 100 * (1 + xa) = m at *
  have hmB : inB m 0 1000 = true := decide_eq_true ⟨by omega, by omega⟩
  have hms := mul_bd (a := m) (A := 1000) (b := s) (B := 500000) (by omega) (by omega) (by omega) (by omega)
  have i2 := IntWalk.i64_in (m * s) (by omega)
  rcases high_cases HOK.out hmB with h | ⟨y, h, hy, hh, hn⟩
  · have HH := Lib.hid h
    clear h hmB
    refine call_below (shHighestPitch.i_c p q r s m _) ?_
    intro w10 hb10
    rw [HH.out]
    have HTH10 := Lib.hid (HTH9.out.below hb10)
    have HA10 := Lib.hid (below_next HA9.out hb10)
    clear hb10 HTH9 HA9
    clear x0 x1 x2 x3 y0 y1 y2 y3 fy0 fy1 fy2 fy3 u0 u1 u2 u3 fu0 fu1 fu2 fu3
    go_wp2_with fail
    refine (r8At_c a1 cap1 z1 1 120 _ (HN1.out.below HA10.out) HB1.out HZ1.out (by omega) (by omega) (by omega) (by omega)).mono ?_
    rintro e wq ⟨xb, rfl, hxb, rfl⟩
    obtain ⟨⟨⟨x0, x1, x2, x3⟩, -⟩, ⟨⟨y0, y1, y2, y3⟩, fy0, fy1, fy2, fy3⟩, ⟨⟨u0, u1, u2, u3⟩, fu0, fu1, fu2, fu3⟩⟩ := HTH10.out
    go_wp2_with fail
    generalize hfo : 1000 * xb = fo at *
    have hfB : inB fo 0 500000 = true := decide_eq_true ⟨by omega, by omega⟩
    rcases least_cases HOK.out hfB with h | ⟨g, h, hg, hh, hn⟩
    · have HH := Lib.hid h
      clear h hfB
      refine call_below (shLeastGauge.i_c p q r s fo _) ?_
      intro w11 hb11
      rw [HH.out]
      have HTH11 := Lib.hid (HTH10.out.below hb11)
      have HA11 := Lib.hid (below_next HA10.out hb11)
      clear hb11 HTH10 HA10
      clear x0 x1 x2 x3 y0 y1 y2 y3 fy0 fy1 fy2 fy3 u0 u1 u2 u3 fu0 fu1 fu2 fu3
      go_wp2_with fail
      have hxc := wideF_bd (z := z1) (k := 2) (n := 3000) (by omega)
      have HWD := Lib.hid (fun n => r8Wide_f a1 cap1 z1 2 3000 (w11.drewN n) (HN1.out.below (below_drewN HA11.out n)) HB1.out HZ1.out (by omega) (by omega) (by omega) (by omega))
      generalize wideF z1 2 3000 = xc at hxc HWD
      obtain ⟨⟨⟨x0, x1, x2, x3⟩, -⟩, ⟨⟨y0, y1, y2, y3⟩, fy0, fy1, fy2, fy3⟩, ⟨⟨u0, u1, u2, u3⟩, fu0, fu1, fu2, fu3⟩⟩ := HTH11.out
      go_quiet ((go_at_call 18; exact quiet_at (HWD.out _)))
      have HTS := Lib.hid (HTH11.out.drewN nq)
      have HAS := Lib.hid (below_drewN HA11.out nq)
      clear HTH11 HA11 HWD
      generalize w11.drewN nq = w12 at HTS HAS ⊢
      clear x0 x1 x2 x3 y0 y1 y2 y3 fy0 fy1 fy2 fy3 u0 u1 u2 u3 fu0 fu1 fu2 fu3
      have HTH12 := HTS
      have HA12 := HAS
      clear HTS HAS
      obtain ⟨⟨⟨x0, x1, x2, x3⟩, -⟩, ⟨⟨y0, y1, y2, y3⟩, fy0, fy1, fy2, fy3⟩, ⟨⟨u0, u1, u2, u3⟩, fu0, fu1, fu2, fu3⟩⟩ := HTH12.out
      go_wp2_with fail
      generalize hpt : p + xc = pt at *
      have HP := Lib.hid (stop_ok (pt := pt) HOK.out ⟨by omega, by omega⟩)
      have HP0 := Lib.hid (stop_ok0 HOK.out ⟨by omega, by omega⟩)
      have hsb := stop_bd (q := q) (p := p) (m := pt) (by omega) (by omega) (by omega) (by omega)
      have HSN := Lib.hid (stop_near (n := 10 * q * (pt - p)) (b := pt) (Int.mul_nonneg (by omega) (by omega)) (by omega))
      have b3 := mul_bd (a := 10 * q) (A := 5000) (b := pt - p) (B := 10000) (by omega) (by omega) (by omega) (by omega)
      refine call_below (shStopPlace.i_c p q r s pt _) ?_
      intro w13 hb13
      rw [HP.out]
      have HTH13 := Lib.hid (HTH12.out.below hb13)
      have HA13 := Lib.hid (below_next HA12.out hb13)
      clear hb13 HTH12 HA12
      clear x0 x1 x2 x3 y0 y1 y2 y3 fy0 fy1 fy2 fy3 u0 u1 u2 u3 fu0 fu1 fu2 fu3
      generalize rdiv (10 * q * (pt - p)) pt = at_ at *
      have b4 := mul_bd (a := at_) (A := 5000) (b := pt) (B := 10000) (by omega) (by omega) (by omega) (by omega)
      have j1 := IntWalk.i64_in (10 * q * (pt - p)) (by omega)
      have j2 := IntWalk.i64_in (at_ * pt) (by omega)
      have j3 := IntWalk.i64_in (at_ * pt - 10 * q * (pt - p)) (by omega)
      have HN := Lib.hid (show -4611686018427387904 ≤ at_ * pt - 10 * q * (pt - p) ∧ at_ * pt - 10 * q * (pt - p) ≤ 4611686018427387904 by omega)
      have hmb : 0 ≤ max (at_ * pt - 10 * q * (pt - p)) (-(at_ * pt - 10 * q * (pt - p))) ∧ max (at_ * pt - 10 * q * (pt - p)) (-(at_ * pt - 10 * q * (pt - p))) ≤ 100000000 := by omega
      obtain ⟨⟨⟨x0, x1, x2, x3⟩, -⟩, ⟨⟨y0, y1, y2, y3⟩, fy0, fy1, fy2, fy3⟩, ⟨⟨u0, u1, u2, u3⟩, fu0, fu1, fu2, fu3⟩⟩ := HTH13.out
      go_wp2_with fail
      refine call_below (shStopPlace.i_c p q r s p _) ?_
      intro w14 hb14
      rw [HP0.out]
      have HTH14 := Lib.hid (HTH13.out.below hb14)
      have HA14 := Lib.hid (below_next HA13.out hb14)
      clear hb14 HTH13 HA13
      clear x0 x1 x2 x3 y0 y1 y2 y3 fy0 fy1 fy2 fy3 u0 u1 u2 u3 fu0 fu1 fu2 fu3
      obtain ⟨⟨⟨x0, x1, x2, x3⟩, -⟩, ⟨⟨y0, y1, y2, y3⟩, fy0, fy1, fy2, fy3⟩, ⟨⟨u0, u1, u2, u3⟩, fu0, fu1, fu2, fu3⟩⟩ := HTH14.out
      go_wp2_with fail
      refine call_same (r8Abs_c _ _ HN.out.1 HN.out.2) ?_
      have hsn := HSN.out
      generalize max (at_ * pt - 10 * q * (pt - p)) (-(at_ * pt - 10 * q * (pt - p))) = ab at *
      have d9 : decide (2 * ab ≤ pt) = true := decide_eq_true hsn
      go_wp2
      go_ret
      exact ⟨rfl, HA14.out⟩
    · have HH := Lib.hid h
      clear h hfB
      have HT1 := Lib.hid (tension_ok (cordB_of (p := p) (q := q) (r := g) (s := s) (by omega) (by omega) (by omega) (by omega)))
      have hb1 := tenF_bd (p := p) (l := q) (g := g) ⟨by omega, by omega, by omega⟩
      refine call_below (shLeastGauge.i_c p q r s fo _) ?_
      intro w11 hb11
      rw [HH.out]
      have HTH11 := Lib.hid (HTH10.out.below hb11)
      have HA11 := Lib.hid (below_next HA10.out hb11)
      clear hb11 HTH10 HA10
      clear x0 x1 x2 x3 y0 y1 y2 y3 fy0 fy1 fy2 fy3 u0 u1 u2 u3 fu0 fu1 fu2 fu3
      obtain ⟨⟨⟨x0, x1, x2, x3⟩, -⟩, ⟨⟨y0, y1, y2, y3⟩, fy0, fy1, fy2, fy3⟩, ⟨⟨u0, u1, u2, u3⟩, fu0, fu1, fu2, fu3⟩⟩ := HTH11.out
      have HTS := Lib.hid (HTH11.out.setZ g hne2 hne3)
      have HAS := Lib.hid (HA11.out.setCell (p := ⟨bz, 2, none⟩) hge2 (.int .i64 g))
      go_wp2_with fail
      clear HTH11 HA11
      generalize w11.setCell ⟨bz, 2, none⟩ (.int .i64 g) = w12 at HTS HAS ⊢
      clear x0 x1 x2 x3 y0 y1 y2 y3 fy0 fy1 fy2 fy3 u0 u1 u2 u3 fu0 fu1 fu2 fu3
      have HTH12 := HTS
      have HA12 := HAS
      clear HTS HAS
      refine call_below (shTensionOf.s_c p q g s _) ?_
      intro w13 hb13
      rw [HT1.out]
      have HTH13 := Lib.hid (HTH12.out.below hb13)
      have HA13 := Lib.hid (below_next HA12.out hb13)
      clear hb13 HTH12 HA12
      generalize tenF p q g = P2 at *
      have d5 : decide (P2 < fo) = false := decide_eq_false (by omega)
      obtain ⟨⟨⟨x0, x1, x2, x3⟩, -⟩, ⟨⟨y0, y1, y2, y3⟩, fy0, fy1, fy2, fy3⟩, ⟨⟨u0, u1, u2, u3⟩, fu0, fu1, fu2, fu3⟩⟩ := HTH13.out
      have HTS := Lib.hid (HTH13.out.setZ (g - 1) hne2 hne3)
      have HAS := Lib.hid (HA13.out.setCell (p := ⟨bz, 2, none⟩) hge2 (.int .i64 (g - 1)))
      go_wp2_with fail
      clear HTH13 HA13
      generalize w13.setCell ⟨bz, 2, none⟩ (.int .i64 (g - 1)) = w14 at HTS HAS ⊢
      clear x0 x1 x2 x3 y0 y1 y2 y3 fy0 fy1 fy2 fy3 u0 u1 u2 u3 fu0 fu1 fu2 fu3
      have HTH14 := HTS
      have HA14 := HAS
      clear HTS HAS
      by_cases hgt : 1 ≤ g - 1
      · have HT2 := Lib.hid (tension_ok (cordB_of (p := p) (q := q) (r := g - 1) (s := s) (by omega) (by omega) (by omega) (by omega)))
        have hb2 := tenF_bd (p := p) (l := q) (g := g - 1) ⟨by omega, by omega, by omega⟩
        have hn' := hn hgt
        clear hn
        refine call_below (shTensionOf.s_c p q (g - 1) s _) ?_
        intro w15 hb15
        rw [HT2.out]
        have HTH15 := Lib.hid (HTH14.out.below hb15)
        have HA15 := Lib.hid (below_next HA14.out hb15)
        clear hb15 HTH14 HA14
        generalize tenF p q (g - 1) = Q2 at *
        have d6 : decide (fo ≤ Q2) = false := decide_eq_false (by omega)
        have d7 : decide (Q2 ≥ fo) = false := decide_eq_false (by omega)
        go_wp2_with fail
        have hxc := wideF_bd (z := z1) (k := 2) (n := 3000) (by omega)
        have HWD := Lib.hid (fun n => r8Wide_f a1 cap1 z1 2 3000 (w15.drewN n) (HN1.out.below (below_drewN HA15.out n)) HB1.out HZ1.out (by omega) (by omega) (by omega) (by omega))
        generalize wideF z1 2 3000 = xc at hxc HWD
        obtain ⟨⟨⟨x0, x1, x2, x3⟩, -⟩, ⟨⟨y0, y1, y2, y3⟩, fy0, fy1, fy2, fy3⟩, ⟨⟨u0, u1, u2, u3⟩, fu0, fu1, fu2, fu3⟩⟩ := HTH15.out
        go_quiet ((go_at_call 18; exact quiet_at (HWD.out _)))
        have HTS := Lib.hid (HTH15.out.drewN nq)
        have HAS := Lib.hid (below_drewN HA15.out nq)
        clear HTH15 HA15 HWD
        generalize w15.drewN nq = w16 at HTS HAS ⊢
        clear x0 x1 x2 x3 y0 y1 y2 y3 fy0 fy1 fy2 fy3 u0 u1 u2 u3 fu0 fu1 fu2 fu3
        have HTH16 := HTS
        have HA16 := HAS
        clear HTS HAS
        obtain ⟨⟨⟨x0, x1, x2, x3⟩, -⟩, ⟨⟨y0, y1, y2, y3⟩, fy0, fy1, fy2, fy3⟩, ⟨⟨u0, u1, u2, u3⟩, fu0, fu1, fu2, fu3⟩⟩ := HTH16.out
        go_wp2_with fail
        generalize hpt : p + xc = pt at *
        have HP := Lib.hid (stop_ok (pt := pt) HOK.out ⟨by omega, by omega⟩)
        have HP0 := Lib.hid (stop_ok0 HOK.out ⟨by omega, by omega⟩)
        have hsb := stop_bd (q := q) (p := p) (m := pt) (by omega) (by omega) (by omega) (by omega)
        have HSN := Lib.hid (stop_near (n := 10 * q * (pt - p)) (b := pt) (Int.mul_nonneg (by omega) (by omega)) (by omega))
        have b3 := mul_bd (a := 10 * q) (A := 5000) (b := pt - p) (B := 10000) (by omega) (by omega) (by omega) (by omega)
        refine call_below (shStopPlace.i_c p q r s pt _) ?_
        intro w17 hb17
        rw [HP.out]
        have HTH17 := Lib.hid (HTH16.out.below hb17)
        have HA17 := Lib.hid (below_next HA16.out hb17)
        clear hb17 HTH16 HA16
        clear x0 x1 x2 x3 y0 y1 y2 y3 fy0 fy1 fy2 fy3 u0 u1 u2 u3 fu0 fu1 fu2 fu3
        generalize rdiv (10 * q * (pt - p)) pt = at_ at *
        have b4 := mul_bd (a := at_) (A := 5000) (b := pt) (B := 10000) (by omega) (by omega) (by omega) (by omega)
        have j1 := IntWalk.i64_in (10 * q * (pt - p)) (by omega)
        have j2 := IntWalk.i64_in (at_ * pt) (by omega)
        have j3 := IntWalk.i64_in (at_ * pt - 10 * q * (pt - p)) (by omega)
        have HN := Lib.hid (show -4611686018427387904 ≤ at_ * pt - 10 * q * (pt - p) ∧ at_ * pt - 10 * q * (pt - p) ≤ 4611686018427387904 by omega)
        have hmb : 0 ≤ max (at_ * pt - 10 * q * (pt - p)) (-(at_ * pt - 10 * q * (pt - p))) ∧ max (at_ * pt - 10 * q * (pt - p)) (-(at_ * pt - 10 * q * (pt - p))) ≤ 100000000 := by omega
        obtain ⟨⟨⟨x0, x1, x2, x3⟩, -⟩, ⟨⟨y0, y1, y2, y3⟩, fy0, fy1, fy2, fy3⟩, ⟨⟨u0, u1, u2, u3⟩, fu0, fu1, fu2, fu3⟩⟩ := HTH17.out
        go_wp2_with fail
        refine call_below (shStopPlace.i_c p q r s p _) ?_
        intro w18 hb18
        rw [HP0.out]
        have HTH18 := Lib.hid (HTH17.out.below hb18)
        have HA18 := Lib.hid (below_next HA17.out hb18)
        clear hb18 HTH17 HA17
        clear x0 x1 x2 x3 y0 y1 y2 y3 fy0 fy1 fy2 fy3 u0 u1 u2 u3 fu0 fu1 fu2 fu3
        obtain ⟨⟨⟨x0, x1, x2, x3⟩, -⟩, ⟨⟨y0, y1, y2, y3⟩, fy0, fy1, fy2, fy3⟩, ⟨⟨u0, u1, u2, u3⟩, fu0, fu1, fu2, fu3⟩⟩ := HTH18.out
        go_wp2_with fail
        refine call_same (r8Abs_c _ _ HN.out.1 HN.out.2) ?_
        have hsn := HSN.out
        generalize max (at_ * pt - 10 * q * (pt - p)) (-(at_ * pt - 10 * q * (pt - p))) = ab at *
        have d9 : decide (2 * ab ≤ pt) = true := decide_eq_true hsn
        go_wp2
        go_ret
        exact ⟨rfl, HA18.out⟩
      · have HT2 := Lib.hid (tension_no (cordB_no_g (p := p) (q := q) (r := g - 1) (s := s) (by omega)))
        clear hn
        refine call_below (shTensionOf.s_c p q (g - 1) s _) ?_
        intro w15 hb15
        rw [HT2.out]
        have HTH15 := Lib.hid (HTH14.out.below hb15)
        have HA15 := Lib.hid (below_next HA14.out hb15)
        clear hb15 HTH14 HA14
        go_wp2_with fail
        have hxc := wideF_bd (z := z1) (k := 2) (n := 3000) (by omega)
        have HWD := Lib.hid (fun n => r8Wide_f a1 cap1 z1 2 3000 (w15.drewN n) (HN1.out.below (below_drewN HA15.out n)) HB1.out HZ1.out (by omega) (by omega) (by omega) (by omega))
        generalize wideF z1 2 3000 = xc at hxc HWD
        obtain ⟨⟨⟨x0, x1, x2, x3⟩, -⟩, ⟨⟨y0, y1, y2, y3⟩, fy0, fy1, fy2, fy3⟩, ⟨⟨u0, u1, u2, u3⟩, fu0, fu1, fu2, fu3⟩⟩ := HTH15.out
        go_quiet ((go_at_call 18; exact quiet_at (HWD.out _)))
        have HTS := Lib.hid (HTH15.out.drewN nq)
        have HAS := Lib.hid (below_drewN HA15.out nq)
        clear HTH15 HA15 HWD
        generalize w15.drewN nq = w16 at HTS HAS ⊢
        clear x0 x1 x2 x3 y0 y1 y2 y3 fy0 fy1 fy2 fy3 u0 u1 u2 u3 fu0 fu1 fu2 fu3
        have HTH16 := HTS
        have HA16 := HAS
        clear HTS HAS
        obtain ⟨⟨⟨x0, x1, x2, x3⟩, -⟩, ⟨⟨y0, y1, y2, y3⟩, fy0, fy1, fy2, fy3⟩, ⟨⟨u0, u1, u2, u3⟩, fu0, fu1, fu2, fu3⟩⟩ := HTH16.out
        go_wp2_with fail
        generalize hpt : p + xc = pt at *
        have HP := Lib.hid (stop_ok (pt := pt) HOK.out ⟨by omega, by omega⟩)
        have HP0 := Lib.hid (stop_ok0 HOK.out ⟨by omega, by omega⟩)
        have hsb := stop_bd (q := q) (p := p) (m := pt) (by omega) (by omega) (by omega) (by omega)
        have HSN := Lib.hid (stop_near (n := 10 * q * (pt - p)) (b := pt) (Int.mul_nonneg (by omega) (by omega)) (by omega))
        have b3 := mul_bd (a := 10 * q) (A := 5000) (b := pt - p) (B := 10000) (by omega) (by omega) (by omega) (by omega)
        refine call_below (shStopPlace.i_c p q r s pt _) ?_
        intro w17 hb17
        rw [HP.out]
        have HTH17 := Lib.hid (HTH16.out.below hb17)
        have HA17 := Lib.hid (below_next HA16.out hb17)
        clear hb17 HTH16 HA16
        clear x0 x1 x2 x3 y0 y1 y2 y3 fy0 fy1 fy2 fy3 u0 u1 u2 u3 fu0 fu1 fu2 fu3
        generalize rdiv (10 * q * (pt - p)) pt = at_ at *
        have b4 := mul_bd (a := at_) (A := 5000) (b := pt) (B := 10000) (by omega) (by omega) (by omega) (by omega)
        have j1 := IntWalk.i64_in (10 * q * (pt - p)) (by omega)
        have j2 := IntWalk.i64_in (at_ * pt) (by omega)
        have j3 := IntWalk.i64_in (at_ * pt - 10 * q * (pt - p)) (by omega)
        have HN := Lib.hid (show -4611686018427387904 ≤ at_ * pt - 10 * q * (pt - p) ∧ at_ * pt - 10 * q * (pt - p) ≤ 4611686018427387904 by omega)
        have hmb : 0 ≤ max (at_ * pt - 10 * q * (pt - p)) (-(at_ * pt - 10 * q * (pt - p))) ∧ max (at_ * pt - 10 * q * (pt - p)) (-(at_ * pt - 10 * q * (pt - p))) ≤ 100000000 := by omega
        obtain ⟨⟨⟨x0, x1, x2, x3⟩, -⟩, ⟨⟨y0, y1, y2, y3⟩, fy0, fy1, fy2, fy3⟩, ⟨⟨u0, u1, u2, u3⟩, fu0, fu1, fu2, fu3⟩⟩ := HTH17.out
        go_wp2_with fail
        refine call_below (shStopPlace.i_c p q r s p _) ?_
        intro w18 hb18
        rw [HP0.out]
        have HTH18 := Lib.hid (HTH17.out.below hb18)
        have HA18 := Lib.hid (below_next HA17.out hb18)
        clear hb18 HTH17 HA17
        clear x0 x1 x2 x3 y0 y1 y2 y3 fy0 fy1 fy2 fy3 u0 u1 u2 u3 fu0 fu1 fu2 fu3
        obtain ⟨⟨⟨x0, x1, x2, x3⟩, -⟩, ⟨⟨y0, y1, y2, y3⟩, fy0, fy1, fy2, fy3⟩, ⟨⟨u0, u1, u2, u3⟩, fu0, fu1, fu2, fu3⟩⟩ := HTH18.out
        go_wp2_with fail
        refine call_same (r8Abs_c _ _ HN.out.1 HN.out.2) ?_
        have hsn := HSN.out
        generalize max (at_ * pt - 10 * q * (pt - p)) (-(at_ * pt - 10 * q * (pt - p))) = ab at *
        have d9 : decide (2 * ab ≤ pt) = true := decide_eq_true hsn
        go_wp2
        go_ret
        exact ⟨rfl, HA18.out⟩
  · have HH := Lib.hid h
    clear h hmB
    have HT1 := Lib.hid (tension_ok (cordB_of (p := y) (q := q) (r := r) (s := s) (by omega) (by omega) (by omega) (by omega)))
    have hb1 := tenF_bd (p := y) (l := q) (g := r) ⟨by omega, by omega, by omega⟩
    have hh' : 1000 * tenF y q r ≤ m * s := of_decide_eq_true hh
    clear hh
    refine call_below (shHighestPitch.i_c p q r s m _) ?_
    intro w10 hb10
    rw [HH.out]
    have HTH10 := Lib.hid (HTH9.out.below hb10)
    have HA10 := Lib.hid (below_next HA9.out hb10)
    clear hb10 HTH9 HA9
    clear x0 x1 x2 x3 y0 y1 y2 y3 fy0 fy1 fy2 fy3 u0 u1 u2 u3 fu0 fu1 fu2 fu3
    obtain ⟨⟨⟨x0, x1, x2, x3⟩, -⟩, ⟨⟨y0, y1, y2, y3⟩, fy0, fy1, fy2, fy3⟩, ⟨⟨u0, u1, u2, u3⟩, fu0, fu1, fu2, fu3⟩⟩ := HTH10.out
    have HTS := Lib.hid (HTH10.out.setY y hne1 hne3.symm)
    have HAS := Lib.hid (HA10.out.setCell (p := ⟨by_, 0, none⟩) hge1 (.int .i64 y))
    go_wp2_with fail
    clear HTH10 HA10
    generalize w10.setCell ⟨by_, 0, none⟩ (.int .i64 y) = w11 at HTS HAS ⊢
    clear x0 x1 x2 x3 y0 y1 y2 y3 fy0 fy1 fy2 fy3 u0 u1 u2 u3 fu0 fu1 fu2 fu3
    have HTH11 := HTS
    have HA11 := HAS
    clear HTS HAS
    refine call_below (shTensionOf.s_c y q r s _) ?_
    intro w12 hb12
    rw [HT1.out]
    have HTH12 := Lib.hid (HTH11.out.below hb12)
    have HA12 := Lib.hid (below_next HA11.out hb12)
    clear hb12 HTH11 HA11
    generalize tenF y q r = P1 at *
    have d4 : decide (m * s < 1000 * P1) = false := decide_eq_false (by omega)
    obtain ⟨⟨⟨x0, x1, x2, x3⟩, -⟩, ⟨⟨y0, y1, y2, y3⟩, fy0, fy1, fy2, fy3⟩, ⟨⟨u0, u1, u2, u3⟩, fu0, fu1, fu2, fu3⟩⟩ := HTH12.out
    have HTS := Lib.hid (HTH12.out.setY (y + 1) hne1 hne3.symm)
    have HAS := Lib.hid (HA12.out.setCell (p := ⟨by_, 0, none⟩) hge1 (.int .i64 (y + 1)))
    go_wp2_with fail
    clear HTH12 HA12
    generalize w12.setCell ⟨by_, 0, none⟩ (.int .i64 (y + 1)) = w13 at HTS HAS ⊢
    clear x0 x1 x2 x3 y0 y1 y2 y3 fy0 fy1 fy2 fy3 u0 u1 u2 u3 fu0 fu1 fu2 fu3
    have HTH13 := HTS
    have HA13 := HAS
    clear HTS HAS
    by_cases hyt : y + 1 ≤ 10000
    · have HT2 := Lib.hid (tension_ok (cordB_of (p := y + 1) (q := q) (r := r) (s := s) (by omega) (by omega) (by omega) (by omega)))
      have hb2 := tenF_bd (p := y + 1) (l := q) (g := r) ⟨by omega, by omega, by omega⟩
      have hn' : ¬ 1000 * tenF (y + 1) q r ≤ m * s := of_decide_eq_false (hn hyt)
      clear hn
      refine call_below (shTensionOf.s_c (y + 1) q r s _) ?_
      intro w14 hb14
      rw [HT2.out]
      have HTH14 := Lib.hid (HTH13.out.below hb14)
      have HA14 := Lib.hid (below_next HA13.out hb14)
      clear hb14 HTH13 HA13
      generalize tenF (y + 1) q r = Q1 at *
      have d8 : decide (1000 * Q1 ≤ m * s) = false := decide_eq_false (by omega)
      obtain ⟨⟨⟨x0, x1, x2, x3⟩, -⟩, ⟨⟨y0, y1, y2, y3⟩, fy0, fy1, fy2, fy3⟩, ⟨⟨u0, u1, u2, u3⟩, fu0, fu1, fu2, fu3⟩⟩ := HTH14.out
      go_wp2_with fail
      clear x0 x1 x2 x3 y0 y1 y2 y3 fy0 fy1 fy2 fy3 u0 u1 u2 u3 fu0 fu1 fu2 fu3
      go_wp2_with fail
      refine (r8At_c a1 cap1 z1 1 120 _ (HN1.out.below HA14.out) HB1.out HZ1.out (by omega) (by omega) (by omega) (by omega)).mono ?_
      rintro e wq ⟨xb, rfl, hxb, rfl⟩
      obtain ⟨⟨⟨x0, x1, x2, x3⟩, -⟩, ⟨⟨y0, y1, y2, y3⟩, fy0, fy1, fy2, fy3⟩, ⟨⟨u0, u1, u2, u3⟩, fu0, fu1, fu2, fu3⟩⟩ := HTH14.out
      go_wp2_with fail
      generalize hfo : 1000 * xb = fo at *
      have hfB : inB fo 0 500000 = true := decide_eq_true ⟨by omega, by omega⟩
      rcases least_cases HOK.out hfB with h | ⟨g, h, hg, hh, hn⟩
      · have HH := Lib.hid h
        clear h hfB
        refine call_below (shLeastGauge.i_c p q r s fo _) ?_
        intro w15 hb15
        rw [HH.out]
        have HTH15 := Lib.hid (HTH14.out.below hb15)
        have HA15 := Lib.hid (below_next HA14.out hb15)
        clear hb15 HTH14 HA14
        clear x0 x1 x2 x3 y0 y1 y2 y3 fy0 fy1 fy2 fy3 u0 u1 u2 u3 fu0 fu1 fu2 fu3
        go_wp2_with fail
        have hxc := wideF_bd (z := z1) (k := 2) (n := 3000) (by omega)
        have HWD := Lib.hid (fun n => r8Wide_f a1 cap1 z1 2 3000 (w15.drewN n) (HN1.out.below (below_drewN HA15.out n)) HB1.out HZ1.out (by omega) (by omega) (by omega) (by omega))
        generalize wideF z1 2 3000 = xc at hxc HWD
        obtain ⟨⟨⟨x0, x1, x2, x3⟩, -⟩, ⟨⟨y0, y1, y2, y3⟩, fy0, fy1, fy2, fy3⟩, ⟨⟨u0, u1, u2, u3⟩, fu0, fu1, fu2, fu3⟩⟩ := HTH15.out
        go_quiet ((go_at_call 18; exact quiet_at (HWD.out _)))
        have HTS := Lib.hid (HTH15.out.drewN nq)
        have HAS := Lib.hid (below_drewN HA15.out nq)
        clear HTH15 HA15 HWD
        generalize w15.drewN nq = w16 at HTS HAS ⊢
        clear x0 x1 x2 x3 y0 y1 y2 y3 fy0 fy1 fy2 fy3 u0 u1 u2 u3 fu0 fu1 fu2 fu3
        have HTH16 := HTS
        have HA16 := HAS
        clear HTS HAS
        obtain ⟨⟨⟨x0, x1, x2, x3⟩, -⟩, ⟨⟨y0, y1, y2, y3⟩, fy0, fy1, fy2, fy3⟩, ⟨⟨u0, u1, u2, u3⟩, fu0, fu1, fu2, fu3⟩⟩ := HTH16.out
        go_wp2_with fail
        generalize hpt : p + xc = pt at *
        have HP := Lib.hid (stop_ok (pt := pt) HOK.out ⟨by omega, by omega⟩)
        have HP0 := Lib.hid (stop_ok0 HOK.out ⟨by omega, by omega⟩)
        have hsb := stop_bd (q := q) (p := p) (m := pt) (by omega) (by omega) (by omega) (by omega)
        have HSN := Lib.hid (stop_near (n := 10 * q * (pt - p)) (b := pt) (Int.mul_nonneg (by omega) (by omega)) (by omega))
        have b3 := mul_bd (a := 10 * q) (A := 5000) (b := pt - p) (B := 10000) (by omega) (by omega) (by omega) (by omega)
        refine call_below (shStopPlace.i_c p q r s pt _) ?_
        intro w17 hb17
        rw [HP.out]
        have HTH17 := Lib.hid (HTH16.out.below hb17)
        have HA17 := Lib.hid (below_next HA16.out hb17)
        clear hb17 HTH16 HA16
        clear x0 x1 x2 x3 y0 y1 y2 y3 fy0 fy1 fy2 fy3 u0 u1 u2 u3 fu0 fu1 fu2 fu3
        generalize rdiv (10 * q * (pt - p)) pt = at_ at *
        have b4 := mul_bd (a := at_) (A := 5000) (b := pt) (B := 10000) (by omega) (by omega) (by omega) (by omega)
        have j1 := IntWalk.i64_in (10 * q * (pt - p)) (by omega)
        have j2 := IntWalk.i64_in (at_ * pt) (by omega)
        have j3 := IntWalk.i64_in (at_ * pt - 10 * q * (pt - p)) (by omega)
        have HN := Lib.hid (show -4611686018427387904 ≤ at_ * pt - 10 * q * (pt - p) ∧ at_ * pt - 10 * q * (pt - p) ≤ 4611686018427387904 by omega)
        have hmb : 0 ≤ max (at_ * pt - 10 * q * (pt - p)) (-(at_ * pt - 10 * q * (pt - p))) ∧ max (at_ * pt - 10 * q * (pt - p)) (-(at_ * pt - 10 * q * (pt - p))) ≤ 100000000 := by omega
        obtain ⟨⟨⟨x0, x1, x2, x3⟩, -⟩, ⟨⟨y0, y1, y2, y3⟩, fy0, fy1, fy2, fy3⟩, ⟨⟨u0, u1, u2, u3⟩, fu0, fu1, fu2, fu3⟩⟩ := HTH17.out
        go_wp2_with fail
        refine call_below (shStopPlace.i_c p q r s p _) ?_
        intro w18 hb18
        rw [HP0.out]
        have HTH18 := Lib.hid (HTH17.out.below hb18)
        have HA18 := Lib.hid (below_next HA17.out hb18)
        clear hb18 HTH17 HA17
        clear x0 x1 x2 x3 y0 y1 y2 y3 fy0 fy1 fy2 fy3 u0 u1 u2 u3 fu0 fu1 fu2 fu3
        obtain ⟨⟨⟨x0, x1, x2, x3⟩, -⟩, ⟨⟨y0, y1, y2, y3⟩, fy0, fy1, fy2, fy3⟩, ⟨⟨u0, u1, u2, u3⟩, fu0, fu1, fu2, fu3⟩⟩ := HTH18.out
        go_wp2_with fail
        refine call_same (r8Abs_c _ _ HN.out.1 HN.out.2) ?_
        have hsn := HSN.out
        generalize max (at_ * pt - 10 * q * (pt - p)) (-(at_ * pt - 10 * q * (pt - p))) = ab at *
        have d9 : decide (2 * ab ≤ pt) = true := decide_eq_true hsn
        go_wp2
        go_ret
        exact ⟨rfl, HA18.out⟩
      · have HH := Lib.hid h
        clear h hfB
        have HT1 := Lib.hid (tension_ok (cordB_of (p := p) (q := q) (r := g) (s := s) (by omega) (by omega) (by omega) (by omega)))
        have hb1 := tenF_bd (p := p) (l := q) (g := g) ⟨by omega, by omega, by omega⟩
        refine call_below (shLeastGauge.i_c p q r s fo _) ?_
        intro w15 hb15
        rw [HH.out]
        have HTH15 := Lib.hid (HTH14.out.below hb15)
        have HA15 := Lib.hid (below_next HA14.out hb15)
        clear hb15 HTH14 HA14
        clear x0 x1 x2 x3 y0 y1 y2 y3 fy0 fy1 fy2 fy3 u0 u1 u2 u3 fu0 fu1 fu2 fu3
        obtain ⟨⟨⟨x0, x1, x2, x3⟩, -⟩, ⟨⟨y0, y1, y2, y3⟩, fy0, fy1, fy2, fy3⟩, ⟨⟨u0, u1, u2, u3⟩, fu0, fu1, fu2, fu3⟩⟩ := HTH15.out
        have HTS := Lib.hid (HTH15.out.setZ g hne2 hne3)
        have HAS := Lib.hid (HA15.out.setCell (p := ⟨bz, 2, none⟩) hge2 (.int .i64 g))
        go_wp2_with fail
        clear HTH15 HA15
        generalize w15.setCell ⟨bz, 2, none⟩ (.int .i64 g) = w16 at HTS HAS ⊢
        clear x0 x1 x2 x3 y0 y1 y2 y3 fy0 fy1 fy2 fy3 u0 u1 u2 u3 fu0 fu1 fu2 fu3
        have HTH16 := HTS
        have HA16 := HAS
        clear HTS HAS
        refine call_below (shTensionOf.s_c p q g s _) ?_
        intro w17 hb17
        rw [HT1.out]
        have HTH17 := Lib.hid (HTH16.out.below hb17)
        have HA17 := Lib.hid (below_next HA16.out hb17)
        clear hb17 HTH16 HA16
        generalize tenF p q g = P2 at *
        have d5 : decide (P2 < fo) = false := decide_eq_false (by omega)
        obtain ⟨⟨⟨x0, x1, x2, x3⟩, -⟩, ⟨⟨y0, y1, y2, y3⟩, fy0, fy1, fy2, fy3⟩, ⟨⟨u0, u1, u2, u3⟩, fu0, fu1, fu2, fu3⟩⟩ := HTH17.out
        have HTS := Lib.hid (HTH17.out.setZ (g - 1) hne2 hne3)
        have HAS := Lib.hid (HA17.out.setCell (p := ⟨bz, 2, none⟩) hge2 (.int .i64 (g - 1)))
        go_wp2_with fail
        clear HTH17 HA17
        generalize w17.setCell ⟨bz, 2, none⟩ (.int .i64 (g - 1)) = w18 at HTS HAS ⊢
        clear x0 x1 x2 x3 y0 y1 y2 y3 fy0 fy1 fy2 fy3 u0 u1 u2 u3 fu0 fu1 fu2 fu3
        have HTH18 := HTS
        have HA18 := HAS
        clear HTS HAS
        by_cases hgt : 1 ≤ g - 1
        · have HT2 := Lib.hid (tension_ok (cordB_of (p := p) (q := q) (r := g - 1) (s := s) (by omega) (by omega) (by omega) (by omega)))
          have hb2 := tenF_bd (p := p) (l := q) (g := g - 1) ⟨by omega, by omega, by omega⟩
          have hn' := hn hgt
          clear hn
          refine call_below (shTensionOf.s_c p q (g - 1) s _) ?_
          intro w19 hb19
          rw [HT2.out]
          have HTH19 := Lib.hid (HTH18.out.below hb19)
          have HA19 := Lib.hid (below_next HA18.out hb19)
          clear hb19 HTH18 HA18
          generalize tenF p q (g - 1) = Q2 at *
          have d6 : decide (fo ≤ Q2) = false := decide_eq_false (by omega)
          have d7 : decide (Q2 ≥ fo) = false := decide_eq_false (by omega)
          go_wp2_with fail
          have hxc := wideF_bd (z := z1) (k := 2) (n := 3000) (by omega)
          have HWD := Lib.hid (fun n => r8Wide_f a1 cap1 z1 2 3000 (w19.drewN n) (HN1.out.below (below_drewN HA19.out n)) HB1.out HZ1.out (by omega) (by omega) (by omega) (by omega))
          generalize wideF z1 2 3000 = xc at hxc HWD
          obtain ⟨⟨⟨x0, x1, x2, x3⟩, -⟩, ⟨⟨y0, y1, y2, y3⟩, fy0, fy1, fy2, fy3⟩, ⟨⟨u0, u1, u2, u3⟩, fu0, fu1, fu2, fu3⟩⟩ := HTH19.out
          go_quiet ((go_at_call 18; exact quiet_at (HWD.out _)))
          have HTS := Lib.hid (HTH19.out.drewN nq)
          have HAS := Lib.hid (below_drewN HA19.out nq)
          clear HTH19 HA19 HWD
          generalize w19.drewN nq = w20 at HTS HAS ⊢
          clear x0 x1 x2 x3 y0 y1 y2 y3 fy0 fy1 fy2 fy3 u0 u1 u2 u3 fu0 fu1 fu2 fu3
          have HTH20 := HTS
          have HA20 := HAS
          clear HTS HAS
          obtain ⟨⟨⟨x0, x1, x2, x3⟩, -⟩, ⟨⟨y0, y1, y2, y3⟩, fy0, fy1, fy2, fy3⟩, ⟨⟨u0, u1, u2, u3⟩, fu0, fu1, fu2, fu3⟩⟩ := HTH20.out
          go_wp2_with fail
          generalize hpt : p + xc = pt at *
          have HP := Lib.hid (stop_ok (pt := pt) HOK.out ⟨by omega, by omega⟩)
          have HP0 := Lib.hid (stop_ok0 HOK.out ⟨by omega, by omega⟩)
          have hsb := stop_bd (q := q) (p := p) (m := pt) (by omega) (by omega) (by omega) (by omega)
          have HSN := Lib.hid (stop_near (n := 10 * q * (pt - p)) (b := pt) (Int.mul_nonneg (by omega) (by omega)) (by omega))
          have b3 := mul_bd (a := 10 * q) (A := 5000) (b := pt - p) (B := 10000) (by omega) (by omega) (by omega) (by omega)
          refine call_below (shStopPlace.i_c p q r s pt _) ?_
          intro w21 hb21
          rw [HP.out]
          have HTH21 := Lib.hid (HTH20.out.below hb21)
          have HA21 := Lib.hid (below_next HA20.out hb21)
          clear hb21 HTH20 HA20
          clear x0 x1 x2 x3 y0 y1 y2 y3 fy0 fy1 fy2 fy3 u0 u1 u2 u3 fu0 fu1 fu2 fu3
          generalize rdiv (10 * q * (pt - p)) pt = at_ at *
          have b4 := mul_bd (a := at_) (A := 5000) (b := pt) (B := 10000) (by omega) (by omega) (by omega) (by omega)
          have j1 := IntWalk.i64_in (10 * q * (pt - p)) (by omega)
          have j2 := IntWalk.i64_in (at_ * pt) (by omega)
          have j3 := IntWalk.i64_in (at_ * pt - 10 * q * (pt - p)) (by omega)
          have HN := Lib.hid (show -4611686018427387904 ≤ at_ * pt - 10 * q * (pt - p) ∧ at_ * pt - 10 * q * (pt - p) ≤ 4611686018427387904 by omega)
          have hmb : 0 ≤ max (at_ * pt - 10 * q * (pt - p)) (-(at_ * pt - 10 * q * (pt - p))) ∧ max (at_ * pt - 10 * q * (pt - p)) (-(at_ * pt - 10 * q * (pt - p))) ≤ 100000000 := by omega
          obtain ⟨⟨⟨x0, x1, x2, x3⟩, -⟩, ⟨⟨y0, y1, y2, y3⟩, fy0, fy1, fy2, fy3⟩, ⟨⟨u0, u1, u2, u3⟩, fu0, fu1, fu2, fu3⟩⟩ := HTH21.out
          go_wp2_with fail
          refine call_below (shStopPlace.i_c p q r s p _) ?_
          intro w22 hb22
          rw [HP0.out]
          have HTH22 := Lib.hid (HTH21.out.below hb22)
          have HA22 := Lib.hid (below_next HA21.out hb22)
          clear hb22 HTH21 HA21
          clear x0 x1 x2 x3 y0 y1 y2 y3 fy0 fy1 fy2 fy3 u0 u1 u2 u3 fu0 fu1 fu2 fu3
          obtain ⟨⟨⟨x0, x1, x2, x3⟩, -⟩, ⟨⟨y0, y1, y2, y3⟩, fy0, fy1, fy2, fy3⟩, ⟨⟨u0, u1, u2, u3⟩, fu0, fu1, fu2, fu3⟩⟩ := HTH22.out
          go_wp2_with fail
          refine call_same (r8Abs_c _ _ HN.out.1 HN.out.2) ?_
          have hsn := HSN.out
          generalize max (at_ * pt - 10 * q * (pt - p)) (-(at_ * pt - 10 * q * (pt - p))) = ab at *
          have d9 : decide (2 * ab ≤ pt) = true := decide_eq_true hsn
          go_wp2
          go_ret
          exact ⟨rfl, HA22.out⟩
        · have HT2 := Lib.hid (tension_no (cordB_no_g (p := p) (q := q) (r := g - 1) (s := s) (by omega)))
          clear hn
          refine call_below (shTensionOf.s_c p q (g - 1) s _) ?_
          intro w19 hb19
          rw [HT2.out]
          have HTH19 := Lib.hid (HTH18.out.below hb19)
          have HA19 := Lib.hid (below_next HA18.out hb19)
          clear hb19 HTH18 HA18
          go_wp2_with fail
          have hxc := wideF_bd (z := z1) (k := 2) (n := 3000) (by omega)
          have HWD := Lib.hid (fun n => r8Wide_f a1 cap1 z1 2 3000 (w19.drewN n) (HN1.out.below (below_drewN HA19.out n)) HB1.out HZ1.out (by omega) (by omega) (by omega) (by omega))
          generalize wideF z1 2 3000 = xc at hxc HWD
          obtain ⟨⟨⟨x0, x1, x2, x3⟩, -⟩, ⟨⟨y0, y1, y2, y3⟩, fy0, fy1, fy2, fy3⟩, ⟨⟨u0, u1, u2, u3⟩, fu0, fu1, fu2, fu3⟩⟩ := HTH19.out
          go_quiet ((go_at_call 18; exact quiet_at (HWD.out _)))
          have HTS := Lib.hid (HTH19.out.drewN nq)
          have HAS := Lib.hid (below_drewN HA19.out nq)
          clear HTH19 HA19 HWD
          generalize w19.drewN nq = w20 at HTS HAS ⊢
          clear x0 x1 x2 x3 y0 y1 y2 y3 fy0 fy1 fy2 fy3 u0 u1 u2 u3 fu0 fu1 fu2 fu3
          have HTH20 := HTS
          have HA20 := HAS
          clear HTS HAS
          obtain ⟨⟨⟨x0, x1, x2, x3⟩, -⟩, ⟨⟨y0, y1, y2, y3⟩, fy0, fy1, fy2, fy3⟩, ⟨⟨u0, u1, u2, u3⟩, fu0, fu1, fu2, fu3⟩⟩ := HTH20.out
          go_wp2_with fail
          generalize hpt : p + xc = pt at *
          have HP := Lib.hid (stop_ok (pt := pt) HOK.out ⟨by omega, by omega⟩)
          have HP0 := Lib.hid (stop_ok0 HOK.out ⟨by omega, by omega⟩)
          have hsb := stop_bd (q := q) (p := p) (m := pt) (by omega) (by omega) (by omega) (by omega)
          have HSN := Lib.hid (stop_near (n := 10 * q * (pt - p)) (b := pt) (Int.mul_nonneg (by omega) (by omega)) (by omega))
          have b3 := mul_bd (a := 10 * q) (A := 5000) (b := pt - p) (B := 10000) (by omega) (by omega) (by omega) (by omega)
          refine call_below (shStopPlace.i_c p q r s pt _) ?_
          intro w21 hb21
          rw [HP.out]
          have HTH21 := Lib.hid (HTH20.out.below hb21)
          have HA21 := Lib.hid (below_next HA20.out hb21)
          clear hb21 HTH20 HA20
          clear x0 x1 x2 x3 y0 y1 y2 y3 fy0 fy1 fy2 fy3 u0 u1 u2 u3 fu0 fu1 fu2 fu3
          generalize rdiv (10 * q * (pt - p)) pt = at_ at *
          have b4 := mul_bd (a := at_) (A := 5000) (b := pt) (B := 10000) (by omega) (by omega) (by omega) (by omega)
          have j1 := IntWalk.i64_in (10 * q * (pt - p)) (by omega)
          have j2 := IntWalk.i64_in (at_ * pt) (by omega)
          have j3 := IntWalk.i64_in (at_ * pt - 10 * q * (pt - p)) (by omega)
          have HN := Lib.hid (show -4611686018427387904 ≤ at_ * pt - 10 * q * (pt - p) ∧ at_ * pt - 10 * q * (pt - p) ≤ 4611686018427387904 by omega)
          have hmb : 0 ≤ max (at_ * pt - 10 * q * (pt - p)) (-(at_ * pt - 10 * q * (pt - p))) ∧ max (at_ * pt - 10 * q * (pt - p)) (-(at_ * pt - 10 * q * (pt - p))) ≤ 100000000 := by omega
          obtain ⟨⟨⟨x0, x1, x2, x3⟩, -⟩, ⟨⟨y0, y1, y2, y3⟩, fy0, fy1, fy2, fy3⟩, ⟨⟨u0, u1, u2, u3⟩, fu0, fu1, fu2, fu3⟩⟩ := HTH21.out
          go_wp2_with fail
          refine call_below (shStopPlace.i_c p q r s p _) ?_
          intro w22 hb22
          rw [HP0.out]
          have HTH22 := Lib.hid (HTH21.out.below hb22)
          have HA22 := Lib.hid (below_next HA21.out hb22)
          clear hb22 HTH21 HA21
          clear x0 x1 x2 x3 y0 y1 y2 y3 fy0 fy1 fy2 fy3 u0 u1 u2 u3 fu0 fu1 fu2 fu3
          obtain ⟨⟨⟨x0, x1, x2, x3⟩, -⟩, ⟨⟨y0, y1, y2, y3⟩, fy0, fy1, fy2, fy3⟩, ⟨⟨u0, u1, u2, u3⟩, fu0, fu1, fu2, fu3⟩⟩ := HTH22.out
          go_wp2_with fail
          refine call_same (r8Abs_c _ _ HN.out.1 HN.out.2) ?_
          have hsn := HSN.out
          generalize max (at_ * pt - 10 * q * (pt - p)) (-(at_ * pt - 10 * q * (pt - p))) = ab at *
          have d9 : decide (2 * ab ≤ pt) = true := decide_eq_true hsn
          go_wp2
          go_ret
          exact ⟨rfl, HA22.out⟩
    · have HT2 := Lib.hid (tension_no (cordB_no_p (p := y + 1) (q := q) (r := r) (s := s) (by omega)))
      clear hn
      refine call_below (shTensionOf.s_c (y + 1) q r s _) ?_
      intro w14 hb14
      rw [HT2.out]
      have HTH14 := Lib.hid (HTH13.out.below hb14)
      have HA14 := Lib.hid (below_next HA13.out hb14)
      clear hb14 HTH13 HA13
      obtain ⟨⟨⟨x0, x1, x2, x3⟩, -⟩, ⟨⟨y0, y1, y2, y3⟩, fy0, fy1, fy2, fy3⟩, ⟨⟨u0, u1, u2, u3⟩, fu0, fu1, fu2, fu3⟩⟩ := HTH14.out
      go_wp2_with fail
      clear x0 x1 x2 x3 y0 y1 y2 y3 fy0 fy1 fy2 fy3 u0 u1 u2 u3 fu0 fu1 fu2 fu3
      go_wp2_with fail
      refine (r8At_c a1 cap1 z1 1 120 _ (HN1.out.below HA14.out) HB1.out HZ1.out (by omega) (by omega) (by omega) (by omega)).mono ?_
      rintro e wq ⟨xb, rfl, hxb, rfl⟩
      obtain ⟨⟨⟨x0, x1, x2, x3⟩, -⟩, ⟨⟨y0, y1, y2, y3⟩, fy0, fy1, fy2, fy3⟩, ⟨⟨u0, u1, u2, u3⟩, fu0, fu1, fu2, fu3⟩⟩ := HTH14.out
      go_wp2_with fail
      generalize hfo : 1000 * xb = fo at *
      have hfB : inB fo 0 500000 = true := decide_eq_true ⟨by omega, by omega⟩
      rcases least_cases HOK.out hfB with h | ⟨g, h, hg, hh, hn⟩
      · have HH := Lib.hid h
        clear h hfB
        refine call_below (shLeastGauge.i_c p q r s fo _) ?_
        intro w15 hb15
        rw [HH.out]
        have HTH15 := Lib.hid (HTH14.out.below hb15)
        have HA15 := Lib.hid (below_next HA14.out hb15)
        clear hb15 HTH14 HA14
        clear x0 x1 x2 x3 y0 y1 y2 y3 fy0 fy1 fy2 fy3 u0 u1 u2 u3 fu0 fu1 fu2 fu3
        go_wp2_with fail
        have hxc := wideF_bd (z := z1) (k := 2) (n := 3000) (by omega)
        have HWD := Lib.hid (fun n => r8Wide_f a1 cap1 z1 2 3000 (w15.drewN n) (HN1.out.below (below_drewN HA15.out n)) HB1.out HZ1.out (by omega) (by omega) (by omega) (by omega))
        generalize wideF z1 2 3000 = xc at hxc HWD
        obtain ⟨⟨⟨x0, x1, x2, x3⟩, -⟩, ⟨⟨y0, y1, y2, y3⟩, fy0, fy1, fy2, fy3⟩, ⟨⟨u0, u1, u2, u3⟩, fu0, fu1, fu2, fu3⟩⟩ := HTH15.out
        go_quiet ((go_at_call 18; exact quiet_at (HWD.out _)))
        have HTS := Lib.hid (HTH15.out.drewN nq)
        have HAS := Lib.hid (below_drewN HA15.out nq)
        clear HTH15 HA15 HWD
        generalize w15.drewN nq = w16 at HTS HAS ⊢
        clear x0 x1 x2 x3 y0 y1 y2 y3 fy0 fy1 fy2 fy3 u0 u1 u2 u3 fu0 fu1 fu2 fu3
        have HTH16 := HTS
        have HA16 := HAS
        clear HTS HAS
        obtain ⟨⟨⟨x0, x1, x2, x3⟩, -⟩, ⟨⟨y0, y1, y2, y3⟩, fy0, fy1, fy2, fy3⟩, ⟨⟨u0, u1, u2, u3⟩, fu0, fu1, fu2, fu3⟩⟩ := HTH16.out
        go_wp2_with fail
        generalize hpt : p + xc = pt at *
        have HP := Lib.hid (stop_ok (pt := pt) HOK.out ⟨by omega, by omega⟩)
        have HP0 := Lib.hid (stop_ok0 HOK.out ⟨by omega, by omega⟩)
        have hsb := stop_bd (q := q) (p := p) (m := pt) (by omega) (by omega) (by omega) (by omega)
        have HSN := Lib.hid (stop_near (n := 10 * q * (pt - p)) (b := pt) (Int.mul_nonneg (by omega) (by omega)) (by omega))
        have b3 := mul_bd (a := 10 * q) (A := 5000) (b := pt - p) (B := 10000) (by omega) (by omega) (by omega) (by omega)
        refine call_below (shStopPlace.i_c p q r s pt _) ?_
        intro w17 hb17
        rw [HP.out]
        have HTH17 := Lib.hid (HTH16.out.below hb17)
        have HA17 := Lib.hid (below_next HA16.out hb17)
        clear hb17 HTH16 HA16
        clear x0 x1 x2 x3 y0 y1 y2 y3 fy0 fy1 fy2 fy3 u0 u1 u2 u3 fu0 fu1 fu2 fu3
        generalize rdiv (10 * q * (pt - p)) pt = at_ at *
        have b4 := mul_bd (a := at_) (A := 5000) (b := pt) (B := 10000) (by omega) (by omega) (by omega) (by omega)
        have j1 := IntWalk.i64_in (10 * q * (pt - p)) (by omega)
        have j2 := IntWalk.i64_in (at_ * pt) (by omega)
        have j3 := IntWalk.i64_in (at_ * pt - 10 * q * (pt - p)) (by omega)
        have HN := Lib.hid (show -4611686018427387904 ≤ at_ * pt - 10 * q * (pt - p) ∧ at_ * pt - 10 * q * (pt - p) ≤ 4611686018427387904 by omega)
        have hmb : 0 ≤ max (at_ * pt - 10 * q * (pt - p)) (-(at_ * pt - 10 * q * (pt - p))) ∧ max (at_ * pt - 10 * q * (pt - p)) (-(at_ * pt - 10 * q * (pt - p))) ≤ 100000000 := by omega
        obtain ⟨⟨⟨x0, x1, x2, x3⟩, -⟩, ⟨⟨y0, y1, y2, y3⟩, fy0, fy1, fy2, fy3⟩, ⟨⟨u0, u1, u2, u3⟩, fu0, fu1, fu2, fu3⟩⟩ := HTH17.out
        go_wp2_with fail
        refine call_below (shStopPlace.i_c p q r s p _) ?_
        intro w18 hb18
        rw [HP0.out]
        have HTH18 := Lib.hid (HTH17.out.below hb18)
        have HA18 := Lib.hid (below_next HA17.out hb18)
        clear hb18 HTH17 HA17
        clear x0 x1 x2 x3 y0 y1 y2 y3 fy0 fy1 fy2 fy3 u0 u1 u2 u3 fu0 fu1 fu2 fu3
        obtain ⟨⟨⟨x0, x1, x2, x3⟩, -⟩, ⟨⟨y0, y1, y2, y3⟩, fy0, fy1, fy2, fy3⟩, ⟨⟨u0, u1, u2, u3⟩, fu0, fu1, fu2, fu3⟩⟩ := HTH18.out
        go_wp2_with fail
        refine call_same (r8Abs_c _ _ HN.out.1 HN.out.2) ?_
        have hsn := HSN.out
        generalize max (at_ * pt - 10 * q * (pt - p)) (-(at_ * pt - 10 * q * (pt - p))) = ab at *
        have d9 : decide (2 * ab ≤ pt) = true := decide_eq_true hsn
        go_wp2
        go_ret
        exact ⟨rfl, HA18.out⟩
      · have HH := Lib.hid h
        clear h hfB
        have HT1 := Lib.hid (tension_ok (cordB_of (p := p) (q := q) (r := g) (s := s) (by omega) (by omega) (by omega) (by omega)))
        have hb1 := tenF_bd (p := p) (l := q) (g := g) ⟨by omega, by omega, by omega⟩
        refine call_below (shLeastGauge.i_c p q r s fo _) ?_
        intro w15 hb15
        rw [HH.out]
        have HTH15 := Lib.hid (HTH14.out.below hb15)
        have HA15 := Lib.hid (below_next HA14.out hb15)
        clear hb15 HTH14 HA14
        clear x0 x1 x2 x3 y0 y1 y2 y3 fy0 fy1 fy2 fy3 u0 u1 u2 u3 fu0 fu1 fu2 fu3
        obtain ⟨⟨⟨x0, x1, x2, x3⟩, -⟩, ⟨⟨y0, y1, y2, y3⟩, fy0, fy1, fy2, fy3⟩, ⟨⟨u0, u1, u2, u3⟩, fu0, fu1, fu2, fu3⟩⟩ := HTH15.out
        have HTS := Lib.hid (HTH15.out.setZ g hne2 hne3)
        have HAS := Lib.hid (HA15.out.setCell (p := ⟨bz, 2, none⟩) hge2 (.int .i64 g))
        go_wp2_with fail
        clear HTH15 HA15
        generalize w15.setCell ⟨bz, 2, none⟩ (.int .i64 g) = w16 at HTS HAS ⊢
        clear x0 x1 x2 x3 y0 y1 y2 y3 fy0 fy1 fy2 fy3 u0 u1 u2 u3 fu0 fu1 fu2 fu3
        have HTH16 := HTS
        have HA16 := HAS
        clear HTS HAS
        refine call_below (shTensionOf.s_c p q g s _) ?_
        intro w17 hb17
        rw [HT1.out]
        have HTH17 := Lib.hid (HTH16.out.below hb17)
        have HA17 := Lib.hid (below_next HA16.out hb17)
        clear hb17 HTH16 HA16
        generalize tenF p q g = P2 at *
        have d5 : decide (P2 < fo) = false := decide_eq_false (by omega)
        obtain ⟨⟨⟨x0, x1, x2, x3⟩, -⟩, ⟨⟨y0, y1, y2, y3⟩, fy0, fy1, fy2, fy3⟩, ⟨⟨u0, u1, u2, u3⟩, fu0, fu1, fu2, fu3⟩⟩ := HTH17.out
        have HTS := Lib.hid (HTH17.out.setZ (g - 1) hne2 hne3)
        have HAS := Lib.hid (HA17.out.setCell (p := ⟨bz, 2, none⟩) hge2 (.int .i64 (g - 1)))
        go_wp2_with fail
        clear HTH17 HA17
        generalize w17.setCell ⟨bz, 2, none⟩ (.int .i64 (g - 1)) = w18 at HTS HAS ⊢
        clear x0 x1 x2 x3 y0 y1 y2 y3 fy0 fy1 fy2 fy3 u0 u1 u2 u3 fu0 fu1 fu2 fu3
        have HTH18 := HTS
        have HA18 := HAS
        clear HTS HAS
        by_cases hgt : 1 ≤ g - 1
        · have HT2 := Lib.hid (tension_ok (cordB_of (p := p) (q := q) (r := g - 1) (s := s) (by omega) (by omega) (by omega) (by omega)))
          have hb2 := tenF_bd (p := p) (l := q) (g := g - 1) ⟨by omega, by omega, by omega⟩
          have hn' := hn hgt
          clear hn
          refine call_below (shTensionOf.s_c p q (g - 1) s _) ?_
          intro w19 hb19
          rw [HT2.out]
          have HTH19 := Lib.hid (HTH18.out.below hb19)
          have HA19 := Lib.hid (below_next HA18.out hb19)
          clear hb19 HTH18 HA18
          generalize tenF p q (g - 1) = Q2 at *
          have d6 : decide (fo ≤ Q2) = false := decide_eq_false (by omega)
          have d7 : decide (Q2 ≥ fo) = false := decide_eq_false (by omega)
          go_wp2_with fail
          have hxc := wideF_bd (z := z1) (k := 2) (n := 3000) (by omega)
          have HWD := Lib.hid (fun n => r8Wide_f a1 cap1 z1 2 3000 (w19.drewN n) (HN1.out.below (below_drewN HA19.out n)) HB1.out HZ1.out (by omega) (by omega) (by omega) (by omega))
          generalize wideF z1 2 3000 = xc at hxc HWD
          obtain ⟨⟨⟨x0, x1, x2, x3⟩, -⟩, ⟨⟨y0, y1, y2, y3⟩, fy0, fy1, fy2, fy3⟩, ⟨⟨u0, u1, u2, u3⟩, fu0, fu1, fu2, fu3⟩⟩ := HTH19.out
          go_quiet ((go_at_call 18; exact quiet_at (HWD.out _)))
          have HTS := Lib.hid (HTH19.out.drewN nq)
          have HAS := Lib.hid (below_drewN HA19.out nq)
          clear HTH19 HA19 HWD
          generalize w19.drewN nq = w20 at HTS HAS ⊢
          clear x0 x1 x2 x3 y0 y1 y2 y3 fy0 fy1 fy2 fy3 u0 u1 u2 u3 fu0 fu1 fu2 fu3
          have HTH20 := HTS
          have HA20 := HAS
          clear HTS HAS
          obtain ⟨⟨⟨x0, x1, x2, x3⟩, -⟩, ⟨⟨y0, y1, y2, y3⟩, fy0, fy1, fy2, fy3⟩, ⟨⟨u0, u1, u2, u3⟩, fu0, fu1, fu2, fu3⟩⟩ := HTH20.out
          go_wp2_with fail
          generalize hpt : p + xc = pt at *
          have HP := Lib.hid (stop_ok (pt := pt) HOK.out ⟨by omega, by omega⟩)
          have HP0 := Lib.hid (stop_ok0 HOK.out ⟨by omega, by omega⟩)
          have hsb := stop_bd (q := q) (p := p) (m := pt) (by omega) (by omega) (by omega) (by omega)
          have HSN := Lib.hid (stop_near (n := 10 * q * (pt - p)) (b := pt) (Int.mul_nonneg (by omega) (by omega)) (by omega))
          have b3 := mul_bd (a := 10 * q) (A := 5000) (b := pt - p) (B := 10000) (by omega) (by omega) (by omega) (by omega)
          refine call_below (shStopPlace.i_c p q r s pt _) ?_
          intro w21 hb21
          rw [HP.out]
          have HTH21 := Lib.hid (HTH20.out.below hb21)
          have HA21 := Lib.hid (below_next HA20.out hb21)
          clear hb21 HTH20 HA20
          clear x0 x1 x2 x3 y0 y1 y2 y3 fy0 fy1 fy2 fy3 u0 u1 u2 u3 fu0 fu1 fu2 fu3
          generalize rdiv (10 * q * (pt - p)) pt = at_ at *
          have b4 := mul_bd (a := at_) (A := 5000) (b := pt) (B := 10000) (by omega) (by omega) (by omega) (by omega)
          have j1 := IntWalk.i64_in (10 * q * (pt - p)) (by omega)
          have j2 := IntWalk.i64_in (at_ * pt) (by omega)
          have j3 := IntWalk.i64_in (at_ * pt - 10 * q * (pt - p)) (by omega)
          have HN := Lib.hid (show -4611686018427387904 ≤ at_ * pt - 10 * q * (pt - p) ∧ at_ * pt - 10 * q * (pt - p) ≤ 4611686018427387904 by omega)
          have hmb : 0 ≤ max (at_ * pt - 10 * q * (pt - p)) (-(at_ * pt - 10 * q * (pt - p))) ∧ max (at_ * pt - 10 * q * (pt - p)) (-(at_ * pt - 10 * q * (pt - p))) ≤ 100000000 := by omega
          obtain ⟨⟨⟨x0, x1, x2, x3⟩, -⟩, ⟨⟨y0, y1, y2, y3⟩, fy0, fy1, fy2, fy3⟩, ⟨⟨u0, u1, u2, u3⟩, fu0, fu1, fu2, fu3⟩⟩ := HTH21.out
          go_wp2_with fail
          refine call_below (shStopPlace.i_c p q r s p _) ?_
          intro w22 hb22
          rw [HP0.out]
          have HTH22 := Lib.hid (HTH21.out.below hb22)
          have HA22 := Lib.hid (below_next HA21.out hb22)
          clear hb22 HTH21 HA21
          clear x0 x1 x2 x3 y0 y1 y2 y3 fy0 fy1 fy2 fy3 u0 u1 u2 u3 fu0 fu1 fu2 fu3
          obtain ⟨⟨⟨x0, x1, x2, x3⟩, -⟩, ⟨⟨y0, y1, y2, y3⟩, fy0, fy1, fy2, fy3⟩, ⟨⟨u0, u1, u2, u3⟩, fu0, fu1, fu2, fu3⟩⟩ := HTH22.out
          go_wp2_with fail
          refine call_same (r8Abs_c _ _ HN.out.1 HN.out.2) ?_
          have hsn := HSN.out
          generalize max (at_ * pt - 10 * q * (pt - p)) (-(at_ * pt - 10 * q * (pt - p))) = ab at *
          have d9 : decide (2 * ab ≤ pt) = true := decide_eq_true hsn
          go_wp2
          go_ret
          exact ⟨rfl, HA22.out⟩
        · have HT2 := Lib.hid (tension_no (cordB_no_g (p := p) (q := q) (r := g - 1) (s := s) (by omega)))
          clear hn
          refine call_below (shTensionOf.s_c p q (g - 1) s _) ?_
          intro w19 hb19
          rw [HT2.out]
          have HTH19 := Lib.hid (HTH18.out.below hb19)
          have HA19 := Lib.hid (below_next HA18.out hb19)
          clear hb19 HTH18 HA18
          go_wp2_with fail
          have hxc := wideF_bd (z := z1) (k := 2) (n := 3000) (by omega)
          have HWD := Lib.hid (fun n => r8Wide_f a1 cap1 z1 2 3000 (w19.drewN n) (HN1.out.below (below_drewN HA19.out n)) HB1.out HZ1.out (by omega) (by omega) (by omega) (by omega))
          generalize wideF z1 2 3000 = xc at hxc HWD
          obtain ⟨⟨⟨x0, x1, x2, x3⟩, -⟩, ⟨⟨y0, y1, y2, y3⟩, fy0, fy1, fy2, fy3⟩, ⟨⟨u0, u1, u2, u3⟩, fu0, fu1, fu2, fu3⟩⟩ := HTH19.out
          go_quiet ((go_at_call 18; exact quiet_at (HWD.out _)))
          have HTS := Lib.hid (HTH19.out.drewN nq)
          have HAS := Lib.hid (below_drewN HA19.out nq)
          clear HTH19 HA19 HWD
          generalize w19.drewN nq = w20 at HTS HAS ⊢
          clear x0 x1 x2 x3 y0 y1 y2 y3 fy0 fy1 fy2 fy3 u0 u1 u2 u3 fu0 fu1 fu2 fu3
          have HTH20 := HTS
          have HA20 := HAS
          clear HTS HAS
          obtain ⟨⟨⟨x0, x1, x2, x3⟩, -⟩, ⟨⟨y0, y1, y2, y3⟩, fy0, fy1, fy2, fy3⟩, ⟨⟨u0, u1, u2, u3⟩, fu0, fu1, fu2, fu3⟩⟩ := HTH20.out
          go_wp2_with fail
          generalize hpt : p + xc = pt at *
          have HP := Lib.hid (stop_ok (pt := pt) HOK.out ⟨by omega, by omega⟩)
          have HP0 := Lib.hid (stop_ok0 HOK.out ⟨by omega, by omega⟩)
          have hsb := stop_bd (q := q) (p := p) (m := pt) (by omega) (by omega) (by omega) (by omega)
          have HSN := Lib.hid (stop_near (n := 10 * q * (pt - p)) (b := pt) (Int.mul_nonneg (by omega) (by omega)) (by omega))
          have b3 := mul_bd (a := 10 * q) (A := 5000) (b := pt - p) (B := 10000) (by omega) (by omega) (by omega) (by omega)
          refine call_below (shStopPlace.i_c p q r s pt _) ?_
          intro w21 hb21
          rw [HP.out]
          have HTH21 := Lib.hid (HTH20.out.below hb21)
          have HA21 := Lib.hid (below_next HA20.out hb21)
          clear hb21 HTH20 HA20
          clear x0 x1 x2 x3 y0 y1 y2 y3 fy0 fy1 fy2 fy3 u0 u1 u2 u3 fu0 fu1 fu2 fu3
          generalize rdiv (10 * q * (pt - p)) pt = at_ at *
          have b4 := mul_bd (a := at_) (A := 5000) (b := pt) (B := 10000) (by omega) (by omega) (by omega) (by omega)
          have j1 := IntWalk.i64_in (10 * q * (pt - p)) (by omega)
          have j2 := IntWalk.i64_in (at_ * pt) (by omega)
          have j3 := IntWalk.i64_in (at_ * pt - 10 * q * (pt - p)) (by omega)
          have HN := Lib.hid (show -4611686018427387904 ≤ at_ * pt - 10 * q * (pt - p) ∧ at_ * pt - 10 * q * (pt - p) ≤ 4611686018427387904 by omega)
          have hmb : 0 ≤ max (at_ * pt - 10 * q * (pt - p)) (-(at_ * pt - 10 * q * (pt - p))) ∧ max (at_ * pt - 10 * q * (pt - p)) (-(at_ * pt - 10 * q * (pt - p))) ≤ 100000000 := by omega
          obtain ⟨⟨⟨x0, x1, x2, x3⟩, -⟩, ⟨⟨y0, y1, y2, y3⟩, fy0, fy1, fy2, fy3⟩, ⟨⟨u0, u1, u2, u3⟩, fu0, fu1, fu2, fu3⟩⟩ := HTH21.out
          go_wp2_with fail
          refine call_below (shStopPlace.i_c p q r s p _) ?_
          intro w22 hb22
          rw [HP0.out]
          have HTH22 := Lib.hid (HTH21.out.below hb22)
          have HA22 := Lib.hid (below_next HA21.out hb22)
          clear hb22 HTH21 HA21
          clear x0 x1 x2 x3 y0 y1 y2 y3 fy0 fy1 fy2 fy3 u0 u1 u2 u3 fu0 fu1 fu2 fu3
          obtain ⟨⟨⟨x0, x1, x2, x3⟩, -⟩, ⟨⟨y0, y1, y2, y3⟩, fy0, fy1, fy2, fy3⟩, ⟨⟨u0, u1, u2, u3⟩, fu0, fu1, fu2, fu3⟩⟩ := HTH22.out
          go_wp2_with fail
          refine call_same (r8Abs_c _ _ HN.out.1 HN.out.2) ?_
          have hsn := HSN.out
          generalize max (at_ * pt - 10 * q * (pt - p)) (-(at_ * pt - 10 * q * (pt - p))) = ab at *
          have d9 : decide (2 * ab ≤ pt) = true := decide_eq_true hsn
          go_wp2
          go_ret
          exact ⟨rfl, HA22.out⟩

theorem own : ownKnob Tryd.prog.godebug = none := by kernel_rfl
/-- The variables that the row lists. -/
def laid : List (String × DataW Unit) := [("math/bits.deBruijn32tab", Rows.laid_math_bits_deBruijn32tab), ("math/bits.deBruijn64tab", Rows.laid_math_bits_deBruijn64tab), ("internal/strconv.uint64pow10", Rows.laid_internal_strconv_uint64pow10), ("unicode/utf8.acceptRanges", Rows.laid_unicode_utf8_acceptRanges), ("strconv.ErrRange", Rows.laid_strconv_ErrRange), ("strconv.ErrSyntax", Rows.laid_strconv_ErrSyntax), ("unicode/utf8.first", Rows.laid_unicode_utf8_first)]
theorem laidOut : laidOutB Tryd.prog = true := by kernel_rfl
theorem star : "*" ++ "errors.errorString" = "*errors.errorString" := by decide
theorem rowE (u : TypeId) (h : Tryd.prog.typeName? 3 u = some "*errors.errorString") : u = 139 :=
  typeName_ptr_named (nm := "errors.errorString") (by rw [star]; kernel_rfl) (by kernel_rfl) (by decide) u (by rw [star]; exact h)
/-- What the condition and the world's shape give the walk. -/
theorem of_laid {W : World} (h : laidMetH Tryd.prog laid W) (hs : W.ShapedOpen Tryd.prog) : Door W := by
  rw [MakeChecks.laidMetH_plain _ _ _ (by kernel_rfl)] at h
  have h0 : Lib.TabIs Tryd.prog W "internal/strconv.uint64pow10" .u64 Lib.pow10Tab := Lib.tabIs_of_head (g := 3) (t := 128) (e := 68) (n := 20) (by kernel_rfl) (by kernel_rfl) Tryd.underlying128 Tryd.underlying68 (by kernel_rfl) (by kernel_rfl) (laidMet.tail (laidMet.tail h))
  obtain ⟨a1, s1, hv1, -, -, -⟩ := laid_sentinel (g := 1) (laidMet.tail (laidMet.tail (laidMet.tail (laidMet.tail (laidMet.tail h))))) (by kernel_rfl) (by kernel_rfl) Tryd.underlying84 rowE Tryd.underlying139 Tryd.underlying141 rfl rfl Tryd.underlying9 (by kernel_rfl) (by kernel_rfl)
  obtain ⟨a2, s2, hv2, -, -, -⟩ := laid_sentinel (g := 2) (laidMet.tail (laidMet.tail (laidMet.tail (laidMet.tail h)))) (by kernel_rfl) (by kernel_rfl) Tryd.underlying84 rowE Tryd.underlying139 Tryd.underlying141 rfl rfl Tryd.underlying9 (by kernel_rfl) (by kernel_rfl)
  obtain ⟨m, hm⟩ := Go.Proofs.cell_of_shapedOpen_int (g := 0) (t := 3) (zero := #[.int .i64 0]) (k := .i64) hs (of_decide_eq_true (by kernel_rfl)) (by kernel_rfl) rfl (by kernel_rfl) (by kernel_rfl) Tryd.underlying3
  exact ⟨h0, ⟨m, hm⟩, ⟨_, _, by simpa using World.var?_cell (show Tryd.prog.globalNamed "strconv.ErrSyntax" = some 1 by kernel_rfl) hv1 0⟩, ⟨_, _, by simpa using World.var?_cell (show Tryd.prog.globalNamed "strconv.ErrRange" = some 2 by kernel_rfl) hv2 0⟩⟩
set_option maxRecDepth 100000 in
theorem lifted (os : Os) (started : os.Started) (H : Type) (enc : TypeId × Value → H) :
    ReturnsInHanded {} Tryd.checked os 3 .any (fun w args => (Rows.fnStringsSpec.pre enc Tryd.prog Tryd.f3 [] false w args ∧ laidMetH Tryd.prog laid w) ∧ sizedMet enc Tryd.prog Tryd.f3 (OpenSpec.ofChange Rows.fnStringsSpec) false w args)
      (Rows.fnStringsSpec.post enc Tryd.prog Tryd.f3 false true false false) := by
  refine handed_both (C := Tryd.checked) (X := fun w _ => laidMetH Tryd.prog laid w) (fun _ _ _ hh h => h.of_heap hh) own started (by kernel_rfl) Tryd.func3
    (ChangeSpec.witness_shaped (enc := enc) (C := Tryd.checked) (os := os) (X := fun w _ => laidMetH Tryd.prog laid w) false (World.laidAll Tryd.prog os laid) #[.slice none 0 0, .slice none 0 0] 8 (World.laidAll_os _ _ _) (World.shaped_of_ZipB (by kernel_rfl) (by kernel_rfl)) (by kernel_rfl) (by kernel_rfl) (by kernel_rfl)
      (by rw [MakeChecks.laidMetH_plain _ _ _ (by kernel_rfl)]; exact laidMet_laidAll _ (by kernel_rfl) (by kernel_rfl))) ?_
  intro W base args ds gs before hval0 hW hL hSh
  have hval : ∀ (j : Nat) t v, Tryd.f3.params[j]? = some t → args[j]? = some v → Value.okWide Tryd.prog W .any base t v := hval0
  have hW' := hW
  obtain ⟨p, q, hA0, hV, rfl, hfz, hnd⟩ := hW
  have hA : DataW.TrodAll enc Tryd.prog W 0 (fun _ => true) true Tryd.f3.params.toList args.toList ds p := hA0
  rw [Tryd.params3] at hA hval
  obtain ⟨v0, vs0, d0, ds0, p0, q0, hargs, rfl, rfl, h0, r0⟩ := trodAll_cons hA
  obtain ⟨v1, vs1, d1, ds1, p1, q1, rfl, rfl, rfl, h1, r1⟩ := trodAll_cons r0
  obtain ⟨rfl, rfl, rfl⟩ := trodAll_nil r1
  obtain rfl : args = #[v0, v1] := by cases args; simp_all
  obtain ⟨rfl, rfl⟩ := trodVars_none hV
  have k0 := h0
  have lt0 : ∀ x ∈ p0, x.block < W.heap.size := by obtain ⟨m, hm⟩ := k0; exact DataW.trod_lt m _ _ _ hm
  obtain ⟨a0, len0, cap0, rfl⟩ := okWide_slice Tryd.underlying22 (hval 0 22 v0 rfl rfl)
  obtain ⟨z0, rfl, w0, m0, f0⟩ : ∃ zs : List Int, zs.length = len0 ∧ Nums .u8 W a0 zs ∧ zs.length ≤ maxLen ∧ ∀ n ∈ zs, (Lit.int .u8 n).wf = true := by
    obtain ⟨fuel, hf⟩ := h0
    exact nums_open Tryd.underlying22 Tryd.underlying5 (by kernel_rfl) hf
  have k1 := h1
  have lt1 : ∀ x ∈ p1, x.block < W.heap.size := by obtain ⟨m, hm⟩ := k1; exact DataW.trod_lt m _ _ _ hm
  obtain ⟨a1, len1, cap1, rfl⟩ := okWide_slice Tryd.underlying22 (hval 1 22 v1 rfl rfl)
  obtain ⟨z1, rfl, w1, m1, f1⟩ : ∃ zs : List Int, zs.length = len1 ∧ Nums .u8 W a1 zs ∧ zs.length ≤ maxLen ∧ ∀ n ∈ zs, (Lit.int .u8 n).wf = true := by
    obtain ⟨fuel, hf⟩ := h1
    exact nums_open Tryd.underlying22 Tryd.underlying5 (by kernel_rfl) hf
  clear hA0 hval0
  refine (walk a0 cap0 z0 a1 cap1 z1 W w0 m0 f0 w1 m1 f1 (of_laid hL hSh)).mono fun e W' ⟨he, bel⟩ => ?_
  subst he
  exact ⟨_, rfl, _, _, _, [], _, [], hW', trodAll_mk1 (shut_bool Tryd.underlying4 _), (trodAll_cons_mk (Below.trod laidOut (by kernel_rfl) (of_decide_eq_true (by kernel_rfl)) k0 bel lt0) (trodAll_cons_mk (Below.trod laidOut (by kernel_rfl) (of_decide_eq_true (by kernel_rfl)) k1 bel lt1) trodAll_mk0)), rfl, bel.frame _, fun h => by cases h⟩

theorem over : Rows.fnStringsRow.holds Tryd.pinned (OpenSpec.ofChange Rows.fnStringsSpec) :=
  OpenClaim.holds_of_wide 3 Tryd.f3 rfl rfl rfl rfl rfl rfl rfl ⟨rfl, rfl, rfl, rfl, rfl⟩ rfl rfl rfl rfl rfl (by kernel_rfl) Tryd.func3 (by kernel_rfl)
    (of_decide_eq_true (by kernel_rfl)) (by unfold Func.isWrapper; first | (rw [if_pos (by decide +kernel)]; kernel_rfl) | (rw [if_neg (by decide +kernel)]; exact ⟨rfl, rfl⟩))
    (fun os started H enc _ => lifted os started H enc)

/-- THE STATEMENT. -/
theorem proved : Rows.FnStringsCardSaid :=
  Claim7.holds_tied_plain_at .later [] [.data, .data, .data, .data, .sentinel, .sentinel, .pinned] true (true, "3113e636914b5ee0e18a025aa45ab23ef71d679e2348896199a0085c3278dd07") true
    over (fun _ h => by cases h) (by kernel_rfl) (fun _ h => by cases h) fnStrings_row_tie rfl ⟨rfl, rfl⟩ (by kernel_rfl) rfl
    (fun f fn hf hfn => by
      obtain rfl : f = 3 := Option.some.inj ((show Tryd.prog.funcNamed "loop.example/g01061/laws.FnStrings" = some 3 by kernel_rfl).symm.trans hf) |>.symm
      obtain rfl : fn = Tryd.f3 := (Option.some.inj (Tryd.func3.symm.trans hfn)).symm
      exact ⟨by kernel_rfl, fun j t ht => by
        rw [Tryd.params3] at ht
        have hm : t ∈ [22, 22] := by simpa using Array.mem_of_getElem? ht
        have hall : ([22, 22].all fun u => !Tryd.prog.wantsStandIn u) = true := by kernel_rfl
        exact (show Tryd.prog.wantsStandIn t = false by simpa using List.all_eq_true.1 hall t hm)⟩)
    (by kernel_rfl)
#print axioms proved
end Go.Proofs.YtpklckpnhjhnhaaDoor.lawStrings
