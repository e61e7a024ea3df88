/- Lists of numbers that are not negative, written out: the reference's own way. -/
import Derived.Test.YthhgepiccjndpaaDoorDec
import Derived.Lib.Join
import Derived.Laws.Concat
namespace Go.Proofs.YthhgepiccjndpaaDoor
open Go.RowKit Go.ChangeShapes Go.WideShapes
set_option linter.unusedVariables false

/-- The k-th text of a list of texts. -/
def nthT (ts : List (List UInt8)) (j : Nat) : List UInt8 := ts.getD j []
/-- The first k texts, with a separator between each two. -/
def jt (sep : UInt8) (ts : List (List UInt8)) (k : Nat) : List UInt8 := Lib.join (ts.take k) [sep]
theorem jt_zero (sep : UInt8) (ts : List (List UInt8)) : jt sep ts 0 = [] := by simp [jt, Lib.join_nil]
theorem jt_all (sep : UInt8) (ts : List (List UInt8)) : jt sep ts ts.length = Lib.join ts [sep] := by simp [jt]
theorem jt_one {sep : UInt8} {ts : List (List UInt8)} (h : 0 < ts.length) : jt sep ts 1 = nthT ts 0 := by
  cases ts with
  | nil => simp at h
  | cons x r => simp [jt, nthT, Lib.join_one]
theorem jt_succ {sep : UInt8} {ts : List (List UInt8)} {k : Nat} (hk : k ≠ 0) (h : k < ts.length) : jt sep ts (k + 1) = jt sep ts k ++ [sep] ++ nthT ts k := by
  cases ts with
  | nil => simp at h
  | cons x r =>
    obtain ⟨m, rfl⟩ : ∃ m, k = m + 1 := ⟨k - 1, by omega⟩
    simp only [List.length_cons] at h
    have hm : m < r.length := by omega
    have hy : r[m]? = some r[m] := List.getElem?_eq_getElem hm
    unfold jt
    rw [List.take_succ_cons, List.take_succ_cons, Lib.join_cons, Lib.join_cons, Lib.joinTail_take_succ [sep] r m _ hy]
    simp [nthT, hm]
theorem jt_len {sep : UInt8} {ts : List (List UInt8)} {b : Nat} (hb : ∀ j, j < ts.length → (nthT ts j).length ≤ b) : ∀ k, k ≤ ts.length → (jt sep ts k).length ≤ k * (b + 1)
  | 0, _ => by rw [jt_zero]; simp
  | k + 1, h => by
    have h1 := jt_len (sep := sep) hb k (by omega)
    have h2 := hb k (by omega)
    have h3 : (k + 1) * (b + 1) = k * (b + 1) + (b + 1) := Nat.succ_mul _ _
    by_cases hk : k = 0
    · subst hk
      rw [jt_one (by omega)]
      omega
    · rw [jt_succ hk (by omega)]
      simp only [List.length_append, List.length_cons, List.length_nil]
      omega
/-- The texts of a row's numbers. -/
def numTs (xs : List Int) : List (List UInt8) := xs.map Lib.itoa
theorem numTs_len (xs : List Int) : (numTs xs).length = xs.length := by simp [numTs]
theorem numTs_nth {xs : List Int} {j : Nat} (h : j < xs.length) : nthT (numTs xs) j = Lib.itoa (nth xs j) := by simp [nthT, numTs, nth, h]
theorem itoa_len {n : Nat} (h : n < 10 ^ 15) : (Lib.itoa (n : Int)).length ≤ 15 := by
  by_cases h0 : n = 0
  · subst h0
    rw [show (Lib.itoa ((0 : Nat) : Int)) = [48] by rw [Lib.itoa, if_neg (by omega)]; rw [show ((0 : Nat) : Int).toNat = 0 from rfl, Lib.decDigits, dif_pos (by omega)]; rfl]
    simp
  · rw [show (Lib.itoa (n : Int)) = (digs n).reverse by rw [Lib.itoa, if_neg (by omega), digs_dec n h0]; simp, List.length_reverse]
    exact digs_len 15 n h
/-- Every number is one of at most fifteen digits, without a sign. -/
def NumOk (xs : List Int) : Prop := ∀ j, j < xs.length → 0 ≤ nth xs j ∧ nth xs j ≤ 1000000000000
theorem NumOk.len {xs : List Int} (h : NumOk xs) : ∀ j, j < (numTs xs).length → (nthT (numTs xs) j).length ≤ 15 := by
  intro j hj
  rw [numTs_len] at hj
  rw [numTs_nth hj]
  have hh := h j hj
  obtain ⟨n, hn⟩ : ∃ n : Nat, nth xs j = n := ⟨(nth xs j).toNat, by omega⟩
  rw [hn]
  exact itoa_len (by omega)
/-- A list's text. -/
def listT (xs : List Int) : List UInt8 := if xs.length = 0 then [45] else jt 44 (numTs xs) xs.length

set_option maxRecDepth 100000 in
theorem l01List_c (a : Option Addr) (cap : Nat) (xs : List Int) (w : World) (h : Nums .i64 w a xs) (hn : xs.length ≤ 64) (hx : NumOk xs) :
    Calls Tryd.prog 79 #[.slice a xs.length cap] w fun e w' => e = .returned (.string ⟨(listT xs).toArray⟩) ∧ Below w.heap.size w w' := by
  have HX := Lib.hid hx
  have HT := Lib.hid (jt_len (sep := 44) hx.len)
  clear hx
  by_cases h0 : xs.length = 0
  · have HF := Lib.hid (show listT xs = [45] by unfold listT; rw [if_pos h0])
    go_enter Tryd.func79, Tryd.ntmps79
    go_wp2
    go_ret
    exact ⟨by rw [HF.out]; rfl, Below.refl _ _⟩
  · have HF := Lib.hid (show listT xs = jt 44 (numTs xs) xs.length by unfold listT; rw [if_neg h0])
    have hne : ((xs.length : Int) == 0) = false := by rw [beq_eq_false_iff_ne]; omega
    go_enter Tryd.func79, Tryd.ntmps79
    go_wp2
    go_loopw [3, 4] (fun s i wr => ∃ k : Nat, k ≤ xs.length ∧ i = .int .i64 k ∧ s = .string ⟨(jt 44 (numTs xs) k).toArray⟩ ∧ Below w.heap.size w wr) (fun _ i _ => xs.length - (intOf i).toNat)
    case atStart => exact ⟨0, Nat.zero_le _, rfl, by rw [jt_zero], Below.refl _ _⟩
    case round =>
      obtain ⟨k, hk, rfl, rfl, hbl⟩ := hrel
      have HL := Lib.hid hbl
      by_cases hlt : k < xs.length
      · obtain ⟨b, o, rfl, hb, hc⟩ := (h.below hbl).pos hlt
        have hv := HX.out k hlt
        obtain ⟨n, hn⟩ : ∃ n : Nat, nth xs k = n := ⟨(nth xs k).toNat, by omega⟩
        have hlen := HT.out k (by rw [numTs_len]; omega)
        rw [hn] at hc hv
        clear hbl
        have HNB := Lib.hid (show n < 10 ^ 15 by omega)
        have HLV := Lib.hid (itoa_len HNB.out)
        have HV := Lib.hid (show nthT (numTs xs) k = Lib.itoa (n : Int) by rw [numTs_nth hlt, hn])
        clear hlen hn hv
        by_cases hk0 : k = 0
        · have d : decide (0 < k) = false := decide_eq_false (by omega)
          have HJ := Lib.hid (show jt 44 (numTs xs) (k + 1) = Lib.itoa (n : Int) by rw [hk0, jt_one (by rw [numTs_len]; omega), ← hk0, HV.out])
          have HZ := Lib.hid (show jt 44 (numTs xs) k = [] by rw [hk0, jt_zero])
          have hsz := HL.out.size
          rw [HZ.out]
          clear hk0
          go_wp2_with (go_at_call 92; refine call_below (l01Dec_c n _ HNB.out) fun w1 hb1 => ?_; refine Hid.out ?_)
          refine Lib.hid ?_
          have hlv := HLV.out
          generalize Lib.itoa (n : Int) = z at hlv HJ ⊢
          go_wp2_with fail
          refine ⟨⟨k + 1, hlt, by simp, ?_, below_next HL.out hb1⟩, by simp only [intOf]; omega⟩
          rw [HJ.out]
          exact congrArg Value.string (ByteArray.mk_append_mk [] z)
        · have d : decide (0 < k) = true := decide_eq_true (by omega)
          have HJ := Lib.hid (show jt 44 (numTs xs) (k + 1) = jt 44 (numTs xs) k ++ [44] ++ Lib.itoa (n : Int) by rw [jt_succ hk0 (by rw [numTs_len]; omega), HV.out])
          have hjl : (jt 44 (numTs xs) k).length ≤ 2000 := by have := HT.out k (by rw [numTs_len]; omega); omega
          have hsz := HL.out.size
          clear hk0
          generalize jt 44 (numTs xs) k = t at hjl HJ ⊢
          go_wp2_with (go_at_call 92; refine call_below (l01Dec_c n _ HNB.out) fun w1 hb1 => ?_; refine Hid.out ?_)
          refine Lib.hid ?_
          have hlv := HLV.out
          generalize Lib.itoa (n : Int) = z at hlv HJ ⊢
          go_wp2_with fail
          refine ⟨⟨k + 1, hlt, by simp, ?_, below_next HL.out hb1⟩, by simp only [intOf]; omega⟩
          rw [HJ.out]
          exact congrArg Value.string ((congrArg (· ++ _) (ByteArray.mk_append_mk t [44])).trans (ByteArray.mk_append_mk _ z))
      · have hkl : k = xs.length := by omega
        subst hkl
        go_wp2
        go_ret
        exact ⟨by rw [HF.out]; rfl, HL.out⟩
end Go.Proofs.YthhgepiccjndpaaDoor
