/- Lists of numbers that are not negative, written out: the reference's own way. -/
import Derived.Test.YtpklckpnhjhnhaaDoorDec
import Derived.Lib.Join
import Derived.Laws.Concat
namespace Go.Proofs.YtpklckpnhjhnhaaDoor
open Go.RowKit Go.ChangeShapes Go.WideShapes
set_option linter.unusedVariables false

/-- The k-th text of a list of texts. -/
def nthT (ts : List (List UInt8)) (j : Nat) : List UInt8 := ts.getD j []
/-- The first k texts, with a separator between each two. -/
def jt (sep : UInt8) (ts : List (List UInt8)) (k : Nat) : List UInt8 := Lib.join (ts.take k) [sep]
theorem jt_zero (sep : UInt8) (ts : List (List UInt8)) : jt sep ts 0 = [] := by simp [jt, Lib.join_nil]
theorem jt_all (sep : UInt8) (ts : List (List UInt8)) : jt sep ts ts.length = Lib.join ts [sep] := by simp [jt]
theorem jt_one {sep : UInt8} {ts : List (List UInt8)} (h : 0 < ts.length) : jt sep ts 1 = nthT ts 0 := by
  cases ts with
  | nil => simp at h
  | cons x r => simp [jt, nthT, Lib.join_one]
theorem jt_succ {sep : UInt8} {ts : List (List UInt8)} {k : Nat} (hk : k ≠ 0) (h : k < ts.length) : jt sep ts (k + 1) = jt sep ts k ++ [sep] ++ nthT ts k := by
  cases ts with
  | nil => simp at h
  | cons x r =>
    obtain ⟨m, rfl⟩ : ∃ m, k = m + 1 := ⟨k - 1, by omega⟩
    simp only [List.length_cons] at h
    have hm : m < r.length := by omega
    have hy : r[m]? = some r[m] := List.getElem?_eq_getElem hm
    unfold jt
    rw [List.take_succ_cons, List.take_succ_cons, Lib.join_cons, Lib.join_cons, Lib.joinTail_take_succ [sep] r m _ hy]
    simp [nthT, hm]
theorem jt_len {sep : UInt8} {ts : List (List UInt8)} {b : Nat} (hb : ∀ j, j < ts.length → (nthT ts j).length ≤ b) : ∀ k, k ≤ ts.length → (jt sep ts k).length ≤ k * (b + 1)
  | 0, _ => by rw [jt_zero]; simp
  | k + 1, h => by
    have h1 := jt_len (sep := sep) hb k (by omega)
    have h2 := hb k (by omega)
    have h3 : (k + 1) * (b + 1) = k * (b + 1) + (b + 1) := Nat.succ_mul _ _
    by_cases hk : k = 0
    · subst hk
      rw [jt_one (by omega)]
      omega
    · rw [jt_succ hk (by omega)]
      simp only [List.length_append, List.length_cons, List.length_nil]
      omega
/-- The texts of a row's numbers. -/
def numTs (xs : List Int) : List (List UInt8) := xs.map Lib.itoa
theorem numTs_len (xs : List Int) : (numTs xs).length = xs.length := by simp [numTs]
theorem numTs_nth {xs : List Int} {j : Nat} (h : j < xs.length) : nthT (numTs xs) j = Lib.itoa (nth xs j) := by simp [nthT, numTs, nth, h]
theorem itoa_len {n : Nat} (h : n < 10 ^ 15) : (Lib.itoa (n : Int)).length ≤ 15 := by
  by_cases h0 : n = 0
  · subst h0
    rw [show (Lib.itoa ((0 : Nat) : Int)) = [48] by rw [Lib.itoa, if_neg (by omega)]; rw [show ((0 : Nat) : Int).toNat = 0 from rfl, Lib.decDigits, dif_pos (by omega)]; rfl]
    simp
  · rw [show (Lib.itoa (n : Int)) = (digs n).reverse by rw [Lib.itoa, if_neg (by omega), digs_dec n h0]; simp, List.length_reverse]
    exact digs_len 15 n h
/-- Every number is one of at most fifteen digits, without a sign. -/
def NumOk (xs : List Int) : Prop := ∀ j, j < xs.length → 0 ≤ nth xs j ∧ nth xs j ≤ 1000000000000
theorem NumOk.len {xs : List Int} (h : NumOk xs) : ∀ j, j < (numTs xs).length → (nthT (numTs xs) j).length ≤ 15 := by
  intro j hj
  rw [numTs_len] at hj
  rw [numTs_nth hj]
  have hh := h j hj
  obtain ⟨n, hn⟩ : ∃ n : Nat, nth xs j = n := ⟨(nth xs j).toNat, by omega⟩
  rw [hn]
  exact itoa_len (by omega)
/-- A list's text. -/
def listT (xs : List Int) : List UInt8 := if xs.length = 0 then [45] else jt 44 (numTs xs) xs.length

end Go.Proofs.YtpklckpnhjhnhaaDoor
