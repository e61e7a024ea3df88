/- The heights around a place: the reference's list. -/
import Derived.Test.YtlenihncfhemkaaArch
import Derived.Test.YtlenihncfhemkaaNear
import Derived.Test.YtlenihncfhemkaaMass
namespace Go.Proofs.Ytlenihncfhemkaa
open Go.RowKit Go.ChangeShapes Go.WideShapes
set_option linter.unusedVariables false

def arA (g : List (List Int)) (p : Nat × Nat) : List Int := if 0 < p.1 then [atG g (p.1 - 1, p.2)] else []
def arB (g : List (List Int)) (p : Nat × Nat) : List Int := if p.1 + 1 < g.length then [atG g (p.1 + 1, p.2)] else []
def arC (g : List (List Int)) (p : Nat × Nat) : List Int := if 0 < p.2 then [atG g (p.1, p.2 - 1)] else []
def arD (g : List (List Int)) (p : Nat × Nat) : List Int := if p.2 + 1 < (nthL g p.1).length then [atG g (p.1, p.2 + 1)] else []
def arL (g : List (List Int)) (p : Nat × Nat) : List Int := arA g p ++ arB g p ++ arC g p ++ arD g p

theorem own_new1c (w : World) (e : TypeId) (u : Value) (n : Nat) (hn : n = w.heap.size) : ∀ j x, [u][j]? = some x → (w.alloc (.cells #[u] e)).cell? ((⟨n, 0, none⟩ : Addr).add j) = some x := by
  subst hn
  exact own_new1 w e u
theorem arL_len1 (g : List (List Int)) (p : Nat × Nat) : (arA g p).length ≤ 3 := by unfold arA; split <;> simp
theorem arL_len2 (g : List (List Int)) (p : Nat × Nat) : (arA g p ++ arB g p).length ≤ 3 := by unfold arA arB; split <;> split <;> simp
theorem arL_len3 (g : List (List Int)) (p : Nat × Nat) : (arA g p ++ arB g p ++ arC g p).length ≤ 3 := by unfold arA arB arC; split <;> split <;> split <;> simp

theorem nearL_eq {n m : Nat} {p : Nat × Nat} (h1 : p.1 < n) (h2 : p.2 < m) :
    nearTo n m p 4 = (if 0 < p.1 then [(p.1 - 1, p.2)] else []) ++ (if 0 < p.2 then [(p.1, p.2 - 1)] else []) ++ (if p.2 + 1 < m then [(p.1, p.2 + 1)] else []) ++ (if p.1 + 1 < n then [(p.1 + 1, p.2)] else []) := by
  have e0 : inGB n m (cand p 0) = decide (0 < p.1) := decide_eq_decide.2 (by simp only [cand]; omega)
  have e1 : inGB n m (cand p 1) = decide (0 < p.2) := decide_eq_decide.2 (by simp only [cand]; omega)
  have e2 : inGB n m (cand p 2) = decide (p.2 + 1 < m) := decide_eq_decide.2 (by simp only [cand]; omega)
  have e3 : inGB n m (cand p 3) = decide (p.1 + 1 < n) := decide_eq_decide.2 (by simp only [cand]; omega)
  have n0 : natP (cand p 0) = (p.1 - 1, p.2) := by simp only [natP, cand, Prod.mk.injEq]; omega
  have n1 : natP (cand p 1) = (p.1, p.2 - 1) := by simp only [natP, cand, Prod.mk.injEq]; omega
  have n2 : natP (cand p 2) = (p.1, p.2 + 1) := by simp only [natP, cand, Prod.mk.injEq]; omega
  have n3 : natP (cand p 3) = (p.1 + 1, p.2) := by simp only [natP, cand, Prod.mk.injEq]; omega
  have e : List.range 4 = [0, 1, 2, 3] := rfl
  unfold nearTo
  rw [e]
  simp only [List.filter_cons, List.filter_nil, e0, e1, e2, e3, decide_eq_true_eq]
  by_cases t0 : 0 < p.1 <;> by_cases t1 : 0 < p.2 <;> by_cases t2 : p.2 + 1 < m <;> by_cases t3 : p.1 + 1 < n <;> simp only [t0, t1, t2, t3, if_true, if_false, List.map_cons, List.map_nil, n0, n1, n2, n3, List.nil_append, List.cons_append, List.append_nil]
end Go.Proofs.Ytlenihncfhemkaa
