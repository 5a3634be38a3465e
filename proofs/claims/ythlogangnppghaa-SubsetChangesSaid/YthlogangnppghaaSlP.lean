/- Words for the plain laws: whole numbers within their kinds, elements, swaps. -/
import Derived.Test.YthlogangnppghaaSlI
import Derived.Laws.Bits64
import Derived.Laws.BitsLemmas
set_option linter.unusedVariables false
set_option linter.unusedSimpArgs false
namespace Go.Proofs.Ythlogangnppghaa.Sl
open Go

theorem W_eq {x : Int} (h1 : -9223372036854775808 ≤ x) (h2 : x ≤ 9223372036854775807) : IntKind.i64.wrap x = x := by
  rw [IntKind.wrap_i64]; omega
theorem U_lo (x : Int) : 0 ≤ IntKind.u64.wrap x := by rw [IntKind.wrap_u64]; omega
theorem U_hi (x : Int) : IntKind.u64.wrap x < 18446744073709551616 := by rw [IntKind.wrap_u64]; omega
theorem U_eq {x : Int} (h1 : 0 ≤ x) (h2 : x < 18446744073709551616) : IntKind.u64.wrap x = x := by rw [IntKind.wrap_u64]; omega
theorem wf_i64 {x : Int} (h : (Lit.int .i64 x).wf = true) : -9223372036854775808 ≤ x ∧ x ≤ 9223372036854775807 := by
  simp only [Lit.wf, Bool.and_eq_true, decide_eq_true_eq, IntKind.min, IntKind.max, IntKind.signed, IntKind.bits] at h
  simp at h; omega
theorem wf_u64 {x : Int} (h : (Lit.int .u64 x).wf = true) : 0 ≤ x ∧ x < 18446744073709551616 := by
  simp only [Lit.wf, Bool.and_eq_true, decide_eq_true_eq, IntKind.min, IntKind.max, IntKind.signed, IntKind.bits] at h
  simp at h; omega
theorem rd_nat {α : Type} (e : En α) (l : List α) (i : Nat) (h : i < l.length) : rd e l (i : Int) = l[i] := by
  simp [rd, List.getD, List.getElem?_eq_getElem h]
theorem rd_int {α : Type} (e : En α) (l : List α) {i : Int} (h0 : 0 ≤ i) (h : i.toNat < l.length) : rd e l i = l[i.toNat] := by
  simp [rd, List.getD, List.getElem?_eq_getElem h]
theorem rd_mem {α : Type} (e : En α) (l : List α) {i : Int} (h0 : 0 ≤ i) (h : i < (l.length : Int)) : rd e l i ∈ l := by
  rw [rd_int e l h0 (by omega)]; exact List.getElem_mem _
theorem swap_perm {e : En Int} (l : List Int) {i j : Int} (hi0 : 0 ≤ i) (hi : i < (l.length : Int)) (hj0 : 0 ≤ j) (hj : j < (l.length : Int)) :
    ((l.set i.toNat (rd e l j)).set j.toNat (rd e l i)).Perm l := by
  rw [rd_int e l hi0 (by omega), rd_int e l hj0 (by omega)]
  exact List.set_set_perm (by omega) (by omega)
end Go.Proofs.Ythlogangnppghaa.Sl
