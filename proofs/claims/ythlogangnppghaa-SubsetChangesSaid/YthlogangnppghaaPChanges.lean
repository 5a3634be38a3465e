/- The law SubsetChanges, as the translation's plain function: it answers true. -/
import Derived.Test.YthlogangnppghaaPD
import Derived.Test.YthlogangnppghaaPAl
import Derived.Test.YthlogangnppghaaF4
set_option linter.unusedVariables false
set_option linter.unusedSimpArgs false
namespace Go.Proofs.Ythlogangnppghaa.M
open Go Go.Proofs.Ythlogangnppghaa.Sl

theorem has_l0 (l : List Int) (v : Int) (hl : l.length < 9000000000000000000) : ∀ (m i k : Nat), i + m = l.length → m < k → waybilllaw13_has.l0 k l v i = some (decide (v ∈ l.drop i))
  | 0, i, k + 1, h1, h2 => by
    rw [waybilllaw13_has.l0, if_neg (by omega), List.drop_of_length_le (by omega)]; simp
  | m + 1, i, k + 1, h1, h2 => by
    have hlt : i < l.length := by omega
    have hr : rd e_i64 l (i : Int) = l[i] := rd_nat _ _ i hlt
    rw [waybilllaw13_has.l0, if_pos (by omega), if_pos (by omega), hr, List.drop_eq_getElem_cons hlt]
    by_cases hv : l[i] = v
    · rw [if_pos hv, ← hv, decide_eq_true List.mem_cons_self]
    · rw [if_neg hv, W_eq (by omega) (by omega)]
      have := has_l0 l v hl m (i + 1) k (by omega) (by omega)
      rw [show ((i : Int) + 1) = ((i + 1 : Nat) : Int) by omega, this]
      have hv' : ¬ v = l[i] := fun e => hv e.symm
      congr 1
      rw [decide_eq_decide, List.mem_cons]
      exact ⟨Or.inr, fun h => h.resolve_left hv'⟩
theorem has_ok (l : List Int) (v : Int) (hl : l.length < 9000000000000000000) {k : Nat} (hk : l.length < k) : waybilllaw13_has.f k l v = some (decide (v ∈ l)) := by
  rw [waybilllaw13_has.f]
  exact has_l0 l v hl l.length 0 k (by omega) hk
theorem less_len (l no : List Int) : (less l no).length ≤ l.length := by
  rw [less]
  refine Nat.le_trans (Lib.compact_length_le _) ?_
  rw [List.length_mergeSort]; exact List.length_filter_le _ _
theorem changes_ok (old ids : List Int) (n : Int) (h1 : old.length < 17592186044416) (h2 : ids.length < 17592186044416) : ∃ k, waybilllaw13_SubsetChanges.f k old ids n = some true := by
  have l1 := less_len ids old
  have l2 := less_len old ids
  refine ⟨old.length + ids.length + 100, ?_⟩
  have a1 := has_ok ids n (by omega) (k := old.length + ids.length + 100) (by omega)
  have a2 := has_ok old n (by omega) (k := old.length + ids.length + 100) (by omega)
  have a3 := has_ok (less ids old) n (by omega) (k := old.length + ids.length + 100) (by omega)
  have a4 := has_ok (less old ids) n (by omega) (k := old.length + ids.length + 100) (by omega)
  have a5 := change_ok old ids h1 h2 (k := old.length + ids.length + 100) (by omega)
  rw [waybilllaw13_SubsetChanges.f, alive_ok (by omega)]
  simp only [Option.bind_some, if_true, a1, a2, a3, a4, a5, less_mem]
  by_cases p : n ∈ ids <;> by_cases q : n ∈ old <;> simp [p, q]
end Go.Proofs.Ythlogangnppghaa.M
