/- The page's example, as the translation's plain function: it answers true. -/
import Derived.Test.YthlogangnppghaaSlP
import Derived.Test.YthlogangnppghaaF6
set_option linter.unusedVariables false
set_option linter.unusedSimpArgs false
namespace Go.Proofs.Ythlogangnppghaa.M
open Go Go.Proofs.Ythlogangnppghaa.Sl

theorem alive_ok {k : Nat} (hk : 40 < k) : waybilllaw13_alive.f k = some true := by
  obtain ⟨k, rfl⟩ : ∃ j, k = j + 5 := ⟨k - 5, by omega⟩
  have w (x : Int) (h1 : -100 ≤ x) (h2 : x ≤ 100) : IntKind.i64.wrap x = x := W_eq (by omega) (by omega)
  have hc : subset_dealer_check.f (k + 5) ⟨[1, 2, 3], 3, 0⟩ = some 0 := by
    simp [subset_dealer_check.f, subset_dealer_check.l0, w, rd]
  have hr : subset_Round.f 3 0 3 = some (0, 0, 0) := by simp [subset_Round.f]
  have hs : waybillplain_SameInts.f (k + 5) [1, 2, 3] [1, 2, 3] = some true := by
    simp [waybillplain_SameInts.f, waybillplain_SameInts.l0, w, rd]
  simp [waybilllaw13_alive.f, subset_Of.f, subset_dealer_of.f, hc, hr, subset_dealer_hand.f, slices_Clone_int_int.f, waybilllaw13_num.f, hs]
end Go.Proofs.Ythlogangnppghaa.M
