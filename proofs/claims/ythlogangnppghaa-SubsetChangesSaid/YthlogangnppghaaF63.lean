/- waybill/hash.fold: a plain function, and that the machine's call comes to it: printed by a program of the session's own. -/
import Derived.Test.YthlogangnppghaaK
set_option linter.unusedVariables false
set_option linter.unusedSimpArgs false
namespace Go.Proofs.Ythlogangnppghaa.M
open Go Go.Proofs.Ythlogangnppghaa.Sl
/-! ### waybill/hash.fold: function 63 -/
def hash_fold.f (x_x : Int) : Option (Int) := some (bt_xor .u64 x_x (sh_shr .u64 x_x 33))
set_option maxRecDepth 100000 in
set_option maxHeartbeats 4000000 in
theorem hash_fold.calls (x_x : Int) (W0 : World) (X : Heap)  (Hq : HS W0 [isH X] W0) (r : Int) (H : hash_fold.f x_x = some r) :
    Calls Try.prog 63 #[.int .u64 x_x] W0 (fun e w => e = .returned (.int .u64 r) ∧ HS W0 [isH X] w) := by
  rw [hash_fold.f] at H
  refine calls_in Try.func63 rfl rfl ?_
  intro a0 S0
  refine w_seq ?_
  refine w_region ?_
  refine r_pures [_] S0 rfl ?_
  clear S0; intro a0 S0
  refine wl_nil ?_
  refine nr_then ?_
  refine w_seq ?_
  refine w_region ?_
  refine r_pures [_, _] S0 rfl ?_
  clear S0; intro a0 S0
  refine r_shr' S0 rfl rfl (by decide) rfl ?_
  clear S0; intro a0 S0
  refine r_pures [_, _] S0 rfl ?_
  clear S0; intro a0 S0
  refine wl_nil ?_
  refine nr_then ?_
  refine w_ret ?_
  obtain rfl := Option.some.inj H
  refine ret1 S0 rfl rfl ?_
  exact ⟨rfl, Hq⟩

end Go.Proofs.Ythlogangnppghaa.M
