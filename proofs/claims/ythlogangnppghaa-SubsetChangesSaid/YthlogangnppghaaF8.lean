/- waybill/waybilllaw13.num: a plain function, and that the machine's call comes to it: printed by a program of the session's own. -/
import Derived.Test.YthlogangnppghaaK
set_option linter.unusedVariables false
set_option linter.unusedSimpArgs false
namespace Go.Proofs.Ythlogangnppghaa.M
open Go Go.Proofs.Ythlogangnppghaa.Sl
/-! ### waybill/waybilllaw13.num: function 8 -/
def waybilllaw13_num.f (x_e : Int) : Option (Int) := some x_e
set_option maxRecDepth 100000 in
set_option maxHeartbeats 4000000 in
theorem waybilllaw13_num.calls (x_e : Int) (W0 : World) (X : Heap)  (Hq : HS W0 [isH X] W0) (r : Int) (H : waybilllaw13_num.f x_e = some r) :
    Calls Try.prog 8 #[.int .i64 x_e] W0 (fun e w => e = .returned (.int .i64 r) ∧ HS W0 [isH X] w) := by
  rw [waybilllaw13_num.f] at H
  refine calls_in Try.func8 rfl rfl ?_
  intro a0 S0
  refine w_seq ?_
  refine w_region ?_
  refine r_pures [_] S0 rfl ?_
  clear S0; intro a0 S0
  refine wl_nil ?_
  refine nr_then ?_
  refine w_seq ?_
  refine w_region ?_
  refine r_pures [_, _] S0 rfl ?_
  clear S0; intro a0 S0
  refine wl_nil ?_
  refine nr_then ?_
  refine w_ret ?_
  obtain rfl := Option.some.inj H
  refine ret1 S0 rfl rfl ?_
  exact ⟨rfl, Hq⟩

end Go.Proofs.Ythlogangnppghaa.M
