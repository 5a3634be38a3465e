/- slices.Contains[[]int,int]: a plain function, and that the machine's call comes to it: printed by a program of the session's own. -/
import Derived.Test.YthlogangnppghaaK
import Derived.Test.YthlogangnppghaaF43
set_option linter.unusedVariables false
set_option linter.unusedSimpArgs false
namespace Go.Proofs.Ythlogangnppghaa.M
open Go Go.Proofs.Ythlogangnppghaa.Sl
/-! ### slices.Contains[[]int,int]: function 34 -/
def slices_Contains_int_int.f (k : Nat) (x_s : List Int) (x_v : Int) : Option (Bool) := (slices_Index_int_int.f k x_s x_v).bind fun z2t => (some (decide (0 ≤ z2t)))
set_option maxRecDepth 100000 in
set_option maxHeartbeats 4000000 in
theorem slices_Contains_int_int.calls (k : Nat) (A0 : Option Addr) (n0 c0 : Nat) (x_s : List Int) (x_v : Int) (W0 : World) (X : Heap) (HR0 : Rd e_i64 X A0 n0 c0 x_s) (Hq : HS W0 [isH X] W0) (r : Bool) (H : slices_Contains_int_int.f k x_s x_v = some r) :
    Calls Try.prog 34 #[.slice A0 n0 c0, .int .i64 x_v] W0 (fun e w => e = .returned (.bool r) ∧ HS W0 [isH X] w) := by
  obtain rfl := HR0.1
  rw [slices_Contains_int_int.f] at H
  refine calls_in Try.func34 rfl rfl ?_
  intro a0 S0
  refine w_seq ?_
  refine w_region ?_
  refine r_pures [_] S0 rfl ?_
  clear S0; intro a0 S0
  refine wl_nil ?_
  refine nr_then ?_
  refine w_seq ?_
  refine w_region ?_
  refine r_pures [_, _] S0 rfl ?_
  clear S0; intro a0 S0
  obtain ⟨Xz1, HXz1, HPz1, HBz1⟩ := call_frame [] Hq
  dsimp only [List.cons_append, List.nil_append] at HXz1 HBz1
  obtain ⟨z2t, Hc, H⟩ := Option.bind_eq_some_iff.mp H
  refine r_call S0 rfl rfl goes43 rfl ?_
  refine (slices_Index_int_int.calls _ _ _ _ x_s x_v _ _ (sl_isH_rd [] HPz1 HR0) HXz1 z2t Hc).mono ?_
  rintro e w ⟨rfl, Hq'⟩
  have Hq : HS W0 [isH X] w := HBz1 [] _ Hq'
  clear HXz1 HPz1 HBz1 Hq'
  refine ⟨.int .i64 z2t, rfl, ?_⟩; clear S0; intro a0 S0
  refine r_pures [_, _] S0 rfl ?_
  clear S0; intro a0 S0
  refine wl_nil ?_
  refine nr_then ?_
  refine w_ret ?_
  obtain rfl := Option.some.inj H
  refine ret1 S0 rfl rfl ?_
  exact ⟨rfl, Hq⟩

end Go.Proofs.Ythlogangnppghaa.M
