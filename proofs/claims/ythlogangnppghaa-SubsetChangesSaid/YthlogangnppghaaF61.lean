/- waybill/draw.Next: a plain function, and that the machine's call comes to it: printed by a program of the session's own. -/
import Derived.Test.YthlogangnppghaaK
import Derived.Test.YthlogangnppghaaF50
set_option linter.unusedVariables false
set_option linter.unusedSimpArgs false
namespace Go.Proofs.Ythlogangnppghaa.M
open Go Go.Proofs.Ythlogangnppghaa.Sl
/-! ### waybill/draw.Next: function 61 -/
def draw_Next.f (x_state : Int) : Option (Int × Int) := (hash_Mix.f (IntKind.u64.wrap (x_state + 11400714819323198485))).bind fun z2t => (some (IntKind.u64.wrap (x_state + 11400714819323198485), z2t))
set_option maxRecDepth 100000 in
set_option maxHeartbeats 4000000 in
theorem draw_Next.calls (x_state : Int) (W0 : World) (X : Heap)  (Hq : HS W0 [isH X] W0) (r : Int × Int) (H : draw_Next.f x_state = some r) :
    Calls Try.prog 61 #[.int .u64 x_state] W0 (fun e w => e = .returned (.tuple #[.int .u64 r.1, .int .u64 r.2]) ∧ HS W0 [isH X] w) := by
  rw [draw_Next.f] at H
  refine calls_in Try.func61 rfl rfl ?_
  intro a0 S0
  refine w_seq ?_
  refine w_region ?_
  refine r_pures [_, _] S0 rfl ?_
  clear S0; intro a0 S0
  refine wl_nil ?_
  refine nr_then ?_
  refine w_seq ?_
  refine w_region ?_
  refine r_pures [_, _, _] S0 rfl ?_
  clear S0; intro a0 S0
  refine wl_nil ?_
  refine nr_then ?_
  refine w_seq ?_
  refine w_region ?_
  refine r_pures [_, _] S0 rfl ?_
  clear S0; intro a0 S0
  obtain ⟨Xz1, HXz1, HPz1, HBz1⟩ := call_frame [] Hq
  dsimp only [List.cons_append, List.nil_append] at HXz1 HBz1
  obtain ⟨z2t, Hc, H⟩ := Option.bind_eq_some_iff.mp H
  refine r_call S0 rfl rfl goes50 rfl ?_
  refine (hash_Mix.calls (IntKind.u64.wrap (x_state + 11400714819323198485)) _ _  HXz1 z2t Hc).mono ?_
  rintro e w ⟨rfl, Hq'⟩
  have Hq : HS W0 [isH X] w := HBz1 [] _ Hq'
  clear HXz1 HPz1 HBz1 Hq'
  refine ⟨.int .u64 z2t, rfl, ?_⟩; clear S0; intro a0 S0
  refine r_pures [_, _] S0 rfl ?_
  clear S0; intro a0 S0
  refine wl_nil ?_
  refine nr_then ?_
  refine w_ret ?_
  obtain rfl := Option.some.inj H
  refine ret2 S0 rfl rfl rfl ?_
  exact ⟨rfl, Hq⟩

end Go.Proofs.Ythlogangnppghaa.M
