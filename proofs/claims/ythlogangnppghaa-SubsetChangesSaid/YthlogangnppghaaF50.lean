/- waybill/hash.Mix: a plain function, and that the machine's call comes to it: printed by a program of the session's own. -/
import Derived.Test.YthlogangnppghaaK
import Derived.Test.YthlogangnppghaaF63
set_option linter.unusedVariables false
set_option linter.unusedSimpArgs false
namespace Go.Proofs.Ythlogangnppghaa.M
open Go Go.Proofs.Ythlogangnppghaa.Sl
/-! ### waybill/hash.Mix: function 50 -/
def hash_Mix.f (x_x : Int) : Option (Int) := (hash_fold.f x_x).bind fun z2t => ((hash_fold.f (IntKind.u64.wrap (z2t * 18397679294719823053))).bind fun z4t => ((hash_fold.f (IntKind.u64.wrap (z4t * 14181476777654086739))).bind fun z6t => (some z6t)))
set_option maxRecDepth 100000 in
set_option maxHeartbeats 4000000 in
theorem hash_Mix.calls (x_x : Int) (W0 : World) (X : Heap)  (Hq : HS W0 [isH X] W0) (r : Int) (H : hash_Mix.f x_x = some r) :
    Calls Try.prog 50 #[.int .u64 x_x] W0 (fun e w => e = .returned (.int .u64 r) ∧ HS W0 [isH X] w) := by
  rw [hash_Mix.f] at H
  refine calls_in Try.func50 rfl rfl ?_
  intro a0 S0
  refine w_seq ?_
  refine w_region ?_
  refine r_pures [_] S0 rfl ?_
  clear S0; intro a0 S0
  refine wl_nil ?_
  refine nr_then ?_
  refine w_seq ?_
  refine w_region ?_
  refine r_pures [_] S0 rfl ?_
  clear S0; intro a0 S0
  obtain ⟨Xz1, HXz1, HPz1, HBz1⟩ := call_frame [] Hq
  dsimp only [List.cons_append, List.nil_append] at HXz1 HBz1
  obtain ⟨z2t, Hc, H⟩ := Option.bind_eq_some_iff.mp H
  refine r_call S0 rfl rfl goes63 rfl ?_
  refine (hash_fold.calls x_x _ _  HXz1 z2t Hc).mono ?_
  rintro e w ⟨rfl, Hq'⟩
  have Hq : HS W0 [isH X] w := HBz1 [] _ Hq'
  clear HXz1 HPz1 HBz1 Hq'
  refine ⟨.int .u64 z2t, rfl, ?_⟩; clear S0; intro a0 S0
  refine r_pures [_] S0 rfl ?_
  clear S0; intro a0 S0
  obtain ⟨Xz3, HXz3, HPz3, HBz3⟩ := call_frame [] Hq
  dsimp only [List.cons_append, List.nil_append] at HXz3 HBz3
  obtain ⟨z4t, Hc, H⟩ := Option.bind_eq_some_iff.mp H
  refine r_call S0 rfl rfl goes63 rfl ?_
  refine (hash_fold.calls (IntKind.u64.wrap (z2t * 18397679294719823053)) _ _  HXz3 z4t Hc).mono ?_
  rintro e w ⟨rfl, Hq'⟩
  have Hq : HS W0 [isH X] w := HBz3 [] _ Hq'
  clear HXz3 HPz3 HBz3 Hq'
  refine ⟨.int .u64 z4t, rfl, ?_⟩; clear S0; intro a0 S0
  refine r_pures [_] S0 rfl ?_
  clear S0; intro a0 S0
  obtain ⟨Xz5, HXz5, HPz5, HBz5⟩ := call_frame [] Hq
  dsimp only [List.cons_append, List.nil_append] at HXz5 HBz5
  obtain ⟨z6t, Hc, H⟩ := Option.bind_eq_some_iff.mp H
  refine r_call S0 rfl rfl goes63 rfl ?_
  refine (hash_fold.calls (IntKind.u64.wrap (z4t * 14181476777654086739)) _ _  HXz5 z6t Hc).mono ?_
  rintro e w ⟨rfl, Hq'⟩
  have Hq : HS W0 [isH X] w := HBz5 [] _ Hq'
  clear HXz5 HPz5 HBz5 Hq'
  refine ⟨.int .u64 z6t, rfl, ?_⟩; clear S0; intro a0 S0
  refine r_pures [_] S0 rfl ?_
  clear S0; intro a0 S0
  refine wl_nil ?_
  refine nr_then ?_
  refine w_ret ?_
  obtain rfl := Option.some.inj H
  refine ret1 S0 rfl rfl ?_
  exact ⟨rfl, Hq⟩

end Go.Proofs.Ythlogangnppghaa.M
