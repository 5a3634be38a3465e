/- waybill/subset.Of: a plain function, and that the machine's call comes to it: printed by a program of the session's own. -/
import Derived.Test.YthlogangnppghaaK
import Derived.Test.YthlogangnppghaaF19
set_option linter.unusedVariables false
set_option linter.unusedSimpArgs false
namespace Go.Proofs.Ythlogangnppghaa.M
open Go Go.Proofs.Ythlogangnppghaa.Sl
/-! ### waybill/subset.Of: function 12 -/
def subset_Of.f (k : Nat) (x_ids : List Int) (x_client : Int) (x_size : Int) (x_seed : Int) : Option ((List Int) × Int) := (subset_dealer_of.f k (⟨x_ids, x_size, x_seed⟩ : subset_dealer) x_client).bind fun (z2t, z3t) => (some (z2t, z3t))
set_option maxRecDepth 100000 in
set_option maxHeartbeats 4000000 in
theorem subset_Of.calls (k : Nat) (A0 : Option Addr) (n0 c0 : Nat) (x_ids : List Int) (x_client : Int) (x_size : Int) (x_seed : Int) (W0 : World) (X : Heap) (HR0 : Rd e_i64 X A0 n0 c0 x_ids) (Hq : HS W0 [isH X] W0) (r : (List Int) × Int) (H : subset_Of.f k x_ids x_client x_size x_seed = some r) :
    Calls Try.prog 12 #[.slice A0 n0 c0, .int .i64 x_client, .int .i64 x_size, .int .u64 x_seed] W0 (fun e w => ∃ Ar0 nr0 cr0, e = .returned (.tuple #[.slice Ar0 nr0 cr0, .int .i64 r.2]) ∧ HS W0 [own e_i64 3 Ar0 nr0 cr0 r.1, isH X] w) := by
  obtain rfl := HR0.1
  rw [subset_Of.f] at H
  refine calls_in Try.func12 rfl rfl ?_
  intro a0 S0
  refine w_seq ?_
  refine w_region ?_
  refine r_pures [_, _] S0 rfl ?_
  clear S0; intro a0 S0
  refine wl_nil ?_
  refine nr_then ?_
  refine w_seq ?_
  refine w_region ?_
  refine r_pures [_, _, _] S0 rfl ?_
  clear S0; intro a0 S0
  refine r_build S0 ti45 pl45 rfl [.slice A0 x_ids.length c0, .int .i64 x_size, .int .u64 x_seed] rfl rfl ?_
  clear S0; intro a0 S0
  refine r_pures [_] S0 rfl ?_
  clear S0; intro a0 S0
  obtain ⟨Xz1, HXz1, HPz1, HBz1⟩ := call_frame [] Hq
  dsimp only [List.cons_append, List.nil_append] at HXz1 HBz1
  obtain ⟨⟨z2t, z3t⟩, Hc, H⟩ := Option.bind_eq_some_iff.mp H
  dsimp only at H
  refine r_call S0 rfl rfl goes19 rfl ?_
  refine (subset_dealer_of.calls _ _ _ _ (⟨x_ids, x_size, x_seed⟩ : subset_dealer) x_client _ _ (sl_isH_rd [] HPz1 HR0) HXz1 (z2t, z3t) Hc).mono ?_
  rintro e w ⟨z4A, z5m, z6n, rfl, Hq'⟩
  have Hq : HS W0 [own e_i64 3 z4A z5m z6n z2t, isH X] w := HBz1 [_] _ Hq'
  clear HXz1 HPz1 HBz1 Hq'
  obtain rfl := own_len [] Hq
  refine ⟨.tuple #[.slice z4A z2t.length z6n, .int .i64 z3t], rfl, ?_⟩; clear S0; intro a0 S0
  refine r_pures [_, _, _, _] S0 rfl ?_
  clear S0; intro a0 S0
  refine wl_nil ?_
  refine nr_then ?_
  refine w_ret ?_
  obtain rfl := Option.some.inj H
  refine ret2 S0 rfl rfl rfl ?_
  replace Hq := HS.pull [_] Hq
  dsimp only [List.cons_append, List.nil_append] at Hq
  replace Hq := HS.pull [_] Hq
  dsimp only [List.cons_append, List.nil_append] at Hq
  exact ⟨z4A, z2t.length, z6n, rfl, Hq⟩

end Go.Proofs.Ythlogangnppghaa.M
