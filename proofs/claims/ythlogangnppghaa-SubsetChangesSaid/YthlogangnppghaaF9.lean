/- waybill/subset.Change: a plain function, and that the machine's call comes to it: printed by a program of the session's own. -/
import Derived.Test.YthlogangnppghaaK
import Derived.Test.YthlogangnppghaaF21
set_option linter.unusedVariables false
set_option linter.unusedSimpArgs false
namespace Go.Proofs.Ythlogangnppghaa.M
open Go Go.Proofs.Ythlogangnppghaa.Sl
/-! ### waybill/subset.Change: function 9 -/
def subset_Change.f (k : Nat) (x_old : List Int) (x_ids : List Int) : Option ((List Int) × (List Int)) := (subset_without.f k x_ids x_old).bind fun z2t => ((subset_without.f k x_old x_ids).bind fun z8t => (some (z2t, z8t)))
set_option maxRecDepth 100000 in
set_option maxHeartbeats 4000000 in
theorem subset_Change.calls (k : Nat) (A0 : Option Addr) (n0 c0 : Nat) (x_old : List Int) (A1 : Option Addr) (n1 c1 : Nat) (x_ids : List Int) (W0 : World) (X : Heap) (HR0 : Rd e_i64 X A0 n0 c0 x_old) (HR1 : Rd e_i64 X A1 n1 c1 x_ids) (Hq : HS W0 [isH X] W0) (r : (List Int) × (List Int)) (H : subset_Change.f k x_old x_ids = some r) :
    Calls Try.prog 9 #[.slice A0 n0 c0, .slice A1 n1 c1] W0 (fun e w => ∃ Ar0 nr0 cr0 Ar1 nr1 cr1, e = .returned (.tuple #[.slice Ar0 nr0 cr0, .slice Ar1 nr1 cr1]) ∧ HS W0 [own e_i64 3 Ar0 nr0 cr0 r.1, own e_i64 3 Ar1 nr1 cr1 r.2, isH X] w) := by
  obtain rfl := HR0.1
  obtain rfl := HR1.1
  rw [subset_Change.f] at H
  refine calls_in Try.func9 rfl rfl ?_
  intro a0 S0
  refine w_seq ?_
  refine w_region ?_
  refine r_pures [_, _] S0 rfl ?_
  clear S0; intro a0 S0
  refine wl_nil ?_
  refine nr_then ?_
  refine w_seq ?_
  refine w_region ?_
  refine r_pures [_, _] S0 rfl ?_
  clear S0; intro a0 S0
  obtain ⟨Xz1, HXz1, HPz1, HBz1⟩ := call_frame [] Hq
  dsimp only [List.cons_append, List.nil_append] at HXz1 HBz1
  obtain ⟨z2t, Hc, H⟩ := Option.bind_eq_some_iff.mp H
  refine r_call S0 rfl rfl goes21 rfl ?_
  refine (subset_without.calls _ _ _ _ x_ids _ _ _ x_old _ _ (sl_isH_rd [] HPz1 HR1) (sl_isH_rd [] HPz1 HR0) HXz1 z2t Hc).mono ?_
  rintro e w ⟨z3A, z4m, z5n, rfl, Hq'⟩
  have Hq : HS W0 [own e_i64 3 z3A z4m z5n z2t, isH X] w := HBz1 [_] _ Hq'
  clear HXz1 HPz1 HBz1 Hq'
  obtain rfl := own_len [] Hq
  refine ⟨.slice z3A z2t.length z5n, rfl, ?_⟩; clear S0; intro a0 S0
  refine r_pures [_, _] S0 rfl ?_
  clear S0; intro a0 S0
  obtain ⟨Xz7, HXz7, HPz7, HBz7⟩ := call_frame [] Hq
  dsimp only [List.cons_append, List.nil_append] at HXz7 HBz7
  obtain ⟨z8t, Hc, H⟩ := Option.bind_eq_some_iff.mp H
  refine r_call S0 rfl rfl goes21 rfl ?_
  refine (subset_without.calls _ _ _ _ x_old _ _ _ x_ids _ _ (sl_isH_rd [_] HPz7 HR0) (sl_isH_rd [_] HPz7 HR1) HXz7 z8t Hc).mono ?_
  rintro e w ⟨z9A, z10m, z11n, rfl, Hq'⟩
  have Hq : HS W0 [own e_i64 3 z9A z10m z11n z8t, own e_i64 3 z3A z2t.length z5n z2t, isH X] w := HBz7 [_] _ Hq'
  clear HXz7 HPz7 HBz7 Hq'
  obtain rfl := own_len [] Hq
  refine ⟨.slice z9A z8t.length z11n, rfl, ?_⟩; clear S0; intro a0 S0
  refine r_pures [_, _] S0 rfl ?_
  clear S0; intro a0 S0
  refine wl_nil ?_
  refine nr_then ?_
  refine w_ret ?_
  obtain rfl := Option.some.inj H
  refine ret2 S0 rfl rfl rfl ?_
  replace Hq := HS.pull [_, _] Hq
  dsimp only [List.cons_append, List.nil_append] at Hq
  replace Hq := HS.pull [_] Hq
  dsimp only [List.cons_append, List.nil_append] at Hq
  replace Hq := HS.pull [_, _] Hq
  dsimp only [List.cons_append, List.nil_append] at Hq
  exact ⟨z3A, z2t.length, z5n, z9A, z8t.length, z11n, rfl, Hq⟩

end Go.Proofs.Ythlogangnppghaa.M
