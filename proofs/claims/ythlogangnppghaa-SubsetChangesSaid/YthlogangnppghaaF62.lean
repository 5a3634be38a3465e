/- waybill/hash.Share: a plain function, and that the machine's call comes to it: printed by a program of the session's own. -/
import Derived.Test.YthlogangnppghaaK
import Derived.Test.YthlogangnppghaaG
set_option linter.unusedVariables false
set_option linter.unusedSimpArgs false
namespace Go.Proofs.Ythlogangnppghaa.M
open Go Go.Proofs.Ythlogangnppghaa.Sl
/-! ### waybill/hash.Share: function 62 -/
def hash_Share.f (x_x : Int) (x_n : Int) : Option (Int × Int) := ((if x_n < 1 then (some true) else (some (decide (1048576 < x_n)))) : Option (Bool)).bind fun z1x => (if z1x = true then (some (0, 4)) else ((bits_Mul64.f (sh_shl .u64 (sh_shr .u64 x_x 32) 32) (IntKind.u64.wrap x_n)).bind fun (z5t, z6t) => (some (IntKind.i64.wrap z5t, 0))))
set_option maxRecDepth 100000 in
set_option maxHeartbeats 4000000 in
theorem hash_Share.calls (x_x : Int) (x_n : Int) (W0 : World) (X : Heap)  (Hq : HS W0 [isH X] W0) (r : Int × Int) (H : hash_Share.f x_x x_n = some r) :
    Calls Try.prog 62 #[.int .u64 x_x, .int .i64 x_n] W0 (fun e w => e = .returned (.tuple #[.int .i64 r.1, .int .i64 r.2]) ∧ HS W0 [isH X] w) := by
  rw [hash_Share.f] at H
  refine calls_in Try.func62 rfl rfl ?_
  intro a0 S0
  refine w_seq ?_
  refine w_region ?_
  refine r_pures [_, _] S0 rfl ?_
  clear S0; intro a0 S0
  refine wl_nil ?_
  refine nr_then ?_
  refine w_seq ?_
  refine w_seq ?_
  obtain ⟨z1x, H, HU1⟩ := Option.bind_eq_some_iff.mp H
  refine w_cutT (fun a w => Sl 25 [] [(0, .int .u64 x_x), (1, .int .i64 x_n), (13, .bool z1x)] a ∧ HS W0 [isH X] w) ?_ ?_
  · skip
    refine w_region ?_
    refine r_pures [_, _, _] S0 rfl ?_
    clear S0; intro a0 S0
    by_cases z2h : x_n < 1
    · replace H := (if_pos z2h).symm.trans H
      refine r_off S0 rfl rfl rfl (decide_eq_true z2h) ?_ rfl
      clear S0; intro a0 S0
      refine r_off S0 rfl rfl rfl (decide_eq_true z2h) ?_ rfl
      clear S0; intro a0 S0
      refine r_pick S0 rfl (decide_eq_true z2h) _ rfl rfl ?_
      clear S0; intro a0 S0
      refine wl_nil ?_
      refine nr_then ?_
      obtain rfl := Option.some.inj H
      exact ⟨S0.sub ⟨rfl, rfl, rfl, trivial⟩, Hq⟩
    · replace H := (if_neg z2h).symm.trans H
      refine r_on S0 rfl rfl rfl (decide_eq_false z2h) ?_
      refine r_pures [_] S0 rfl ?_
      clear S0; intro a0 S0
      refine r_on S0 rfl rfl rfl (decide_eq_false z2h) ?_
      refine r_pures [_] S0 rfl ?_
      clear S0; intro a0 S0
      refine r_pick S0 rfl (decide_eq_false z2h) _ rfl rfl ?_
      clear S0; intro a0 S0
      refine wl_nil ?_
      refine nr_then ?_
      obtain rfl := Option.some.inj H
      exact ⟨S0.sub ⟨rfl, rfl, rfl, trivial⟩, Hq⟩
  · clear S0; rintro a w ⟨S0, Hq⟩
    have H := HU1; clear HU1
    refine nr_then ?_
    by_cases z3h : z1x = true
    · replace H := (if_pos z3h).symm.trans H
      refine w_true S0 rfl z3h ?_
      refine w_seq ?_
      refine w_region ?_
      refine r_pures [_, _] S0 rfl ?_
      clear S0; intro a0 S0
      refine wl_nil ?_
      refine nr_then ?_
      refine w_ret ?_
      refine ret_then ?_
      obtain rfl := Option.some.inj H
      refine ret2 S0 rfl rfl rfl ?_
      exact ⟨rfl, Hq⟩
    · replace H := (if_neg z3h).symm.trans H
      refine w_false S0 rfl (Bool.eq_false_iff.mpr z3h) ?_
      refine w_skip ?_
      refine nr_then ?_
      refine w_seq ?_
      refine w_region ?_
      refine r_pures [_] S0 rfl ?_
      clear S0; intro a0 S0
      refine r_shr' S0 rfl rfl (by decide) rfl ?_
      clear S0; intro a0 S0
      refine r_shl' S0 rfl rfl (by decide) rfl ?_
      clear S0; intro a0 S0
      refine r_pures [_] S0 rfl ?_
      clear S0; intro a0 S0
      refine r_conv S0 rfl und3 und23 rfl ?_
      clear S0; intro a0 S0
      obtain ⟨Xz4, HXz4, HPz4, HBz4⟩ := call_frame [] Hq
      dsimp only [List.cons_append, List.nil_append] at HXz4 HBz4
      obtain ⟨⟨z5t, z6t⟩, Hc, H⟩ := Option.bind_eq_some_iff.mp H
      dsimp only at H
      refine r_call S0 rfl rfl goes69 rfl ?_
      refine (bits_Mul64.calls (sh_shl .u64 (sh_shr .u64 x_x 32) 32) (IntKind.u64.wrap x_n) _ _  HXz4 (z5t, z6t) Hc).mono ?_
      rintro e w ⟨rfl, Hq'⟩
      have Hq : HS W0 [isH X] w := HBz4 [] _ Hq'
      clear HXz4 HPz4 HBz4 Hq'
      refine ⟨.tuple #[.int .u64 z5t, .int .u64 z6t], rfl, ?_⟩; clear S0; intro a0 S0
      refine r_pures [_, _, _, _, _] S0 rfl ?_
      clear S0; intro a0 S0
      refine wl_nil ?_
      refine nr_then ?_
      refine w_seq ?_
      refine w_region ?_
      refine r_pures [_] S0 rfl ?_
      clear S0; intro a0 S0
      refine r_conv S0 rfl und23 und3 rfl ?_
      clear S0; intro a0 S0
      refine r_pures [_, _] S0 rfl ?_
      clear S0; intro a0 S0
      refine wl_nil ?_
      refine nr_then ?_
      refine w_ret ?_
      obtain rfl := Option.some.inj H
      refine ret2 S0 rfl rfl rfl ?_
      exact ⟨rfl, Hq⟩

end Go.Proofs.Ythlogangnppghaa.M
