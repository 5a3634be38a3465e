/- waybill/hash.Ints: a plain function, and that the machine's call comes to it: printed by a program of the session's own. -/
import Derived.Test.YthlogangnppghaaK
import Derived.Test.YthlogangnppghaaF50
set_option linter.unusedVariables false
set_option linter.unusedSimpArgs false
namespace Go.Proofs.Ythlogangnppghaa.M
open Go Go.Proofs.Ythlogangnppghaa.Sl
/-! ### waybill/hash.Ints: function 40 -/
def hash_Ints.l0 : Nat → (List Int) → Int → Int → Option (Int)
  | 0, _, _, _ => none
  | k + 1, x_l, z2x, z3x => if z3x < (x_l.length : Int) then (if 0 ≤ z3x then ((hash_Mix.f (IntKind.u64.wrap (z2x + (IntKind.u64.wrap (rd e_i64 x_l z3x))))).bind fun z9t => (hash_Ints.l0 k x_l z9t (IntKind.i64.wrap (z3x + 1)))) else (none)) else (some z2x)
def hash_Ints.f (k : Nat) (x_seed : Int) (x_l : List Int) : Option (Int) := (((hash_Ints.l0 k x_l x_seed 0)) : Option (Int)).bind fun z1x => (some z1x)
set_option maxRecDepth 100000 in
set_option maxHeartbeats 4000000 in
theorem hash_Ints.calls (k : Nat) (x_seed : Int) (A1 : Option Addr) (n1 c1 : Nat) (x_l : List Int) (W0 : World) (X : Heap) (HR1 : Rd e_i64 X A1 n1 c1 x_l) (Hq : HS W0 [isH X] W0) (r : Int) (H : hash_Ints.f k x_seed x_l = some r) :
    Calls Try.prog 40 #[.int .u64 x_seed, .slice A1 n1 c1] W0 (fun e w => e = .returned (.int .u64 r) ∧ HS W0 [isH X] w) := by
  obtain rfl := HR1.1
  rw [hash_Ints.f] at H
  refine calls_in Try.func40 rfl rfl ?_
  intro a0 S0
  refine w_seq ?_
  refine w_region ?_
  refine r_pures [_] S0 rfl ?_
  clear S0; intro a0 S0
  refine wl_nil ?_
  refine nr_then ?_
  refine w_seq ?_
  refine w_seq ?_
  refine w_region ?_
  refine r_pures [_] S0 rfl ?_
  clear S0; intro a0 S0
  refine r_len S0 rfl sl22 rfl ?_
  clear S0; intro a0 S0
  refine r_pures [_] S0 rfl ?_
  clear S0; intro a0 S0
  refine wl_nil ?_
  refine nr_then ?_
  obtain ⟨z1x, H, HU1⟩ := Option.bind_eq_some_iff.mp H
  refine w_cutT (fun a w => Sl 20 [] [(0, .int .u64 z1x)] a ∧ HS W0 [isH X] w) ?_ ?_
  · skip
    refine w_block ?_
    refine w_loop (fun kq a w => ∃ z2x z3x, hash_Ints.l0 kq x_l z2x z3x = some z1x ∧ Sl 20 [] [(0, .int .u64 z2x), (7, .slice A1 x_l.length c1), (8, .int .i64 (x_l.length : Int)), (9, .int .i64 z3x)] a ∧ HS W0 [isH X] w) _ ⟨x_seed, 0, H, S0.sub ⟨rfl, rfl, rfl, rfl, trivial⟩, Hq⟩ ?_
    clear H Hq S0
    rintro k0 a w ⟨z2x, z3x, H, S0, Hq⟩
    cases k0 with
    | zero => simp [hash_Ints.l0] at H
    | succ k0 =>
      refine ⟨k0, rfl, ?_⟩
      rw [hash_Ints.l0] at H
      refine w_seq ?_
      refine w_region ?_
      refine r_pures [_] S0 rfl ?_
      clear S0; intro a0 S0
      refine wl_nil ?_
      refine nr_then ?_
      refine w_seq ?_
      by_cases z4h : z3x < (x_l.length : Int)
      · replace H := (if_pos z4h).symm.trans H
        refine w_true S0 rfl (decide_eq_true z4h) ?_
        refine w_skip ?_
        refine nr_then ?_
        refine w_seq ?_
        refine w_block ?_
        refine w_seq ?_
        refine w_region ?_
        by_cases z5h : 0 ≤ z3x
        · replace H := (if_pos z5h).symm.trans H
          obtain ⟨z6b, z7o, rfl⟩ := (isH_rd [] Hq HR1).at (by omega)
          refine r_index S0 rfl rfl sl22 ti3 z5h z4h rfl ?_
          clear S0; intro a0 S0
          refine r_elS S0 (isH_rd [] Hq HR1) z5h z4h rfl ti3 _ rfl rfl ?_
          clear S0; intro a0 S0
          refine r_pures [_] S0 rfl ?_
          clear S0; intro a0 S0
          refine wl_nil ?_
          refine nr_then ?_
          refine w_region ?_
          refine r_pures [_, _] S0 rfl ?_
          clear S0; intro a0 S0
          refine r_conv S0 rfl und3 und23 rfl ?_
          clear S0; intro a0 S0
          refine r_pures [_] S0 rfl ?_
          clear S0; intro a0 S0
          obtain ⟨Xz8, HXz8, HPz8, HBz8⟩ := call_frame [] Hq
          dsimp only [List.cons_append, List.nil_append] at HXz8 HBz8
          obtain ⟨z9t, Hc, H⟩ := Option.bind_eq_some_iff.mp H
          refine r_call S0 rfl rfl goes50 rfl ?_
          refine (hash_Mix.calls (IntKind.u64.wrap (z2x + (IntKind.u64.wrap (rd e_i64 x_l z3x)))) _ _  HXz8 z9t Hc).mono ?_
          rintro e w ⟨rfl, Hq'⟩
          have Hq : HS W0 [isH X] w := HBz8 [] _ Hq'
          clear HXz8 HPz8 HBz8 Hq'
          refine ⟨.int .u64 z9t, rfl, ?_⟩; clear S0; intro a0 S0
          refine r_pures [_] S0 rfl ?_
          clear S0; intro a0 S0
          refine wl_nil ?_
          refine nr_in ?_
          refine nr_then ?_
          refine w_region ?_
          refine r_pures [_, _] S0 rfl ?_
          clear S0; intro a0 S0
          refine wl_nil ?_
          refine nr_then ?_
          exact ⟨z9t, (IntKind.i64.wrap (z3x + 1)), H, S0.sub ⟨rfl, rfl, rfl, rfl, trivial⟩, Hq⟩
        · replace H := (if_neg z5h).symm.trans H
          exact nomatch H
      · replace H := (if_neg z4h).symm.trans H
        refine w_false S0 rfl (decide_eq_false z4h) ?_
        refine w_exit ?_
        refine ex_then ?_
        refine ex_then ?_
        refine ex_in ?_
        refine nr_then ?_
        obtain rfl := Option.some.inj H
        exact ⟨S0.sub ⟨rfl, trivial⟩, Hq⟩
  · clear S0; rintro a w ⟨S0, Hq⟩
    have H := HU1; clear HU1
    refine nr_then ?_
    refine w_seq ?_
    refine w_region ?_
    refine r_pures [_, _] S0 rfl ?_
    clear S0; intro a0 S0
    refine wl_nil ?_
    refine nr_then ?_
    refine w_ret ?_
    obtain rfl := Option.some.inj H
    refine ret1 S0 rfl rfl ?_
    exact ⟨rfl, Hq⟩

end Go.Proofs.Ythlogangnppghaa.M
