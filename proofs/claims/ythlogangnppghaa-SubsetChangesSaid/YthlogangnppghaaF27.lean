/- (waybill/subset.dealer).check: a plain function, and that the machine's call comes to it: printed by a program of the session's own. -/
import Derived.Test.YthlogangnppghaaK
set_option linter.unusedVariables false
set_option linter.unusedSimpArgs false
namespace Go.Proofs.Ythlogangnppghaa.M
open Go Go.Proofs.Ythlogangnppghaa.Sl
/-! ### (waybill/subset.dealer).check: function 27 -/
def subset_dealer_check.l0 : Nat → subset_dealer → Int → Int → Option (Int)
  | 0, _, _, _ => none
  | k + 1, x_d, z4x, z5x => if z5x < (x_d.ids.length : Int) then (if 0 ≤ z5x then (if (rd e_i64 x_d.ids z5x) ≤ z4x then (some 9) else (subset_dealer_check.l0 k x_d (rd e_i64 x_d.ids z5x) (IntKind.i64.wrap (z5x + 1)))) else (none)) else (some 0)
def subset_dealer_check.f (k : Nat) (x_d : subset_dealer) : Option (Int) := if 32 < (x_d.ids.length : Int) then (some 3) else ((subset_dealer_check.l0 k x_d (-1) 0))
set_option maxRecDepth 100000 in
set_option maxHeartbeats 4000000 in
theorem subset_dealer_check.calls (k : Nat) (A0x0 : Option Addr) (n0x0 c0x0 : Nat) (x_d : subset_dealer) (W0 : World) (X : Heap) (HR0x0 : Rd e_i64 X A0x0 n0x0 c0x0 x_d.ids) (Hq : HS W0 [isH X] W0) (r : Int) (H : subset_dealer_check.f k x_d = some r) :
    Calls Try.prog 27 #[.agg #[.slice A0x0 n0x0 c0x0, .int .i64 x_d.size, .int .u64 x_d.seed]] W0 (fun e w => e = .returned (.int .i64 r) ∧ HS W0 [isH X] w) := by
  obtain rfl := HR0x0.1
  rw [subset_dealer_check.f] at H
  refine calls_in Try.func27 rfl rfl ?_
  intro a0 S0
  refine w_seq ?_
  refine w_region ?_
  refine r_box (vs := [.slice A0x0 x_d.ids.length c0x0, .int .i64 x_d.size, .int .u64 x_d.seed]) S0 Hq rfl rfl rfl ?_
  clear S0 Hq; intro z1b a0 w S0 Hq
  refine r_pures [_] S0 rfl ?_
  clear S0; intro a0 S0
  refine wl_nil ?_
  refine nr_then ?_
  refine w_seq ?_
  refine w_seq ?_
  refine w_region ?_
  refine r_fieldAddr S0 rfl fo45x0 (0) rfl rfl ?_
  clear S0; intro a0 S0
  refine r_ldS [] S0 Hq rfl ti22 _ rfl rfl ?_
  clear S0; intro a0 S0
  refine r_len S0 rfl sl22 rfl ?_
  clear S0; intro a0 S0
  refine r_pures [_] S0 rfl ?_
  clear S0; intro a0 S0
  refine wl_nil ?_
  refine nr_then ?_
  by_cases z3h : 32 < (x_d.ids.length : Int)
  · replace H := (if_pos z3h).symm.trans H
    refine w_true S0 rfl (decide_eq_true z3h) ?_
    refine w_seq ?_
    refine w_region ?_
    refine r_pures [_] S0 rfl ?_
    clear S0; intro a0 S0
    refine wl_nil ?_
    refine nr_then ?_
    refine w_ret ?_
    refine ret_then ?_
    obtain rfl := Option.some.inj H
    refine ret1 S0 rfl rfl ?_
    replace Hq := HS.pull [_] Hq
    dsimp only [List.cons_append, List.nil_append] at Hq
    replace Hq := HS.keep [_] Hq
    exact ⟨rfl, Hq⟩
  · replace H := (if_neg z3h).symm.trans H
    refine w_false S0 rfl (decide_eq_false z3h) ?_
    refine w_skip ?_
    refine nr_then ?_
    refine w_seq ?_
    refine w_region ?_
    refine r_pures [_] S0 rfl ?_
    clear S0; intro a0 S0
    refine wl_nil ?_
    refine nr_then ?_
    refine w_seq ?_
    refine w_seq ?_
    refine w_region ?_
    refine r_fieldAddr S0 rfl fo45x0 (0) rfl rfl ?_
    clear S0; intro a0 S0
    refine r_ldS [] S0 Hq rfl ti22 _ rfl rfl ?_
    clear S0; intro a0 S0
    refine r_len S0 rfl sl22 rfl ?_
    clear S0; intro a0 S0
    refine r_pures [_] S0 rfl ?_
    clear S0; intro a0 S0
    refine wl_nil ?_
    refine nr_then ?_
    refine w_block ?_
    replace Hq := HS.pull [_] Hq
    dsimp only [List.cons_append, List.nil_append] at Hq
    replace Hq := HS.keep [_] Hq
    refine w_loop (fun kq a w => ∃ z4x z5x, subset_dealer_check.l0 kq x_d z4x z5x = some r ∧ Sl 22 [] [(3, .int .i64 z4x), (11, .slice A0x0 x_d.ids.length c0x0), (12, .int .i64 (x_d.ids.length : Int)), (13, .int .i64 z5x)] a ∧ HS W0 [isH X] w) _ ⟨(-1), 0, H, S0.sub ⟨rfl, rfl, rfl, rfl, trivial⟩, Hq⟩ ?_
    clear H Hq S0
    rintro k0 a w ⟨z4x, z5x, H, S0, Hq⟩
    cases k0 with
    | zero => simp [subset_dealer_check.l0] at H
    | succ k0 =>
      refine ⟨k0, rfl, ?_⟩
      rw [subset_dealer_check.l0] at H
      refine w_seq ?_
      refine w_region ?_
      refine r_pures [_] S0 rfl ?_
      clear S0; intro a0 S0
      refine wl_nil ?_
      refine nr_then ?_
      refine w_seq ?_
      by_cases z6h : z5x < (x_d.ids.length : Int)
      · replace H := (if_pos z6h).symm.trans H
        refine w_true S0 rfl (decide_eq_true z6h) ?_
        refine w_skip ?_
        refine nr_then ?_
        refine w_seq ?_
        refine w_block ?_
        refine w_seq ?_
        refine w_region ?_
        by_cases z7h : 0 ≤ z5x
        · replace H := (if_pos z7h).symm.trans H
          obtain ⟨z8b, z9o, rfl⟩ := (isH_rd [] Hq HR0x0).at (by omega)
          refine r_index S0 rfl rfl sl22 ti3 z7h z6h rfl ?_
          clear S0; intro a0 S0
          refine r_elS S0 (isH_rd [] Hq HR0x0) z7h z6h rfl ti3 _ rfl rfl ?_
          clear S0; intro a0 S0
          refine r_pures [_] S0 rfl ?_
          clear S0; intro a0 S0
          refine wl_nil ?_
          refine nr_then ?_
          refine w_seq ?_
          refine w_seq ?_
          refine w_region ?_
          refine r_pures [_, _, _] S0 rfl ?_
          clear S0; intro a0 S0
          refine wl_nil ?_
          refine nr_then ?_
          by_cases z10h : (rd e_i64 x_d.ids z5x) ≤ z4x
          · replace H := (if_pos z10h).symm.trans H
            refine w_true S0 rfl (decide_eq_true z10h) ?_
            refine w_seq ?_
            refine w_region ?_
            refine r_pures [_] S0 rfl ?_
            clear S0; intro a0 S0
            refine wl_nil ?_
            refine nr_then ?_
            refine w_ret ?_
            refine ret_then ?_
            refine ret_in ?_
            refine ret_then ?_
            refine ret_then ?_
            refine ret_in ?_
            refine ret_then ?_
            obtain rfl := Option.some.inj H
            refine ret1 S0 rfl rfl ?_
            exact ⟨rfl, Hq⟩
          · replace H := (if_neg z10h).symm.trans H
            refine w_false S0 rfl (decide_eq_false z10h) ?_
            refine w_skip ?_
            refine nr_then ?_
            refine w_region ?_
            refine r_pures [_, _] S0 rfl ?_
            clear S0; intro a0 S0
            refine wl_nil ?_
            refine nr_in ?_
            refine nr_then ?_
            refine w_region ?_
            refine r_pures [_, _] S0 rfl ?_
            clear S0; intro a0 S0
            refine wl_nil ?_
            refine nr_then ?_
            exact ⟨(rd e_i64 x_d.ids z5x), (IntKind.i64.wrap (z5x + 1)), H, S0.sub ⟨rfl, rfl, rfl, rfl, trivial⟩, Hq⟩
        · replace H := (if_neg z7h).symm.trans H
          exact nomatch H
      · replace H := (if_neg z6h).symm.trans H
        refine w_false S0 rfl (decide_eq_false z6h) ?_
        refine w_exit ?_
        refine ex_then ?_
        refine ex_then ?_
        refine ex_in ?_
        refine nr_then ?_
        refine w_seq ?_
        refine w_region ?_
        refine r_pures [_] S0 rfl ?_
        clear S0; intro a0 S0
        refine wl_nil ?_
        refine nr_then ?_
        refine w_ret ?_
        obtain rfl := Option.some.inj H
        refine ret1 S0 rfl rfl ?_
        exact ⟨rfl, Hq⟩

end Go.Proofs.Ythlogangnppghaa.M
