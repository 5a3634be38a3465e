/- waybill/waybilllaw13.has: a plain function, and that the machine's call comes to it: printed by a program of the session's own. -/
import Derived.Test.YthlogangnppghaaK
set_option linter.unusedVariables false
set_option linter.unusedSimpArgs false
namespace Go.Proofs.Ythlogangnppghaa.M
open Go Go.Proofs.Ythlogangnppghaa.Sl
/-! ### waybill/waybilllaw13.has: function 10 -/
def waybilllaw13_has.l0 : Nat → (List Int) → Int → Int → Option (Bool)
  | 0, _, _, _ => none
  | k + 1, x_l, x_n, z1x => if z1x < (x_l.length : Int) then (if 0 ≤ z1x then (if (rd e_i64 x_l z1x) = x_n then (some true) else (waybilllaw13_has.l0 k x_l x_n (IntKind.i64.wrap (z1x + 1)))) else (none)) else (some false)
def waybilllaw13_has.f (k : Nat) (x_l : List Int) (x_n : Int) : Option (Bool) := (waybilllaw13_has.l0 k x_l x_n 0)
set_option maxRecDepth 100000 in
set_option maxHeartbeats 4000000 in
theorem waybilllaw13_has.calls (k : Nat) (A0 : Option Addr) (n0 c0 : Nat) (x_l : List Int) (x_n : Int) (W0 : World) (X : Heap) (HR0 : Rd e_i64 X A0 n0 c0 x_l) (Hq : HS W0 [isH X] W0) (r : Bool) (H : waybilllaw13_has.f k x_l x_n = some r) :
    Calls Try.prog 10 #[.slice A0 n0 c0, .int .i64 x_n] W0 (fun e w => e = .returned (.bool r) ∧ HS W0 [isH X] w) := by
  obtain rfl := HR0.1
  rw [waybilllaw13_has.f] at H
  refine calls_in Try.func10 rfl rfl ?_
  intro a0 S0
  refine w_seq ?_
  refine w_region ?_
  refine r_pures [_] S0 rfl ?_
  clear S0; intro a0 S0
  refine wl_nil ?_
  refine nr_then ?_
  refine w_seq ?_
  refine w_seq ?_
  refine w_region ?_
  refine r_pures [_] S0 rfl ?_
  clear S0; intro a0 S0
  refine wl_nil ?_
  refine nr_then ?_
  refine w_block ?_
  refine w_loop (fun kq a w => ∃ z1x, waybilllaw13_has.l0 kq x_l x_n z1x = some r ∧ Sl 18 [] [(0, .slice A0 x_l.length c0), (1, .int .i64 x_n), (5, .int .i64 z1x)] a ∧ HS W0 [isH X] w) _ ⟨0, H, S0.sub ⟨rfl, rfl, rfl, trivial⟩, Hq⟩ ?_
  clear H Hq S0
  rintro k0 a w ⟨z1x, H, S0, Hq⟩
  cases k0 with
  | zero => simp [waybilllaw13_has.l0] at H
  | succ k0 =>
    refine ⟨k0, rfl, ?_⟩
    rw [waybilllaw13_has.l0] at H
    refine w_seq ?_
    refine w_seq ?_
    refine w_region ?_
    refine r_pures [_, _] S0 rfl ?_
    clear S0; intro a0 S0
    refine r_len S0 rfl sl22 rfl ?_
    clear S0; intro a0 S0
    refine r_pures [_] S0 rfl ?_
    clear S0; intro a0 S0
    refine wl_nil ?_
    refine nr_then ?_
    by_cases z2h : z1x < (x_l.length : Int)
    · replace H := (if_pos z2h).symm.trans H
      refine w_true S0 rfl (decide_eq_true z2h) ?_
      refine w_skip ?_
      refine nr_then ?_
      refine w_seq ?_
      refine w_block ?_
      refine w_seq ?_
      refine w_region ?_
      refine r_pures [_, _] S0 rfl ?_
      clear S0; intro a0 S0
      by_cases z3h : 0 ≤ z1x
      · replace H := (if_pos z3h).symm.trans H
        obtain ⟨z4b, z5o, rfl⟩ := (isH_rd [] Hq HR0).at (by omega)
        refine r_index S0 rfl rfl sl22 ti3 z3h z2h rfl ?_
        clear S0; intro a0 S0
        refine r_elS S0 (isH_rd [] Hq HR0) z3h z2h rfl ti3 _ rfl rfl ?_
        clear S0; intro a0 S0
        refine r_pures [_, _] S0 rfl ?_
        clear S0; intro a0 S0
        refine wl_nil ?_
        refine nr_then ?_
        by_cases z6h : (rd e_i64 x_l z1x) = x_n
        · replace H := (if_pos z6h).symm.trans H
          refine w_true S0 rfl (decide_eq_true z6h) ?_
          refine w_seq ?_
          refine w_region ?_
          refine r_pures [_] S0 rfl ?_
          clear S0; intro a0 S0
          refine wl_nil ?_
          refine nr_then ?_
          refine w_ret ?_
          refine ret_in ?_
          refine ret_then ?_
          refine ret_then ?_
          refine ret_in ?_
          refine ret_then ?_
          obtain rfl := Option.some.inj H
          refine ret1 S0 rfl rfl ?_
          exact ⟨rfl, Hq⟩
        · replace H := (if_neg z6h).symm.trans H
          refine w_false S0 rfl (decide_eq_false z6h) ?_
          refine w_skip ?_
          refine nr_in ?_
          refine nr_then ?_
          refine w_region ?_
          refine r_pures [_, _, _] S0 rfl ?_
          clear S0; intro a0 S0
          refine wl_nil ?_
          refine nr_then ?_
          exact ⟨(IntKind.i64.wrap (z1x + 1)), H, S0.sub ⟨rfl, rfl, rfl, trivial⟩, Hq⟩
      · replace H := (if_neg z3h).symm.trans H
        exact nomatch H
    · replace H := (if_neg z2h).symm.trans H
      refine w_false S0 rfl (decide_eq_false z2h) ?_
      refine w_exit ?_
      refine ex_then ?_
      refine ex_then ?_
      refine ex_in ?_
      refine nr_then ?_
      refine w_seq ?_
      refine w_region ?_
      refine r_pures [_] S0 rfl ?_
      clear S0; intro a0 S0
      refine wl_nil ?_
      refine nr_then ?_
      refine w_ret ?_
      obtain rfl := Option.some.inj H
      refine ret1 S0 rfl rfl ?_
      exact ⟨rfl, Hq⟩

end Go.Proofs.Ythlogangnppghaa.M
