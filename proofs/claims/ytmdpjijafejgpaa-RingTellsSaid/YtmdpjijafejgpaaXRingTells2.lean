/- The law RingTells of the seat Ytmdpjijafejgpaa: whatever the input, the call ends, answers true, and what came in reads as it did. This text is part 2 of 4, joined out of the session's texts. -/
import Derived.Test.YtmdpjijafejgpaaXRingTells1
import Derived.Shelf.SlLaysF0
import Derived.Shelf.Slices.Empties
import Derived.Shelf.Slices.In.SortNone
import Derived.Shelf.Slices.SearchI
import Derived.Shelf.Sort.Plain
import Derived.Test.YtmdpjijafejgpaaProg
import Derived.Shelf.SlSortCmp.NoneTotal
/- cmp.Or[int]: a plain function, and that the machine's call comes to it: printed by a program of the session's own. -/
set_option linter.unusedVariables false
set_option linter.unusedSimpArgs false
namespace Go.Proofs.Ytmdpjijafejgpaa.M
open Go Go.Proofs.Ytmdpjijafejgpaa.Sl
/-! ### cmp.Or[int]: function 44 -/
def cmp_Or_int.l0 : Nat → (List Int) → Int → Option (Int)
  | 0, _, _ => none
  | k + 1, x_vals, z1x => if z1x < (x_vals.length : Int) then (if 0 ≤ z1x then (if (rd e_i64 x_vals z1x) = 0 then (cmp_Or_int.l0 k x_vals (IntKind.i64.wrap (z1x + 1))) else (some (rd e_i64 x_vals z1x))) else (none)) else (some 0)
def cmp_Or_int.f (k : Nat) (x_vals : List Int) : Option (Int) := (cmp_Or_int.l0 k x_vals 0)
set_option maxRecDepth 100000 in
set_option maxHeartbeats 4000000 in
theorem cmp_Or_int.calls (k : Nat) (A0 : Option Addr) (n0 c0 : Nat) (x_vals : List Int) (W0 : World) (X : Heap) (HR0 : Rd e_i64 X A0 n0 c0 x_vals) (Hq : HS W0 [isH X] W0) (r : Int) (H : cmp_Or_int.f k x_vals = some r) :
    Calls Try.prog 44 #[.slice A0 n0 c0] W0 (fun e w => e = .returned (.int .i64 r) ∧ HS W0 [isH X] w) := by
  obtain rfl := HR0.1
  rw [cmp_Or_int.f] at H
  refine calls_in Try.func44 rfl rfl ?_
  intro a0 S0
  refine w_seq ?_
  refine w_region ?_
  refine r_pures [_] S0 rfl ?_
  clear S0; intro a0 S0
  refine wl_nil ?_
  refine nr_then ?_
  refine w_seq ?_
  refine w_region ?_
  refine r_pures [_] S0 rfl ?_
  clear S0; intro a0 S0
  refine wl_nil ?_
  refine nr_then ?_
  refine w_seq ?_
  refine w_seq ?_
  refine w_region ?_
  refine r_pures [_] S0 rfl ?_
  clear S0; intro a0 S0
  refine r_len S0 rfl sl32 rfl ?_
  clear S0; intro a0 S0
  refine r_pures [_] S0 rfl ?_
  clear S0; intro a0 S0
  refine wl_nil ?_
  refine nr_then ?_
  refine w_block ?_
  refine w_loop (fun kq a w => ∃ z1x, cmp_Or_int.l0 kq x_vals z1x = some r ∧ Sl 18 [] [(3, .int .i64 0), (6, .slice A0 x_vals.length c0), (7, .int .i64 (x_vals.length : Int)), (8, .int .i64 z1x)] a ∧ HS W0 [isH X] w) _ ⟨0, H, S0.sub ⟨rfl, rfl, rfl, rfl, trivial⟩, Hq⟩ ?_
  clear H Hq S0
  rintro k0 a w ⟨z1x, H, S0, Hq⟩
  cases k0 with
  | zero => simp [cmp_Or_int.l0] at H
  | succ k0 =>
    refine ⟨k0, rfl, ?_⟩
    rw [cmp_Or_int.l0] at H
    refine w_seq ?_
    refine w_region ?_
    refine r_pures [_] S0 rfl ?_
    clear S0; intro a0 S0
    refine wl_nil ?_
    refine nr_then ?_
    refine w_seq ?_
    by_cases z2h : z1x < (x_vals.length : Int)
    · replace H := (if_pos z2h).symm.trans H
      refine w_true S0 rfl (decide_eq_true z2h) ?_
      refine w_skip ?_
      refine nr_then ?_
      refine w_seq ?_
      refine w_block ?_
      refine w_seq ?_
      refine w_region ?_
      by_cases z3h : 0 ≤ z1x
      · replace H := (if_pos z3h).symm.trans H
        obtain ⟨z4b, z5o, rfl⟩ := (isH_rd [] Hq HR0).at (by omega)
        refine r_index S0 rfl rfl sl32 ti3 z3h z2h rfl ?_
        clear S0; intro a0 S0
        refine r_elS S0 (isH_rd [] Hq HR0) z3h z2h rfl ti3 _ rfl rfl ?_
        clear S0; intro a0 S0
        refine r_pures [_] S0 rfl ?_
        clear S0; intro a0 S0
        refine wl_nil ?_
        refine nr_then ?_
        refine w_seq ?_
        refine w_region ?_
        refine r_pures [_, _, _] S0 rfl ?_
        clear S0; intro a0 S0
        refine wl_nil ?_
        refine nr_then ?_
        by_cases z6h : (rd e_i64 x_vals z1x) = 0
        · replace H := (if_pos z6h).symm.trans H
          refine w_false S0 rfl (congrArg (!·) (decide_eq_true z6h)) ?_
          refine w_skip ?_
          refine nr_in ?_
          refine nr_then ?_
          refine w_region ?_
          refine r_pures [_, _] S0 rfl ?_
          clear S0; intro a0 S0
          refine wl_nil ?_
          refine nr_then ?_
          exact ⟨(IntKind.i64.wrap (z1x + 1)), H, S0.sub ⟨rfl, rfl, rfl, rfl, trivial⟩, Hq⟩
        · replace H := (if_neg z6h).symm.trans H
          refine w_true S0 rfl (congrArg (!·) (decide_eq_false z6h)) ?_
          refine w_seq ?_
          refine w_region ?_
          refine r_pures [_, _] S0 rfl ?_
          clear S0; intro a0 S0
          refine wl_nil ?_
          refine nr_then ?_
          refine w_ret ?_
          refine ret_in ?_
          refine ret_then ?_
          refine ret_then ?_
          refine ret_in ?_
          refine ret_then ?_
          obtain rfl := Option.some.inj H
          refine ret1 S0 rfl rfl ?_
          exact ⟨rfl, Hq⟩
      · replace H := (if_neg z3h).symm.trans H
        exact nomatch H
    · replace H := (if_neg z2h).symm.trans H
      refine w_false S0 rfl (decide_eq_false z2h) ?_
      refine w_exit ?_
      refine ex_then ?_
      refine ex_then ?_
      refine ex_in ?_
      refine nr_then ?_
      refine w_seq ?_
      refine w_region ?_
      refine r_pures [_, _] S0 rfl ?_
      clear S0; intro a0 S0
      refine wl_nil ?_
      refine nr_then ?_
      refine w_ret ?_
      obtain rfl := Option.some.inj H
      refine ret1 S0 rfl rfl ?_
      exact ⟨rfl, Hq⟩

end Go.Proofs.Ytmdpjijafejgpaa.M

/- cmp.isNaN[uint64]: a plain function, and that the machine's call comes to it: printed by a program of the session's own. -/
set_option linter.unusedVariables false
set_option linter.unusedSimpArgs false
namespace Go.Proofs.Ytmdpjijafejgpaa.M
open Go Go.Proofs.Ytmdpjijafejgpaa.Sl
/-! ### cmp.isNaN[uint64]: function 67 -/
def cmp_isNaN_uint64.f (x_x : Int) : Option (Bool) := some (!(decide (x_x = x_x)))
set_option maxRecDepth 100000 in
set_option maxHeartbeats 4000000 in
theorem cmp_isNaN_uint64.calls (x_x : Int) (W0 : World) (X : Heap)  (Hq : HS W0 [isH X] W0) (r : Bool) (H : cmp_isNaN_uint64.f x_x = some r) :
    Calls Try.prog 67 #[.int .u64 x_x] W0 (fun e w => e = .returned (.bool r) ∧ HS W0 [isH X] w) := by
  rw [cmp_isNaN_uint64.f] at H
  refine calls_in Try.func67 rfl rfl ?_
  intro a0 S0
  refine w_seq ?_
  refine w_region ?_
  refine r_pures [_] S0 rfl ?_
  clear S0; intro a0 S0
  refine wl_nil ?_
  refine nr_then ?_
  refine w_seq ?_
  refine w_region ?_
  refine r_pures [_, _, _, _] S0 rfl ?_
  clear S0; intro a0 S0
  refine wl_nil ?_
  refine nr_then ?_
  refine w_ret ?_
  obtain rfl := Option.some.inj H
  refine ret1 S0 rfl rfl ?_
  exact ⟨rfl, Hq⟩

end Go.Proofs.Ytmdpjijafejgpaa.M

/- cmp.Compare[uint64]: a plain function, and that the machine's call comes to it: printed by a program of the session's own. -/
set_option linter.unusedVariables false
set_option linter.unusedSimpArgs false
namespace Go.Proofs.Ytmdpjijafejgpaa.M
open Go Go.Proofs.Ytmdpjijafejgpaa.Sl
/-! ### cmp.Compare[uint64]: function 45 -/
def cmp_Compare_uint64.f (x_x : Int) (x_y : Int) : Option (Int) := (cmp_isNaN_uint64.f x_x).bind fun z2t => ((cmp_isNaN_uint64.f x_y).bind fun z4t => (if z2t = true then (if z4t = true then (some 0) else (some (-1))) else (if z4t = true then (some 1) else (if x_x < x_y then (some (-1)) else (if x_y < x_x then (some 1) else (some 0))))))
set_option maxRecDepth 100000 in
set_option maxHeartbeats 4000000 in
theorem cmp_Compare_uint64.calls (x_x : Int) (x_y : Int) (W0 : World) (X : Heap)  (Hq : HS W0 [isH X] W0) (r : Int) (H : cmp_Compare_uint64.f x_x x_y = some r) :
    Calls Try.prog 45 #[.int .u64 x_x, .int .u64 x_y] W0 (fun e w => e = .returned (.int .i64 r) ∧ HS W0 [isH X] w) := by
  rw [cmp_Compare_uint64.f] at H
  refine calls_in Try.func45 rfl rfl ?_
  intro a0 S0
  refine w_seq ?_
  refine w_region ?_
  refine r_pures [_] S0 rfl ?_
  clear S0; intro a0 S0
  refine wl_nil ?_
  refine nr_then ?_
  refine w_seq ?_
  refine w_region ?_
  refine r_pures [_] S0 rfl ?_
  clear S0; intro a0 S0
  obtain ⟨Xz1, HXz1, HPz1, HBz1⟩ := call_frame [] Hq
  dsimp only [List.cons_append, List.nil_append] at HXz1 HBz1
  obtain ⟨z2t, Hc, H⟩ := Option.bind_eq_some_iff.mp H
  refine r_call S0 rfl rfl goes67 rfl ?_
  refine (cmp_isNaN_uint64.calls x_x _ _  HXz1 z2t Hc).mono ?_
  rintro e w ⟨rfl, Hq'⟩
  have Hq : HS W0 [isH X] w := HBz1 [] _ Hq'
  clear HXz1 HPz1 HBz1 Hq'
  refine ⟨.bool z2t, rfl, ?_⟩; clear S0; intro a0 S0
  refine r_pures [_] S0 rfl ?_
  clear S0; intro a0 S0
  refine wl_nil ?_
  refine nr_then ?_
  refine w_seq ?_
  refine w_region ?_
  refine r_pures [_] S0 rfl ?_
  clear S0; intro a0 S0
  obtain ⟨Xz3, HXz3, HPz3, HBz3⟩ := call_frame [] Hq
  dsimp only [List.cons_append, List.nil_append] at HXz3 HBz3
  obtain ⟨z4t, Hc, H⟩ := Option.bind_eq_some_iff.mp H
  refine r_call S0 rfl rfl goes67 rfl ?_
  refine (cmp_isNaN_uint64.calls x_y _ _  HXz3 z4t Hc).mono ?_
  rintro e w ⟨rfl, Hq'⟩
  have Hq : HS W0 [isH X] w := HBz3 [] _ Hq'
  clear HXz3 HPz3 HBz3 Hq'
  refine ⟨.bool z4t, rfl, ?_⟩; clear S0; intro a0 S0
  refine r_pures [_] S0 rfl ?_
  clear S0; intro a0 S0
  refine wl_nil ?_
  refine nr_then ?_
  refine w_seq ?_
  refine w_seq ?_
  refine w_region ?_
  refine r_pures [_] S0 rfl ?_
  clear S0; intro a0 S0
  refine wl_nil ?_
  refine nr_then ?_
  by_cases z5h : z2t = true
  · replace H := (if_pos z5h).symm.trans H
    refine w_true S0 rfl z5h ?_
    refine w_seq ?_
    refine w_seq ?_
    refine w_region ?_
    refine r_pures [_] S0 rfl ?_
    clear S0; intro a0 S0
    refine wl_nil ?_
    refine nr_then ?_
    by_cases z6h : z4t = true
    · replace H := (if_pos z6h).symm.trans H
      refine w_true S0 rfl z6h ?_
      refine w_seq ?_
      refine w_region ?_
      refine r_pures [_] S0 rfl ?_
      clear S0; intro a0 S0
      refine wl_nil ?_
      refine nr_then ?_
      refine w_ret ?_
      refine ret_then ?_
      refine ret_then ?_
      obtain rfl := Option.some.inj H
      refine ret1 S0 rfl rfl ?_
      exact ⟨rfl, Hq⟩
    · replace H := (if_neg z6h).symm.trans H
      refine w_false S0 rfl (Bool.eq_false_iff.mpr z6h) ?_
      refine w_skip ?_
      refine nr_then ?_
      refine w_seq ?_
      refine w_region ?_
      refine r_pures [_] S0 rfl ?_
      clear S0; intro a0 S0
      refine wl_nil ?_
      refine nr_then ?_
      refine w_ret ?_
      refine ret_then ?_
      obtain rfl := Option.some.inj H
      refine ret1 S0 rfl rfl ?_
      exact ⟨rfl, Hq⟩
  · replace H := (if_neg z5h).symm.trans H
    refine w_false S0 rfl (Bool.eq_false_iff.mpr z5h) ?_
    refine w_skip ?_
    refine nr_then ?_
    refine w_seq ?_
    refine w_seq ?_
    refine w_region ?_
    refine r_pures [_] S0 rfl ?_
    clear S0; intro a0 S0
    refine wl_nil ?_
    refine nr_then ?_
    by_cases z7h : z4t = true
    · replace H := (if_pos z7h).symm.trans H
      refine w_true S0 rfl z7h ?_
      refine w_seq ?_
      refine w_region ?_
      refine r_pures [_] S0 rfl ?_
      clear S0; intro a0 S0
      refine wl_nil ?_
      refine nr_then ?_
      refine w_ret ?_
      refine ret_then ?_
      obtain rfl := Option.some.inj H
      refine ret1 S0 rfl rfl ?_
      exact ⟨rfl, Hq⟩
    · replace H := (if_neg z7h).symm.trans H
      refine w_false S0 rfl (Bool.eq_false_iff.mpr z7h) ?_
      refine w_skip ?_
      refine nr_then ?_
      refine w_seq ?_
      refine w_seq ?_
      refine w_region ?_
      refine r_pures [_, _, _] S0 rfl ?_
      clear S0; intro a0 S0
      refine wl_nil ?_
      refine nr_then ?_
      by_cases z8h : x_x < x_y
      · replace H := (if_pos z8h).symm.trans H
        refine w_true S0 rfl (decide_eq_true z8h) ?_
        refine w_seq ?_
        refine w_region ?_
        refine r_pures [_] S0 rfl ?_
        clear S0; intro a0 S0
        refine wl_nil ?_
        refine nr_then ?_
        refine w_ret ?_
        refine ret_then ?_
        obtain rfl := Option.some.inj H
        refine ret1 S0 rfl rfl ?_
        exact ⟨rfl, Hq⟩
      · replace H := (if_neg z8h).symm.trans H
        refine w_false S0 rfl (decide_eq_false z8h) ?_
        refine w_skip ?_
        refine nr_then ?_
        refine w_seq ?_
        refine w_seq ?_
        refine w_region ?_
        refine r_pures [_, _, _] S0 rfl ?_
        clear S0; intro a0 S0
        refine wl_nil ?_
        refine nr_then ?_
        by_cases z9h : x_y < x_x
        · replace H := (if_pos z9h).symm.trans H
          refine w_true S0 rfl (decide_eq_true z9h) ?_
          refine w_seq ?_
          refine w_region ?_
          refine r_pures [_] S0 rfl ?_
          clear S0; intro a0 S0
          refine wl_nil ?_
          refine nr_then ?_
          refine w_ret ?_
          refine ret_then ?_
          obtain rfl := Option.some.inj H
          refine ret1 S0 rfl rfl ?_
          exact ⟨rfl, Hq⟩
        · replace H := (if_neg z9h).symm.trans H
          refine w_false S0 rfl (decide_eq_false z9h) ?_
          refine w_skip ?_
          refine nr_then ?_
          refine w_seq ?_
          refine w_region ?_
          refine r_pures [_] S0 rfl ?_
          clear S0; intro a0 S0
          refine wl_nil ?_
          refine nr_then ?_
          refine w_ret ?_
          obtain rfl := Option.some.inj H
          refine ret1 S0 rfl rfl ?_
          exact ⟨rfl, Hq⟩

end Go.Proofs.Ytmdpjijafejgpaa.M

/- cmp.isNaN[int]: a plain function, and that the machine's call comes to it: printed by a program of the session's own. -/
set_option linter.unusedVariables false
set_option linter.unusedSimpArgs false
namespace Go.Proofs.Ytmdpjijafejgpaa.M
open Go Go.Proofs.Ytmdpjijafejgpaa.Sl
/-! ### cmp.isNaN[int]: function 68 -/
def cmp_isNaN_int.f (x_x : Int) : Option (Bool) := some (!(decide (x_x = x_x)))
set_option maxRecDepth 100000 in
set_option maxHeartbeats 4000000 in
theorem cmp_isNaN_int.calls (x_x : Int) (W0 : World) (X : Heap)  (Hq : HS W0 [isH X] W0) (r : Bool) (H : cmp_isNaN_int.f x_x = some r) :
    Calls Try.prog 68 #[.int .i64 x_x] W0 (fun e w => e = .returned (.bool r) ∧ HS W0 [isH X] w) := by
  rw [cmp_isNaN_int.f] at H
  refine calls_in Try.func68 rfl rfl ?_
  intro a0 S0
  refine w_seq ?_
  refine w_region ?_
  refine r_pures [_] S0 rfl ?_
  clear S0; intro a0 S0
  refine wl_nil ?_
  refine nr_then ?_
  refine w_seq ?_
  refine w_region ?_
  refine r_pures [_, _, _, _] S0 rfl ?_
  clear S0; intro a0 S0
  refine wl_nil ?_
  refine nr_then ?_
  refine w_ret ?_
  obtain rfl := Option.some.inj H
  refine ret1 S0 rfl rfl ?_
  exact ⟨rfl, Hq⟩

end Go.Proofs.Ytmdpjijafejgpaa.M

/- cmp.Compare[int]: a plain function, and that the machine's call comes to it: printed by a program of the session's own. -/
set_option linter.unusedVariables false
set_option linter.unusedSimpArgs false
namespace Go.Proofs.Ytmdpjijafejgpaa.M
open Go Go.Proofs.Ytmdpjijafejgpaa.Sl
/-! ### cmp.Compare[int]: function 46 -/
def cmp_Compare_int.f (x_x : Int) (x_y : Int) : Option (Int) := (cmp_isNaN_int.f x_x).bind fun z2t => ((cmp_isNaN_int.f x_y).bind fun z4t => (if z2t = true then (if z4t = true then (some 0) else (some (-1))) else (if z4t = true then (some 1) else (if x_x < x_y then (some (-1)) else (if x_y < x_x then (some 1) else (some 0))))))
set_option maxRecDepth 100000 in
set_option maxHeartbeats 4000000 in
theorem cmp_Compare_int.calls (x_x : Int) (x_y : Int) (W0 : World) (X : Heap)  (Hq : HS W0 [isH X] W0) (r : Int) (H : cmp_Compare_int.f x_x x_y = some r) :
    Calls Try.prog 46 #[.int .i64 x_x, .int .i64 x_y] W0 (fun e w => e = .returned (.int .i64 r) ∧ HS W0 [isH X] w) := by
  rw [cmp_Compare_int.f] at H
  refine calls_in Try.func46 rfl rfl ?_
  intro a0 S0
  refine w_seq ?_
  refine w_region ?_
  refine r_pures [_] S0 rfl ?_
  clear S0; intro a0 S0
  refine wl_nil ?_
  refine nr_then ?_
  refine w_seq ?_
  refine w_region ?_
  refine r_pures [_] S0 rfl ?_
  clear S0; intro a0 S0
  obtain ⟨Xz1, HXz1, HPz1, HBz1⟩ := call_frame [] Hq
  dsimp only [List.cons_append, List.nil_append] at HXz1 HBz1
  obtain ⟨z2t, Hc, H⟩ := Option.bind_eq_some_iff.mp H
  refine r_call S0 rfl rfl goes68 rfl ?_
  refine (cmp_isNaN_int.calls x_x _ _  HXz1 z2t Hc).mono ?_
  rintro e w ⟨rfl, Hq'⟩
  have Hq : HS W0 [isH X] w := HBz1 [] _ Hq'
  clear HXz1 HPz1 HBz1 Hq'
  refine ⟨.bool z2t, rfl, ?_⟩; clear S0; intro a0 S0
  refine r_pures [_] S0 rfl ?_
  clear S0; intro a0 S0
  refine wl_nil ?_
  refine nr_then ?_
  refine w_seq ?_
  refine w_region ?_
  refine r_pures [_] S0 rfl ?_
  clear S0; intro a0 S0
  obtain ⟨Xz3, HXz3, HPz3, HBz3⟩ := call_frame [] Hq
  dsimp only [List.cons_append, List.nil_append] at HXz3 HBz3
  obtain ⟨z4t, Hc, H⟩ := Option.bind_eq_some_iff.mp H
  refine r_call S0 rfl rfl goes68 rfl ?_
  refine (cmp_isNaN_int.calls x_y _ _  HXz3 z4t Hc).mono ?_
  rintro e w ⟨rfl, Hq'⟩
  have Hq : HS W0 [isH X] w := HBz3 [] _ Hq'
  clear HXz3 HPz3 HBz3 Hq'
  refine ⟨.bool z4t, rfl, ?_⟩; clear S0; intro a0 S0
  refine r_pures [_] S0 rfl ?_
  clear S0; intro a0 S0
  refine wl_nil ?_
  refine nr_then ?_
  refine w_seq ?_
  refine w_seq ?_
  refine w_region ?_
  refine r_pures [_] S0 rfl ?_
  clear S0; intro a0 S0
  refine wl_nil ?_
  refine nr_then ?_
  by_cases z5h : z2t = true
  · replace H := (if_pos z5h).symm.trans H
    refine w_true S0 rfl z5h ?_
    refine w_seq ?_
    refine w_seq ?_
    refine w_region ?_
    refine r_pures [_] S0 rfl ?_
    clear S0; intro a0 S0
    refine wl_nil ?_
    refine nr_then ?_
    by_cases z6h : z4t = true
    · replace H := (if_pos z6h).symm.trans H
      refine w_true S0 rfl z6h ?_
      refine w_seq ?_
      refine w_region ?_
      refine r_pures [_] S0 rfl ?_
      clear S0; intro a0 S0
      refine wl_nil ?_
      refine nr_then ?_
      refine w_ret ?_
      refine ret_then ?_
      refine ret_then ?_
      obtain rfl := Option.some.inj H
      refine ret1 S0 rfl rfl ?_
      exact ⟨rfl, Hq⟩
    · replace H := (if_neg z6h).symm.trans H
      refine w_false S0 rfl (Bool.eq_false_iff.mpr z6h) ?_
      refine w_skip ?_
      refine nr_then ?_
      refine w_seq ?_
      refine w_region ?_
      refine r_pures [_] S0 rfl ?_
      clear S0; intro a0 S0
      refine wl_nil ?_
      refine nr_then ?_
      refine w_ret ?_
      refine ret_then ?_
      obtain rfl := Option.some.inj H
      refine ret1 S0 rfl rfl ?_
      exact ⟨rfl, Hq⟩
  · replace H := (if_neg z5h).symm.trans H
    refine w_false S0 rfl (Bool.eq_false_iff.mpr z5h) ?_
    refine w_skip ?_
    refine nr_then ?_
    refine w_seq ?_
    refine w_seq ?_
    refine w_region ?_
    refine r_pures [_] S0 rfl ?_
    clear S0; intro a0 S0
    refine wl_nil ?_
    refine nr_then ?_
    by_cases z7h : z4t = true
    · replace H := (if_pos z7h).symm.trans H
      refine w_true S0 rfl z7h ?_
      refine w_seq ?_
      refine w_region ?_
      refine r_pures [_] S0 rfl ?_
      clear S0; intro a0 S0
      refine wl_nil ?_
      refine nr_then ?_
      refine w_ret ?_
      refine ret_then ?_
      obtain rfl := Option.some.inj H
      refine ret1 S0 rfl rfl ?_
      exact ⟨rfl, Hq⟩
    · replace H := (if_neg z7h).symm.trans H
      refine w_false S0 rfl (Bool.eq_false_iff.mpr z7h) ?_
      refine w_skip ?_
      refine nr_then ?_
      refine w_seq ?_
      refine w_seq ?_
      refine w_region ?_
      refine r_pures [_, _, _] S0 rfl ?_
      clear S0; intro a0 S0
      refine wl_nil ?_
      refine nr_then ?_
      by_cases z8h : x_x < x_y
      · replace H := (if_pos z8h).symm.trans H
        refine w_true S0 rfl (decide_eq_true z8h) ?_
        refine w_seq ?_
        refine w_region ?_
        refine r_pures [_] S0 rfl ?_
        clear S0; intro a0 S0
        refine wl_nil ?_
        refine nr_then ?_
        refine w_ret ?_
        refine ret_then ?_
        obtain rfl := Option.some.inj H
        refine ret1 S0 rfl rfl ?_
        exact ⟨rfl, Hq⟩
      · replace H := (if_neg z8h).symm.trans H
        refine w_false S0 rfl (decide_eq_false z8h) ?_
        refine w_skip ?_
        refine nr_then ?_
        refine w_seq ?_
        refine w_seq ?_
        refine w_region ?_
        refine r_pures [_, _, _] S0 rfl ?_
        clear S0; intro a0 S0
        refine wl_nil ?_
        refine nr_then ?_
        by_cases z9h : x_y < x_x
        · replace H := (if_pos z9h).symm.trans H
          refine w_true S0 rfl (decide_eq_true z9h) ?_
          refine w_seq ?_
          refine w_region ?_
          refine r_pures [_] S0 rfl ?_
          clear S0; intro a0 S0
          refine wl_nil ?_
          refine nr_then ?_
          refine w_ret ?_
          refine ret_then ?_
          obtain rfl := Option.some.inj H
          refine ret1 S0 rfl rfl ?_
          exact ⟨rfl, Hq⟩
        · replace H := (if_neg z9h).symm.trans H
          refine w_false S0 rfl (decide_eq_false z9h) ?_
          refine w_skip ?_
          refine nr_then ?_
          refine w_seq ?_
          refine w_region ?_
          refine r_pures [_] S0 rfl ?_
          clear S0; intro a0 S0
          refine wl_nil ?_
          refine nr_then ?_
          refine w_ret ?_
          obtain rfl := Option.some.inj H
          refine ret1 S0 rfl rfl ?_
          exact ⟨rfl, Hq⟩

end Go.Proofs.Ytmdpjijafejgpaa.M

/- waybill/ring.order: a plain function, and that the machine's call comes to it: printed by a program of the session's own. -/
set_option linter.unusedVariables false
set_option linter.unusedSimpArgs false
namespace Go.Proofs.Ytmdpjijafejgpaa.M
open Go Go.Proofs.Ytmdpjijafejgpaa.Sl
/-! ### waybill/ring.order: function 27 -/
def ring_order.f (k : Nat) (x_a : api_Point) (x_b : api_Point) : Option (Int) := (cmp_Compare_uint64.f x_a.Hash x_b.Hash).bind fun z13t => ((cmp_Compare_int.f x_a.ID x_b.ID).bind fun z16t => ((cmp_Or_int.f k ([z13t, z16t] : List Int)).bind fun z22t => (some z22t)))
set_option maxRecDepth 100000 in
set_option maxHeartbeats 4000000 in
theorem ring_order.calls (k : Nat) (x_a : api_Point) (x_b : api_Point) (W0 : World) (X : Heap)  (Hq : HS W0 [isH X] W0) (r : Int) (H : ring_order.f k x_a x_b = some r) :
    Calls Try.prog 27 #[.agg #[.int .u64 x_a.Hash, .int .i64 x_a.ID], .agg #[.int .u64 x_b.Hash, .int .i64 x_b.ID]] W0 (fun e w => e = .returned (.int .i64 r) ∧ HS W0 [isH X] w) := by
  rw [ring_order.f] at H
  refine calls_in Try.func27 rfl rfl ?_
  intro a0 S0
  refine w_seq ?_
  refine w_region ?_
  refine r_box (vs := [.int .u64 x_a.Hash, .int .i64 x_a.ID]) S0 Hq rfl rfl rfl ?_
  clear S0 Hq; intro z1b a0 w S0 Hq
  refine r_box (vs := [.int .u64 x_b.Hash, .int .i64 x_b.ID]) S0 Hq rfl rfl rfl ?_
  clear S0 Hq; intro z2b a0 w S0 Hq
  refine r_pures [_] S0 rfl ?_
  clear S0; intro a0 S0
  refine wl_nil ?_
  refine nr_then ?_
  refine w_seq ?_
  refine w_draw TryM.mixed (.pu 0 (.pu 2 (.pu 5 (.pu 7 (.rd 1 (.rd 3 (.rd 6 (.rd 8 (.ef 4 (.ef 9 (.ef 10 (.ef 11 (.pu 12 .done))))))))))))) (by kernel_rfl) rfl ?_
  replace Hq := Hq.drew
  refine st_pu S0 rfl (g_none rfl) rfl rfl (fun _ => y_fieldAddr S0 rfl fo39x0 (0) rfl) ?_
  intro az3q Sz3q
  refine st_pu Sz3q rfl (g_none rfl) rfl rfl (fun _ => y_fieldAddr Sz3q rfl fo39x0 (0) rfl) ?_
  intro az4q Sz4q
  refine st_pu Sz4q rfl (g_none rfl) rfl rfl (fun _ => y_fieldAddr Sz4q rfl fo39x1 (1) rfl) ?_
  intro az5q Sz5q
  refine st_pu Sz5q rfl (g_none rfl) rfl rfl (fun _ => y_fieldAddr Sz5q rfl fo39x1 (1) rfl) ?_
  intro az6q Sz6q
  refine st_rd Sz6q rfl (g_none rfl) rfl rfl (y_ldS [_] Sz6q Hq rfl ti23 _ rfl) ?_
  intro az7q Sz7q
  refine st_rd Sz7q rfl (g_none rfl) rfl rfl (y_ldS [] Sz7q Hq rfl ti23 _ rfl) ?_
  intro az8q Sz8q
  refine st_rd Sz8q rfl (g_none rfl) rfl rfl (y_ldS [_] Sz8q Hq rfl ti3 _ rfl) ?_
  intro az9q Sz9q
  refine st_rd Sz9q rfl (g_none rfl) rfl rfl (y_ldS [] Sz9q Hq rfl ti3 _ rfl) ?_
  intro az10q Sz10q
  refine st_ef rfl ?_
  have Sz11q := Sz10q
  obtain ⟨Xz12, HXz12, HPz12, HBz12⟩ := call_frame [] Hq
  dsimp only [List.cons_append, List.nil_append] at HXz12 HBz12
  obtain ⟨z13t, Hc, H⟩ := Option.bind_eq_some_iff.mp H
  refine r_call Sz11q rfl rfl goes45 rfl ?_
  refine (cmp_Compare_uint64.calls x_a.Hash x_b.Hash _ _  HXz12 z13t Hc).mono ?_
  rintro e w ⟨rfl, Hq'⟩
  have Hq : HS W0 [bx z2b 39 [.int .u64 x_b.Hash, .int .i64 x_b.ID], bx z1b 39 [.int .u64 x_a.Hash, .int .i64 x_a.ID], isH X] w := HBz12 [] _ Hq'
  clear HXz12 HPz12 HBz12 Hq'
  refine ⟨.int .i64 z13t, rfl, ?_⟩; clear Sz11q; intro az10q Sz11q
  refine wl_nil ?_
  refine nr_then ?_
  refine ⟨⟨⟨⟨⟨trivial, y_ldS [_] Sz6q Hq rfl ti23 _ rfl⟩, y_ldS [] Sz7q Hq rfl ti23 _ rfl⟩, y_ldS [_] Sz8q Hq rfl ti3 _ rfl⟩, y_ldS [] Sz9q Hq rfl ti3 _ rfl⟩, ?_⟩
  refine st_ef rfl ?_
  have Sz14q := Sz11q
  obtain ⟨Xz15, HXz15, HPz15, HBz15⟩ := call_frame [] Hq
  dsimp only [List.cons_append, List.nil_append] at HXz15 HBz15
  obtain ⟨z16t, Hc, H⟩ := Option.bind_eq_some_iff.mp H
  refine r_call Sz14q rfl rfl goes46 rfl ?_
  refine (cmp_Compare_int.calls x_a.ID x_b.ID _ _  HXz15 z16t Hc).mono ?_
  rintro e w ⟨rfl, Hq'⟩
  have Hq : HS W0 [bx z2b 39 [.int .u64 x_b.Hash, .int .i64 x_b.ID], bx z1b 39 [.int .u64 x_a.Hash, .int .i64 x_a.ID], isH X] w := HBz15 [] _ Hq'
  clear HXz15 HPz15 HBz15 Hq'
  refine ⟨.int .i64 z16t, rfl, ?_⟩; clear Sz14q; intro az10q Sz14q
  refine wl_nil ?_
  refine nr_then ?_
  refine ⟨⟨⟨⟨⟨trivial, y_ldS [_] Sz6q Hq rfl ti23 _ rfl⟩, y_ldS [] Sz7q Hq rfl ti23 _ rfl⟩, y_ldS [_] Sz8q Hq rfl ti3 _ rfl⟩, y_ldS [] Sz9q Hq rfl ti3 _ rfl⟩, ?_⟩
  refine st_ef rfl ?_
  have Sz17q := Sz14q
  refine r_lit (e := e_i64) (l := ([z13t, z16t] : List Int)) (m := 2) (vs := [.int .i64 z13t, .int .i64 z16t]) Sz17q Hq sl32 ti3 rfl rfl rfl rfl rfl rfl ?_
  clear Sz17q Hq; intro z18b az10q w Sz17q Hq
  refine wl_nil ?_
  refine nr_then ?_
  refine ⟨⟨⟨⟨⟨trivial, y_ldS [_, _] Sz6q Hq rfl ti23 _ rfl⟩, y_ldS [_] Sz7q Hq rfl ti23 _ rfl⟩, y_ldS [_, _] Sz8q Hq rfl ti3 _ rfl⟩, y_ldS [_] Sz9q Hq rfl ti3 _ rfl⟩, ?_⟩
  refine st_ef rfl ?_
  have Sz20q := Sz17q
  obtain ⟨Xz21, HXz21, HPz21, HBz21⟩ := call_frame [] Hq
  dsimp only [List.cons_append, List.nil_append] at HXz21 HBz21
  obtain ⟨z22t, Hc, H⟩ := Option.bind_eq_some_iff.mp H
  refine r_call Sz20q rfl rfl goes44 rfl ?_
  refine (cmp_Or_int.calls _ _ _ _ ([z13t, z16t] : List Int) _ _ (sl_own_rd [] HPz21) HXz21 z22t Hc).mono ?_
  rintro e w ⟨rfl, Hq'⟩
  have Hq : HS W0 [own e_i64 3 (some ⟨z18b, 0, none⟩) 2 2 ([z13t, z16t] : List Int), bx z2b 39 [.int .u64 x_b.Hash, .int .i64 x_b.ID], bx z1b 39 [.int .u64 x_a.Hash, .int .i64 x_a.ID], isH X] w := HBz21 [] _ Hq'
  clear HXz21 HPz21 HBz21 Hq'
  refine ⟨.int .i64 z22t, rfl, ?_⟩; clear Sz20q; intro az10q Sz20q
  refine wl_nil ?_
  refine nr_then ?_
  refine ⟨⟨⟨⟨⟨trivial, y_ldS [_, _] Sz6q Hq rfl ti23 _ rfl⟩, y_ldS [_] Sz7q Hq rfl ti23 _ rfl⟩, y_ldS [_, _] Sz8q Hq rfl ti3 _ rfl⟩, y_ldS [_] Sz9q Hq rfl ti3 _ rfl⟩, ?_⟩
  refine st_pures [12] Sz20q rfl ?_
  intro az23q Sz23q
  refine st_nil ?_
  replace S0 := Sz23q
  refine nr_then ?_
  refine w_ret ?_
  obtain rfl := Option.some.inj H
  refine ret1 S0 rfl rfl ?_
  replace Hq := HS.pull [_, _, _] Hq
  dsimp only [List.cons_append, List.nil_append] at Hq
  replace Hq := HS.keep [_] Hq
  exact ⟨rfl, Hq⟩

end Go.Proofs.Ytmdpjijafejgpaa.M

/- The shelf's contracts that this seat's code needs, laid at its translation. -/
namespace Go.Proofs
open Go.Shelf
def YtmdpjijafejgpaaLNm189_ren : Go.Shelf.Ren := ⟨fun | 189 => 33 | 125 => 43 | 257 => 50 | 128 => 65 | 129 => 66 | 294 => 69 | 295 => 70 | 296 => 71 | 297 => 72 | 298 => 73 | 299 => 74 | 216 => 51 | 300 => 75 | 301 => 76 | 328 => 82 | 329 => 78 | 330 => 79 | 331 => 83 | 332 => 84 | 215 => 68 | 343 => 86 | n => n, fun | 28 => 32 | 3 => 3 | 46 => 81 | 0 => 0 | 51 => 101 | 53 => 23 | 4 => 4 | 183 => 95 | 182 => 94 | 131 => 71 | 5 => 5 | 9 => 9 | 218 => 109 | 222 => 113 | 228 => 117 | 229 => 44 | n => n, fun | n => n⟩
theorem YtmdpjijafejgpaaLNm189 : Go.Proofs.Lays.n189 Try.prog YtmdpjijafejgpaaLNm189_ren := {
  mixed := by kernel_rfl
  f125 := Try.func43.trans (congrArg some (by kernel_rfl))
  f128 := Try.func65.trans (congrArg some (by kernel_rfl))
  f129 := Try.func66.trans (congrArg some (by kernel_rfl))
  f189 := Try.func33.trans (congrArg some (by kernel_rfl))
  f215 := Try.func68.trans (congrArg some (by kernel_rfl))
  f216 := Try.func51.trans (congrArg some (by kernel_rfl))
  f257 := Try.func50.trans (congrArg some (by kernel_rfl))
  f294 := Try.func69.trans (congrArg some (by kernel_rfl))
  f295 := Try.func70.trans (congrArg some (by kernel_rfl))
  f296 := Try.func71.trans (congrArg some (by kernel_rfl))
  f297 := Try.func72.trans (congrArg some (by kernel_rfl))
  f298 := Try.func73.trans (congrArg some (by kernel_rfl))
  f299 := Try.func74.trans (congrArg some (by kernel_rfl))
  f300 := Try.func75.trans (congrArg some (by kernel_rfl))
  f301 := Try.func76.trans (congrArg some (by kernel_rfl))
  f328 := Try.func82.trans (congrArg some (by kernel_rfl))
  f329 := Try.func78.trans (congrArg some (by kernel_rfl))
  f330 := Try.func79.trans (congrArg some (by kernel_rfl))
  f331 := Try.func83.trans (congrArg some (by kernel_rfl))
  f332 := Try.func84.trans (congrArg some (by kernel_rfl))
  f343 := Try.func86.trans (congrArg some (by kernel_rfl))
  t0 := Try.underlying0
  a0 := Try.isAgg0
  z0 := Try.sizeOf0
  v0 := Try.zeroValue0
  t3 := Try.underlying3
  a3 := Try.isAgg3
  z3 := Try.sizeOf3
  v3 := Try.zeroValue3
  t4 := Try.underlying4
  a4 := Try.isAgg4
  z4 := Try.sizeOf4
  v4 := Try.zeroValue4
  t5 := Try.underlying5
  a5 := Try.isAgg5
  z5 := Try.sizeOf5
  v5 := Try.zeroValue5
  t9 := Try.underlying9
  a9 := Try.isAgg9
  z9 := Try.sizeOf9
  v9 := Try.zeroValue9
  t28 := Try.underlying32
  a28 := Try.isAgg32
  z28 := Try.sizeOf32
  v28 := Try.zeroValue32
  t46 := Try.underlying81
  a46 := Try.isAgg81
  z46 := Try.sizeOf81
  v46 := Try.zeroValue81
  t51 := Try.underlying101
  a51 := Try.isAgg101
  z51 := Try.sizeOf101
  v51 := Try.zeroValue101
  t53 := Try.underlying23
  a53 := Try.isAgg23
  z53 := Try.sizeOf23
  v53 := Try.zeroValue23
  t131 := Try.underlying71
  a131 := Try.isAgg71
  z131 := Try.sizeOf71
  v131 := Try.zeroValue71
  t182 := Try.underlying94
  a182 := Try.isAgg94
  z182 := Try.sizeOf94
  v182 := Try.zeroValue94
  t183 := Try.underlying95
  a183 := Try.isAgg95
  z183 := Try.sizeOf95
  v183 := Try.zeroValue95
  t218 := Try.underlying109
  a218 := Try.isAgg109
  z218 := Try.sizeOf109
  v218 := Try.zeroValue109
  t222 := Try.underlying113
  a222 := Try.isAgg113
  z222 := Try.sizeOf113
  v222 := Try.zeroValue113
  t228 := Try.underlying117
  a228 := Try.isAgg117
  z228 := Try.sizeOf117
  v228 := Try.zeroValue117
  t229 := Try.underlying44
  a229 := Try.isAgg44
  z229 := Try.sizeOf44
  v229 := Try.zeroValue44 }
def YtmdpjijafejgpaaLNm225_ren : Go.Shelf.Ren := ⟨fun | 25 => 34 | 31 => 51 | 32 => 52 | 37 => 68 | n => n, fun | 22 => 32 | 3 => 3 | 4 => 4 | 40 => 81 | 0 => 0 | n => n, fun | n => n⟩
theorem YtmdpjijafejgpaaLNm225 : Go.Proofs.Lays2.n25 Try.prog YtmdpjijafejgpaaLNm225_ren := {
  mixed := by kernel_rfl
  f25 := Try.func34.trans (congrArg some (by kernel_rfl))
  f31 := Try.func51.trans (congrArg some (by kernel_rfl))
  f32 := Try.func52.trans (congrArg some (by kernel_rfl))
  f37 := Try.func68.trans (congrArg some (by kernel_rfl))
  t0 := Try.underlying0
  a0 := Try.isAgg0
  z0 := Try.sizeOf0
  v0 := Try.zeroValue0
  t3 := Try.underlying3
  a3 := Try.isAgg3
  z3 := Try.sizeOf3
  v3 := Try.zeroValue3
  t4 := Try.underlying4
  a4 := Try.isAgg4
  z4 := Try.sizeOf4
  v4 := Try.zeroValue4
  t22 := Try.underlying32
  a22 := Try.isAgg32
  z22 := Try.sizeOf32
  v22 := Try.zeroValue32
  t40 := Try.underlying81
  a40 := Try.isAgg81
  z40 := Try.sizeOf81
  v40 := Try.zeroValue81 }
def YtmdpjijafejgpaaLSf26_ren : Go.Shelf.Ren := ⟨fun | 6 => 26 | 15 => 43 | 14 => 42 | 28 => 65 | 29 => 66 | 20 => 57 | 21 => 58 | 22 => 59 | 23 => 60 | 24 => 61 | 25 => 62 | 26 => 63 | 27 => 64 | 46 => 77 | 47 => 78 | 48 => 79 | 49 => 80 | 50 => 81 | 57 => 85 | n => n, fun | 22 => 25 | 24 => 39 | 25 => 61 | 3 => 3 | 39 => 81 | 0 => 0 | 53 => 101 | 55 => 23 | 4 => 4 | 46 => 95 | 45 => 94 | 50 => 71 | 5 => 5 | 9 => 9 | 66 => 109 | 70 => 113 | 76 => 117 | 77 => 44 | n => n, fun | n => n⟩
theorem YtmdpjijafejgpaaLSf26 : Go.Proofs.SlLaysF0.n6 Try.prog YtmdpjijafejgpaaLSf26_ren := {
  mixed := by kernel_rfl
  f6 := ⟨Try.f26.name, by decide, Try.func26.trans (congrArg some (by kernel_rfl))⟩
  f14 := ⟨Try.f42.name, by decide, Try.func42.trans (congrArg some (by kernel_rfl))⟩
  f15 := Try.func43.trans (congrArg some (by kernel_rfl))
  f20 := ⟨Try.f57.name, by decide, Try.func57.trans (congrArg some (by kernel_rfl))⟩
  f21 := ⟨Try.f58.name, by decide, Try.func58.trans (congrArg some (by kernel_rfl))⟩
  f22 := ⟨Try.f59.name, by decide, Try.func59.trans (congrArg some (by kernel_rfl))⟩
  f23 := ⟨Try.f60.name, by decide, Try.func60.trans (congrArg some (by kernel_rfl))⟩
  f24 := ⟨Try.f61.name, by decide, Try.func61.trans (congrArg some (by kernel_rfl))⟩
  f25 := ⟨Try.f62.name, by decide, Try.func62.trans (congrArg some (by kernel_rfl))⟩
  f26 := ⟨Try.f63.name, by decide, Try.func63.trans (congrArg some (by kernel_rfl))⟩
  f27 := ⟨Try.f64.name, by decide, Try.func64.trans (congrArg some (by kernel_rfl))⟩
  f28 := Try.func65.trans (congrArg some (by kernel_rfl))
  f29 := Try.func66.trans (congrArg some (by kernel_rfl))
  f46 := ⟨Try.f77.name, by decide, Try.func77.trans (congrArg some (by kernel_rfl))⟩
  f47 := Try.func78.trans (congrArg some (by kernel_rfl))
  f48 := Try.func79.trans (congrArg some (by kernel_rfl))
  f49 := ⟨Try.f80.name, by decide, Try.func80.trans (congrArg some (by kernel_rfl))⟩
  f50 := ⟨Try.f81.name, by decide, Try.func81.trans (congrArg some (by kernel_rfl))⟩
  f57 := ⟨Try.f85.name, by decide, Try.func85.trans (congrArg some (by kernel_rfl))⟩
  t0 := Try.underlying0
  a0 := Try.isAgg0
  z0 := Try.sizeOf0
  v0 := Try.zeroValue0
  t3 := Try.underlying3
  a3 := Try.isAgg3
  z3 := Try.sizeOf3
  v3 := Try.zeroValue3
  t4 := Try.underlying4
  a4 := Try.isAgg4
  z4 := Try.sizeOf4
  v4 := Try.zeroValue4
  t5 := Try.underlying5
  a5 := Try.isAgg5
  z5 := Try.sizeOf5
  v5 := Try.zeroValue5
  t9 := Try.underlying9
  a9 := Try.isAgg9
  z9 := Try.sizeOf9
  v9 := Try.zeroValue9
  t22 := Try.underlying25
  a22 := Try.isAgg25
  z22 := Try.sizeOf25
  v22 := Try.zeroValue25
  t25 := Try.underlying61
  a25 := Try.isAgg61
  z25 := Try.sizeOf61
  v25 := Try.zeroValue61
  t39 := Try.underlying81
  a39 := Try.isAgg81
  z39 := Try.sizeOf81
  v39 := Try.zeroValue81
  t45 := Try.underlying94
  a45 := Try.isAgg94
  z45 := Try.sizeOf94
  v45 := Try.zeroValue94
  t46 := Try.underlying95
  a46 := Try.isAgg95
  z46 := Try.sizeOf95
  v46 := Try.zeroValue95
  t50 := Try.underlying71
  a50 := Try.isAgg71
  z50 := Try.sizeOf71
  v50 := Try.zeroValue71
  t53 := Try.underlying101
  a53 := Try.isAgg101
  z53 := Try.sizeOf101
  v53 := Try.zeroValue101
  t55 := Try.underlying23
  a55 := Try.isAgg23
  z55 := Try.sizeOf23
  v55 := Try.zeroValue23
  t66 := Try.underlying109
  a66 := Try.isAgg109
  z66 := Try.sizeOf109
  v66 := Try.zeroValue109
  t70 := Try.underlying113
  a70 := Try.isAgg113
  z70 := Try.sizeOf113
  v70 := Try.zeroValue113
  t76 := Try.underlying117
  a76 := Try.isAgg117
  z76 := Try.sizeOf117
  v76 := Try.zeroValue117
  t77 := Try.underlying44
  a77 := Try.isAgg44
  z77 := Try.sizeOf44
  v77 := Try.zeroValue44 }
end Go.Proofs

/- slices.SortFunc over a row of one's own, of structs: the shelf's contract in the words of chunks. -/
set_option linter.unusedVariables false
set_option linter.unusedSimpArgs false
namespace Go.Proofs.Ytmdpjijafejgpaa.Sl
open Go Go.Shelf Go.Sort Go.RowKit Go.Lib

variable {P : Program} {ρ : Ren} {w w0 w' : World} {cs : List Hp} {pre post : List Hp} {α : Type} {e : En α} {E : TypeId} {A B : Option Addr} {m c : Nat} {l l2 : List α}

theorem HS.grown {W w' : World} (H : HS W [isH (hpOf W)] w') : ∃ q os, w' = grow (W.drewN q) os := by
  have hb := HS.below (pre := []) H
  refine ⟨w'.drawn - W.drawn, w'.heap.extract W.heap.size w'.heap.size, ?_⟩
  have hh : w'.heap = W.heap ++ w'.heap.extract W.heap.size w'.heap.size := by
    apply Array.ext_getElem?
    intro k
    have hs := H.size
    by_cases hk : k < W.heap.size
    · rw [Array.getElem?_append_left hk]
      exact hb.block k hk
    · rw [Array.getElem?_append_right (by omega), Array.getElem?_extract]
      by_cases h2 : k < w'.heap.size
      · rw [if_pos (by omega)]; congr 1; omega
      · rw [if_neg (by omega), Array.getElem?_eq_none (by omega)]
  have hd : W.drawn + (w'.drawn - W.drawn) = w'.drawn := by have := H.dr; omega
  have h1 := H.os; have h2 := H.tape; have h3 := H.out
  cases w' with
  | mk hp' tp' dr' os' out' =>
    cases W with
    | mk hp tp dr os out =>
      dsimp only at h1 h2 h3 hd hh
      subst h1; subst h2; subst h3
      show World.mk _ _ _ _ _ = World.mk _ _ _ _ _
      congr 1
      exact hd.symm

theorem flatK_list (e : En α) (l : List α) : letI : Inhabited α := ⟨e.z⟩; (flatK e.enc e.sz l.toArray).toList = l.flatMap e.enc := by
  letI : Inhabited α := ⟨e.z⟩
  apply List.ext_getElem?
  intro t
  by_cases ht : t < l.length * e.sz
  · have hp := e.pos
    have h1 : t / e.sz < l.length := Nat.div_lt_of_lt_mul (by rw [Nat.mul_comm]; exact ht)
    have h2 : t % e.sz < e.sz := Nat.mod_lt _ hp
    have h3 := flat_get e l (t / e.sz) (t % e.sz) h1 h2
    rw [show t / e.sz * e.sz + t % e.sz = t by rw [Nat.mul_comm]; exact Nat.div_add_mod _ _] at h3
    rw [h3]
    have hlt : t < (flatK e.enc e.sz l.toArray).size := by simpa using ht
    rw [Array.getElem?_toList, Array.getElem?_eq_getElem hlt]
    have h4 := get_flatK e.enc e.sz l.toArray t (by simpa using ht)
    rw [getElem!_pos _ t hlt] at h4
    rw [h4]
    have h5 : l.toArray[t / e.sz]! = l.getD (t / e.sz) e.z := by
      rw [getElem!_pos l.toArray (t / e.sz) (by simpa using h1)]
      simp [h1]
    rw [h5]
    have h6 : t % e.sz < (e.enc (l.getD (t / e.sz) e.z)).length := by rw [e.len]; exact h2
    rw [getElem!_pos (e.enc (l.getD (t / e.sz) e.z)) (t % e.sz) h6, List.getElem?_eq_getElem h6]
  · rw [List.getElem?_eq_none (by simp; omega), List.getElem?_eq_none (by rw [flat_len]; omega)]

theorem holds_of_blockV {w : World} {g : Nat} {cur : Array Value} {E : TypeId} {vs : List Value} (hb : w.heap[g]? = some (.cells cur E (0, 0))) (ht : cur.toList.take vs.length = vs) : Holds id w g 0 vs.toArray := by
  intro j hj
  have hj' : j < vs.length := by simpa using hj
  refine ⟨?_, by simp [World.frozen?, hb]⟩
  have h1 : (cur.toList.take vs.length)[j]? = vs[j]? := by rw [ht]
  rw [List.getElem?_take_of_lt hj'] at h1
  simp only [World.cell?, hb, Nat.zero_add]
  simp only [Option.isSome_none, Bool.false_eq_true, if_false]
  rw [← Array.getElem?_toList, h1]
  simp [hj']
theorem heap_sortedV {w : World} {g n : Nat} {os : Array Obj} {cur : Array Value} {E : TypeId} {fr : Nat × Nat} (d : Array Value) (hb : w.heap[g]? = some (.cells cur E fr)) :
    (grow (putRow id (Sort.ahead w n) g 0 d) os).heap[g]? = some (.cells (putCells id 0 d cur) E fr) := by
  have hg : g < w.heap.size := (Array.getElem?_eq_some_iff.1 hb).1
  rw [heap_grow_old _ _ (by simpa using hg)]
  simp [putRow, mapBlock, Sort.ahead, Array.getElem?_modify, hb, onCells]
theorem grownBy_sortedV {w : World} {g n : Nat} {os : Array Obj} (d : Array Value) : w.grownBy (grow (putRow id (Sort.ahead w n) g 0 d) os) (some g) := by
  refine ⟨rfl, rfl, rfl, by simp, fun k hk hne => ?_⟩
  rw [heap_grow_old _ _ (by simpa using hk)]
  have : g ≠ k := fun e => hne (by rw [e])
  simp [putRow, mapBlock, Sort.ahead, Array.getElem?_modify, this]
theorem take_putCellsV (cur : Array Value) (ts : List Value) (h : ts.length ≤ cur.size) : (putCells id 0 ts.toArray cur).toList.take ts.length = ts := by
  apply List.ext_getElem?
  intro j
  by_cases hj : j < ts.length
  · rw [List.getElem?_take_of_lt hj, Array.getElem?_toList]
    simp [putCells, hj, show j < cur.size by omega]
  · rw [List.getElem?_take_eq_none (by omega), List.getElem?_eq_none (by omega)]

theorem agg_of {T m y : Nat} {z : List Value} (h : tyI P T = some (true, m, y, z)) : (∀ w, (isAgg T).run P w = .ok true w) ∧ (∀ w, (Go.sizeOf T).run P w = .ok m w) := by
  obtain ⟨d, i, zv, g1, g2, g3, g4, g5, g6, g7⟩ := tyI_open h
  refine ⟨fun w => ?_, fun w => ?_⟩
  · unfold isAgg
    rw [Sem.run_bind, run_underlying g1 w]
    cases d <;> simp_all [TypeDesc.isRow, Sem.run, Result.andThen]
  · simp [Go.sizeOf, typeInfo, program, Sem.run_bind, Sem.run, Result.andThen, g3, g4]
/-- slices.SortFunc, of structs, by an order that parts whatever two that are not one -/
theorem sort_own (L : SlLaysF0.n6 P ρ) (aE : ∀ w, (isAgg (ρ.t 24)).run P w = .ok true w) (zE : ∀ w, (Go.sizeOf (ρ.t 24)).run P w = .ok e.sz w) (cf : α → α → Int) (hO : SWO (ltOf cf)) (hT : ∀ x y, (ltOf cf) x y = false → (ltOf cf) y x = false → x = y)
    (g : Nat) (hG : Goes P g) (hc : ∀ (W : World) (x y : α), Calls P g #[.agg (e.enc x).toArray, .agg (e.enc y).toArray] W fun r w' => r = .returned (.int .i64 (cf x y)) ∧ HS W [isH (hpOf W)] w')
    (pre : List Hp) (H : HS w0 (pre ++ own e E A m c l :: post) w) (hsz : l.length < 4611686018427387904) :
    Calls P (ρ.f 6) #[.slice A m c, .func (.func g) #[] #[]] w fun r w' => r = .returned (.tuple #[]) ∧ HS w0 (pre ++ own e E A m c (l.mergeSort fun x y => !(ltOf cf) y x) :: post) w' := by
  letI : Inhabited α := ⟨e.z⟩
  have hlm := own_len pre H
  rcases Nat.eq_zero_or_pos m with h0 | hpos
  · subst h0
    have : l = [] := List.eq_nil_of_length_eq_zero hlm
    subst this
    refine (AnyF.slices_SortFunc_none L A c _ w).mono ?_
    rintro x w' ⟨rfl, rfl⟩
    exact ⟨rfl, by simpa using H⟩
  · obtain ⟨b, cur, rfl, hb, h1, h2, h3, h4, h5⟩ := own_blk pre H hpos
    have hblk : b < w.heap.size := (Array.getElem?_eq_some_iff.1 hb).1
    obtain ⟨fn1, cc, hf, hbd, hnn⟩ := hG
    have hH : HoldsK e.enc e.sz w b 0 l.toArray := by
      unfold HoldsK
      have : flatK e.enc e.sz l.toArray = (l.flatMap e.enc).toArray := by rw [← flatK_list e l]
      rw [this]
      exact holds_of_blockV hb (by rw [flat_len, h5]; exact h4)
    have hcmp : CmpLays P g #[] e.enc e.sz cf b 0 l.toArray.size w := fun q os dk hq x y => by
      refine (hc _ x y).mono ?_
      rintro r w' ⟨rfl, h⟩
      obtain ⟨q', os', rfl⟩ := HS.grown h
      exact ⟨rfl, q', os', rfl⟩
    have := AnyQ.slices_SortFunc_total L e.sz aE zE e.enc e.len (fun x v hv => by have := e.one x; rw [List.all_eq_true] at this; exact this v hv) cf hO g #[] b 0 c l.toArray w (fun args w => callFunc_enter hf hbd hnn args) hcmp hH hblk (by simpa using hsz) hT
    rw [show l.toArray.size = m from by simpa using h5] at this
    refine this.mono ?_
    rintro x w' ⟨rfl, n, os, rfl⟩
    have hlen : (l.mergeSort fun x y => !(ltOf cf) y x).length = m := by rw [List.length_mergeSort, h5]
    generalize (l.mergeSort fun x y => !(ltOf cf) y x) = l' at hlen
    refine ⟨rfl, ?_⟩
    unfold sortWorldK putRowK
    refine HS.rowed pre H hpos (grownBy_sortedV _) (Nat.le_add_right _ _) (heap_sortedV _ hb) ?_ ?_ hlen
    · simp [putCells, h3]
    · have : flatK e.enc e.sz l'.toArray = (l'.flatMap e.enc).toArray := by rw [← flatK_list e l']
      rw [this]
      have hT := take_putCellsV cur (l'.flatMap e.enc) (by rw [flat_len, hlen, h3]; exact Nat.mul_le_mul_right _ h1)
      rw [flat_len, hlen] at hT
      exact hT
end Go.Proofs.Ytmdpjijafejgpaa.Sl

/- slices.SortFunc[[]waybill/api.Point,waybill/api.Point]: a plain function, and that the machine's call comes to it: printed by a program of the session's own. -/
set_option linter.unusedVariables false
set_option linter.unusedSimpArgs false
namespace Go.Proofs.Ytmdpjijafejgpaa.M
open Go Go.Proofs.Ytmdpjijafejgpaa.Sl
/-! ### slices_SortFunc_api_Point_api_Point -/
def slices_SortFunc_api_Point_api_Point.cf (a b : api_Point) : Int := if a.Hash < b.Hash then -1 else if b.Hash < a.Hash then 1 else if a.ID < b.ID then -1 else if b.ID < a.ID then 1 else 0
theorem slices_SortFunc_api_Point_api_Point.cf_ok (k : Nat) (a b : api_Point) : ring_order.f (k + 3) a b = some (slices_SortFunc_api_Point_api_Point.cf a b) := by
  unfold slices_SortFunc_api_Point_api_Point.cf ring_order.f cmp_Compare_int.f cmp_Compare_uint64.f cmp_isNaN_int.f cmp_isNaN_uint64.f cmp_Or_int.f
  split <;> (try split) <;> (try split) <;> (try split) <;> simp_all (config := { decide := true }) [cmp_Or_int.l0, Sl.rd, IntKind.wrap, IntKind.bits, IntKind.signed] <;> (try omega)
theorem slices_SortFunc_api_Point_api_Point.lt_iff (a b : api_Point) : ltOf slices_SortFunc_api_Point_api_Point.cf a b = true ↔ a.Hash < b.Hash ∨ a.Hash = b.Hash ∧ a.ID < b.ID := by
  unfold ltOf slices_SortFunc_api_Point_api_Point.cf
  rw [decide_eq_true_iff]
  split <;> (try split) <;> (try split) <;> (try split) <;> omega
theorem slices_SortFunc_api_Point_api_Point.lt_iff' (a b : api_Point) : ltOf slices_SortFunc_api_Point_api_Point.cf a b = false ↔ ¬ (a.Hash < b.Hash ∨ a.Hash = b.Hash ∧ a.ID < b.ID) := by rw [← slices_SortFunc_api_Point_api_Point.lt_iff]; simp
theorem slices_SortFunc_api_Point_api_Point.swo : Go.Sort.SWO (ltOf slices_SortFunc_api_Point_api_Point.cf) where
  irrefl x := by rw [slices_SortFunc_api_Point_api_Point.lt_iff']; omega
  trans x y z h1 h2 := by rw [slices_SortFunc_api_Point_api_Point.lt_iff] at *; omega
  ntrans x y z h1 h2 := by rw [slices_SortFunc_api_Point_api_Point.lt_iff'] at *; omega
theorem slices_SortFunc_api_Point_api_Point.tot (x y : api_Point) (h1 : ltOf slices_SortFunc_api_Point_api_Point.cf x y = false) (h2 : ltOf slices_SortFunc_api_Point_api_Point.cf y x = false) : x = y := by
  rw [slices_SortFunc_api_Point_api_Point.lt_iff'] at *
  cases x; cases y
  simp only [api_Point.mk.injEq] at *
  omega
def slices_SortFunc_api_Point_api_Point.f (x : List api_Point) : Option (List api_Point) := if x.length < 4611686018427387904 then some (x.mergeSort fun x y => !(ltOf slices_SortFunc_api_Point_api_Point.cf) y x) else none
theorem slices_SortFunc_api_Point_api_Point.calls (A : Option Addr) (n c : Nat) (x : List api_Point) (W0 : World) (X : Heap) (Hq : HS W0 [own e_api_Point 39 A n c x, isH X] W0) (r : List api_Point) (H : slices_SortFunc_api_Point_api_Point.f x = some r) :
    Calls Try.prog 26 #[.slice A n c, .func (.func 27) #[] #[]] W0 (fun e w => e = .returned (.tuple #[]) ∧ HS W0 [own e_api_Point 39 A n c r, isH X] w) := by
  rw [slices_SortFunc_api_Point_api_Point.f] at H
  split at H
  · rename_i h; obtain rfl := Option.some.inj H
    exact sort_own (e := e_api_Point) YtmdpjijafejgpaaLSf26 (agg_of ti39).1 (agg_of ti39).2 slices_SortFunc_api_Point_api_Point.cf slices_SortFunc_api_Point_api_Point.swo slices_SortFunc_api_Point_api_Point.tot 27 goes27 (fun W a b => ring_order.calls (0 + 3) a b W (hpOf W) (HS.start W) _ (slices_SortFunc_api_Point_api_Point.cf_ok 0 a b)) [] Hq h
  · cases H

end Go.Proofs.Ytmdpjijafejgpaa.M

/- waybill/ring.Build: a plain function, and that the machine's call comes to it: printed by a program of the session's own. -/
set_option linter.unusedVariables false
set_option linter.unusedSimpArgs false
namespace Go.Proofs.Ytmdpjijafejgpaa.M
open Go Go.Proofs.Ytmdpjijafejgpaa.Sl
/-! ### waybill/ring.Build: function 8 -/
def ring_Build.l1 : Nat → Int → (List api_Backend) → Int → Int → (List api_Point) → Option ((List api_Point))
  | 0, _, _, _, _, _ => none
  | k + 1, x_points, x_l, z11x, z29x, z30x => if z29x < (IntKind.i64.wrap (x_points * ((rd e_api_Backend x_l z11x).Weight))) then ((hash_Ints.f k 1 ([(rd e_api_Backend x_l z11x).ID, z29x] : List Int)).bind fun z46t => (if z30x.length + ([(⟨z46t, (rd e_api_Backend x_l z11x).ID⟩ : api_Point)] : List api_Point).length < 8796093022208 then (ring_Build.l1 k x_points x_l z11x (IntKind.i64.wrap (z29x + 1)) (z30x ++ ([(⟨z46t, (rd e_api_Backend x_l z11x).ID⟩ : api_Point)] : List api_Point))) else (none))) else (some z30x)
def ring_Build.l0 : Nat → Int → (List api_Backend) → Int → (List api_Point) → Option ((List api_Point))
  | 0, _, _, _, _ => none
  | k + 1, x_points, x_l, z11x, z12x => if z11x < (x_l.length : Int) then (((if 0 ≤ z11x then ((((ring_Build.l1 k x_points x_l z11x 0 z12x)) : Option ((List api_Point))).bind fun z25x => (some z25x)) else (none)) : Option ((List api_Point))).bind fun z17x => (ring_Build.l0 k x_points x_l (IntKind.i64.wrap (z11x + 1)) z17x)) else (some z12x)
def ring_Build.f (k : Nat) (x_points : Int) (x_l : List api_Backend) : Option ((List api_Point) × Int) := (ring_Check.f k x_l).bind fun z2t => (if z2t = 0 then (((if x_points < 1 then (some true) else (some (decide (64 < x_points)))) : Option (Bool)).bind fun z4x => (if z4x = true then (some (([] : List api_Point), 4)) else ((((ring_Build.l0 k x_points x_l 0 ([] : List api_Point))) : Option ((List api_Point))).bind fun z7x => (if 1024 < (z7x.length : Int) then (some (([] : List api_Point), 5)) else ((slices_SortFunc_api_Point_api_Point.f z7x).bind fun z58t => (some (z58t, 0))))))) else (some (([] : List api_Point), z2t)))
set_option maxRecDepth 100000 in
set_option maxHeartbeats 4000000 in
theorem ring_Build.calls (k : Nat) (x_points : Int) (A1 : Option Addr) (n1 c1 : Nat) (x_l : List api_Backend) (W0 : World) (X : Heap) (HR1 : Rd e_api_Backend X A1 n1 c1 x_l) (Hq : HS W0 [isH X] W0) (r : (List api_Point) × Int) (H : ring_Build.f k x_points x_l = some r) :
    Calls Try.prog 8 #[.int .i64 x_points, .slice A1 n1 c1] W0 (fun e w => ∃ Ar0 nr0 cr0, e = .returned (.tuple #[.slice Ar0 nr0 cr0, .int .i64 r.2]) ∧ HS W0 [own e_api_Point 39 Ar0 nr0 cr0 r.1, isH X] w) := by
  obtain rfl := HR1.1
  rw [ring_Build.f] at H
  refine calls_in Try.func8 rfl rfl ?_
  intro a0 S0
  refine w_seq ?_
  refine w_region ?_
  refine r_pures [_, _] S0 rfl ?_
  clear S0; intro a0 S0
  refine wl_nil ?_
  refine nr_then ?_
  refine w_seq ?_
  refine w_seq ?_
  refine w_region ?_
  refine r_pures [_] S0 rfl ?_
  clear S0; intro a0 S0
  obtain ⟨Xz1, HXz1, HPz1, HBz1⟩ := call_frame [] Hq
  dsimp only [List.cons_append, List.nil_append] at HXz1 HBz1
  obtain ⟨z2t, Hc, H⟩ := Option.bind_eq_some_iff.mp H
  refine r_call S0 rfl rfl goes20 rfl ?_
  refine (ring_Check.calls _ _ _ _ x_l _ _ (sl_isH_rd [] HPz1 HR1) HXz1 z2t Hc).mono ?_
  rintro e w ⟨rfl, Hq'⟩
  have Hq : HS W0 [isH X] w := HBz1 [] _ Hq'
  clear HXz1 HPz1 HBz1 Hq'
  refine ⟨.int .i64 z2t, rfl, ?_⟩; clear S0; intro a0 S0
  refine r_pures [_] S0 rfl ?_
  clear S0; intro a0 S0
  refine wl_nil ?_
  refine nr_then ?_
  refine w_seq ?_
  refine w_region ?_
  refine r_pures [_, _] S0 rfl ?_
  clear S0; intro a0 S0
  refine wl_nil ?_
  refine nr_then ?_
  by_cases z3h : z2t = 0
  · replace H := (if_pos z3h).symm.trans H
    refine w_false S0 rfl (congrArg (!·) (decide_eq_true z3h)) ?_
    refine w_skip ?_
    refine nr_then ?_
    refine w_seq ?_
    refine w_seq ?_
    obtain ⟨z4x, H, HU1⟩ := Option.bind_eq_some_iff.mp H
    refine w_cutT (fun a w => Sl 54 [] [(0, .int .i64 x_points), (1, .slice A1 x_l.length c1), (21, .bool z4x)] a ∧ HS W0 [isH X] w) ?_ ?_
    · skip
      refine w_region ?_
      refine r_pures [_, _, _] S0 rfl ?_
      clear S0; intro a0 S0
      by_cases z5h : x_points < 1
      · replace H := (if_pos z5h).symm.trans H
        refine r_off S0 rfl rfl rfl (decide_eq_true z5h) ?_ rfl
        clear S0; intro a0 S0
        refine r_off S0 rfl rfl rfl (decide_eq_true z5h) ?_ rfl
        clear S0; intro a0 S0
        refine r_pick S0 rfl (decide_eq_true z5h) _ rfl rfl ?_
        clear S0; intro a0 S0
        refine wl_nil ?_
        refine nr_then ?_
        obtain rfl := Option.some.inj H
        exact ⟨S0.sub ⟨rfl, rfl, rfl, trivial⟩, Hq⟩
      · replace H := (if_neg z5h).symm.trans H
        refine r_on S0 rfl rfl rfl (decide_eq_false z5h) ?_
        refine r_pures [_] S0 rfl ?_
        clear S0; intro a0 S0
        refine r_on S0 rfl rfl rfl (decide_eq_false z5h) ?_
        refine r_pures [_] S0 rfl ?_
        clear S0; intro a0 S0
        refine r_pick S0 rfl (decide_eq_false z5h) _ rfl rfl ?_
        clear S0; intro a0 S0
        refine wl_nil ?_
        refine nr_then ?_
        obtain rfl := Option.some.inj H
        exact ⟨S0.sub ⟨rfl, rfl, rfl, trivial⟩, Hq⟩
    · clear S0; rintro a w ⟨S0, Hq⟩
      have H := HU1; clear HU1
      refine nr_then ?_
      by_cases z6h : z4x = true
      · replace H := (if_pos z6h).symm.trans H
        refine w_true S0 rfl z6h ?_
        refine w_seq ?_
        refine w_region ?_
        refine r_pures [_, _] S0 rfl ?_
        clear S0; intro a0 S0
        refine wl_nil ?_
        refine nr_then ?_
        refine w_ret ?_
        refine ret_then ?_
        obtain rfl := Option.some.inj H
        replace Hq := HS.own_nil e_api_Point 39 Hq
        refine ret2 S0 rfl rfl rfl ?_
        replace Hq := HS.pull [_] Hq
        dsimp only [List.cons_append, List.nil_append] at Hq
        replace Hq := HS.pull [_] Hq
        dsimp only [List.cons_append, List.nil_append] at Hq
        exact ⟨none, 0, 0, rfl, Hq⟩
      · replace H := (if_neg z6h).symm.trans H
        refine w_false S0 rfl (Bool.eq_false_iff.mpr z6h) ?_
        refine w_skip ?_
        refine nr_then ?_
        refine w_seq ?_
        refine w_region ?_
        refine r_pures [_] S0 rfl ?_
        clear S0; intro a0 S0
        refine wl_nil ?_
        refine nr_then ?_
        refine w_seq ?_
        refine w_seq ?_
        refine w_region ?_
        refine r_pures [_] S0 rfl ?_
        clear S0; intro a0 S0
        refine r_len S0 rfl sl22 rfl ?_
        clear S0; intro a0 S0
        refine r_pures [_] S0 rfl ?_
        clear S0; intro a0 S0
        refine wl_nil ?_
        refine nr_then ?_
        replace Hq := HS.own_nil e_api_Point 39 Hq
        obtain ⟨z7x, H, HU2⟩ := Option.bind_eq_some_iff.mp H
        refine w_cutT (fun a w => ∃ z8A z9m z10n, Sl 54 [] [(7, .slice z8A z9m z10n)] a ∧ HS W0 [own e_api_Point 39 z8A z9m z10n z7x, isH X] w) ?_ ?_
        · skip
          refine w_block ?_
          refine w_loop (fun kq a w => ∃ z11x z12x z13A z14m z15n, ring_Build.l0 kq x_points x_l z11x z12x = some z7x ∧ Sl 54 [] [(0, .int .i64 x_points), (7, .slice z13A z14m z15n), (22, .slice A1 x_l.length c1), (23, .int .i64 (x_l.length : Int)), (24, .int .i64 z11x)] a ∧ HS W0 [own e_api_Point 39 z13A z14m z15n z12x, isH X] w) _ ⟨0, ([] : List api_Point), none, 0, 0, H, S0.sub ⟨rfl, rfl, rfl, rfl, rfl, trivial⟩, Hq⟩ ?_
          clear H Hq S0
          rintro k0 a w ⟨z11x, z12x, z13A, z14m, z15n, H, S0, Hq⟩
          cases k0 with
          | zero => simp [ring_Build.l0] at H
          | succ k0 =>
            refine ⟨k0, rfl, ?_⟩
            rw [ring_Build.l0] at H
            obtain rfl := own_len [] Hq
            refine w_seq ?_
            refine w_region ?_
            refine r_pures [_] S0 rfl ?_
            clear S0; intro a0 S0
            refine wl_nil ?_
            refine nr_then ?_
            refine w_seq ?_
            by_cases z16h : z11x < (x_l.length : Int)
            · replace H := (if_pos z16h).symm.trans H
              refine w_true S0 rfl (decide_eq_true z16h) ?_
              refine w_skip ?_
              refine nr_then ?_
              refine w_seq ?_
              obtain ⟨z17x, H, HU3⟩ := Option.bind_eq_some_iff.mp H
              refine w_cutT (fun a w => ∃ z18A z19m z20n, Sl 54 [] [(0, .int .i64 x_points), (7, .slice z18A z19m z20n), (22, .slice A1 x_l.length c1), (23, .int .i64 (x_l.length : Int)), (24, .int .i64 z11x)] a ∧ HS W0 [own e_api_Point 39 z18A z19m z20n z17x, isH X] w) ?_ ?_
              · skip
                refine w_block ?_
                refine w_seq ?_
                refine w_region ?_
                by_cases z21h : 0 ≤ z11x
                · replace H := (if_pos z21h).symm.trans H
                  obtain ⟨z22b, z23o, rfl⟩ := (isH_rd [_] Hq HR1).at (by omega)
                  refine r_index S0 rfl rfl sl22 ti36 z21h z16h rfl ?_
                  clear S0; intro a0 S0
                  refine r_elA (vs := [.int .i64 ((rd e_api_Backend x_l z11x).ID), .int .i64 ((rd e_api_Backend x_l z11x).Weight)]) S0 (isH_rd [_] Hq HR1) z21h z16h rfl ti36 rfl rfl rfl ?_
                  clear S0; intro a0 S0
                  refine r_alloc S0 Hq ti36 rfl ?_
                  clear S0 Hq; intro z24b a0 w S0 Hq
                  refine r_st [] S0 Hq rfl rfl ti36 [.int .i64 ((rd e_api_Backend x_l z11x).ID), .int .i64 ((rd e_api_Backend x_l z11x).Weight)] rfl rfl rfl rfl [.int .i64 ((rd e_api_Backend x_l z11x).ID), .int .i64 ((rd e_api_Backend x_l z11x).Weight)] rfl ?_
                  clear Hq; intro w Hq; dsimp only [List.cons_append, List.nil_append] at Hq
                  refine wl_nil ?_
                  refine nr_then ?_
                  refine w_seq ?_
                  refine w_region ?_
                  refine r_pures [_] S0 rfl ?_
                  clear S0; intro a0 S0
                  refine r_fieldAddr S0 rfl fo36x1 (1) rfl rfl ?_
                  clear S0; intro a0 S0
                  refine r_ldS [] S0 Hq rfl ti3 _ rfl rfl ?_
                  clear S0; intro a0 S0
                  refine r_pures [_, _] S0 rfl ?_
                  clear S0; intro a0 S0
                  refine wl_nil ?_
                  refine nr_then ?_
                  obtain ⟨z25x, H, HU4⟩ := Option.bind_eq_some_iff.mp H
                  refine w_cutT (fun a w => ∃ z26A z27m z28n, Sl 54 [] [(0, .int .i64 x_points), (7, .slice z26A z27m z28n), (22, .slice (some ⟨z22b, z23o, none⟩) x_l.length c1), (23, .int .i64 (x_l.length : Int)), (24, .int .i64 z11x)] a ∧ HS W0 [own e_api_Point 39 z26A z27m z28n z25x, isH X] w) ?_ ?_
                  · skip
                    refine w_block ?_
                    refine w_loop (fun kq a w => ∃ z29x z30x z31A z32m z33n, ring_Build.l1 kq x_points x_l z11x z29x z30x = some z25x ∧ Sl 54 [] [(0, .int .i64 x_points), (7, .slice z31A z32m z33n), (9, .pointer (some ⟨z24b, 0, none⟩)), (22, .slice (some ⟨z22b, z23o, none⟩) x_l.length c1), (23, .int .i64 (x_l.length : Int)), (24, .int .i64 z11x), (31, .int .i64 (IntKind.i64.wrap (x_points * ((rd e_api_Backend x_l z11x).Weight)))), (32, .int .i64 z29x)] a ∧ HS W0 [bx z24b 36 [.int .i64 ((rd e_api_Backend x_l z11x).ID), .int .i64 ((rd e_api_Backend x_l z11x).Weight)], own e_api_Point 39 z31A z32m z33n z30x, isH X] w) _ ⟨0, z12x, z13A, z12x.length, z15n, H, S0.sub ⟨rfl, rfl, rfl, rfl, rfl, rfl, rfl, rfl, trivial⟩, Hq⟩ ?_
                    clear H Hq S0
                    rintro k1 a w ⟨z29x, z30x, z31A, z32m, z33n, H, S0, Hq⟩
                    cases k1 with
                    | zero => simp [ring_Build.l1] at H
                    | succ k1 =>
                      refine ⟨k1, rfl, ?_⟩
                      rw [ring_Build.l1] at H
                      obtain rfl := own_len [_] Hq
                      refine w_seq ?_
                      refine w_region ?_
                      refine r_pures [_] S0 rfl ?_
                      clear S0; intro a0 S0
                      refine wl_nil ?_
                      refine nr_then ?_
                      refine w_seq ?_
                      by_cases z34h : z29x < (IntKind.i64.wrap (x_points * ((rd e_api_Backend x_l z11x).Weight)))
                      · replace H := (if_pos z34h).symm.trans H
                        refine w_true S0 rfl (decide_eq_true z34h) ?_
                        refine w_skip ?_
                        refine nr_then ?_
                        refine w_seq ?_
                        refine w_block ?_
                        refine w_seq ?_
                        refine w_region ?_
                        refine r_pures [_, _] S0 rfl ?_
                        clear S0; intro a0 S0
                        refine wl_nil ?_
                        refine nr_then ?_
                        refine w_draw TryM.mixed (.pu 0 (.pu 1 (.pu 3 (.pu 6 (.rd 2 (.rd 7 (.ef 4 (.ef 5 (.pu 8 (.ef 9 (.ef 10 (.pu 11 .done)))))))))))) (by kernel_rfl) rfl ?_
                        replace Hq := Hq.drew
                        refine st_pures [0] S0 rfl ?_
                        intro az35q Sz35q
                        refine st_pu Sz35q rfl (g_none rfl) rfl rfl (fun _ => y_fieldAddr Sz35q rfl fo36x0 (0) rfl) ?_
                        intro az36q Sz36q
                        refine st_pures [3] Sz36q rfl ?_
                        intro az37q Sz37q
                        refine st_pu Sz37q rfl (g_none rfl) rfl rfl (fun _ => y_fieldAddr Sz37q rfl fo36x0 (0) rfl) ?_
                        intro az38q Sz38q
                        refine st_rd Sz38q rfl (g_none rfl) rfl rfl (y_ldS [] Sz38q Hq rfl ti3 _ rfl) ?_
                        intro az39q Sz39q
                        refine st_rd Sz39q rfl (g_none rfl) rfl rfl (y_ldS [] Sz39q Hq rfl ti3 _ rfl) ?_
                        intro az40q Sz40q
                        refine st_ef rfl ?_
                        have Sz41q := Sz40q
                        refine r_lit (e := e_i64) (l := ([(rd e_api_Backend x_l z11x).ID, z29x] : List Int)) (m := 2) (vs := [.int .i64 ((rd e_api_Backend x_l z11x).ID), .int .i64 z29x]) Sz41q Hq sl32 ti3 rfl rfl rfl rfl rfl rfl ?_
                        clear Sz41q Hq; intro z42b az40q w Sz41q Hq
                        refine wl_nil ?_
                        refine nr_then ?_
                        refine ⟨⟨⟨trivial, y_ldS [_] Sz38q Hq rfl ti3 _ rfl⟩, y_ldS [_] Sz39q Hq rfl ti3 _ rfl⟩, ?_⟩
                        refine st_ef rfl ?_
                        have Sz44q := Sz41q
                        obtain ⟨Xz45, HXz45, HPz45, HBz45⟩ := call_frame [] Hq
                        dsimp only [List.cons_append, List.nil_append] at HXz45 HBz45
                        obtain ⟨z46t, Hc, H⟩ := Option.bind_eq_some_iff.mp H
                        refine r_call Sz44q rfl rfl goes25 rfl ?_
                        refine (hash_Ints.calls _ 1 _ _ _ ([(rd e_api_Backend x_l z11x).ID, z29x] : List Int) _ _ (sl_own_rd [] HPz45) HXz45 z46t Hc).mono ?_
                        rintro e w ⟨rfl, Hq'⟩
                        have Hq : HS W0 [own e_i64 3 (some ⟨z42b, 0, none⟩) 2 2 ([(rd e_api_Backend x_l z11x).ID, z29x] : List Int), bx z24b 36 [.int .i64 ((rd e_api_Backend x_l z11x).ID), .int .i64 ((rd e_api_Backend x_l z11x).Weight)], own e_api_Point 39 z31A z30x.length z33n z30x, isH X] w := HBz45 [] _ Hq'
                        clear HXz45 HPz45 HBz45 Hq'
                        refine ⟨.int .u64 z46t, rfl, ?_⟩; clear Sz44q; intro az40q Sz44q
                        refine wl_nil ?_
                        refine nr_then ?_
                        refine ⟨⟨⟨trivial, y_ldS [_] Sz38q Hq rfl ti3 _ rfl⟩, y_ldS [_] Sz39q Hq rfl ti3 _ rfl⟩, ?_⟩
                        refine st_pu Sz44q rfl (g_none rfl) rfl rfl (fun _ => y_build Sz44q ti39 pl39 rfl [.int .u64 z46t, .int .i64 ((rd e_api_Backend x_l z11x).ID)] rfl) ?_
                        intro az47q Sz47q
                        refine st_ef rfl ?_
                        have Sz48q := Sz47q
                        refine r_lit (e := e_api_Point) (l := ([(⟨z46t, (rd e_api_Backend x_l z11x).ID⟩ : api_Point)] : List api_Point)) (m := 1) (vs := [.agg #[.int .u64 z46t, .int .i64 ((rd e_api_Backend x_l z11x).ID)]]) Sz48q Hq sl25 ti39 rfl rfl rfl rfl rfl rfl ?_
                        clear Sz48q Hq; intro z49b az47q w Sz48q Hq
                        refine wl_nil ?_
                        refine nr_then ?_
                        refine ⟨⟨⟨trivial, y_ldS [_, _] Sz38q Hq rfl ti3 _ rfl⟩, y_ldS [_, _] Sz39q Hq rfl ti3 _ rfl⟩, ?_⟩
                        refine st_ef rfl ?_
                        have Sz51q := Sz48q
                        by_cases z52h : z30x.length + ([(⟨z46t, (rd e_api_Backend x_l z11x).ID⟩ : api_Point)] : List api_Point).length < 8796093022208
                        · replace H := (if_pos z52h).symm.trans H
                          refine r_app [_, _, _] Sz51q Hq (own_rd [] Hq) rfl rfl sl25 ti39 rfl z52h rfl rfl ?_
                          clear Sz51q Hq; intro z53A z54n az47q w Sz51q Hq; dsimp only [List.cons_append, List.nil_append] at Hq
                          refine wl_nil ?_
                          refine nr_then ?_
                          refine ⟨⟨⟨trivial, y_ldS [_, _] Sz38q Hq rfl ti3 _ rfl⟩, y_ldS [_, _] Sz39q Hq rfl ti3 _ rfl⟩, ?_⟩
                          refine st_pures [11] Sz51q rfl ?_
                          intro az55q Sz55q
                          refine st_nil ?_
                          replace S0 := Sz55q
                          refine nr_in ?_
                          refine nr_then ?_
                          refine w_region ?_
                          refine r_pures [_, _] S0 rfl ?_
                          clear S0; intro a0 S0
                          refine wl_nil ?_
                          refine nr_then ?_
                          replace Hq := HS.pull [_, _, _, _] Hq
                          dsimp only [List.cons_append, List.nil_append] at Hq
                          replace Hq := HS.pull [_, _, _, _] Hq
                          dsimp only [List.cons_append, List.nil_append] at Hq
                          replace Hq := HS.pull [_, _, _, _] Hq
                          dsimp only [List.cons_append, List.nil_append] at Hq
                          replace Hq := HS.keep [_, _, _] Hq
                          exact ⟨(IntKind.i64.wrap (z29x + 1)), (z30x ++ ([(⟨z46t, (rd e_api_Backend x_l z11x).ID⟩ : api_Point)] : List api_Point)), z53A, ((z30x ++ ([(⟨z46t, (rd e_api_Backend x_l z11x).ID⟩ : api_Point)] : List api_Point)).length), z54n, H, S0.sub ⟨rfl, rfl, rfl, rfl, rfl, rfl, rfl, rfl, trivial⟩, Hq⟩
                        · replace H := (if_neg z52h).symm.trans H
                          exact nomatch H
                      · replace H := (if_neg z34h).symm.trans H
                        refine w_false S0 rfl (decide_eq_false z34h) ?_
                        refine w_exit ?_
                        refine ex_then ?_
                        refine ex_then ?_
                        refine ex_in ?_
                        refine nr_then ?_
                        replace Hq := HS.pull [_, _] Hq
                        dsimp only [List.cons_append, List.nil_append] at Hq
                        replace Hq := HS.pull [_, _] Hq
                        dsimp only [List.cons_append, List.nil_append] at Hq
                        replace Hq := HS.keep [_, _] Hq
                        obtain rfl := Option.some.inj H
                        exact ⟨z31A, z30x.length, z33n, S0.sub ⟨rfl, rfl, rfl, rfl, rfl, trivial⟩, Hq⟩
                  · clear S0; rintro a w ⟨z26A, z27m, z28n, S0, Hq⟩
                    have H := HU4; clear HU4
                    obtain rfl := own_len [] Hq
                    refine nr_in ?_
                    refine nr_then ?_
                    obtain rfl := Option.some.inj H
                    exact ⟨z26A, z25x.length, z28n, S0.sub ⟨rfl, rfl, rfl, rfl, rfl, trivial⟩, Hq⟩
                · replace H := (if_neg z21h).symm.trans H
                  exact nomatch H
              · clear S0; rintro a w ⟨z18A, z19m, z20n, S0, Hq⟩
                have H := HU3; clear HU3
                obtain rfl := own_len [] Hq
                refine nr_then ?_
                refine w_region ?_
                refine r_pures [_, _] S0 rfl ?_
                clear S0; intro a0 S0
                refine wl_nil ?_
                refine nr_then ?_
                exact ⟨(IntKind.i64.wrap (z11x + 1)), z17x, z18A, z17x.length, z20n, H, S0.sub ⟨rfl, rfl, rfl, rfl, rfl, trivial⟩, Hq⟩
            · replace H := (if_neg z16h).symm.trans H
              refine w_false S0 rfl (decide_eq_false z16h) ?_
              refine w_exit ?_
              refine ex_then ?_
              refine ex_then ?_
              refine ex_in ?_
              refine nr_then ?_
              obtain rfl := Option.some.inj H
              exact ⟨z13A, z12x.length, z15n, S0.sub ⟨rfl, trivial⟩, Hq⟩
        · clear S0; rintro a w ⟨z8A, z9m, z10n, S0, Hq⟩
          have H := HU2; clear HU2
          obtain rfl := own_len [] Hq
          refine nr_then ?_
          refine w_seq ?_
          refine w_seq ?_
          refine w_region ?_
          refine r_pures [_] S0 rfl ?_
          clear S0; intro a0 S0
          refine r_len S0 rfl sl25 rfl ?_
          clear S0; intro a0 S0
          refine r_pures [_] S0 rfl ?_
          clear S0; intro a0 S0
          refine wl_nil ?_
          refine nr_then ?_
          by_cases z56h : 1024 < (z7x.length : Int)
          · replace H := (if_pos z56h).symm.trans H
            refine w_true S0 rfl (decide_eq_true z56h) ?_
            refine w_seq ?_
            refine w_region ?_
            refine r_pures [_, _] S0 rfl ?_
            clear S0; intro a0 S0
            refine wl_nil ?_
            refine nr_then ?_
            refine w_ret ?_
            refine ret_then ?_
            obtain rfl := Option.some.inj H
            replace Hq := HS.own_nil e_api_Point 39 Hq
            refine ret2 S0 rfl rfl rfl ?_
            replace Hq := HS.pull [_, _] Hq
            dsimp only [List.cons_append, List.nil_append] at Hq
            replace Hq := HS.pull [_] Hq
            dsimp only [List.cons_append, List.nil_append] at Hq
            replace Hq := HS.keep [_, _] Hq
            exact ⟨none, 0, 0, rfl, Hq⟩
          · replace H := (if_neg z56h).symm.trans H
            refine w_false S0 rfl (decide_eq_false z56h) ?_
            refine w_skip ?_
            refine nr_then ?_
            refine w_seq ?_
            refine w_region ?_
            refine r_pures [_] S0 rfl ?_
            clear S0; intro a0 S0
            obtain ⟨Xz57, HXz57, HPz57, HBz57⟩ := call_frame [_] Hq
            dsimp only [List.cons_append, List.nil_append] at HXz57 HBz57
            obtain ⟨z58t, Hc, H⟩ := Option.bind_eq_some_iff.mp H
            refine r_call S0 rfl rfl goes26 rfl ?_
            refine (slices_SortFunc_api_Point_api_Point.calls _ _ _ z7x _ _  HXz57 z58t Hc).mono ?_
            rintro e w ⟨rfl, Hq'⟩
            have Hq : HS W0 [own e_api_Point 39 z8A z7x.length z10n z58t, isH X] w := HBz57 [_] _ Hq'
            clear HXz57 HPz57 HBz57 Hq'
            refine ⟨.tuple #[], rfl, ?_⟩; clear S0; intro a0 S0
            refine wl_nil ?_
            refine nr_then ?_
            refine w_seq ?_
            refine w_region ?_
            refine r_pures [_, _, _] S0 rfl ?_
            clear S0; intro a0 S0
            refine wl_nil ?_
            refine nr_then ?_
            refine w_ret ?_
            obtain rfl := Option.some.inj H
            refine ret2 S0 rfl rfl rfl ?_
            replace Hq := HS.pull [_] Hq
            dsimp only [List.cons_append, List.nil_append] at Hq
            replace Hq := HS.pull [_] Hq
            dsimp only [List.cons_append, List.nil_append] at Hq
            exact ⟨z8A, z7x.length, z10n, rfl, Hq⟩
  · replace H := (if_neg z3h).symm.trans H
    refine w_true S0 rfl (congrArg (!·) (decide_eq_false z3h)) ?_
    refine w_seq ?_
    refine w_region ?_
    refine r_pures [_, _, _] S0 rfl ?_
    clear S0; intro a0 S0
    refine wl_nil ?_
    refine nr_then ?_
    refine w_ret ?_
    refine ret_then ?_
    obtain rfl := Option.some.inj H
    replace Hq := HS.own_nil e_api_Point 39 Hq
    refine ret2 S0 rfl rfl rfl ?_
    replace Hq := HS.pull [_] Hq
    dsimp only [List.cons_append, List.nil_append] at Hq
    replace Hq := HS.pull [_] Hq
    dsimp only [List.cons_append, List.nil_append] at Hq
    exact ⟨none, 0, 0, rfl, Hq⟩

end Go.Proofs.Ytmdpjijafejgpaa.M

/- waybill/waybilllaw12.num: a plain function, and that the machine's call comes to it: printed by a program of the session's own. -/
set_option linter.unusedVariables false
set_option linter.unusedSimpArgs false
namespace Go.Proofs.Ytmdpjijafejgpaa.M
open Go Go.Proofs.Ytmdpjijafejgpaa.Sl
/-! ### waybill/waybilllaw12.num: function 9 -/
def waybilllaw12_num.f (x_e : Int) : Option (Int) := some x_e
set_option maxRecDepth 100000 in
set_option maxHeartbeats 4000000 in
theorem waybilllaw12_num.calls (x_e : Int) (W0 : World) (X : Heap)  (Hq : HS W0 [isH X] W0) (r : Int) (H : waybilllaw12_num.f x_e = some r) :
    Calls Try.prog 9 #[.int .i64 x_e] W0 (fun e w => e = .returned (.int .i64 r) ∧ HS W0 [isH X] w) := by
  rw [waybilllaw12_num.f] at H
  refine calls_in Try.func9 rfl rfl ?_
  intro a0 S0
  refine w_seq ?_
  refine w_region ?_
  refine r_pures [_] S0 rfl ?_
  clear S0; intro a0 S0
  refine wl_nil ?_
  refine nr_then ?_
  refine w_seq ?_
  refine w_region ?_
  refine r_pures [_, _] S0 rfl ?_
  clear S0; intro a0 S0
  refine wl_nil ?_
  refine nr_then ?_
  refine w_ret ?_
  obtain rfl := Option.some.inj H
  refine ret1 S0 rfl rfl ?_
  exact ⟨rfl, Hq⟩

end Go.Proofs.Ytmdpjijafejgpaa.M

/- waybill/ring.Whole$1: a plain function, and that the machine's call comes to it: printed by a program of the session's own. -/
set_option linter.unusedVariables false
set_option linter.unusedSimpArgs false
namespace Go.Proofs.Ytmdpjijafejgpaa.M
open Go Go.Proofs.Ytmdpjijafejgpaa.Sl
/-! ### waybill/ring.Whole$1: function 39 -/
def ring_Whole_1.f (x_p : api_Point) : Option (Bool) := some (decide (x_p.ID < 0))
set_option maxRecDepth 100000 in
set_option maxHeartbeats 4000000 in
theorem ring_Whole_1.calls (x_p : api_Point) (W0 : World) (X : Heap)  (Hq : HS W0 [isH X] W0) (r : Bool) (H : ring_Whole_1.f x_p = some r) :
    Calls Try.prog 39 #[.agg #[.int .u64 x_p.Hash, .int .i64 x_p.ID]] W0 (fun e w => e = .returned (.bool r) ∧ HS W0 [isH X] w) := by
  rw [ring_Whole_1.f] at H
  refine calls_in Try.func39 rfl rfl ?_
  intro a0 S0
  refine w_seq ?_
  refine w_region ?_
  refine r_box (vs := [.int .u64 x_p.Hash, .int .i64 x_p.ID]) S0 Hq rfl rfl rfl ?_
  clear S0 Hq; intro z1b a0 w S0 Hq
  refine r_pures [_] S0 rfl ?_
  clear S0; intro a0 S0
  refine wl_nil ?_
  refine nr_then ?_
  refine w_seq ?_
  refine w_region ?_
  refine r_fieldAddr S0 rfl fo39x1 (1) rfl rfl ?_
  clear S0; intro a0 S0
  refine r_ldS [] S0 Hq rfl ti3 _ rfl rfl ?_
  clear S0; intro a0 S0
  refine r_pures [_, _] S0 rfl ?_
  clear S0; intro a0 S0
  refine wl_nil ?_
  refine nr_then ?_
  refine w_ret ?_
  obtain rfl := Option.some.inj H
  refine ret1 S0 rfl rfl ?_
  replace Hq := HS.pull [_] Hq
  dsimp only [List.cons_append, List.nil_append] at Hq
  replace Hq := HS.keep [_] Hq
  exact ⟨rfl, Hq⟩

end Go.Proofs.Ytmdpjijafejgpaa.M

/- waybill/ring.Whole: a plain function, and that the machine's call comes to it: printed by a program of the session's own. -/
set_option linter.unusedVariables false
set_option linter.unusedSimpArgs false
namespace Go.Proofs.Ytmdpjijafejgpaa.M
open Go Go.Proofs.Ytmdpjijafejgpaa.Sl
/-! ### waybill/ring.Whole: function 22 -/
def ring_Whole.l1 : Nat → (List api_Point) → Int → Option (Sum (Int) (Unit))
  | 0, _, _ => none
  | k + 1, x_r, z23x => if z23x < (x_r.length : Int) then (if 0 ≤ z23x then ((ring_Whole_1.f (rd e_api_Point x_r z23x)).bind fun z29t => (if z29t = true then (some (Sum.inl z23x)) else (ring_Whole.l1 k x_r (IntKind.i64.wrap (z23x + 1))))) else (none)) else (some (Sum.inr (())))
def ring_Whole.l0 : Nat → (List api_Point) → Int → Option (Bool)
  | 0, _, _ => none
  | k + 1, x_r, z3x => if 0 < z3x then (if 0 ≤ z3x then (if z3x < (x_r.length : Int) then (if 0 ≤ (IntKind.i64.wrap (z3x - 1)) then (if (IntKind.i64.wrap (z3x - 1)) < (x_r.length : Int) then ((ring_order.f k (rd e_api_Point x_r z3x) (rd e_api_Point x_r (IntKind.i64.wrap (z3x - 1)))).bind fun z19t => (if z19t < 0 then (some true) else (ring_Whole.l0 k x_r (IntKind.i64.wrap (z3x - 1))))) else (none)) else (none)) else (none)) else (none)) else ((((ring_Whole.l1 k x_r 0)) : Option (Sum (Int) (Unit))).bind fun v_ => (match v_ with | (Sum.inl z22x) => some (decide (0 ≤ z22x)) | (Sum.inr (_)) => some (decide ((0 : Int) ≤ (-1)))))
def ring_Whole.f (k : Nat) (x_r : List api_Point) : Option (Int) := if 1024 < (x_r.length : Int) then (some 3) else ((((ring_Whole.l0 k x_r (IntKind.i64.wrap ((x_r.length : Int) - 1)))) : Option (Bool)).bind fun z2x => (if z2x = true then (some 9) else (some 0)))
set_option maxRecDepth 100000 in
set_option maxHeartbeats 4000000 in
theorem ring_Whole.calls (k : Nat) (A0 : Option Addr) (n0 c0 : Nat) (x_r : List api_Point) (W0 : World) (X : Heap) (HR0 : Rd e_api_Point X A0 n0 c0 x_r) (Hq : HS W0 [isH X] W0) (r : Int) (H : ring_Whole.f k x_r = some r) :
    Calls Try.prog 22 #[.slice A0 n0 c0] W0 (fun e w => e = .returned (.int .i64 r) ∧ HS W0 [isH X] w) := by
  obtain rfl := HR0.1
  rw [ring_Whole.f] at H
  refine calls_in Try.func22 rfl rfl ?_
  intro a0 S0
  refine w_seq ?_
  refine w_region ?_
  refine r_pures [_] S0 rfl ?_
  clear S0; intro a0 S0
  refine wl_nil ?_
  refine nr_then ?_
  refine w_seq ?_
  refine w_block ?_
  refine w_seq ?_
  refine w_region ?_
  refine r_pures [_] S0 rfl ?_
  clear S0; intro a0 S0
  refine r_len S0 rfl sl25 rfl ?_
  clear S0; intro a0 S0
  refine r_pures [_, _] S0 rfl ?_
  clear S0; intro a0 S0
  refine wl_nil ?_
  refine nr_then ?_
  by_cases z1h : 1024 < (x_r.length : Int)
  · replace H := (if_pos z1h).symm.trans H
    refine w_true S0 rfl (decide_eq_true z1h) ?_
    refine w_seq ?_
    refine w_region ?_
    refine r_pures [_] S0 rfl ?_
    clear S0; intro a0 S0
    refine wl_nil ?_
    refine nr_then ?_
    refine w_ret ?_
    refine ret_in ?_
    refine ret_then ?_
    obtain rfl := Option.some.inj H
    refine ret1 S0 rfl rfl ?_
    exact ⟨rfl, Hq⟩
  · replace H := (if_neg z1h).symm.trans H
    refine w_false S0 rfl (decide_eq_false z1h) ?_
    refine w_seq ?_
    obtain ⟨z2x, H, HU1⟩ := Option.bind_eq_some_iff.mp H
    refine w_cutT (fun a w => Sl 15 [] [(7, .bool z2x)] a ∧ HS W0 [isH X] w) ?_ ?_
    · skip
      refine w_region ?_
      refine r_pures [_] S0 rfl ?_
      clear S0; intro a0 S0
      refine r_call S0 rfl rfl goes37 rfl ?_
      refine calls_in Try.func37 rfl rfl ?_
      intro a1 S1
      refine w_seq ?_
      refine w_region ?_
      refine r_pures [_] S1 rfl ?_
      clear S1; intro a1 S1
      refine wl_nil ?_
      refine nr_then ?_
      refine w_seq ?_
      refine w_seq ?_
      refine w_region ?_
      refine r_pures [_] S1 rfl ?_
      clear S1; intro a1 S1
      refine r_len S1 rfl sl25 rfl ?_
      clear S1; intro a1 S1
      refine r_pures [_, _] S1 rfl ?_
      clear S1; intro a1 S1
      refine wl_nil ?_
      refine nr_then ?_
      refine w_block ?_
      refine w_loop (fun kq a w => ∃ z3x, ring_Whole.l0 kq x_r z3x = some z2x ∧ Sl 25 [] [(0, .slice A0 x_r.length c0), (1, .func (.func 27) #[] #[]), (5, .int .i64 z3x)] a ∧ HS W0 [isH X] w) _ ⟨(IntKind.i64.wrap ((x_r.length : Int) - 1)), H, S1.sub ⟨rfl, rfl, rfl, trivial⟩, Hq⟩ ?_
      clear H Hq S1
      rintro k0 a w ⟨z3x, H, S1, Hq⟩
      cases k0 with
      | zero => simp [ring_Whole.l0] at H
      | succ k0 =>
        refine ⟨k0, rfl, ?_⟩
        rw [ring_Whole.l0] at H
        refine w_seq ?_
        refine w_seq ?_
        refine w_region ?_
        refine r_pures [_, _] S1 rfl ?_
        clear S1; intro a1 S1
        refine wl_nil ?_
        refine nr_then ?_
        by_cases z4h : 0 < z3x
        · replace H := (if_pos z4h).symm.trans H
          refine w_true S1 rfl (decide_eq_true z4h) ?_
          refine w_skip ?_
          refine nr_then ?_
          refine w_seq ?_
          refine w_block ?_
          refine w_seq ?_
          refine w_draw TryM.mixed (.pu 0 (.pu 1 (.pu 2 (.pu 3 (.pu 5 (.pu 6 (.pu 7 (.pu 8 (.rd 4 (.rd 9 (.ds 10 (.pu 11 .done)))))))))))) (by kernel_rfl) rfl ?_
          replace Hq := Hq.drew
          refine st_pures [0, 1, 2] S1 rfl ?_
          intro az5q Sz5q
          by_cases z6h : 0 ≤ z3x
          · replace H := (if_pos z6h).symm.trans H
            by_cases z7h : z3x < (x_r.length : Int)
            · replace H := (if_pos z7h).symm.trans H
              obtain ⟨z8b, z9o, rfl⟩ := (isH_rd [] Hq HR0).at (by omega)
              refine st_pu Sz5q rfl (g_none rfl) rfl rfl (fun _ => y_index Sz5q rfl rfl sl25 ti39 z6h z7h) ?_
              intro az10q Sz10q
              refine st_pures [5, 6, 7] Sz10q rfl ?_
              intro az11q Sz11q
              by_cases z12h : 0 ≤ (IntKind.i64.wrap (z3x - 1))
              · replace H := (if_pos z12h).symm.trans H
                by_cases z13h : (IntKind.i64.wrap (z3x - 1)) < (x_r.length : Int)
                · replace H := (if_pos z13h).symm.trans H
                  refine st_pu Sz11q rfl (g_none rfl) rfl rfl (fun _ => y_index Sz11q rfl rfl sl25 ti39 z12h z13h) ?_
                  intro az14q Sz14q
                  refine st_rd Sz14q rfl (g_none rfl) rfl rfl (y_elA (vs := [.int .u64 ((rd e_api_Point x_r z3x).Hash), .int .i64 ((rd e_api_Point x_r z3x).ID)]) Sz14q (isH_rd [] Hq HR0) z6h z7h rfl ti39 rfl rfl) ?_
                  intro az15q Sz15q
                  refine st_rd Sz15q rfl (g_none rfl) rfl rfl (y_elA (vs := [.int .u64 ((rd e_api_Point x_r (IntKind.i64.wrap (z3x - 1))).Hash), .int .i64 ((rd e_api_Point x_r (IntKind.i64.wrap (z3x - 1))).ID)]) Sz15q (isH_rd [] Hq HR0) z12h z13h rfl ti39 rfl rfl) ?_
                  intro az16q Sz16q
                  refine st_ds rfl ?_
                  have Sz17q := Sz16q
                  obtain ⟨Xz18, HXz18, HPz18, HBz18⟩ := call_frame [] Hq
                  dsimp only [List.cons_append, List.nil_append] at HXz18 HBz18
                  obtain ⟨z19t, Hc, H⟩ := Option.bind_eq_some_iff.mp H
                  refine r_call Sz17q rfl rfl goes27 rfl ?_
                  refine (ring_order.calls _ (rd e_api_Point x_r z3x) (rd e_api_Point x_r (IntKind.i64.wrap (z3x - 1))) _ _  HXz18 z19t Hc).mono ?_
                  rintro e w ⟨rfl, Hq'⟩
                  have Hq : HS W0 [isH X] w := HBz18 [] _ Hq'
                  clear HXz18 HPz18 HBz18 Hq'
                  refine ⟨.int .i64 z19t, rfl, ?_⟩; clear Sz17q; intro az16q Sz17q
                  refine wl_nil ?_
                  refine nr_then ?_
                  refine st_pures [11] Sz17q rfl ?_
                  intro az20q Sz20q
                  refine st_nil ?_
                  replace S1 := Sz20q
                  refine nr_then ?_
                  by_cases z21h : z19t < 0
                  · replace H := (if_pos z21h).symm.trans H
                    refine w_true S1 rfl (decide_eq_true z21h) ?_
                    refine w_seq ?_
                    refine w_region ?_
                    refine r_pures [_] S1 rfl ?_
                    clear S1; intro a1 S1
                    refine wl_nil ?_
                    refine nr_then ?_
                    refine w_ret ?_
                    refine ret_in ?_
                    refine ret_then ?_
                    refine ret_then ?_
                    refine ret_in ?_
                    refine ret_then ?_
                    refine ret1 S1 rfl rfl ?_
                    clear S1
                    refine ⟨_, rfl, ?_⟩; clear S0; intro a0 S0
                    refine r_pures [_, _] S0 rfl ?_
                    clear S0; intro a0 S0
                    refine r_off S0 rfl rfl rfl rfl ?_ rfl
                    clear S0; intro a0 S0
                    refine r_off S0 rfl rfl rfl rfl ?_ rfl
                    clear S0; intro a0 S0
                    refine r_pick S0 rfl rfl _ rfl rfl ?_
                    clear S0; intro a0 S0
                    refine r_pures [_] S0 rfl ?_
                    clear S0; intro a0 S0
                    refine wl_nil ?_
                    refine nr_then ?_
                    obtain rfl := Option.some.inj H
                    exact ⟨S0.sub ⟨rfl, trivial⟩, Hq⟩
                  · replace H := (if_neg z21h).symm.trans H
                    refine w_false S1 rfl (decide_eq_false z21h) ?_
                    refine w_skip ?_
                    refine nr_in ?_
                    refine nr_then ?_
                    refine w_region ?_
                    refine r_pures [_, _, _] S1 rfl ?_
                    clear S1; intro a1 S1
                    refine wl_nil ?_
                    refine nr_then ?_
                    exact ⟨(IntKind.i64.wrap (z3x - 1)), H, S1.sub ⟨rfl, rfl, rfl, trivial⟩, Hq⟩
                · replace H := (if_neg z13h).symm.trans H
                  exact nomatch H
              · replace H := (if_neg z12h).symm.trans H
                exact nomatch H
            · replace H := (if_neg z7h).symm.trans H
              exact nomatch H
          · replace H := (if_neg z6h).symm.trans H
            exact nomatch H
        · replace H := (if_neg z4h).symm.trans H
          refine w_false S1 rfl (decide_eq_false z4h) ?_
          refine w_exit ?_
          refine ex_then ?_
          refine ex_then ?_
          refine ex_in ?_
          refine nr_then ?_
          refine w_seq ?_
          refine w_region ?_
          refine r_pures [_] S1 rfl ?_
          clear S1; intro a1 S1
          refine wl_nil ?_
          refine nr_then ?_
          refine w_ret ?_
          refine ret1 S1 rfl rfl ?_
          clear S1
          refine ⟨_, rfl, ?_⟩; clear S0; intro a0 S0
          refine r_pures [_, _] S0 rfl ?_
          clear S0; intro a0 S0
          refine r_on S0 rfl rfl rfl rfl ?_
          refine r_pures [_] S0 rfl ?_
          clear S0; intro a0 S0
          refine r_on S0 rfl rfl rfl rfl ?_
          refine r_call S0 rfl rfl goes38 rfl ?_
          refine calls_in Try.func38 rfl rfl ?_
          intro a1 S1
          refine w_seq ?_
          refine w_region ?_
          refine r_pures [_] S1 rfl ?_
          clear S1; intro a1 S1
          refine wl_nil ?_
          refine nr_then ?_
          refine w_seq ?_
          refine w_region ?_
          refine r_pures [_, _] S1 rfl ?_
          clear S1; intro a1 S1
          refine r_call S1 rfl rfl goes54 rfl ?_
          refine calls_in Try.func54 rfl rfl ?_
          intro a2 S2
          refine w_seq ?_
          refine w_region ?_
          refine r_pures [_] S2 rfl ?_
          clear S2; intro a2 S2
          refine wl_nil ?_
          refine nr_then ?_
          refine w_seq ?_
          refine w_seq ?_
          refine w_region ?_
          refine r_pures [_] S2 rfl ?_
          clear S2; intro a2 S2
          refine r_len S2 rfl sl25 rfl ?_
          clear S2; intro a2 S2
          refine r_pures [_] S2 rfl ?_
          clear S2; intro a2 S2
          refine wl_nil ?_
          refine nr_then ?_
          obtain ⟨v2, H, HU2⟩ := Option.bind_eq_some_iff.mp H
          refine w_cutT (fun a w => v2 = (Sum.inr (())) ∧ Sl 19 [] [] a ∧ HS W0 [isH X] w) ?_ ?_
          · skip
            refine w_block ?_
            refine w_loop (fun kq a w => ∃ z23x, ring_Whole.l1 kq x_r z23x = some v2 ∧ Sl 19 [] [(0, .slice A0 x_r.length c0), (1, .func (.func 39) #[] #[]), (7, .int .i64 (x_r.length : Int)), (8, .int .i64 z23x)] a ∧ HS W0 [isH X] w) _ ⟨0, H, S2.sub ⟨rfl, rfl, rfl, rfl, trivial⟩, Hq⟩ ?_
            clear H Hq S2
            rintro k1 a w ⟨z23x, H, S2, Hq⟩
            cases k1 with
            | zero => simp [ring_Whole.l1] at H
            | succ k1 =>
              refine ⟨k1, rfl, ?_⟩
              rw [ring_Whole.l1] at H
              refine w_seq ?_
              refine w_region ?_
              refine r_pures [_] S2 rfl ?_
              clear S2; intro a2 S2
              refine wl_nil ?_
              refine nr_then ?_
              refine w_seq ?_
              by_cases z24h : z23x < (x_r.length : Int)
              · replace H := (if_pos z24h).symm.trans H
                refine w_true S2 rfl (decide_eq_true z24h) ?_
                refine w_skip ?_
                refine nr_then ?_
                refine w_seq ?_
                refine w_block ?_
                refine w_seq ?_
                refine w_region ?_
                refine r_pures [_, _] S2 rfl ?_
                clear S2; intro a2 S2
                refine wl_nil ?_
                refine nr_then ?_
                refine w_seq ?_
                refine w_region ?_
                refine r_pures [_, _, _] S2 rfl ?_
                clear S2; intro a2 S2
                by_cases z25h : 0 ≤ z23x
                · replace H := (if_pos z25h).symm.trans H
                  obtain ⟨z26b, z27o, rfl⟩ := (isH_rd [] Hq HR0).at (by omega)
                  refine r_index S2 rfl rfl sl25 ti39 z25h z24h rfl ?_
                  clear S2; intro a2 S2
                  refine r_elA (vs := [.int .u64 ((rd e_api_Point x_r z23x).Hash), .int .i64 ((rd e_api_Point x_r z23x).ID)]) S2 (isH_rd [] Hq HR0) z25h z24h rfl ti39 rfl rfl rfl ?_
                  clear S2; intro a2 S2
                  obtain ⟨Xz28, HXz28, HPz28, HBz28⟩ := call_frame [] Hq
                  dsimp only [List.cons_append, List.nil_append] at HXz28 HBz28
                  obtain ⟨z29t, Hc, H⟩ := Option.bind_eq_some_iff.mp H
                  refine r_call S2 rfl rfl goes39 rfl ?_
                  refine (ring_Whole_1.calls (rd e_api_Point x_r z23x) _ _  HXz28 z29t Hc).mono ?_
                  rintro e w ⟨rfl, Hq'⟩
                  have Hq : HS W0 [isH X] w := HBz28 [] _ Hq'
                  clear HXz28 HPz28 HBz28 Hq'
                  refine ⟨.bool z29t, rfl, ?_⟩; clear S2; intro a2 S2
                  refine wl_nil ?_
                  refine nr_then ?_
                  by_cases z30h : z29t = true
                  · replace H := (if_pos z30h).symm.trans H
                    refine w_true S2 rfl z30h ?_
                    refine w_seq ?_
                    refine w_region ?_
                    refine r_pures [_, _] S2 rfl ?_
                    clear S2; intro a2 S2
                    refine wl_nil ?_
                    refine nr_then ?_
                    refine w_ret ?_
                    refine ret_in ?_
                    refine ret_then ?_
                    refine ret_then ?_
                    refine ret_in ?_
                    refine ret_then ?_
                    obtain rfl := Option.some.inj H
                    have H := HU2; clear HU2; dsimp only at H
                    refine ret_then ?_
                    refine ret1 S2 rfl rfl ?_
                    clear S2
                    refine ⟨_, rfl, ?_⟩; clear S1; intro a1 S1
                    refine r_pures [_, _] S1 rfl ?_
                    clear S1; intro a1 S1
                    refine wl_nil ?_
                    refine nr_then ?_
                    refine w_ret ?_
                    refine ret1 S1 rfl rfl ?_
                    clear S1
                    refine ⟨_, rfl, ?_⟩; clear S0; intro a0 S0
                    refine r_pick S0 rfl rfl _ rfl rfl ?_
                    clear S0; intro a0 S0
                    refine r_pures [_] S0 rfl ?_
                    clear S0; intro a0 S0
                    refine wl_nil ?_
                    refine nr_then ?_
                    obtain rfl := Option.some.inj H
                    exact ⟨S0.sub ⟨rfl, trivial⟩, Hq⟩
                  · replace H := (if_neg z30h).symm.trans H
                    refine w_false S2 rfl (Bool.eq_false_iff.mpr z30h) ?_
                    refine w_skip ?_
                    refine nr_in ?_
                    refine nr_then ?_
                    refine w_region ?_
                    refine r_pures [_, _] S2 rfl ?_
                    clear S2; intro a2 S2
                    refine wl_nil ?_
                    refine nr_then ?_
                    exact ⟨(IntKind.i64.wrap (z23x + 1)), H, S2.sub ⟨rfl, rfl, rfl, rfl, trivial⟩, Hq⟩
                · replace H := (if_neg z25h).symm.trans H
                  exact nomatch H
              · replace H := (if_neg z24h).symm.trans H
                refine w_false S2 rfl (decide_eq_false z24h) ?_
                refine w_exit ?_
                refine ex_then ?_
                refine ex_then ?_
                refine ex_in ?_
                refine nr_then ?_
                obtain rfl := Option.some.inj H
                exact ⟨rfl, S2.sub trivial, Hq⟩
          · clear S2; rintro a w ⟨rfl, S2, Hq⟩
            have H := HU2; clear HU2; dsimp only at H
            refine nr_then ?_
            refine w_seq ?_
            refine w_region ?_
            refine r_pures [_] S2 rfl ?_
            clear S2; intro a2 S2
            refine wl_nil ?_
            refine nr_then ?_
            refine w_ret ?_
            refine ret1 S2 rfl rfl ?_
            clear S2
            refine ⟨_, rfl, ?_⟩; clear S1; intro a1 S1
            refine r_pures [_, _] S1 rfl ?_
            clear S1; intro a1 S1
            refine wl_nil ?_
            refine nr_then ?_
            refine w_ret ?_
            refine ret1 S1 rfl rfl ?_
            clear S1
            refine ⟨_, rfl, ?_⟩; clear S0; intro a0 S0
            refine r_pick S0 rfl rfl _ rfl rfl ?_
            clear S0; intro a0 S0
            refine r_pures [_] S0 rfl ?_
            clear S0; intro a0 S0
            refine wl_nil ?_
            refine nr_then ?_
            obtain rfl := Option.some.inj H
            exact ⟨S0.sub ⟨rfl, trivial⟩, Hq⟩
    · clear S0; rintro a w ⟨S0, Hq⟩
      have H := HU1; clear HU1
      refine nr_then ?_
      by_cases z31h : z2x = true
      · replace H := (if_pos z31h).symm.trans H
        refine w_true S0 rfl z31h ?_
        refine w_seq ?_
        refine w_region ?_
        refine r_pures [_] S0 rfl ?_
        clear S0; intro a0 S0
        refine wl_nil ?_
        refine nr_then ?_
        refine w_ret ?_
        refine ret_in ?_
        refine ret_then ?_
        obtain rfl := Option.some.inj H
        refine ret1 S0 rfl rfl ?_
        exact ⟨rfl, Hq⟩
      · replace H := (if_neg z31h).symm.trans H
        refine w_false S0 rfl (Bool.eq_false_iff.mpr z31h) ?_
        refine w_skip ?_
        refine nr_in ?_
        refine nr_then ?_
        refine w_seq ?_
        refine w_region ?_
        refine r_pures [_] S0 rfl ?_
        clear S0; intro a0 S0
        refine wl_nil ?_
        refine nr_then ?_
        refine w_ret ?_
        obtain rfl := Option.some.inj H
        refine ret1 S0 rfl rfl ?_
        exact ⟨rfl, Hq⟩

end Go.Proofs.Ytmdpjijafejgpaa.M

/- waybill/ring.ask: a plain function, and that the machine's call comes to it: printed by a program of the session's own. -/
set_option linter.unusedVariables false
set_option linter.unusedSimpArgs false
namespace Go.Proofs.Ytmdpjijafejgpaa.M
open Go Go.Proofs.Ytmdpjijafejgpaa.Sl
/-! ### waybill/ring.ask: function 28 -/
def ring_ask.f (k : Nat) (x_r : List api_Point) : Option (Int) := (ring_Whole.f k x_r).bind fun z2t => (if z2t = 0 then (if (x_r.length : Int) = 0 then (some 71) else (some 0)) else (some z2t))
set_option maxRecDepth 100000 in
set_option maxHeartbeats 4000000 in
theorem ring_ask.calls (k : Nat) (A0 : Option Addr) (n0 c0 : Nat) (x_r : List api_Point) (W0 : World) (X : Heap) (HR0 : Rd e_api_Point X A0 n0 c0 x_r) (Hq : HS W0 [isH X] W0) (r : Int) (H : ring_ask.f k x_r = some r) :
    Calls Try.prog 28 #[.slice A0 n0 c0] W0 (fun e w => e = .returned (.int .i64 r) ∧ HS W0 [isH X] w) := by
  obtain rfl := HR0.1
  rw [ring_ask.f] at H
  refine calls_in Try.func28 rfl rfl ?_
  intro a0 S0
  refine w_seq ?_
  refine w_region ?_
  refine r_pures [_] S0 rfl ?_
  clear S0; intro a0 S0
  refine wl_nil ?_
  refine nr_then ?_
  refine w_seq ?_
  refine w_seq ?_
  refine w_region ?_
  refine r_pures [_] S0 rfl ?_
  clear S0; intro a0 S0
  obtain ⟨Xz1, HXz1, HPz1, HBz1⟩ := call_frame [] Hq
  dsimp only [List.cons_append, List.nil_append] at HXz1 HBz1
  obtain ⟨z2t, Hc, H⟩ := Option.bind_eq_some_iff.mp H
  refine r_call S0 rfl rfl goes22 rfl ?_
  refine (ring_Whole.calls _ _ _ _ x_r _ _ (sl_isH_rd [] HPz1 HR0) HXz1 z2t Hc).mono ?_
  rintro e w ⟨rfl, Hq'⟩
  have Hq : HS W0 [isH X] w := HBz1 [] _ Hq'
  clear HXz1 HPz1 HBz1 Hq'
  refine ⟨.int .i64 z2t, rfl, ?_⟩; clear S0; intro a0 S0
  refine r_pures [_] S0 rfl ?_
  clear S0; intro a0 S0
  refine wl_nil ?_
  refine nr_then ?_
  refine w_seq ?_
  refine w_region ?_
  refine r_pures [_, _] S0 rfl ?_
  clear S0; intro a0 S0
  refine wl_nil ?_
  refine nr_then ?_
  by_cases z3h : z2t = 0
  · replace H := (if_pos z3h).symm.trans H
    refine w_false S0 rfl (congrArg (!·) (decide_eq_true z3h)) ?_
    refine w_skip ?_
    refine nr_then ?_
    refine w_seq ?_
    refine w_seq ?_
    refine w_region ?_
    refine r_pures [_] S0 rfl ?_
    clear S0; intro a0 S0
    refine r_len S0 rfl sl25 rfl ?_
    clear S0; intro a0 S0
    refine r_pures [_] S0 rfl ?_
    clear S0; intro a0 S0
    refine wl_nil ?_
    refine nr_then ?_
    by_cases z4h : (x_r.length : Int) = 0
    · replace H := (if_pos z4h).symm.trans H
      refine w_true S0 rfl (decide_eq_true z4h) ?_
      refine w_seq ?_
      refine w_region ?_
      refine r_pures [_] S0 rfl ?_
      clear S0; intro a0 S0
      refine wl_nil ?_
      refine nr_then ?_
      refine w_ret ?_
      refine ret_then ?_
      obtain rfl := Option.some.inj H
      refine ret1 S0 rfl rfl ?_
      exact ⟨rfl, Hq⟩
    · replace H := (if_neg z4h).symm.trans H
      refine w_false S0 rfl (decide_eq_false z4h) ?_
      refine w_skip ?_
      refine nr_then ?_
      refine w_seq ?_
      refine w_region ?_
      refine r_pures [_] S0 rfl ?_
      clear S0; intro a0 S0
      refine wl_nil ?_
      refine nr_then ?_
      refine w_ret ?_
      obtain rfl := Option.some.inj H
      refine ret1 S0 rfl rfl ?_
      exact ⟨rfl, Hq⟩
  · replace H := (if_neg z3h).symm.trans H
    refine w_true S0 rfl (congrArg (!·) (decide_eq_false z3h)) ?_
    refine w_seq ?_
    refine w_region ?_
    refine r_pures [_, _] S0 rfl ?_
    clear S0; intro a0 S0
    refine wl_nil ?_
    refine nr_then ?_
    refine w_ret ?_
    refine ret_then ?_
    obtain rfl := Option.some.inj H
    refine ret1 S0 rfl rfl ?_
    exact ⟨rfl, Hq⟩

end Go.Proofs.Ytmdpjijafejgpaa.M

/- (waybill/ring.round).first: a plain function, and that the machine's call comes to it: printed by a program of the session's own. -/
set_option linter.unusedVariables false
set_option linter.unusedSimpArgs false
namespace Go.Proofs.Ytmdpjijafejgpaa.M
open Go Go.Proofs.Ytmdpjijafejgpaa.Sl
/-! ### (waybill/ring.round).first: function 30 -/
def ring_round_first.f (x_x : ring_round) : Option (Int) := if (x_x.r.length : Int) = 0 then (none) else (if 0 ≤ (x_x.from_.tmod (x_x.r.length : Int)) then (if (x_x.from_.tmod (x_x.r.length : Int)) < (x_x.r.length : Int) then (some ((rd e_api_Point x_x.r (x_x.from_.tmod (x_x.r.length : Int))).ID)) else (none)) else (none))
set_option maxRecDepth 100000 in
set_option maxHeartbeats 4000000 in
theorem ring_round_first.calls (A0x0 : Option Addr) (n0x0 c0x0 : Nat) (x_x : ring_round) (W0 : World) (X : Heap) (HR0x0 : Rd e_api_Point X A0x0 n0x0 c0x0 x_x.r) (Hq : HS W0 [isH X] W0) (r : Int) (H : ring_round_first.f x_x = some r) :
    Calls Try.prog 30 #[.agg #[.slice A0x0 n0x0 c0x0, .int .i64 x_x.from_]] W0 (fun e w => e = .returned (.int .i64 r) ∧ HS W0 [isH X] w) := by
  obtain rfl := HR0x0.1
  rw [ring_round_first.f] at H
  refine calls_in Try.func30 rfl rfl ?_
  intro a0 S0
  refine w_seq ?_
  refine w_region ?_
  refine r_box (vs := [.slice A0x0 x_x.r.length c0x0, .int .i64 x_x.from_]) S0 Hq rfl rfl rfl ?_
  clear S0 Hq; intro z1b a0 w S0 Hq
  refine r_pures [_] S0 rfl ?_
  clear S0; intro a0 S0
  refine wl_nil ?_
  refine nr_then ?_
  refine w_seq ?_
  refine w_draw TryM.mixed (.pu 0 (.pu 2 (.pu 4 (.rd 1 (.rd 3 (.rd 5 (.pu 6 (.pu 7 (.pu 8 (.pu 9 (.rd 10 (.pu 11 .done)))))))))))) (by kernel_rfl) rfl ?_
  replace Hq := Hq.drew
  refine st_pu S0 rfl (g_none rfl) rfl rfl (fun _ => y_fieldAddr S0 rfl fo63x0 (0) rfl) ?_
  intro az2q Sz2q
  refine st_pu Sz2q rfl (g_none rfl) rfl rfl (fun _ => y_fieldAddr Sz2q rfl fo63x1 (1) rfl) ?_
  intro az3q Sz3q
  refine st_pu Sz3q rfl (g_none rfl) rfl rfl (fun _ => y_fieldAddr Sz3q rfl fo63x0 (0) rfl) ?_
  intro az4q Sz4q
  refine st_rd Sz4q rfl (g_none rfl) rfl rfl (y_ldS [] Sz4q Hq rfl ti25 _ rfl) ?_
  intro az5q Sz5q
  refine st_rd Sz5q rfl (g_none rfl) rfl rfl (y_ldS [] Sz5q Hq rfl ti3 _ rfl) ?_
  intro az6q Sz6q
  refine st_rd Sz6q rfl (g_none rfl) rfl rfl (y_ldS [] Sz6q Hq rfl ti25 _ rfl) ?_
  intro az7q Sz7q
  refine st_pu Sz7q rfl (g_none rfl) rfl rfl (fun _ => y_len Sz7q rfl sl25) ?_
  intro az8q Sz8q
  by_cases z9h : (x_x.r.length : Int) = 0
  · replace H := (if_pos z9h).symm.trans H
    exact nomatch H
  · replace H := (if_neg z9h).symm.trans H
    refine st_pu Sz8q rfl (g_none rfl) rfl rfl (fun _ => y_rem Sz8q rfl rfl z9h) ?_
    intro az10q Sz10q
    by_cases z11h : 0 ≤ (x_x.from_.tmod (x_x.r.length : Int))
    · replace H := (if_pos z11h).symm.trans H
      by_cases z12h : (x_x.from_.tmod (x_x.r.length : Int)) < (x_x.r.length : Int)
      · replace H := (if_pos z12h).symm.trans H
        obtain ⟨z13b, z14o, rfl⟩ := (isH_rd [_] Hq HR0x0).at (by omega)
        refine st_pu Sz10q rfl (g_none rfl) rfl rfl (fun _ => y_index Sz10q rfl rfl sl25 ti39 z11h z12h) ?_
        intro az15q Sz15q
        refine st_pu Sz15q rfl (g_none rfl) rfl rfl (fun _ => y_fieldAddr Sz15q rfl fo39x1 (z14o + Int.toNat (x_x.from_.tmod (x_x.r.length : Int)) * 2 + 1) rfl) ?_
        intro az16q Sz16q
        refine st_rd Sz16q rfl (g_none rfl) rfl rfl (y_elS Sz16q (isH_rd [_] Hq HR0x0) z11h z12h rfl ti3 _ rfl) ?_
        intro az17q Sz17q
        refine st_pures [11] Sz17q rfl ?_
        intro az18q Sz18q
        refine st_nil ?_
        replace S0 := Sz18q
        refine nr_then ?_
        refine w_ret ?_
        obtain rfl := Option.some.inj H
        refine ret1 S0 rfl rfl ?_
        replace Hq := HS.pull [_] Hq
        dsimp only [List.cons_append, List.nil_append] at Hq
        replace Hq := HS.keep [_] Hq
        exact ⟨rfl, Hq⟩
      · replace H := (if_neg z12h).symm.trans H
        exact nomatch H
    · replace H := (if_neg z11h).symm.trans H
      exact nomatch H

end Go.Proofs.Ytmdpjijafejgpaa.M

/- waybill/ring.begins$1: a plain function, and that the machine's call comes to it: printed by a program of the session's own. -/
set_option linter.unusedVariables false
set_option linter.unusedSimpArgs false
namespace Go.Proofs.Ytmdpjijafejgpaa.M
open Go Go.Proofs.Ytmdpjijafejgpaa.Sl
/-! ### waybill/ring.begins$1: function 48 -/
def ring_begins_1.f (x_p : api_Point) (x_h : Int) : Option (Int) := (cmp_Compare_uint64.f x_p.Hash x_h).bind fun z3t => (some z3t)
set_option maxRecDepth 100000 in
set_option maxHeartbeats 4000000 in
theorem ring_begins_1.calls (x_p : api_Point) (x_h : Int) (W0 : World) (X : Heap)  (Hq : HS W0 [isH X] W0) (r : Int) (H : ring_begins_1.f x_p x_h = some r) :
    Calls Try.prog 48 #[.agg #[.int .u64 x_p.Hash, .int .i64 x_p.ID], .int .u64 x_h] W0 (fun e w => e = .returned (.int .i64 r) ∧ HS W0 [isH X] w) := by
  rw [ring_begins_1.f] at H
  refine calls_in Try.func48 rfl rfl ?_
  intro a0 S0
  refine w_seq ?_
  refine w_region ?_
  refine r_box (vs := [.int .u64 x_p.Hash, .int .i64 x_p.ID]) S0 Hq rfl rfl rfl ?_
  clear S0 Hq; intro z1b a0 w S0 Hq
  refine r_pures [_] S0 rfl ?_
  clear S0; intro a0 S0
  refine wl_nil ?_
  refine nr_then ?_
  refine w_seq ?_
  refine w_region ?_
  refine r_fieldAddr S0 rfl fo39x0 (0) rfl rfl ?_
  clear S0; intro a0 S0
  refine r_ldS [] S0 Hq rfl ti23 _ rfl rfl ?_
  clear S0; intro a0 S0
  refine r_pures [_] S0 rfl ?_
  clear S0; intro a0 S0
  obtain ⟨Xz2, HXz2, HPz2, HBz2⟩ := call_frame [] Hq
  dsimp only [List.cons_append, List.nil_append] at HXz2 HBz2
  obtain ⟨z3t, Hc, H⟩ := Option.bind_eq_some_iff.mp H
  refine r_call S0 rfl rfl goes45 rfl ?_
  refine (cmp_Compare_uint64.calls x_p.Hash x_h _ _  HXz2 z3t Hc).mono ?_
  rintro e w ⟨rfl, Hq'⟩
  have Hq : HS W0 [bx z1b 39 [.int .u64 x_p.Hash, .int .i64 x_p.ID], isH X] w := HBz2 [] _ Hq'
  clear HXz2 HPz2 HBz2 Hq'
  refine ⟨.int .i64 z3t, rfl, ?_⟩; clear S0; intro a0 S0
  refine r_pures [_] S0 rfl ?_
  clear S0; intro a0 S0
  refine wl_nil ?_
  refine nr_then ?_
  refine w_ret ?_
  obtain rfl := Option.some.inj H
  refine ret1 S0 rfl rfl ?_
  replace Hq := HS.pull [_] Hq
  dsimp only [List.cons_append, List.nil_append] at Hq
  replace Hq := HS.keep [_] Hq
  exact ⟨rfl, Hq⟩

end Go.Proofs.Ytmdpjijafejgpaa.M

/- waybill/ring.Lookup: a plain function, and that the machine's call comes to it: printed by a program of the session's own. -/
set_option linter.unusedVariables false
set_option linter.unusedSimpArgs false
namespace Go.Proofs.Ytmdpjijafejgpaa.M
open Go Go.Proofs.Ytmdpjijafejgpaa.Sl
/-! ### waybill/ring.Lookup: function 10 -/
def ring_Lookup.l0 : Nat → (List api_Point) → Int → Int → Int → Option (Int)
  | 0, _, _, _, _ => none
  | k + 1, x_r, x_hash, z6x, z7x => if z6x < z7x then (if 0 ≤ (IntKind.i64.wrap (sh_shr .u64 (IntKind.u64.wrap (IntKind.i64.wrap (z6x + z7x))) 1)) then (if (IntKind.i64.wrap (sh_shr .u64 (IntKind.u64.wrap (IntKind.i64.wrap (z6x + z7x))) 1)) < (x_r.length : Int) then ((ring_begins_1.f (rd e_api_Point x_r (IntKind.i64.wrap (sh_shr .u64 (IntKind.u64.wrap (IntKind.i64.wrap (z6x + z7x))) 1))) x_hash).bind fun z14t => (((if z14t < 0 then (some (IntKind.i64.wrap ((IntKind.i64.wrap (sh_shr .u64 (IntKind.u64.wrap (IntKind.i64.wrap (z6x + z7x))) 1)) + 1), z7x)) else (some (z6x, IntKind.i64.wrap (sh_shr .u64 (IntKind.u64.wrap (IntKind.i64.wrap (z6x + z7x))) 1)))) : Option (Int × Int)).bind fun (z15x, z16x) => (ring_Lookup.l0 k x_r x_hash z15x z16x))) else (none)) else (none)) else (some z6x)
def ring_Lookup.f (k : Nat) (x_r : List api_Point) (x_hash : Int) : Option (Int × Int) := (ring_ask.f k x_r).bind fun z2t => (if z2t = 0 then ((((ring_Lookup.l0 k x_r x_hash 0 (x_r.length : Int))) : Option (Int)).bind fun z5x => (((if z5x < (x_r.length : Int) then (if 0 ≤ z5x then ((ring_begins_1.f (rd e_api_Point x_r z5x) x_hash).bind fun z24t => (some (decide (z24t = 0)))) else (none)) else (some false)) : Option (Bool)).bind fun z18x => ((ring_round_first.f (⟨x_r, z5x⟩ : ring_round)).bind fun z26t => (some (z26t, 0))))) else (some (0, z2t)))
set_option maxRecDepth 100000 in
set_option maxHeartbeats 4000000 in
theorem ring_Lookup.calls (k : Nat) (A0 : Option Addr) (n0 c0 : Nat) (x_r : List api_Point) (x_hash : Int) (W0 : World) (X : Heap) (HR0 : Rd e_api_Point X A0 n0 c0 x_r) (Hq : HS W0 [isH X] W0) (r : Int × Int) (H : ring_Lookup.f k x_r x_hash = some r) :
    Calls Try.prog 10 #[.slice A0 n0 c0, .int .u64 x_hash] W0 (fun e w => e = .returned (.tuple #[.int .i64 r.1, .int .i64 r.2]) ∧ HS W0 [isH X] w) := by
  obtain rfl := HR0.1
  rw [ring_Lookup.f] at H
  refine calls_in Try.func10 rfl rfl ?_
  intro a0 S0
  refine w_seq ?_
  refine w_region ?_
  refine r_pures [_, _] S0 rfl ?_
  clear S0; intro a0 S0
  refine wl_nil ?_
  refine nr_then ?_
  refine w_seq ?_
  refine w_seq ?_
  refine w_region ?_
  refine r_pures [_] S0 rfl ?_
  clear S0; intro a0 S0
  obtain ⟨Xz1, HXz1, HPz1, HBz1⟩ := call_frame [] Hq
  dsimp only [List.cons_append, List.nil_append] at HXz1 HBz1
  obtain ⟨z2t, Hc, H⟩ := Option.bind_eq_some_iff.mp H
  refine r_call S0 rfl rfl goes28 rfl ?_
  refine (ring_ask.calls _ _ _ _ x_r _ _ (sl_isH_rd [] HPz1 HR0) HXz1 z2t Hc).mono ?_
  rintro e w ⟨rfl, Hq'⟩
  have Hq : HS W0 [isH X] w := HBz1 [] _ Hq'
  clear HXz1 HPz1 HBz1 Hq'
  refine ⟨.int .i64 z2t, rfl, ?_⟩; clear S0; intro a0 S0
  refine r_pures [_] S0 rfl ?_
  clear S0; intro a0 S0
  refine wl_nil ?_
  refine nr_then ?_
  refine w_seq ?_
  refine w_region ?_
  refine r_pures [_, _] S0 rfl ?_
  clear S0; intro a0 S0
  refine wl_nil ?_
  refine nr_then ?_
  by_cases z3h : z2t = 0
  · replace H := (if_pos z3h).symm.trans H
    refine w_false S0 rfl (congrArg (!·) (decide_eq_true z3h)) ?_
    refine w_skip ?_
    refine nr_then ?_
    refine w_seq ?_
    refine w_region ?_
    refine r_pures [_, _] S0 rfl ?_
    clear S0; intro a0 S0
    refine r_call S0 rfl rfl goes29 rfl ?_
    refine calls_in Try.func29 rfl rfl ?_
    intro a1 S1
    refine w_seq ?_
    refine w_region ?_
    refine r_alloc S1 Hq ti63 rfl ?_
    clear S1 Hq; intro z4b a1 w S1 Hq
    refine wl_nil ?_
    refine nr_then ?_
    refine w_seq ?_
    refine w_region ?_
    refine r_pures [_, _] S1 rfl ?_
    clear S1; intro a1 S1
    refine r_call S1 rfl rfl goes47 rfl ?_
    refine calls_in Try.func47 rfl rfl ?_
    intro a2 S2
    refine w_seq ?_
    refine w_region ?_
    refine r_pures [_, _] S2 rfl ?_
    clear S2; intro a2 S2
    refine wl_nil ?_
    refine nr_then ?_
    refine w_seq ?_
    refine w_region ?_
    refine r_pures [_] S2 rfl ?_
    clear S2; intro a2 S2
    refine r_len S2 rfl sl25 rfl ?_
    clear S2; intro a2 S2
    refine r_pures [_] S2 rfl ?_
    clear S2; intro a2 S2
    refine wl_nil ?_
    refine nr_then ?_
    refine w_seq ?_
    refine w_region ?_
    refine r_pures [_, _, _] S2 rfl ?_
    clear S2; intro a2 S2
    refine wl_nil ?_
    refine nr_then ?_
    refine w_seq ?_
    obtain ⟨z5x, H, HU1⟩ := Option.bind_eq_some_iff.mp H
    refine w_cutT (fun a w => Sl 49 [] [(0, .slice A0 x_r.length c0), (1, .int .u64 x_hash), (2, .func (.func 48) #[] #[]), (8, .int .i64 (x_r.length : Int)), (9, .int .i64 z5x)] a ∧ HS W0 [bx z4b 63 [.slice none 0 0, .int .i64 0], isH X] w) ?_ ?_
    · skip
      refine w_block ?_
      refine w_loop (fun kq a w => ∃ z6x z7x, ring_Lookup.l0 kq x_r x_hash z6x z7x = some z5x ∧ Sl 49 [] [(0, .slice A0 x_r.length c0), (1, .int .u64 x_hash), (2, .func (.func 48) #[] #[]), (8, .int .i64 (x_r.length : Int)), (9, .int .i64 z6x), (10, .int .i64 z7x)] a ∧ HS W0 [bx z4b 63 [.slice none 0 0, .int .i64 0], isH X] w) _ ⟨0, (x_r.length : Int), H, S2.sub ⟨rfl, rfl, rfl, rfl, rfl, rfl, trivial⟩, Hq⟩ ?_
      clear H Hq S2
      rintro k0 a w ⟨z6x, z7x, H, S2, Hq⟩
      cases k0 with
      | zero => simp [ring_Lookup.l0] at H
      | succ k0 =>
        refine ⟨k0, rfl, ?_⟩
        rw [ring_Lookup.l0] at H
        refine w_seq ?_
        refine w_seq ?_
        refine w_region ?_
        refine r_pures [_, _, _] S2 rfl ?_
        clear S2; intro a2 S2
        refine wl_nil ?_
        refine nr_then ?_
        by_cases z8h : z6x < z7x
        · replace H := (if_pos z8h).symm.trans H
          refine w_true S2 rfl (decide_eq_true z8h) ?_
          refine w_skip ?_
          refine nr_then ?_
          refine w_block ?_
          refine w_seq ?_
          refine w_region ?_
          refine r_pures [_, _, _] S2 rfl ?_
          clear S2; intro a2 S2
          refine r_conv S2 rfl und3 und81 rfl ?_
          clear S2; intro a2 S2
          refine r_shr' S2 rfl rfl (by decide) rfl ?_
          clear S2; intro a2 S2
          refine r_conv S2 rfl und81 und3 rfl ?_
          clear S2; intro a2 S2
          refine r_pures [_] S2 rfl ?_
          clear S2; intro a2 S2
          refine wl_nil ?_
          refine nr_then ?_
          refine w_seq ?_
          refine w_region ?_
          refine r_pures [_, _, _] S2 rfl ?_
          clear S2; intro a2 S2
          by_cases z9h : 0 ≤ (IntKind.i64.wrap (sh_shr .u64 (IntKind.u64.wrap (IntKind.i64.wrap (z6x + z7x))) 1))
          · replace H := (if_pos z9h).symm.trans H
            by_cases z10h : (IntKind.i64.wrap (sh_shr .u64 (IntKind.u64.wrap (IntKind.i64.wrap (z6x + z7x))) 1)) < (x_r.length : Int)
            · replace H := (if_pos z10h).symm.trans H
              obtain ⟨z11b, z12o, rfl⟩ := (isH_rd [_] Hq HR0).at (by omega)
              refine r_index S2 rfl rfl sl25 ti39 z9h z10h rfl ?_
              clear S2; intro a2 S2
              refine r_elA (vs := [.int .u64 ((rd e_api_Point x_r (IntKind.i64.wrap (sh_shr .u64 (IntKind.u64.wrap (IntKind.i64.wrap (z6x + z7x))) 1))).Hash), .int .i64 ((rd e_api_Point x_r (IntKind.i64.wrap (sh_shr .u64 (IntKind.u64.wrap (IntKind.i64.wrap (z6x + z7x))) 1))).ID)]) S2 (isH_rd [_] Hq HR0) z9h z10h rfl ti39 rfl rfl rfl ?_
              clear S2; intro a2 S2
              refine r_pures [_] S2 rfl ?_
              clear S2; intro a2 S2
              obtain ⟨Xz13, HXz13, HPz13, HBz13⟩ := call_frame [] Hq
              dsimp only [List.cons_append, List.nil_append] at HXz13 HBz13
              obtain ⟨z14t, Hc, H⟩ := Option.bind_eq_some_iff.mp H
              refine r_call S2 rfl rfl goes48 rfl ?_
              refine (ring_begins_1.calls (rd e_api_Point x_r (IntKind.i64.wrap (sh_shr .u64 (IntKind.u64.wrap (IntKind.i64.wrap (z6x + z7x))) 1))) x_hash _ _  HXz13 z14t Hc).mono ?_
              rintro e w ⟨rfl, Hq'⟩
              have Hq : HS W0 [bx z4b 63 [.slice none 0 0, .int .i64 0], isH X] w := HBz13 [] _ Hq'
              clear HXz13 HPz13 HBz13 Hq'
              refine ⟨.int .i64 z14t, rfl, ?_⟩; clear S2; intro a2 S2
              refine r_pures [_] S2 rfl ?_
              clear S2; intro a2 S2
              refine wl_nil ?_
              refine nr_then ?_
              obtain ⟨⟨z15x, z16x⟩, H, HU2⟩ := Option.bind_eq_some_iff.mp H
              dsimp only at HU2
              refine w_cutT (fun a w => Sl 49 [] [(0, .slice (some ⟨z11b, z12o, none⟩) x_r.length c0), (1, .int .u64 x_hash), (2, .func (.func 48) #[] #[]), (8, .int .i64 (x_r.length : Int)), (9, .int .i64 z15x), (10, .int .i64 z16x)] a ∧ HS W0 [bx z4b 63 [.slice none 0 0, .int .i64 0], isH X] w) ?_ ?_
              · skip
                by_cases z17h : z14t < 0
                · replace H := (if_pos z17h).symm.trans H
                  refine w_true S2 rfl (decide_eq_true z17h) ?_
                  refine w_region ?_
                  refine r_pures [_, _, _] S2 rfl ?_
                  clear S2; intro a2 S2
                  refine wl_nil ?_
                  refine nr_then ?_
                  simp only [Option.some.injEq, Prod.mk.injEq] at H; obtain ⟨rfl, rfl⟩ := H
                  exact ⟨S2.sub ⟨rfl, rfl, rfl, rfl, rfl, rfl, trivial⟩, Hq⟩
                · replace H := (if_neg z17h).symm.trans H
                  refine w_false S2 rfl (decide_eq_false z17h) ?_
                  refine w_region ?_
                  refine r_pures [_, _] S2 rfl ?_
                  clear S2; intro a2 S2
                  refine wl_nil ?_
                  refine nr_then ?_
                  simp only [Option.some.injEq, Prod.mk.injEq] at H; obtain ⟨rfl, rfl⟩ := H
                  exact ⟨S2.sub ⟨rfl, rfl, rfl, rfl, rfl, rfl, trivial⟩, Hq⟩
              · clear S2; rintro a w ⟨S2, Hq⟩
                have H := HU2; clear HU2
                refine nr_in ?_
                refine nr_then ?_
                exact ⟨z15x, z16x, H, S2.sub ⟨rfl, rfl, rfl, rfl, rfl, rfl, trivial⟩, Hq⟩
            · replace H := (if_neg z10h).symm.trans H
              exact nomatch H
          · replace H := (if_neg z9h).symm.trans H
            exact nomatch H
        · replace H := (if_neg z8h).symm.trans H
          refine w_false S2 rfl (decide_eq_false z8h) ?_
          refine w_exit ?_
          refine ex_then ?_
          refine ex_then ?_
          refine ex_in ?_
          refine nr_then ?_
          obtain rfl := Option.some.inj H
          exact ⟨S2.sub ⟨rfl, rfl, rfl, rfl, rfl, trivial⟩, Hq⟩
    · clear S2; rintro a w ⟨S2, Hq⟩
      have H := HU1; clear HU1
      refine nr_then ?_
      refine w_seq ?_
      obtain ⟨z18x, H, HU3⟩ := Option.bind_eq_some_iff.mp H
      refine w_cutT (fun a w => Sl 49 [] [(6, .int .i64 z5x), (7, .bool z18x)] a ∧ HS W0 [bx z4b 63 [.slice none 0 0, .int .i64 0], isH X] w) ?_ ?_
      · skip
        refine w_region ?_
        refine r_pures [_, _, _, _, _] S2 rfl ?_
        clear S2; intro a2 S2
        by_cases z19h : z5x < (x_r.length : Int)
        · replace H := (if_pos z19h).symm.trans H
          refine r_on S2 rfl rfl rfl (decide_eq_true z19h) ?_
          refine r_pures [_] S2 rfl ?_
          clear S2; intro a2 S2
          refine r_on S2 rfl rfl rfl (decide_eq_true z19h) ?_
          refine r_pures [_] S2 rfl ?_
          clear S2; intro a2 S2
          refine r_on S2 rfl rfl rfl (decide_eq_true z19h) ?_
          refine r_pures [_] S2 rfl ?_
          clear S2; intro a2 S2
          refine r_on S2 rfl rfl rfl (decide_eq_true z19h) ?_
          by_cases z20h : 0 ≤ z5x
          · replace H := (if_pos z20h).symm.trans H
            obtain ⟨z21b, z22o, rfl⟩ := (isH_rd [_] Hq HR0).at (by omega)
            refine r_index S2 rfl rfl sl25 ti39 z20h z19h rfl ?_
            clear S2; intro a2 S2
            refine r_on S2 rfl rfl rfl (decide_eq_true z19h) ?_
            refine r_elA (vs := [.int .u64 ((rd e_api_Point x_r z5x).Hash), .int .i64 ((rd e_api_Point x_r z5x).ID)]) S2 (isH_rd [_] Hq HR0) z20h z19h rfl ti39 rfl rfl rfl ?_
            clear S2; intro a2 S2
            refine r_on S2 rfl rfl rfl (decide_eq_true z19h) ?_
            refine r_pures [_] S2 rfl ?_
            clear S2; intro a2 S2
            refine r_on S2 rfl rfl rfl (decide_eq_true z19h) ?_
            obtain ⟨Xz23, HXz23, HPz23, HBz23⟩ := call_frame [] Hq
            dsimp only [List.cons_append, List.nil_append] at HXz23 HBz23
            obtain ⟨z24t, Hc, H⟩ := Option.bind_eq_some_iff.mp H
            refine r_call S2 rfl rfl goes48 rfl ?_
            refine (ring_begins_1.calls (rd e_api_Point x_r z5x) x_hash _ _  HXz23 z24t Hc).mono ?_
            rintro e w ⟨rfl, Hq'⟩
            have Hq : HS W0 [bx z4b 63 [.slice none 0 0, .int .i64 0], isH X] w := HBz23 [] _ Hq'
            clear HXz23 HPz23 HBz23 Hq'
            refine ⟨.int .i64 z24t, rfl, ?_⟩; clear S2; intro a2 S2
            refine r_on S2 rfl rfl rfl (decide_eq_true z19h) ?_
            refine r_pures [_] S2 rfl ?_
            clear S2; intro a2 S2
            refine r_pick S2 rfl (decide_eq_true z19h) _ rfl rfl ?_
            clear S2; intro a2 S2
            refine r_pures [_, _] S2 rfl ?_
            clear S2; intro a2 S2
            refine wl_nil ?_
            refine nr_then ?_
            obtain rfl := Option.some.inj H
            exact ⟨S2.sub ⟨rfl, rfl, trivial⟩, Hq⟩
          · replace H := (if_neg z20h).symm.trans H
            exact nomatch H
        · replace H := (if_neg z19h).symm.trans H
          refine r_off S2 rfl rfl rfl (decide_eq_false z19h) ?_ rfl
          clear S2; intro a2 S2
          refine r_off S2 rfl rfl rfl (decide_eq_false z19h) ?_ rfl
          clear S2; intro a2 S2
          refine r_off S2 rfl rfl rfl (decide_eq_false z19h) ?_ rfl
          clear S2; intro a2 S2
          refine r_off S2 rfl rfl rfl (decide_eq_false z19h) ?_ rfl
          clear S2; intro a2 S2
          refine r_off S2 rfl rfl rfl (decide_eq_false z19h) ?_ rfl
          clear S2; intro a2 S2
          refine r_off S2 rfl rfl rfl (decide_eq_false z19h) ?_ rfl
          clear S2; intro a2 S2
          refine r_off S2 rfl rfl rfl (decide_eq_false z19h) ?_ rfl
          clear S2; intro a2 S2
          refine r_off S2 rfl rfl rfl (decide_eq_false z19h) ?_ rfl
          clear S2; intro a2 S2
          refine r_pick S2 rfl (decide_eq_false z19h) _ rfl rfl ?_
          clear S2; intro a2 S2
          refine r_pures [_, _] S2 rfl ?_
          clear S2; intro a2 S2
          refine wl_nil ?_
          refine nr_then ?_
          obtain rfl := Option.some.inj H
          exact ⟨S2.sub ⟨rfl, rfl, trivial⟩, Hq⟩
      · clear S2; rintro a w ⟨S2, Hq⟩
        have H := HU3; clear HU3
        refine nr_then ?_
        refine w_ret ?_
        refine ret2 S2 rfl rfl rfl ?_
        clear S2
        refine ⟨_, rfl, ?_⟩; clear S1; intro a1 S1
        refine r_pures [_, _, _, _, _] S1 rfl ?_
        clear S1; intro a1 S1
        refine wl_nil ?_
        refine nr_then ?_
        refine w_seq ?_
        refine w_region ?_
        refine r_pures [_, _] S1 rfl ?_
        clear S1; intro a1 S1
        refine r_build S1 ti63 pl63 rfl [.slice A0 x_r.length c0, .int .i64 z5x] rfl rfl ?_
        clear S1; intro a1 S1
        refine r_st [] S1 Hq rfl rfl ti63 [.slice A0 x_r.length c0, .int .i64 z5x] rfl rfl rfl rfl [.slice A0 x_r.length c0, .int .i64 z5x] rfl ?_
        clear Hq; intro w Hq; dsimp only [List.cons_append, List.nil_append] at Hq
        refine wl_nil ?_
        refine nr_then ?_
        refine w_ret ?_
        refine retL [.cell 4 63] [.agg #[.slice A0 x_r.length c0, .int .i64 z5x]] S1 rfl ⟨rv_cell [] Hq rfl ti63 rfl rfl, trivial⟩ (.agg #[.slice A0 x_r.length c0, .int .i64 z5x]) rfl ?_
        clear S1
        refine ⟨_, rfl, ?_⟩; clear S0; intro a0 S0
        obtain ⟨Xz25, HXz25, HPz25, HBz25⟩ := call_frame [] Hq
        dsimp only [List.cons_append, List.nil_append] at HXz25 HBz25
        obtain ⟨z26t, Hc, H⟩ := Option.bind_eq_some_iff.mp H
        refine r_call S0 rfl rfl goes30 rfl ?_
        refine (ring_round_first.calls _ _ _ (⟨x_r, z5x⟩ : ring_round) _ _ (sl_isH_rd [_] HPz25 HR0) HXz25 z26t Hc).mono ?_
        rintro e w ⟨rfl, Hq'⟩
        have Hq : HS W0 [bx z4b 63 [.slice A0 x_r.length c0, .int .i64 z5x], isH X] w := HBz25 [] _ Hq'
        clear HXz25 HPz25 HBz25 Hq'
        refine ⟨.int .i64 z26t, rfl, ?_⟩; clear S0; intro a0 S0
        refine r_pures [_, _] S0 rfl ?_
        clear S0; intro a0 S0
        refine wl_nil ?_
        refine nr_then ?_
        refine w_ret ?_
        obtain rfl := Option.some.inj H
        refine ret2 S0 rfl rfl rfl ?_
        replace Hq := HS.pull [_] Hq
        dsimp only [List.cons_append, List.nil_append] at Hq
        replace Hq := HS.keep [_] Hq
        exact ⟨rfl, Hq⟩
  · replace H := (if_neg z3h).symm.trans H
    refine w_true S0 rfl (congrArg (!·) (decide_eq_false z3h)) ?_
    refine w_seq ?_
    refine w_region ?_
    refine r_pures [_, _, _] S0 rfl ?_
    clear S0; intro a0 S0
    refine wl_nil ?_
    refine nr_then ?_
    refine w_ret ?_
    refine ret_then ?_
    obtain rfl := Option.some.inj H
    refine ret2 S0 rfl rfl rfl ?_
    exact ⟨rfl, Hq⟩

end Go.Proofs.Ytmdpjijafejgpaa.M

/- waybill/waybilllaw12.alive: a plain function, and that the machine's call comes to it: printed by a program of the session's own. -/
set_option linter.unusedVariables false
set_option linter.unusedSimpArgs false
namespace Go.Proofs.Ytmdpjijafejgpaa.M
open Go Go.Proofs.Ytmdpjijafejgpaa.Sl
/-! ### waybill/waybilllaw12.alive: function 7 -/
def waybilllaw12_alive.f (k : Nat) : Option (Bool) := (ring_Build.f k 3 ([(⟨4, 2⟩ : api_Backend)] : List api_Backend)).bind fun (z4t, z5t) => ((ring_Lookup.f k z4t 12345).bind fun (z10t, z11t) => ((((waybilllaw12_num.f z5t).bind fun z14t => ((waybilllaw12_num.f z11t).bind fun z16t => (if (IntKind.i64.wrap (z14t + z16t)) = 0 then (if (z4t.length : Int) = 6 then (some (decide (z10t = 4))) else (some false)) else (some false)))) : Option (Bool)).bind fun z12x => (some z12x)))
set_option maxRecDepth 100000 in
set_option maxHeartbeats 4000000 in
theorem waybilllaw12_alive.calls (k : Nat)  (W0 : World) (X : Heap)  (Hq : HS W0 [isH X] W0) (r : Bool) (H : waybilllaw12_alive.f k  = some r) :
    Calls Try.prog 7 #[] W0 (fun e w => e = .returned (.bool r) ∧ HS W0 [isH X] w) := by
  rw [waybilllaw12_alive.f] at H
  refine calls_in Try.func7 rfl rfl ?_
  intro a0 S0
  refine w_seq ?_
  refine w_region ?_
  refine r_pures [_] S0 rfl ?_
  clear S0; intro a0 S0
  refine wl_nil ?_
  refine nr_then ?_
  refine w_seq ?_
  refine w_region ?_
  refine r_build S0 ti36 pl36 rfl [.int .i64 4, .int .i64 2] rfl rfl ?_
  clear S0; intro a0 S0
  refine r_lit (e := e_api_Backend) (l := ([(⟨4, 2⟩ : api_Backend)] : List api_Backend)) (m := 1) (vs := [.agg #[.int .i64 4, .int .i64 2]]) S0 Hq sl22 ti36 rfl rfl rfl rfl rfl rfl ?_
  clear S0 Hq; intro z1b a0 w S0 Hq
  obtain ⟨Xz3, HXz3, HPz3, HBz3⟩ := call_frame [] Hq
  dsimp only [List.cons_append, List.nil_append] at HXz3 HBz3
  obtain ⟨⟨z4t, z5t⟩, Hc, H⟩ := Option.bind_eq_some_iff.mp H
  dsimp only at H
  refine r_call S0 rfl rfl goes8 rfl ?_
  refine (ring_Build.calls _ 3 _ _ _ ([(⟨4, 2⟩ : api_Backend)] : List api_Backend) _ _ (sl_own_rd [] HPz3) HXz3 (z4t, z5t) Hc).mono ?_
  rintro e w ⟨z6A, z7m, z8n, rfl, Hq'⟩
  have Hq : HS W0 [own e_api_Point 39 z6A z7m z8n z4t, own e_api_Backend 36 (some ⟨z1b, 0, none⟩) 1 1 ([(⟨4, 2⟩ : api_Backend)] : List api_Backend), isH X] w := HBz3 [_] _ Hq'
  clear HXz3 HPz3 HBz3 Hq'
  obtain rfl := own_len [] Hq
  refine ⟨.tuple #[.slice z6A z4t.length z8n, .int .i64 z5t], rfl, ?_⟩; clear S0; intro a0 S0
  refine r_pures [_, _, _, _, _] S0 rfl ?_
  clear S0; intro a0 S0
  refine wl_nil ?_
  refine nr_then ?_
  refine w_seq ?_
  refine w_region ?_
  refine r_pures [_] S0 rfl ?_
  clear S0; intro a0 S0
  obtain ⟨Xz9, HXz9, HPz9, HBz9⟩ := call_frame [] Hq
  dsimp only [List.cons_append, List.nil_append] at HXz9 HBz9
  obtain ⟨⟨z10t, z11t⟩, Hc, H⟩ := Option.bind_eq_some_iff.mp H
  dsimp only at H
  refine r_call S0 rfl rfl goes10 rfl ?_
  refine (ring_Lookup.calls _ _ _ _ z4t 12345 _ _ (sl_own_rd [] HPz9) HXz9 (z10t, z11t) Hc).mono ?_
  rintro e w ⟨rfl, Hq'⟩
  have Hq : HS W0 [own e_api_Point 39 z6A z4t.length z8n z4t, own e_api_Backend 36 (some ⟨z1b, 0, none⟩) 1 1 ([(⟨4, 2⟩ : api_Backend)] : List api_Backend), isH X] w := HBz9 [] _ Hq'
  clear HXz9 HPz9 HBz9 Hq'
  refine ⟨.tuple #[.int .i64 z10t, .int .i64 z11t], rfl, ?_⟩; clear S0; intro a0 S0
  refine r_pures [_, _, _, _, _] S0 rfl ?_
  clear S0; intro a0 S0
  refine wl_nil ?_
  refine nr_then ?_
  refine w_seq ?_
  obtain ⟨z12x, H, HU1⟩ := Option.bind_eq_some_iff.mp H
  refine w_cutT (fun a w => Sl 31 [] [(0, .bool z12x)] a ∧ HS W0 [isH X] w) ?_ ?_
  · skip
    refine w_region ?_
    refine r_pures [_] S0 rfl ?_
    clear S0; intro a0 S0
    obtain ⟨Xz13, HXz13, HPz13, HBz13⟩ := call_frame [] Hq
    dsimp only [List.cons_append, List.nil_append] at HXz13 HBz13
    obtain ⟨z14t, Hc, H⟩ := Option.bind_eq_some_iff.mp H
    refine r_call S0 rfl rfl goes9 rfl ?_
    refine (waybilllaw12_num.calls z5t _ _  HXz13 z14t Hc).mono ?_
    rintro e w ⟨rfl, Hq'⟩
    have Hq : HS W0 [own e_api_Point 39 z6A z4t.length z8n z4t, own e_api_Backend 36 (some ⟨z1b, 0, none⟩) 1 1 ([(⟨4, 2⟩ : api_Backend)] : List api_Backend), isH X] w := HBz13 [] _ Hq'
    clear HXz13 HPz13 HBz13 Hq'
    refine ⟨.int .i64 z14t, rfl, ?_⟩; clear S0; intro a0 S0
    refine r_pures [_] S0 rfl ?_
    clear S0; intro a0 S0
    obtain ⟨Xz15, HXz15, HPz15, HBz15⟩ := call_frame [] Hq
    dsimp only [List.cons_append, List.nil_append] at HXz15 HBz15
    obtain ⟨z16t, Hc, H⟩ := Option.bind_eq_some_iff.mp H
    refine r_call S0 rfl rfl goes9 rfl ?_
    refine (waybilllaw12_num.calls z11t _ _  HXz15 z16t Hc).mono ?_
    rintro e w ⟨rfl, Hq'⟩
    have Hq : HS W0 [own e_api_Point 39 z6A z4t.length z8n z4t, own e_api_Backend 36 (some ⟨z1b, 0, none⟩) 1 1 ([(⟨4, 2⟩ : api_Backend)] : List api_Backend), isH X] w := HBz15 [] _ Hq'
    clear HXz15 HPz15 HBz15 Hq'
    refine ⟨.int .i64 z16t, rfl, ?_⟩; clear S0; intro a0 S0
    refine r_pures [_, _, _] S0 rfl ?_
    clear S0; intro a0 S0
    by_cases z17h : (IntKind.i64.wrap (z14t + z16t)) = 0
    · replace H := (if_pos z17h).symm.trans H
      refine r_on S0 rfl rfl rfl (decide_eq_true z17h) ?_
      refine r_pures [_] S0 rfl ?_
      clear S0; intro a0 S0
      refine r_on S0 rfl rfl rfl (decide_eq_true z17h) ?_
      refine r_len S0 rfl sl25 rfl ?_
      clear S0; intro a0 S0
      refine r_on S0 rfl rfl rfl (decide_eq_true z17h) ?_
      refine r_pures [_] S0 rfl ?_
      clear S0; intro a0 S0
      refine r_pick S0 rfl (decide_eq_true z17h) _ rfl rfl ?_
      clear S0; intro a0 S0
      refine r_pures [_] S0 rfl ?_
      clear S0; intro a0 S0
      by_cases z18h : (z4t.length : Int) = 6
      · replace H := (if_pos z18h).symm.trans H
        refine r_on S0 rfl rfl rfl (decide_eq_true z18h) ?_
        refine r_pures [_] S0 rfl ?_
        clear S0; intro a0 S0
        refine r_on S0 rfl rfl rfl (decide_eq_true z18h) ?_
        refine r_pures [_] S0 rfl ?_
        clear S0; intro a0 S0
        refine r_pick S0 rfl (decide_eq_true z18h) _ rfl rfl ?_
        clear S0; intro a0 S0
        refine r_pures [_] S0 rfl ?_
        clear S0; intro a0 S0
        refine wl_nil ?_
        refine nr_then ?_
        replace Hq := HS.pull [_, _] Hq
        dsimp only [List.cons_append, List.nil_append] at Hq
        replace Hq := HS.keep [_] Hq
        obtain rfl := Option.some.inj H
        exact ⟨S0.sub ⟨rfl, trivial⟩, Hq⟩
      · replace H := (if_neg z18h).symm.trans H
        refine r_off S0 rfl rfl rfl (decide_eq_false z18h) ?_ rfl
        clear S0; intro a0 S0
        refine r_off S0 rfl rfl rfl (decide_eq_false z18h) ?_ rfl
        clear S0; intro a0 S0
        refine r_pick S0 rfl (decide_eq_false z18h) _ rfl rfl ?_
        clear S0; intro a0 S0
        refine r_pures [_] S0 rfl ?_
        clear S0; intro a0 S0
        refine wl_nil ?_
        refine nr_then ?_
        replace Hq := HS.pull [_, _] Hq
        dsimp only [List.cons_append, List.nil_append] at Hq
        replace Hq := HS.keep [_] Hq
        obtain rfl := Option.some.inj H
        exact ⟨S0.sub ⟨rfl, trivial⟩, Hq⟩
    · replace H := (if_neg z17h).symm.trans H
      refine r_off S0 rfl rfl rfl (decide_eq_false z17h) ?_ rfl
      clear S0; intro a0 S0
      refine r_off S0 rfl rfl rfl (decide_eq_false z17h) ?_ rfl
      clear S0; intro a0 S0
      refine r_off S0 rfl rfl rfl (decide_eq_false z17h) ?_ rfl
      clear S0; intro a0 S0
      refine r_pick S0 rfl (decide_eq_false z17h) _ rfl rfl ?_
      clear S0; intro a0 S0
      refine r_pures [_] S0 rfl ?_
      clear S0; intro a0 S0
      refine r_off S0 rfl rfl rfl rfl ?_ rfl
      clear S0; intro a0 S0
      refine r_off S0 rfl rfl rfl rfl ?_ rfl
      clear S0; intro a0 S0
      refine r_pick S0 rfl rfl _ rfl rfl ?_
      clear S0; intro a0 S0
      refine r_pures [_] S0 rfl ?_
      clear S0; intro a0 S0
      refine wl_nil ?_
      refine nr_then ?_
      replace Hq := HS.pull [_, _] Hq
      dsimp only [List.cons_append, List.nil_append] at Hq
      replace Hq := HS.keep [_] Hq
      obtain rfl := Option.some.inj H
      exact ⟨S0.sub ⟨rfl, trivial⟩, Hq⟩
  · clear S0; rintro a w ⟨S0, Hq⟩
    have H := HU1; clear HU1
    refine nr_then ?_
    refine w_ret ?_
    obtain rfl := Option.some.inj H
    refine ret1 S0 rfl rfl ?_
    exact ⟨rfl, Hq⟩

end Go.Proofs.Ytmdpjijafejgpaa.M

/- waybill/ring.Walk: a plain function, and that the machine's call comes to it: printed by a program of the session's own. -/
set_option linter.unusedVariables false
set_option linter.unusedSimpArgs false
namespace Go.Proofs.Ytmdpjijafejgpaa.M
open Go Go.Proofs.Ytmdpjijafejgpaa.Sl
/-! ### waybill/ring.Walk: function 11 -/
def ring_Walk.l0 : Nat → (List api_Point) → Int → Int → Int → Option (Int)
  | 0, _, _, _, _ => none
  | k + 1, x_r, x_hash, z9x, z10x => if z9x < z10x then (if 0 ≤ (IntKind.i64.wrap (sh_shr .u64 (IntKind.u64.wrap (IntKind.i64.wrap (z9x + z10x))) 1)) then (if (IntKind.i64.wrap (sh_shr .u64 (IntKind.u64.wrap (IntKind.i64.wrap (z9x + z10x))) 1)) < (x_r.length : Int) then ((ring_begins_1.f (rd e_api_Point x_r (IntKind.i64.wrap (sh_shr .u64 (IntKind.u64.wrap (IntKind.i64.wrap (z9x + z10x))) 1))) x_hash).bind fun z17t => (((if z17t < 0 then (some (IntKind.i64.wrap ((IntKind.i64.wrap (sh_shr .u64 (IntKind.u64.wrap (IntKind.i64.wrap (z9x + z10x))) 1)) + 1), z10x)) else (some (z9x, IntKind.i64.wrap (sh_shr .u64 (IntKind.u64.wrap (IntKind.i64.wrap (z9x + z10x))) 1)))) : Option (Int × Int)).bind fun (z18x, z19x) => (ring_Walk.l0 k x_r x_hash z18x z19x))) else (none)) else (none)) else (some z9x)
def ring_Walk.l1 : Nat → (List api_Point) → Int → Int → (List Int) → (List (Int × Bool)) → Option ((List Int) × (List (Int × Bool)))
  | 0, _, _, _, _, _ => none
  | k + 1, x_r, z8x, z39x, z40x, z44x => if z39x < (x_r.length : Int) then (if (x_r.length : Int) = 0 then (none) else (if 0 ≤ ((IntKind.i64.wrap (z8x + z39x)).tmod (x_r.length : Int)) then (if ((IntKind.i64.wrap (z8x + z39x)).tmod (x_r.length : Int)) < (x_r.length : Int) then (((if (mget z44x ((rd e_api_Point x_r ((IntKind.i64.wrap (z8x + z39x)).tmod (x_r.length : Int))).ID) false) = true then (some z40x) else (if z40x.length + ([(rd e_api_Point x_r ((IntKind.i64.wrap (z8x + z39x)).tmod (x_r.length : Int))).ID] : List Int).length < 17592186044416 then (some (z40x ++ ([(rd e_api_Point x_r ((IntKind.i64.wrap (z8x + z39x)).tmod (x_r.length : Int))).ID] : List Int))) else (none))) : Option ((List Int))).bind fun z66x => (ring_Walk.l1 k x_r z8x (IntKind.i64.wrap (z39x + 1)) z66x (mput z44x ((rd e_api_Point x_r ((IntKind.i64.wrap (z8x + z39x)).tmod (x_r.length : Int))).ID) true))) else (none)) else (none))) else (some (z40x, z44x))
def ring_Walk.f (k : Nat) (x_r : List api_Point) (x_hash : Int) : Option ((List Int) × Int) := (ring_ask.f k x_r).bind fun z2t => (if z2t = 0 then ((((ring_Walk.l0 k x_r x_hash 0 (x_r.length : Int))) : Option (Int)).bind fun z8x => (((if z8x < (x_r.length : Int) then (if 0 ≤ z8x then ((ring_begins_1.f (rd e_api_Point x_r z8x) x_hash).bind fun z27t => (some (decide (z27t = 0)))) else (none)) else (some false)) : Option (Bool)).bind fun z21x => ((((ring_Walk.l1 k x_r z8x 0 ([] : List Int) ([] : List (Int × Bool)))) : Option ((List Int) × (List (Int × Bool)))).bind fun (z34x, z38x) => (some (z34x, 0))))) else (some (([] : List Int), z2t)))
set_option maxRecDepth 100000 in
set_option maxHeartbeats 4000000 in
theorem ring_Walk.calls (k : Nat) (A0 : Option Addr) (n0 c0 : Nat) (x_r : List api_Point) (x_hash : Int) (W0 : World) (X : Heap) (HR0 : Rd e_api_Point X A0 n0 c0 x_r) (Hq : HS W0 [isH X] W0) (r : (List Int) × Int) (H : ring_Walk.f k x_r x_hash = some r) :
    Calls Try.prog 11 #[.slice A0 n0 c0, .int .u64 x_hash] W0 (fun e w => ∃ Ar0 nr0 cr0, e = .returned (.tuple #[.slice Ar0 nr0 cr0, .int .i64 r.2]) ∧ HS W0 [own e_i64 3 Ar0 nr0 cr0 r.1, isH X] w) := by
  obtain rfl := HR0.1
  rw [ring_Walk.f] at H
  refine calls_inM Try.func11 rfl rfl ?_
  intro a0 S0
  refine w_seq ?_
  refine w_region ?_
  refine r_pures [_, _] S0 rfl ?_
  clear S0; intro a0 S0
  refine wl_nil ?_
  refine nr_then ?_
  refine w_seq ?_
  refine w_seq ?_
  refine w_region ?_
  refine r_pures [_] S0 rfl ?_
  clear S0; intro a0 S0
  obtain ⟨Xz1, HXz1, HPz1, HBz1⟩ := call_frame [] Hq
  dsimp only [List.cons_append, List.nil_append] at HXz1 HBz1
  obtain ⟨z2t, Hc, H⟩ := Option.bind_eq_some_iff.mp H
  refine r_call S0 rfl rfl goes28 rfl ?_
  refine (ring_ask.calls _ _ _ _ x_r _ _ (sl_isH_rd [] HPz1 HR0) HXz1 z2t Hc).mono ?_
  rintro e w ⟨rfl, Hq'⟩
  have Hq : HS W0 [isH X] w := HBz1 [] _ Hq'
  clear HXz1 HPz1 HBz1 Hq'
  refine ⟨.int .i64 z2t, rfl, ?_⟩; clear S0; intro a0 S0
  refine r_pures [_] S0 rfl ?_
  clear S0; intro a0 S0
  refine wl_nil ?_
  refine nr_then ?_
  refine w_seq ?_
  refine w_region ?_
  refine r_pures [_, _] S0 rfl ?_
  clear S0; intro a0 S0
  refine wl_nil ?_
  refine nr_then ?_
  by_cases z3h : z2t = 0
  · replace H := (if_pos z3h).symm.trans H
    refine w_false S0 rfl (congrArg (!·) (decide_eq_true z3h)) ?_
    refine w_skip ?_
    refine nr_then ?_
    refine w_seq ?_
    refine w_region ?_
    refine r_alloc S0 Hq ti32 rfl ?_
    clear S0 Hq; intro z4b a0 w S0 Hq
    refine wl_nil ?_
    refine nr_then ?_
    refine w_seq ?_
    refine w_region ?_
    refine r_makeMap S0 Hq .i64 m_bool rfl ?_
    clear S0 Hq; intro z5b a0 w S0 Hq
    refine r_alloc S0 Hq ti66 rfl ?_
    clear S0 Hq; intro z6b a0 w S0 Hq
    refine r_st [] S0 Hq rfl rfl ti66 [.map (some z5b)] rfl rfl rfl rfl [.map (some z5b)] rfl ?_
    clear Hq; intro w Hq; dsimp only [List.cons_append, List.nil_append] at Hq
    refine wl_nil ?_
    refine nr_then ?_
    refine w_seq ?_
    refine w_seq ?_
    refine w_region ?_
    refine r_pures [_, _] S0 rfl ?_
    clear S0; intro a0 S0
    refine r_call S0 rfl rfl goes29 rfl ?_
    refine calls_in Try.func29 rfl rfl ?_
    intro a1 S1
    refine w_seq ?_
    refine w_region ?_
    refine r_alloc S1 Hq ti63 rfl ?_
    clear S1 Hq; intro z7b a1 w S1 Hq
    refine wl_nil ?_
    refine nr_then ?_
    refine w_seq ?_
    refine w_region ?_
    refine r_pures [_, _] S1 rfl ?_
    clear S1; intro a1 S1
    refine r_call S1 rfl rfl goes47 rfl ?_
    refine calls_in Try.func47 rfl rfl ?_
    intro a2 S2
    refine w_seq ?_
    refine w_region ?_
    refine r_pures [_, _] S2 rfl ?_
    clear S2; intro a2 S2
    refine wl_nil ?_
    refine nr_then ?_
    refine w_seq ?_
    refine w_region ?_
    refine r_pures [_] S2 rfl ?_
    clear S2; intro a2 S2
    refine r_len S2 rfl sl25 rfl ?_
    clear S2; intro a2 S2
    refine r_pures [_] S2 rfl ?_
    clear S2; intro a2 S2
    refine wl_nil ?_
    refine nr_then ?_
    refine w_seq ?_
    refine w_region ?_
    refine r_pures [_, _, _] S2 rfl ?_
    clear S2; intro a2 S2
    refine wl_nil ?_
    refine nr_then ?_
    refine w_seq ?_
    obtain ⟨z8x, H, HU1⟩ := Option.bind_eq_some_iff.mp H
    refine w_cutT (fun a w => Sl 49 [] [(0, .slice A0 x_r.length c0), (1, .int .u64 x_hash), (2, .func (.func 48) #[] #[]), (8, .int .i64 (x_r.length : Int)), (9, .int .i64 z8x)] a ∧ HS W0 [bx z7b 63 [.slice none 0 0, .int .i64 0], bx z6b 66 [.map (some z5b)], mp .i64 m_bool z5b ([] : List (Int × Bool)), bx z4b 32 [.slice none 0 0], isH X] w) ?_ ?_
    · skip
      refine w_block ?_
      refine w_loop (fun kq a w => ∃ z9x z10x, ring_Walk.l0 kq x_r x_hash z9x z10x = some z8x ∧ Sl 49 [] [(0, .slice A0 x_r.length c0), (1, .int .u64 x_hash), (2, .func (.func 48) #[] #[]), (8, .int .i64 (x_r.length : Int)), (9, .int .i64 z9x), (10, .int .i64 z10x)] a ∧ HS W0 [bx z7b 63 [.slice none 0 0, .int .i64 0], bx z6b 66 [.map (some z5b)], mp .i64 m_bool z5b ([] : List (Int × Bool)), bx z4b 32 [.slice none 0 0], isH X] w) _ ⟨0, (x_r.length : Int), H, S2.sub ⟨rfl, rfl, rfl, rfl, rfl, rfl, trivial⟩, Hq⟩ ?_
      clear H Hq S2
      rintro k0 a w ⟨z9x, z10x, H, S2, Hq⟩
      cases k0 with
      | zero => simp [ring_Walk.l0] at H
      | succ k0 =>
        refine ⟨k0, rfl, ?_⟩
        rw [ring_Walk.l0] at H
        refine w_seq ?_
        refine w_seq ?_
        refine w_region ?_
        refine r_pures [_, _, _] S2 rfl ?_
        clear S2; intro a2 S2
        refine wl_nil ?_
        refine nr_then ?_
        by_cases z11h : z9x < z10x
        · replace H := (if_pos z11h).symm.trans H
          refine w_true S2 rfl (decide_eq_true z11h) ?_
          refine w_skip ?_
          refine nr_then ?_
          refine w_block ?_
          refine w_seq ?_
          refine w_region ?_
          refine r_pures [_, _, _] S2 rfl ?_
          clear S2; intro a2 S2
          refine r_conv S2 rfl und3 und81 rfl ?_
          clear S2; intro a2 S2
          refine r_shr' S2 rfl rfl (by decide) rfl ?_
          clear S2; intro a2 S2
          refine r_conv S2 rfl und81 und3 rfl ?_
          clear S2; intro a2 S2
          refine r_pures [_] S2 rfl ?_
          clear S2; intro a2 S2
          refine wl_nil ?_
          refine nr_then ?_
          refine w_seq ?_
          refine w_region ?_
          refine r_pures [_, _, _] S2 rfl ?_
          clear S2; intro a2 S2
          by_cases z12h : 0 ≤ (IntKind.i64.wrap (sh_shr .u64 (IntKind.u64.wrap (IntKind.i64.wrap (z9x + z10x))) 1))
          · replace H := (if_pos z12h).symm.trans H
            by_cases z13h : (IntKind.i64.wrap (sh_shr .u64 (IntKind.u64.wrap (IntKind.i64.wrap (z9x + z10x))) 1)) < (x_r.length : Int)
            · replace H := (if_pos z13h).symm.trans H
              obtain ⟨z14b, z15o, rfl⟩ := (isH_rd [_, _, _, _] Hq HR0).at (by omega)
              refine r_index S2 rfl rfl sl25 ti39 z12h z13h rfl ?_
              clear S2; intro a2 S2
              refine r_elA (vs := [.int .u64 ((rd e_api_Point x_r (IntKind.i64.wrap (sh_shr .u64 (IntKind.u64.wrap (IntKind.i64.wrap (z9x + z10x))) 1))).Hash), .int .i64 ((rd e_api_Point x_r (IntKind.i64.wrap (sh_shr .u64 (IntKind.u64.wrap (IntKind.i64.wrap (z9x + z10x))) 1))).ID)]) S2 (isH_rd [_, _, _, _] Hq HR0) z12h z13h rfl ti39 rfl rfl rfl ?_
              clear S2; intro a2 S2
              refine r_pures [_] S2 rfl ?_
              clear S2; intro a2 S2
              obtain ⟨Xz16, HXz16, HPz16, HBz16⟩ := call_frame [] Hq
              dsimp only [List.cons_append, List.nil_append] at HXz16 HBz16
              obtain ⟨z17t, Hc, H⟩ := Option.bind_eq_some_iff.mp H
              refine r_call S2 rfl rfl goes48 rfl ?_
              refine (ring_begins_1.calls (rd e_api_Point x_r (IntKind.i64.wrap (sh_shr .u64 (IntKind.u64.wrap (IntKind.i64.wrap (z9x + z10x))) 1))) x_hash _ _  HXz16 z17t Hc).mono ?_
              rintro e w ⟨rfl, Hq'⟩
              have Hq : HS W0 [bx z7b 63 [.slice none 0 0, .int .i64 0], bx z6b 66 [.map (some z5b)], mp .i64 m_bool z5b ([] : List (Int × Bool)), bx z4b 32 [.slice none 0 0], isH X] w := HBz16 [] _ Hq'
              clear HXz16 HPz16 HBz16 Hq'
              refine ⟨.int .i64 z17t, rfl, ?_⟩; clear S2; intro a2 S2
              refine r_pures [_] S2 rfl ?_
              clear S2; intro a2 S2
              refine wl_nil ?_
              refine nr_then ?_
              obtain ⟨⟨z18x, z19x⟩, H, HU2⟩ := Option.bind_eq_some_iff.mp H
              dsimp only at HU2
              refine w_cutT (fun a w => Sl 49 [] [(0, .slice (some ⟨z14b, z15o, none⟩) x_r.length c0), (1, .int .u64 x_hash), (2, .func (.func 48) #[] #[]), (8, .int .i64 (x_r.length : Int)), (9, .int .i64 z18x), (10, .int .i64 z19x)] a ∧ HS W0 [bx z7b 63 [.slice none 0 0, .int .i64 0], bx z6b 66 [.map (some z5b)], mp .i64 m_bool z5b ([] : List (Int × Bool)), bx z4b 32 [.slice none 0 0], isH X] w) ?_ ?_
              · skip
                by_cases z20h : z17t < 0
                · replace H := (if_pos z20h).symm.trans H
                  refine w_true S2 rfl (decide_eq_true z20h) ?_
                  refine w_region ?_
                  refine r_pures [_, _, _] S2 rfl ?_
                  clear S2; intro a2 S2
                  refine wl_nil ?_
                  refine nr_then ?_
                  simp only [Option.some.injEq, Prod.mk.injEq] at H; obtain ⟨rfl, rfl⟩ := H
                  exact ⟨S2.sub ⟨rfl, rfl, rfl, rfl, rfl, rfl, trivial⟩, Hq⟩
                · replace H := (if_neg z20h).symm.trans H
                  refine w_false S2 rfl (decide_eq_false z20h) ?_
                  refine w_region ?_
                  refine r_pures [_, _] S2 rfl ?_
                  clear S2; intro a2 S2
                  refine wl_nil ?_
                  refine nr_then ?_
                  simp only [Option.some.injEq, Prod.mk.injEq] at H; obtain ⟨rfl, rfl⟩ := H
                  exact ⟨S2.sub ⟨rfl, rfl, rfl, rfl, rfl, rfl, trivial⟩, Hq⟩
              · clear S2; rintro a w ⟨S2, Hq⟩
                have H := HU2; clear HU2
                refine nr_in ?_
                refine nr_then ?_
                exact ⟨z18x, z19x, H, S2.sub ⟨rfl, rfl, rfl, rfl, rfl, rfl, trivial⟩, Hq⟩
            · replace H := (if_neg z13h).symm.trans H
              exact nomatch H
          · replace H := (if_neg z12h).symm.trans H
            exact nomatch H
        · replace H := (if_neg z11h).symm.trans H
          refine w_false S2 rfl (decide_eq_false z11h) ?_
          refine w_exit ?_
          refine ex_then ?_
          refine ex_then ?_
          refine ex_in ?_
          refine nr_then ?_
          obtain rfl := Option.some.inj H
          exact ⟨S2.sub ⟨rfl, rfl, rfl, rfl, rfl, trivial⟩, Hq⟩
    · clear S2; rintro a w ⟨S2, Hq⟩
      have H := HU1; clear HU1
      refine nr_then ?_
      refine w_seq ?_
      obtain ⟨z21x, H, HU3⟩ := Option.bind_eq_some_iff.mp H
      refine w_cutT (fun a w => Sl 49 [] [(6, .int .i64 z8x), (7, .bool z21x)] a ∧ HS W0 [bx z7b 63 [.slice none 0 0, .int .i64 0], bx z6b 66 [.map (some z5b)], mp .i64 m_bool z5b ([] : List (Int × Bool)), bx z4b 32 [.slice none 0 0], isH X] w) ?_ ?_
      · skip
        refine w_region ?_
        refine r_pures [_, _, _, _, _] S2 rfl ?_
        clear S2; intro a2 S2
        by_cases z22h : z8x < (x_r.length : Int)
        · replace H := (if_pos z22h).symm.trans H
          refine r_on S2 rfl rfl rfl (decide_eq_true z22h) ?_
          refine r_pures [_] S2 rfl ?_
          clear S2; intro a2 S2
          refine r_on S2 rfl rfl rfl (decide_eq_true z22h) ?_
          refine r_pures [_] S2 rfl ?_
          clear S2; intro a2 S2
          refine r_on S2 rfl rfl rfl (decide_eq_true z22h) ?_
          refine r_pures [_] S2 rfl ?_
          clear S2; intro a2 S2
          refine r_on S2 rfl rfl rfl (decide_eq_true z22h) ?_
          by_cases z23h : 0 ≤ z8x
          · replace H := (if_pos z23h).symm.trans H
            obtain ⟨z24b, z25o, rfl⟩ := (isH_rd [_, _, _, _] Hq HR0).at (by omega)
            refine r_index S2 rfl rfl sl25 ti39 z23h z22h rfl ?_
            clear S2; intro a2 S2
            refine r_on S2 rfl rfl rfl (decide_eq_true z22h) ?_
            refine r_elA (vs := [.int .u64 ((rd e_api_Point x_r z8x).Hash), .int .i64 ((rd e_api_Point x_r z8x).ID)]) S2 (isH_rd [_, _, _, _] Hq HR0) z23h z22h rfl ti39 rfl rfl rfl ?_
            clear S2; intro a2 S2
            refine r_on S2 rfl rfl rfl (decide_eq_true z22h) ?_
            refine r_pures [_] S2 rfl ?_
            clear S2; intro a2 S2
            refine r_on S2 rfl rfl rfl (decide_eq_true z22h) ?_
            obtain ⟨Xz26, HXz26, HPz26, HBz26⟩ := call_frame [] Hq
            dsimp only [List.cons_append, List.nil_append] at HXz26 HBz26
            obtain ⟨z27t, Hc, H⟩ := Option.bind_eq_some_iff.mp H
            refine r_call S2 rfl rfl goes48 rfl ?_
            refine (ring_begins_1.calls (rd e_api_Point x_r z8x) x_hash _ _  HXz26 z27t Hc).mono ?_
            rintro e w ⟨rfl, Hq'⟩
            have Hq : HS W0 [bx z7b 63 [.slice none 0 0, .int .i64 0], bx z6b 66 [.map (some z5b)], mp .i64 m_bool z5b ([] : List (Int × Bool)), bx z4b 32 [.slice none 0 0], isH X] w := HBz26 [] _ Hq'
            clear HXz26 HPz26 HBz26 Hq'
            refine ⟨.int .i64 z27t, rfl, ?_⟩; clear S2; intro a2 S2
            refine r_on S2 rfl rfl rfl (decide_eq_true z22h) ?_
            refine r_pures [_] S2 rfl ?_
            clear S2; intro a2 S2
            refine r_pick S2 rfl (decide_eq_true z22h) _ rfl rfl ?_
            clear S2; intro a2 S2
            refine r_pures [_, _] S2 rfl ?_
            clear S2; intro a2 S2
            refine wl_nil ?_
            refine nr_then ?_
            obtain rfl := Option.some.inj H
            exact ⟨S2.sub ⟨rfl, rfl, trivial⟩, Hq⟩
          · replace H := (if_neg z23h).symm.trans H
            exact nomatch H
        · replace H := (if_neg z22h).symm.trans H
          refine r_off S2 rfl rfl rfl (decide_eq_false z22h) ?_ rfl
          clear S2; intro a2 S2
          refine r_off S2 rfl rfl rfl (decide_eq_false z22h) ?_ rfl
          clear S2; intro a2 S2
          refine r_off S2 rfl rfl rfl (decide_eq_false z22h) ?_ rfl
          clear S2; intro a2 S2
          refine r_off S2 rfl rfl rfl (decide_eq_false z22h) ?_ rfl
          clear S2; intro a2 S2
          refine r_off S2 rfl rfl rfl (decide_eq_false z22h) ?_ rfl
          clear S2; intro a2 S2
          refine r_off S2 rfl rfl rfl (decide_eq_false z22h) ?_ rfl
          clear S2; intro a2 S2
          refine r_off S2 rfl rfl rfl (decide_eq_false z22h) ?_ rfl
          clear S2; intro a2 S2
          refine r_off S2 rfl rfl rfl (decide_eq_false z22h) ?_ rfl
          clear S2; intro a2 S2
          refine r_pick S2 rfl (decide_eq_false z22h) _ rfl rfl ?_
          clear S2; intro a2 S2
          refine r_pures [_, _] S2 rfl ?_
          clear S2; intro a2 S2
          refine wl_nil ?_
          refine nr_then ?_
          obtain rfl := Option.some.inj H
          exact ⟨S2.sub ⟨rfl, rfl, trivial⟩, Hq⟩
      · clear S2; rintro a w ⟨S2, Hq⟩
        have H := HU3; clear HU3
        refine nr_then ?_
        refine w_ret ?_
        refine ret2 S2 rfl rfl rfl ?_
        clear S2
        refine ⟨_, rfl, ?_⟩; clear S1; intro a1 S1
        refine r_pures [_, _, _, _, _] S1 rfl ?_
        clear S1; intro a1 S1
        refine wl_nil ?_
        refine nr_then ?_
        refine w_seq ?_
        refine w_region ?_
        refine r_pures [_, _] S1 rfl ?_
        clear S1; intro a1 S1
        refine r_build S1 ti63 pl63 rfl [.slice A0 x_r.length c0, .int .i64 z8x] rfl rfl ?_
        clear S1; intro a1 S1
        refine r_st [] S1 Hq rfl rfl ti63 [.slice A0 x_r.length c0, .int .i64 z8x] rfl rfl rfl rfl [.slice A0 x_r.length c0, .int .i64 z8x] rfl ?_
        clear Hq; intro w Hq; dsimp only [List.cons_append, List.nil_append] at Hq
        refine wl_nil ?_
        refine nr_then ?_
        refine w_ret ?_
        refine retL [.cell 4 63] [.agg #[.slice A0 x_r.length c0, .int .i64 z8x]] S1 rfl ⟨rv_cell [] Hq rfl ti63 rfl rfl, trivial⟩ (.agg #[.slice A0 x_r.length c0, .int .i64 z8x]) rfl ?_
        clear S1
        refine ⟨_, rfl, ?_⟩; clear S0; intro a0 S0
        refine r_call S0 rfl rfl goes31 rfl ?_
        refine calls_in Try.func31 rfl rfl ?_
        intro a1 S1
        refine w_seq ?_
        refine w_region ?_
        refine r_box (vs := [.slice A0 x_r.length c0, .int .i64 z8x]) S1 Hq rfl rfl rfl ?_
        clear S1 Hq; intro z28b a1 w S1 Hq
        refine r_pures [_] S1 rfl ?_
        clear S1; intro a1 S1
        refine wl_nil ?_
        refine nr_then ?_
        refine w_seq ?_
        refine w_region ?_
        refine r_pures [_, _] S1 rfl ?_
        clear S1; intro a1 S1
        refine wl_nil ?_
        refine nr_then ?_
        refine w_ret ?_
        refine ret1 S1 rfl rfl ?_
        clear S1
        refine ⟨_, rfl, ?_⟩; clear S0; intro a0 S0
        refine wl_nil ?_
        refine nr_then ?_
        refine w_block ?_
        refine w_range S0 Hq rfl goes49 ?_
        clear Hq; intro z29l z30d z31f z32rc w z33hr Hq
        refine calls_in Try.func49 rfl rfl ?_
        intro a1 S1
        refine w_seq ?_
        refine w_region ?_
        refine r_fieldAddr S1 rfl fo63x0 (0) rfl rfl ?_
        clear S1; intro a1 S1
        refine r_ldS [_, _] S1 Hq rfl ti25 _ rfl rfl ?_
        clear S1; intro a1 S1
        refine r_len S1 rfl sl25 rfl ?_
        clear S1; intro a1 S1
        refine r_pures [_] S1 rfl ?_
        clear S1; intro a1 S1
        refine wl_nil ?_
        refine nr_then ?_
        replace Hq := HS.own_nil e_i64 3 Hq
        obtain ⟨⟨z34x, z38x⟩, H, HU4⟩ := Option.bind_eq_some_iff.mp H
        dsimp only at HU4
        refine w_cutT (fun a w => ∃ z35A z36m z37n, Sl 27 [] [] a ∧ HS W0 [own e_i64 3 z35A z36m z37n z34x, lpx z29l z32rc .ready none, dfc z30d, bx z28b 63 [.slice A0 x_r.length c0, .int .i64 z8x], bx z6b 66 [.map (some z5b)], mp .i64 m_bool z5b z38x, bx z4b 32 [.slice z35A z36m z37n], isH X] w) ?_ ?_
        · skip
          refine w_block ?_
          replace Hq := HS.pull [_, _, _, _, _, _, _, _] Hq
          dsimp only [List.cons_append, List.nil_append] at Hq
          replace Hq := HS.pull [_, _, _, _, _, _, _, _] Hq
          dsimp only [List.cons_append, List.nil_append] at Hq
          replace Hq := HS.pull [_, _, _, _, _, _, _, _] Hq
          dsimp only [List.cons_append, List.nil_append] at Hq
          replace Hq := HS.pull [_, _, _, _, _, _, _, _] Hq
          dsimp only [List.cons_append, List.nil_append] at Hq
          replace Hq := HS.pull [_, _, _, _, _, _, _] Hq
          dsimp only [List.cons_append, List.nil_append] at Hq
          replace Hq := HS.pull [_, _, _, _, _, _, _] Hq
          dsimp only [List.cons_append, List.nil_append] at Hq
          replace Hq := HS.pull [_, _, _, _, _, _, _] Hq
          dsimp only [List.cons_append, List.nil_append] at Hq
          replace Hq := HS.pull [_, _, _, _, _, _, _] Hq
          dsimp only [List.cons_append, List.nil_append] at Hq
          replace Hq := HS.keep [_, _, _, _, _, _, _, _] Hq
          refine w_loop (fun kq a w => ∃ z39x z40x z44x z41A z42m z43n, ring_Walk.l1 kq x_r z8x z39x z40x z44x = some (z34x, z38x) ∧ Sl 27 [] [(0, .func (.yield z29l) #[] #[]), (1, .pointer (some ⟨z28b, 0, none⟩)), (6, .int .i64 (x_r.length : Int)), (7, .int .i64 z39x)] a ∧ HS W0 [own e_i64 3 z41A z42m z43n z40x, lpx z29l z32rc .ready none, dfc z30d, bx z28b 63 [.slice A0 x_r.length c0, .int .i64 z8x], bx z6b 66 [.map (some z5b)], mp .i64 m_bool z5b z44x, bx z4b 32 [.slice z41A z42m z43n], isH X] w) _ ⟨0, ([] : List Int), ([] : List (Int × Bool)), none, 0, 0, H, S1.sub ⟨rfl, rfl, rfl, rfl, trivial⟩, Hq⟩ ?_
          clear H Hq S1
          rintro k1 a w ⟨z39x, z40x, z44x, z41A, z42m, z43n, H, S1, Hq⟩
          cases k1 with
          | zero => simp [ring_Walk.l1] at H
          | succ k1 =>
            refine ⟨k1, rfl, ?_⟩
            rw [ring_Walk.l1] at H
            obtain rfl := own_len [] Hq
            refine w_seq ?_
            refine w_region ?_
            refine r_pures [_] S1 rfl ?_
            clear S1; intro a1 S1
            refine wl_nil ?_
            refine nr_then ?_
            refine w_seq ?_
            by_cases z45h : z39x < (x_r.length : Int)
            · replace H := (if_pos z45h).symm.trans H
              refine w_true S1 rfl (decide_eq_true z45h) ?_
              refine w_skip ?_
              refine nr_then ?_
              refine w_seq ?_
              refine w_block ?_
              refine w_seq ?_
              refine w_region ?_
              refine r_pures [_, _] S1 rfl ?_
              clear S1; intro a1 S1
              refine wl_nil ?_
              refine nr_then ?_
              refine w_seq ?_
              refine w_draw TryM.mixed (.pu 0 (.pu 1 (.pu 3 (.pu 5 (.pu 7 (.rd 2 (.rd 4 (.pu 6 (.rd 8 (.pu 9 (.pu 10 (.pu 11 (.pu 12 (.rd 13 (.ef 14 (.pu 15 .done)))))))))))))))) (by kernel_rfl) rfl ?_
              replace Hq := Hq.drew
              refine st_pures [0] S1 rfl ?_
              intro az46q Sz46q
              refine st_pu Sz46q rfl (g_none rfl) rfl rfl (fun _ => y_fieldAddr Sz46q rfl fo63x0 (0) rfl) ?_
              intro az47q Sz47q
              refine st_pu Sz47q rfl (g_none rfl) rfl rfl (fun _ => y_fieldAddr Sz47q rfl fo63x1 (1) rfl) ?_
              intro az48q Sz48q
              refine st_pures [5] Sz48q rfl ?_
              intro az49q Sz49q
              refine st_pu Sz49q rfl (g_none rfl) rfl rfl (fun _ => y_fieldAddr Sz49q rfl fo63x0 (0) rfl) ?_
              intro az50q Sz50q
              refine st_rd Sz50q rfl (g_none rfl) rfl rfl (y_ldS [_, _, _] Sz50q Hq rfl ti25 _ rfl) ?_
              intro az51q Sz51q
              refine st_rd Sz51q rfl (g_none rfl) rfl rfl (y_ldS [_, _, _] Sz51q Hq rfl ti3 _ rfl) ?_
              intro az52q Sz52q
              refine st_pures [6] Sz52q rfl ?_
              intro az53q Sz53q
              refine st_rd Sz53q rfl (g_none rfl) rfl rfl (y_ldS [_, _, _] Sz53q Hq rfl ti25 _ rfl) ?_
              intro az54q Sz54q
              refine st_pu Sz54q rfl (g_none rfl) rfl rfl (fun _ => y_len Sz54q rfl sl25) ?_
              intro az55q Sz55q
              by_cases z56h : (x_r.length : Int) = 0
              · replace H := (if_pos z56h).symm.trans H
                exact nomatch H
              · replace H := (if_neg z56h).symm.trans H
                refine st_pu Sz55q rfl (g_none rfl) rfl rfl (fun _ => y_rem Sz55q rfl rfl z56h) ?_
                intro az57q Sz57q
                by_cases z58h : 0 ≤ ((IntKind.i64.wrap (z8x + z39x)).tmod (x_r.length : Int))
                · replace H := (if_pos z58h).symm.trans H
                  by_cases z59h : ((IntKind.i64.wrap (z8x + z39x)).tmod (x_r.length : Int)) < (x_r.length : Int)
                  · replace H := (if_pos z59h).symm.trans H
                    obtain ⟨z60b, z61o, rfl⟩ := (isH_rd [_, _, _, _, _, _, _] Hq HR0).at (by omega)
                    refine st_pu Sz57q rfl (g_none rfl) rfl rfl (fun _ => y_index Sz57q rfl rfl sl25 ti39 z58h z59h) ?_
                    intro az62q Sz62q
                    refine st_pu Sz62q rfl (g_none rfl) rfl rfl (fun _ => y_fieldAddr Sz62q rfl fo39x1 (z61o + Int.toNat ((IntKind.i64.wrap (z8x + z39x)).tmod (x_r.length : Int)) * 2 + 1) rfl) ?_
                    intro az63q Sz63q
                    refine st_rd Sz63q rfl (g_none rfl) rfl rfl (y_elS Sz63q (isH_rd [_, _, _, _, _, _, _] Hq HR0) z58h z59h rfl ti3 _ rfl) ?_
                    intro az64q Sz64q
                    refine st_ef rfl ?_
                    have Sz65q := Sz64q
                    refine r_yield [_] Sz65q S0 z33hr Hq rfl rfl rfl rfl rfl ?_
                    intro a2 S2
                    refine w_region ?_
                    refine r_pures [_] S2 rfl ?_
                    clear S2; intro a2 S2
                    refine wl_nil ?_
                    refine nr_then ?_
                    refine rd_begin z33hr [_] Hq ?_
                    clear Hq; intro w Hq; dsimp only [List.cons_append, List.nil_append] at Hq
                    refine w_block ?_
                    refine w_seq ?_
                    refine w_seq ?_
                    refine w_region ?_
                    refine r_ldS [_, _, _, _] S2 Hq rfl ti66 _ rfl rfl ?_
                    clear S2; intro a2 S2
                    refine r_pures [_] S2 rfl ?_
                    clear S2; intro a2 S2
                    refine r_lookup (z := false) [_, _, _, _, _] S2 Hq rfl rfl mp66 und3 (zv_run zv4) rfl ?_
                    clear S2; intro a2 S2
                    refine r_pures [_] S2 rfl ?_
                    clear S2; intro a2 S2
                    refine wl_nil ?_
                    refine nr_then ?_
                    obtain ⟨z66x, H, HU5⟩ := Option.bind_eq_some_iff.mp H
                    refine w_cutT (fun a w => ∃ z67A z68m z69n, Sl 32 [] [(8, .pointer (some ⟨z6b, 0, none⟩)), (9, .int .i64 ((rd e_api_Point x_r ((IntKind.i64.wrap (z8x + z39x)).tmod (x_r.length : Int))).ID))] a ∧ HS W0 [own e_i64 3 z67A z68m z69n z66x, lpx z29l z32rc .busy none, dfc z30d, bx z28b 63 [.slice (some ⟨z60b, z61o, none⟩) x_r.length c0, .int .i64 z8x], bx z6b 66 [.map (some z5b)], mp .i64 m_bool z5b z44x, bx z4b 32 [.slice z67A z68m z69n], isH X] w) ?_ ?_
                    · skip
                      by_cases z70h : (mget z44x ((rd e_api_Point x_r ((IntKind.i64.wrap (z8x + z39x)).tmod (x_r.length : Int))).ID) false) = true
                      · replace H := (if_pos z70h).symm.trans H
                        refine w_false S2 rfl (congrArg (!·) z70h) ?_
                        refine w_skip ?_
                        refine nr_then ?_
                        obtain rfl := Option.some.inj H
                        exact ⟨z41A, z40x.length, z43n, S2.sub ⟨rfl, rfl, trivial⟩, Hq⟩
                      · replace H := (if_neg z70h).symm.trans H
                        refine w_true S2 rfl (congrArg (!·) (Bool.eq_false_iff.mpr z70h)) ?_
                        refine w_region ?_
                        refine r_ldS [_, _, _, _, _, _] S2 Hq rfl ti32 _ rfl rfl ?_
                        clear S2; intro a2 S2
                        refine r_pures [_] S2 rfl ?_
                        clear S2; intro a2 S2
                        refine r_lit (e := e_i64) (l := ([(rd e_api_Point x_r ((IntKind.i64.wrap (z8x + z39x)).tmod (x_r.length : Int))).ID] : List Int)) (m := 1) (vs := [.int .i64 ((rd e_api_Point x_r ((IntKind.i64.wrap (z8x + z39x)).tmod (x_r.length : Int))).ID)]) S2 Hq sl32 ti3 rfl rfl rfl rfl rfl rfl ?_
                        clear S2 Hq; intro z71b a2 w S2 Hq
                        by_cases z73h : z40x.length + ([(rd e_api_Point x_r ((IntKind.i64.wrap (z8x + z39x)).tmod (x_r.length : Int))).ID] : List Int).length < 17592186044416
                        · replace H := (if_pos z73h).symm.trans H
                          refine r_app [_] S2 Hq (own_rd [] Hq) rfl rfl sl32 ti3 rfl z73h rfl rfl ?_
                          clear S2 Hq; intro z74A z75n a2 w S2 Hq; dsimp only [List.cons_append, List.nil_append] at Hq
                          refine r_st [_, _, _, _, _, _, _] S2 Hq rfl rfl ti32 [.slice z74A ((z40x ++ ([(rd e_api_Point x_r ((IntKind.i64.wrap (z8x + z39x)).tmod (x_r.length : Int))).ID] : List Int)).length) z75n] rfl rfl rfl rfl [.slice z74A ((z40x ++ ([(rd e_api_Point x_r ((IntKind.i64.wrap (z8x + z39x)).tmod (x_r.length : Int))).ID] : List Int)).length) z75n] rfl ?_
                          clear Hq; intro w Hq; dsimp only [List.cons_append, List.nil_append] at Hq
                          refine wl_nil ?_
                          refine nr_then ?_
                          replace Hq := HS.pull [_, _, _, _, _, _, _, _] Hq
                          dsimp only [List.cons_append, List.nil_append] at Hq
                          replace Hq := HS.pull [_, _, _, _, _, _, _, _] Hq
                          dsimp only [List.cons_append, List.nil_append] at Hq
                          replace Hq := HS.pull [_, _, _, _, _, _, _, _] Hq
                          dsimp only [List.cons_append, List.nil_append] at Hq
                          replace Hq := HS.pull [_, _, _, _, _, _, _, _] Hq
                          dsimp only [List.cons_append, List.nil_append] at Hq
                          replace Hq := HS.pull [_, _, _, _, _, _, _, _] Hq
                          dsimp only [List.cons_append, List.nil_append] at Hq
                          replace Hq := HS.pull [_, _, _, _, _, _, _, _] Hq
                          dsimp only [List.cons_append, List.nil_append] at Hq
                          replace Hq := HS.pull [_, _, _, _, _, _, _, _] Hq
                          dsimp only [List.cons_append, List.nil_append] at Hq
                          replace Hq := HS.pull [_, _, _, _, _, _, _, _] Hq
                          dsimp only [List.cons_append, List.nil_append] at Hq
                          replace Hq := HS.keep [_, _, _, _, _, _, _, _] Hq
                          obtain rfl := Option.some.inj H
                          exact ⟨z74A, ((z40x ++ ([(rd e_api_Point x_r ((IntKind.i64.wrap (z8x + z39x)).tmod (x_r.length : Int))).ID] : List Int)).length), z75n, S2.sub ⟨rfl, rfl, trivial⟩, Hq⟩
                        · replace H := (if_neg z73h).symm.trans H
                          exact nomatch H
                    · clear S2; rintro a w ⟨z67A, z68m, z69n, S2, Hq⟩
                      have H := HU5; clear HU5
                      obtain rfl := own_len [] Hq
                      refine nr_then ?_
                      refine w_region ?_
                      refine r_ldS [_, _, _, _] S2 Hq rfl ti66 _ rfl rfl ?_
                      clear S2; intro a2 S2
                      refine r_pures [_] S2 rfl ?_
                      clear S2; intro a2 S2
                      refine r_mapUpdate [_, _, _, _, _] S2 Hq rfl rfl true rfl mp66 und3 ?_
                      clear Hq; intro w Hq; dsimp only [List.cons_append, List.nil_append] at Hq
                      refine wl_nil ?_
                      refine nr_in ?_
                      refine rd_end z33hr [_] Hq ?_
                      clear Hq S2; intro w Hq; dsimp only [List.cons_append, List.nil_append] at Hq
                      refine ⟨_, rfl, ?_⟩; clear Sz65q; intro az64q Sz65q
                      refine wl_nil ?_
                      refine nr_then ?_
                      refine ⟨⟨⟨⟨⟨trivial, y_ldS [_, _, _] Sz50q Hq rfl ti25 _ rfl⟩, y_ldS [_, _, _] Sz51q Hq rfl ti3 _ rfl⟩, y_ldS [_, _, _] Sz53q Hq rfl ti25 _ rfl⟩, y_elS Sz63q (isH_rd [_, _, _, _, _, _, _] Hq HR0) z58h z59h rfl ti3 _ rfl⟩, ?_⟩
                      refine st_pures [15] Sz65q rfl ?_
                      intro az76q Sz76q
                      refine st_nil ?_
                      replace S1 := Sz76q
                      refine nr_then ?_
                      refine w_false S1 rfl rfl ?_
                      refine w_skip ?_
                      refine nr_in ?_
                      refine nr_then ?_
                      refine w_region ?_
                      refine r_pures [_, _] S1 rfl ?_
                      clear S1; intro a1 S1
                      refine wl_nil ?_
                      refine nr_then ?_
                      exact ⟨(IntKind.i64.wrap (z39x + 1)), z66x, (mput z44x ((rd e_api_Point x_r ((IntKind.i64.wrap (z8x + z39x)).tmod (x_r.length : Int))).ID) true), z67A, z66x.length, z69n, H, S1.sub ⟨rfl, rfl, rfl, rfl, trivial⟩, Hq⟩
                  · replace H := (if_neg z59h).symm.trans H
                    exact nomatch H
                · replace H := (if_neg z58h).symm.trans H
                  exact nomatch H
            · replace H := (if_neg z45h).symm.trans H
              refine w_false S1 rfl (decide_eq_false z45h) ?_
              refine w_exit ?_
              refine ex_then ?_
              refine ex_then ?_
              refine ex_in ?_
              refine nr_then ?_
              simp only [Option.some.injEq, Prod.mk.injEq] at H; obtain ⟨rfl, rfl⟩ := H
              exact ⟨z41A, z40x.length, z43n, S1.sub trivial, Hq⟩
        · clear S1; rintro a w ⟨z35A, z36m, z37n, S1, Hq⟩
          have H := HU4; clear HU4
          obtain rfl := own_len [] Hq
          refine end0 S1 rfl ?_
          clear S1
          refine ⟨_, rfl, ?_⟩
          refine lp_end z33hr [_] Hq (by decide) ?_
          clear Hq z33hr; intro w Hq; dsimp only [List.cons_append, List.nil_append] at Hq
          clear S0; intro a0 S0
          refine nr_in ?_
          refine nr_then ?_
          refine w_seq ?_
          refine w_region ?_
          refine r_ldS [_, _, _, _, _] S0 Hq rfl ti32 _ rfl rfl ?_
          clear S0; intro a0 S0
          refine r_pures [_, _] S0 rfl ?_
          clear S0; intro a0 S0
          refine wl_nil ?_
          refine nr_then ?_
          refine w_ret ?_
          obtain rfl := Option.some.inj H
          refine pop_ret [_] S0 Hq ?_
          clear S0 Hq; intro a0 w S0 Hq; dsimp only [List.cons_append, List.nil_append] at Hq
          refine leave_ret S0 ?_
          refine ret2 S0 rfl rfl rfl ?_
          replace Hq := HS.pull [_, _, _, _, _] Hq
          dsimp only [List.cons_append, List.nil_append] at Hq
          replace Hq := HS.pull [_] Hq
          dsimp only [List.cons_append, List.nil_append] at Hq
          replace Hq := HS.keep [_, _] Hq
          exact ⟨z35A, z34x.length, z37n, rfl, Hq⟩
  · replace H := (if_neg z3h).symm.trans H
    refine w_true S0 rfl (congrArg (!·) (decide_eq_false z3h)) ?_
    refine w_seq ?_
    refine w_region ?_
    refine r_pures [_, _, _] S0 rfl ?_
    clear S0; intro a0 S0
    refine wl_nil ?_
    refine nr_then ?_
    refine w_ret ?_
    refine ret_then ?_
    obtain rfl := Option.some.inj H
    replace Hq := HS.own_nil e_i64 3 Hq
    refine leave_ret S0 ?_
    refine ret2 S0 rfl rfl rfl ?_
    replace Hq := HS.pull [_] Hq
    dsimp only [List.cons_append, List.nil_append] at Hq
    replace Hq := HS.pull [_] Hq
    dsimp only [List.cons_append, List.nil_append] at Hq
    exact ⟨none, 0, 0, rfl, Hq⟩

end Go.Proofs.Ytmdpjijafejgpaa.M

/- waybill/waybilllaw12.own: a plain function, and that the machine's call comes to it: printed by a program of the session's own. -/
set_option linter.unusedVariables false
set_option linter.unusedSimpArgs false
namespace Go.Proofs.Ytmdpjijafejgpaa.M
open Go Go.Proofs.Ytmdpjijafejgpaa.Sl
/-! ### waybill/waybilllaw12.own: function 12 -/
def waybilllaw12_own.f (x_r : List api_Point) : Option (List api_Point) := if ([] : List api_Point).length + x_r.length < 8796093022208 then (some (([] : List api_Point) ++ x_r)) else (none)
set_option maxRecDepth 100000 in
set_option maxHeartbeats 4000000 in
theorem waybilllaw12_own.calls (A0 : Option Addr) (n0 c0 : Nat) (x_r : List api_Point) (W0 : World) (X : Heap) (HR0 : Rd e_api_Point X A0 n0 c0 x_r) (Hq : HS W0 [isH X] W0) (r : List api_Point) (H : waybilllaw12_own.f x_r = some r) :
    Calls Try.prog 12 #[.slice A0 n0 c0] W0 (fun e w => ∃ Ar0 nr0 cr0, e = .returned (.slice Ar0 nr0 cr0) ∧ HS W0 [own e_api_Point 39 Ar0 nr0 cr0 r, isH X] w) := by
  obtain rfl := HR0.1
  rw [waybilllaw12_own.f] at H
  refine calls_in Try.func12 rfl rfl ?_
  intro a0 S0
  refine w_seq ?_
  refine w_region ?_
  refine r_pures [_] S0 rfl ?_
  clear S0; intro a0 S0
  refine wl_nil ?_
  refine nr_then ?_
  refine w_seq ?_
  refine w_region ?_
  refine r_pures [_] S0 rfl ?_
  clear S0; intro a0 S0
  refine wl_nil ?_
  refine nr_then ?_
  refine w_seq ?_
  refine w_region ?_
  refine r_pures [_, _] S0 rfl ?_
  clear S0; intro a0 S0
  replace Hq := HS.own_nil e_api_Point 39 Hq
  by_cases z1h : ([] : List api_Point).length + x_r.length < 8796093022208
  · replace H := (if_pos z1h).symm.trans H
    refine r_app [] S0 Hq (isH_rd [_] Hq HR0) rfl rfl sl25 ti39 rfl z1h rfl rfl ?_
    clear S0 Hq; intro z2A z3n a0 w S0 Hq; dsimp only [List.cons_append, List.nil_append] at Hq
    refine r_pures [_] S0 rfl ?_
    clear S0; intro a0 S0
    refine wl_nil ?_
    refine nr_then ?_
    refine w_ret ?_
    obtain rfl := Option.some.inj H
    refine ret1 S0 rfl rfl ?_
    replace Hq := HS.pull [_] Hq
    dsimp only [List.cons_append, List.nil_append] at Hq
    replace Hq := HS.pull [_] Hq
    dsimp only [List.cons_append, List.nil_append] at Hq
    exact ⟨z2A, ((([] : List api_Point) ++ x_r).length), z3n, rfl, Hq⟩
  · replace H := (if_neg z1h).symm.trans H
    exact nomatch H

end Go.Proofs.Ytmdpjijafejgpaa.M

/- waybill/waybillref12.Check: a plain function, and that the machine's call comes to it: printed by a program of the session's own. -/
set_option linter.unusedVariables false
set_option linter.unusedSimpArgs false
namespace Go.Proofs.Ytmdpjijafejgpaa.M
open Go Go.Proofs.Ytmdpjijafejgpaa.Sl
/-! ### waybill/waybillref12.Check: function 21 -/
def waybillref12_Check.l1 : Nat → (List api_Backend) → Int → Option (Sum (Int) (Unit))
  | 0, _, _ => none
  | k + 1, x_l, z12x => if z12x < (x_l.length : Int) then (if 0 ≤ z12x then (if 0 ≤ (IntKind.i64.wrap (z12x - 1)) then (if (IntKind.i64.wrap (z12x - 1)) < (x_l.length : Int) then (if ((rd e_api_Backend x_l z12x).ID) ≤ ((rd e_api_Backend x_l (IntKind.i64.wrap (z12x - 1))).ID) then (some (Sum.inl 6)) else (waybillref12_Check.l1 k x_l (IntKind.i64.wrap (z12x + 1)))) else (none)) else (none)) else (none)) else (some (Sum.inr (())))
def waybillref12_Check.l0 : Nat → (List api_Backend) → Int → Option (Int)
  | 0, _, _ => none
  | k + 1, x_l, z2x => if z2x < (x_l.length : Int) then (((if 0 ≤ z2x then (if ((rd e_api_Backend x_l z2x).ID) < 0 then (some true) else (if 2147483647 < ((rd e_api_Backend x_l z2x).ID) then (some true) else (if ((rd e_api_Backend x_l z2x).Weight) < 1 then (some true) else (some (decide (16 < ((rd e_api_Backend x_l z2x).Weight))))))) else (none)) : Option (Bool)).bind fun z4x => (if z4x = true then (some 4) else (waybillref12_Check.l0 k x_l (IntKind.i64.wrap (z2x + 1))))) else ((((waybillref12_Check.l1 k x_l 1)) : Option (Sum (Int) (Unit))).bind fun v_ => (match v_ with | (Sum.inl q_) => some q_ | (Sum.inr (_)) => some 0))
def waybillref12_Check.f (k : Nat) (x_l : List api_Backend) : Option (Int) := if 32 < (x_l.length : Int) then (some 3) else ((waybillref12_Check.l0 k x_l 0))
set_option maxRecDepth 100000 in
set_option maxHeartbeats 4000000 in
theorem waybillref12_Check.calls (k : Nat) (A0 : Option Addr) (n0 c0 : Nat) (x_l : List api_Backend) (W0 : World) (X : Heap) (HR0 : Rd e_api_Backend X A0 n0 c0 x_l) (Hq : HS W0 [isH X] W0) (r : Int) (H : waybillref12_Check.f k x_l = some r) :
    Calls Try.prog 21 #[.slice A0 n0 c0] W0 (fun e w => e = .returned (.int .i64 r) ∧ HS W0 [isH X] w) := by
  obtain rfl := HR0.1
  rw [waybillref12_Check.f] at H
  refine calls_in Try.func21 rfl rfl ?_
  intro a0 S0
  refine w_seq ?_
  refine w_region ?_
  refine r_pures [_] S0 rfl ?_
  clear S0; intro a0 S0
  refine wl_nil ?_
  refine nr_then ?_
  refine w_seq ?_
  refine w_seq ?_
  refine w_region ?_
  refine r_pures [_] S0 rfl ?_
  clear S0; intro a0 S0
  refine r_len S0 rfl sl22 rfl ?_
  clear S0; intro a0 S0
  refine r_pures [_] S0 rfl ?_
  clear S0; intro a0 S0
  refine wl_nil ?_
  refine nr_then ?_
  by_cases z1h : 32 < (x_l.length : Int)
  · replace H := (if_pos z1h).symm.trans H
    refine w_true S0 rfl (decide_eq_true z1h) ?_
    refine w_seq ?_
    refine w_region ?_
    refine r_pures [_] S0 rfl ?_
    clear S0; intro a0 S0
    refine wl_nil ?_
    refine nr_then ?_
    refine w_ret ?_
    refine ret_then ?_
    obtain rfl := Option.some.inj H
    refine ret1 S0 rfl rfl ?_
    exact ⟨rfl, Hq⟩
  · replace H := (if_neg z1h).symm.trans H
    refine w_false S0 rfl (decide_eq_false z1h) ?_
    refine w_skip ?_
    refine nr_then ?_
    refine w_seq ?_
    refine w_seq ?_
    refine w_region ?_
    refine r_pures [_] S0 rfl ?_
    clear S0; intro a0 S0
    refine wl_nil ?_
    refine nr_then ?_
    refine w_block ?_
    refine w_loop (fun kq a w => ∃ z2x, waybillref12_Check.l0 kq x_l z2x = some r ∧ Sl 62 [] [(0, .slice A0 x_l.length c0), (3, .int .i64 z2x)] a ∧ HS W0 [isH X] w) _ ⟨0, H, S0.sub ⟨rfl, rfl, trivial⟩, Hq⟩ ?_
    clear H Hq S0
    rintro k0 a w ⟨z2x, H, S0, Hq⟩
    cases k0 with
    | zero => simp [waybillref12_Check.l0] at H
    | succ k0 =>
      refine ⟨k0, rfl, ?_⟩
      rw [waybillref12_Check.l0] at H
      refine w_seq ?_
      refine w_seq ?_
      refine w_region ?_
      refine r_pures [_, _] S0 rfl ?_
      clear S0; intro a0 S0
      refine r_len S0 rfl sl22 rfl ?_
      clear S0; intro a0 S0
      refine r_pures [_] S0 rfl ?_
      clear S0; intro a0 S0
      refine wl_nil ?_
      refine nr_then ?_
      by_cases z3h : z2x < (x_l.length : Int)
      · replace H := (if_pos z3h).symm.trans H
        refine w_true S0 rfl (decide_eq_true z3h) ?_
        refine w_skip ?_
        refine nr_then ?_
        refine w_seq ?_
        refine w_block ?_
        refine w_seq ?_
        obtain ⟨z4x, H, HU1⟩ := Option.bind_eq_some_iff.mp H
        refine w_cutT (fun a w => Sl 62 [] [(0, .slice A0 x_l.length c0), (3, .int .i64 z2x), (43, .bool z4x)] a ∧ HS W0 [isH X] w) ?_ ?_
        · skip
          refine w_region ?_
          refine r_pures [_, _] S0 rfl ?_
          clear S0; intro a0 S0
          by_cases z5h : 0 ≤ z2x
          · replace H := (if_pos z5h).symm.trans H
            obtain ⟨z6b, z7o, rfl⟩ := (isH_rd [] Hq HR0).at (by omega)
            refine r_index S0 rfl rfl sl22 ti36 z5h z3h rfl ?_
            clear S0; intro a0 S0
            refine r_fieldAddr S0 rfl fo36x0 (z7o + Int.toNat z2x * 2 + 0) rfl rfl ?_
            clear S0; intro a0 S0
            refine r_elS S0 (isH_rd [] Hq HR0) z5h z3h rfl ti3 _ rfl rfl ?_
            clear S0; intro a0 S0
            refine r_pures [_, _] S0 rfl ?_
            clear S0; intro a0 S0
            by_cases z8h : ((rd e_api_Backend x_l z2x).ID) < 0
            · replace H := (if_pos z8h).symm.trans H
              refine r_off S0 rfl rfl rfl (decide_eq_true z8h) ?_ rfl
              clear S0; intro a0 S0
              refine r_off S0 rfl rfl rfl (decide_eq_true z8h) ?_ rfl
              clear S0; intro a0 S0
              refine r_off S0 rfl rfl rfl (decide_eq_true z8h) ?_ rfl
              clear S0; intro a0 S0
              refine r_off S0 rfl rfl rfl (decide_eq_true z8h) ?_ rfl
              clear S0; intro a0 S0
              refine r_off S0 rfl rfl rfl (decide_eq_true z8h) ?_ rfl
              clear S0; intro a0 S0
              refine r_off S0 rfl rfl rfl (decide_eq_true z8h) ?_ rfl
              clear S0; intro a0 S0
              refine r_pick S0 rfl (decide_eq_true z8h) _ rfl rfl ?_
              clear S0; intro a0 S0
              refine r_pures [_] S0 rfl ?_
              clear S0; intro a0 S0
              refine r_off S0 rfl rfl rfl rfl ?_ rfl
              clear S0; intro a0 S0
              refine r_off S0 rfl rfl rfl rfl ?_ rfl
              clear S0; intro a0 S0
              refine r_off S0 rfl rfl rfl rfl ?_ rfl
              clear S0; intro a0 S0
              refine r_off S0 rfl rfl rfl rfl ?_ rfl
              clear S0; intro a0 S0
              refine r_off S0 rfl rfl rfl rfl ?_ rfl
              clear S0; intro a0 S0
              refine r_off S0 rfl rfl rfl rfl ?_ rfl
              clear S0; intro a0 S0
              refine r_pick S0 rfl rfl _ rfl rfl ?_
              clear S0; intro a0 S0
              refine r_pures [_] S0 rfl ?_
              clear S0; intro a0 S0
              refine r_off S0 rfl rfl rfl rfl ?_ rfl
              clear S0; intro a0 S0
              refine r_off S0 rfl rfl rfl rfl ?_ rfl
              clear S0; intro a0 S0
              refine r_off S0 rfl rfl rfl rfl ?_ rfl
              clear S0; intro a0 S0
              refine r_off S0 rfl rfl rfl rfl ?_ rfl
              clear S0; intro a0 S0
              refine r_off S0 rfl rfl rfl rfl ?_ rfl
              clear S0; intro a0 S0
              refine r_off S0 rfl rfl rfl rfl ?_ rfl
              clear S0; intro a0 S0
              refine r_pick S0 rfl rfl _ rfl rfl ?_
              clear S0; intro a0 S0
              refine wl_nil ?_
              refine nr_then ?_
              obtain rfl := Option.some.inj H
              exact ⟨S0.sub ⟨rfl, rfl, rfl, trivial⟩, Hq⟩
            · replace H := (if_neg z8h).symm.trans H
              refine r_on S0 rfl rfl rfl (decide_eq_false z8h) ?_
              refine r_pures [_] S0 rfl ?_
              clear S0; intro a0 S0
              refine r_on S0 rfl rfl rfl (decide_eq_false z8h) ?_
              refine r_pures [_] S0 rfl ?_
              clear S0; intro a0 S0
              refine r_on S0 rfl rfl rfl (decide_eq_false z8h) ?_
              refine r_index S0 rfl rfl sl22 ti36 z5h z3h rfl ?_
              clear S0; intro a0 S0
              refine r_on S0 rfl rfl rfl (decide_eq_false z8h) ?_
              refine r_fieldAddr S0 rfl fo36x0 (z7o + Int.toNat z2x * 2 + 0) rfl rfl ?_
              clear S0; intro a0 S0
              refine r_on S0 rfl rfl rfl (decide_eq_false z8h) ?_
              refine r_elS S0 (isH_rd [] Hq HR0) z5h z3h rfl ti3 _ rfl rfl ?_
              clear S0; intro a0 S0
              refine r_on S0 rfl rfl rfl (decide_eq_false z8h) ?_
              refine r_pures [_] S0 rfl ?_
              clear S0; intro a0 S0
              refine r_pick S0 rfl (decide_eq_false z8h) _ rfl rfl ?_
              clear S0; intro a0 S0
              refine r_pures [_] S0 rfl ?_
              clear S0; intro a0 S0
              by_cases z9h : 2147483647 < ((rd e_api_Backend x_l z2x).ID)
              · replace H := (if_pos z9h).symm.trans H
                refine r_off S0 rfl rfl rfl (decide_eq_true z9h) ?_ rfl
                clear S0; intro a0 S0
                refine r_off S0 rfl rfl rfl (decide_eq_true z9h) ?_ rfl
                clear S0; intro a0 S0
                refine r_off S0 rfl rfl rfl (decide_eq_true z9h) ?_ rfl
                clear S0; intro a0 S0
                refine r_off S0 rfl rfl rfl (decide_eq_true z9h) ?_ rfl
                clear S0; intro a0 S0
                refine r_off S0 rfl rfl rfl (decide_eq_true z9h) ?_ rfl
                clear S0; intro a0 S0
                refine r_off S0 rfl rfl rfl (decide_eq_true z9h) ?_ rfl
                clear S0; intro a0 S0
                refine r_pick S0 rfl (decide_eq_true z9h) _ rfl rfl ?_
                clear S0; intro a0 S0
                refine r_pures [_] S0 rfl ?_
                clear S0; intro a0 S0
                refine r_off S0 rfl rfl rfl rfl ?_ rfl
                clear S0; intro a0 S0
                refine r_off S0 rfl rfl rfl rfl ?_ rfl
                clear S0; intro a0 S0
                refine r_off S0 rfl rfl rfl rfl ?_ rfl
                clear S0; intro a0 S0
                refine r_off S0 rfl rfl rfl rfl ?_ rfl
                clear S0; intro a0 S0
                refine r_off S0 rfl rfl rfl rfl ?_ rfl
                clear S0; intro a0 S0
                refine r_off S0 rfl rfl rfl rfl ?_ rfl
                clear S0; intro a0 S0
                refine r_pick S0 rfl rfl _ rfl rfl ?_
                clear S0; intro a0 S0
                refine wl_nil ?_
                refine nr_then ?_
                obtain rfl := Option.some.inj H
                exact ⟨S0.sub ⟨rfl, rfl, rfl, trivial⟩, Hq⟩
              · replace H := (if_neg z9h).symm.trans H
                refine r_on S0 rfl rfl rfl (decide_eq_false z9h) ?_
                refine r_pures [_] S0 rfl ?_
                clear S0; intro a0 S0
                refine r_on S0 rfl rfl rfl (decide_eq_false z9h) ?_
                refine r_pures [_] S0 rfl ?_
                clear S0; intro a0 S0
                refine r_on S0 rfl rfl rfl (decide_eq_false z9h) ?_
                refine r_index S0 rfl rfl sl22 ti36 z5h z3h rfl ?_
                clear S0; intro a0 S0
                refine r_on S0 rfl rfl rfl (decide_eq_false z9h) ?_
                refine r_fieldAddr S0 rfl fo36x1 (z7o + Int.toNat z2x * 2 + 1) rfl rfl ?_
                clear S0; intro a0 S0
                refine r_on S0 rfl rfl rfl (decide_eq_false z9h) ?_
                refine r_elS S0 (isH_rd [] Hq HR0) z5h z3h rfl ti3 _ rfl rfl ?_
                clear S0; intro a0 S0
                refine r_on S0 rfl rfl rfl (decide_eq_false z9h) ?_
                refine r_pures [_] S0 rfl ?_
                clear S0; intro a0 S0
                refine r_pick S0 rfl (decide_eq_false z9h) _ rfl rfl ?_
                clear S0; intro a0 S0
                refine r_pures [_] S0 rfl ?_
                clear S0; intro a0 S0
                by_cases z10h : ((rd e_api_Backend x_l z2x).Weight) < 1
                · replace H := (if_pos z10h).symm.trans H
                  refine r_off S0 rfl rfl rfl (decide_eq_true z10h) ?_ rfl
                  clear S0; intro a0 S0
                  refine r_off S0 rfl rfl rfl (decide_eq_true z10h) ?_ rfl
                  clear S0; intro a0 S0
                  refine r_off S0 rfl rfl rfl (decide_eq_true z10h) ?_ rfl
                  clear S0; intro a0 S0
                  refine r_off S0 rfl rfl rfl (decide_eq_true z10h) ?_ rfl
                  clear S0; intro a0 S0
                  refine r_off S0 rfl rfl rfl (decide_eq_true z10h) ?_ rfl
                  clear S0; intro a0 S0
                  refine r_off S0 rfl rfl rfl (decide_eq_true z10h) ?_ rfl
                  clear S0; intro a0 S0
                  refine r_pick S0 rfl (decide_eq_true z10h) _ rfl rfl ?_
                  clear S0; intro a0 S0
                  refine wl_nil ?_
                  refine nr_then ?_
                  obtain rfl := Option.some.inj H
                  exact ⟨S0.sub ⟨rfl, rfl, rfl, trivial⟩, Hq⟩
                · replace H := (if_neg z10h).symm.trans H
                  refine r_on S0 rfl rfl rfl (decide_eq_false z10h) ?_
                  refine r_pures [_] S0 rfl ?_
                  clear S0; intro a0 S0
                  refine r_on S0 rfl rfl rfl (decide_eq_false z10h) ?_
                  refine r_pures [_] S0 rfl ?_
                  clear S0; intro a0 S0
                  refine r_on S0 rfl rfl rfl (decide_eq_false z10h) ?_
                  refine r_index S0 rfl rfl sl22 ti36 z5h z3h rfl ?_
                  clear S0; intro a0 S0
                  refine r_on S0 rfl rfl rfl (decide_eq_false z10h) ?_
                  refine r_fieldAddr S0 rfl fo36x1 (z7o + Int.toNat z2x * 2 + 1) rfl rfl ?_
                  clear S0; intro a0 S0
                  refine r_on S0 rfl rfl rfl (decide_eq_false z10h) ?_
                  refine r_elS S0 (isH_rd [] Hq HR0) z5h z3h rfl ti3 _ rfl rfl ?_
                  clear S0; intro a0 S0
                  refine r_on S0 rfl rfl rfl (decide_eq_false z10h) ?_
                  refine r_pures [_] S0 rfl ?_
                  clear S0; intro a0 S0
                  refine r_pick S0 rfl (decide_eq_false z10h) _ rfl rfl ?_
                  clear S0; intro a0 S0
                  refine wl_nil ?_
                  refine nr_then ?_
                  obtain rfl := Option.some.inj H
                  exact ⟨S0.sub ⟨rfl, rfl, rfl, trivial⟩, Hq⟩
          · replace H := (if_neg z5h).symm.trans H
            exact nomatch H
        · clear S0; rintro a w ⟨S0, Hq⟩
          have H := HU1; clear HU1
          refine nr_then ?_
          by_cases z11h : z4x = true
          · replace H := (if_pos z11h).symm.trans H
            refine w_true S0 rfl z11h ?_
            refine w_seq ?_
            refine w_region ?_
            refine r_pures [_] S0 rfl ?_
            clear S0; intro a0 S0
            refine wl_nil ?_
            refine nr_then ?_
            refine w_ret ?_
            refine ret_in ?_
            refine ret_then ?_
            refine ret_then ?_
            refine ret_in ?_
            refine ret_then ?_
            obtain rfl := Option.some.inj H
            refine ret1 S0 rfl rfl ?_
            exact ⟨rfl, Hq⟩
          · replace H := (if_neg z11h).symm.trans H
            refine w_false S0 rfl (Bool.eq_false_iff.mpr z11h) ?_
            refine w_skip ?_
            refine nr_in ?_
            refine nr_then ?_
            refine w_region ?_
            refine r_pures [_, _, _] S0 rfl ?_
            clear S0; intro a0 S0
            refine wl_nil ?_
            refine nr_then ?_
            exact ⟨(IntKind.i64.wrap (z2x + 1)), H, S0.sub ⟨rfl, rfl, trivial⟩, Hq⟩
      · replace H := (if_neg z3h).symm.trans H
        refine w_false S0 rfl (decide_eq_false z3h) ?_
        refine w_exit ?_
        refine ex_then ?_
        refine ex_then ?_
        refine ex_in ?_
        refine nr_then ?_
        refine w_seq ?_
        refine w_seq ?_
        refine w_region ?_
        refine r_pures [_] S0 rfl ?_
        clear S0; intro a0 S0
        refine wl_nil ?_
        refine nr_then ?_
        obtain ⟨v2, H, HU2⟩ := Option.bind_eq_some_iff.mp H
        refine w_cutT (fun a w => v2 = (Sum.inr (())) ∧ Sl 62 [] [] a ∧ HS W0 [isH X] w) ?_ ?_
        · skip
          refine w_block ?_
          refine w_loop (fun kq a w => ∃ z12x, waybillref12_Check.l1 kq x_l z12x = some v2 ∧ Sl 62 [] [(0, .slice A0 x_l.length c0), (4, .int .i64 z12x)] a ∧ HS W0 [isH X] w) _ ⟨1, H, S0.sub ⟨rfl, rfl, trivial⟩, Hq⟩ ?_
          clear H Hq S0
          rintro k1 a w ⟨z12x, H, S0, Hq⟩
          cases k1 with
          | zero => simp [waybillref12_Check.l1] at H
          | succ k1 =>
            refine ⟨k1, rfl, ?_⟩
            rw [waybillref12_Check.l1] at H
            refine w_seq ?_
            refine w_seq ?_
            refine w_region ?_
            refine r_pures [_, _] S0 rfl ?_
            clear S0; intro a0 S0
            refine r_len S0 rfl sl22 rfl ?_
            clear S0; intro a0 S0
            refine r_pures [_] S0 rfl ?_
            clear S0; intro a0 S0
            refine wl_nil ?_
            refine nr_then ?_
            by_cases z13h : z12x < (x_l.length : Int)
            · replace H := (if_pos z13h).symm.trans H
              refine w_true S0 rfl (decide_eq_true z13h) ?_
              refine w_skip ?_
              refine nr_then ?_
              refine w_seq ?_
              refine w_block ?_
              refine w_seq ?_
              refine w_draw TryM.mixed (.pu 0 (.pu 1 (.pu 2 (.pu 3 (.pu 5 (.pu 6 (.pu 7 (.pu 8 (.pu 9 (.rd 4 (.rd 10 (.pu 11 .done)))))))))))) (by kernel_rfl) rfl ?_
              replace Hq := Hq.drew
              refine st_pures [0, 1] S0 rfl ?_
              intro az14q Sz14q
              by_cases z15h : 0 ≤ z12x
              · replace H := (if_pos z15h).symm.trans H
                obtain ⟨z16b, z17o, rfl⟩ := (isH_rd [] Hq HR0).at (by omega)
                refine st_pu Sz14q rfl (g_none rfl) rfl rfl (fun _ => y_index Sz14q rfl rfl sl22 ti36 z15h z13h) ?_
                intro az18q Sz18q
                refine st_pu Sz18q rfl (g_none rfl) rfl rfl (fun _ => y_fieldAddr Sz18q rfl fo36x0 (z17o + Int.toNat z12x * 2 + 0) rfl) ?_
                intro az19q Sz19q
                refine st_pures [5, 6, 7] Sz19q rfl ?_
                intro az20q Sz20q
                by_cases z21h : 0 ≤ (IntKind.i64.wrap (z12x - 1))
                · replace H := (if_pos z21h).symm.trans H
                  by_cases z22h : (IntKind.i64.wrap (z12x - 1)) < (x_l.length : Int)
                  · replace H := (if_pos z22h).symm.trans H
                    refine st_pu Sz20q rfl (g_none rfl) rfl rfl (fun _ => y_index Sz20q rfl rfl sl22 ti36 z21h z22h) ?_
                    intro az23q Sz23q
                    refine st_pu Sz23q rfl (g_none rfl) rfl rfl (fun _ => y_fieldAddr Sz23q rfl fo36x0 (z17o + Int.toNat (IntKind.i64.wrap (z12x - 1)) * 2 + 0) rfl) ?_
                    intro az24q Sz24q
                    refine st_rd Sz24q rfl (g_none rfl) rfl rfl (y_elS Sz24q (isH_rd [] Hq HR0) z15h z13h rfl ti3 _ rfl) ?_
                    intro az25q Sz25q
                    refine st_rd Sz25q rfl (g_none rfl) rfl rfl (y_elS Sz25q (isH_rd [] Hq HR0) z21h z22h rfl ti3 _ rfl) ?_
                    intro az26q Sz26q
                    refine st_pures [11] Sz26q rfl ?_
                    intro az27q Sz27q
                    refine st_nil ?_
                    replace S0 := Sz27q
                    refine nr_then ?_
                    by_cases z28h : ((rd e_api_Backend x_l z12x).ID) ≤ ((rd e_api_Backend x_l (IntKind.i64.wrap (z12x - 1))).ID)
                    · replace H := (if_pos z28h).symm.trans H
                      refine w_true S0 rfl (decide_eq_true z28h) ?_
                      refine w_seq ?_
                      refine w_region ?_
                      refine r_pures [_] S0 rfl ?_
                      clear S0; intro a0 S0
                      refine wl_nil ?_
                      refine nr_then ?_
                      refine w_ret ?_
                      refine ret_in ?_
                      refine ret_then ?_
                      refine ret_then ?_
                      refine ret_in ?_
                      refine ret_then ?_
                      obtain rfl := Option.some.inj H
                      have H := HU2; clear HU2; dsimp only at H
                      refine ret_then ?_
                      obtain rfl := Option.some.inj H
                      refine ret1 S0 rfl rfl ?_
                      exact ⟨rfl, Hq⟩
                    · replace H := (if_neg z28h).symm.trans H
                      refine w_false S0 rfl (decide_eq_false z28h) ?_
                      refine w_skip ?_
                      refine nr_in ?_
                      refine nr_then ?_
                      refine w_region ?_
                      refine r_pures [_, _, _] S0 rfl ?_
                      clear S0; intro a0 S0
                      refine wl_nil ?_
                      refine nr_then ?_
                      exact ⟨(IntKind.i64.wrap (z12x + 1)), H, S0.sub ⟨rfl, rfl, trivial⟩, Hq⟩
                  · replace H := (if_neg z22h).symm.trans H
                    exact nomatch H
                · replace H := (if_neg z21h).symm.trans H
                  exact nomatch H
              · replace H := (if_neg z15h).symm.trans H
                exact nomatch H
            · replace H := (if_neg z13h).symm.trans H
              refine w_false S0 rfl (decide_eq_false z13h) ?_
              refine w_exit ?_
              refine ex_then ?_
              refine ex_then ?_
              refine ex_in ?_
              refine nr_then ?_
              obtain rfl := Option.some.inj H
              exact ⟨rfl, S0.sub trivial, Hq⟩
        · clear S0; rintro a w ⟨rfl, S0, Hq⟩
          have H := HU2; clear HU2; dsimp only at H
          refine nr_then ?_
          refine w_seq ?_
          refine w_region ?_
          refine r_pures [_] S0 rfl ?_
          clear S0; intro a0 S0
          refine wl_nil ?_
          refine nr_then ?_
          refine w_ret ?_
          obtain rfl := Option.some.inj H
          refine ret1 S0 rfl rfl ?_
          exact ⟨rfl, Hq⟩

end Go.Proofs.Ytmdpjijafejgpaa.M

/- waybill/waybillref10.times: a plain function, and that the machine's call comes to it: printed by a program of the session's own. -/
set_option linter.unusedVariables false
set_option linter.unusedSimpArgs false
namespace Go.Proofs.Ytmdpjijafejgpaa.M
open Go Go.Proofs.Ytmdpjijafejgpaa.Sl
/-! ### waybill/waybillref10.times: function 55 -/
def waybillref10_times.l0 : Nat → Int → Int → Int → Int → Option (Int)
  | 0, _, _, _, _ => none
  | k + 1, x_a, x_b, z2x, z3x => if z3x < 64 then (if z3x < 0 then (none) else (((if (bt_and .u64 (sh_shr .u64 x_b z3x) 1) = 1 then (some (IntKind.u64.wrap (z2x + (sh_shl .u64 x_a z3x)))) else (some z2x)) : Option (Int)).bind fun z6x => (waybillref10_times.l0 k x_a x_b z6x (IntKind.i64.wrap (z3x + 1))))) else (some z2x)
def waybillref10_times.f (k : Nat) (x_a : Int) (x_b : Int) : Option (Int) := (((waybillref10_times.l0 k x_a x_b 0 0)) : Option (Int)).bind fun z1x => (some z1x)
set_option maxRecDepth 100000 in
set_option maxHeartbeats 4000000 in
theorem waybillref10_times.calls (k : Nat) (x_a : Int) (x_b : Int) (W0 : World) (X : Heap)  (Hq : HS W0 [isH X] W0) (r : Int) (H : waybillref10_times.f k x_a x_b = some r) :
    Calls Try.prog 55 #[.int .u64 x_a, .int .u64 x_b] W0 (fun e w => e = .returned (.int .u64 r) ∧ HS W0 [isH X] w) := by
  rw [waybillref10_times.f] at H
  refine calls_in Try.func55 rfl rfl ?_
  intro a0 S0
  refine w_seq ?_
  refine w_region ?_
  refine r_pures [_] S0 rfl ?_
  clear S0; intro a0 S0
  refine wl_nil ?_
  refine nr_then ?_
  refine w_seq ?_
  refine w_region ?_
  refine r_pures [_] S0 rfl ?_
  clear S0; intro a0 S0
  refine wl_nil ?_
  refine nr_then ?_
  refine w_seq ?_
  refine w_seq ?_
  refine w_region ?_
  refine r_pures [_] S0 rfl ?_
  clear S0; intro a0 S0
  refine wl_nil ?_
  refine nr_then ?_
  obtain ⟨z1x, H, HU1⟩ := Option.bind_eq_some_iff.mp H
  refine w_cutT (fun a w => Sl 22 [] [(5, .int .u64 z1x)] a ∧ HS W0 [isH X] w) ?_ ?_
  · skip
    refine w_block ?_
    refine w_loop (fun kq a w => ∃ z2x z3x, waybillref10_times.l0 kq x_a x_b z2x z3x = some z1x ∧ Sl 22 [] [(0, .int .u64 x_a), (1, .int .u64 x_b), (5, .int .u64 z2x), (6, .int .i64 z3x)] a ∧ HS W0 [isH X] w) _ ⟨0, 0, H, S0.sub ⟨rfl, rfl, rfl, rfl, trivial⟩, Hq⟩ ?_
    clear H Hq S0
    rintro k0 a w ⟨z2x, z3x, H, S0, Hq⟩
    cases k0 with
    | zero => simp [waybillref10_times.l0] at H
    | succ k0 =>
      refine ⟨k0, rfl, ?_⟩
      rw [waybillref10_times.l0] at H
      refine w_seq ?_
      refine w_seq ?_
      refine w_region ?_
      refine r_pures [_, _] S0 rfl ?_
      clear S0; intro a0 S0
      refine wl_nil ?_
      refine nr_then ?_
      by_cases z4h : z3x < 64
      · replace H := (if_pos z4h).symm.trans H
        refine w_true S0 rfl (decide_eq_true z4h) ?_
        refine w_skip ?_
        refine nr_then ?_
        refine w_seq ?_
        refine w_block ?_
        refine w_seq ?_
        refine w_region ?_
        refine r_pures [_, _] S0 rfl ?_
        clear S0; intro a0 S0
        by_cases z5h : z3x < 0
        · replace H := (if_pos z5h).symm.trans H
          exact nomatch H
        · replace H := (if_neg z5h).symm.trans H
          refine r_shr' S0 rfl rfl z5h rfl ?_
          clear S0; intro a0 S0
          refine r_pures [_, _] S0 rfl ?_
          clear S0; intro a0 S0
          refine wl_nil ?_
          refine nr_then ?_
          obtain ⟨z6x, H, HU2⟩ := Option.bind_eq_some_iff.mp H
          refine w_cutT (fun a w => Sl 22 [] [(0, .int .u64 x_a), (1, .int .u64 x_b), (5, .int .u64 z6x), (6, .int .i64 z3x)] a ∧ HS W0 [isH X] w) ?_ ?_
          · skip
            by_cases z7h : (bt_and .u64 (sh_shr .u64 x_b z3x) 1) = 1
            · replace H := (if_pos z7h).symm.trans H
              refine w_true S0 rfl (decide_eq_true z7h) ?_
              refine w_region ?_
              refine r_pures [_, _, _] S0 rfl ?_
              clear S0; intro a0 S0
              refine r_shl' S0 rfl rfl z5h rfl ?_
              clear S0; intro a0 S0
              refine r_pures [_, _] S0 rfl ?_
              clear S0; intro a0 S0
              refine wl_nil ?_
              refine nr_then ?_
              obtain rfl := Option.some.inj H
              exact ⟨S0.sub ⟨rfl, rfl, rfl, rfl, trivial⟩, Hq⟩
            · replace H := (if_neg z7h).symm.trans H
              refine w_false S0 rfl (decide_eq_false z7h) ?_
              refine w_skip ?_
              refine nr_then ?_
              obtain rfl := Option.some.inj H
              exact ⟨S0.sub ⟨rfl, rfl, rfl, rfl, trivial⟩, Hq⟩
          · clear S0; rintro a w ⟨S0, Hq⟩
            have H := HU2; clear HU2
            refine nr_in ?_
            refine nr_then ?_
            refine w_region ?_
            refine r_pures [_, _, _] S0 rfl ?_
            clear S0; intro a0 S0
            refine wl_nil ?_
            refine nr_then ?_
            exact ⟨z6x, (IntKind.i64.wrap (z3x + 1)), H, S0.sub ⟨rfl, rfl, rfl, rfl, trivial⟩, Hq⟩
      · replace H := (if_neg z4h).symm.trans H
        refine w_false S0 rfl (decide_eq_false z4h) ?_
        refine w_exit ?_
        refine ex_then ?_
        refine ex_then ?_
        refine ex_in ?_
        refine nr_then ?_
        obtain rfl := Option.some.inj H
        exact ⟨S0.sub ⟨rfl, trivial⟩, Hq⟩
  · clear S0; rintro a w ⟨S0, Hq⟩
    have H := HU1; clear HU1
    refine nr_then ?_
    refine w_seq ?_
    refine w_region ?_
    refine r_pures [_, _] S0 rfl ?_
    clear S0; intro a0 S0
    refine wl_nil ?_
    refine nr_then ?_
    refine w_ret ?_
    obtain rfl := Option.some.inj H
    refine ret1 S0 rfl rfl ?_
    exact ⟨rfl, Hq⟩

end Go.Proofs.Ytmdpjijafejgpaa.M

/- waybill/waybillref10.Mix: a plain function, and that the machine's call comes to it: printed by a program of the session's own. -/
set_option linter.unusedVariables false
set_option linter.unusedSimpArgs false
namespace Go.Proofs.Ytmdpjijafejgpaa.M
open Go Go.Proofs.Ytmdpjijafejgpaa.Sl
/-! ### waybill/waybillref10.Mix: function 40 -/
def waybillref10_Mix.f (k : Nat) (x_x : Int) : Option (Int) := (waybillref10_times.f k (bt_xor .u64 x_x (sh_shr .u64 x_x 33)) 18397679294719823053).bind fun z2t => ((waybillref10_times.f k (bt_xor .u64 z2t (sh_shr .u64 z2t 33)) 14181476777654086739).bind fun z4t => (some (bt_xor .u64 z4t (sh_shr .u64 z4t 33))))
set_option maxRecDepth 100000 in
set_option maxHeartbeats 4000000 in
theorem waybillref10_Mix.calls (k : Nat) (x_x : Int) (W0 : World) (X : Heap)  (Hq : HS W0 [isH X] W0) (r : Int) (H : waybillref10_Mix.f k x_x = some r) :
    Calls Try.prog 40 #[.int .u64 x_x] W0 (fun e w => e = .returned (.int .u64 r) ∧ HS W0 [isH X] w) := by
  rw [waybillref10_Mix.f] at H
  refine calls_in Try.func40 rfl rfl ?_
  intro a0 S0
  refine w_seq ?_
  refine w_region ?_
  refine r_pures [_] S0 rfl ?_
  clear S0; intro a0 S0
  refine wl_nil ?_
  refine nr_then ?_
  refine w_seq ?_
  refine w_region ?_
  refine r_pures [_, _] S0 rfl ?_
  clear S0; intro a0 S0
  refine r_shr' S0 rfl rfl (by decide) rfl ?_
  clear S0; intro a0 S0
  refine r_pures [_] S0 rfl ?_
  clear S0; intro a0 S0
  obtain ⟨Xz1, HXz1, HPz1, HBz1⟩ := call_frame [] Hq
  dsimp only [List.cons_append, List.nil_append] at HXz1 HBz1
  obtain ⟨z2t, Hc, H⟩ := Option.bind_eq_some_iff.mp H
  refine r_call S0 rfl rfl goes55 rfl ?_
  refine (waybillref10_times.calls _ (bt_xor .u64 x_x (sh_shr .u64 x_x 33)) 18397679294719823053 _ _  HXz1 z2t Hc).mono ?_
  rintro e w ⟨rfl, Hq'⟩
  have Hq : HS W0 [isH X] w := HBz1 [] _ Hq'
  clear HXz1 HPz1 HBz1 Hq'
  refine ⟨.int .u64 z2t, rfl, ?_⟩; clear S0; intro a0 S0
  refine r_pures [_] S0 rfl ?_
  clear S0; intro a0 S0
  refine wl_nil ?_
  refine nr_then ?_
  refine w_seq ?_
  refine w_region ?_
  refine r_pures [_, _] S0 rfl ?_
  clear S0; intro a0 S0
  refine r_shr' S0 rfl rfl (by decide) rfl ?_
  clear S0; intro a0 S0
  refine r_pures [_] S0 rfl ?_
  clear S0; intro a0 S0
  obtain ⟨Xz3, HXz3, HPz3, HBz3⟩ := call_frame [] Hq
  dsimp only [List.cons_append, List.nil_append] at HXz3 HBz3
  obtain ⟨z4t, Hc, H⟩ := Option.bind_eq_some_iff.mp H
  refine r_call S0 rfl rfl goes55 rfl ?_
  refine (waybillref10_times.calls _ (bt_xor .u64 z2t (sh_shr .u64 z2t 33)) 14181476777654086739 _ _  HXz3 z4t Hc).mono ?_
  rintro e w ⟨rfl, Hq'⟩
  have Hq : HS W0 [isH X] w := HBz3 [] _ Hq'
  clear HXz3 HPz3 HBz3 Hq'
  refine ⟨.int .u64 z4t, rfl, ?_⟩; clear S0; intro a0 S0
  refine r_pures [_] S0 rfl ?_
  clear S0; intro a0 S0
  refine wl_nil ?_
  refine nr_then ?_
  refine w_seq ?_
  refine w_region ?_
  refine r_pures [_, _] S0 rfl ?_
  clear S0; intro a0 S0
  refine r_shr' S0 rfl rfl (by decide) rfl ?_
  clear S0; intro a0 S0
  refine r_pures [_, _] S0 rfl ?_
  clear S0; intro a0 S0
  refine wl_nil ?_
  refine nr_then ?_
  refine w_ret ?_
  obtain rfl := Option.some.inj H
  refine ret1 S0 rfl rfl ?_
  exact ⟨rfl, Hq⟩

end Go.Proofs.Ytmdpjijafejgpaa.M

/- waybill/waybillref10.Ints: a plain function, and that the machine's call comes to it: printed by a program of the session's own. -/
set_option linter.unusedVariables false
set_option linter.unusedSimpArgs false
namespace Go.Proofs.Ytmdpjijafejgpaa.M
open Go Go.Proofs.Ytmdpjijafejgpaa.Sl
/-! ### waybill/waybillref10.Ints: function 24 -/
def waybillref10_Ints.l0 : Nat → (List Int) → Int → Int → Option (Int)
  | 0, _, _, _ => none
  | k + 1, x_l, z2x, z3x => if z3x < (x_l.length : Int) then (if 0 ≤ z3x then ((waybillref10_Mix.f k (IntKind.u64.wrap (z2x + (IntKind.u64.wrap (rd e_i64 x_l z3x))))).bind fun z9t => (waybillref10_Ints.l0 k x_l z9t (IntKind.i64.wrap (z3x + 1)))) else (none)) else (some z2x)
def waybillref10_Ints.f (k : Nat) (x_seed : Int) (x_l : List Int) : Option (Int) := (((waybillref10_Ints.l0 k x_l x_seed 0)) : Option (Int)).bind fun z1x => (some z1x)
set_option maxRecDepth 100000 in
set_option maxHeartbeats 4000000 in
theorem waybillref10_Ints.calls (k : Nat) (x_seed : Int) (A1 : Option Addr) (n1 c1 : Nat) (x_l : List Int) (W0 : World) (X : Heap) (HR1 : Rd e_i64 X A1 n1 c1 x_l) (Hq : HS W0 [isH X] W0) (r : Int) (H : waybillref10_Ints.f k x_seed x_l = some r) :
    Calls Try.prog 24 #[.int .u64 x_seed, .slice A1 n1 c1] W0 (fun e w => e = .returned (.int .u64 r) ∧ HS W0 [isH X] w) := by
  obtain rfl := HR1.1
  rw [waybillref10_Ints.f] at H
  refine calls_in Try.func24 rfl rfl ?_
  intro a0 S0
  refine w_seq ?_
  refine w_region ?_
  refine r_pures [_] S0 rfl ?_
  clear S0; intro a0 S0
  refine wl_nil ?_
  refine nr_then ?_
  refine w_seq ?_
  refine w_seq ?_
  refine w_region ?_
  refine r_pures [_] S0 rfl ?_
  clear S0; intro a0 S0
  refine wl_nil ?_
  refine nr_then ?_
  obtain ⟨z1x, H, HU1⟩ := Option.bind_eq_some_iff.mp H
  refine w_cutT (fun a w => Sl 21 [] [(0, .int .u64 z1x)] a ∧ HS W0 [isH X] w) ?_ ?_
  · skip
    refine w_block ?_
    refine w_loop (fun kq a w => ∃ z2x z3x, waybillref10_Ints.l0 kq x_l z2x z3x = some z1x ∧ Sl 21 [] [(0, .int .u64 z2x), (1, .slice A1 x_l.length c1), (5, .int .i64 z3x)] a ∧ HS W0 [isH X] w) _ ⟨x_seed, 0, H, S0.sub ⟨rfl, rfl, rfl, trivial⟩, Hq⟩ ?_
    clear H Hq S0
    rintro k0 a w ⟨z2x, z3x, H, S0, Hq⟩
    cases k0 with
    | zero => simp [waybillref10_Ints.l0] at H
    | succ k0 =>
      refine ⟨k0, rfl, ?_⟩
      rw [waybillref10_Ints.l0] at H
      refine w_seq ?_
      refine w_seq ?_
      refine w_region ?_
      refine r_pures [_, _] S0 rfl ?_
      clear S0; intro a0 S0
      refine r_len S0 rfl sl32 rfl ?_
      clear S0; intro a0 S0
      refine r_pures [_] S0 rfl ?_
      clear S0; intro a0 S0
      refine wl_nil ?_
      refine nr_then ?_
      by_cases z4h : z3x < (x_l.length : Int)
      · replace H := (if_pos z4h).symm.trans H
        refine w_true S0 rfl (decide_eq_true z4h) ?_
        refine w_skip ?_
        refine nr_then ?_
        refine w_seq ?_
        refine w_block ?_
        refine w_region ?_
        refine r_pures [_, _, _] S0 rfl ?_
        clear S0; intro a0 S0
        by_cases z5h : 0 ≤ z3x
        · replace H := (if_pos z5h).symm.trans H
          obtain ⟨z6b, z7o, rfl⟩ := (isH_rd [] Hq HR1).at (by omega)
          refine r_index S0 rfl rfl sl32 ti3 z5h z4h rfl ?_
          clear S0; intro a0 S0
          refine r_elS S0 (isH_rd [] Hq HR1) z5h z4h rfl ti3 _ rfl rfl ?_
          clear S0; intro a0 S0
          refine r_conv S0 rfl und3 und23 rfl ?_
          clear S0; intro a0 S0
          refine r_pures [_] S0 rfl ?_
          clear S0; intro a0 S0
          obtain ⟨Xz8, HXz8, HPz8, HBz8⟩ := call_frame [] Hq
          dsimp only [List.cons_append, List.nil_append] at HXz8 HBz8
          obtain ⟨z9t, Hc, H⟩ := Option.bind_eq_some_iff.mp H
          refine r_call S0 rfl rfl goes40 rfl ?_
          refine (waybillref10_Mix.calls _ (IntKind.u64.wrap (z2x + (IntKind.u64.wrap (rd e_i64 x_l z3x)))) _ _  HXz8 z9t Hc).mono ?_
          rintro e w ⟨rfl, Hq'⟩
          have Hq : HS W0 [isH X] w := HBz8 [] _ Hq'
          clear HXz8 HPz8 HBz8 Hq'
          refine ⟨.int .u64 z9t, rfl, ?_⟩; clear S0; intro a0 S0
          refine r_pures [_] S0 rfl ?_
          clear S0; intro a0 S0
          refine wl_nil ?_
          refine nr_in ?_
          refine nr_then ?_
          refine w_region ?_
          refine r_pures [_, _, _] S0 rfl ?_
          clear S0; intro a0 S0
          refine wl_nil ?_
          refine nr_then ?_
          exact ⟨z9t, (IntKind.i64.wrap (z3x + 1)), H, S0.sub ⟨rfl, rfl, rfl, trivial⟩, Hq⟩
        · replace H := (if_neg z5h).symm.trans H
          exact nomatch H
      · replace H := (if_neg z4h).symm.trans H
        refine w_false S0 rfl (decide_eq_false z4h) ?_
        refine w_exit ?_
        refine ex_then ?_
        refine ex_then ?_
        refine ex_in ?_
        refine nr_then ?_
        obtain rfl := Option.some.inj H
        exact ⟨S0.sub ⟨rfl, trivial⟩, Hq⟩
  · clear S0; rintro a w ⟨S0, Hq⟩
    have H := HU1; clear HU1
    refine nr_then ?_
    refine w_seq ?_
    refine w_region ?_
    refine r_pures [_, _] S0 rfl ?_
    clear S0; intro a0 S0
    refine wl_nil ?_
    refine nr_then ?_
    refine w_ret ?_
    obtain rfl := Option.some.inj H
    refine ret1 S0 rfl rfl ?_
    exact ⟨rfl, Hq⟩

end Go.Proofs.Ytmdpjijafejgpaa.M

/- waybill/waybillref12.behind: a plain function, and that the machine's call comes to it: printed by a program of the session's own. -/
set_option linter.unusedVariables false
set_option linter.unusedSimpArgs false
namespace Go.Proofs.Ytmdpjijafejgpaa.M
open Go Go.Proofs.Ytmdpjijafejgpaa.Sl
/-! ### waybill/waybillref12.behind: function 32 -/
def waybillref12_behind.f (x_a : api_Point) (x_b : api_Point) : Option (Bool) := ((if x_b.Hash < x_a.Hash then (some true) else (if x_a.Hash = x_b.Hash then (some (decide (x_b.ID < x_a.ID))) else (some false))) : Option (Bool)).bind fun z3x => (some z3x)
set_option maxRecDepth 100000 in
set_option maxHeartbeats 4000000 in
theorem waybillref12_behind.calls (x_a : api_Point) (x_b : api_Point) (W0 : World) (X : Heap)  (Hq : HS W0 [isH X] W0) (r : Bool) (H : waybillref12_behind.f x_a x_b = some r) :
    Calls Try.prog 32 #[.agg #[.int .u64 x_a.Hash, .int .i64 x_a.ID], .agg #[.int .u64 x_b.Hash, .int .i64 x_b.ID]] W0 (fun e w => e = .returned (.bool r) ∧ HS W0 [isH X] w) := by
  rw [waybillref12_behind.f] at H
  refine calls_in Try.func32 rfl rfl ?_
  intro a0 S0
  refine w_seq ?_
  refine w_region ?_
  refine r_box (vs := [.int .u64 x_a.Hash, .int .i64 x_a.ID]) S0 Hq rfl rfl rfl ?_
  clear S0 Hq; intro z1b a0 w S0 Hq
  refine r_box (vs := [.int .u64 x_b.Hash, .int .i64 x_b.ID]) S0 Hq rfl rfl rfl ?_
  clear S0 Hq; intro z2b a0 w S0 Hq
  refine r_pures [_] S0 rfl ?_
  clear S0; intro a0 S0
  refine wl_nil ?_
  refine nr_then ?_
  refine w_seq ?_
  obtain ⟨z3x, H, HU1⟩ := Option.bind_eq_some_iff.mp H
  refine w_cutT (fun a w => Sl 24 [] [(4, .bool z3x)] a ∧ HS W0 [isH X] w) ?_ ?_
  · skip
    refine w_region ?_
    refine r_fieldAddr S0 rfl fo39x0 (0) rfl rfl ?_
    clear S0; intro a0 S0
    refine r_ldS [_] S0 Hq rfl ti23 _ rfl rfl ?_
    clear S0; intro a0 S0
    refine r_fieldAddr S0 rfl fo39x0 (0) rfl rfl ?_
    clear S0; intro a0 S0
    refine r_ldS [] S0 Hq rfl ti23 _ rfl rfl ?_
    clear S0; intro a0 S0
    refine r_pures [_, _] S0 rfl ?_
    clear S0; intro a0 S0
    by_cases z4h : x_b.Hash < x_a.Hash
    · replace H := (if_pos z4h).symm.trans H
      refine r_off S0 rfl rfl rfl (decide_eq_true z4h) ?_ rfl
      clear S0; intro a0 S0
      refine r_off S0 rfl rfl rfl (decide_eq_true z4h) ?_ rfl
      clear S0; intro a0 S0
      refine r_off S0 rfl rfl rfl (decide_eq_true z4h) ?_ rfl
      clear S0; intro a0 S0
      refine r_off S0 rfl rfl rfl (decide_eq_true z4h) ?_ rfl
      clear S0; intro a0 S0
      refine r_off S0 rfl rfl rfl (decide_eq_true z4h) ?_ rfl
      clear S0; intro a0 S0
      refine r_off S0 rfl rfl rfl (decide_eq_true z4h) ?_ rfl
      clear S0; intro a0 S0
      refine r_offU S0 rfl rfl rfl ?_ rfl
      clear S0; intro a0 S0
      refine r_offU S0 rfl rfl rfl ?_ rfl
      clear S0; intro a0 S0
      refine r_offU S0 rfl rfl rfl ?_ rfl
      clear S0; intro a0 S0
      refine r_offU S0 rfl rfl rfl ?_ rfl
      clear S0; intro a0 S0
      refine r_offU S0 rfl rfl rfl ?_ rfl
      clear S0; intro a0 S0
      refine r_off S0 rfl rfl rfl (decide_eq_true z4h) ?_ rfl
      clear S0; intro a0 S0
      refine r_pick S0 rfl (decide_eq_true z4h) _ rfl rfl ?_
      clear S0; intro a0 S0
      refine r_pures [_] S0 rfl ?_
      clear S0; intro a0 S0
      refine wl_nil ?_
      refine nr_then ?_
      replace Hq := HS.pull [_, _] Hq
      dsimp only [List.cons_append, List.nil_append] at Hq
      replace Hq := HS.keep [_] Hq
      obtain rfl := Option.some.inj H
      exact ⟨S0.sub ⟨rfl, trivial⟩, Hq⟩
    · replace H := (if_neg z4h).symm.trans H
      refine r_on S0 rfl rfl rfl (decide_eq_false z4h) ?_
      refine r_fieldAddr S0 rfl fo39x0 (0) rfl rfl ?_
      clear S0; intro a0 S0
      refine r_on S0 rfl rfl rfl (decide_eq_false z4h) ?_
      refine r_ldS [_] S0 Hq rfl ti23 _ rfl rfl ?_
      clear S0; intro a0 S0
      refine r_on S0 rfl rfl rfl (decide_eq_false z4h) ?_
      refine r_fieldAddr S0 rfl fo39x0 (0) rfl rfl ?_
      clear S0; intro a0 S0
      refine r_on S0 rfl rfl rfl (decide_eq_false z4h) ?_
      refine r_ldS [] S0 Hq rfl ti23 _ rfl rfl ?_
      clear S0; intro a0 S0
      refine r_on S0 rfl rfl rfl (decide_eq_false z4h) ?_
      refine r_pures [_] S0 rfl ?_
      clear S0; intro a0 S0
      refine r_on S0 rfl rfl rfl (decide_eq_false z4h) ?_
      refine r_pures [_] S0 rfl ?_
      clear S0; intro a0 S0
      by_cases z5h : x_a.Hash = x_b.Hash
      · replace H := (if_pos z5h).symm.trans H
        refine r_on S0 rfl rfl rfl (decide_eq_true z5h) ?_
        refine r_fieldAddr S0 rfl fo39x1 (1) rfl rfl ?_
        clear S0; intro a0 S0
        refine r_on S0 rfl rfl rfl (decide_eq_true z5h) ?_
        refine r_ldS [_] S0 Hq rfl ti3 _ rfl rfl ?_
        clear S0; intro a0 S0
        refine r_on S0 rfl rfl rfl (decide_eq_true z5h) ?_
        refine r_fieldAddr S0 rfl fo39x1 (1) rfl rfl ?_
        clear S0; intro a0 S0
        refine r_on S0 rfl rfl rfl (decide_eq_true z5h) ?_
        refine r_ldS [] S0 Hq rfl ti3 _ rfl rfl ?_
        clear S0; intro a0 S0
        refine r_on S0 rfl rfl rfl (decide_eq_true z5h) ?_
        refine r_pures [_] S0 rfl ?_
        clear S0; intro a0 S0
        refine r_on S0 rfl rfl rfl (decide_eq_false z4h) ?_
        refine r_pick S0 rfl (decide_eq_true z5h) _ rfl rfl ?_
        clear S0; intro a0 S0
        refine r_pick S0 rfl (decide_eq_false z4h) _ rfl rfl ?_
        clear S0; intro a0 S0
        refine r_pures [_] S0 rfl ?_
        clear S0; intro a0 S0
        refine wl_nil ?_
        refine nr_then ?_
        replace Hq := HS.pull [_, _] Hq
        dsimp only [List.cons_append, List.nil_append] at Hq
        replace Hq := HS.keep [_] Hq
        obtain rfl := Option.some.inj H
        exact ⟨S0.sub ⟨rfl, trivial⟩, Hq⟩
      · replace H := (if_neg z5h).symm.trans H
        refine r_off S0 rfl rfl rfl (decide_eq_false z5h) ?_ rfl
        clear S0; intro a0 S0
        refine r_off S0 rfl rfl rfl (decide_eq_false z5h) ?_ rfl
        clear S0; intro a0 S0
        refine r_off S0 rfl rfl rfl (decide_eq_false z5h) ?_ rfl
        clear S0; intro a0 S0
        refine r_off S0 rfl rfl rfl (decide_eq_false z5h) ?_ rfl
        clear S0; intro a0 S0
        refine r_off S0 rfl rfl rfl (decide_eq_false z5h) ?_ rfl
        clear S0; intro a0 S0
        refine r_on S0 rfl rfl rfl (decide_eq_false z4h) ?_
        refine r_pick S0 rfl (decide_eq_false z5h) _ rfl rfl ?_
        clear S0; intro a0 S0
        refine r_pick S0 rfl (decide_eq_false z4h) _ rfl rfl ?_
        clear S0; intro a0 S0
        refine r_pures [_] S0 rfl ?_
        clear S0; intro a0 S0
        refine wl_nil ?_
        refine nr_then ?_
        replace Hq := HS.pull [_, _] Hq
        dsimp only [List.cons_append, List.nil_append] at Hq
        replace Hq := HS.keep [_] Hq
        obtain rfl := Option.some.inj H
        exact ⟨S0.sub ⟨rfl, trivial⟩, Hq⟩
  · clear S0; rintro a w ⟨S0, Hq⟩
    have H := HU1; clear HU1
    refine nr_then ?_
    refine w_ret ?_
    obtain rfl := Option.some.inj H
    refine ret1 S0 rfl rfl ?_
    exact ⟨rfl, Hq⟩

end Go.Proofs.Ytmdpjijafejgpaa.M

