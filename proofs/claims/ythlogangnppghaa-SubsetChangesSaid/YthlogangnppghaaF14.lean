/- waybill/subset.Round: a plain function, and that the machine's call comes to it: printed by a program of the session's own. -/
import Derived.Test.YthlogangnppghaaK
set_option linter.unusedVariables false
set_option linter.unusedSimpArgs false
namespace Go.Proofs.Ythlogangnppghaa.M
open Go Go.Proofs.Ythlogangnppghaa.Sl
/-! ### waybill/subset.Round: function 14 -/
def subset_Round.f (x_n : Int) (x_client : Int) (x_size : Int) : Option (Int × Int × Int) := ((if x_n < 0 then (some true) else (if 32 < x_n then (some true) else (if x_client < 0 then (some true) else (if 1048576 < x_client then (some true) else (if x_size < 1 then (some true) else (some (decide (32 < x_size)))))))) : Option (Bool)).bind fun z1x => (if z1x = true then (some (0, 0, 4)) else (if x_n ≤ x_size then (some (0, 0, 0)) else (if x_size = 0 then (none) else (if (IntKind.i64.wrap (x_n.tdiv x_size)) = 0 then (none) else (some (IntKind.i64.wrap (x_client.tdiv (IntKind.i64.wrap (x_n.tdiv x_size))), x_client.tmod (IntKind.i64.wrap (x_n.tdiv x_size)), 0))))))
set_option maxRecDepth 100000 in
set_option maxHeartbeats 4000000 in
theorem subset_Round.calls (x_n : Int) (x_client : Int) (x_size : Int) (W0 : World) (X : Heap)  (Hq : HS W0 [isH X] W0) (r : Int × Int × Int) (H : subset_Round.f x_n x_client x_size = some r) :
    Calls Try.prog 14 #[.int .i64 x_n, .int .i64 x_client, .int .i64 x_size] W0 (fun e w => e = .returned (.tuple #[.int .i64 r.1, .int .i64 r.2.1, .int .i64 r.2.2]) ∧ HS W0 [isH X] w) := by
  rw [subset_Round.f] at H
  refine calls_in Try.func14 rfl rfl ?_
  intro a0 S0
  refine w_seq ?_
  refine w_region ?_
  refine r_pures [_, _, _] S0 rfl ?_
  clear S0; intro a0 S0
  refine wl_nil ?_
  refine nr_then ?_
  refine w_seq ?_
  refine w_seq ?_
  obtain ⟨z1x, H, HU1⟩ := Option.bind_eq_some_iff.mp H
  refine w_cutT (fun a w => Sl 44 [] [(0, .int .i64 x_n), (1, .int .i64 x_client), (2, .int .i64 x_size), (31, .bool z1x)] a ∧ HS W0 [isH X] w) ?_ ?_
  · skip
    refine w_region ?_
    refine r_pures [_, _, _] S0 rfl ?_
    clear S0; intro a0 S0
    by_cases z2h : x_n < 0
    · replace H := (if_pos z2h).symm.trans H
      refine r_off S0 rfl rfl rfl (decide_eq_true z2h) ?_ rfl
      clear S0; intro a0 S0
      refine r_off S0 rfl rfl rfl (decide_eq_true z2h) ?_ rfl
      clear S0; intro a0 S0
      refine r_pick S0 rfl (decide_eq_true z2h) _ rfl rfl ?_
      clear S0; intro a0 S0
      refine r_pures [_] S0 rfl ?_
      clear S0; intro a0 S0
      refine r_off S0 rfl rfl rfl rfl ?_ rfl
      clear S0; intro a0 S0
      refine r_off S0 rfl rfl rfl rfl ?_ rfl
      clear S0; intro a0 S0
      refine r_pick S0 rfl rfl _ rfl rfl ?_
      clear S0; intro a0 S0
      refine r_pures [_] S0 rfl ?_
      clear S0; intro a0 S0
      refine r_off S0 rfl rfl rfl rfl ?_ rfl
      clear S0; intro a0 S0
      refine r_off S0 rfl rfl rfl rfl ?_ rfl
      clear S0; intro a0 S0
      refine r_pick S0 rfl rfl _ rfl rfl ?_
      clear S0; intro a0 S0
      refine r_pures [_] S0 rfl ?_
      clear S0; intro a0 S0
      refine r_off S0 rfl rfl rfl rfl ?_ rfl
      clear S0; intro a0 S0
      refine r_off S0 rfl rfl rfl rfl ?_ rfl
      clear S0; intro a0 S0
      refine r_pick S0 rfl rfl _ rfl rfl ?_
      clear S0; intro a0 S0
      refine r_pures [_] S0 rfl ?_
      clear S0; intro a0 S0
      refine r_off S0 rfl rfl rfl rfl ?_ rfl
      clear S0; intro a0 S0
      refine r_off S0 rfl rfl rfl rfl ?_ rfl
      clear S0; intro a0 S0
      refine r_pick S0 rfl rfl _ rfl rfl ?_
      clear S0; intro a0 S0
      refine wl_nil ?_
      refine nr_then ?_
      obtain rfl := Option.some.inj H
      exact ⟨S0.sub ⟨rfl, rfl, rfl, rfl, trivial⟩, Hq⟩
    · replace H := (if_neg z2h).symm.trans H
      refine r_on S0 rfl rfl rfl (decide_eq_false z2h) ?_
      refine r_pures [_] S0 rfl ?_
      clear S0; intro a0 S0
      refine r_on S0 rfl rfl rfl (decide_eq_false z2h) ?_
      refine r_pures [_] S0 rfl ?_
      clear S0; intro a0 S0
      refine r_pick S0 rfl (decide_eq_false z2h) _ rfl rfl ?_
      clear S0; intro a0 S0
      refine r_pures [_] S0 rfl ?_
      clear S0; intro a0 S0
      by_cases z3h : 32 < x_n
      · replace H := (if_pos z3h).symm.trans H
        refine r_off S0 rfl rfl rfl (decide_eq_true z3h) ?_ rfl
        clear S0; intro a0 S0
        refine r_off S0 rfl rfl rfl (decide_eq_true z3h) ?_ rfl
        clear S0; intro a0 S0
        refine r_pick S0 rfl (decide_eq_true z3h) _ rfl rfl ?_
        clear S0; intro a0 S0
        refine r_pures [_] S0 rfl ?_
        clear S0; intro a0 S0
        refine r_off S0 rfl rfl rfl rfl ?_ rfl
        clear S0; intro a0 S0
        refine r_off S0 rfl rfl rfl rfl ?_ rfl
        clear S0; intro a0 S0
        refine r_pick S0 rfl rfl _ rfl rfl ?_
        clear S0; intro a0 S0
        refine r_pures [_] S0 rfl ?_
        clear S0; intro a0 S0
        refine r_off S0 rfl rfl rfl rfl ?_ rfl
        clear S0; intro a0 S0
        refine r_off S0 rfl rfl rfl rfl ?_ rfl
        clear S0; intro a0 S0
        refine r_pick S0 rfl rfl _ rfl rfl ?_
        clear S0; intro a0 S0
        refine r_pures [_] S0 rfl ?_
        clear S0; intro a0 S0
        refine r_off S0 rfl rfl rfl rfl ?_ rfl
        clear S0; intro a0 S0
        refine r_off S0 rfl rfl rfl rfl ?_ rfl
        clear S0; intro a0 S0
        refine r_pick S0 rfl rfl _ rfl rfl ?_
        clear S0; intro a0 S0
        refine wl_nil ?_
        refine nr_then ?_
        obtain rfl := Option.some.inj H
        exact ⟨S0.sub ⟨rfl, rfl, rfl, rfl, trivial⟩, Hq⟩
      · replace H := (if_neg z3h).symm.trans H
        refine r_on S0 rfl rfl rfl (decide_eq_false z3h) ?_
        refine r_pures [_] S0 rfl ?_
        clear S0; intro a0 S0
        refine r_on S0 rfl rfl rfl (decide_eq_false z3h) ?_
        refine r_pures [_] S0 rfl ?_
        clear S0; intro a0 S0
        refine r_pick S0 rfl (decide_eq_false z3h) _ rfl rfl ?_
        clear S0; intro a0 S0
        refine r_pures [_] S0 rfl ?_
        clear S0; intro a0 S0
        by_cases z4h : x_client < 0
        · replace H := (if_pos z4h).symm.trans H
          refine r_off S0 rfl rfl rfl (decide_eq_true z4h) ?_ rfl
          clear S0; intro a0 S0
          refine r_off S0 rfl rfl rfl (decide_eq_true z4h) ?_ rfl
          clear S0; intro a0 S0
          refine r_pick S0 rfl (decide_eq_true z4h) _ rfl rfl ?_
          clear S0; intro a0 S0
          refine r_pures [_] S0 rfl ?_
          clear S0; intro a0 S0
          refine r_off S0 rfl rfl rfl rfl ?_ rfl
          clear S0; intro a0 S0
          refine r_off S0 rfl rfl rfl rfl ?_ rfl
          clear S0; intro a0 S0
          refine r_pick S0 rfl rfl _ rfl rfl ?_
          clear S0; intro a0 S0
          refine r_pures [_] S0 rfl ?_
          clear S0; intro a0 S0
          refine r_off S0 rfl rfl rfl rfl ?_ rfl
          clear S0; intro a0 S0
          refine r_off S0 rfl rfl rfl rfl ?_ rfl
          clear S0; intro a0 S0
          refine r_pick S0 rfl rfl _ rfl rfl ?_
          clear S0; intro a0 S0
          refine wl_nil ?_
          refine nr_then ?_
          obtain rfl := Option.some.inj H
          exact ⟨S0.sub ⟨rfl, rfl, rfl, rfl, trivial⟩, Hq⟩
        · replace H := (if_neg z4h).symm.trans H
          refine r_on S0 rfl rfl rfl (decide_eq_false z4h) ?_
          refine r_pures [_] S0 rfl ?_
          clear S0; intro a0 S0
          refine r_on S0 rfl rfl rfl (decide_eq_false z4h) ?_
          refine r_pures [_] S0 rfl ?_
          clear S0; intro a0 S0
          refine r_pick S0 rfl (decide_eq_false z4h) _ rfl rfl ?_
          clear S0; intro a0 S0
          refine r_pures [_] S0 rfl ?_
          clear S0; intro a0 S0
          by_cases z5h : 1048576 < x_client
          · replace H := (if_pos z5h).symm.trans H
            refine r_off S0 rfl rfl rfl (decide_eq_true z5h) ?_ rfl
            clear S0; intro a0 S0
            refine r_off S0 rfl rfl rfl (decide_eq_true z5h) ?_ rfl
            clear S0; intro a0 S0
            refine r_pick S0 rfl (decide_eq_true z5h) _ rfl rfl ?_
            clear S0; intro a0 S0
            refine r_pures [_] S0 rfl ?_
            clear S0; intro a0 S0
            refine r_off S0 rfl rfl rfl rfl ?_ rfl
            clear S0; intro a0 S0
            refine r_off S0 rfl rfl rfl rfl ?_ rfl
            clear S0; intro a0 S0
            refine r_pick S0 rfl rfl _ rfl rfl ?_
            clear S0; intro a0 S0
            refine wl_nil ?_
            refine nr_then ?_
            obtain rfl := Option.some.inj H
            exact ⟨S0.sub ⟨rfl, rfl, rfl, rfl, trivial⟩, Hq⟩
          · replace H := (if_neg z5h).symm.trans H
            refine r_on S0 rfl rfl rfl (decide_eq_false z5h) ?_
            refine r_pures [_] S0 rfl ?_
            clear S0; intro a0 S0
            refine r_on S0 rfl rfl rfl (decide_eq_false z5h) ?_
            refine r_pures [_] S0 rfl ?_
            clear S0; intro a0 S0
            refine r_pick S0 rfl (decide_eq_false z5h) _ rfl rfl ?_
            clear S0; intro a0 S0
            refine r_pures [_] S0 rfl ?_
            clear S0; intro a0 S0
            by_cases z6h : x_size < 1
            · replace H := (if_pos z6h).symm.trans H
              refine r_off S0 rfl rfl rfl (decide_eq_true z6h) ?_ rfl
              clear S0; intro a0 S0
              refine r_off S0 rfl rfl rfl (decide_eq_true z6h) ?_ rfl
              clear S0; intro a0 S0
              refine r_pick S0 rfl (decide_eq_true z6h) _ rfl rfl ?_
              clear S0; intro a0 S0
              refine wl_nil ?_
              refine nr_then ?_
              obtain rfl := Option.some.inj H
              exact ⟨S0.sub ⟨rfl, rfl, rfl, rfl, trivial⟩, Hq⟩
            · replace H := (if_neg z6h).symm.trans H
              refine r_on S0 rfl rfl rfl (decide_eq_false z6h) ?_
              refine r_pures [_] S0 rfl ?_
              clear S0; intro a0 S0
              refine r_on S0 rfl rfl rfl (decide_eq_false z6h) ?_
              refine r_pures [_] S0 rfl ?_
              clear S0; intro a0 S0
              refine r_pick S0 rfl (decide_eq_false z6h) _ rfl rfl ?_
              clear S0; intro a0 S0
              refine wl_nil ?_
              refine nr_then ?_
              obtain rfl := Option.some.inj H
              exact ⟨S0.sub ⟨rfl, rfl, rfl, rfl, trivial⟩, Hq⟩
  · clear S0; rintro a w ⟨S0, Hq⟩
    have H := HU1; clear HU1
    refine nr_then ?_
    by_cases z7h : z1x = true
    · replace H := (if_pos z7h).symm.trans H
      refine w_true S0 rfl z7h ?_
      refine w_seq ?_
      refine w_region ?_
      refine r_pures [_, _, _] S0 rfl ?_
      clear S0; intro a0 S0
      refine wl_nil ?_
      refine nr_then ?_
      refine w_ret ?_
      refine ret_then ?_
      obtain rfl := Option.some.inj H
      refine ret3 S0 rfl rfl rfl rfl ?_
      exact ⟨rfl, Hq⟩
    · replace H := (if_neg z7h).symm.trans H
      refine w_false S0 rfl (Bool.eq_false_iff.mpr z7h) ?_
      refine w_skip ?_
      refine nr_then ?_
      refine w_seq ?_
      refine w_seq ?_
      refine w_region ?_
      refine r_pures [_, _, _] S0 rfl ?_
      clear S0; intro a0 S0
      refine wl_nil ?_
      refine nr_then ?_
      by_cases z8h : x_n ≤ x_size
      · replace H := (if_pos z8h).symm.trans H
        refine w_true S0 rfl (decide_eq_true z8h) ?_
        refine w_seq ?_
        refine w_region ?_
        refine r_pures [_, _, _] S0 rfl ?_
        clear S0; intro a0 S0
        refine wl_nil ?_
        refine nr_then ?_
        refine w_ret ?_
        refine ret_then ?_
        obtain rfl := Option.some.inj H
        refine ret3 S0 rfl rfl rfl rfl ?_
        exact ⟨rfl, Hq⟩
      · replace H := (if_neg z8h).symm.trans H
        refine w_false S0 rfl (decide_eq_false z8h) ?_
        refine w_skip ?_
        refine nr_then ?_
        refine w_seq ?_
        refine w_region ?_
        refine r_pures [_, _] S0 rfl ?_
        clear S0; intro a0 S0
        by_cases z9h : x_size = 0
        · replace H := (if_pos z9h).symm.trans H
          exact nomatch H
        · replace H := (if_neg z9h).symm.trans H
          refine r_quo S0 rfl rfl z9h rfl ?_
          clear S0; intro a0 S0
          refine r_pures [_] S0 rfl ?_
          clear S0; intro a0 S0
          refine wl_nil ?_
          refine nr_then ?_
          refine w_seq ?_
          refine w_draw TryM.mixed [.pu 0, .pu 1, .pu 2, .pu 3, .pu 4, .pu 5, .pu 6, .pu 7, .pu 8] (by kernel_rfl) rfl ?_
          replace Hq := Hq.drew
          refine st_pures [0, 1] S0 rfl ?_
          intro az10q Sz10q
          by_cases z11h : (IntKind.i64.wrap (x_n.tdiv x_size)) = 0
          · replace H := (if_pos z11h).symm.trans H
            exact nomatch H
          · replace H := (if_neg z11h).symm.trans H
            refine st_pu Sz10q rfl (g_none rfl) rfl rfl (fun _ => y_quo Sz10q rfl rfl z11h) ?_
            intro az12q Sz12q
            refine st_pures [3, 4] Sz12q rfl ?_
            intro az13q Sz13q
            refine st_pu Sz13q rfl (g_none rfl) rfl rfl (fun _ => y_rem Sz13q rfl rfl z11h) ?_
            intro az14q Sz14q
            refine st_pures [6, 7, 8] Sz14q rfl ?_
            intro az15q Sz15q
            refine st_nil ?_
            replace S0 := Sz15q
            refine nr_then ?_
            refine w_ret ?_
            obtain rfl := Option.some.inj H
            refine ret3 S0 rfl rfl rfl rfl ?_
            exact ⟨rfl, Hq⟩

end Go.Proofs.Ythlogangnppghaa.M
