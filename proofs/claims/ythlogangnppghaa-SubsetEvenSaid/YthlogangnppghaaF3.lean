/- waybill/waybilllaw13.SubsetEven: a plain function, and that the machine's call comes to it: printed by a program of the session's own. -/
import Derived.Test.YthlogangnppghaaK
import Derived.Test.YthlogangnppghaaF6
import Derived.Test.YthlogangnppghaaF7
import Derived.Test.YthlogangnppghaaF8
set_option linter.unusedVariables false
set_option linter.unusedSimpArgs false
namespace Go.Proofs.Ythlogangnppghaa.M
open Go Go.Proofs.Ythlogangnppghaa.Sl
/-! ### waybill/waybilllaw13.SubsetEven: function 3 -/
def waybilllaw13_SubsetEven.l0 : Nat → (List Int) → Int → Int → (List Int) → Int → Int → Option (Bool)
  | 0, _, _, _, _, _, _ => none
  | k + 1, x_ids, x_rounds, x_size, z10t, z19x, z20x => if z20x < (z10t.length : Int) then (((if 0 ≤ z20x then (if (rd e_i64 z10t z20x) < 0 then (some true) else (some (decide (((IntKind.i64.wrap ((x_rounds.tmod 6) + 6)).tmod 6) < (rd e_i64 z10t z20x))))) else (none)) : Option (Bool)).bind fun z22x => (if z22x = true then (some false) else (if 0 ≤ z20x then (waybilllaw13_SubsetEven.l0 k x_ids x_rounds x_size z10t (IntKind.i64.wrap (z19x + (rd e_i64 z10t z20x))) (IntKind.i64.wrap (z20x + 1))) else (none)))) else (some (decide (z19x = (IntKind.i64.wrap ((IntKind.i64.wrap (((IntKind.i64.wrap ((x_rounds.tmod 6) + 6)).tmod 6) * (IntKind.i64.wrap ((x_ids.length : Int).tdiv x_size)))) * x_size)))))
def waybilllaw13_SubsetEven.f (k : Nat) (x_ids : List Int) (x_rounds : Int) (x_size : Int) (x_seed : Int) : Option (Bool) := (waybilllaw13_alive.f k ).bind fun z2t => (if z2t = true then (((if 32 < (x_ids.length : Int) then (some true) else (if x_size < 1 then (some true) else (some (decide ((x_ids.length : Int) ≤ x_size))))) : Option (Bool)).bind fun z4x => (if z4x = true then (some true) else (if x_size = 0 then (none) else ((subset_Counts.f k x_ids (IntKind.i64.wrap (((IntKind.i64.wrap ((x_rounds.tmod 6) + 6)).tmod 6) * (IntKind.i64.wrap ((x_ids.length : Int).tdiv x_size)))) x_size x_seed).bind fun (z10t, z11t) => ((waybilllaw13_num.f z11t).bind fun z17t => (if z17t = 0 then ((waybilllaw13_SubsetEven.l0 k x_ids x_rounds x_size z10t 0 0)) else (some (decide ((z10t.length : Int) = 0))))))))) else (some false))
set_option maxRecDepth 100000 in
set_option maxHeartbeats 4000000 in
theorem waybilllaw13_SubsetEven.calls (k : Nat) (A0 : Option Addr) (n0 c0 : Nat) (x_ids : List Int) (x_rounds : Int) (x_size : Int) (x_seed : Int) (W0 : World) (X : Heap) (HR0 : Rd e_i64 X A0 n0 c0 x_ids) (Hq : HS W0 [isH X] W0) (r : Bool) (H : waybilllaw13_SubsetEven.f k x_ids x_rounds x_size x_seed = some r) :
    Calls Try.prog 3 #[.slice A0 n0 c0, .int .i64 x_rounds, .int .i64 x_size, .int .u64 x_seed] W0 (fun e w => e = .returned (.bool r) ∧ HS W0 [isH X] w) := by
  obtain rfl := HR0.1
  rw [waybilllaw13_SubsetEven.f] at H
  refine calls_in Try.func3 rfl rfl ?_
  intro a0 S0
  refine w_seq ?_
  refine w_region ?_
  refine r_pures [_] S0 rfl ?_
  clear S0; intro a0 S0
  refine wl_nil ?_
  refine nr_then ?_
  refine w_seq ?_
  refine w_seq ?_
  refine w_region ?_
  obtain ⟨Xz1, HXz1, HPz1, HBz1⟩ := call_frame [] Hq
  dsimp only [List.cons_append, List.nil_append] at HXz1 HBz1
  obtain ⟨z2t, Hc, H⟩ := Option.bind_eq_some_iff.mp H
  refine r_call S0 rfl rfl goes6 rfl ?_
  refine (waybilllaw13_alive.calls _  _ _  HXz1 z2t Hc).mono ?_
  rintro e w ⟨rfl, Hq'⟩
  have Hq : HS W0 [isH X] w := HBz1 [] _ Hq'
  clear HXz1 HPz1 HBz1 Hq'
  refine ⟨.bool z2t, rfl, ?_⟩; clear S0; intro a0 S0
  refine r_pures [_] S0 rfl ?_
  clear S0; intro a0 S0
  refine wl_nil ?_
  refine nr_then ?_
  by_cases z3h : z2t = true
  · replace H := (if_pos z3h).symm.trans H
    refine w_false S0 rfl (congrArg (!·) z3h) ?_
    refine w_skip ?_
    refine nr_then ?_
    refine w_seq ?_
    refine w_region ?_
    refine r_pures [_] S0 rfl ?_
    clear S0; intro a0 S0
    refine r_rem S0 rfl rfl (by decide) rfl ?_
    clear S0; intro a0 S0
    refine r_pures [_] S0 rfl ?_
    clear S0; intro a0 S0
    refine r_rem S0 rfl rfl (by decide) rfl ?_
    clear S0; intro a0 S0
    refine r_pures [_] S0 rfl ?_
    clear S0; intro a0 S0
    refine wl_nil ?_
    refine nr_then ?_
    refine w_seq ?_
    refine w_seq ?_
    obtain ⟨z4x, H, HU1⟩ := Option.bind_eq_some_iff.mp H
    refine w_cutT (fun a w => Sl 83 [] [(0, .slice A0 x_ids.length c0), (1, .int .i64 ((IntKind.i64.wrap ((x_rounds.tmod 6) + 6)).tmod 6)), (2, .int .i64 x_size), (3, .int .u64 x_seed), (32, .bool z4x)] a ∧ HS W0 [isH X] w) ?_ ?_
    · skip
      refine w_region ?_
      refine r_pures [_] S0 rfl ?_
      clear S0; intro a0 S0
      refine r_len S0 rfl sl22 rfl ?_
      clear S0; intro a0 S0
      refine r_pures [_, _] S0 rfl ?_
      clear S0; intro a0 S0
      by_cases z5h : 32 < (x_ids.length : Int)
      · replace H := (if_pos z5h).symm.trans H
        refine r_off S0 rfl rfl rfl (decide_eq_true z5h) ?_ rfl
        clear S0; intro a0 S0
        refine r_off S0 rfl rfl rfl (decide_eq_true z5h) ?_ rfl
        clear S0; intro a0 S0
        refine r_pick S0 rfl (decide_eq_true z5h) _ rfl rfl ?_
        clear S0; intro a0 S0
        refine r_pures [_] S0 rfl ?_
        clear S0; intro a0 S0
        refine r_off S0 rfl rfl rfl rfl ?_ rfl
        clear S0; intro a0 S0
        refine r_off S0 rfl rfl rfl rfl ?_ rfl
        clear S0; intro a0 S0
        refine r_off S0 rfl rfl rfl rfl ?_ rfl
        clear S0; intro a0 S0
        refine r_off S0 rfl rfl rfl rfl ?_ rfl
        clear S0; intro a0 S0
        refine r_pick S0 rfl rfl _ rfl rfl ?_
        clear S0; intro a0 S0
        refine wl_nil ?_
        refine nr_then ?_
        obtain rfl := Option.some.inj H
        exact ⟨S0.sub ⟨rfl, rfl, rfl, rfl, rfl, trivial⟩, Hq⟩
      · replace H := (if_neg z5h).symm.trans H
        refine r_on S0 rfl rfl rfl (decide_eq_false z5h) ?_
        refine r_pures [_] S0 rfl ?_
        clear S0; intro a0 S0
        refine r_on S0 rfl rfl rfl (decide_eq_false z5h) ?_
        refine r_pures [_] S0 rfl ?_
        clear S0; intro a0 S0
        refine r_pick S0 rfl (decide_eq_false z5h) _ rfl rfl ?_
        clear S0; intro a0 S0
        refine r_pures [_] S0 rfl ?_
        clear S0; intro a0 S0
        by_cases z6h : x_size < 1
        · replace H := (if_pos z6h).symm.trans H
          refine r_off S0 rfl rfl rfl (decide_eq_true z6h) ?_ rfl
          clear S0; intro a0 S0
          refine r_off S0 rfl rfl rfl (decide_eq_true z6h) ?_ rfl
          clear S0; intro a0 S0
          refine r_off S0 rfl rfl rfl (decide_eq_true z6h) ?_ rfl
          clear S0; intro a0 S0
          refine r_off S0 rfl rfl rfl (decide_eq_true z6h) ?_ rfl
          clear S0; intro a0 S0
          refine r_pick S0 rfl (decide_eq_true z6h) _ rfl rfl ?_
          clear S0; intro a0 S0
          refine wl_nil ?_
          refine nr_then ?_
          obtain rfl := Option.some.inj H
          exact ⟨S0.sub ⟨rfl, rfl, rfl, rfl, rfl, trivial⟩, Hq⟩
        · replace H := (if_neg z6h).symm.trans H
          refine r_on S0 rfl rfl rfl (decide_eq_false z6h) ?_
          refine r_pures [_] S0 rfl ?_
          clear S0; intro a0 S0
          refine r_on S0 rfl rfl rfl (decide_eq_false z6h) ?_
          refine r_pures [_] S0 rfl ?_
          clear S0; intro a0 S0
          refine r_on S0 rfl rfl rfl (decide_eq_false z6h) ?_
          refine r_len S0 rfl sl22 rfl ?_
          clear S0; intro a0 S0
          refine r_on S0 rfl rfl rfl (decide_eq_false z6h) ?_
          refine r_pures [_] S0 rfl ?_
          clear S0; intro a0 S0
          refine r_pick S0 rfl (decide_eq_false z6h) _ rfl rfl ?_
          clear S0; intro a0 S0
          refine wl_nil ?_
          refine nr_then ?_
          obtain rfl := Option.some.inj H
          exact ⟨S0.sub ⟨rfl, rfl, rfl, rfl, rfl, trivial⟩, Hq⟩
    · clear S0; rintro a w ⟨S0, Hq⟩
      have H := HU1; clear HU1
      refine nr_then ?_
      by_cases z7h : z4x = true
      · replace H := (if_pos z7h).symm.trans H
        refine w_true S0 rfl z7h ?_
        refine w_seq ?_
        refine w_region ?_
        refine r_pures [_] S0 rfl ?_
        clear S0; intro a0 S0
        refine wl_nil ?_
        refine nr_then ?_
        refine w_ret ?_
        refine ret_then ?_
        obtain rfl := Option.some.inj H
        refine ret1 S0 rfl rfl ?_
        exact ⟨rfl, Hq⟩
      · replace H := (if_neg z7h).symm.trans H
        refine w_false S0 rfl (Bool.eq_false_iff.mpr z7h) ?_
        refine w_skip ?_
        refine nr_then ?_
        refine w_seq ?_
        refine w_region ?_
        refine r_pures [_, _] S0 rfl ?_
        clear S0; intro a0 S0
        refine r_len S0 rfl sl22 rfl ?_
        clear S0; intro a0 S0
        refine r_pures [_] S0 rfl ?_
        clear S0; intro a0 S0
        by_cases z8h : x_size = 0
        · replace H := (if_pos z8h).symm.trans H
          exact nomatch H
        · replace H := (if_neg z8h).symm.trans H
          refine r_quo S0 rfl rfl z8h rfl ?_
          clear S0; intro a0 S0
          refine r_pures [_, _] S0 rfl ?_
          clear S0; intro a0 S0
          refine wl_nil ?_
          refine nr_then ?_
          refine w_seq ?_
          refine w_region ?_
          refine r_pures [_, _, _, _] S0 rfl ?_
          clear S0; intro a0 S0
          obtain ⟨Xz9, HXz9, HPz9, HBz9⟩ := call_frame [] Hq
          dsimp only [List.cons_append, List.nil_append] at HXz9 HBz9
          obtain ⟨⟨z10t, z11t⟩, Hc, H⟩ := Option.bind_eq_some_iff.mp H
          dsimp only at H
          refine r_call S0 rfl rfl goes7 rfl ?_
          refine (subset_Counts.calls _ _ _ _ x_ids (IntKind.i64.wrap (((IntKind.i64.wrap ((x_rounds.tmod 6) + 6)).tmod 6) * (IntKind.i64.wrap ((x_ids.length : Int).tdiv x_size)))) x_size x_seed _ _ (sl_isH_rd [] HPz9 HR0) HXz9 (z10t, z11t) Hc).mono ?_
          rintro e w ⟨z12A, z13m, z14n, rfl, Hq'⟩
          have Hq : HS W0 [own e_i64 3 z12A z13m z14n z10t, isH X] w := HBz9 [_] _ Hq'
          clear HXz9 HPz9 HBz9 Hq'
          obtain rfl := own_len [] Hq
          refine ⟨.tuple #[.slice z12A z10t.length z14n, .int .i64 z11t], rfl, ?_⟩; clear S0; intro a0 S0
          refine r_pures [_, _, _, _, _] S0 rfl ?_
          clear S0; intro a0 S0
          refine wl_nil ?_
          refine nr_then ?_
          refine w_seq ?_
          refine w_seq ?_
          refine w_region ?_
          refine r_pures [_] S0 rfl ?_
          clear S0; intro a0 S0
          obtain ⟨Xz16, HXz16, HPz16, HBz16⟩ := call_frame [] Hq
          dsimp only [List.cons_append, List.nil_append] at HXz16 HBz16
          obtain ⟨z17t, Hc, H⟩ := Option.bind_eq_some_iff.mp H
          refine r_call S0 rfl rfl goes8 rfl ?_
          refine (waybilllaw13_num.calls z11t _ _  HXz16 z17t Hc).mono ?_
          rintro e w ⟨rfl, Hq'⟩
          have Hq : HS W0 [own e_i64 3 z12A z10t.length z14n z10t, isH X] w := HBz16 [] _ Hq'
          clear HXz16 HPz16 HBz16 Hq'
          refine ⟨.int .i64 z17t, rfl, ?_⟩; clear S0; intro a0 S0
          refine r_pures [_] S0 rfl ?_
          clear S0; intro a0 S0
          refine wl_nil ?_
          refine nr_then ?_
          by_cases z18h : z17t = 0
          · replace H := (if_pos z18h).symm.trans H
            refine w_false S0 rfl (congrArg (!·) (decide_eq_true z18h)) ?_
            refine w_skip ?_
            refine nr_then ?_
            refine w_seq ?_
            refine w_region ?_
            refine r_pures [_] S0 rfl ?_
            clear S0; intro a0 S0
            refine wl_nil ?_
            refine nr_then ?_
            refine w_seq ?_
            refine w_seq ?_
            refine w_region ?_
            refine r_pures [_] S0 rfl ?_
            clear S0; intro a0 S0
            refine wl_nil ?_
            refine nr_then ?_
            refine w_block ?_
            refine w_loop (fun kq a w => ∃ z19x z20x, waybilllaw13_SubsetEven.l0 kq x_ids x_rounds x_size z10t z19x z20x = some r ∧ Sl 83 [] [(1, .int .i64 ((IntKind.i64.wrap ((x_rounds.tmod 6) + 6)).tmod 6)), (2, .int .i64 x_size), (9, .int .i64 (IntKind.i64.wrap (((IntKind.i64.wrap ((x_rounds.tmod 6) + 6)).tmod 6) * (IntKind.i64.wrap ((x_ids.length : Int).tdiv x_size))))), (10, .slice z12A z10t.length z14n), (12, .int .i64 z19x), (13, .int .i64 z20x)] a ∧ HS W0 [own e_i64 3 z12A z10t.length z14n z10t, isH X] w) _ ⟨0, 0, H, S0.sub ⟨rfl, rfl, rfl, rfl, rfl, rfl, trivial⟩, Hq⟩ ?_
            clear H Hq S0
            rintro k0 a w ⟨z19x, z20x, H, S0, Hq⟩
            cases k0 with
            | zero => simp [waybilllaw13_SubsetEven.l0] at H
            | succ k0 =>
              refine ⟨k0, rfl, ?_⟩
              rw [waybilllaw13_SubsetEven.l0] at H
              refine w_seq ?_
              refine w_seq ?_
              refine w_region ?_
              refine r_pures [_, _] S0 rfl ?_
              clear S0; intro a0 S0
              refine r_len S0 rfl sl22 rfl ?_
              clear S0; intro a0 S0
              refine r_pures [_] S0 rfl ?_
              clear S0; intro a0 S0
              refine wl_nil ?_
              refine nr_then ?_
              by_cases z21h : z20x < (z10t.length : Int)
              · replace H := (if_pos z21h).symm.trans H
                refine w_true S0 rfl (decide_eq_true z21h) ?_
                refine w_skip ?_
                refine nr_then ?_
                refine w_seq ?_
                refine w_block ?_
                refine w_seq ?_
                refine w_seq ?_
                obtain ⟨z22x, H, HU2⟩ := Option.bind_eq_some_iff.mp H
                refine w_cutT (fun a w => Sl 83 [] [(1, .int .i64 ((IntKind.i64.wrap ((x_rounds.tmod 6) + 6)).tmod 6)), (2, .int .i64 x_size), (9, .int .i64 (IntKind.i64.wrap (((IntKind.i64.wrap ((x_rounds.tmod 6) + 6)).tmod 6) * (IntKind.i64.wrap ((x_ids.length : Int).tdiv x_size))))), (10, .slice z12A z10t.length z14n), (12, .int .i64 z19x), (13, .int .i64 z20x), (71, .bool z22x)] a ∧ HS W0 [own e_i64 3 z12A z10t.length z14n z10t, isH X] w) ?_ ?_
                · skip
                  refine w_region ?_
                  refine r_pures [_, _] S0 rfl ?_
                  clear S0; intro a0 S0
                  by_cases z23h : 0 ≤ z20x
                  · replace H := (if_pos z23h).symm.trans H
                    obtain ⟨z24g, rfl⟩ := own_at [] Hq (by omega)
                    refine r_index S0 rfl rfl sl22 ti3 z23h z21h rfl ?_
                    clear S0; intro a0 S0
                    refine r_elS S0 (own_rd [] Hq) z23h z21h rfl ti3 _ rfl rfl ?_
                    clear S0; intro a0 S0
                    refine r_pures [_, _] S0 rfl ?_
                    clear S0; intro a0 S0
                    by_cases z25h : (rd e_i64 z10t z20x) < 0
                    · replace H := (if_pos z25h).symm.trans H
                      refine r_off S0 rfl rfl rfl (decide_eq_true z25h) ?_ rfl
                      clear S0; intro a0 S0
                      refine r_off S0 rfl rfl rfl (decide_eq_true z25h) ?_ rfl
                      clear S0; intro a0 S0
                      refine r_off S0 rfl rfl rfl (decide_eq_true z25h) ?_ rfl
                      clear S0; intro a0 S0
                      refine r_off S0 rfl rfl rfl (decide_eq_true z25h) ?_ rfl
                      clear S0; intro a0 S0
                      refine r_off S0 rfl rfl rfl (decide_eq_true z25h) ?_ rfl
                      clear S0; intro a0 S0
                      refine r_off S0 rfl rfl rfl (decide_eq_true z25h) ?_ rfl
                      clear S0; intro a0 S0
                      refine r_pick S0 rfl (decide_eq_true z25h) _ rfl rfl ?_
                      clear S0; intro a0 S0
                      refine wl_nil ?_
                      refine nr_then ?_
                      obtain rfl := Option.some.inj H
                      exact ⟨S0.sub ⟨rfl, rfl, rfl, rfl, rfl, rfl, rfl, trivial⟩, Hq⟩
                    · replace H := (if_neg z25h).symm.trans H
                      refine r_on S0 rfl rfl rfl (decide_eq_false z25h) ?_
                      refine r_pures [_] S0 rfl ?_
                      clear S0; intro a0 S0
                      refine r_on S0 rfl rfl rfl (decide_eq_false z25h) ?_
                      refine r_pures [_] S0 rfl ?_
                      clear S0; intro a0 S0
                      refine r_on S0 rfl rfl rfl (decide_eq_false z25h) ?_
                      refine r_index S0 rfl rfl sl22 ti3 z23h z21h rfl ?_
                      clear S0; intro a0 S0
                      refine r_on S0 rfl rfl rfl (decide_eq_false z25h) ?_
                      refine r_elS S0 (own_rd [] Hq) z23h z21h rfl ti3 _ rfl rfl ?_
                      clear S0; intro a0 S0
                      refine r_on S0 rfl rfl rfl (decide_eq_false z25h) ?_
                      refine r_pures [_] S0 rfl ?_
                      clear S0; intro a0 S0
                      refine r_on S0 rfl rfl rfl (decide_eq_false z25h) ?_
                      refine r_pures [_] S0 rfl ?_
                      clear S0; intro a0 S0
                      refine r_pick S0 rfl (decide_eq_false z25h) _ rfl rfl ?_
                      clear S0; intro a0 S0
                      refine wl_nil ?_
                      refine nr_then ?_
                      obtain rfl := Option.some.inj H
                      exact ⟨S0.sub ⟨rfl, rfl, rfl, rfl, rfl, rfl, rfl, trivial⟩, Hq⟩
                  · replace H := (if_neg z23h).symm.trans H
                    exact nomatch H
                · clear S0; rintro a w ⟨S0, Hq⟩
                  have H := HU2; clear HU2
                  refine nr_then ?_
                  by_cases z26h : z22x = true
                  · replace H := (if_pos z26h).symm.trans H
                    refine w_true S0 rfl z26h ?_
                    refine w_seq ?_
                    refine w_region ?_
                    refine r_pures [_] S0 rfl ?_
                    clear S0; intro a0 S0
                    refine wl_nil ?_
                    refine nr_then ?_
                    refine w_ret ?_
                    refine ret_then ?_
                    refine ret_in ?_
                    refine ret_then ?_
                    refine ret_then ?_
                    refine ret_in ?_
                    refine ret_then ?_
                    obtain rfl := Option.some.inj H
                    refine ret1 S0 rfl rfl ?_
                    replace Hq := HS.pull [_] Hq
                    dsimp only [List.cons_append, List.nil_append] at Hq
                    replace Hq := HS.keep [_] Hq
                    exact ⟨rfl, Hq⟩
                  · replace H := (if_neg z26h).symm.trans H
                    refine w_false S0 rfl (Bool.eq_false_iff.mpr z26h) ?_
                    refine w_skip ?_
                    refine nr_then ?_
                    refine w_region ?_
                    refine r_pures [_, _, _] S0 rfl ?_
                    clear S0; intro a0 S0
                    by_cases z27h : 0 ≤ z20x
                    · replace H := (if_pos z27h).symm.trans H
                      obtain ⟨z28g, rfl⟩ := own_at [] Hq (by omega)
                      refine r_index S0 rfl rfl sl22 ti3 z27h z21h rfl ?_
                      clear S0; intro a0 S0
                      refine r_elS S0 (own_rd [] Hq) z27h z21h rfl ti3 _ rfl rfl ?_
                      clear S0; intro a0 S0
                      refine r_pures [_, _] S0 rfl ?_
                      clear S0; intro a0 S0
                      refine wl_nil ?_
                      refine nr_in ?_
                      refine nr_then ?_
                      refine w_region ?_
                      refine r_pures [_, _, _] S0 rfl ?_
                      clear S0; intro a0 S0
                      refine wl_nil ?_
                      refine nr_then ?_
                      exact ⟨(IntKind.i64.wrap (z19x + (rd e_i64 z10t z20x))), (IntKind.i64.wrap (z20x + 1)), H, S0.sub ⟨rfl, rfl, rfl, rfl, rfl, rfl, trivial⟩, Hq⟩
                    · replace H := (if_neg z27h).symm.trans H
                      exact nomatch H
              · replace H := (if_neg z21h).symm.trans H
                refine w_false S0 rfl (decide_eq_false z21h) ?_
                refine w_exit ?_
                refine ex_then ?_
                refine ex_then ?_
                refine ex_in ?_
                refine nr_then ?_
                refine w_seq ?_
                refine w_region ?_
                refine r_pures [_, _, _, _, _, _] S0 rfl ?_
                clear S0; intro a0 S0
                refine wl_nil ?_
                refine nr_then ?_
                refine w_ret ?_
                obtain rfl := Option.some.inj H
                refine ret1 S0 rfl rfl ?_
                replace Hq := HS.pull [_] Hq
                dsimp only [List.cons_append, List.nil_append] at Hq
                replace Hq := HS.keep [_] Hq
                exact ⟨rfl, Hq⟩
          · replace H := (if_neg z18h).symm.trans H
            refine w_true S0 rfl (congrArg (!·) (decide_eq_false z18h)) ?_
            refine w_seq ?_
            refine w_region ?_
            refine r_pures [_] S0 rfl ?_
            clear S0; intro a0 S0
            refine r_len S0 rfl sl22 rfl ?_
            clear S0; intro a0 S0
            refine r_pures [_, _] S0 rfl ?_
            clear S0; intro a0 S0
            refine wl_nil ?_
            refine nr_then ?_
            refine w_ret ?_
            refine ret_then ?_
            obtain rfl := Option.some.inj H
            refine ret1 S0 rfl rfl ?_
            replace Hq := HS.pull [_] Hq
            dsimp only [List.cons_append, List.nil_append] at Hq
            replace Hq := HS.keep [_] Hq
            exact ⟨rfl, Hq⟩
  · replace H := (if_neg z3h).symm.trans H
    refine w_true S0 rfl (congrArg (!·) (Bool.eq_false_iff.mpr z3h)) ?_
    refine w_seq ?_
    refine w_region ?_
    refine r_pures [_] S0 rfl ?_
    clear S0; intro a0 S0
    refine wl_nil ?_
    refine nr_then ?_
    refine w_ret ?_
    refine ret_then ?_
    obtain rfl := Option.some.inj H
    refine ret1 S0 rfl rfl ?_
    exact ⟨rfl, Hq⟩

end Go.Proofs.Ythlogangnppghaa.M
