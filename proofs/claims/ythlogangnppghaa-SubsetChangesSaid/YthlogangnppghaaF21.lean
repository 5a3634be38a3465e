/- waybill/subset.without: a plain function, and that the machine's call comes to it: printed by a program of the session's own. -/
import Derived.Test.YthlogangnppghaaK
import Derived.Test.YthlogangnppghaaF34
import Derived.Test.YthlogangnppghaaG
set_option linter.unusedVariables false
set_option linter.unusedSimpArgs false
namespace Go.Proofs.Ythlogangnppghaa.M
open Go Go.Proofs.Ythlogangnppghaa.Sl
/-! ### waybill/subset.without: function 21 -/
def subset_without.l1 : Nat → (List Int) → (List Int) → Int → Int → (List Int) → Option (Int × (List Int))
  | 0, _, _, _, _, _ => none
  | k + 1, x_not, z4t, z27x, z28x, z29x => if z28x < (z4t.length : Int) then (if 0 ≤ z28x then ((slices_Contains_int_int.f k x_not (rd e_i64 z29x z28x)).bind fun z33t => (((if z33t = true then (some (z27x, z29x)) else (if 0 ≤ z27x then (if z27x < (z4t.length : Int) then (some (IntKind.i64.wrap (z27x + 1), z29x.set (Int.toNat z27x) (rd e_i64 z29x z28x))) else (none)) else (none))) : Option (Int × (List Int))).bind fun (z34x, z35x) => (subset_without.l1 k x_not z4t z34x (IntKind.i64.wrap (z28x + 1)) z35x))) else (none)) else (some (z27x, z29x))
def subset_without.l0 : Nat → (List Int) → (List Int) → Int → Option (List Int)
  | 0, _, _, _ => none
  | k + 1, x_not, z4t, z9x => if z9x < (z4t.length : Int) then (if 0 ≤ z9x then ((slices_Contains_int_int.f k x_not (rd e_i64 z4t z9x)).bind fun z14t => (if z14t = true then (if z9x = (-1) then ((slices_Sort_int_int.f z4t).bind fun z18t => ((slices_Compact_int_int.f z18t).bind fun z20t => (some z20t))) else ((((subset_without.l1 k x_not z4t z9x (IntKind.i64.wrap (z9x + 1)) z4t)) : Option (Int × (List Int))).bind fun (z25x, z26x) => (if 0 ≤ z25x then (if z25x ≤ (z4t.length : Int) then (if (Int.toNat z25x) ≤ z4t.length then ((slices_Sort_int_int.f ((z26x.take (Int.toNat z25x) ++ List.replicate (z26x.drop (Int.toNat z25x)).length e_i64.z).take (Int.toNat z25x))).bind fun z47t => ((slices_Compact_int_int.f (z47t.take (Int.toNat z25x))).bind fun z49t => (some z49t))) else (none)) else (none)) else (none)))) else (subset_without.l0 k x_not z4t (IntKind.i64.wrap (z9x + 1))))) else (none)) else ((slices_Sort_int_int.f z4t).bind fun z55t => ((slices_Compact_int_int.f z55t).bind fun z57t => (some z57t)))
def subset_without.f (k : Nat) (x_l : List Int) (x_not : List Int) : Option (List Int) := (slices_Clone_int_int.f x_l).bind fun z4t => ((subset_without.l0 k x_not z4t 0))
set_option maxRecDepth 100000 in
set_option maxHeartbeats 4000000 in
theorem subset_without.calls (k : Nat) (A0 : Option Addr) (n0 c0 : Nat) (x_l : List Int) (A1 : Option Addr) (n1 c1 : Nat) (x_not : List Int) (W0 : World) (X : Heap) (HR0 : Rd e_i64 X A0 n0 c0 x_l) (HR1 : Rd e_i64 X A1 n1 c1 x_not) (Hq : HS W0 [isH X] W0) (r : List Int) (H : subset_without.f k x_l x_not = some r) :
    Calls Try.prog 21 #[.slice A0 n0 c0, .slice A1 n1 c1] W0 (fun e w => ∃ Ar0 nr0 cr0, e = .returned (.slice Ar0 nr0 cr0) ∧ HS W0 [own e_i64 3 Ar0 nr0 cr0 r, isH X] w) := by
  obtain rfl := HR0.1
  obtain rfl := HR1.1
  rw [subset_without.f] at H
  refine calls_in Try.func21 rfl rfl ?_
  intro a0 S0
  refine w_seq ?_
  refine w_region ?_
  refine r_box (vs := [.slice A1 x_not.length c1]) S0 Hq rfl rfl rfl ?_
  clear S0 Hq; intro z1b a0 w S0 Hq
  refine r_pures [_] S0 rfl ?_
  clear S0; intro a0 S0
  refine wl_nil ?_
  refine nr_then ?_
  refine w_seq ?_
  refine w_region ?_
  refine r_pures [_] S0 rfl ?_
  clear S0; intro a0 S0
  obtain ⟨Xz3, HXz3, HPz3, HBz3⟩ := call_frame [] Hq
  dsimp only [List.cons_append, List.nil_append] at HXz3 HBz3
  obtain ⟨z4t, Hc, H⟩ := Option.bind_eq_some_iff.mp H
  refine r_call S0 rfl rfl goes32 rfl ?_
  refine (slices_Clone_int_int.calls _ _ _ x_l _ _ (sl_isH_rd [_] HPz3 HR0) HXz3 z4t Hc).mono ?_
  rintro e w ⟨z5A, z6m, z7n, rfl, Hq'⟩
  have Hq : HS W0 [own e_i64 3 z5A z6m z7n z4t, bx z1b 22 [.slice A1 x_not.length c1], isH X] w := HBz3 [_] _ Hq'
  clear HXz3 HPz3 HBz3 Hq'
  obtain rfl := own_len [] Hq
  refine ⟨.slice z5A z4t.length z7n, rfl, ?_⟩; clear S0; intro a0 S0
  refine r_pures [_] S0 rfl ?_
  clear S0; intro a0 S0
  refine r_call S0 rfl rfl goes31 rfl ?_
  refine calls_in Try.func31 rfl rfl ?_
  intro a1 S1
  refine w_seq ?_
  refine w_region ?_
  refine r_pures [_] S1 rfl ?_
  clear S1; intro a1 S1
  refine wl_nil ?_
  refine nr_then ?_
  refine w_seq ?_
  refine w_region ?_
  refine r_pures [_, _] S1 rfl ?_
  clear S1; intro a1 S1
  refine r_call S1 rfl rfl goes42 rfl ?_
  refine calls_in Try.func42 rfl rfl ?_
  intro a2 S2
  refine w_seq ?_
  refine w_region ?_
  refine r_pures [_] S2 rfl ?_
  clear S2; intro a2 S2
  refine wl_nil ?_
  refine nr_then ?_
  refine w_seq ?_
  refine w_seq ?_
  refine w_region ?_
  refine r_pures [_] S2 rfl ?_
  clear S2; intro a2 S2
  refine r_len S2 rfl sl22 rfl ?_
  clear S2; intro a2 S2
  refine r_pures [_] S2 rfl ?_
  clear S2; intro a2 S2
  refine wl_nil ?_
  refine nr_then ?_
  refine w_block ?_
  refine w_loop (fun kq a w => ∃ z9x, subset_without.l0 kq x_not z4t z9x = some r ∧ Sl 19 [] [(0, .slice z5A z4t.length z7n), (1, .func (.func 33) #[] #[.pointer (some ⟨z1b, 0, none⟩)]), (7, .int .i64 (z4t.length : Int)), (8, .int .i64 z9x)] a ∧ HS W0 [own e_i64 3 z5A z4t.length z7n z4t, bx z1b 22 [.slice A1 x_not.length c1], isH X] w) _ ⟨0, H, S2.sub ⟨rfl, rfl, rfl, rfl, trivial⟩, Hq⟩ ?_
  clear H Hq S2
  rintro k0 a w ⟨z9x, H, S2, Hq⟩
  cases k0 with
  | zero => simp [subset_without.l0] at H
  | succ k0 =>
    refine ⟨k0, rfl, ?_⟩
    rw [subset_without.l0] at H
    refine w_seq ?_
    refine w_region ?_
    refine r_pures [_] S2 rfl ?_
    clear S2; intro a2 S2
    refine wl_nil ?_
    refine nr_then ?_
    refine w_seq ?_
    by_cases z10h : z9x < (z4t.length : Int)
    · replace H := (if_pos z10h).symm.trans H
      refine w_true S2 rfl (decide_eq_true z10h) ?_
      refine w_skip ?_
      refine nr_then ?_
      refine w_seq ?_
      refine w_block ?_
      refine w_seq ?_
      refine w_region ?_
      refine r_pures [_, _] S2 rfl ?_
      clear S2; intro a2 S2
      refine wl_nil ?_
      refine nr_then ?_
      refine w_seq ?_
      refine w_region ?_
      refine r_pures [_, _, _] S2 rfl ?_
      clear S2; intro a2 S2
      by_cases z11h : 0 ≤ z9x
      · replace H := (if_pos z11h).symm.trans H
        obtain ⟨z12g, rfl⟩ := own_at [] Hq (by omega)
        refine r_index S2 rfl rfl sl22 ti3 z11h z10h rfl ?_
        clear S2; intro a2 S2
        refine r_elS S2 (own_rd [] Hq) z11h z10h rfl ti3 _ rfl rfl ?_
        clear S2; intro a2 S2
        refine r_call S2 rfl rfl goes33 rfl ?_
        refine calls_in Try.func33 rfl rfl ?_
        intro a3 S3
        refine w_seq ?_
        refine w_region ?_
        refine r_pures [_] S3 rfl ?_
        clear S3; intro a3 S3
        refine wl_nil ?_
        refine nr_then ?_
        refine w_seq ?_
        refine w_region ?_
        refine r_ldS [_] S3 Hq rfl ti22 _ rfl rfl ?_
        clear S3; intro a3 S3
        refine r_pures [_] S3 rfl ?_
        clear S3; intro a3 S3
        obtain ⟨Xz13, HXz13, HPz13, HBz13⟩ := call_frame [] Hq
        dsimp only [List.cons_append, List.nil_append] at HXz13 HBz13
        obtain ⟨z14t, Hc, H⟩ := Option.bind_eq_some_iff.mp H
        refine r_call S3 rfl rfl goes34 rfl ?_
        refine (slices_Contains_int_int.calls _ _ _ _ x_not (rd e_i64 z4t z9x) _ _ (sl_isH_rd [_, _] HPz13 HR1) HXz13 z14t Hc).mono ?_
        rintro e w ⟨rfl, Hq'⟩
        have Hq : HS W0 [own e_i64 3 (some ⟨z12g, 0, none⟩) z4t.length z7n z4t, bx z1b 22 [.slice A1 x_not.length c1], isH X] w := HBz13 [] _ Hq'
        clear HXz13 HPz13 HBz13 Hq'
        refine ⟨.bool z14t, rfl, ?_⟩; clear S3; intro a3 S3
        refine r_pures [_] S3 rfl ?_
        clear S3; intro a3 S3
        refine wl_nil ?_
        refine nr_then ?_
        refine w_ret ?_
        refine ret1 S3 rfl rfl ?_
        clear S3
        refine ⟨_, rfl, ?_⟩; clear S2; intro a2 S2
        refine wl_nil ?_
        refine nr_then ?_
        by_cases z15h : z14t = true
        · replace H := (if_pos z15h).symm.trans H
          refine w_true S2 rfl z15h ?_
          refine w_seq ?_
          refine w_region ?_
          refine r_pures [_, _] S2 rfl ?_
          clear S2; intro a2 S2
          refine wl_nil ?_
          refine nr_then ?_
          refine w_ret ?_
          refine ret_in ?_
          refine ret_then ?_
          refine ret_then ?_
          refine ret_in ?_
          refine ret_then ?_
          refine ret1 S2 rfl rfl ?_
          clear S2
          refine ⟨_, rfl, ?_⟩; clear S1; intro a1 S1
          refine r_pures [_] S1 rfl ?_
          clear S1; intro a1 S1
          refine wl_nil ?_
          refine nr_then ?_
          refine w_seq ?_
          refine w_seq ?_
          refine w_region ?_
          refine r_pures [_, _] S1 rfl ?_
          clear S1; intro a1 S1
          refine wl_nil ?_
          refine nr_then ?_
          by_cases z16h : z9x = (-1)
          · replace H := (if_pos z16h).symm.trans H
            refine w_true S1 rfl (decide_eq_true z16h) ?_
            refine w_seq ?_
            refine w_region ?_
            refine r_pures [_, _] S1 rfl ?_
            clear S1; intro a1 S1
            refine wl_nil ?_
            refine nr_then ?_
            refine w_ret ?_
            refine ret_then ?_
            refine ret1 S1 rfl rfl ?_
            clear S1
            refine ⟨_, rfl, ?_⟩; clear S0; intro a0 S0
            refine r_pures [_] S0 rfl ?_
            clear S0; intro a0 S0
            refine wl_nil ?_
            refine nr_then ?_
            refine w_seq ?_
            refine w_region ?_
            refine r_pures [_] S0 rfl ?_
            clear S0; intro a0 S0
            obtain ⟨Xz17, HXz17, HPz17, HBz17⟩ := call_frame [_] Hq
            dsimp only [List.cons_append, List.nil_append] at HXz17 HBz17
            obtain ⟨z18t, Hc, H⟩ := Option.bind_eq_some_iff.mp H
            refine r_call S0 rfl rfl goes35 rfl ?_
            refine (slices_Sort_int_int.calls _ _ _ z4t _ _  HXz17 z18t Hc).mono ?_
            rintro e w ⟨rfl, Hq'⟩
            have Hq : HS W0 [own e_i64 3 (some ⟨z12g, 0, none⟩) z4t.length z7n z18t, bx z1b 22 [.slice A1 x_not.length c1], isH X] w := HBz17 [_] _ Hq'
            clear HXz17 HPz17 HBz17 Hq'
            refine ⟨.tuple #[], rfl, ?_⟩; clear S0; intro a0 S0
            refine wl_nil ?_
            refine nr_then ?_
            refine w_seq ?_
            refine w_region ?_
            refine r_pures [_] S0 rfl ?_
            clear S0; intro a0 S0
            obtain ⟨Xz19, HXz19, HPz19, HBz19⟩ := call_frame [_] Hq
            dsimp only [List.cons_append, List.nil_append] at HXz19 HBz19
            obtain ⟨z20t, Hc, H⟩ := Option.bind_eq_some_iff.mp H
            refine r_call S0 rfl rfl goes36 rfl ?_
            refine (slices_Compact_int_int.calls _ _ _ z18t _ _  HXz19 z20t Hc).mono ?_
            rintro e w ⟨z21A, z22m, z23n, rfl, Hq'⟩
            have Hq : HS W0 [own e_i64 3 z21A z22m z23n z20t, bx z1b 22 [.slice A1 x_not.length c1], isH X] w := HBz19 [_] _ Hq'
            clear HXz19 HPz19 HBz19 Hq'
            obtain rfl := own_len [] Hq
            refine ⟨.slice z21A z20t.length z23n, rfl, ?_⟩; clear S0; intro a0 S0
            refine r_pures [_] S0 rfl ?_
            clear S0; intro a0 S0
            refine wl_nil ?_
            refine nr_then ?_
            refine w_ret ?_
            obtain rfl := Option.some.inj H
            refine ret1 S0 rfl rfl ?_
            replace Hq := HS.pull [_, _] Hq
            dsimp only [List.cons_append, List.nil_append] at Hq
            replace Hq := HS.pull [_] Hq
            dsimp only [List.cons_append, List.nil_append] at Hq
            replace Hq := HS.keep [_, _] Hq
            exact ⟨z21A, z20t.length, z23n, rfl, Hq⟩
          · replace H := (if_neg z16h).symm.trans H
            refine w_false S1 rfl (decide_eq_false z16h) ?_
            refine w_skip ?_
            refine nr_then ?_
            refine w_seq ?_
            refine w_seq ?_
            refine w_region ?_
            refine r_pures [_, _, _] S1 rfl ?_
            clear S1; intro a1 S1
            refine wl_nil ?_
            refine nr_then ?_
            obtain ⟨⟨z25x, z26x⟩, H, HU1⟩ := Option.bind_eq_some_iff.mp H
            dsimp only at HU1
            refine w_cutT (fun a w => Sl 42 [] [(0, .slice (some ⟨z12g, 0, none⟩) z4t.length z7n), (5, .int .i64 z25x)] a ∧ HS W0 [own e_i64 3 (some ⟨z12g, 0, none⟩) z4t.length z7n z26x, bx z1b 22 [.slice A1 x_not.length c1], isH X] w) ?_ ?_
            · skip
              refine w_block ?_
              refine w_loop (fun kq a w => ∃ z27x z28x z29x, subset_without.l1 kq x_not z4t z27x z28x z29x = some (z25x, z26x) ∧ Sl 42 [] [(0, .slice (some ⟨z12g, 0, none⟩) z4t.length z7n), (1, .func (.func 33) #[] #[.pointer (some ⟨z1b, 0, none⟩)]), (5, .int .i64 z27x), (6, .int .i64 z28x)] a ∧ HS W0 [own e_i64 3 (some ⟨z12g, 0, none⟩) z4t.length z7n z29x, bx z1b 22 [.slice A1 x_not.length c1], isH X] w) _ ⟨z9x, (IntKind.i64.wrap (z9x + 1)), z4t, H, S1.sub ⟨rfl, rfl, rfl, rfl, trivial⟩, Hq⟩ ?_
              clear H Hq S1
              rintro k1 a w ⟨z27x, z28x, z29x, H, S1, Hq⟩
              cases k1 with
              | zero => simp [subset_without.l1] at H
              | succ k1 =>
                refine ⟨k1, rfl, ?_⟩
                rw [subset_without.l1] at H
                refine w_seq ?_
                refine w_seq ?_
                refine w_region ?_
                refine r_pures [_, _] S1 rfl ?_
                clear S1; intro a1 S1
                refine r_len S1 rfl sl22 rfl ?_
                clear S1; intro a1 S1
                refine r_pures [_] S1 rfl ?_
                clear S1; intro a1 S1
                refine wl_nil ?_
                refine nr_then ?_
                by_cases z30h : z28x < (z4t.length : Int)
                · replace H := (if_pos z30h).symm.trans H
                  refine w_true S1 rfl (decide_eq_true z30h) ?_
                  refine w_skip ?_
                  refine nr_then ?_
                  refine w_seq ?_
                  refine w_block ?_
                  refine w_seq ?_
                  refine w_region ?_
                  refine r_pures [_, _] S1 rfl ?_
                  clear S1; intro a1 S1
                  by_cases z31h : 0 ≤ z28x
                  · replace H := (if_pos z31h).symm.trans H
                    refine r_index S1 rfl rfl sl22 ti3 z31h z30h rfl ?_
                    clear S1; intro a1 S1
                    refine r_elS S1 (own_rd [] Hq) z31h z30h rfl ti3 _ rfl rfl ?_
                    clear S1; intro a1 S1
                    refine r_pures [_] S1 rfl ?_
                    clear S1; intro a1 S1
                    refine wl_nil ?_
                    refine nr_then ?_
                    refine w_seq ?_
                    refine w_region ?_
                    refine r_pures [_, _] S1 rfl ?_
                    clear S1; intro a1 S1
                    refine r_call S1 rfl rfl goes33 rfl ?_
                    refine calls_in Try.func33 rfl rfl ?_
                    intro a2 S2
                    refine w_seq ?_
                    refine w_region ?_
                    refine r_pures [_] S2 rfl ?_
                    clear S2; intro a2 S2
                    refine wl_nil ?_
                    refine nr_then ?_
                    refine w_seq ?_
                    refine w_region ?_
                    refine r_ldS [_] S2 Hq rfl ti22 _ rfl rfl ?_
                    clear S2; intro a2 S2
                    refine r_pures [_] S2 rfl ?_
                    clear S2; intro a2 S2
                    obtain ⟨Xz32, HXz32, HPz32, HBz32⟩ := call_frame [] Hq
                    dsimp only [List.cons_append, List.nil_append] at HXz32 HBz32
                    obtain ⟨z33t, Hc, H⟩ := Option.bind_eq_some_iff.mp H
                    refine r_call S2 rfl rfl goes34 rfl ?_
                    refine (slices_Contains_int_int.calls _ _ _ _ x_not (rd e_i64 z29x z28x) _ _ (sl_isH_rd [_, _] HPz32 HR1) HXz32 z33t Hc).mono ?_
                    rintro e w ⟨rfl, Hq'⟩
                    have Hq : HS W0 [own e_i64 3 (some ⟨z12g, 0, none⟩) z4t.length z7n z29x, bx z1b 22 [.slice A1 x_not.length c1], isH X] w := HBz32 [] _ Hq'
                    clear HXz32 HPz32 HBz32 Hq'
                    refine ⟨.bool z33t, rfl, ?_⟩; clear S2; intro a2 S2
                    refine r_pures [_] S2 rfl ?_
                    clear S2; intro a2 S2
                    refine wl_nil ?_
                    refine nr_then ?_
                    refine w_ret ?_
                    refine ret1 S2 rfl rfl ?_
                    clear S2
                    refine ⟨_, rfl, ?_⟩; clear S1; intro a1 S1
                    refine r_pures [_] S1 rfl ?_
                    clear S1; intro a1 S1
                    refine wl_nil ?_
                    refine nr_then ?_
                    obtain ⟨⟨z34x, z35x⟩, H, HU2⟩ := Option.bind_eq_some_iff.mp H
                    dsimp only at HU2
                    refine w_cutT (fun a w => Sl 42 [] [(0, .slice (some ⟨z12g, 0, none⟩) z4t.length z7n), (1, .func (.func 33) #[] #[.pointer (some ⟨z1b, 0, none⟩)]), (5, .int .i64 z34x), (6, .int .i64 z28x)] a ∧ HS W0 [own e_i64 3 (some ⟨z12g, 0, none⟩) z4t.length z7n z35x, bx z1b 22 [.slice A1 x_not.length c1], isH X] w) ?_ ?_
                    · skip
                      by_cases z36h : z33t = true
                      · replace H := (if_pos z36h).symm.trans H
                        refine w_false S1 rfl (congrArg (!·) z36h) ?_
                        refine w_skip ?_
                        refine nr_then ?_
                        simp only [Option.some.injEq, Prod.mk.injEq] at H; obtain ⟨rfl, rfl⟩ := H
                        exact ⟨S1.sub ⟨rfl, rfl, rfl, rfl, trivial⟩, Hq⟩
                      · replace H := (if_neg z36h).symm.trans H
                        refine w_true S1 rfl (congrArg (!·) (Bool.eq_false_iff.mpr z36h)) ?_
                        refine w_seq ?_
                        refine w_region ?_
                        refine r_pures [_, _, _] S1 rfl ?_
                        clear S1; intro a1 S1
                        by_cases z37h : 0 ≤ z27x
                        · replace H := (if_pos z37h).symm.trans H
                          by_cases z38h : z27x < (z4t.length : Int)
                          · replace H := (if_pos z38h).symm.trans H
                            refine r_index S1 rfl rfl sl22 ti3 z37h z38h rfl ?_
                            clear S1; intro a1 S1
                            refine r_elst [] S1 Hq z37h z38h rfl rfl ti3 [.int .i64 (rd e_i64 z29x z28x)] rfl rfl rfl rfl (rd e_i64 z29x z28x) rfl ?_
                            clear Hq; intro w Hq; dsimp only [List.cons_append, List.nil_append] at Hq
                            refine wl_nil ?_
                            refine nr_then ?_
                            refine w_region ?_
                            refine r_pures [_, _, _] S1 rfl ?_
                            clear S1; intro a1 S1
                            refine wl_nil ?_
                            refine nr_then ?_
                            simp only [Option.some.injEq, Prod.mk.injEq] at H; obtain ⟨rfl, rfl⟩ := H
                            exact ⟨S1.sub ⟨rfl, rfl, rfl, rfl, trivial⟩, Hq⟩
                          · replace H := (if_neg z38h).symm.trans H
                            exact nomatch H
                        · replace H := (if_neg z37h).symm.trans H
                          exact nomatch H
                    · clear S1; rintro a w ⟨S1, Hq⟩
                      have H := HU2; clear HU2
                      refine nr_in ?_
                      refine nr_then ?_
                      refine w_region ?_
                      refine r_pures [_, _, _] S1 rfl ?_
                      clear S1; intro a1 S1
                      refine wl_nil ?_
                      refine nr_then ?_
                      exact ⟨z34x, (IntKind.i64.wrap (z28x + 1)), z35x, H, S1.sub ⟨rfl, rfl, rfl, rfl, trivial⟩, Hq⟩
                  · replace H := (if_neg z31h).symm.trans H
                    exact nomatch H
                · replace H := (if_neg z30h).symm.trans H
                  refine w_false S1 rfl (decide_eq_false z30h) ?_
                  refine w_exit ?_
                  refine ex_then ?_
                  refine ex_then ?_
                  refine ex_in ?_
                  refine nr_then ?_
                  simp only [Option.some.injEq, Prod.mk.injEq] at H; obtain ⟨rfl, rfl⟩ := H
                  exact ⟨S1.sub ⟨rfl, rfl, trivial⟩, Hq⟩
            · clear S1; rintro a w ⟨S1, Hq⟩
              have H := HU1; clear HU1
              refine nr_then ?_
              refine w_seq ?_
              refine w_region ?_
              refine r_pures [_, _] S1 rfl ?_
              clear S1; intro a1 S1
              by_cases z39h : 0 ≤ z25x
              · replace H := (if_pos z39h).symm.trans H
                by_cases z40h : z25x ≤ (z4t.length : Int)
                · replace H := (if_pos z40h).symm.trans H
                  refine r_cutO S1 rfl sl22 ti3 (own_rd [] Hq) z25x (z4t.length : Int) rfl rfl z39h z40h (Int.le_refl _) rfl (z26x.drop (Int.toNat z25x)) (by rw [show Int.toNat ((z4t.length : Int)) = (z26x).length from (by have := (own_rd [] Hq).1; omega), List.take_length]) ?_
                  clear S1; intro z41A z42n a1 z43hC z44hB S1
                  refine r_clear (lo := Int.toNat z25x) [] S1 Hq (by omega) z44hB rfl sl22 ti3 rfl ?_
                  clear Hq; intro w Hq; dsimp only [List.cons_append, List.nil_append] at Hq
                  refine wl_nil ?_
                  refine nr_then ?_
                  refine w_seq ?_
                  refine w_region ?_
                  refine r_pures [_, _] S1 rfl ?_
                  clear S1; intro a1 S1
                  refine r_cutV [] S1 Hq rfl sl22 ti3 _ rfl z39h z40h rfl ?_
                  clear S1; intro a1 S1
                  refine r_pures [_] S1 rfl ?_
                  clear S1; intro a1 S1
                  refine wl_nil ?_
                  refine nr_then ?_
                  refine w_ret ?_
                  refine ret1 S1 rfl rfl ?_
                  clear S1
                  refine ⟨_, rfl, ?_⟩; clear S0; intro a0 S0
                  refine r_pures [_] S0 rfl ?_
                  clear S0; intro a0 S0
                  refine wl_nil ?_
                  refine nr_then ?_
                  refine w_seq ?_
                  refine w_region ?_
                  refine r_pures [_] S0 rfl ?_
                  clear S0; intro a0 S0
                  by_cases z45h : (Int.toNat z25x) ≤ z4t.length
                  · replace H := (if_pos z45h).symm.trans H
                    replace Hq := HS.shrink [] Hq z45h
                    dsimp only [List.cons_append, List.nil_append] at Hq
                    obtain ⟨Xz46, HXz46, HPz46, HBz46⟩ := call_frame [_] Hq
                    dsimp only [List.cons_append, List.nil_append] at HXz46 HBz46
                    obtain ⟨z47t, Hc, H⟩ := Option.bind_eq_some_iff.mp H
                    refine r_call S0 rfl rfl goes35 rfl ?_
                    refine (slices_Sort_int_int.calls _ _ _ ((z26x.take (Int.toNat z25x) ++ List.replicate (z26x.drop (Int.toNat z25x)).length e_i64.z).take (Int.toNat z25x)) _ _  HXz46 z47t Hc).mono ?_
                    rintro e w ⟨rfl, Hq'⟩
                    have Hq : HS W0 [own e_i64 3 (some ⟨z12g, 0, none⟩) (Int.toNat z25x) z7n z47t, bx z1b 22 [.slice A1 x_not.length c1], isH X] w := HBz46 [_] _ Hq'
                    clear HXz46 HPz46 HBz46 Hq'
                    refine ⟨.tuple #[], rfl, ?_⟩; clear S0; intro a0 S0
                    refine wl_nil ?_
                    refine nr_then ?_
                    refine w_seq ?_
                    refine w_region ?_
                    refine r_pures [_] S0 rfl ?_
                    clear S0; intro a0 S0
                    replace Hq := HS.shrink [] Hq (Nat.le_refl _)
                    dsimp only [List.cons_append, List.nil_append] at Hq
                    obtain ⟨Xz48, HXz48, HPz48, HBz48⟩ := call_frame [_] Hq
                    dsimp only [List.cons_append, List.nil_append] at HXz48 HBz48
                    obtain ⟨z49t, Hc, H⟩ := Option.bind_eq_some_iff.mp H
                    refine r_call S0 rfl rfl goes36 rfl ?_
                    refine (slices_Compact_int_int.calls _ _ _ (z47t.take (Int.toNat z25x)) _ _  HXz48 z49t Hc).mono ?_
                    rintro e w ⟨z50A, z51m, z52n, rfl, Hq'⟩
                    have Hq : HS W0 [own e_i64 3 z50A z51m z52n z49t, bx z1b 22 [.slice A1 x_not.length c1], isH X] w := HBz48 [_] _ Hq'
                    clear HXz48 HPz48 HBz48 Hq'
                    obtain rfl := own_len [] Hq
                    refine ⟨.slice z50A z49t.length z52n, rfl, ?_⟩; clear S0; intro a0 S0
                    refine r_pures [_] S0 rfl ?_
                    clear S0; intro a0 S0
                    refine wl_nil ?_
                    refine nr_then ?_
                    refine w_ret ?_
                    obtain rfl := Option.some.inj H
                    refine ret1 S0 rfl rfl ?_
                    replace Hq := HS.pull [_, _] Hq
                    dsimp only [List.cons_append, List.nil_append] at Hq
                    replace Hq := HS.pull [_] Hq
                    dsimp only [List.cons_append, List.nil_append] at Hq
                    replace Hq := HS.keep [_, _] Hq
                    exact ⟨z50A, z49t.length, z52n, rfl, Hq⟩
                  · replace H := (if_neg z45h).symm.trans H
                    exact nomatch H
                · replace H := (if_neg z40h).symm.trans H
                  exact nomatch H
              · replace H := (if_neg z39h).symm.trans H
                exact nomatch H
        · replace H := (if_neg z15h).symm.trans H
          refine w_false S2 rfl (Bool.eq_false_iff.mpr z15h) ?_
          refine w_skip ?_
          refine nr_in ?_
          refine nr_then ?_
          refine w_region ?_
          refine r_pures [_, _] S2 rfl ?_
          clear S2; intro a2 S2
          refine wl_nil ?_
          refine nr_then ?_
          exact ⟨(IntKind.i64.wrap (z9x + 1)), H, S2.sub ⟨rfl, rfl, rfl, rfl, trivial⟩, Hq⟩
      · replace H := (if_neg z11h).symm.trans H
        exact nomatch H
    · replace H := (if_neg z10h).symm.trans H
      refine w_false S2 rfl (decide_eq_false z10h) ?_
      refine w_exit ?_
      refine ex_then ?_
      refine ex_then ?_
      refine ex_in ?_
      refine nr_then ?_
      refine w_seq ?_
      refine w_region ?_
      refine r_pures [_] S2 rfl ?_
      clear S2; intro a2 S2
      refine wl_nil ?_
      refine nr_then ?_
      refine w_ret ?_
      refine ret1 S2 rfl rfl ?_
      clear S2
      refine ⟨_, rfl, ?_⟩; clear S1; intro a1 S1
      refine r_pures [_] S1 rfl ?_
      clear S1; intro a1 S1
      refine wl_nil ?_
      refine nr_then ?_
      refine w_seq ?_
      refine w_seq ?_
      refine w_region ?_
      refine r_pures [_, _] S1 rfl ?_
      clear S1; intro a1 S1
      refine wl_nil ?_
      refine nr_then ?_
      refine w_true S1 rfl (by decide) ?_
      refine w_seq ?_
      refine w_region ?_
      refine r_pures [_, _] S1 rfl ?_
      clear S1; intro a1 S1
      refine wl_nil ?_
      refine nr_then ?_
      refine w_ret ?_
      refine ret_then ?_
      refine ret1 S1 rfl rfl ?_
      clear S1
      refine ⟨_, rfl, ?_⟩; clear S0; intro a0 S0
      refine r_pures [_] S0 rfl ?_
      clear S0; intro a0 S0
      refine wl_nil ?_
      refine nr_then ?_
      refine w_seq ?_
      refine w_region ?_
      refine r_pures [_] S0 rfl ?_
      clear S0; intro a0 S0
      obtain ⟨Xz54, HXz54, HPz54, HBz54⟩ := call_frame [_] Hq
      dsimp only [List.cons_append, List.nil_append] at HXz54 HBz54
      obtain ⟨z55t, Hc, H⟩ := Option.bind_eq_some_iff.mp H
      refine r_call S0 rfl rfl goes35 rfl ?_
      refine (slices_Sort_int_int.calls _ _ _ z4t _ _  HXz54 z55t Hc).mono ?_
      rintro e w ⟨rfl, Hq'⟩
      have Hq : HS W0 [own e_i64 3 z5A z4t.length z7n z55t, bx z1b 22 [.slice A1 x_not.length c1], isH X] w := HBz54 [_] _ Hq'
      clear HXz54 HPz54 HBz54 Hq'
      refine ⟨.tuple #[], rfl, ?_⟩; clear S0; intro a0 S0
      refine wl_nil ?_
      refine nr_then ?_
      refine w_seq ?_
      refine w_region ?_
      refine r_pures [_] S0 rfl ?_
      clear S0; intro a0 S0
      obtain ⟨Xz56, HXz56, HPz56, HBz56⟩ := call_frame [_] Hq
      dsimp only [List.cons_append, List.nil_append] at HXz56 HBz56
      obtain ⟨z57t, Hc, H⟩ := Option.bind_eq_some_iff.mp H
      refine r_call S0 rfl rfl goes36 rfl ?_
      refine (slices_Compact_int_int.calls _ _ _ z55t _ _  HXz56 z57t Hc).mono ?_
      rintro e w ⟨z58A, z59m, z60n, rfl, Hq'⟩
      have Hq : HS W0 [own e_i64 3 z58A z59m z60n z57t, bx z1b 22 [.slice A1 x_not.length c1], isH X] w := HBz56 [_] _ Hq'
      clear HXz56 HPz56 HBz56 Hq'
      obtain rfl := own_len [] Hq
      refine ⟨.slice z58A z57t.length z60n, rfl, ?_⟩; clear S0; intro a0 S0
      refine r_pures [_] S0 rfl ?_
      clear S0; intro a0 S0
      refine wl_nil ?_
      refine nr_then ?_
      refine w_ret ?_
      obtain rfl := Option.some.inj H
      refine ret1 S0 rfl rfl ?_
      replace Hq := HS.pull [_, _] Hq
      dsimp only [List.cons_append, List.nil_append] at Hq
      replace Hq := HS.pull [_] Hq
      dsimp only [List.cons_append, List.nil_append] at Hq
      replace Hq := HS.keep [_, _] Hq
      exact ⟨z58A, z57t.length, z60n, rfl, Hq⟩

end Go.Proofs.Ythlogangnppghaa.M
