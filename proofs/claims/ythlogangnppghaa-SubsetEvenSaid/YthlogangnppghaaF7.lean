/- waybill/subset.Counts: a plain function, and that the machine's call comes to it: printed by a program of the session's own. -/
import Derived.Test.YthlogangnppghaaK
import Derived.Test.YthlogangnppghaaF19
import Derived.Test.YthlogangnppghaaG
set_option linter.unusedVariables false
set_option linter.unusedSimpArgs false
namespace Go.Proofs.Ythlogangnppghaa.M
open Go Go.Proofs.Ythlogangnppghaa.Sl
/-! ### waybill/subset.Counts: function 7 -/
def subset_Counts.l1 : Nat → (List Int) → (List Int) → Int → (List Int) → Option ((List Int))
  | 0, _, _, _, _ => none
  | k + 1, x_ids, z26t, z33x, z34x => if z33x < (z26t.length : Int) then (if 0 ≤ z33x then ((slices_BinarySearch_int_int.f x_ids (rd e_i64 z26t z33x)).bind fun (z39t, z40t) => (if 0 ≤ z39t then (if z39t < (Int.toNat (x_ids.length : Int) : Int) then (subset_Counts.l1 k x_ids z26t (IntKind.i64.wrap (z33x + 1)) (z34x.set (Int.toNat z39t) (IntKind.i64.wrap ((rd e_i64 z34x z39t) + 1)))) else (none)) else (none))) else (none)) else (some z34x)
def subset_Counts.l0 : Nat → (List Int) → Int → Int → Int → Int → (List Int) → Option ((List Int))
  | 0, _, _, _, _, _, _ => none
  | k + 1, x_ids, x_clients, x_size, x_seed, z21x, z22x => if z21x < x_clients then ((((subset_dealer_of.f k (⟨x_ids, x_size, x_seed⟩ : subset_dealer) z21x).bind fun (z26t, z27t) => ((((subset_Counts.l1 k x_ids z26t 0 z22x)) : Option ((List Int))).bind fun z32x => (some z32x))) : Option ((List Int))).bind fun z24x => (subset_Counts.l0 k x_ids x_clients x_size x_seed (IntKind.i64.wrap (z21x + 1)) z24x)) else (some z22x)
def subset_Counts.f (k : Nat) (x_ids : List Int) (x_clients : Int) (x_size : Int) (x_seed : Int) : Option ((List Int) × Int) := (subset_dealer_of.f k (⟨x_ids, x_size, x_seed⟩ : subset_dealer) 0).bind fun (z4t, z5t) => (if z5t = 0 then (((if x_clients < 0 then (some true) else (some (decide (256 < x_clients)))) : Option (Bool)).bind fun z11x => (if z11x = true then (some (([] : List Int), 4)) else (if 0 ≤ (x_ids.length : Int) then (if Int.toNat (x_ids.length : Int) < 17592186044416 then ((((subset_Counts.l0 k x_ids x_clients x_size x_seed 0 (List.replicate (Int.toNat (x_ids.length : Int)) e_i64.z))) : Option ((List Int))).bind fun z20x => (some (z20x, 0))) else (none)) else (none)))) else (some (([] : List Int), z5t)))
set_option maxRecDepth 100000 in
set_option maxHeartbeats 4000000 in
theorem subset_Counts.calls (k : Nat) (A0 : Option Addr) (n0 c0 : Nat) (x_ids : List Int) (x_clients : Int) (x_size : Int) (x_seed : Int) (W0 : World) (X : Heap) (HR0 : Rd e_i64 X A0 n0 c0 x_ids) (Hq : HS W0 [isH X] W0) (r : (List Int) × Int) (H : subset_Counts.f k x_ids x_clients x_size x_seed = some r) :
    Calls Try.prog 7 #[.slice A0 n0 c0, .int .i64 x_clients, .int .i64 x_size, .int .u64 x_seed] W0 (fun e w => ∃ Ar0 nr0 cr0, e = .returned (.tuple #[.slice Ar0 nr0 cr0, .int .i64 r.2]) ∧ HS W0 [own e_i64 3 Ar0 nr0 cr0 r.1, isH X] w) := by
  obtain rfl := HR0.1
  rw [subset_Counts.f] at H
  refine calls_in Try.func7 rfl rfl ?_
  intro a0 S0
  refine w_seq ?_
  refine w_region ?_
  refine r_pures [_, _] S0 rfl ?_
  clear S0; intro a0 S0
  refine wl_nil ?_
  refine nr_then ?_
  refine w_seq ?_
  refine w_region ?_
  refine r_pures [_, _, _] S0 rfl ?_
  clear S0; intro a0 S0
  refine r_build S0 ti45 pl45 rfl [.slice A0 x_ids.length c0, .int .i64 x_size, .int .u64 x_seed] rfl rfl ?_
  clear S0; intro a0 S0
  refine r_alloc S0 Hq ti45 rfl ?_
  clear S0 Hq; intro z1b a0 w S0 Hq
  refine r_st [] S0 Hq rfl rfl ti45 [.slice A0 x_ids.length c0, .int .i64 x_size, .int .u64 x_seed] rfl rfl rfl rfl [.slice A0 x_ids.length c0, .int .i64 x_size, .int .u64 x_seed] rfl ?_
  clear Hq; intro w Hq; dsimp only [List.cons_append, List.nil_append] at Hq
  refine wl_nil ?_
  refine nr_then ?_
  refine w_seq ?_
  refine w_seq ?_
  refine w_region ?_
  refine r_ldA [] S0 Hq rfl ti45 [.slice A0 x_ids.length c0, .int .i64 x_size, .int .u64 x_seed] rfl rfl rfl ?_
  clear S0; intro a0 S0
  obtain ⟨Xz3, HXz3, HPz3, HBz3⟩ := call_frame [] Hq
  dsimp only [List.cons_append, List.nil_append] at HXz3 HBz3
  obtain ⟨⟨z4t, z5t⟩, Hc, H⟩ := Option.bind_eq_some_iff.mp H
  dsimp only at H
  refine r_call S0 rfl rfl goes19 rfl ?_
  refine (subset_dealer_of.calls _ _ _ _ (⟨x_ids, x_size, x_seed⟩ : subset_dealer) 0 _ _ (sl_isH_rd [_] HPz3 HR0) HXz3 (z4t, z5t) Hc).mono ?_
  rintro e w ⟨z6A, z7m, z8n, rfl, Hq'⟩
  have Hq : HS W0 [own e_i64 3 z6A z7m z8n z4t, bx z1b 45 [.slice A0 x_ids.length c0, .int .i64 x_size, .int .u64 x_seed], isH X] w := HBz3 [_] _ Hq'
  clear HXz3 HPz3 HBz3 Hq'
  obtain rfl := own_len [] Hq
  refine ⟨.tuple #[.slice z6A z4t.length z8n, .int .i64 z5t], rfl, ?_⟩; clear S0; intro a0 S0
  refine r_pures [_, _, _, _, _] S0 rfl ?_
  clear S0; intro a0 S0
  refine wl_nil ?_
  refine nr_then ?_
  refine w_seq ?_
  refine w_region ?_
  refine r_pures [_, _] S0 rfl ?_
  clear S0; intro a0 S0
  refine wl_nil ?_
  refine nr_then ?_
  by_cases z10h : z5t = 0
  · replace H := (if_pos z10h).symm.trans H
    refine w_false S0 rfl (congrArg (!·) (decide_eq_true z10h)) ?_
    refine w_skip ?_
    refine nr_then ?_
    refine w_seq ?_
    refine w_seq ?_
    obtain ⟨z11x, H, HU1⟩ := Option.bind_eq_some_iff.mp H
    refine w_cutT (fun a w => Sl 73 [] [(0, .slice A0 x_ids.length c0), (1, .int .i64 x_clients), (10, .pointer (some ⟨z1b, 0, none⟩)), (38, .bool z11x)] a ∧ HS W0 [bx z1b 45 [.slice A0 x_ids.length c0, .int .i64 x_size, .int .u64 x_seed], isH X] w) ?_ ?_
    · skip
      refine w_region ?_
      refine r_pures [_, _, _] S0 rfl ?_
      clear S0; intro a0 S0
      by_cases z12h : x_clients < 0
      · replace H := (if_pos z12h).symm.trans H
        refine r_off S0 rfl rfl rfl (decide_eq_true z12h) ?_ rfl
        clear S0; intro a0 S0
        refine r_off S0 rfl rfl rfl (decide_eq_true z12h) ?_ rfl
        clear S0; intro a0 S0
        refine r_pick S0 rfl (decide_eq_true z12h) _ rfl rfl ?_
        clear S0; intro a0 S0
        refine wl_nil ?_
        refine nr_then ?_
        replace Hq := HS.pull [_, _] Hq
        dsimp only [List.cons_append, List.nil_append] at Hq
        replace Hq := HS.pull [_, _] Hq
        dsimp only [List.cons_append, List.nil_append] at Hq
        replace Hq := HS.keep [_, _] Hq
        obtain rfl := Option.some.inj H
        exact ⟨S0.sub ⟨rfl, rfl, rfl, rfl, trivial⟩, Hq⟩
      · replace H := (if_neg z12h).symm.trans H
        refine r_on S0 rfl rfl rfl (decide_eq_false z12h) ?_
        refine r_pures [_] S0 rfl ?_
        clear S0; intro a0 S0
        refine r_on S0 rfl rfl rfl (decide_eq_false z12h) ?_
        refine r_pures [_] S0 rfl ?_
        clear S0; intro a0 S0
        refine r_pick S0 rfl (decide_eq_false z12h) _ rfl rfl ?_
        clear S0; intro a0 S0
        refine wl_nil ?_
        refine nr_then ?_
        replace Hq := HS.pull [_, _] Hq
        dsimp only [List.cons_append, List.nil_append] at Hq
        replace Hq := HS.pull [_, _] Hq
        dsimp only [List.cons_append, List.nil_append] at Hq
        replace Hq := HS.keep [_, _] Hq
        obtain rfl := Option.some.inj H
        exact ⟨S0.sub ⟨rfl, rfl, rfl, rfl, trivial⟩, Hq⟩
    · clear S0; rintro a w ⟨S0, Hq⟩
      have H := HU1; clear HU1
      refine nr_then ?_
      by_cases z13h : z11x = true
      · replace H := (if_pos z13h).symm.trans H
        refine w_true S0 rfl z13h ?_
        refine w_seq ?_
        refine w_region ?_
        refine r_pures [_, _] S0 rfl ?_
        clear S0; intro a0 S0
        refine wl_nil ?_
        refine nr_then ?_
        refine w_ret ?_
        refine ret_then ?_
        obtain rfl := Option.some.inj H
        replace Hq := HS.own_nil e_i64 3 Hq
        refine ret2 S0 rfl rfl rfl ?_
        replace Hq := HS.pull [_, _] Hq
        dsimp only [List.cons_append, List.nil_append] at Hq
        replace Hq := HS.pull [_] Hq
        dsimp only [List.cons_append, List.nil_append] at Hq
        replace Hq := HS.keep [_, _] Hq
        exact ⟨none, 0, 0, rfl, Hq⟩
      · replace H := (if_neg z13h).symm.trans H
        refine w_false S0 rfl (Bool.eq_false_iff.mpr z13h) ?_
        refine w_skip ?_
        refine nr_then ?_
        refine w_seq ?_
        refine w_region ?_
        refine r_pures [_] S0 rfl ?_
        clear S0; intro a0 S0
        refine r_len S0 rfl sl22 rfl ?_
        clear S0; intro a0 S0
        by_cases z15h : 0 ≤ (x_ids.length : Int)
        · replace H := (if_pos z15h).symm.trans H
          by_cases z16h : Int.toNat (x_ids.length : Int) < 17592186044416
          · replace H := (if_pos z16h).symm.trans H
            refine r_make (e := e_i64) S0 Hq rfl rfl sl22 ti3 rfl z15h z16h rfl rfl ?_
            clear S0 Hq; intro z17b a0 w S0 Hq
            refine r_pures [_] S0 rfl ?_
            clear S0; intro a0 S0
            refine wl_nil ?_
            refine nr_then ?_
            refine w_seq ?_
            refine w_seq ?_
            refine w_region ?_
            refine r_pures [_, _] S0 rfl ?_
            clear S0; intro a0 S0
            refine wl_nil ?_
            refine nr_then ?_
            obtain ⟨z20x, H, HU2⟩ := Option.bind_eq_some_iff.mp H
            refine w_cutT (fun a w => Sl 73 [] [(13, .slice (some ⟨z17b, 0, none⟩) (Int.toNat (x_ids.length : Int)) (Int.toNat (x_ids.length : Int)))] a ∧ HS W0 [own e_i64 3 (some ⟨z17b, 0, none⟩) (Int.toNat (x_ids.length : Int)) (Int.toNat (x_ids.length : Int)) z20x, isH X] w) ?_ ?_
            · skip
              refine w_block ?_
              refine w_loop (fun kq a w => ∃ z21x z22x, subset_Counts.l0 kq x_ids x_clients x_size x_seed z21x z22x = some z20x ∧ Sl 73 [] [(0, .slice A0 x_ids.length c0), (10, .pointer (some ⟨z1b, 0, none⟩)), (13, .slice (some ⟨z17b, 0, none⟩) (Int.toNat (x_ids.length : Int)) (Int.toNat (x_ids.length : Int))), (42, .int .i64 x_clients), (43, .int .i64 z21x)] a ∧ HS W0 [own e_i64 3 (some ⟨z17b, 0, none⟩) (Int.toNat (x_ids.length : Int)) (Int.toNat (x_ids.length : Int)) z22x, bx z1b 45 [.slice A0 x_ids.length c0, .int .i64 x_size, .int .u64 x_seed], isH X] w) _ ⟨0, (List.replicate (Int.toNat (x_ids.length : Int)) e_i64.z), H, S0.sub ⟨rfl, rfl, rfl, rfl, rfl, trivial⟩, Hq⟩ ?_
              clear H Hq S0
              rintro k0 a w ⟨z21x, z22x, H, S0, Hq⟩
              cases k0 with
              | zero => simp [subset_Counts.l0] at H
              | succ k0 =>
                refine ⟨k0, rfl, ?_⟩
                rw [subset_Counts.l0] at H
                refine w_seq ?_
                refine w_region ?_
                refine r_pures [_] S0 rfl ?_
                clear S0; intro a0 S0
                refine wl_nil ?_
                refine nr_then ?_
                refine w_seq ?_
                by_cases z23h : z21x < x_clients
                · replace H := (if_pos z23h).symm.trans H
                  refine w_true S0 rfl (decide_eq_true z23h) ?_
                  refine w_skip ?_
                  refine nr_then ?_
                  refine w_seq ?_
                  obtain ⟨z24x, H, HU3⟩ := Option.bind_eq_some_iff.mp H
                  refine w_cutT (fun a w => Sl 73 [] [(0, .slice A0 x_ids.length c0), (10, .pointer (some ⟨z1b, 0, none⟩)), (13, .slice (some ⟨z17b, 0, none⟩) (Int.toNat (x_ids.length : Int)) (Int.toNat (x_ids.length : Int))), (42, .int .i64 x_clients), (43, .int .i64 z21x)] a ∧ HS W0 [own e_i64 3 (some ⟨z17b, 0, none⟩) (Int.toNat (x_ids.length : Int)) (Int.toNat (x_ids.length : Int)) z24x, bx z1b 45 [.slice A0 x_ids.length c0, .int .i64 x_size, .int .u64 x_seed], isH X] w) ?_ ?_
                  · skip
                    refine w_block ?_
                    refine w_seq ?_
                    refine w_region ?_
                    refine r_pures [_, _] S0 rfl ?_
                    clear S0; intro a0 S0
                    refine wl_nil ?_
                    refine nr_then ?_
                    refine w_seq ?_
                    refine w_region ?_
                    refine r_ldA [_] S0 Hq rfl ti45 [.slice A0 x_ids.length c0, .int .i64 x_size, .int .u64 x_seed] rfl rfl rfl ?_
                    clear S0; intro a0 S0
                    refine r_pures [_] S0 rfl ?_
                    clear S0; intro a0 S0
                    obtain ⟨Xz25, HXz25, HPz25, HBz25⟩ := call_frame [] Hq
                    dsimp only [List.cons_append, List.nil_append] at HXz25 HBz25
                    obtain ⟨⟨z26t, z27t⟩, Hc, H⟩ := Option.bind_eq_some_iff.mp H
                    dsimp only at H
                    refine r_call S0 rfl rfl goes19 rfl ?_
                    refine (subset_dealer_of.calls _ _ _ _ (⟨x_ids, x_size, x_seed⟩ : subset_dealer) z21x _ _ (sl_isH_rd [_, _] HPz25 HR0) HXz25 (z26t, z27t) Hc).mono ?_
                    rintro e w ⟨z28A, z29m, z30n, rfl, Hq'⟩
                    have Hq : HS W0 [own e_i64 3 z28A z29m z30n z26t, own e_i64 3 (some ⟨z17b, 0, none⟩) (Int.toNat (x_ids.length : Int)) (Int.toNat (x_ids.length : Int)) z22x, bx z1b 45 [.slice A0 x_ids.length c0, .int .i64 x_size, .int .u64 x_seed], isH X] w := HBz25 [_] _ Hq'
                    clear HXz25 HPz25 HBz25 Hq'
                    obtain rfl := own_len [] Hq
                    refine ⟨.tuple #[.slice z28A z26t.length z30n, .int .i64 z27t], rfl, ?_⟩; clear S0; intro a0 S0
                    refine r_pures [_, _, _, _, _] S0 rfl ?_
                    clear S0; intro a0 S0
                    refine wl_nil ?_
                    refine nr_then ?_
                    refine w_seq ?_
                    refine w_region ?_
                    refine r_pures [_] S0 rfl ?_
                    clear S0; intro a0 S0
                    refine r_len S0 rfl sl22 rfl ?_
                    clear S0; intro a0 S0
                    refine r_pures [_] S0 rfl ?_
                    clear S0; intro a0 S0
                    refine wl_nil ?_
                    refine nr_then ?_
                    obtain ⟨z32x, H, HU4⟩ := Option.bind_eq_some_iff.mp H
                    refine w_cutT (fun a w => Sl 73 [] [(0, .slice A0 x_ids.length c0), (10, .pointer (some ⟨z1b, 0, none⟩)), (13, .slice (some ⟨z17b, 0, none⟩) (Int.toNat (x_ids.length : Int)) (Int.toNat (x_ids.length : Int))), (42, .int .i64 x_clients), (43, .int .i64 z21x)] a ∧ HS W0 [own e_i64 3 (some ⟨z17b, 0, none⟩) (Int.toNat (x_ids.length : Int)) (Int.toNat (x_ids.length : Int)) z32x, bx z1b 45 [.slice A0 x_ids.length c0, .int .i64 x_size, .int .u64 x_seed], isH X] w) ?_ ?_
                    · skip
                      refine w_block ?_
                      refine w_loop (fun kq a w => ∃ z33x z34x, subset_Counts.l1 kq x_ids z26t z33x z34x = some z32x ∧ Sl 73 [] [(0, .slice A0 x_ids.length c0), (10, .pointer (some ⟨z1b, 0, none⟩)), (13, .slice (some ⟨z17b, 0, none⟩) (Int.toNat (x_ids.length : Int)) (Int.toNat (x_ids.length : Int))), (42, .int .i64 x_clients), (43, .int .i64 z21x), (52, .slice z28A z26t.length z30n), (53, .int .i64 (z26t.length : Int)), (54, .int .i64 z33x)] a ∧ HS W0 [own e_i64 3 z28A z26t.length z30n z26t, own e_i64 3 (some ⟨z17b, 0, none⟩) (Int.toNat (x_ids.length : Int)) (Int.toNat (x_ids.length : Int)) z34x, bx z1b 45 [.slice A0 x_ids.length c0, .int .i64 x_size, .int .u64 x_seed], isH X] w) _ ⟨0, z22x, H, S0.sub ⟨rfl, rfl, rfl, rfl, rfl, rfl, rfl, rfl, trivial⟩, Hq⟩ ?_
                      clear H Hq S0
                      rintro k1 a w ⟨z33x, z34x, H, S0, Hq⟩
                      cases k1 with
                      | zero => simp [subset_Counts.l1] at H
                      | succ k1 =>
                        refine ⟨k1, rfl, ?_⟩
                        rw [subset_Counts.l1] at H
                        refine w_seq ?_
                        refine w_region ?_
                        refine r_pures [_] S0 rfl ?_
                        clear S0; intro a0 S0
                        refine wl_nil ?_
                        refine nr_then ?_
                        refine w_seq ?_
                        by_cases z35h : z33x < (z26t.length : Int)
                        · replace H := (if_pos z35h).symm.trans H
                          refine w_true S0 rfl (decide_eq_true z35h) ?_
                          refine w_skip ?_
                          refine nr_then ?_
                          refine w_seq ?_
                          refine w_block ?_
                          refine w_seq ?_
                          refine w_region ?_
                          by_cases z36h : 0 ≤ z33x
                          · replace H := (if_pos z36h).symm.trans H
                            obtain ⟨z37g, rfl⟩ := own_at [] Hq (by omega)
                            refine r_index S0 rfl rfl sl22 ti3 z36h z35h rfl ?_
                            clear S0; intro a0 S0
                            refine r_elS S0 (own_rd [] Hq) z36h z35h rfl ti3 _ rfl rfl ?_
                            clear S0; intro a0 S0
                            refine r_pures [_] S0 rfl ?_
                            clear S0; intro a0 S0
                            refine wl_nil ?_
                            refine nr_then ?_
                            refine w_seq ?_
                            refine w_region ?_
                            refine r_pures [_, _] S0 rfl ?_
                            clear S0; intro a0 S0
                            obtain ⟨Xz38, HXz38, HPz38, HBz38⟩ := call_frame [] Hq
                            dsimp only [List.cons_append, List.nil_append] at HXz38 HBz38
                            obtain ⟨⟨z39t, z40t⟩, Hc, H⟩ := Option.bind_eq_some_iff.mp H
                            dsimp only at H
                            refine r_call S0 rfl rfl goes20 rfl ?_
                            refine (slices_BinarySearch_int_int.calls _ _ _ x_ids (rd e_i64 z26t z33x) _ _ (sl_isH_rd [_, _, _] HPz38 HR0) HXz38 (z39t, z40t) Hc).mono ?_
                            rintro e w ⟨rfl, Hq'⟩
                            have Hq : HS W0 [own e_i64 3 (some ⟨z37g, 0, none⟩) z26t.length z30n z26t, own e_i64 3 (some ⟨z17b, 0, none⟩) (Int.toNat (x_ids.length : Int)) (Int.toNat (x_ids.length : Int)) z34x, bx z1b 45 [.slice A0 x_ids.length c0, .int .i64 x_size, .int .u64 x_seed], isH X] w := HBz38 [] _ Hq'
                            clear HXz38 HPz38 HBz38 Hq'
                            refine ⟨.tuple #[.int .i64 z39t, .bool z40t], rfl, ?_⟩; clear S0; intro a0 S0
                            refine r_pures [_, _, _, _, _] S0 rfl ?_
                            clear S0; intro a0 S0
                            refine wl_nil ?_
                            refine nr_then ?_
                            refine w_region ?_
                            refine r_pures [_, _] S0 rfl ?_
                            clear S0; intro a0 S0
                            by_cases z41h : 0 ≤ z39t
                            · replace H := (if_pos z41h).symm.trans H
                              by_cases z42h : z39t < (Int.toNat (x_ids.length : Int) : Int)
                              · replace H := (if_pos z42h).symm.trans H
                                refine r_index S0 rfl rfl sl22 ti3 z41h z42h rfl ?_
                                clear S0; intro a0 S0
                                refine r_elS S0 (own_rd [_] Hq) z41h z42h rfl ti3 _ rfl rfl ?_
                                clear S0; intro a0 S0
                                refine r_pures [_] S0 rfl ?_
                                clear S0; intro a0 S0
                                refine r_index S0 rfl rfl sl22 ti3 z41h z42h rfl ?_
                                clear S0; intro a0 S0
                                refine r_elst [_] S0 Hq z41h z42h rfl rfl ti3 [.int .i64 (IntKind.i64.wrap ((rd e_i64 z34x z39t) + 1))] rfl rfl rfl rfl (IntKind.i64.wrap ((rd e_i64 z34x z39t) + 1)) rfl ?_
                                clear Hq; intro w Hq; dsimp only [List.cons_append, List.nil_append] at Hq
                                refine wl_nil ?_
                                refine nr_in ?_
                                refine nr_then ?_
                                refine w_region ?_
                                refine r_pures [_, _] S0 rfl ?_
                                clear S0; intro a0 S0
                                refine wl_nil ?_
                                refine nr_then ?_
                                exact ⟨(IntKind.i64.wrap (z33x + 1)), (z34x.set (Int.toNat z39t) (IntKind.i64.wrap ((rd e_i64 z34x z39t) + 1))), H, S0.sub ⟨rfl, rfl, rfl, rfl, rfl, rfl, rfl, rfl, trivial⟩, Hq⟩
                              · replace H := (if_neg z42h).symm.trans H
                                exact nomatch H
                            · replace H := (if_neg z41h).symm.trans H
                              exact nomatch H
                          · replace H := (if_neg z36h).symm.trans H
                            exact nomatch H
                        · replace H := (if_neg z35h).symm.trans H
                          refine w_false S0 rfl (decide_eq_false z35h) ?_
                          refine w_exit ?_
                          refine ex_then ?_
                          refine ex_then ?_
                          refine ex_in ?_
                          refine nr_then ?_
                          replace Hq := HS.pull [_, _, _] Hq
                          dsimp only [List.cons_append, List.nil_append] at Hq
                          replace Hq := HS.pull [_, _, _] Hq
                          dsimp only [List.cons_append, List.nil_append] at Hq
                          replace Hq := HS.pull [_, _, _] Hq
                          dsimp only [List.cons_append, List.nil_append] at Hq
                          replace Hq := HS.keep [_, _, _] Hq
                          obtain rfl := Option.some.inj H
                          exact ⟨S0.sub ⟨rfl, rfl, rfl, rfl, rfl, trivial⟩, Hq⟩
                    · clear S0; rintro a w ⟨S0, Hq⟩
                      have H := HU4; clear HU4
                      refine nr_in ?_
                      refine nr_then ?_
                      obtain rfl := Option.some.inj H
                      exact ⟨S0.sub ⟨rfl, rfl, rfl, rfl, rfl, trivial⟩, Hq⟩
                  · clear S0; rintro a w ⟨S0, Hq⟩
                    have H := HU3; clear HU3
                    refine nr_then ?_
                    refine w_region ?_
                    refine r_pures [_, _] S0 rfl ?_
                    clear S0; intro a0 S0
                    refine wl_nil ?_
                    refine nr_then ?_
                    exact ⟨(IntKind.i64.wrap (z21x + 1)), z24x, H, S0.sub ⟨rfl, rfl, rfl, rfl, rfl, trivial⟩, Hq⟩
                · replace H := (if_neg z23h).symm.trans H
                  refine w_false S0 rfl (decide_eq_false z23h) ?_
                  refine w_exit ?_
                  refine ex_then ?_
                  refine ex_then ?_
                  refine ex_in ?_
                  refine nr_then ?_
                  replace Hq := HS.pull [_, _] Hq
                  dsimp only [List.cons_append, List.nil_append] at Hq
                  replace Hq := HS.pull [_] Hq
                  dsimp only [List.cons_append, List.nil_append] at Hq
                  replace Hq := HS.keep [_, _] Hq
                  obtain rfl := Option.some.inj H
                  exact ⟨S0.sub ⟨rfl, trivial⟩, Hq⟩
            · clear S0; rintro a w ⟨S0, Hq⟩
              have H := HU2; clear HU2
              refine nr_then ?_
              refine w_seq ?_
              refine w_region ?_
              refine r_pures [_, _, _] S0 rfl ?_
              clear S0; intro a0 S0
              refine wl_nil ?_
              refine nr_then ?_
              refine w_ret ?_
              obtain rfl := Option.some.inj H
              refine ret2 S0 rfl rfl rfl ?_
              replace Hq := HS.pull [_] Hq
              dsimp only [List.cons_append, List.nil_append] at Hq
              replace Hq := HS.pull [_] Hq
              dsimp only [List.cons_append, List.nil_append] at Hq
              exact ⟨(some ⟨z17b, 0, none⟩), (Int.toNat (x_ids.length : Int)), (Int.toNat (x_ids.length : Int)), rfl, Hq⟩
          · replace H := (if_neg z16h).symm.trans H
            exact nomatch H
        · replace H := (if_neg z15h).symm.trans H
          exact nomatch H
  · replace H := (if_neg z10h).symm.trans H
    refine w_true S0 rfl (congrArg (!·) (decide_eq_false z10h)) ?_
    refine w_seq ?_
    refine w_region ?_
    refine r_pures [_, _, _] S0 rfl ?_
    clear S0; intro a0 S0
    refine wl_nil ?_
    refine nr_then ?_
    refine w_ret ?_
    refine ret_then ?_
    obtain rfl := Option.some.inj H
    replace Hq := HS.own_nil e_i64 3 Hq
    refine ret2 S0 rfl rfl rfl ?_
    replace Hq := HS.pull [_, _, _] Hq
    dsimp only [List.cons_append, List.nil_append] at Hq
    replace Hq := HS.pull [_] Hq
    dsimp only [List.cons_append, List.nil_append] at Hq
    replace Hq := HS.keep [_, _] Hq
    exact ⟨none, 0, 0, rfl, Hq⟩

end Go.Proofs.Ythlogangnppghaa.M
