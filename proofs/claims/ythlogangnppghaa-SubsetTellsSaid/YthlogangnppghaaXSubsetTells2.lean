/- The law SubsetTells of the seat Ythlogangnppghaa: whatever the input, the call ends, answers true, and what came in reads as it did. This text is part 2 of 3, joined out of the session's texts. -/
import Derived.Test.YthlogangnppghaaXSubsetTells1
/- (waybill/subset.dealer).hand: a plain function, and that the machine's call comes to it: printed by a program of the session's own. -/
set_option linter.unusedVariables false
set_option linter.unusedSimpArgs false
namespace Go.Proofs.Ythlogangnppghaa.M
open Go Go.Proofs.Ythlogangnppghaa.Sl
/-! ### (waybill/subset.dealer).hand: function 28 -/
def subset_dealer_hand.l0 : Nat → subset_dealer → subset_place → (List Int) → Int → (List Int) → Option ((List Int))
  | 0, _, _, _, _, _ => none
  | k + 1, x_d, x_p, z29t, z47x, z48x => if z47x < (((z29t.take (Int.toNat (IntKind.i64.wrap ((IntKind.i64.wrap (x_p.at_ + 1)) * x_d.size)))).drop (Int.toNat (IntKind.i64.wrap (x_p.at_ * x_d.size)))).length : Int) then (if 0 ≤ z47x then (if 0 ≤ (rd e_i64 ((z29t.take (Int.toNat (IntKind.i64.wrap ((IntKind.i64.wrap (x_p.at_ + 1)) * x_d.size)))).drop (Int.toNat (IntKind.i64.wrap (x_p.at_ * x_d.size)))) z47x) then (if (rd e_i64 ((z29t.take (Int.toNat (IntKind.i64.wrap ((IntKind.i64.wrap (x_p.at_ + 1)) * x_d.size)))).drop (Int.toNat (IntKind.i64.wrap (x_p.at_ * x_d.size)))) z47x) < (x_d.ids.length : Int) then (if z48x.length + ([(rd e_i64 x_d.ids (rd e_i64 ((z29t.take (Int.toNat (IntKind.i64.wrap ((IntKind.i64.wrap (x_p.at_ + 1)) * x_d.size)))).drop (Int.toNat (IntKind.i64.wrap (x_p.at_ * x_d.size)))) z47x))] : List Int).length < 17592186044416 then (subset_dealer_hand.l0 k x_d x_p z29t (IntKind.i64.wrap (z47x + 1)) (z48x ++ ([(rd e_i64 x_d.ids (rd e_i64 ((z29t.take (Int.toNat (IntKind.i64.wrap ((IntKind.i64.wrap (x_p.at_ + 1)) * x_d.size)))).drop (Int.toNat (IntKind.i64.wrap (x_p.at_ * x_d.size)))) z47x))] : List Int))) else (none)) else (none)) else (none)) else (none)) else (some z48x)
def subset_dealer_hand.f (k : Nat) (x_d : subset_dealer) (x_p : subset_place) : Option (List Int) := if (x_d.ids.length : Int) ≤ x_d.size then ((slices_Clone_int_int.f x_d.ids).bind fun z7t => (some z7t)) else ((hash_Ints.f k x_d.seed ([x_p.round] : List Int)).bind fun z25t => ((draw_Shuffle.f k z25t (x_d.ids.length : Int)).bind fun (z28t, z29t, z30t) => (if 0 ≤ (IntKind.i64.wrap (x_p.at_ * x_d.size)) then (if (IntKind.i64.wrap (x_p.at_ * x_d.size)) ≤ (IntKind.i64.wrap ((IntKind.i64.wrap (x_p.at_ + 1)) * x_d.size)) then (if (IntKind.i64.wrap ((IntKind.i64.wrap (x_p.at_ + 1)) * x_d.size)) ≤ (z29t.length : Int) then ((((subset_dealer_hand.l0 k x_d x_p z29t 0 ([] : List Int))) : Option ((List Int))).bind fun z43x => ((slices_Sort_int_int.f z43x).bind fun z67t => (some z67t))) else (none)) else (none)) else (none))))
set_option maxRecDepth 100000 in
set_option maxHeartbeats 4000000 in
theorem subset_dealer_hand.calls (k : Nat) (A0x0 : Option Addr) (n0x0 c0x0 : Nat) (x_d : subset_dealer) (x_p : subset_place) (W0 : World) (X : Heap) (HR0x0 : Rd e_i64 X A0x0 n0x0 c0x0 x_d.ids) (Hq : HS W0 [isH X] W0) (r : List Int) (H : subset_dealer_hand.f k x_d x_p = some r) :
    Calls Try.prog 28 #[.agg #[.slice A0x0 n0x0 c0x0, .int .i64 x_d.size, .int .u64 x_d.seed], .agg #[.int .i64 x_p.round, .int .i64 x_p.at_]] W0 (fun e w => ∃ Ar0 nr0 cr0, e = .returned (.slice Ar0 nr0 cr0) ∧ HS W0 [own e_i64 3 Ar0 nr0 cr0 r, isH X] w) := by
  obtain rfl := HR0x0.1
  rw [subset_dealer_hand.f] at H
  refine calls_in Try.func28 rfl rfl ?_
  intro a0 S0
  refine w_seq ?_
  refine w_region ?_
  refine r_box (vs := [.slice A0x0 x_d.ids.length c0x0, .int .i64 x_d.size, .int .u64 x_d.seed]) S0 Hq rfl rfl rfl ?_
  clear S0 Hq; intro z1b a0 w S0 Hq
  refine r_box (vs := [.int .i64 x_p.round, .int .i64 x_p.at_]) S0 Hq rfl rfl rfl ?_
  clear S0 Hq; intro z3b a0 w S0 Hq
  refine r_pures [_] S0 rfl ?_
  clear S0; intro a0 S0
  refine wl_nil ?_
  refine nr_then ?_
  refine w_seq ?_
  refine w_seq ?_
  refine w_region ?_
  refine r_fieldAddr S0 rfl fo45x0 (0) rfl rfl ?_
  clear S0; intro a0 S0
  refine r_ldS [_] S0 Hq rfl ti22 _ rfl rfl ?_
  clear S0; intro a0 S0
  refine r_len S0 rfl sl22 rfl ?_
  clear S0; intro a0 S0
  refine r_fieldAddr S0 rfl fo45x1 (1) rfl rfl ?_
  clear S0; intro a0 S0
  refine r_ldS [_] S0 Hq rfl ti3 _ rfl rfl ?_
  clear S0; intro a0 S0
  refine r_pures [_] S0 rfl ?_
  clear S0; intro a0 S0
  refine wl_nil ?_
  refine nr_then ?_
  by_cases z5h : (x_d.ids.length : Int) ≤ x_d.size
  · replace H := (if_pos z5h).symm.trans H
    refine w_true S0 rfl (decide_eq_true z5h) ?_
    refine w_seq ?_
    refine w_region ?_
    refine r_fieldAddr S0 rfl fo45x0 (0) rfl rfl ?_
    clear S0; intro a0 S0
    refine r_ldS [_] S0 Hq rfl ti22 _ rfl rfl ?_
    clear S0; intro a0 S0
    obtain ⟨Xz6, HXz6, HPz6, HBz6⟩ := call_frame [] Hq
    dsimp only [List.cons_append, List.nil_append] at HXz6 HBz6
    obtain ⟨z7t, Hc, H⟩ := Option.bind_eq_some_iff.mp H
    refine r_call S0 rfl rfl goes32 rfl ?_
    refine (slices_Clone_int_int.calls _ _ _ x_d.ids _ _ (sl_isH_rd [_, _] HPz6 HR0x0) HXz6 z7t Hc).mono ?_
    rintro e w ⟨z8A, z9m, z10n, rfl, Hq'⟩
    have Hq : HS W0 [own e_i64 3 z8A z9m z10n z7t, bx z3b 57 [.int .i64 x_p.round, .int .i64 x_p.at_], bx z1b 45 [.slice A0x0 x_d.ids.length c0x0, .int .i64 x_d.size, .int .u64 x_d.seed], isH X] w := HBz6 [_] _ Hq'
    clear HXz6 HPz6 HBz6 Hq'
    obtain rfl := own_len [] Hq
    refine ⟨.slice z8A z7t.length z10n, rfl, ?_⟩; clear S0; intro a0 S0
    refine r_pures [_] S0 rfl ?_
    clear S0; intro a0 S0
    refine wl_nil ?_
    refine nr_then ?_
    refine w_ret ?_
    refine ret_then ?_
    obtain rfl := Option.some.inj H
    refine ret1 S0 rfl rfl ?_
    replace Hq := HS.pull [_, _, _] Hq
    dsimp only [List.cons_append, List.nil_append] at Hq
    replace Hq := HS.pull [_] Hq
    dsimp only [List.cons_append, List.nil_append] at Hq
    replace Hq := HS.keep [_, _] Hq
    exact ⟨z8A, z7t.length, z10n, rfl, Hq⟩
  · replace H := (if_neg z5h).symm.trans H
    refine w_false S0 rfl (decide_eq_false z5h) ?_
    refine w_skip ?_
    refine nr_then ?_
    refine w_seq ?_
    refine w_draw TryM.mixed [.pu 0, .pu 2, .pu 6, .rd 1, .rd 3, .rd 7, .pu 8, .ef 4, .ef 5, .ef 9, .pu 10, .pu 11, .pu 12, .pu 13, .pu 14, .pu 15, .pu 16] (by kernel_rfl) rfl ?_
    replace Hq := Hq.drew
    refine st_pu S0 rfl (g_none rfl) rfl rfl (fun _ => y_fieldAddr S0 rfl fo45x2 (2) rfl) ?_
    intro az12q Sz12q
    refine st_pu Sz12q rfl (g_none rfl) rfl rfl (fun _ => y_fieldAddr Sz12q rfl fo57x0 (0) rfl) ?_
    intro az13q Sz13q
    refine st_pu Sz13q rfl (g_none rfl) rfl rfl (fun _ => y_fieldAddr Sz13q rfl fo45x0 (0) rfl) ?_
    intro az14q Sz14q
    refine st_rd Sz14q rfl (g_none rfl) rfl rfl (y_ldS [_] Sz14q Hq rfl ti23 _ rfl) ?_
    intro az15q Sz15q
    refine st_rd Sz15q rfl (g_none rfl) rfl rfl (y_ldS [] Sz15q Hq rfl ti3 _ rfl) ?_
    intro az16q Sz16q
    refine st_rd Sz16q rfl (g_none rfl) rfl rfl (y_ldS [_] Sz16q Hq rfl ti22 _ rfl) ?_
    intro az17q Sz17q
    refine st_pu Sz17q rfl (g_none rfl) rfl rfl (fun _ => y_len Sz17q rfl sl22) ?_
    intro az18q Sz18q
    refine st_ef rfl ?_
    have Sz19q := Sz18q
    refine r_lit (e := e_i64) (l := ([x_p.round] : List Int)) (m := 1) (vs := [.int .i64 x_p.round]) Sz19q Hq sl22 ti3 rfl rfl rfl rfl rfl rfl ?_
    clear Sz19q Hq; intro z20b az18q w Sz19q Hq
    refine wl_nil ?_
    refine nr_then ?_
    refine ⟨⟨⟨⟨trivial, y_ldS [_, _] Sz14q Hq rfl ti23 _ rfl⟩, y_ldS [_] Sz15q Hq rfl ti3 _ rfl⟩, y_ldS [_, _] Sz16q Hq rfl ti22 _ rfl⟩, ?_⟩
    refine st_ef rfl ?_
    have Sz23q := Sz19q
    obtain ⟨Xz24, HXz24, HPz24, HBz24⟩ := call_frame [] Hq
    dsimp only [List.cons_append, List.nil_append] at HXz24 HBz24
    obtain ⟨z25t, Hc, H⟩ := Option.bind_eq_some_iff.mp H
    refine r_call Sz23q rfl rfl goes40 rfl ?_
    refine (hash_Ints.calls _ x_d.seed _ _ _ ([x_p.round] : List Int) _ _ (sl_own_rd [] HPz24) HXz24 z25t Hc).mono ?_
    rintro e w ⟨rfl, Hq'⟩
    have Hq : HS W0 [own e_i64 3 (some ⟨z20b, 0, none⟩) 1 1 ([x_p.round] : List Int), bx z3b 57 [.int .i64 x_p.round, .int .i64 x_p.at_], bx z1b 45 [.slice A0x0 x_d.ids.length c0x0, .int .i64 x_d.size, .int .u64 x_d.seed], isH X] w := HBz24 [] _ Hq'
    clear HXz24 HPz24 HBz24 Hq'
    refine ⟨.int .u64 z25t, rfl, ?_⟩; clear Sz23q; intro az18q Sz23q
    refine wl_nil ?_
    refine nr_then ?_
    refine ⟨⟨⟨⟨trivial, y_ldS [_, _] Sz14q Hq rfl ti23 _ rfl⟩, y_ldS [_] Sz15q Hq rfl ti3 _ rfl⟩, y_ldS [_, _] Sz16q Hq rfl ti22 _ rfl⟩, ?_⟩
    refine st_ef rfl ?_
    have Sz26q := Sz23q
    obtain ⟨Xz27, HXz27, HPz27, HBz27⟩ := call_frame [] Hq
    dsimp only [List.cons_append, List.nil_append] at HXz27 HBz27
    obtain ⟨⟨z28t, z29t, z30t⟩, Hc, H⟩ := Option.bind_eq_some_iff.mp H
    dsimp only at H
    refine r_call Sz26q rfl rfl goes39 rfl ?_
    refine (draw_Shuffle.calls _ z25t (x_d.ids.length : Int) _ _  HXz27 (z28t, z29t, z30t) Hc).mono ?_
    rintro e w ⟨z31A, z32m, z33n, rfl, Hq'⟩
    have Hq : HS W0 [own e_i64 3 z31A z32m z33n z29t, own e_i64 3 (some ⟨z20b, 0, none⟩) 1 1 ([x_p.round] : List Int), bx z3b 57 [.int .i64 x_p.round, .int .i64 x_p.at_], bx z1b 45 [.slice A0x0 x_d.ids.length c0x0, .int .i64 x_d.size, .int .u64 x_d.seed], isH X] w := HBz27 [_] _ Hq'
    clear HXz27 HPz27 HBz27 Hq'
    obtain rfl := own_len [] Hq
    refine ⟨.tuple #[.int .u64 z28t, .slice z31A z29t.length z33n, .int .i64 z30t], rfl, ?_⟩; clear Sz26q; intro az18q Sz26q
    refine wl_nil ?_
    refine nr_then ?_
    refine ⟨⟨⟨⟨trivial, y_ldS [_, _, _] Sz14q Hq rfl ti23 _ rfl⟩, y_ldS [_, _] Sz15q Hq rfl ti3 _ rfl⟩, y_ldS [_, _, _] Sz16q Hq rfl ti22 _ rfl⟩, ?_⟩
    refine st_pures [10, 11, 12, 13, 14, 15, 16] Sz26q rfl ?_
    intro az35q Sz35q
    refine st_nil ?_
    replace S0 := Sz35q
    refine nr_then ?_
    refine w_seq ?_
    refine w_region ?_
    refine r_pures [_] S0 rfl ?_
    clear S0; intro a0 S0
    refine wl_nil ?_
    refine nr_then ?_
    refine w_seq ?_
    refine w_seq ?_
    refine w_region ?_
    refine r_pures [_] S0 rfl ?_
    clear S0; intro a0 S0
    refine r_fieldAddr S0 rfl fo57x1 (1) rfl rfl ?_
    clear S0; intro a0 S0
    refine r_ldS [_, _] S0 Hq rfl ti3 _ rfl rfl ?_
    clear S0; intro a0 S0
    refine r_fieldAddr S0 rfl fo45x1 (1) rfl rfl ?_
    clear S0; intro a0 S0
    refine r_ldS [_, _, _] S0 Hq rfl ti3 _ rfl rfl ?_
    clear S0; intro a0 S0
    refine r_pures [_] S0 rfl ?_
    clear S0; intro a0 S0
    refine r_fieldAddr S0 rfl fo57x1 (1) rfl rfl ?_
    clear S0; intro a0 S0
    refine r_ldS [_, _] S0 Hq rfl ti3 _ rfl rfl ?_
    clear S0; intro a0 S0
    refine r_pures [_] S0 rfl ?_
    clear S0; intro a0 S0
    refine r_fieldAddr S0 rfl fo45x1 (1) rfl rfl ?_
    clear S0; intro a0 S0
    refine r_ldS [_, _, _] S0 Hq rfl ti3 _ rfl rfl ?_
    clear S0; intro a0 S0
    refine r_pures [_] S0 rfl ?_
    clear S0; intro a0 S0
    by_cases z36h : 0 ≤ (IntKind.i64.wrap (x_p.at_ * x_d.size))
    · replace H := (if_pos z36h).symm.trans H
      by_cases z37h : (IntKind.i64.wrap (x_p.at_ * x_d.size)) ≤ (IntKind.i64.wrap ((IntKind.i64.wrap (x_p.at_ + 1)) * x_d.size))
      · replace H := (if_pos z37h).symm.trans H
        by_cases z38h : (IntKind.i64.wrap ((IntKind.i64.wrap (x_p.at_ + 1)) * x_d.size)) ≤ (z29t.length : Int)
        · replace H := (if_pos z38h).symm.trans H
          refine r_cutR S0 rfl sl22 ti3 (own_rd [] Hq) (IntKind.i64.wrap (x_p.at_ * x_d.size)) (IntKind.i64.wrap ((IntKind.i64.wrap (x_p.at_ + 1)) * x_d.size)) rfl rfl z36h z37h z38h rfl ((z29t.take (Int.toNat (IntKind.i64.wrap ((IntKind.i64.wrap (x_p.at_ + 1)) * x_d.size)))).drop (Int.toNat (IntKind.i64.wrap (x_p.at_ * x_d.size)))) rfl ?_
          clear S0; intro z39A z40n a0 z41hC S0
          refine r_len S0 rfl sl22 rfl ?_
          clear S0; intro a0 S0
          refine r_pures [_] S0 rfl ?_
          clear S0; intro a0 S0
          refine wl_nil ?_
          refine nr_then ?_
          replace Hq := HS.own_nil e_i64 3 Hq
          obtain ⟨z43x, H, HU1⟩ := Option.bind_eq_some_iff.mp H
          refine w_cutT (fun a w => ∃ z44A z45m z46n, Sl 64 [] [(8, .slice z44A z45m z46n)] a ∧ HS W0 [own e_i64 3 z44A z45m z46n z43x, isH X] w) ?_ ?_
          · skip
            refine w_block ?_
            replace Hq := HS.pull [_, _, _, _, _] Hq
            dsimp only [List.cons_append, List.nil_append] at Hq
            replace Hq := HS.pull [_, _, _, _, _] Hq
            dsimp only [List.cons_append, List.nil_append] at Hq
            replace Hq := HS.pull [_, _, _] Hq
            dsimp only [List.cons_append, List.nil_append] at Hq
            replace Hq := HS.pull [_, _, _] Hq
            dsimp only [List.cons_append, List.nil_append] at Hq
            replace Hq := HS.keep [_, _, _, _] Hq
            refine w_loop (fun kq a w => ∃ z47x z48x z49A z50m z51n, subset_dealer_hand.l0 kq x_d x_p z29t z47x z48x = some z43x ∧ Sl 64 [] [(2, .pointer (some ⟨z1b, 0, none⟩)), (8, .slice z49A z50m z51n), (46, .slice z39A (((z29t.take (Int.toNat (IntKind.i64.wrap ((IntKind.i64.wrap (x_p.at_ + 1)) * x_d.size)))).drop (Int.toNat (IntKind.i64.wrap (x_p.at_ * x_d.size)))).length) z40n), (47, .int .i64 (((z29t.take (Int.toNat (IntKind.i64.wrap ((IntKind.i64.wrap (x_p.at_ + 1)) * x_d.size)))).drop (Int.toNat (IntKind.i64.wrap (x_p.at_ * x_d.size)))).length : Int)), (48, .int .i64 z47x)] a ∧ HS W0 [own e_i64 3 z49A z50m z51n z48x, own e_i64 3 z31A z29t.length z33n z29t, bx z1b 45 [.slice A0x0 x_d.ids.length c0x0, .int .i64 x_d.size, .int .u64 x_d.seed], isH X] w) _ ⟨0, ([] : List Int), none, 0, 0, H, S0.sub ⟨rfl, rfl, rfl, rfl, rfl, trivial⟩, Hq⟩ ?_
            clear H Hq S0
            rintro k0 a w ⟨z47x, z48x, z49A, z50m, z51n, H, S0, Hq⟩
            cases k0 with
            | zero => simp [subset_dealer_hand.l0] at H
            | succ k0 =>
              refine ⟨k0, rfl, ?_⟩
              rw [subset_dealer_hand.l0] at H
              obtain rfl := own_len [] Hq
              refine w_seq ?_
              refine w_region ?_
              refine r_pures [_] S0 rfl ?_
              clear S0; intro a0 S0
              refine wl_nil ?_
              refine nr_then ?_
              refine w_seq ?_
              by_cases z52h : z47x < (((z29t.take (Int.toNat (IntKind.i64.wrap ((IntKind.i64.wrap (x_p.at_ + 1)) * x_d.size)))).drop (Int.toNat (IntKind.i64.wrap (x_p.at_ * x_d.size)))).length : Int)
              · replace H := (if_pos z52h).symm.trans H
                refine w_true S0 rfl (decide_eq_true z52h) ?_
                refine w_skip ?_
                refine nr_then ?_
                refine w_seq ?_
                refine w_block ?_
                refine w_seq ?_
                refine w_region ?_
                by_cases z53h : 0 ≤ z47x
                · replace H := (if_pos z53h).symm.trans H
                  obtain ⟨z54b, z55o, rfl⟩ := (z41hC _ (own_rd [_] Hq)).at (by omega)
                  refine r_index S0 rfl rfl sl22 ti3 z53h z52h rfl ?_
                  clear S0; intro a0 S0
                  refine r_elS S0 (z41hC _ (own_rd [_] Hq)) z53h z52h rfl ti3 _ rfl rfl ?_
                  clear S0; intro a0 S0
                  refine r_pures [_] S0 rfl ?_
                  clear S0; intro a0 S0
                  refine wl_nil ?_
                  refine nr_then ?_
                  refine w_region ?_
                  refine r_pures [_] S0 rfl ?_
                  clear S0; intro a0 S0
                  refine r_fieldAddr S0 rfl fo45x0 (0) rfl rfl ?_
                  clear S0; intro a0 S0
                  refine r_ldS [_, _] S0 Hq rfl ti22 _ rfl rfl ?_
                  clear S0; intro a0 S0
                  refine r_pures [_] S0 rfl ?_
                  clear S0; intro a0 S0
                  by_cases z56h : 0 ≤ (rd e_i64 ((z29t.take (Int.toNat (IntKind.i64.wrap ((IntKind.i64.wrap (x_p.at_ + 1)) * x_d.size)))).drop (Int.toNat (IntKind.i64.wrap (x_p.at_ * x_d.size)))) z47x)
                  · replace H := (if_pos z56h).symm.trans H
                    by_cases z57h : (rd e_i64 ((z29t.take (Int.toNat (IntKind.i64.wrap ((IntKind.i64.wrap (x_p.at_ + 1)) * x_d.size)))).drop (Int.toNat (IntKind.i64.wrap (x_p.at_ * x_d.size)))) z47x) < (x_d.ids.length : Int)
                    · replace H := (if_pos z57h).symm.trans H
                      obtain ⟨z58b, z59o, rfl⟩ := (isH_rd [_, _, _] Hq HR0x0).at (by omega)
                      refine r_index S0 rfl rfl sl22 ti3 z56h z57h rfl ?_
                      clear S0; intro a0 S0
                      refine r_elS S0 (isH_rd [_, _, _] Hq HR0x0) z56h z57h rfl ti3 _ rfl rfl ?_
                      clear S0; intro a0 S0
                      refine r_lit (e := e_i64) (l := ([(rd e_i64 x_d.ids (rd e_i64 ((z29t.take (Int.toNat (IntKind.i64.wrap ((IntKind.i64.wrap (x_p.at_ + 1)) * x_d.size)))).drop (Int.toNat (IntKind.i64.wrap (x_p.at_ * x_d.size)))) z47x))] : List Int)) (m := 1) (vs := [.int .i64 (rd e_i64 x_d.ids (rd e_i64 ((z29t.take (Int.toNat (IntKind.i64.wrap ((IntKind.i64.wrap (x_p.at_ + 1)) * x_d.size)))).drop (Int.toNat (IntKind.i64.wrap (x_p.at_ * x_d.size)))) z47x))]) S0 Hq sl22 ti3 rfl rfl rfl rfl rfl rfl ?_
                      clear S0 Hq; intro z60b a0 w S0 Hq
                      by_cases z63h : z48x.length + ([(rd e_i64 x_d.ids (rd e_i64 ((z29t.take (Int.toNat (IntKind.i64.wrap ((IntKind.i64.wrap (x_p.at_ + 1)) * x_d.size)))).drop (Int.toNat (IntKind.i64.wrap (x_p.at_ * x_d.size)))) z47x))] : List Int).length < 17592186044416
                      · replace H := (if_pos z63h).symm.trans H
                        refine r_app [_] S0 Hq (own_rd [] Hq) rfl rfl sl22 ti3 rfl z63h rfl rfl ?_
                        clear S0 Hq; intro z64A z65n a0 w S0 Hq; dsimp only [List.cons_append, List.nil_append] at Hq
                        refine r_pures [_] S0 rfl ?_
                        clear S0; intro a0 S0
                        refine wl_nil ?_
                        refine nr_in ?_
                        refine nr_then ?_
                        refine w_region ?_
                        refine r_pures [_, _] S0 rfl ?_
                        clear S0; intro a0 S0
                        refine wl_nil ?_
                        refine nr_then ?_
                        replace Hq := HS.pull [_, _, _, _] Hq
                        dsimp only [List.cons_append, List.nil_append] at Hq
                        replace Hq := HS.pull [_, _, _, _] Hq
                        dsimp only [List.cons_append, List.nil_append] at Hq
                        replace Hq := HS.pull [_, _, _, _] Hq
                        dsimp only [List.cons_append, List.nil_append] at Hq
                        replace Hq := HS.pull [_, _, _, _] Hq
                        dsimp only [List.cons_append, List.nil_append] at Hq
                        replace Hq := HS.keep [_, _, _, _] Hq
                        exact ⟨(IntKind.i64.wrap (z47x + 1)), (z48x ++ ([(rd e_i64 x_d.ids (rd e_i64 ((z29t.take (Int.toNat (IntKind.i64.wrap ((IntKind.i64.wrap (x_p.at_ + 1)) * x_d.size)))).drop (Int.toNat (IntKind.i64.wrap (x_p.at_ * x_d.size)))) z47x))] : List Int)), z64A, ((z48x ++ ([(rd e_i64 x_d.ids (rd e_i64 ((z29t.take (Int.toNat (IntKind.i64.wrap ((IntKind.i64.wrap (x_p.at_ + 1)) * x_d.size)))).drop (Int.toNat (IntKind.i64.wrap (x_p.at_ * x_d.size)))) z47x))] : List Int)).length), z65n, H, S0.sub ⟨rfl, rfl, rfl, rfl, rfl, trivial⟩, Hq⟩
                      · replace H := (if_neg z63h).symm.trans H
                        exact nomatch H
                    · replace H := (if_neg z57h).symm.trans H
                      exact nomatch H
                  · replace H := (if_neg z56h).symm.trans H
                    exact nomatch H
                · replace H := (if_neg z53h).symm.trans H
                  exact nomatch H
              · replace H := (if_neg z52h).symm.trans H
                refine w_false S0 rfl (decide_eq_false z52h) ?_
                refine w_exit ?_
                refine ex_then ?_
                refine ex_then ?_
                refine ex_in ?_
                refine nr_then ?_
                replace Hq := HS.pull [_, _, _] Hq
                dsimp only [List.cons_append, List.nil_append] at Hq
                replace Hq := HS.pull [_] Hq
                dsimp only [List.cons_append, List.nil_append] at Hq
                replace Hq := HS.keep [_, _] Hq
                obtain rfl := Option.some.inj H
                exact ⟨z49A, z48x.length, z51n, S0.sub ⟨rfl, trivial⟩, Hq⟩
          · clear S0; rintro a w ⟨z44A, z45m, z46n, S0, Hq⟩
            have H := HU1; clear HU1
            obtain rfl := own_len [] Hq
            refine nr_then ?_
            refine w_seq ?_
            refine w_region ?_
            refine r_pures [_] S0 rfl ?_
            clear S0; intro a0 S0
            obtain ⟨Xz66, HXz66, HPz66, HBz66⟩ := call_frame [_] Hq
            dsimp only [List.cons_append, List.nil_append] at HXz66 HBz66
            obtain ⟨z67t, Hc, H⟩ := Option.bind_eq_some_iff.mp H
            refine r_call S0 rfl rfl goes35 rfl ?_
            refine (slices_Sort_int_int.calls _ _ _ z43x _ _  HXz66 z67t Hc).mono ?_
            rintro e w ⟨rfl, Hq'⟩
            have Hq : HS W0 [own e_i64 3 z44A z43x.length z46n z67t, isH X] w := HBz66 [_] _ Hq'
            clear HXz66 HPz66 HBz66 Hq'
            refine ⟨.tuple #[], rfl, ?_⟩; clear S0; intro a0 S0
            refine wl_nil ?_
            refine nr_then ?_
            refine w_seq ?_
            refine w_region ?_
            refine r_pures [_, _] S0 rfl ?_
            clear S0; intro a0 S0
            refine wl_nil ?_
            refine nr_then ?_
            refine w_ret ?_
            obtain rfl := Option.some.inj H
            refine ret1 S0 rfl rfl ?_
            replace Hq := HS.pull [_] Hq
            dsimp only [List.cons_append, List.nil_append] at Hq
            replace Hq := HS.pull [_] Hq
            dsimp only [List.cons_append, List.nil_append] at Hq
            exact ⟨z44A, z43x.length, z46n, rfl, Hq⟩
        · replace H := (if_neg z38h).symm.trans H
          exact nomatch H
      · replace H := (if_neg z37h).symm.trans H
        exact nomatch H
    · replace H := (if_neg z36h).symm.trans H
      exact nomatch H

end Go.Proofs.Ythlogangnppghaa.M

/- (waybill/subset.dealer).of: a plain function, and that the machine's call comes to it: printed by a program of the session's own. -/
set_option linter.unusedVariables false
set_option linter.unusedSimpArgs false
namespace Go.Proofs.Ythlogangnppghaa.M
open Go Go.Proofs.Ythlogangnppghaa.Sl
/-! ### (waybill/subset.dealer).of: function 19 -/
def subset_dealer_of.f (k : Nat) (x_d : subset_dealer) (x_client : Int) : Option ((List Int) × Int) := (subset_dealer_check.f k x_d).bind fun z4t => (if z4t = 0 then ((subset_Round.f (x_d.ids.length : Int) x_client x_d.size).bind fun (z7t, z8t, z9t) => (if z9t = 0 then ((subset_dealer_hand.f k x_d (⟨z7t, z8t⟩ : subset_place)).bind fun z12t => (some (z12t, 0))) else (some (([] : List Int), z9t)))) else (some (([] : List Int), z4t)))
set_option maxRecDepth 100000 in
set_option maxHeartbeats 4000000 in
theorem subset_dealer_of.calls (k : Nat) (A0x0 : Option Addr) (n0x0 c0x0 : Nat) (x_d : subset_dealer) (x_client : Int) (W0 : World) (X : Heap) (HR0x0 : Rd e_i64 X A0x0 n0x0 c0x0 x_d.ids) (Hq : HS W0 [isH X] W0) (r : (List Int) × Int) (H : subset_dealer_of.f k x_d x_client = some r) :
    Calls Try.prog 19 #[.agg #[.slice A0x0 n0x0 c0x0, .int .i64 x_d.size, .int .u64 x_d.seed], .int .i64 x_client] W0 (fun e w => ∃ Ar0 nr0 cr0, e = .returned (.tuple #[.slice Ar0 nr0 cr0, .int .i64 r.2]) ∧ HS W0 [own e_i64 3 Ar0 nr0 cr0 r.1, isH X] w) := by
  obtain rfl := HR0x0.1
  rw [subset_dealer_of.f] at H
  refine calls_in Try.func19 rfl rfl ?_
  intro a0 S0
  refine w_seq ?_
  refine w_region ?_
  refine r_box (vs := [.slice A0x0 x_d.ids.length c0x0, .int .i64 x_d.size, .int .u64 x_d.seed]) S0 Hq rfl rfl rfl ?_
  clear S0 Hq; intro z1b a0 w S0 Hq
  refine r_pures [_, _] S0 rfl ?_
  clear S0; intro a0 S0
  refine wl_nil ?_
  refine nr_then ?_
  refine w_seq ?_
  refine w_seq ?_
  refine w_region ?_
  refine r_ldA [] S0 Hq rfl ti45 [.slice A0x0 x_d.ids.length c0x0, .int .i64 x_d.size, .int .u64 x_d.seed] rfl rfl rfl ?_
  clear S0; intro a0 S0
  obtain ⟨Xz3, HXz3, HPz3, HBz3⟩ := call_frame [] Hq
  dsimp only [List.cons_append, List.nil_append] at HXz3 HBz3
  obtain ⟨z4t, Hc, H⟩ := Option.bind_eq_some_iff.mp H
  refine r_call S0 rfl rfl goes27 rfl ?_
  refine (subset_dealer_check.calls _ _ _ _ x_d _ _ (sl_isH_rd [_] HPz3 HR0x0) HXz3 z4t Hc).mono ?_
  rintro e w ⟨rfl, Hq'⟩
  have Hq : HS W0 [bx z1b 45 [.slice A0x0 x_d.ids.length c0x0, .int .i64 x_d.size, .int .u64 x_d.seed], isH X] w := HBz3 [] _ Hq'
  clear HXz3 HPz3 HBz3 Hq'
  refine ⟨.int .i64 z4t, rfl, ?_⟩; clear S0; intro a0 S0
  refine r_pures [_] S0 rfl ?_
  clear S0; intro a0 S0
  refine wl_nil ?_
  refine nr_then ?_
  refine w_seq ?_
  refine w_region ?_
  refine r_pures [_, _] S0 rfl ?_
  clear S0; intro a0 S0
  refine wl_nil ?_
  refine nr_then ?_
  by_cases z5h : z4t = 0
  · replace H := (if_pos z5h).symm.trans H
    refine w_false S0 rfl (congrArg (!·) (decide_eq_true z5h)) ?_
    refine w_skip ?_
    refine nr_then ?_
    refine w_seq ?_
    refine w_region ?_
    refine r_fieldAddr S0 rfl fo45x0 (0) rfl rfl ?_
    clear S0; intro a0 S0
    refine r_ldS [] S0 Hq rfl ti22 _ rfl rfl ?_
    clear S0; intro a0 S0
    refine r_len S0 rfl sl22 rfl ?_
    clear S0; intro a0 S0
    refine r_pures [_] S0 rfl ?_
    clear S0; intro a0 S0
    refine r_fieldAddr S0 rfl fo45x1 (1) rfl rfl ?_
    clear S0; intro a0 S0
    refine r_ldS [] S0 Hq rfl ti3 _ rfl rfl ?_
    clear S0; intro a0 S0
    obtain ⟨Xz6, HXz6, HPz6, HBz6⟩ := call_frame [] Hq
    dsimp only [List.cons_append, List.nil_append] at HXz6 HBz6
    obtain ⟨⟨z7t, z8t, z9t⟩, Hc, H⟩ := Option.bind_eq_some_iff.mp H
    dsimp only at H
    refine r_call S0 rfl rfl goes14 rfl ?_
    refine (subset_Round.calls (x_d.ids.length : Int) x_client x_d.size _ _  HXz6 (z7t, z8t, z9t) Hc).mono ?_
    rintro e w ⟨rfl, Hq'⟩
    have Hq : HS W0 [bx z1b 45 [.slice A0x0 x_d.ids.length c0x0, .int .i64 x_d.size, .int .u64 x_d.seed], isH X] w := HBz6 [] _ Hq'
    clear HXz6 HPz6 HBz6 Hq'
    refine ⟨.tuple #[.int .i64 z7t, .int .i64 z8t, .int .i64 z9t], rfl, ?_⟩; clear S0; intro a0 S0
    refine r_pures [_, _, _, _, _, _, _] S0 rfl ?_
    clear S0; intro a0 S0
    refine wl_nil ?_
    refine nr_then ?_
    refine w_seq ?_
    refine w_seq ?_
    refine w_region ?_
    refine r_pures [_, _] S0 rfl ?_
    clear S0; intro a0 S0
    refine wl_nil ?_
    refine nr_then ?_
    by_cases z10h : z9t = 0
    · replace H := (if_pos z10h).symm.trans H
      refine w_false S0 rfl (congrArg (!·) (decide_eq_true z10h)) ?_
      refine w_skip ?_
      refine nr_then ?_
      refine w_seq ?_
      refine w_region ?_
      refine r_ldA [] S0 Hq rfl ti45 [.slice A0x0 x_d.ids.length c0x0, .int .i64 x_d.size, .int .u64 x_d.seed] rfl rfl rfl ?_
      clear S0; intro a0 S0
      refine r_pures [_, _] S0 rfl ?_
      clear S0; intro a0 S0
      refine r_build S0 ti57 pl57 rfl [.int .i64 z7t, .int .i64 z8t] rfl rfl ?_
      clear S0; intro a0 S0
      obtain ⟨Xz11, HXz11, HPz11, HBz11⟩ := call_frame [] Hq
      dsimp only [List.cons_append, List.nil_append] at HXz11 HBz11
      obtain ⟨z12t, Hc, H⟩ := Option.bind_eq_some_iff.mp H
      refine r_call S0 rfl rfl goes28 rfl ?_
      refine (subset_dealer_hand.calls _ _ _ _ x_d (⟨z7t, z8t⟩ : subset_place) _ _ (sl_isH_rd [_] HPz11 HR0x0) HXz11 z12t Hc).mono ?_
      rintro e w ⟨z13A, z14m, z15n, rfl, Hq'⟩
      have Hq : HS W0 [own e_i64 3 z13A z14m z15n z12t, bx z1b 45 [.slice A0x0 x_d.ids.length c0x0, .int .i64 x_d.size, .int .u64 x_d.seed], isH X] w := HBz11 [_] _ Hq'
      clear HXz11 HPz11 HBz11 Hq'
      obtain rfl := own_len [] Hq
      refine ⟨.slice z13A z12t.length z15n, rfl, ?_⟩; clear S0; intro a0 S0
      refine r_pures [_, _] S0 rfl ?_
      clear S0; intro a0 S0
      refine wl_nil ?_
      refine nr_then ?_
      refine w_ret ?_
      obtain rfl := Option.some.inj H
      refine ret2 S0 rfl rfl rfl ?_
      replace Hq := HS.pull [_, _] Hq
      dsimp only [List.cons_append, List.nil_append] at Hq
      replace Hq := HS.pull [_] Hq
      dsimp only [List.cons_append, List.nil_append] at Hq
      replace Hq := HS.keep [_, _] Hq
      exact ⟨z13A, z12t.length, z15n, rfl, Hq⟩
    · replace H := (if_neg z10h).symm.trans H
      refine w_true S0 rfl (congrArg (!·) (decide_eq_false z10h)) ?_
      refine w_seq ?_
      refine w_region ?_
      refine r_pures [_, _, _] S0 rfl ?_
      clear S0; intro a0 S0
      refine wl_nil ?_
      refine nr_then ?_
      refine w_ret ?_
      refine ret_then ?_
      obtain rfl := Option.some.inj H
      replace Hq := HS.own_nil e_i64 3 Hq
      refine ret2 S0 rfl rfl rfl ?_
      replace Hq := HS.pull [_, _] Hq
      dsimp only [List.cons_append, List.nil_append] at Hq
      replace Hq := HS.pull [_] Hq
      dsimp only [List.cons_append, List.nil_append] at Hq
      replace Hq := HS.keep [_, _] Hq
      exact ⟨none, 0, 0, rfl, Hq⟩
  · replace H := (if_neg z5h).symm.trans H
    refine w_true S0 rfl (congrArg (!·) (decide_eq_false z5h)) ?_
    refine w_seq ?_
    refine w_region ?_
    refine r_pures [_, _, _] S0 rfl ?_
    clear S0; intro a0 S0
    refine wl_nil ?_
    refine nr_then ?_
    refine w_ret ?_
    refine ret_then ?_
    obtain rfl := Option.some.inj H
    replace Hq := HS.own_nil e_i64 3 Hq
    refine ret2 S0 rfl rfl rfl ?_
    replace Hq := HS.pull [_, _] Hq
    dsimp only [List.cons_append, List.nil_append] at Hq
    replace Hq := HS.pull [_] Hq
    dsimp only [List.cons_append, List.nil_append] at Hq
    replace Hq := HS.keep [_, _] Hq
    exact ⟨none, 0, 0, rfl, Hq⟩

end Go.Proofs.Ythlogangnppghaa.M

/- waybill/subset.Of: a plain function, and that the machine's call comes to it: printed by a program of the session's own. -/
set_option linter.unusedVariables false
set_option linter.unusedSimpArgs false
namespace Go.Proofs.Ythlogangnppghaa.M
open Go Go.Proofs.Ythlogangnppghaa.Sl
/-! ### waybill/subset.Of: function 12 -/
def subset_Of.f (k : Nat) (x_ids : List Int) (x_client : Int) (x_size : Int) (x_seed : Int) : Option ((List Int) × Int) := (subset_dealer_of.f k (⟨x_ids, x_size, x_seed⟩ : subset_dealer) x_client).bind fun (z2t, z3t) => (some (z2t, z3t))
set_option maxRecDepth 100000 in
set_option maxHeartbeats 4000000 in
theorem subset_Of.calls (k : Nat) (A0 : Option Addr) (n0 c0 : Nat) (x_ids : List Int) (x_client : Int) (x_size : Int) (x_seed : Int) (W0 : World) (X : Heap) (HR0 : Rd e_i64 X A0 n0 c0 x_ids) (Hq : HS W0 [isH X] W0) (r : (List Int) × Int) (H : subset_Of.f k x_ids x_client x_size x_seed = some r) :
    Calls Try.prog 12 #[.slice A0 n0 c0, .int .i64 x_client, .int .i64 x_size, .int .u64 x_seed] W0 (fun e w => ∃ Ar0 nr0 cr0, e = .returned (.tuple #[.slice Ar0 nr0 cr0, .int .i64 r.2]) ∧ HS W0 [own e_i64 3 Ar0 nr0 cr0 r.1, isH X] w) := by
  obtain rfl := HR0.1
  rw [subset_Of.f] at H
  refine calls_in Try.func12 rfl rfl ?_
  intro a0 S0
  refine w_seq ?_
  refine w_region ?_
  refine r_pures [_, _] S0 rfl ?_
  clear S0; intro a0 S0
  refine wl_nil ?_
  refine nr_then ?_
  refine w_seq ?_
  refine w_region ?_
  refine r_pures [_, _, _] S0 rfl ?_
  clear S0; intro a0 S0
  refine r_build S0 ti45 pl45 rfl [.slice A0 x_ids.length c0, .int .i64 x_size, .int .u64 x_seed] rfl rfl ?_
  clear S0; intro a0 S0
  refine r_pures [_] S0 rfl ?_
  clear S0; intro a0 S0
  obtain ⟨Xz1, HXz1, HPz1, HBz1⟩ := call_frame [] Hq
  dsimp only [List.cons_append, List.nil_append] at HXz1 HBz1
  obtain ⟨⟨z2t, z3t⟩, Hc, H⟩ := Option.bind_eq_some_iff.mp H
  dsimp only at H
  refine r_call S0 rfl rfl goes19 rfl ?_
  refine (subset_dealer_of.calls _ _ _ _ (⟨x_ids, x_size, x_seed⟩ : subset_dealer) x_client _ _ (sl_isH_rd [] HPz1 HR0) HXz1 (z2t, z3t) Hc).mono ?_
  rintro e w ⟨z4A, z5m, z6n, rfl, Hq'⟩
  have Hq : HS W0 [own e_i64 3 z4A z5m z6n z2t, isH X] w := HBz1 [_] _ Hq'
  clear HXz1 HPz1 HBz1 Hq'
  obtain rfl := own_len [] Hq
  refine ⟨.tuple #[.slice z4A z2t.length z6n, .int .i64 z3t], rfl, ?_⟩; clear S0; intro a0 S0
  refine r_pures [_, _, _, _] S0 rfl ?_
  clear S0; intro a0 S0
  refine wl_nil ?_
  refine nr_then ?_
  refine w_ret ?_
  obtain rfl := Option.some.inj H
  refine ret2 S0 rfl rfl rfl ?_
  replace Hq := HS.pull [_] Hq
  dsimp only [List.cons_append, List.nil_append] at Hq
  replace Hq := HS.pull [_] Hq
  dsimp only [List.cons_append, List.nil_append] at Hq
  exact ⟨z4A, z2t.length, z6n, rfl, Hq⟩

end Go.Proofs.Ythlogangnppghaa.M

/- waybill/waybillplain.SameInts: a plain function, and that the machine's call comes to it: printed by a program of the session's own. -/
set_option linter.unusedVariables false
set_option linter.unusedSimpArgs false
namespace Go.Proofs.Ythlogangnppghaa.M
open Go Go.Proofs.Ythlogangnppghaa.Sl
/-! ### waybill/waybillplain.SameInts: function 18 -/
def waybillplain_SameInts.l0 : Nat → (List Int) → (List Int) → Int → Option (Bool)
  | 0, _, _, _ => none
  | k + 1, x_a, x_b, z2x => if z2x < (x_a.length : Int) then (if 0 ≤ z2x then (if z2x < (x_b.length : Int) then (if (rd e_i64 x_a z2x) = (rd e_i64 x_b z2x) then (waybillplain_SameInts.l0 k x_a x_b (IntKind.i64.wrap (z2x + 1))) else (some false)) else (none)) else (none)) else (some true)
def waybillplain_SameInts.f (k : Nat) (x_a : List Int) (x_b : List Int) : Option (Bool) := if (x_a.length : Int) = (x_b.length : Int) then ((waybillplain_SameInts.l0 k x_a x_b 0)) else (some false)
set_option maxRecDepth 100000 in
set_option maxHeartbeats 4000000 in
theorem waybillplain_SameInts.calls (k : Nat) (A0 : Option Addr) (n0 c0 : Nat) (x_a : List Int) (A1 : Option Addr) (n1 c1 : Nat) (x_b : List Int) (W0 : World) (X : Heap) (HR0 : Rd e_i64 X A0 n0 c0 x_a) (HR1 : Rd e_i64 X A1 n1 c1 x_b) (Hq : HS W0 [isH X] W0) (r : Bool) (H : waybillplain_SameInts.f k x_a x_b = some r) :
    Calls Try.prog 18 #[.slice A0 n0 c0, .slice A1 n1 c1] W0 (fun e w => e = .returned (.bool r) ∧ HS W0 [isH X] w) := by
  obtain rfl := HR0.1
  obtain rfl := HR1.1
  rw [waybillplain_SameInts.f] at H
  refine calls_in Try.func18 rfl rfl ?_
  intro a0 S0
  refine w_seq ?_
  refine w_region ?_
  refine r_pures [_] S0 rfl ?_
  clear S0; intro a0 S0
  refine wl_nil ?_
  refine nr_then ?_
  refine w_seq ?_
  refine w_seq ?_
  refine w_region ?_
  refine r_pures [_] S0 rfl ?_
  clear S0; intro a0 S0
  refine r_len S0 rfl sl22 rfl ?_
  clear S0; intro a0 S0
  refine r_pures [_] S0 rfl ?_
  clear S0; intro a0 S0
  refine r_len S0 rfl sl22 rfl ?_
  clear S0; intro a0 S0
  refine r_pures [_] S0 rfl ?_
  clear S0; intro a0 S0
  refine wl_nil ?_
  refine nr_then ?_
  by_cases z1h : (x_a.length : Int) = (x_b.length : Int)
  · replace H := (if_pos z1h).symm.trans H
    refine w_false S0 rfl (congrArg (!·) (decide_eq_true z1h)) ?_
    refine w_skip ?_
    refine nr_then ?_
    refine w_seq ?_
    refine w_seq ?_
    refine w_region ?_
    refine r_pures [_] S0 rfl ?_
    clear S0; intro a0 S0
    refine wl_nil ?_
    refine nr_then ?_
    refine w_block ?_
    refine w_loop (fun kq a w => ∃ z2x, waybillplain_SameInts.l0 kq x_a x_b z2x = some r ∧ Sl 26 [] [(0, .slice A0 x_a.length c0), (1, .slice A1 x_b.length c1), (5, .int .i64 z2x)] a ∧ HS W0 [isH X] w) _ ⟨0, H, S0.sub ⟨rfl, rfl, rfl, trivial⟩, Hq⟩ ?_
    clear H Hq S0
    rintro k0 a w ⟨z2x, H, S0, Hq⟩
    cases k0 with
    | zero => simp [waybillplain_SameInts.l0] at H
    | succ k0 =>
      refine ⟨k0, rfl, ?_⟩
      rw [waybillplain_SameInts.l0] at H
      refine w_seq ?_
      refine w_seq ?_
      refine w_region ?_
      refine r_pures [_, _] S0 rfl ?_
      clear S0; intro a0 S0
      refine r_len S0 rfl sl22 rfl ?_
      clear S0; intro a0 S0
      refine r_pures [_] S0 rfl ?_
      clear S0; intro a0 S0
      refine wl_nil ?_
      refine nr_then ?_
      by_cases z3h : z2x < (x_a.length : Int)
      · replace H := (if_pos z3h).symm.trans H
        refine w_true S0 rfl (decide_eq_true z3h) ?_
        refine w_skip ?_
        refine nr_then ?_
        refine w_seq ?_
        refine w_block ?_
        refine w_seq ?_
        refine w_draw TryM.mixed [.pu 0, .pu 1, .pu 2, .pu 4, .pu 5, .pu 6, .rd 3, .rd 7, .pu 8] (by kernel_rfl) rfl ?_
        replace Hq := Hq.drew
        refine st_pures [0, 1] S0 rfl ?_
        intro az4q Sz4q
        by_cases z5h : 0 ≤ z2x
        · replace H := (if_pos z5h).symm.trans H
          obtain ⟨z6b, z7o, rfl⟩ := (isH_rd [] Hq HR0).at (by omega)
          refine st_pu Sz4q rfl (g_none rfl) rfl rfl (fun _ => y_index Sz4q rfl rfl sl22 ti3 z5h z3h) ?_
          intro az8q Sz8q
          refine st_pures [4, 5] Sz8q rfl ?_
          intro az9q Sz9q
          by_cases z10h : z2x < (x_b.length : Int)
          · replace H := (if_pos z10h).symm.trans H
            obtain ⟨z11b, z12o, rfl⟩ := (isH_rd [] Hq HR1).at (by omega)
            refine st_pu Sz9q rfl (g_none rfl) rfl rfl (fun _ => y_index Sz9q rfl rfl sl22 ti3 z5h z10h) ?_
            intro az13q Sz13q
            refine st_rd Sz13q rfl (g_none rfl) rfl rfl (y_elS Sz13q (isH_rd [] Hq HR0) z5h z3h rfl ti3 _ rfl) ?_
            intro az14q Sz14q
            refine st_rd Sz14q rfl (g_none rfl) rfl rfl (y_elS Sz14q (isH_rd [] Hq HR1) z5h z10h rfl ti3 _ rfl) ?_
            intro az15q Sz15q
            refine st_pures [8] Sz15q rfl ?_
            intro az16q Sz16q
            refine st_nil ?_
            replace S0 := Sz16q
            refine nr_then ?_
            by_cases z17h : (rd e_i64 x_a z2x) = (rd e_i64 x_b z2x)
            · replace H := (if_pos z17h).symm.trans H
              refine w_false S0 rfl (congrArg (!·) (decide_eq_true z17h)) ?_
              refine w_skip ?_
              refine nr_in ?_
              refine nr_then ?_
              refine w_region ?_
              refine r_pures [_, _, _] S0 rfl ?_
              clear S0; intro a0 S0
              refine wl_nil ?_
              refine nr_then ?_
              exact ⟨(IntKind.i64.wrap (z2x + 1)), H, S0.sub ⟨rfl, rfl, rfl, trivial⟩, Hq⟩
            · replace H := (if_neg z17h).symm.trans H
              refine w_true S0 rfl (congrArg (!·) (decide_eq_false z17h)) ?_
              refine w_seq ?_
              refine w_region ?_
              refine r_pures [_] S0 rfl ?_
              clear S0; intro a0 S0
              refine wl_nil ?_
              refine nr_then ?_
              refine w_ret ?_
              refine ret_in ?_
              refine ret_then ?_
              refine ret_then ?_
              refine ret_in ?_
              refine ret_then ?_
              obtain rfl := Option.some.inj H
              refine ret1 S0 rfl rfl ?_
              exact ⟨rfl, Hq⟩
          · replace H := (if_neg z10h).symm.trans H
            exact nomatch H
        · replace H := (if_neg z5h).symm.trans H
          exact nomatch H
      · replace H := (if_neg z3h).symm.trans H
        refine w_false S0 rfl (decide_eq_false z3h) ?_
        refine w_exit ?_
        refine ex_then ?_
        refine ex_then ?_
        refine ex_in ?_
        refine nr_then ?_
        refine w_seq ?_
        refine w_region ?_
        refine r_pures [_] S0 rfl ?_
        clear S0; intro a0 S0
        refine wl_nil ?_
        refine nr_then ?_
        refine w_ret ?_
        obtain rfl := Option.some.inj H
        refine ret1 S0 rfl rfl ?_
        exact ⟨rfl, Hq⟩
  · replace H := (if_neg z1h).symm.trans H
    refine w_true S0 rfl (congrArg (!·) (decide_eq_false z1h)) ?_
    refine w_seq ?_
    refine w_region ?_
    refine r_pures [_] S0 rfl ?_
    clear S0; intro a0 S0
    refine wl_nil ?_
    refine nr_then ?_
    refine w_ret ?_
    refine ret_then ?_
    obtain rfl := Option.some.inj H
    refine ret1 S0 rfl rfl ?_
    exact ⟨rfl, Hq⟩

end Go.Proofs.Ythlogangnppghaa.M

/- waybill/waybilllaw13.alive: a plain function, and that the machine's call comes to it: printed by a program of the session's own. -/
set_option linter.unusedVariables false
set_option linter.unusedSimpArgs false
namespace Go.Proofs.Ythlogangnppghaa.M
open Go Go.Proofs.Ythlogangnppghaa.Sl
/-! ### waybill/waybilllaw13.alive: function 6 -/
def waybilllaw13_alive.f (k : Nat) : Option (Bool) := (subset_Of.f k ([1, 2, 3] : List Int) 0 3 0).bind fun (z5t, z6t) => ((((waybilllaw13_num.f z6t).bind fun z13t => (if z13t = 0 then ((waybillplain_SameInts.f k z5t ([1, 2, 3] : List Int)).bind fun z19t => (some z19t)) else (some false))) : Option (Bool)).bind fun z11x => (some z11x))
set_option maxRecDepth 100000 in
set_option maxHeartbeats 4000000 in
theorem waybilllaw13_alive.calls (k : Nat)  (W0 : World) (X : Heap)  (Hq : HS W0 [isH X] W0) (r : Bool) (H : waybilllaw13_alive.f k  = some r) :
    Calls Try.prog 6 #[] W0 (fun e w => e = .returned (.bool r) ∧ HS W0 [isH X] w) := by
  rw [waybilllaw13_alive.f] at H
  refine calls_in Try.func6 rfl rfl ?_
  intro a0 S0
  refine w_seq ?_
  refine w_region ?_
  refine r_pures [_] S0 rfl ?_
  clear S0; intro a0 S0
  refine wl_nil ?_
  refine nr_then ?_
  refine w_seq ?_
  refine w_region ?_
  refine r_lit (e := e_i64) (l := ([1, 2, 3] : List Int)) (m := 3) (vs := [.int .i64 1, .int .i64 2, .int .i64 3]) S0 Hq sl22 ti3 rfl rfl rfl rfl rfl rfl ?_
  clear S0 Hq; intro z1b a0 w S0 Hq
  obtain ⟨Xz4, HXz4, HPz4, HBz4⟩ := call_frame [] Hq
  dsimp only [List.cons_append, List.nil_append] at HXz4 HBz4
  obtain ⟨⟨z5t, z6t⟩, Hc, H⟩ := Option.bind_eq_some_iff.mp H
  dsimp only at H
  refine r_call S0 rfl rfl goes12 rfl ?_
  refine (subset_Of.calls _ _ _ _ ([1, 2, 3] : List Int) 0 3 0 _ _ (sl_own_rd [] HPz4) HXz4 (z5t, z6t) Hc).mono ?_
  rintro e w ⟨z7A, z8m, z9n, rfl, Hq'⟩
  have Hq : HS W0 [own e_i64 3 z7A z8m z9n z5t, own e_i64 3 (some ⟨z1b, 0, none⟩) 3 3 ([1, 2, 3] : List Int), isH X] w := HBz4 [_] _ Hq'
  clear HXz4 HPz4 HBz4 Hq'
  obtain rfl := own_len [] Hq
  refine ⟨.tuple #[.slice z7A z5t.length z9n, .int .i64 z6t], rfl, ?_⟩; clear S0; intro a0 S0
  refine r_pures [_, _, _, _, _] S0 rfl ?_
  clear S0; intro a0 S0
  refine wl_nil ?_
  refine nr_then ?_
  refine w_seq ?_
  obtain ⟨z11x, H, HU1⟩ := Option.bind_eq_some_iff.mp H
  refine w_cutT (fun a w => Sl 16 [] [(0, .bool z11x)] a ∧ HS W0 [isH X] w) ?_ ?_
  · skip
    refine w_region ?_
    refine r_pures [_] S0 rfl ?_
    clear S0; intro a0 S0
    obtain ⟨Xz12, HXz12, HPz12, HBz12⟩ := call_frame [] Hq
    dsimp only [List.cons_append, List.nil_append] at HXz12 HBz12
    obtain ⟨z13t, Hc, H⟩ := Option.bind_eq_some_iff.mp H
    refine r_call S0 rfl rfl goes8 rfl ?_
    refine (waybilllaw13_num.calls z6t _ _  HXz12 z13t Hc).mono ?_
    rintro e w ⟨rfl, Hq'⟩
    have Hq : HS W0 [own e_i64 3 z7A z5t.length z9n z5t, own e_i64 3 (some ⟨z1b, 0, none⟩) 3 3 ([1, 2, 3] : List Int), isH X] w := HBz12 [] _ Hq'
    clear HXz12 HPz12 HBz12 Hq'
    refine ⟨.int .i64 z13t, rfl, ?_⟩; clear S0; intro a0 S0
    refine r_pures [_, _] S0 rfl ?_
    clear S0; intro a0 S0
    by_cases z14h : z13t = 0
    · replace H := (if_pos z14h).symm.trans H
      refine r_on S0 rfl rfl rfl (decide_eq_true z14h) ?_
      refine r_pures [_] S0 rfl ?_
      clear S0; intro a0 S0
      refine r_on S0 rfl rfl rfl (decide_eq_true z14h) ?_
      refine r_lit (e := e_i64) (l := ([1, 2, 3] : List Int)) (m := 3) (vs := [.int .i64 1, .int .i64 2, .int .i64 3]) S0 Hq sl22 ti3 rfl rfl rfl rfl rfl rfl ?_
      clear S0 Hq; intro z15b a0 w S0 Hq
      refine r_on S0 rfl rfl rfl (decide_eq_true z14h) ?_
      obtain ⟨Xz18, HXz18, HPz18, HBz18⟩ := call_frame [] Hq
      dsimp only [List.cons_append, List.nil_append] at HXz18 HBz18
      obtain ⟨z19t, Hc, H⟩ := Option.bind_eq_some_iff.mp H
      refine r_call S0 rfl rfl goes18 rfl ?_
      refine (waybillplain_SameInts.calls _ _ _ _ z5t _ _ _ ([1, 2, 3] : List Int) _ _ (sl_own_rd [_] HPz18) (sl_own_rd [] HPz18) HXz18 z19t Hc).mono ?_
      rintro e w ⟨rfl, Hq'⟩
      have Hq : HS W0 [own e_i64 3 (some ⟨z15b, 0, none⟩) 3 3 ([1, 2, 3] : List Int), own e_i64 3 z7A z5t.length z9n z5t, own e_i64 3 (some ⟨z1b, 0, none⟩) 3 3 ([1, 2, 3] : List Int), isH X] w := HBz18 [] _ Hq'
      clear HXz18 HPz18 HBz18 Hq'
      refine ⟨.bool z19t, rfl, ?_⟩; clear S0; intro a0 S0
      refine r_pick S0 rfl (decide_eq_true z14h) _ rfl rfl ?_
      clear S0; intro a0 S0
      refine r_pures [_] S0 rfl ?_
      clear S0; intro a0 S0
      refine wl_nil ?_
      refine nr_then ?_
      replace Hq := HS.pull [_, _, _] Hq
      dsimp only [List.cons_append, List.nil_append] at Hq
      replace Hq := HS.keep [_] Hq
      obtain rfl := Option.some.inj H
      exact ⟨S0.sub ⟨rfl, trivial⟩, Hq⟩
    · replace H := (if_neg z14h).symm.trans H
      refine r_off S0 rfl rfl rfl (decide_eq_false z14h) ?_ rfl
      clear S0; intro a0 S0
      refine r_off S0 rfl rfl rfl (decide_eq_false z14h) ?_ rfl
      clear S0; intro a0 S0
      refine r_off S0 rfl rfl rfl (decide_eq_false z14h) ?_ rfl
      clear S0; intro a0 S0
      refine r_pick S0 rfl (decide_eq_false z14h) _ rfl rfl ?_
      clear S0; intro a0 S0
      refine r_pures [_] S0 rfl ?_
      clear S0; intro a0 S0
      refine wl_nil ?_
      refine nr_then ?_
      replace Hq := HS.pull [_, _] Hq
      dsimp only [List.cons_append, List.nil_append] at Hq
      replace Hq := HS.keep [_] Hq
      obtain rfl := Option.some.inj H
      exact ⟨S0.sub ⟨rfl, trivial⟩, Hq⟩
  · clear S0; rintro a w ⟨S0, Hq⟩
    have H := HU1; clear HU1
    refine nr_then ?_
    refine w_ret ?_
    obtain rfl := Option.some.inj H
    refine ret1 S0 rfl rfl ?_
    exact ⟨rfl, Hq⟩

end Go.Proofs.Ythlogangnppghaa.M

/- waybill/subset.Counts: a plain function, and that the machine's call comes to it: printed by a program of the session's own. -/
set_option linter.unusedVariables false
set_option linter.unusedSimpArgs false
namespace Go.Proofs.Ythlogangnppghaa.M
open Go Go.Proofs.Ythlogangnppghaa.Sl
/-! ### waybill/subset.Counts: function 7 -/
def subset_Counts.l1 : Nat → (List Int) → (List Int) → Int → (List Int) → Option ((List Int))
  | 0, _, _, _, _ => none
  | k + 1, x_ids, z26t, z33x, z34x => if z33x < (z26t.length : Int) then (if 0 ≤ z33x then ((slices_BinarySearch_int_int.f x_ids (rd e_i64 z26t z33x)).bind fun (z39t, z40t) => (if 0 ≤ z39t then (if z39t < (Int.toNat (x_ids.length : Int) : Int) then (subset_Counts.l1 k x_ids z26t (IntKind.i64.wrap (z33x + 1)) (z34x.set (Int.toNat z39t) (IntKind.i64.wrap ((rd e_i64 z34x z39t) + 1)))) else (none)) else (none))) else (none)) else (some z34x)
def subset_Counts.l0 : Nat → (List Int) → Int → Int → Int → Int → (List Int) → Option ((List Int))
  | 0, _, _, _, _, _, _ => none
  | k + 1, x_ids, x_clients, x_size, x_seed, z21x, z22x => if z21x < x_clients then ((((subset_dealer_of.f k (⟨x_ids, x_size, x_seed⟩ : subset_dealer) z21x).bind fun (z26t, z27t) => ((((subset_Counts.l1 k x_ids z26t 0 z22x)) : Option ((List Int))).bind fun z32x => (some z32x))) : Option ((List Int))).bind fun z24x => (subset_Counts.l0 k x_ids x_clients x_size x_seed (IntKind.i64.wrap (z21x + 1)) z24x)) else (some z22x)
def subset_Counts.f (k : Nat) (x_ids : List Int) (x_clients : Int) (x_size : Int) (x_seed : Int) : Option ((List Int) × Int) := (subset_dealer_of.f k (⟨x_ids, x_size, x_seed⟩ : subset_dealer) 0).bind fun (z4t, z5t) => (if z5t = 0 then (((if x_clients < 0 then (some true) else (some (decide (256 < x_clients)))) : Option (Bool)).bind fun z11x => (if z11x = true then (some (([] : List Int), 4)) else (if 0 ≤ (x_ids.length : Int) then (if Int.toNat (x_ids.length : Int) < 17592186044416 then ((((subset_Counts.l0 k x_ids x_clients x_size x_seed 0 (List.replicate (Int.toNat (x_ids.length : Int)) e_i64.z))) : Option ((List Int))).bind fun z20x => (some (z20x, 0))) else (none)) else (none)))) else (some (([] : List Int), z5t)))
set_option maxRecDepth 100000 in
set_option maxHeartbeats 4000000 in
theorem subset_Counts.calls (k : Nat) (A0 : Option Addr) (n0 c0 : Nat) (x_ids : List Int) (x_clients : Int) (x_size : Int) (x_seed : Int) (W0 : World) (X : Heap) (HR0 : Rd e_i64 X A0 n0 c0 x_ids) (Hq : HS W0 [isH X] W0) (r : (List Int) × Int) (H : subset_Counts.f k x_ids x_clients x_size x_seed = some r) :
    Calls Try.prog 7 #[.slice A0 n0 c0, .int .i64 x_clients, .int .i64 x_size, .int .u64 x_seed] W0 (fun e w => ∃ Ar0 nr0 cr0, e = .returned (.tuple #[.slice Ar0 nr0 cr0, .int .i64 r.2]) ∧ HS W0 [own e_i64 3 Ar0 nr0 cr0 r.1, isH X] w) := by
  obtain rfl := HR0.1
  rw [subset_Counts.f] at H
  refine calls_in Try.func7 rfl rfl ?_
  intro a0 S0
  refine w_seq ?_
  refine w_region ?_
  refine r_pures [_, _] S0 rfl ?_
  clear S0; intro a0 S0
  refine wl_nil ?_
  refine nr_then ?_
  refine w_seq ?_
  refine w_region ?_
  refine r_pures [_, _, _] S0 rfl ?_
  clear S0; intro a0 S0
  refine r_build S0 ti45 pl45 rfl [.slice A0 x_ids.length c0, .int .i64 x_size, .int .u64 x_seed] rfl rfl ?_
  clear S0; intro a0 S0
  refine r_alloc S0 Hq ti45 rfl ?_
  clear S0 Hq; intro z1b a0 w S0 Hq
  refine r_st [] S0 Hq rfl rfl ti45 [.slice A0 x_ids.length c0, .int .i64 x_size, .int .u64 x_seed] rfl rfl rfl rfl [.slice A0 x_ids.length c0, .int .i64 x_size, .int .u64 x_seed] rfl ?_
  clear Hq; intro w Hq; dsimp only [List.cons_append, List.nil_append] at Hq
  refine wl_nil ?_
  refine nr_then ?_
  refine w_seq ?_
  refine w_seq ?_
  refine w_region ?_
  refine r_ldA [] S0 Hq rfl ti45 [.slice A0 x_ids.length c0, .int .i64 x_size, .int .u64 x_seed] rfl rfl rfl ?_
  clear S0; intro a0 S0
  obtain ⟨Xz3, HXz3, HPz3, HBz3⟩ := call_frame [] Hq
  dsimp only [List.cons_append, List.nil_append] at HXz3 HBz3
  obtain ⟨⟨z4t, z5t⟩, Hc, H⟩ := Option.bind_eq_some_iff.mp H
  dsimp only at H
  refine r_call S0 rfl rfl goes19 rfl ?_
  refine (subset_dealer_of.calls _ _ _ _ (⟨x_ids, x_size, x_seed⟩ : subset_dealer) 0 _ _ (sl_isH_rd [_] HPz3 HR0) HXz3 (z4t, z5t) Hc).mono ?_
  rintro e w ⟨z6A, z7m, z8n, rfl, Hq'⟩
  have Hq : HS W0 [own e_i64 3 z6A z7m z8n z4t, bx z1b 45 [.slice A0 x_ids.length c0, .int .i64 x_size, .int .u64 x_seed], isH X] w := HBz3 [_] _ Hq'
  clear HXz3 HPz3 HBz3 Hq'
  obtain rfl := own_len [] Hq
  refine ⟨.tuple #[.slice z6A z4t.length z8n, .int .i64 z5t], rfl, ?_⟩; clear S0; intro a0 S0
  refine r_pures [_, _, _, _, _] S0 rfl ?_
  clear S0; intro a0 S0
  refine wl_nil ?_
  refine nr_then ?_
  refine w_seq ?_
  refine w_region ?_
  refine r_pures [_, _] S0 rfl ?_
  clear S0; intro a0 S0
  refine wl_nil ?_
  refine nr_then ?_
  by_cases z10h : z5t = 0
  · replace H := (if_pos z10h).symm.trans H
    refine w_false S0 rfl (congrArg (!·) (decide_eq_true z10h)) ?_
    refine w_skip ?_
    refine nr_then ?_
    refine w_seq ?_
    refine w_seq ?_
    obtain ⟨z11x, H, HU1⟩ := Option.bind_eq_some_iff.mp H
    refine w_cutT (fun a w => Sl 73 [] [(0, .slice A0 x_ids.length c0), (1, .int .i64 x_clients), (10, .pointer (some ⟨z1b, 0, none⟩)), (38, .bool z11x)] a ∧ HS W0 [bx z1b 45 [.slice A0 x_ids.length c0, .int .i64 x_size, .int .u64 x_seed], isH X] w) ?_ ?_
    · skip
      refine w_region ?_
      refine r_pures [_, _, _] S0 rfl ?_
      clear S0; intro a0 S0
      by_cases z12h : x_clients < 0
      · replace H := (if_pos z12h).symm.trans H
        refine r_off S0 rfl rfl rfl (decide_eq_true z12h) ?_ rfl
        clear S0; intro a0 S0
        refine r_off S0 rfl rfl rfl (decide_eq_true z12h) ?_ rfl
        clear S0; intro a0 S0
        refine r_pick S0 rfl (decide_eq_true z12h) _ rfl rfl ?_
        clear S0; intro a0 S0
        refine wl_nil ?_
        refine nr_then ?_
        replace Hq := HS.pull [_, _] Hq
        dsimp only [List.cons_append, List.nil_append] at Hq
        replace Hq := HS.pull [_, _] Hq
        dsimp only [List.cons_append, List.nil_append] at Hq
        replace Hq := HS.keep [_, _] Hq
        obtain rfl := Option.some.inj H
        exact ⟨S0.sub ⟨rfl, rfl, rfl, rfl, trivial⟩, Hq⟩
      · replace H := (if_neg z12h).symm.trans H
        refine r_on S0 rfl rfl rfl (decide_eq_false z12h) ?_
        refine r_pures [_] S0 rfl ?_
        clear S0; intro a0 S0
        refine r_on S0 rfl rfl rfl (decide_eq_false z12h) ?_
        refine r_pures [_] S0 rfl ?_
        clear S0; intro a0 S0
        refine r_pick S0 rfl (decide_eq_false z12h) _ rfl rfl ?_
        clear S0; intro a0 S0
        refine wl_nil ?_
        refine nr_then ?_
        replace Hq := HS.pull [_, _] Hq
        dsimp only [List.cons_append, List.nil_append] at Hq
        replace Hq := HS.pull [_, _] Hq
        dsimp only [List.cons_append, List.nil_append] at Hq
        replace Hq := HS.keep [_, _] Hq
        obtain rfl := Option.some.inj H
        exact ⟨S0.sub ⟨rfl, rfl, rfl, rfl, trivial⟩, Hq⟩
    · clear S0; rintro a w ⟨S0, Hq⟩
      have H := HU1; clear HU1
      refine nr_then ?_
      by_cases z13h : z11x = true
      · replace H := (if_pos z13h).symm.trans H
        refine w_true S0 rfl z13h ?_
        refine w_seq ?_
        refine w_region ?_
        refine r_pures [_, _] S0 rfl ?_
        clear S0; intro a0 S0
        refine wl_nil ?_
        refine nr_then ?_
        refine w_ret ?_
        refine ret_then ?_
        obtain rfl := Option.some.inj H
        replace Hq := HS.own_nil e_i64 3 Hq
        refine ret2 S0 rfl rfl rfl ?_
        replace Hq := HS.pull [_, _] Hq
        dsimp only [List.cons_append, List.nil_append] at Hq
        replace Hq := HS.pull [_] Hq
        dsimp only [List.cons_append, List.nil_append] at Hq
        replace Hq := HS.keep [_, _] Hq
        exact ⟨none, 0, 0, rfl, Hq⟩
      · replace H := (if_neg z13h).symm.trans H
        refine w_false S0 rfl (Bool.eq_false_iff.mpr z13h) ?_
        refine w_skip ?_
        refine nr_then ?_
        refine w_seq ?_
        refine w_region ?_
        refine r_pures [_] S0 rfl ?_
        clear S0; intro a0 S0
        refine r_len S0 rfl sl22 rfl ?_
        clear S0; intro a0 S0
        by_cases z15h : 0 ≤ (x_ids.length : Int)
        · replace H := (if_pos z15h).symm.trans H
          by_cases z16h : Int.toNat (x_ids.length : Int) < 17592186044416
          · replace H := (if_pos z16h).symm.trans H
            refine r_make (e := e_i64) S0 Hq rfl rfl sl22 ti3 rfl z15h z16h rfl rfl ?_
            clear S0 Hq; intro z17b a0 w S0 Hq
            refine r_pures [_] S0 rfl ?_
            clear S0; intro a0 S0
            refine wl_nil ?_
            refine nr_then ?_
            refine w_seq ?_
            refine w_seq ?_
            refine w_region ?_
            refine r_pures [_, _] S0 rfl ?_
            clear S0; intro a0 S0
            refine wl_nil ?_
            refine nr_then ?_
            obtain ⟨z20x, H, HU2⟩ := Option.bind_eq_some_iff.mp H
            refine w_cutT (fun a w => Sl 73 [] [(13, .slice (some ⟨z17b, 0, none⟩) (Int.toNat (x_ids.length : Int)) (Int.toNat (x_ids.length : Int)))] a ∧ HS W0 [own e_i64 3 (some ⟨z17b, 0, none⟩) (Int.toNat (x_ids.length : Int)) (Int.toNat (x_ids.length : Int)) z20x, isH X] w) ?_ ?_
            · skip
              refine w_block ?_
              refine w_loop (fun kq a w => ∃ z21x z22x, subset_Counts.l0 kq x_ids x_clients x_size x_seed z21x z22x = some z20x ∧ Sl 73 [] [(0, .slice A0 x_ids.length c0), (10, .pointer (some ⟨z1b, 0, none⟩)), (13, .slice (some ⟨z17b, 0, none⟩) (Int.toNat (x_ids.length : Int)) (Int.toNat (x_ids.length : Int))), (42, .int .i64 x_clients), (43, .int .i64 z21x)] a ∧ HS W0 [own e_i64 3 (some ⟨z17b, 0, none⟩) (Int.toNat (x_ids.length : Int)) (Int.toNat (x_ids.length : Int)) z22x, bx z1b 45 [.slice A0 x_ids.length c0, .int .i64 x_size, .int .u64 x_seed], isH X] w) _ ⟨0, (List.replicate (Int.toNat (x_ids.length : Int)) e_i64.z), H, S0.sub ⟨rfl, rfl, rfl, rfl, rfl, trivial⟩, Hq⟩ ?_
              clear H Hq S0
              rintro k0 a w ⟨z21x, z22x, H, S0, Hq⟩
              cases k0 with
              | zero => simp [subset_Counts.l0] at H
              | succ k0 =>
                refine ⟨k0, rfl, ?_⟩
                rw [subset_Counts.l0] at H
                refine w_seq ?_
                refine w_region ?_
                refine r_pures [_] S0 rfl ?_
                clear S0; intro a0 S0
                refine wl_nil ?_
                refine nr_then ?_
                refine w_seq ?_
                by_cases z23h : z21x < x_clients
                · replace H := (if_pos z23h).symm.trans H
                  refine w_true S0 rfl (decide_eq_true z23h) ?_
                  refine w_skip ?_
                  refine nr_then ?_
                  refine w_seq ?_
                  obtain ⟨z24x, H, HU3⟩ := Option.bind_eq_some_iff.mp H
                  refine w_cutT (fun a w => Sl 73 [] [(0, .slice A0 x_ids.length c0), (10, .pointer (some ⟨z1b, 0, none⟩)), (13, .slice (some ⟨z17b, 0, none⟩) (Int.toNat (x_ids.length : Int)) (Int.toNat (x_ids.length : Int))), (42, .int .i64 x_clients), (43, .int .i64 z21x)] a ∧ HS W0 [own e_i64 3 (some ⟨z17b, 0, none⟩) (Int.toNat (x_ids.length : Int)) (Int.toNat (x_ids.length : Int)) z24x, bx z1b 45 [.slice A0 x_ids.length c0, .int .i64 x_size, .int .u64 x_seed], isH X] w) ?_ ?_
                  · skip
                    refine w_block ?_
                    refine w_seq ?_
                    refine w_region ?_
                    refine r_pures [_, _] S0 rfl ?_
                    clear S0; intro a0 S0
                    refine wl_nil ?_
                    refine nr_then ?_
                    refine w_seq ?_
                    refine w_region ?_
                    refine r_ldA [_] S0 Hq rfl ti45 [.slice A0 x_ids.length c0, .int .i64 x_size, .int .u64 x_seed] rfl rfl rfl ?_
                    clear S0; intro a0 S0
                    refine r_pures [_] S0 rfl ?_
                    clear S0; intro a0 S0
                    obtain ⟨Xz25, HXz25, HPz25, HBz25⟩ := call_frame [] Hq
                    dsimp only [List.cons_append, List.nil_append] at HXz25 HBz25
                    obtain ⟨⟨z26t, z27t⟩, Hc, H⟩ := Option.bind_eq_some_iff.mp H
                    dsimp only at H
                    refine r_call S0 rfl rfl goes19 rfl ?_
                    refine (subset_dealer_of.calls _ _ _ _ (⟨x_ids, x_size, x_seed⟩ : subset_dealer) z21x _ _ (sl_isH_rd [_, _] HPz25 HR0) HXz25 (z26t, z27t) Hc).mono ?_
                    rintro e w ⟨z28A, z29m, z30n, rfl, Hq'⟩
                    have Hq : HS W0 [own e_i64 3 z28A z29m z30n z26t, own e_i64 3 (some ⟨z17b, 0, none⟩) (Int.toNat (x_ids.length : Int)) (Int.toNat (x_ids.length : Int)) z22x, bx z1b 45 [.slice A0 x_ids.length c0, .int .i64 x_size, .int .u64 x_seed], isH X] w := HBz25 [_] _ Hq'
                    clear HXz25 HPz25 HBz25 Hq'
                    obtain rfl := own_len [] Hq
                    refine ⟨.tuple #[.slice z28A z26t.length z30n, .int .i64 z27t], rfl, ?_⟩; clear S0; intro a0 S0
                    refine r_pures [_, _, _, _, _] S0 rfl ?_
                    clear S0; intro a0 S0
                    refine wl_nil ?_
                    refine nr_then ?_
                    refine w_seq ?_
                    refine w_region ?_
                    refine r_pures [_] S0 rfl ?_
                    clear S0; intro a0 S0
                    refine r_len S0 rfl sl22 rfl ?_
                    clear S0; intro a0 S0
                    refine r_pures [_] S0 rfl ?_
                    clear S0; intro a0 S0
                    refine wl_nil ?_
                    refine nr_then ?_
                    obtain ⟨z32x, H, HU4⟩ := Option.bind_eq_some_iff.mp H
                    refine w_cutT (fun a w => Sl 73 [] [(0, .slice A0 x_ids.length c0), (10, .pointer (some ⟨z1b, 0, none⟩)), (13, .slice (some ⟨z17b, 0, none⟩) (Int.toNat (x_ids.length : Int)) (Int.toNat (x_ids.length : Int))), (42, .int .i64 x_clients), (43, .int .i64 z21x)] a ∧ HS W0 [own e_i64 3 (some ⟨z17b, 0, none⟩) (Int.toNat (x_ids.length : Int)) (Int.toNat (x_ids.length : Int)) z32x, bx z1b 45 [.slice A0 x_ids.length c0, .int .i64 x_size, .int .u64 x_seed], isH X] w) ?_ ?_
                    · skip
                      refine w_block ?_
                      refine w_loop (fun kq a w => ∃ z33x z34x, subset_Counts.l1 kq x_ids z26t z33x z34x = some z32x ∧ Sl 73 [] [(0, .slice A0 x_ids.length c0), (10, .pointer (some ⟨z1b, 0, none⟩)), (13, .slice (some ⟨z17b, 0, none⟩) (Int.toNat (x_ids.length : Int)) (Int.toNat (x_ids.length : Int))), (42, .int .i64 x_clients), (43, .int .i64 z21x), (52, .slice z28A z26t.length z30n), (53, .int .i64 (z26t.length : Int)), (54, .int .i64 z33x)] a ∧ HS W0 [own e_i64 3 z28A z26t.length z30n z26t, own e_i64 3 (some ⟨z17b, 0, none⟩) (Int.toNat (x_ids.length : Int)) (Int.toNat (x_ids.length : Int)) z34x, bx z1b 45 [.slice A0 x_ids.length c0, .int .i64 x_size, .int .u64 x_seed], isH X] w) _ ⟨0, z22x, H, S0.sub ⟨rfl, rfl, rfl, rfl, rfl, rfl, rfl, rfl, trivial⟩, Hq⟩ ?_
                      clear H Hq S0
                      rintro k1 a w ⟨z33x, z34x, H, S0, Hq⟩
                      cases k1 with
                      | zero => simp [subset_Counts.l1] at H
                      | succ k1 =>
                        refine ⟨k1, rfl, ?_⟩
                        rw [subset_Counts.l1] at H
                        refine w_seq ?_
                        refine w_region ?_
                        refine r_pures [_] S0 rfl ?_
                        clear S0; intro a0 S0
                        refine wl_nil ?_
                        refine nr_then ?_
                        refine w_seq ?_
                        by_cases z35h : z33x < (z26t.length : Int)
                        · replace H := (if_pos z35h).symm.trans H
                          refine w_true S0 rfl (decide_eq_true z35h) ?_
                          refine w_skip ?_
                          refine nr_then ?_
                          refine w_seq ?_
                          refine w_block ?_
                          refine w_seq ?_
                          refine w_region ?_
                          by_cases z36h : 0 ≤ z33x
                          · replace H := (if_pos z36h).symm.trans H
                            obtain ⟨z37g, rfl⟩ := own_at [] Hq (by omega)
                            refine r_index S0 rfl rfl sl22 ti3 z36h z35h rfl ?_
                            clear S0; intro a0 S0
                            refine r_elS S0 (own_rd [] Hq) z36h z35h rfl ti3 _ rfl rfl ?_
                            clear S0; intro a0 S0
                            refine r_pures [_] S0 rfl ?_
                            clear S0; intro a0 S0
                            refine wl_nil ?_
                            refine nr_then ?_
                            refine w_seq ?_
                            refine w_region ?_
                            refine r_pures [_, _] S0 rfl ?_
                            clear S0; intro a0 S0
                            obtain ⟨Xz38, HXz38, HPz38, HBz38⟩ := call_frame [] Hq
                            dsimp only [List.cons_append, List.nil_append] at HXz38 HBz38
                            obtain ⟨⟨z39t, z40t⟩, Hc, H⟩ := Option.bind_eq_some_iff.mp H
                            dsimp only at H
                            refine r_call S0 rfl rfl goes20 rfl ?_
                            refine (slices_BinarySearch_int_int.calls _ _ _ x_ids (rd e_i64 z26t z33x) _ _ (sl_isH_rd [_, _, _] HPz38 HR0) HXz38 (z39t, z40t) Hc).mono ?_
                            rintro e w ⟨rfl, Hq'⟩
                            have Hq : HS W0 [own e_i64 3 (some ⟨z37g, 0, none⟩) z26t.length z30n z26t, own e_i64 3 (some ⟨z17b, 0, none⟩) (Int.toNat (x_ids.length : Int)) (Int.toNat (x_ids.length : Int)) z34x, bx z1b 45 [.slice A0 x_ids.length c0, .int .i64 x_size, .int .u64 x_seed], isH X] w := HBz38 [] _ Hq'
                            clear HXz38 HPz38 HBz38 Hq'
                            refine ⟨.tuple #[.int .i64 z39t, .bool z40t], rfl, ?_⟩; clear S0; intro a0 S0
                            refine r_pures [_, _, _, _, _] S0 rfl ?_
                            clear S0; intro a0 S0
                            refine wl_nil ?_
                            refine nr_then ?_
                            refine w_region ?_
                            refine r_pures [_, _] S0 rfl ?_
                            clear S0; intro a0 S0
                            by_cases z41h : 0 ≤ z39t
                            · replace H := (if_pos z41h).symm.trans H
                              by_cases z42h : z39t < (Int.toNat (x_ids.length : Int) : Int)
                              · replace H := (if_pos z42h).symm.trans H
                                refine r_index S0 rfl rfl sl22 ti3 z41h z42h rfl ?_
                                clear S0; intro a0 S0
                                refine r_elS S0 (own_rd [_] Hq) z41h z42h rfl ti3 _ rfl rfl ?_
                                clear S0; intro a0 S0
                                refine r_pures [_] S0 rfl ?_
                                clear S0; intro a0 S0
                                refine r_index S0 rfl rfl sl22 ti3 z41h z42h rfl ?_
                                clear S0; intro a0 S0
                                refine r_elst [_] S0 Hq z41h z42h rfl rfl ti3 [.int .i64 (IntKind.i64.wrap ((rd e_i64 z34x z39t) + 1))] rfl rfl rfl rfl (IntKind.i64.wrap ((rd e_i64 z34x z39t) + 1)) rfl ?_
                                clear Hq; intro w Hq; dsimp only [List.cons_append, List.nil_append] at Hq
                                refine wl_nil ?_
                                refine nr_in ?_
                                refine nr_then ?_
                                refine w_region ?_
                                refine r_pures [_, _] S0 rfl ?_
                                clear S0; intro a0 S0
                                refine wl_nil ?_
                                refine nr_then ?_
                                exact ⟨(IntKind.i64.wrap (z33x + 1)), (z34x.set (Int.toNat z39t) (IntKind.i64.wrap ((rd e_i64 z34x z39t) + 1))), H, S0.sub ⟨rfl, rfl, rfl, rfl, rfl, rfl, rfl, rfl, trivial⟩, Hq⟩
                              · replace H := (if_neg z42h).symm.trans H
                                exact nomatch H
                            · replace H := (if_neg z41h).symm.trans H
                              exact nomatch H
                          · replace H := (if_neg z36h).symm.trans H
                            exact nomatch H
                        · replace H := (if_neg z35h).symm.trans H
                          refine w_false S0 rfl (decide_eq_false z35h) ?_
                          refine w_exit ?_
                          refine ex_then ?_
                          refine ex_then ?_
                          refine ex_in ?_
                          refine nr_then ?_
                          replace Hq := HS.pull [_, _, _] Hq
                          dsimp only [List.cons_append, List.nil_append] at Hq
                          replace Hq := HS.pull [_, _, _] Hq
                          dsimp only [List.cons_append, List.nil_append] at Hq
                          replace Hq := HS.pull [_, _, _] Hq
                          dsimp only [List.cons_append, List.nil_append] at Hq
                          replace Hq := HS.keep [_, _, _] Hq
                          obtain rfl := Option.some.inj H
                          exact ⟨S0.sub ⟨rfl, rfl, rfl, rfl, rfl, trivial⟩, Hq⟩
                    · clear S0; rintro a w ⟨S0, Hq⟩
                      have H := HU4; clear HU4
                      refine nr_in ?_
                      refine nr_then ?_
                      obtain rfl := Option.some.inj H
                      exact ⟨S0.sub ⟨rfl, rfl, rfl, rfl, rfl, trivial⟩, Hq⟩
                  · clear S0; rintro a w ⟨S0, Hq⟩
                    have H := HU3; clear HU3
                    refine nr_then ?_
                    refine w_region ?_
                    refine r_pures [_, _] S0 rfl ?_
                    clear S0; intro a0 S0
                    refine wl_nil ?_
                    refine nr_then ?_
                    exact ⟨(IntKind.i64.wrap (z21x + 1)), z24x, H, S0.sub ⟨rfl, rfl, rfl, rfl, rfl, trivial⟩, Hq⟩
                · replace H := (if_neg z23h).symm.trans H
                  refine w_false S0 rfl (decide_eq_false z23h) ?_
                  refine w_exit ?_
                  refine ex_then ?_
                  refine ex_then ?_
                  refine ex_in ?_
                  refine nr_then ?_
                  replace Hq := HS.pull [_, _] Hq
                  dsimp only [List.cons_append, List.nil_append] at Hq
                  replace Hq := HS.pull [_] Hq
                  dsimp only [List.cons_append, List.nil_append] at Hq
                  replace Hq := HS.keep [_, _] Hq
                  obtain rfl := Option.some.inj H
                  exact ⟨S0.sub ⟨rfl, trivial⟩, Hq⟩
            · clear S0; rintro a w ⟨S0, Hq⟩
              have H := HU2; clear HU2
              refine nr_then ?_
              refine w_seq ?_
              refine w_region ?_
              refine r_pures [_, _, _] S0 rfl ?_
              clear S0; intro a0 S0
              refine wl_nil ?_
              refine nr_then ?_
              refine w_ret ?_
              obtain rfl := Option.some.inj H
              refine ret2 S0 rfl rfl rfl ?_
              replace Hq := HS.pull [_] Hq
              dsimp only [List.cons_append, List.nil_append] at Hq
              replace Hq := HS.pull [_] Hq
              dsimp only [List.cons_append, List.nil_append] at Hq
              exact ⟨(some ⟨z17b, 0, none⟩), (Int.toNat (x_ids.length : Int)), (Int.toNat (x_ids.length : Int)), rfl, Hq⟩
          · replace H := (if_neg z16h).symm.trans H
            exact nomatch H
        · replace H := (if_neg z15h).symm.trans H
          exact nomatch H
  · replace H := (if_neg z10h).symm.trans H
    refine w_true S0 rfl (congrArg (!·) (decide_eq_false z10h)) ?_
    refine w_seq ?_
    refine w_region ?_
    refine r_pures [_, _, _] S0 rfl ?_
    clear S0; intro a0 S0
    refine wl_nil ?_
    refine nr_then ?_
    refine w_ret ?_
    refine ret_then ?_
    obtain rfl := Option.some.inj H
    replace Hq := HS.own_nil e_i64 3 Hq
    refine ret2 S0 rfl rfl rfl ?_
    replace Hq := HS.pull [_, _, _] Hq
    dsimp only [List.cons_append, List.nil_append] at Hq
    replace Hq := HS.pull [_] Hq
    dsimp only [List.cons_append, List.nil_append] at Hq
    replace Hq := HS.keep [_, _] Hq
    exact ⟨none, 0, 0, rfl, Hq⟩

end Go.Proofs.Ythlogangnppghaa.M

/- slices.Index[[]int,int]: a plain function, and that the machine's call comes to it: printed by a program of the session's own. -/
set_option linter.unusedVariables false
set_option linter.unusedSimpArgs false
namespace Go.Proofs.Ythlogangnppghaa.M
open Go Go.Proofs.Ythlogangnppghaa.Sl
/-! ### slices.Index[[]int,int]: function 43 -/
def slices_Index_int_int.l0 : Nat → (List Int) → Int → Int → Option (Int)
  | 0, _, _, _ => none
  | k + 1, x_s, x_v, z1x => if z1x < (x_s.length : Int) then (if 0 ≤ z1x then (if x_v = (rd e_i64 x_s z1x) then (some z1x) else (slices_Index_int_int.l0 k x_s x_v (IntKind.i64.wrap (z1x + 1)))) else (none)) else (some (-1))
def slices_Index_int_int.f (k : Nat) (x_s : List Int) (x_v : Int) : Option (Int) := (slices_Index_int_int.l0 k x_s x_v 0)
set_option maxRecDepth 100000 in
set_option maxHeartbeats 4000000 in
theorem slices_Index_int_int.calls (k : Nat) (A0 : Option Addr) (n0 c0 : Nat) (x_s : List Int) (x_v : Int) (W0 : World) (X : Heap) (HR0 : Rd e_i64 X A0 n0 c0 x_s) (Hq : HS W0 [isH X] W0) (r : Int) (H : slices_Index_int_int.f k x_s x_v = some r) :
    Calls Try.prog 43 #[.slice A0 n0 c0, .int .i64 x_v] W0 (fun e w => e = .returned (.int .i64 r) ∧ HS W0 [isH X] w) := by
  obtain rfl := HR0.1
  rw [slices_Index_int_int.f] at H
  refine calls_in Try.func43 rfl rfl ?_
  intro a0 S0
  refine w_seq ?_
  refine w_region ?_
  refine r_pures [_] S0 rfl ?_
  clear S0; intro a0 S0
  refine wl_nil ?_
  refine nr_then ?_
  refine w_seq ?_
  refine w_seq ?_
  refine w_region ?_
  refine r_pures [_] S0 rfl ?_
  clear S0; intro a0 S0
  refine r_len S0 rfl sl22 rfl ?_
  clear S0; intro a0 S0
  refine r_pures [_] S0 rfl ?_
  clear S0; intro a0 S0
  refine wl_nil ?_
  refine nr_then ?_
  refine w_block ?_
  refine w_loop (fun kq a w => ∃ z1x, slices_Index_int_int.l0 kq x_s x_v z1x = some r ∧ Sl 19 [] [(0, .slice A0 x_s.length c0), (1, .int .i64 x_v), (7, .int .i64 (x_s.length : Int)), (8, .int .i64 z1x)] a ∧ HS W0 [isH X] w) _ ⟨0, H, S0.sub ⟨rfl, rfl, rfl, rfl, trivial⟩, Hq⟩ ?_
  clear H Hq S0
  rintro k0 a w ⟨z1x, H, S0, Hq⟩
  cases k0 with
  | zero => simp [slices_Index_int_int.l0] at H
  | succ k0 =>
    refine ⟨k0, rfl, ?_⟩
    rw [slices_Index_int_int.l0] at H
    refine w_seq ?_
    refine w_region ?_
    refine r_pures [_] S0 rfl ?_
    clear S0; intro a0 S0
    refine wl_nil ?_
    refine nr_then ?_
    refine w_seq ?_
    by_cases z2h : z1x < (x_s.length : Int)
    · replace H := (if_pos z2h).symm.trans H
      refine w_true S0 rfl (decide_eq_true z2h) ?_
      refine w_skip ?_
      refine nr_then ?_
      refine w_seq ?_
      refine w_block ?_
      refine w_seq ?_
      refine w_region ?_
      refine r_pures [_, _] S0 rfl ?_
      clear S0; intro a0 S0
      refine wl_nil ?_
      refine nr_then ?_
      refine w_seq ?_
      refine w_region ?_
      refine r_pures [_, _, _] S0 rfl ?_
      clear S0; intro a0 S0
      by_cases z3h : 0 ≤ z1x
      · replace H := (if_pos z3h).symm.trans H
        obtain ⟨z4b, z5o, rfl⟩ := (isH_rd [] Hq HR0).at (by omega)
        refine r_index S0 rfl rfl sl22 ti3 z3h z2h rfl ?_
        clear S0; intro a0 S0
        refine r_elS S0 (isH_rd [] Hq HR0) z3h z2h rfl ti3 _ rfl rfl ?_
        clear S0; intro a0 S0
        refine r_pures [_] S0 rfl ?_
        clear S0; intro a0 S0
        refine wl_nil ?_
        refine nr_then ?_
        by_cases z6h : x_v = (rd e_i64 x_s z1x)
        · replace H := (if_pos z6h).symm.trans H
          refine w_true S0 rfl (decide_eq_true z6h) ?_
          refine w_seq ?_
          refine w_region ?_
          refine r_pures [_, _] S0 rfl ?_
          clear S0; intro a0 S0
          refine wl_nil ?_
          refine nr_then ?_
          refine w_ret ?_
          refine ret_in ?_
          refine ret_then ?_
          refine ret_then ?_
          refine ret_in ?_
          refine ret_then ?_
          obtain rfl := Option.some.inj H
          refine ret1 S0 rfl rfl ?_
          exact ⟨rfl, Hq⟩
        · replace H := (if_neg z6h).symm.trans H
          refine w_false S0 rfl (decide_eq_false z6h) ?_
          refine w_skip ?_
          refine nr_in ?_
          refine nr_then ?_
          refine w_region ?_
          refine r_pures [_, _] S0 rfl ?_
          clear S0; intro a0 S0
          refine wl_nil ?_
          refine nr_then ?_
          exact ⟨(IntKind.i64.wrap (z1x + 1)), H, S0.sub ⟨rfl, rfl, rfl, rfl, trivial⟩, Hq⟩
      · replace H := (if_neg z3h).symm.trans H
        exact nomatch H
    · replace H := (if_neg z2h).symm.trans H
      refine w_false S0 rfl (decide_eq_false z2h) ?_
      refine w_exit ?_
      refine ex_then ?_
      refine ex_then ?_
      refine ex_in ?_
      refine nr_then ?_
      refine w_seq ?_
      refine w_region ?_
      refine r_pures [_] S0 rfl ?_
      clear S0; intro a0 S0
      refine wl_nil ?_
      refine nr_then ?_
      refine w_ret ?_
      obtain rfl := Option.some.inj H
      refine ret1 S0 rfl rfl ?_
      exact ⟨rfl, Hq⟩

end Go.Proofs.Ythlogangnppghaa.M

/- slices.Contains[[]int,int]: a plain function, and that the machine's call comes to it: printed by a program of the session's own. -/
set_option linter.unusedVariables false
set_option linter.unusedSimpArgs false
namespace Go.Proofs.Ythlogangnppghaa.M
open Go Go.Proofs.Ythlogangnppghaa.Sl
/-! ### slices.Contains[[]int,int]: function 34 -/
def slices_Contains_int_int.f (k : Nat) (x_s : List Int) (x_v : Int) : Option (Bool) := (slices_Index_int_int.f k x_s x_v).bind fun z2t => (some (decide (0 ≤ z2t)))
set_option maxRecDepth 100000 in
set_option maxHeartbeats 4000000 in
theorem slices_Contains_int_int.calls (k : Nat) (A0 : Option Addr) (n0 c0 : Nat) (x_s : List Int) (x_v : Int) (W0 : World) (X : Heap) (HR0 : Rd e_i64 X A0 n0 c0 x_s) (Hq : HS W0 [isH X] W0) (r : Bool) (H : slices_Contains_int_int.f k x_s x_v = some r) :
    Calls Try.prog 34 #[.slice A0 n0 c0, .int .i64 x_v] W0 (fun e w => e = .returned (.bool r) ∧ HS W0 [isH X] w) := by
  obtain rfl := HR0.1
  rw [slices_Contains_int_int.f] at H
  refine calls_in Try.func34 rfl rfl ?_
  intro a0 S0
  refine w_seq ?_
  refine w_region ?_
  refine r_pures [_] S0 rfl ?_
  clear S0; intro a0 S0
  refine wl_nil ?_
  refine nr_then ?_
  refine w_seq ?_
  refine w_region ?_
  refine r_pures [_, _] S0 rfl ?_
  clear S0; intro a0 S0
  obtain ⟨Xz1, HXz1, HPz1, HBz1⟩ := call_frame [] Hq
  dsimp only [List.cons_append, List.nil_append] at HXz1 HBz1
  obtain ⟨z2t, Hc, H⟩ := Option.bind_eq_some_iff.mp H
  refine r_call S0 rfl rfl goes43 rfl ?_
  refine (slices_Index_int_int.calls _ _ _ _ x_s x_v _ _ (sl_isH_rd [] HPz1 HR0) HXz1 z2t Hc).mono ?_
  rintro e w ⟨rfl, Hq'⟩
  have Hq : HS W0 [isH X] w := HBz1 [] _ Hq'
  clear HXz1 HPz1 HBz1 Hq'
  refine ⟨.int .i64 z2t, rfl, ?_⟩; clear S0; intro a0 S0
  refine r_pures [_, _] S0 rfl ?_
  clear S0; intro a0 S0
  refine wl_nil ?_
  refine nr_then ?_
  refine w_ret ?_
  obtain rfl := Option.some.inj H
  refine ret1 S0 rfl rfl ?_
  exact ⟨rfl, Hq⟩

end Go.Proofs.Ythlogangnppghaa.M

/- waybill/subset.without: a plain function, and that the machine's call comes to it: printed by a program of the session's own. -/
set_option linter.unusedVariables false
set_option linter.unusedSimpArgs false
namespace Go.Proofs.Ythlogangnppghaa.M
open Go Go.Proofs.Ythlogangnppghaa.Sl
/-! ### waybill/subset.without: function 21 -/
def subset_without.l1 : Nat → (List Int) → (List Int) → Int → Int → (List Int) → Option (Int × (List Int))
  | 0, _, _, _, _, _ => none
  | k + 1, x_not, z4t, z27x, z28x, z29x => if z28x < (z4t.length : Int) then (if 0 ≤ z28x then ((slices_Contains_int_int.f k x_not (rd e_i64 z29x z28x)).bind fun z33t => (((if z33t = true then (some (z27x, z29x)) else (if 0 ≤ z27x then (if z27x < (z4t.length : Int) then (some (IntKind.i64.wrap (z27x + 1), z29x.set (Int.toNat z27x) (rd e_i64 z29x z28x))) else (none)) else (none))) : Option (Int × (List Int))).bind fun (z34x, z35x) => (subset_without.l1 k x_not z4t z34x (IntKind.i64.wrap (z28x + 1)) z35x))) else (none)) else (some (z27x, z29x))
def subset_without.l0 : Nat → (List Int) → (List Int) → Int → Option (List Int)
  | 0, _, _, _ => none
  | k + 1, x_not, z4t, z9x => if z9x < (z4t.length : Int) then (if 0 ≤ z9x then ((slices_Contains_int_int.f k x_not (rd e_i64 z4t z9x)).bind fun z14t => (if z14t = true then (if z9x = (-1) then ((slices_Sort_int_int.f z4t).bind fun z18t => ((slices_Compact_int_int.f z18t).bind fun z20t => (some z20t))) else ((((subset_without.l1 k x_not z4t z9x (IntKind.i64.wrap (z9x + 1)) z4t)) : Option (Int × (List Int))).bind fun (z25x, z26x) => (if 0 ≤ z25x then (if z25x ≤ (z4t.length : Int) then (if (Int.toNat z25x) ≤ z4t.length then ((slices_Sort_int_int.f ((z26x.take (Int.toNat z25x) ++ List.replicate (z26x.drop (Int.toNat z25x)).length e_i64.z).take (Int.toNat z25x))).bind fun z47t => ((slices_Compact_int_int.f (z47t.take (Int.toNat z25x))).bind fun z49t => (some z49t))) else (none)) else (none)) else (none)))) else (subset_without.l0 k x_not z4t (IntKind.i64.wrap (z9x + 1))))) else (none)) else ((slices_Sort_int_int.f z4t).bind fun z55t => ((slices_Compact_int_int.f z55t).bind fun z57t => (some z57t)))
def subset_without.f (k : Nat) (x_l : List Int) (x_not : List Int) : Option (List Int) := (slices_Clone_int_int.f x_l).bind fun z4t => ((subset_without.l0 k x_not z4t 0))
set_option maxRecDepth 100000 in
set_option maxHeartbeats 4000000 in
theorem subset_without.calls (k : Nat) (A0 : Option Addr) (n0 c0 : Nat) (x_l : List Int) (A1 : Option Addr) (n1 c1 : Nat) (x_not : List Int) (W0 : World) (X : Heap) (HR0 : Rd e_i64 X A0 n0 c0 x_l) (HR1 : Rd e_i64 X A1 n1 c1 x_not) (Hq : HS W0 [isH X] W0) (r : List Int) (H : subset_without.f k x_l x_not = some r) :
    Calls Try.prog 21 #[.slice A0 n0 c0, .slice A1 n1 c1] W0 (fun e w => ∃ Ar0 nr0 cr0, e = .returned (.slice Ar0 nr0 cr0) ∧ HS W0 [own e_i64 3 Ar0 nr0 cr0 r, isH X] w) := by
  obtain rfl := HR0.1
  obtain rfl := HR1.1
  rw [subset_without.f] at H
  refine calls_in Try.func21 rfl rfl ?_
  intro a0 S0
  refine w_seq ?_
  refine w_region ?_
  refine r_box (vs := [.slice A1 x_not.length c1]) S0 Hq rfl rfl rfl ?_
  clear S0 Hq; intro z1b a0 w S0 Hq
  refine r_pures [_] S0 rfl ?_
  clear S0; intro a0 S0
  refine wl_nil ?_
  refine nr_then ?_
  refine w_seq ?_
  refine w_region ?_
  refine r_pures [_] S0 rfl ?_
  clear S0; intro a0 S0
  obtain ⟨Xz3, HXz3, HPz3, HBz3⟩ := call_frame [] Hq
  dsimp only [List.cons_append, List.nil_append] at HXz3 HBz3
  obtain ⟨z4t, Hc, H⟩ := Option.bind_eq_some_iff.mp H
  refine r_call S0 rfl rfl goes32 rfl ?_
  refine (slices_Clone_int_int.calls _ _ _ x_l _ _ (sl_isH_rd [_] HPz3 HR0) HXz3 z4t Hc).mono ?_
  rintro e w ⟨z5A, z6m, z7n, rfl, Hq'⟩
  have Hq : HS W0 [own e_i64 3 z5A z6m z7n z4t, bx z1b 22 [.slice A1 x_not.length c1], isH X] w := HBz3 [_] _ Hq'
  clear HXz3 HPz3 HBz3 Hq'
  obtain rfl := own_len [] Hq
  refine ⟨.slice z5A z4t.length z7n, rfl, ?_⟩; clear S0; intro a0 S0
  refine r_pures [_] S0 rfl ?_
  clear S0; intro a0 S0
  refine r_call S0 rfl rfl goes31 rfl ?_
  refine calls_in Try.func31 rfl rfl ?_
  intro a1 S1
  refine w_seq ?_
  refine w_region ?_
  refine r_pures [_] S1 rfl ?_
  clear S1; intro a1 S1
  refine wl_nil ?_
  refine nr_then ?_
  refine w_seq ?_
  refine w_region ?_
  refine r_pures [_, _] S1 rfl ?_
  clear S1; intro a1 S1
  refine r_call S1 rfl rfl goes42 rfl ?_
  refine calls_in Try.func42 rfl rfl ?_
  intro a2 S2
  refine w_seq ?_
  refine w_region ?_
  refine r_pures [_] S2 rfl ?_
  clear S2; intro a2 S2
  refine wl_nil ?_
  refine nr_then ?_
  refine w_seq ?_
  refine w_seq ?_
  refine w_region ?_
  refine r_pures [_] S2 rfl ?_
  clear S2; intro a2 S2
  refine r_len S2 rfl sl22 rfl ?_
  clear S2; intro a2 S2
  refine r_pures [_] S2 rfl ?_
  clear S2; intro a2 S2
  refine wl_nil ?_
  refine nr_then ?_
  refine w_block ?_
  refine w_loop (fun kq a w => ∃ z9x, subset_without.l0 kq x_not z4t z9x = some r ∧ Sl 19 [] [(0, .slice z5A z4t.length z7n), (1, .func (.func 33) #[] #[.pointer (some ⟨z1b, 0, none⟩)]), (7, .int .i64 (z4t.length : Int)), (8, .int .i64 z9x)] a ∧ HS W0 [own e_i64 3 z5A z4t.length z7n z4t, bx z1b 22 [.slice A1 x_not.length c1], isH X] w) _ ⟨0, H, S2.sub ⟨rfl, rfl, rfl, rfl, trivial⟩, Hq⟩ ?_
  clear H Hq S2
  rintro k0 a w ⟨z9x, H, S2, Hq⟩
  cases k0 with
  | zero => simp [subset_without.l0] at H
  | succ k0 =>
    refine ⟨k0, rfl, ?_⟩
    rw [subset_without.l0] at H
    refine w_seq ?_
    refine w_region ?_
    refine r_pures [_] S2 rfl ?_
    clear S2; intro a2 S2
    refine wl_nil ?_
    refine nr_then ?_
    refine w_seq ?_
    by_cases z10h : z9x < (z4t.length : Int)
    · replace H := (if_pos z10h).symm.trans H
      refine w_true S2 rfl (decide_eq_true z10h) ?_
      refine w_skip ?_
      refine nr_then ?_
      refine w_seq ?_
      refine w_block ?_
      refine w_seq ?_
      refine w_region ?_
      refine r_pures [_, _] S2 rfl ?_
      clear S2; intro a2 S2
      refine wl_nil ?_
      refine nr_then ?_
      refine w_seq ?_
      refine w_region ?_
      refine r_pures [_, _, _] S2 rfl ?_
      clear S2; intro a2 S2
      by_cases z11h : 0 ≤ z9x
      · replace H := (if_pos z11h).symm.trans H
        obtain ⟨z12g, rfl⟩ := own_at [] Hq (by omega)
        refine r_index S2 rfl rfl sl22 ti3 z11h z10h rfl ?_
        clear S2; intro a2 S2
        refine r_elS S2 (own_rd [] Hq) z11h z10h rfl ti3 _ rfl rfl ?_
        clear S2; intro a2 S2
        refine r_call S2 rfl rfl goes33 rfl ?_
        refine calls_in Try.func33 rfl rfl ?_
        intro a3 S3
        refine w_seq ?_
        refine w_region ?_
        refine r_pures [_] S3 rfl ?_
        clear S3; intro a3 S3
        refine wl_nil ?_
        refine nr_then ?_
        refine w_seq ?_
        refine w_region ?_
        refine r_ldS [_] S3 Hq rfl ti22 _ rfl rfl ?_
        clear S3; intro a3 S3
        refine r_pures [_] S3 rfl ?_
        clear S3; intro a3 S3
        obtain ⟨Xz13, HXz13, HPz13, HBz13⟩ := call_frame [] Hq
        dsimp only [List.cons_append, List.nil_append] at HXz13 HBz13
        obtain ⟨z14t, Hc, H⟩ := Option.bind_eq_some_iff.mp H
        refine r_call S3 rfl rfl goes34 rfl ?_
        refine (slices_Contains_int_int.calls _ _ _ _ x_not (rd e_i64 z4t z9x) _ _ (sl_isH_rd [_, _] HPz13 HR1) HXz13 z14t Hc).mono ?_
        rintro e w ⟨rfl, Hq'⟩
        have Hq : HS W0 [own e_i64 3 (some ⟨z12g, 0, none⟩) z4t.length z7n z4t, bx z1b 22 [.slice A1 x_not.length c1], isH X] w := HBz13 [] _ Hq'
        clear HXz13 HPz13 HBz13 Hq'
        refine ⟨.bool z14t, rfl, ?_⟩; clear S3; intro a3 S3
        refine r_pures [_] S3 rfl ?_
        clear S3; intro a3 S3
        refine wl_nil ?_
        refine nr_then ?_
        refine w_ret ?_
        refine ret1 S3 rfl rfl ?_
        clear S3
        refine ⟨_, rfl, ?_⟩; clear S2; intro a2 S2
        refine wl_nil ?_
        refine nr_then ?_
        by_cases z15h : z14t = true
        · replace H := (if_pos z15h).symm.trans H
          refine w_true S2 rfl z15h ?_
          refine w_seq ?_
          refine w_region ?_
          refine r_pures [_, _] S2 rfl ?_
          clear S2; intro a2 S2
          refine wl_nil ?_
          refine nr_then ?_
          refine w_ret ?_
          refine ret_in ?_
          refine ret_then ?_
          refine ret_then ?_
          refine ret_in ?_
          refine ret_then ?_
          refine ret1 S2 rfl rfl ?_
          clear S2
          refine ⟨_, rfl, ?_⟩; clear S1; intro a1 S1
          refine r_pures [_] S1 rfl ?_
          clear S1; intro a1 S1
          refine wl_nil ?_
          refine nr_then ?_
          refine w_seq ?_
          refine w_seq ?_
          refine w_region ?_
          refine r_pures [_, _] S1 rfl ?_
          clear S1; intro a1 S1
          refine wl_nil ?_
          refine nr_then ?_
          by_cases z16h : z9x = (-1)
          · replace H := (if_pos z16h).symm.trans H
            refine w_true S1 rfl (decide_eq_true z16h) ?_
            refine w_seq ?_
            refine w_region ?_
            refine r_pures [_, _] S1 rfl ?_
            clear S1; intro a1 S1
            refine wl_nil ?_
            refine nr_then ?_
            refine w_ret ?_
            refine ret_then ?_
            refine ret1 S1 rfl rfl ?_
            clear S1
            refine ⟨_, rfl, ?_⟩; clear S0; intro a0 S0
            refine r_pures [_] S0 rfl ?_
            clear S0; intro a0 S0
            refine wl_nil ?_
            refine nr_then ?_
            refine w_seq ?_
            refine w_region ?_
            refine r_pures [_] S0 rfl ?_
            clear S0; intro a0 S0
            obtain ⟨Xz17, HXz17, HPz17, HBz17⟩ := call_frame [_] Hq
            dsimp only [List.cons_append, List.nil_append] at HXz17 HBz17
            obtain ⟨z18t, Hc, H⟩ := Option.bind_eq_some_iff.mp H
            refine r_call S0 rfl rfl goes35 rfl ?_
            refine (slices_Sort_int_int.calls _ _ _ z4t _ _  HXz17 z18t Hc).mono ?_
            rintro e w ⟨rfl, Hq'⟩
            have Hq : HS W0 [own e_i64 3 (some ⟨z12g, 0, none⟩) z4t.length z7n z18t, bx z1b 22 [.slice A1 x_not.length c1], isH X] w := HBz17 [_] _ Hq'
            clear HXz17 HPz17 HBz17 Hq'
            refine ⟨.tuple #[], rfl, ?_⟩; clear S0; intro a0 S0
            refine wl_nil ?_
            refine nr_then ?_
            refine w_seq ?_
            refine w_region ?_
            refine r_pures [_] S0 rfl ?_
            clear S0; intro a0 S0
            obtain ⟨Xz19, HXz19, HPz19, HBz19⟩ := call_frame [_] Hq
            dsimp only [List.cons_append, List.nil_append] at HXz19 HBz19
            obtain ⟨z20t, Hc, H⟩ := Option.bind_eq_some_iff.mp H
            refine r_call S0 rfl rfl goes36 rfl ?_
            refine (slices_Compact_int_int.calls _ _ _ z18t _ _  HXz19 z20t Hc).mono ?_
            rintro e w ⟨z21A, z22m, z23n, rfl, Hq'⟩
            have Hq : HS W0 [own e_i64 3 z21A z22m z23n z20t, bx z1b 22 [.slice A1 x_not.length c1], isH X] w := HBz19 [_] _ Hq'
            clear HXz19 HPz19 HBz19 Hq'
            obtain rfl := own_len [] Hq
            refine ⟨.slice z21A z20t.length z23n, rfl, ?_⟩; clear S0; intro a0 S0
            refine r_pures [_] S0 rfl ?_
            clear S0; intro a0 S0
            refine wl_nil ?_
            refine nr_then ?_
            refine w_ret ?_
            obtain rfl := Option.some.inj H
            refine ret1 S0 rfl rfl ?_
            replace Hq := HS.pull [_, _] Hq
            dsimp only [List.cons_append, List.nil_append] at Hq
            replace Hq := HS.pull [_] Hq
            dsimp only [List.cons_append, List.nil_append] at Hq
            replace Hq := HS.keep [_, _] Hq
            exact ⟨z21A, z20t.length, z23n, rfl, Hq⟩
          · replace H := (if_neg z16h).symm.trans H
            refine w_false S1 rfl (decide_eq_false z16h) ?_
            refine w_skip ?_
            refine nr_then ?_
            refine w_seq ?_
            refine w_seq ?_
            refine w_region ?_
            refine r_pures [_, _, _] S1 rfl ?_
            clear S1; intro a1 S1
            refine wl_nil ?_
            refine nr_then ?_
            obtain ⟨⟨z25x, z26x⟩, H, HU1⟩ := Option.bind_eq_some_iff.mp H
            dsimp only at HU1
            refine w_cutT (fun a w => Sl 42 [] [(0, .slice (some ⟨z12g, 0, none⟩) z4t.length z7n), (5, .int .i64 z25x)] a ∧ HS W0 [own e_i64 3 (some ⟨z12g, 0, none⟩) z4t.length z7n z26x, bx z1b 22 [.slice A1 x_not.length c1], isH X] w) ?_ ?_
            · skip
              refine w_block ?_
              refine w_loop (fun kq a w => ∃ z27x z28x z29x, subset_without.l1 kq x_not z4t z27x z28x z29x = some (z25x, z26x) ∧ Sl 42 [] [(0, .slice (some ⟨z12g, 0, none⟩) z4t.length z7n), (1, .func (.func 33) #[] #[.pointer (some ⟨z1b, 0, none⟩)]), (5, .int .i64 z27x), (6, .int .i64 z28x)] a ∧ HS W0 [own e_i64 3 (some ⟨z12g, 0, none⟩) z4t.length z7n z29x, bx z1b 22 [.slice A1 x_not.length c1], isH X] w) _ ⟨z9x, (IntKind.i64.wrap (z9x + 1)), z4t, H, S1.sub ⟨rfl, rfl, rfl, rfl, trivial⟩, Hq⟩ ?_
              clear H Hq S1
              rintro k1 a w ⟨z27x, z28x, z29x, H, S1, Hq⟩
              cases k1 with
              | zero => simp [subset_without.l1] at H
              | succ k1 =>
                refine ⟨k1, rfl, ?_⟩
                rw [subset_without.l1] at H
                refine w_seq ?_
                refine w_seq ?_
                refine w_region ?_
                refine r_pures [_, _] S1 rfl ?_
                clear S1; intro a1 S1
                refine r_len S1 rfl sl22 rfl ?_
                clear S1; intro a1 S1
                refine r_pures [_] S1 rfl ?_
                clear S1; intro a1 S1
                refine wl_nil ?_
                refine nr_then ?_
                by_cases z30h : z28x < (z4t.length : Int)
                · replace H := (if_pos z30h).symm.trans H
                  refine w_true S1 rfl (decide_eq_true z30h) ?_
                  refine w_skip ?_
                  refine nr_then ?_
                  refine w_seq ?_
                  refine w_block ?_
                  refine w_seq ?_
                  refine w_region ?_
                  refine r_pures [_, _] S1 rfl ?_
                  clear S1; intro a1 S1
                  by_cases z31h : 0 ≤ z28x
                  · replace H := (if_pos z31h).symm.trans H
                    refine r_index S1 rfl rfl sl22 ti3 z31h z30h rfl ?_
                    clear S1; intro a1 S1
                    refine r_elS S1 (own_rd [] Hq) z31h z30h rfl ti3 _ rfl rfl ?_
                    clear S1; intro a1 S1
                    refine r_pures [_] S1 rfl ?_
                    clear S1; intro a1 S1
                    refine wl_nil ?_
                    refine nr_then ?_
                    refine w_seq ?_
                    refine w_region ?_
                    refine r_pures [_, _] S1 rfl ?_
                    clear S1; intro a1 S1
                    refine r_call S1 rfl rfl goes33 rfl ?_
                    refine calls_in Try.func33 rfl rfl ?_
                    intro a2 S2
                    refine w_seq ?_
                    refine w_region ?_
                    refine r_pures [_] S2 rfl ?_
                    clear S2; intro a2 S2
                    refine wl_nil ?_
                    refine nr_then ?_
                    refine w_seq ?_
                    refine w_region ?_
                    refine r_ldS [_] S2 Hq rfl ti22 _ rfl rfl ?_
                    clear S2; intro a2 S2
                    refine r_pures [_] S2 rfl ?_
                    clear S2; intro a2 S2
                    obtain ⟨Xz32, HXz32, HPz32, HBz32⟩ := call_frame [] Hq
                    dsimp only [List.cons_append, List.nil_append] at HXz32 HBz32
                    obtain ⟨z33t, Hc, H⟩ := Option.bind_eq_some_iff.mp H
                    refine r_call S2 rfl rfl goes34 rfl ?_
                    refine (slices_Contains_int_int.calls _ _ _ _ x_not (rd e_i64 z29x z28x) _ _ (sl_isH_rd [_, _] HPz32 HR1) HXz32 z33t Hc).mono ?_
                    rintro e w ⟨rfl, Hq'⟩
                    have Hq : HS W0 [own e_i64 3 (some ⟨z12g, 0, none⟩) z4t.length z7n z29x, bx z1b 22 [.slice A1 x_not.length c1], isH X] w := HBz32 [] _ Hq'
                    clear HXz32 HPz32 HBz32 Hq'
                    refine ⟨.bool z33t, rfl, ?_⟩; clear S2; intro a2 S2
                    refine r_pures [_] S2 rfl ?_
                    clear S2; intro a2 S2
                    refine wl_nil ?_
                    refine nr_then ?_
                    refine w_ret ?_
                    refine ret1 S2 rfl rfl ?_
                    clear S2
                    refine ⟨_, rfl, ?_⟩; clear S1; intro a1 S1
                    refine r_pures [_] S1 rfl ?_
                    clear S1; intro a1 S1
                    refine wl_nil ?_
                    refine nr_then ?_
                    obtain ⟨⟨z34x, z35x⟩, H, HU2⟩ := Option.bind_eq_some_iff.mp H
                    dsimp only at HU2
                    refine w_cutT (fun a w => Sl 42 [] [(0, .slice (some ⟨z12g, 0, none⟩) z4t.length z7n), (1, .func (.func 33) #[] #[.pointer (some ⟨z1b, 0, none⟩)]), (5, .int .i64 z34x), (6, .int .i64 z28x)] a ∧ HS W0 [own e_i64 3 (some ⟨z12g, 0, none⟩) z4t.length z7n z35x, bx z1b 22 [.slice A1 x_not.length c1], isH X] w) ?_ ?_
                    · skip
                      by_cases z36h : z33t = true
                      · replace H := (if_pos z36h).symm.trans H
                        refine w_false S1 rfl (congrArg (!·) z36h) ?_
                        refine w_skip ?_
                        refine nr_then ?_
                        simp only [Option.some.injEq, Prod.mk.injEq] at H; obtain ⟨rfl, rfl⟩ := H
                        exact ⟨S1.sub ⟨rfl, rfl, rfl, rfl, trivial⟩, Hq⟩
                      · replace H := (if_neg z36h).symm.trans H
                        refine w_true S1 rfl (congrArg (!·) (Bool.eq_false_iff.mpr z36h)) ?_
                        refine w_seq ?_
                        refine w_region ?_
                        refine r_pures [_, _, _] S1 rfl ?_
                        clear S1; intro a1 S1
                        by_cases z37h : 0 ≤ z27x
                        · replace H := (if_pos z37h).symm.trans H
                          by_cases z38h : z27x < (z4t.length : Int)
                          · replace H := (if_pos z38h).symm.trans H
                            refine r_index S1 rfl rfl sl22 ti3 z37h z38h rfl ?_
                            clear S1; intro a1 S1
                            refine r_elst [] S1 Hq z37h z38h rfl rfl ti3 [.int .i64 (rd e_i64 z29x z28x)] rfl rfl rfl rfl (rd e_i64 z29x z28x) rfl ?_
                            clear Hq; intro w Hq; dsimp only [List.cons_append, List.nil_append] at Hq
                            refine wl_nil ?_
                            refine nr_then ?_
                            refine w_region ?_
                            refine r_pures [_, _, _] S1 rfl ?_
                            clear S1; intro a1 S1
                            refine wl_nil ?_
                            refine nr_then ?_
                            simp only [Option.some.injEq, Prod.mk.injEq] at H; obtain ⟨rfl, rfl⟩ := H
                            exact ⟨S1.sub ⟨rfl, rfl, rfl, rfl, trivial⟩, Hq⟩
                          · replace H := (if_neg z38h).symm.trans H
                            exact nomatch H
                        · replace H := (if_neg z37h).symm.trans H
                          exact nomatch H
                    · clear S1; rintro a w ⟨S1, Hq⟩
                      have H := HU2; clear HU2
                      refine nr_in ?_
                      refine nr_then ?_
                      refine w_region ?_
                      refine r_pures [_, _, _] S1 rfl ?_
                      clear S1; intro a1 S1
                      refine wl_nil ?_
                      refine nr_then ?_
                      exact ⟨z34x, (IntKind.i64.wrap (z28x + 1)), z35x, H, S1.sub ⟨rfl, rfl, rfl, rfl, trivial⟩, Hq⟩
                  · replace H := (if_neg z31h).symm.trans H
                    exact nomatch H
                · replace H := (if_neg z30h).symm.trans H
                  refine w_false S1 rfl (decide_eq_false z30h) ?_
                  refine w_exit ?_
                  refine ex_then ?_
                  refine ex_then ?_
                  refine ex_in ?_
                  refine nr_then ?_
                  simp only [Option.some.injEq, Prod.mk.injEq] at H; obtain ⟨rfl, rfl⟩ := H
                  exact ⟨S1.sub ⟨rfl, rfl, trivial⟩, Hq⟩
            · clear S1; rintro a w ⟨S1, Hq⟩
              have H := HU1; clear HU1
              refine nr_then ?_
              refine w_seq ?_
              refine w_region ?_
              refine r_pures [_, _] S1 rfl ?_
              clear S1; intro a1 S1
              by_cases z39h : 0 ≤ z25x
              · replace H := (if_pos z39h).symm.trans H
                by_cases z40h : z25x ≤ (z4t.length : Int)
                · replace H := (if_pos z40h).symm.trans H
                  refine r_cutO S1 rfl sl22 ti3 (own_rd [] Hq) z25x (z4t.length : Int) rfl rfl z39h z40h (Int.le_refl _) rfl (z26x.drop (Int.toNat z25x)) (by rw [show Int.toNat ((z4t.length : Int)) = (z26x).length from (by have := (own_rd [] Hq).1; omega), List.take_length]) ?_
                  clear S1; intro z41A z42n a1 z43hC z44hB S1
                  refine r_clear (lo := Int.toNat z25x) [] S1 Hq (by omega) z44hB rfl sl22 ti3 rfl ?_
                  clear Hq; intro w Hq; dsimp only [List.cons_append, List.nil_append] at Hq
                  refine wl_nil ?_
                  refine nr_then ?_
                  refine w_seq ?_
                  refine w_region ?_
                  refine r_pures [_, _] S1 rfl ?_
                  clear S1; intro a1 S1
                  refine r_cutV [] S1 Hq rfl sl22 ti3 _ rfl z39h z40h rfl ?_
                  clear S1; intro a1 S1
                  refine r_pures [_] S1 rfl ?_
                  clear S1; intro a1 S1
                  refine wl_nil ?_
                  refine nr_then ?_
                  refine w_ret ?_
                  refine ret1 S1 rfl rfl ?_
                  clear S1
                  refine ⟨_, rfl, ?_⟩; clear S0; intro a0 S0
                  refine r_pures [_] S0 rfl ?_
                  clear S0; intro a0 S0
                  refine wl_nil ?_
                  refine nr_then ?_
                  refine w_seq ?_
                  refine w_region ?_
                  refine r_pures [_] S0 rfl ?_
                  clear S0; intro a0 S0
                  by_cases z45h : (Int.toNat z25x) ≤ z4t.length
                  · replace H := (if_pos z45h).symm.trans H
                    replace Hq := HS.shrink [] Hq z45h
                    dsimp only [List.cons_append, List.nil_append] at Hq
                    obtain ⟨Xz46, HXz46, HPz46, HBz46⟩ := call_frame [_] Hq
                    dsimp only [List.cons_append, List.nil_append] at HXz46 HBz46
                    obtain ⟨z47t, Hc, H⟩ := Option.bind_eq_some_iff.mp H
                    refine r_call S0 rfl rfl goes35 rfl ?_
                    refine (slices_Sort_int_int.calls _ _ _ ((z26x.take (Int.toNat z25x) ++ List.replicate (z26x.drop (Int.toNat z25x)).length e_i64.z).take (Int.toNat z25x)) _ _  HXz46 z47t Hc).mono ?_
                    rintro e w ⟨rfl, Hq'⟩
                    have Hq : HS W0 [own e_i64 3 (some ⟨z12g, 0, none⟩) (Int.toNat z25x) z7n z47t, bx z1b 22 [.slice A1 x_not.length c1], isH X] w := HBz46 [_] _ Hq'
                    clear HXz46 HPz46 HBz46 Hq'
                    refine ⟨.tuple #[], rfl, ?_⟩; clear S0; intro a0 S0
                    refine wl_nil ?_
                    refine nr_then ?_
                    refine w_seq ?_
                    refine w_region ?_
                    refine r_pures [_] S0 rfl ?_
                    clear S0; intro a0 S0
                    replace Hq := HS.shrink [] Hq (Nat.le_refl _)
                    dsimp only [List.cons_append, List.nil_append] at Hq
                    obtain ⟨Xz48, HXz48, HPz48, HBz48⟩ := call_frame [_] Hq
                    dsimp only [List.cons_append, List.nil_append] at HXz48 HBz48
                    obtain ⟨z49t, Hc, H⟩ := Option.bind_eq_some_iff.mp H
                    refine r_call S0 rfl rfl goes36 rfl ?_
                    refine (slices_Compact_int_int.calls _ _ _ (z47t.take (Int.toNat z25x)) _ _  HXz48 z49t Hc).mono ?_
                    rintro e w ⟨z50A, z51m, z52n, rfl, Hq'⟩
                    have Hq : HS W0 [own e_i64 3 z50A z51m z52n z49t, bx z1b 22 [.slice A1 x_not.length c1], isH X] w := HBz48 [_] _ Hq'
                    clear HXz48 HPz48 HBz48 Hq'
                    obtain rfl := own_len [] Hq
                    refine ⟨.slice z50A z49t.length z52n, rfl, ?_⟩; clear S0; intro a0 S0
                    refine r_pures [_] S0 rfl ?_
                    clear S0; intro a0 S0
                    refine wl_nil ?_
                    refine nr_then ?_
                    refine w_ret ?_
                    obtain rfl := Option.some.inj H
                    refine ret1 S0 rfl rfl ?_
                    replace Hq := HS.pull [_, _] Hq
                    dsimp only [List.cons_append, List.nil_append] at Hq
                    replace Hq := HS.pull [_] Hq
                    dsimp only [List.cons_append, List.nil_append] at Hq
                    replace Hq := HS.keep [_, _] Hq
                    exact ⟨z50A, z49t.length, z52n, rfl, Hq⟩
                  · replace H := (if_neg z45h).symm.trans H
                    exact nomatch H
                · replace H := (if_neg z40h).symm.trans H
                  exact nomatch H
              · replace H := (if_neg z39h).symm.trans H
                exact nomatch H
        · replace H := (if_neg z15h).symm.trans H
          refine w_false S2 rfl (Bool.eq_false_iff.mpr z15h) ?_
          refine w_skip ?_
          refine nr_in ?_
          refine nr_then ?_
          refine w_region ?_
          refine r_pures [_, _] S2 rfl ?_
          clear S2; intro a2 S2
          refine wl_nil ?_
          refine nr_then ?_
          exact ⟨(IntKind.i64.wrap (z9x + 1)), H, S2.sub ⟨rfl, rfl, rfl, rfl, trivial⟩, Hq⟩
      · replace H := (if_neg z11h).symm.trans H
        exact nomatch H
    · replace H := (if_neg z10h).symm.trans H
      refine w_false S2 rfl (decide_eq_false z10h) ?_
      refine w_exit ?_
      refine ex_then ?_
      refine ex_then ?_
      refine ex_in ?_
      refine nr_then ?_
      refine w_seq ?_
      refine w_region ?_
      refine r_pures [_] S2 rfl ?_
      clear S2; intro a2 S2
      refine wl_nil ?_
      refine nr_then ?_
      refine w_ret ?_
      refine ret1 S2 rfl rfl ?_
      clear S2
      refine ⟨_, rfl, ?_⟩; clear S1; intro a1 S1
      refine r_pures [_] S1 rfl ?_
      clear S1; intro a1 S1
      refine wl_nil ?_
      refine nr_then ?_
      refine w_seq ?_
      refine w_seq ?_
      refine w_region ?_
      refine r_pures [_, _] S1 rfl ?_
      clear S1; intro a1 S1
      refine wl_nil ?_
      refine nr_then ?_
      refine w_true S1 rfl (by decide) ?_
      refine w_seq ?_
      refine w_region ?_
      refine r_pures [_, _] S1 rfl ?_
      clear S1; intro a1 S1
      refine wl_nil ?_
      refine nr_then ?_
      refine w_ret ?_
      refine ret_then ?_
      refine ret1 S1 rfl rfl ?_
      clear S1
      refine ⟨_, rfl, ?_⟩; clear S0; intro a0 S0
      refine r_pures [_] S0 rfl ?_
      clear S0; intro a0 S0
      refine wl_nil ?_
      refine nr_then ?_
      refine w_seq ?_
      refine w_region ?_
      refine r_pures [_] S0 rfl ?_
      clear S0; intro a0 S0
      obtain ⟨Xz54, HXz54, HPz54, HBz54⟩ := call_frame [_] Hq
      dsimp only [List.cons_append, List.nil_append] at HXz54 HBz54
      obtain ⟨z55t, Hc, H⟩ := Option.bind_eq_some_iff.mp H
      refine r_call S0 rfl rfl goes35 rfl ?_
      refine (slices_Sort_int_int.calls _ _ _ z4t _ _  HXz54 z55t Hc).mono ?_
      rintro e w ⟨rfl, Hq'⟩
      have Hq : HS W0 [own e_i64 3 z5A z4t.length z7n z55t, bx z1b 22 [.slice A1 x_not.length c1], isH X] w := HBz54 [_] _ Hq'
      clear HXz54 HPz54 HBz54 Hq'
      refine ⟨.tuple #[], rfl, ?_⟩; clear S0; intro a0 S0
      refine wl_nil ?_
      refine nr_then ?_
      refine w_seq ?_
      refine w_region ?_
      refine r_pures [_] S0 rfl ?_
      clear S0; intro a0 S0
      obtain ⟨Xz56, HXz56, HPz56, HBz56⟩ := call_frame [_] Hq
      dsimp only [List.cons_append, List.nil_append] at HXz56 HBz56
      obtain ⟨z57t, Hc, H⟩ := Option.bind_eq_some_iff.mp H
      refine r_call S0 rfl rfl goes36 rfl ?_
      refine (slices_Compact_int_int.calls _ _ _ z55t _ _  HXz56 z57t Hc).mono ?_
      rintro e w ⟨z58A, z59m, z60n, rfl, Hq'⟩
      have Hq : HS W0 [own e_i64 3 z58A z59m z60n z57t, bx z1b 22 [.slice A1 x_not.length c1], isH X] w := HBz56 [_] _ Hq'
      clear HXz56 HPz56 HBz56 Hq'
      obtain rfl := own_len [] Hq
      refine ⟨.slice z58A z57t.length z60n, rfl, ?_⟩; clear S0; intro a0 S0
      refine r_pures [_] S0 rfl ?_
      clear S0; intro a0 S0
      refine wl_nil ?_
      refine nr_then ?_
      refine w_ret ?_
      obtain rfl := Option.some.inj H
      refine ret1 S0 rfl rfl ?_
      replace Hq := HS.pull [_, _] Hq
      dsimp only [List.cons_append, List.nil_append] at Hq
      replace Hq := HS.pull [_] Hq
      dsimp only [List.cons_append, List.nil_append] at Hq
      replace Hq := HS.keep [_, _] Hq
      exact ⟨z58A, z57t.length, z60n, rfl, Hq⟩

end Go.Proofs.Ythlogangnppghaa.M

/- waybill/subset.Change: a plain function, and that the machine's call comes to it: printed by a program of the session's own. -/
set_option linter.unusedVariables false
set_option linter.unusedSimpArgs false
namespace Go.Proofs.Ythlogangnppghaa.M
open Go Go.Proofs.Ythlogangnppghaa.Sl
/-! ### waybill/subset.Change: function 9 -/
def subset_Change.f (k : Nat) (x_old : List Int) (x_ids : List Int) : Option ((List Int) × (List Int)) := (subset_without.f k x_ids x_old).bind fun z2t => ((subset_without.f k x_old x_ids).bind fun z8t => (some (z2t, z8t)))
set_option maxRecDepth 100000 in
set_option maxHeartbeats 4000000 in
theorem subset_Change.calls (k : Nat) (A0 : Option Addr) (n0 c0 : Nat) (x_old : List Int) (A1 : Option Addr) (n1 c1 : Nat) (x_ids : List Int) (W0 : World) (X : Heap) (HR0 : Rd e_i64 X A0 n0 c0 x_old) (HR1 : Rd e_i64 X A1 n1 c1 x_ids) (Hq : HS W0 [isH X] W0) (r : (List Int) × (List Int)) (H : subset_Change.f k x_old x_ids = some r) :
    Calls Try.prog 9 #[.slice A0 n0 c0, .slice A1 n1 c1] W0 (fun e w => ∃ Ar0 nr0 cr0 Ar1 nr1 cr1, e = .returned (.tuple #[.slice Ar0 nr0 cr0, .slice Ar1 nr1 cr1]) ∧ HS W0 [own e_i64 3 Ar0 nr0 cr0 r.1, own e_i64 3 Ar1 nr1 cr1 r.2, isH X] w) := by
  obtain rfl := HR0.1
  obtain rfl := HR1.1
  rw [subset_Change.f] at H
  refine calls_in Try.func9 rfl rfl ?_
  intro a0 S0
  refine w_seq ?_
  refine w_region ?_
  refine r_pures [_, _] S0 rfl ?_
  clear S0; intro a0 S0
  refine wl_nil ?_
  refine nr_then ?_
  refine w_seq ?_
  refine w_region ?_
  refine r_pures [_, _] S0 rfl ?_
  clear S0; intro a0 S0
  obtain ⟨Xz1, HXz1, HPz1, HBz1⟩ := call_frame [] Hq
  dsimp only [List.cons_append, List.nil_append] at HXz1 HBz1
  obtain ⟨z2t, Hc, H⟩ := Option.bind_eq_some_iff.mp H
  refine r_call S0 rfl rfl goes21 rfl ?_
  refine (subset_without.calls _ _ _ _ x_ids _ _ _ x_old _ _ (sl_isH_rd [] HPz1 HR1) (sl_isH_rd [] HPz1 HR0) HXz1 z2t Hc).mono ?_
  rintro e w ⟨z3A, z4m, z5n, rfl, Hq'⟩
  have Hq : HS W0 [own e_i64 3 z3A z4m z5n z2t, isH X] w := HBz1 [_] _ Hq'
  clear HXz1 HPz1 HBz1 Hq'
  obtain rfl := own_len [] Hq
  refine ⟨.slice z3A z2t.length z5n, rfl, ?_⟩; clear S0; intro a0 S0
  refine r_pures [_, _] S0 rfl ?_
  clear S0; intro a0 S0
  obtain ⟨Xz7, HXz7, HPz7, HBz7⟩ := call_frame [] Hq
  dsimp only [List.cons_append, List.nil_append] at HXz7 HBz7
  obtain ⟨z8t, Hc, H⟩ := Option.bind_eq_some_iff.mp H
  refine r_call S0 rfl rfl goes21 rfl ?_
  refine (subset_without.calls _ _ _ _ x_old _ _ _ x_ids _ _ (sl_isH_rd [_] HPz7 HR0) (sl_isH_rd [_] HPz7 HR1) HXz7 z8t Hc).mono ?_
  rintro e w ⟨z9A, z10m, z11n, rfl, Hq'⟩
  have Hq : HS W0 [own e_i64 3 z9A z10m z11n z8t, own e_i64 3 z3A z2t.length z5n z2t, isH X] w := HBz7 [_] _ Hq'
  clear HXz7 HPz7 HBz7 Hq'
  obtain rfl := own_len [] Hq
  refine ⟨.slice z9A z8t.length z11n, rfl, ?_⟩; clear S0; intro a0 S0
  refine r_pures [_, _] S0 rfl ?_
  clear S0; intro a0 S0
  refine wl_nil ?_
  refine nr_then ?_
  refine w_ret ?_
  obtain rfl := Option.some.inj H
  refine ret2 S0 rfl rfl rfl ?_
  replace Hq := HS.pull [_, _] Hq
  dsimp only [List.cons_append, List.nil_append] at Hq
  replace Hq := HS.pull [_] Hq
  dsimp only [List.cons_append, List.nil_append] at Hq
  replace Hq := HS.pull [_, _] Hq
  dsimp only [List.cons_append, List.nil_append] at Hq
  exact ⟨z3A, z2t.length, z5n, z9A, z8t.length, z11n, rfl, Hq⟩

end Go.Proofs.Ythlogangnppghaa.M

/- waybill/waybillplain.CopyInts: a plain function, and that the machine's call comes to it: printed by a program of the session's own. -/
set_option linter.unusedVariables false
set_option linter.unusedSimpArgs false
namespace Go.Proofs.Ythlogangnppghaa.M
open Go Go.Proofs.Ythlogangnppghaa.Sl
/-! ### waybill/waybillplain.CopyInts: function 11 -/
def waybillplain_CopyInts.f (x_l : List Int) : Option (List Int) := if ([] : List Int).length + x_l.length < 17592186044416 then (some (([] : List Int) ++ x_l)) else (none)
set_option maxRecDepth 100000 in
set_option maxHeartbeats 4000000 in
theorem waybillplain_CopyInts.calls (A0 : Option Addr) (n0 c0 : Nat) (x_l : List Int) (W0 : World) (X : Heap) (HR0 : Rd e_i64 X A0 n0 c0 x_l) (Hq : HS W0 [isH X] W0) (r : List Int) (H : waybillplain_CopyInts.f x_l = some r) :
    Calls Try.prog 11 #[.slice A0 n0 c0] W0 (fun e w => ∃ Ar0 nr0 cr0, e = .returned (.slice Ar0 nr0 cr0) ∧ HS W0 [own e_i64 3 Ar0 nr0 cr0 r, isH X] w) := by
  obtain rfl := HR0.1
  rw [waybillplain_CopyInts.f] at H
  refine calls_in Try.func11 rfl rfl ?_
  intro a0 S0
  refine w_seq ?_
  refine w_region ?_
  refine r_pures [_] S0 rfl ?_
  clear S0; intro a0 S0
  refine wl_nil ?_
  refine nr_then ?_
  refine w_seq ?_
  refine w_region ?_
  refine r_pures [_] S0 rfl ?_
  clear S0; intro a0 S0
  refine wl_nil ?_
  refine nr_then ?_
  refine w_seq ?_
  refine w_region ?_
  refine r_pures [_, _] S0 rfl ?_
  clear S0; intro a0 S0
  replace Hq := HS.own_nil e_i64 3 Hq
  by_cases z2h : ([] : List Int).length + x_l.length < 17592186044416
  · replace H := (if_pos z2h).symm.trans H
    refine r_app [] S0 Hq (isH_rd [_] Hq HR0) rfl rfl sl22 ti3 rfl z2h rfl rfl ?_
    clear S0 Hq; intro z3A z4n a0 w S0 Hq; dsimp only [List.cons_append, List.nil_append] at Hq
    refine r_pures [_] S0 rfl ?_
    clear S0; intro a0 S0
    refine wl_nil ?_
    refine nr_then ?_
    refine w_ret ?_
    obtain rfl := Option.some.inj H
    refine ret1 S0 rfl rfl ?_
    replace Hq := HS.pull [_] Hq
    dsimp only [List.cons_append, List.nil_append] at Hq
    replace Hq := HS.pull [_] Hq
    dsimp only [List.cons_append, List.nil_append] at Hq
    exact ⟨z3A, ((([] : List Int) ++ x_l).length), z4n, rfl, Hq⟩
  · replace H := (if_neg z2h).symm.trans H
    exact nomatch H

end Go.Proofs.Ythlogangnppghaa.M

/- waybill/waybillref13.Round: a plain function, and that the machine's call comes to it: printed by a program of the session's own. -/
set_option linter.unusedVariables false
set_option linter.unusedSimpArgs false
namespace Go.Proofs.Ythlogangnppghaa.M
open Go Go.Proofs.Ythlogangnppghaa.Sl
/-! ### waybill/waybillref13.Round: function 15 -/
def waybillref13_Round.f (x_n : Int) (x_client : Int) (x_size : Int) : Option (Int × Int × Int) := ((if x_n < 0 then (some true) else (if 32 < x_n then (some true) else (if x_client < 0 then (some true) else (if 1048576 < x_client then (some true) else (if x_size < 1 then (some true) else (some (decide (32 < x_size)))))))) : Option (Bool)).bind fun z1x => (if z1x = true then (some (0, 0, 4)) else (if x_n ≤ x_size then (some (0, 0, 0)) else (if x_size = 0 then (none) else (if (IntKind.i64.wrap (x_n.tdiv x_size)) = 0 then (none) else (some (IntKind.i64.wrap (x_client.tdiv (IntKind.i64.wrap (x_n.tdiv x_size))), x_client.tmod (IntKind.i64.wrap (x_n.tdiv x_size)), 0))))))
set_option maxRecDepth 100000 in
set_option maxHeartbeats 4000000 in
theorem waybillref13_Round.calls (x_n : Int) (x_client : Int) (x_size : Int) (W0 : World) (X : Heap)  (Hq : HS W0 [isH X] W0) (r : Int × Int × Int) (H : waybillref13_Round.f x_n x_client x_size = some r) :
    Calls Try.prog 15 #[.int .i64 x_n, .int .i64 x_client, .int .i64 x_size] W0 (fun e w => e = .returned (.tuple #[.int .i64 r.1, .int .i64 r.2.1, .int .i64 r.2.2]) ∧ HS W0 [isH X] w) := by
  rw [waybillref13_Round.f] at H
  refine calls_in Try.func15 rfl rfl ?_
  intro a0 S0
  refine w_seq ?_
  refine w_region ?_
  refine r_pures [_, _, _] S0 rfl ?_
  clear S0; intro a0 S0
  refine wl_nil ?_
  refine nr_then ?_
  refine w_seq ?_
  refine w_seq ?_
  obtain ⟨z1x, H, HU1⟩ := Option.bind_eq_some_iff.mp H
  refine w_cutT (fun a w => Sl 44 [] [(0, .int .i64 x_n), (1, .int .i64 x_client), (2, .int .i64 x_size), (30, .bool z1x)] a ∧ HS W0 [isH X] w) ?_ ?_
  · skip
    refine w_region ?_
    refine r_pures [_, _, _] S0 rfl ?_
    clear S0; intro a0 S0
    by_cases z2h : x_n < 0
    · replace H := (if_pos z2h).symm.trans H
      refine r_off S0 rfl rfl rfl (decide_eq_true z2h) ?_ rfl
      clear S0; intro a0 S0
      refine r_off S0 rfl rfl rfl (decide_eq_true z2h) ?_ rfl
      clear S0; intro a0 S0
      refine r_pick S0 rfl (decide_eq_true z2h) _ rfl rfl ?_
      clear S0; intro a0 S0
      refine r_pures [_] S0 rfl ?_
      clear S0; intro a0 S0
      refine r_off S0 rfl rfl rfl rfl ?_ rfl
      clear S0; intro a0 S0
      refine r_off S0 rfl rfl rfl rfl ?_ rfl
      clear S0; intro a0 S0
      refine r_pick S0 rfl rfl _ rfl rfl ?_
      clear S0; intro a0 S0
      refine r_pures [_] S0 rfl ?_
      clear S0; intro a0 S0
      refine r_off S0 rfl rfl rfl rfl ?_ rfl
      clear S0; intro a0 S0
      refine r_off S0 rfl rfl rfl rfl ?_ rfl
      clear S0; intro a0 S0
      refine r_pick S0 rfl rfl _ rfl rfl ?_
      clear S0; intro a0 S0
      refine r_pures [_] S0 rfl ?_
      clear S0; intro a0 S0
      refine r_off S0 rfl rfl rfl rfl ?_ rfl
      clear S0; intro a0 S0
      refine r_off S0 rfl rfl rfl rfl ?_ rfl
      clear S0; intro a0 S0
      refine r_pick S0 rfl rfl _ rfl rfl ?_
      clear S0; intro a0 S0
      refine r_pures [_] S0 rfl ?_
      clear S0; intro a0 S0
      refine r_off S0 rfl rfl rfl rfl ?_ rfl
      clear S0; intro a0 S0
      refine r_off S0 rfl rfl rfl rfl ?_ rfl
      clear S0; intro a0 S0
      refine r_pick S0 rfl rfl _ rfl rfl ?_
      clear S0; intro a0 S0
      refine wl_nil ?_
      refine nr_then ?_
      obtain rfl := Option.some.inj H
      exact ⟨S0.sub ⟨rfl, rfl, rfl, rfl, trivial⟩, Hq⟩
    · replace H := (if_neg z2h).symm.trans H
      refine r_on S0 rfl rfl rfl (decide_eq_false z2h) ?_
      refine r_pures [_] S0 rfl ?_
      clear S0; intro a0 S0
      refine r_on S0 rfl rfl rfl (decide_eq_false z2h) ?_
      refine r_pures [_] S0 rfl ?_
      clear S0; intro a0 S0
      refine r_pick S0 rfl (decide_eq_false z2h) _ rfl rfl ?_
      clear S0; intro a0 S0
      refine r_pures [_] S0 rfl ?_
      clear S0; intro a0 S0
      by_cases z3h : 32 < x_n
      · replace H := (if_pos z3h).symm.trans H
        refine r_off S0 rfl rfl rfl (decide_eq_true z3h) ?_ rfl
        clear S0; intro a0 S0
        refine r_off S0 rfl rfl rfl (decide_eq_true z3h) ?_ rfl
        clear S0; intro a0 S0
        refine r_pick S0 rfl (decide_eq_true z3h) _ rfl rfl ?_
        clear S0; intro a0 S0
        refine r_pures [_] S0 rfl ?_
        clear S0; intro a0 S0
        refine r_off S0 rfl rfl rfl rfl ?_ rfl
        clear S0; intro a0 S0
        refine r_off S0 rfl rfl rfl rfl ?_ rfl
        clear S0; intro a0 S0
        refine r_pick S0 rfl rfl _ rfl rfl ?_
        clear S0; intro a0 S0
        refine r_pures [_] S0 rfl ?_
        clear S0; intro a0 S0
        refine r_off S0 rfl rfl rfl rfl ?_ rfl
        clear S0; intro a0 S0
        refine r_off S0 rfl rfl rfl rfl ?_ rfl
        clear S0; intro a0 S0
        refine r_pick S0 rfl rfl _ rfl rfl ?_
        clear S0; intro a0 S0
        refine r_pures [_] S0 rfl ?_
        clear S0; intro a0 S0
        refine r_off S0 rfl rfl rfl rfl ?_ rfl
        clear S0; intro a0 S0
        refine r_off S0 rfl rfl rfl rfl ?_ rfl
        clear S0; intro a0 S0
        refine r_pick S0 rfl rfl _ rfl rfl ?_
        clear S0; intro a0 S0
        refine wl_nil ?_
        refine nr_then ?_
        obtain rfl := Option.some.inj H
        exact ⟨S0.sub ⟨rfl, rfl, rfl, rfl, trivial⟩, Hq⟩
      · replace H := (if_neg z3h).symm.trans H
        refine r_on S0 rfl rfl rfl (decide_eq_false z3h) ?_
        refine r_pures [_] S0 rfl ?_
        clear S0; intro a0 S0
        refine r_on S0 rfl rfl rfl (decide_eq_false z3h) ?_
        refine r_pures [_] S0 rfl ?_
        clear S0; intro a0 S0
        refine r_pick S0 rfl (decide_eq_false z3h) _ rfl rfl ?_
        clear S0; intro a0 S0
        refine r_pures [_] S0 rfl ?_
        clear S0; intro a0 S0
        by_cases z4h : x_client < 0
        · replace H := (if_pos z4h).symm.trans H
          refine r_off S0 rfl rfl rfl (decide_eq_true z4h) ?_ rfl
          clear S0; intro a0 S0
          refine r_off S0 rfl rfl rfl (decide_eq_true z4h) ?_ rfl
          clear S0; intro a0 S0
          refine r_pick S0 rfl (decide_eq_true z4h) _ rfl rfl ?_
          clear S0; intro a0 S0
          refine r_pures [_] S0 rfl ?_
          clear S0; intro a0 S0
          refine r_off S0 rfl rfl rfl rfl ?_ rfl
          clear S0; intro a0 S0
          refine r_off S0 rfl rfl rfl rfl ?_ rfl
          clear S0; intro a0 S0
          refine r_pick S0 rfl rfl _ rfl rfl ?_
          clear S0; intro a0 S0
          refine r_pures [_] S0 rfl ?_
          clear S0; intro a0 S0
          refine r_off S0 rfl rfl rfl rfl ?_ rfl
          clear S0; intro a0 S0
          refine r_off S0 rfl rfl rfl rfl ?_ rfl
          clear S0; intro a0 S0
          refine r_pick S0 rfl rfl _ rfl rfl ?_
          clear S0; intro a0 S0
          refine wl_nil ?_
          refine nr_then ?_
          obtain rfl := Option.some.inj H
          exact ⟨S0.sub ⟨rfl, rfl, rfl, rfl, trivial⟩, Hq⟩
        · replace H := (if_neg z4h).symm.trans H
          refine r_on S0 rfl rfl rfl (decide_eq_false z4h) ?_
          refine r_pures [_] S0 rfl ?_
          clear S0; intro a0 S0
          refine r_on S0 rfl rfl rfl (decide_eq_false z4h) ?_
          refine r_pures [_] S0 rfl ?_
          clear S0; intro a0 S0
          refine r_pick S0 rfl (decide_eq_false z4h) _ rfl rfl ?_
          clear S0; intro a0 S0
          refine r_pures [_] S0 rfl ?_
          clear S0; intro a0 S0
          by_cases z5h : 1048576 < x_client
          · replace H := (if_pos z5h).symm.trans H
            refine r_off S0 rfl rfl rfl (decide_eq_true z5h) ?_ rfl
            clear S0; intro a0 S0
            refine r_off S0 rfl rfl rfl (decide_eq_true z5h) ?_ rfl
            clear S0; intro a0 S0
            refine r_pick S0 rfl (decide_eq_true z5h) _ rfl rfl ?_
            clear S0; intro a0 S0
            refine r_pures [_] S0 rfl ?_
            clear S0; intro a0 S0
            refine r_off S0 rfl rfl rfl rfl ?_ rfl
            clear S0; intro a0 S0
            refine r_off S0 rfl rfl rfl rfl ?_ rfl
            clear S0; intro a0 S0
            refine r_pick S0 rfl rfl _ rfl rfl ?_
            clear S0; intro a0 S0
            refine wl_nil ?_
            refine nr_then ?_
            obtain rfl := Option.some.inj H
            exact ⟨S0.sub ⟨rfl, rfl, rfl, rfl, trivial⟩, Hq⟩
          · replace H := (if_neg z5h).symm.trans H
            refine r_on S0 rfl rfl rfl (decide_eq_false z5h) ?_
            refine r_pures [_] S0 rfl ?_
            clear S0; intro a0 S0
            refine r_on S0 rfl rfl rfl (decide_eq_false z5h) ?_
            refine r_pures [_] S0 rfl ?_
            clear S0; intro a0 S0
            refine r_pick S0 rfl (decide_eq_false z5h) _ rfl rfl ?_
            clear S0; intro a0 S0
            refine r_pures [_] S0 rfl ?_
            clear S0; intro a0 S0
            by_cases z6h : x_size < 1
            · replace H := (if_pos z6h).symm.trans H
              refine r_off S0 rfl rfl rfl (decide_eq_true z6h) ?_ rfl
              clear S0; intro a0 S0
              refine r_off S0 rfl rfl rfl (decide_eq_true z6h) ?_ rfl
              clear S0; intro a0 S0
              refine r_pick S0 rfl (decide_eq_true z6h) _ rfl rfl ?_
              clear S0; intro a0 S0
              refine wl_nil ?_
              refine nr_then ?_
              obtain rfl := Option.some.inj H
              exact ⟨S0.sub ⟨rfl, rfl, rfl, rfl, trivial⟩, Hq⟩
            · replace H := (if_neg z6h).symm.trans H
              refine r_on S0 rfl rfl rfl (decide_eq_false z6h) ?_
              refine r_pures [_] S0 rfl ?_
              clear S0; intro a0 S0
              refine r_on S0 rfl rfl rfl (decide_eq_false z6h) ?_
              refine r_pures [_] S0 rfl ?_
              clear S0; intro a0 S0
              refine r_pick S0 rfl (decide_eq_false z6h) _ rfl rfl ?_
              clear S0; intro a0 S0
              refine wl_nil ?_
              refine nr_then ?_
              obtain rfl := Option.some.inj H
              exact ⟨S0.sub ⟨rfl, rfl, rfl, rfl, trivial⟩, Hq⟩
  · clear S0; rintro a w ⟨S0, Hq⟩
    have H := HU1; clear HU1
    refine nr_then ?_
    by_cases z7h : z1x = true
    · replace H := (if_pos z7h).symm.trans H
      refine w_true S0 rfl z7h ?_
      refine w_seq ?_
      refine w_region ?_
      refine r_pures [_, _, _] S0 rfl ?_
      clear S0; intro a0 S0
      refine wl_nil ?_
      refine nr_then ?_
      refine w_ret ?_
      refine ret_then ?_
      obtain rfl := Option.some.inj H
      refine ret3 S0 rfl rfl rfl rfl ?_
      exact ⟨rfl, Hq⟩
    · replace H := (if_neg z7h).symm.trans H
      refine w_false S0 rfl (Bool.eq_false_iff.mpr z7h) ?_
      refine w_skip ?_
      refine nr_then ?_
      refine w_seq ?_
      refine w_seq ?_
      refine w_region ?_
      refine r_pures [_, _, _] S0 rfl ?_
      clear S0; intro a0 S0
      refine wl_nil ?_
      refine nr_then ?_
      by_cases z8h : x_n ≤ x_size
      · replace H := (if_pos z8h).symm.trans H
        refine w_true S0 rfl (decide_eq_true z8h) ?_
        refine w_seq ?_
        refine w_region ?_
        refine r_pures [_, _, _] S0 rfl ?_
        clear S0; intro a0 S0
        refine wl_nil ?_
        refine nr_then ?_
        refine w_ret ?_
        refine ret_then ?_
        obtain rfl := Option.some.inj H
        refine ret3 S0 rfl rfl rfl rfl ?_
        exact ⟨rfl, Hq⟩
      · replace H := (if_neg z8h).symm.trans H
        refine w_false S0 rfl (decide_eq_false z8h) ?_
        refine w_skip ?_
        refine nr_then ?_
        refine w_seq ?_
        refine w_draw TryM.mixed [.pu 0, .pu 1, .pu 2, .pu 3, .pu 4, .pu 5, .pu 6, .pu 7, .pu 8, .pu 9, .pu 10, .pu 11, .pu 12] (by kernel_rfl) rfl ?_
        replace Hq := Hq.drew
        refine st_pures [0, 1, 2] S0 rfl ?_
        intro az9q Sz9q
        by_cases z10h : x_size = 0
        · replace H := (if_pos z10h).symm.trans H
          exact nomatch H
        · replace H := (if_neg z10h).symm.trans H
          refine st_pu Sz9q rfl (g_none rfl) rfl rfl (fun _ => y_quo Sz9q rfl rfl z10h) ?_
          intro az11q Sz11q
          by_cases z12h : (IntKind.i64.wrap (x_n.tdiv x_size)) = 0
          · replace H := (if_pos z12h).symm.trans H
            exact nomatch H
          · replace H := (if_neg z12h).symm.trans H
            refine st_pu Sz11q rfl (g_none rfl) rfl rfl (fun _ => y_quo Sz11q rfl rfl z12h) ?_
            intro az13q Sz13q
            refine st_pures [5, 6, 7] Sz13q rfl ?_
            intro az14q Sz14q
            refine st_pu Sz14q rfl (g_none rfl) rfl rfl (fun _ => y_quo Sz14q rfl rfl z10h) ?_
            intro az15q Sz15q
            refine st_pu Sz15q rfl (g_none rfl) rfl rfl (fun _ => y_rem Sz15q rfl rfl z12h) ?_
            intro az16q Sz16q
            refine st_pures [10, 11, 12] Sz16q rfl ?_
            intro az17q Sz17q
            refine st_nil ?_
            replace S0 := Sz17q
            refine nr_then ?_
            refine w_ret ?_
            obtain rfl := Option.some.inj H
            refine ret3 S0 rfl rfl rfl rfl ?_
            exact ⟨rfl, Hq⟩

end Go.Proofs.Ythlogangnppghaa.M

/- waybill/waybillref13.rising: a plain function, and that the machine's call comes to it: printed by a program of the session's own. -/
set_option linter.unusedVariables false
set_option linter.unusedSimpArgs false
namespace Go.Proofs.Ythlogangnppghaa.M
open Go Go.Proofs.Ythlogangnppghaa.Sl
/-! ### waybill/waybillref13.rising: function 22 -/
def waybillref13_rising.l0 : Nat → (List Int) → Int → Option (Bool)
  | 0, _, _ => none
  | k + 1, x_l, z1x => if z1x < (x_l.length : Int) then (((if 0 ≤ z1x then (if (rd e_i64 x_l z1x) < 0 then (some true) else (if 0 < z1x then (if 0 ≤ (IntKind.i64.wrap (z1x - 1)) then (if (IntKind.i64.wrap (z1x - 1)) < (x_l.length : Int) then (some (decide ((rd e_i64 x_l z1x) ≤ (rd e_i64 x_l (IntKind.i64.wrap (z1x - 1)))))) else (none)) else (none)) else (some false))) else (none)) : Option (Bool)).bind fun z3x => (if z3x = true then (some false) else (waybillref13_rising.l0 k x_l (IntKind.i64.wrap (z1x + 1))))) else (some true)
def waybillref13_rising.f (k : Nat) (x_l : List Int) : Option (Bool) := (waybillref13_rising.l0 k x_l 0)
set_option maxRecDepth 100000 in
set_option maxHeartbeats 4000000 in
theorem waybillref13_rising.calls (k : Nat) (A0 : Option Addr) (n0 c0 : Nat) (x_l : List Int) (W0 : World) (X : Heap) (HR0 : Rd e_i64 X A0 n0 c0 x_l) (Hq : HS W0 [isH X] W0) (r : Bool) (H : waybillref13_rising.f k x_l = some r) :
    Calls Try.prog 22 #[.slice A0 n0 c0] W0 (fun e w => e = .returned (.bool r) ∧ HS W0 [isH X] w) := by
  obtain rfl := HR0.1
  rw [waybillref13_rising.f] at H
  refine calls_in Try.func22 rfl rfl ?_
  intro a0 S0
  refine w_seq ?_
  refine w_region ?_
  refine r_pures [_] S0 rfl ?_
  clear S0; intro a0 S0
  refine wl_nil ?_
  refine nr_then ?_
  refine w_seq ?_
  refine w_seq ?_
  refine w_region ?_
  refine r_pures [_] S0 rfl ?_
  clear S0; intro a0 S0
  refine wl_nil ?_
  refine nr_then ?_
  refine w_block ?_
  refine w_loop (fun kq a w => ∃ z1x, waybillref13_rising.l0 kq x_l z1x = some r ∧ Sl 31 [] [(0, .slice A0 x_l.length c0), (3, .int .i64 z1x)] a ∧ HS W0 [isH X] w) _ ⟨0, H, S0.sub ⟨rfl, rfl, trivial⟩, Hq⟩ ?_
  clear H Hq S0
  rintro k0 a w ⟨z1x, H, S0, Hq⟩
  cases k0 with
  | zero => simp [waybillref13_rising.l0] at H
  | succ k0 =>
    refine ⟨k0, rfl, ?_⟩
    rw [waybillref13_rising.l0] at H
    refine w_seq ?_
    refine w_seq ?_
    refine w_region ?_
    refine r_pures [_, _] S0 rfl ?_
    clear S0; intro a0 S0
    refine r_len S0 rfl sl22 rfl ?_
    clear S0; intro a0 S0
    refine r_pures [_] S0 rfl ?_
    clear S0; intro a0 S0
    refine wl_nil ?_
    refine nr_then ?_
    by_cases z2h : z1x < (x_l.length : Int)
    · replace H := (if_pos z2h).symm.trans H
      refine w_true S0 rfl (decide_eq_true z2h) ?_
      refine w_skip ?_
      refine nr_then ?_
      refine w_seq ?_
      refine w_block ?_
      refine w_seq ?_
      obtain ⟨z3x, H, HU1⟩ := Option.bind_eq_some_iff.mp H
      refine w_cutT (fun a w => Sl 31 [] [(0, .slice A0 x_l.length c0), (3, .int .i64 z1x), (30, .bool z3x)] a ∧ HS W0 [isH X] w) ?_ ?_
      · skip
        refine w_draw TryM.mixed [.pu 0, .pu 1, .pu 2, .rd 3, .pu 4, .pu 5, .pu 6, .pu 7, .pu 8, .pu 9, .pu 10, .pu 11, .pu 13, .pu 14, .pu 15, .pu 16, .rd 12, .rd 17, .pu 18, .pu 19, .pu 20] (by kernel_rfl) rfl ?_
        replace Hq := Hq.drew
        refine st_pures [0, 1] S0 rfl ?_
        intro az4q Sz4q
        by_cases z5h : 0 ≤ z1x
        · replace H := (if_pos z5h).symm.trans H
          obtain ⟨z6b, z7o, rfl⟩ := (isH_rd [] Hq HR0).at (by omega)
          refine st_pu Sz4q rfl (g_none rfl) rfl rfl (fun _ => y_index Sz4q rfl rfl sl22 ti3 z5h z2h) ?_
          intro az8q Sz8q
          refine st_rd Sz8q rfl (g_none rfl) rfl rfl (y_elS Sz8q (isH_rd [] Hq HR0) z5h z2h rfl ti3 _ rfl) ?_
          intro az9q Sz9q
          refine st_pures [4, 5] Sz9q rfl ?_
          intro az10q Sz10q
          by_cases z11h : (rd e_i64 x_l z1x) < 0
          · replace H := (if_pos z11h).symm.trans H
            refine st_puOff Sz10q rfl (g_off Sz10q rfl rfl rfl rfl (decide_eq_true z11h)) rfl rfl ?_
            intro az12q Sz12q
            refine st_puOff Sz12q rfl (g_off Sz12q rfl rfl rfl rfl (decide_eq_true z11h)) rfl rfl ?_
            intro az13q Sz13q
            refine st_puOff Sz13q rfl (g_off Sz13q rfl rfl rfl rfl (decide_eq_true z11h)) rfl rfl ?_
            intro az14q Sz14q
            refine st_puOff Sz14q rfl (g_offU Sz14q rfl rfl rfl rfl) rfl rfl ?_
            intro az15q Sz15q
            refine st_puOff Sz15q rfl (g_offU Sz15q rfl rfl rfl rfl) rfl rfl ?_
            intro az16q Sz16q
            refine st_puOff Sz16q rfl (g_offU Sz16q rfl rfl rfl rfl) rfl rfl ?_
            intro az17q Sz17q
            refine st_puOff Sz17q rfl (g_offU Sz17q rfl rfl rfl rfl) rfl rfl ?_
            intro az18q Sz18q
            refine st_puOff Sz18q rfl (g_offU Sz18q rfl rfl rfl rfl) rfl rfl ?_
            intro az19q Sz19q
            refine st_puOff Sz19q rfl (g_offU Sz19q rfl rfl rfl rfl) rfl rfl ?_
            intro az20q Sz20q
            refine st_puOff Sz20q rfl (g_offU Sz20q rfl rfl rfl rfl) rfl rfl ?_
            intro az21q Sz21q
            refine st_rdOff Sz21q rfl (g_offU Sz21q rfl rfl rfl rfl) rfl rfl ?_
            intro az22q Sz22q
            refine st_rdOff Sz22q rfl (g_offU Sz22q rfl rfl rfl rfl) rfl rfl ?_
            intro az23q Sz23q
            refine st_puOff Sz23q rfl (g_offU Sz23q rfl rfl rfl rfl) rfl rfl ?_
            intro az24q Sz24q
            refine st_puOff Sz24q rfl (g_off Sz24q rfl rfl rfl rfl (decide_eq_true z11h)) rfl rfl ?_
            intro az25q Sz25q
            refine st_pu Sz25q rfl (g_none rfl) rfl rfl (fun _ => y_pick Sz25q rfl (decide_eq_true z11h) _ rfl) ?_
            intro az26q Sz26q
            refine st_nil ?_
            replace S0 := Sz26q
            refine nr_then ?_
            obtain rfl := Option.some.inj H
            exact ⟨S0.sub ⟨rfl, rfl, rfl, trivial⟩, Hq⟩
          · replace H := (if_neg z11h).symm.trans H
            refine st_pu Sz10q rfl (g_on Sz10q rfl rfl rfl rfl (decide_eq_false z11h)) rfl rfl (fun _ => y_of Sz10q _ rfl) ?_
            intro az27q Sz27q
            refine st_pu Sz27q rfl (g_on Sz27q rfl rfl rfl rfl (decide_eq_false z11h)) rfl rfl (fun _ => y_of Sz27q _ rfl) ?_
            intro az28q Sz28q
            refine st_pu Sz28q rfl (g_on Sz28q rfl rfl rfl rfl (decide_eq_false z11h)) rfl rfl (fun _ => y_of Sz28q _ rfl) ?_
            intro az29q Sz29q
            by_cases z30h : 0 < z1x
            · replace H := (if_pos z30h).symm.trans H
              refine st_pu Sz29q rfl (g_on Sz29q rfl rfl rfl rfl (decide_eq_true z30h)) rfl rfl (fun _ => y_of Sz29q _ rfl) ?_
              intro az31q Sz31q
              refine st_pu Sz31q rfl (g_on Sz31q rfl rfl rfl rfl (decide_eq_true z30h)) rfl rfl (fun _ => y_of Sz31q _ rfl) ?_
              intro az32q Sz32q
              refine st_pu Sz32q rfl (g_on Sz32q rfl rfl rfl rfl (decide_eq_true z30h)) rfl rfl (fun _ => y_index Sz32q rfl rfl sl22 ti3 z5h z2h) ?_
              intro az33q Sz33q
              refine st_pu Sz33q rfl (g_on Sz33q rfl rfl rfl rfl (decide_eq_true z30h)) rfl rfl (fun _ => y_of Sz33q _ rfl) ?_
              intro az34q Sz34q
              refine st_pu Sz34q rfl (g_on Sz34q rfl rfl rfl rfl (decide_eq_true z30h)) rfl rfl (fun _ => y_of Sz34q _ rfl) ?_
              intro az35q Sz35q
              refine st_pu Sz35q rfl (g_on Sz35q rfl rfl rfl rfl (decide_eq_true z30h)) rfl rfl (fun _ => y_of Sz35q _ rfl) ?_
              intro az36q Sz36q
              by_cases z37h : 0 ≤ (IntKind.i64.wrap (z1x - 1))
              · replace H := (if_pos z37h).symm.trans H
                by_cases z38h : (IntKind.i64.wrap (z1x - 1)) < (x_l.length : Int)
                · replace H := (if_pos z38h).symm.trans H
                  refine st_pu Sz36q rfl (g_on Sz36q rfl rfl rfl rfl (decide_eq_true z30h)) rfl rfl (fun _ => y_index Sz36q rfl rfl sl22 ti3 z37h z38h) ?_
                  intro az39q Sz39q
                  refine st_rd Sz39q rfl (g_on Sz39q rfl rfl rfl rfl (decide_eq_true z30h)) rfl rfl (y_elS Sz39q (isH_rd [] Hq HR0) z5h z2h rfl ti3 _ rfl) ?_
                  intro az40q Sz40q
                  refine st_rd Sz40q rfl (g_on Sz40q rfl rfl rfl rfl (decide_eq_true z30h)) rfl rfl (y_elS Sz40q (isH_rd [] Hq HR0) z37h z38h rfl ti3 _ rfl) ?_
                  intro az41q Sz41q
                  refine st_pu Sz41q rfl (g_on Sz41q rfl rfl rfl rfl (decide_eq_true z30h)) rfl rfl (fun _ => y_of Sz41q _ rfl) ?_
                  intro az42q Sz42q
                  refine st_pu Sz42q rfl (g_on Sz42q rfl rfl rfl rfl (decide_eq_false z11h)) rfl rfl (fun _ => y_pick Sz42q rfl (decide_eq_true z30h) _ rfl) ?_
                  intro az43q Sz43q
                  refine st_pu Sz43q rfl (g_none rfl) rfl rfl (fun _ => y_pick Sz43q rfl (decide_eq_false z11h) _ rfl) ?_
                  intro az44q Sz44q
                  refine st_nil ?_
                  replace S0 := Sz44q
                  refine nr_then ?_
                  obtain rfl := Option.some.inj H
                  exact ⟨S0.sub ⟨rfl, rfl, rfl, trivial⟩, Hq⟩
                · replace H := (if_neg z38h).symm.trans H
                  exact nomatch H
              · replace H := (if_neg z37h).symm.trans H
                exact nomatch H
            · replace H := (if_neg z30h).symm.trans H
              refine st_puOff Sz29q rfl (g_off Sz29q rfl rfl rfl rfl (decide_eq_false z30h)) rfl rfl ?_
              intro az45q Sz45q
              refine st_puOff Sz45q rfl (g_off Sz45q rfl rfl rfl rfl (decide_eq_false z30h)) rfl rfl ?_
              intro az46q Sz46q
              refine st_puOff Sz46q rfl (g_off Sz46q rfl rfl rfl rfl (decide_eq_false z30h)) rfl rfl ?_
              intro az47q Sz47q
              refine st_puOff Sz47q rfl (g_off Sz47q rfl rfl rfl rfl (decide_eq_false z30h)) rfl rfl ?_
              intro az48q Sz48q
              refine st_puOff Sz48q rfl (g_off Sz48q rfl rfl rfl rfl (decide_eq_false z30h)) rfl rfl ?_
              intro az49q Sz49q
              refine st_puOff Sz49q rfl (g_off Sz49q rfl rfl rfl rfl (decide_eq_false z30h)) rfl rfl ?_
              intro az50q Sz50q
              refine st_puOff Sz50q rfl (g_off Sz50q rfl rfl rfl rfl (decide_eq_false z30h)) rfl rfl ?_
              intro az51q Sz51q
              refine st_rdOff Sz51q rfl (g_off Sz51q rfl rfl rfl rfl (decide_eq_false z30h)) rfl rfl ?_
              intro az52q Sz52q
              refine st_rdOff Sz52q rfl (g_off Sz52q rfl rfl rfl rfl (decide_eq_false z30h)) rfl rfl ?_
              intro az53q Sz53q
              refine st_puOff Sz53q rfl (g_off Sz53q rfl rfl rfl rfl (decide_eq_false z30h)) rfl rfl ?_
              intro az54q Sz54q
              refine st_pu Sz54q rfl (g_on Sz54q rfl rfl rfl rfl (decide_eq_false z11h)) rfl rfl (fun _ => y_pick Sz54q rfl (decide_eq_false z30h) _ rfl) ?_
              intro az55q Sz55q
              refine st_pu Sz55q rfl (g_none rfl) rfl rfl (fun _ => y_pick Sz55q rfl (decide_eq_false z11h) _ rfl) ?_
              intro az56q Sz56q
              refine st_nil ?_
              replace S0 := Sz56q
              refine nr_then ?_
              obtain rfl := Option.some.inj H
              exact ⟨S0.sub ⟨rfl, rfl, rfl, trivial⟩, Hq⟩
        · replace H := (if_neg z5h).symm.trans H
          exact nomatch H
      · clear S0; rintro a w ⟨S0, Hq⟩
        have H := HU1; clear HU1
        refine nr_then ?_
        by_cases z57h : z3x = true
        · replace H := (if_pos z57h).symm.trans H
          refine w_true S0 rfl z57h ?_
          refine w_seq ?_
          refine w_region ?_
          refine r_pures [_] S0 rfl ?_
          clear S0; intro a0 S0
          refine wl_nil ?_
          refine nr_then ?_
          refine w_ret ?_
          refine ret_in ?_
          refine ret_then ?_
          refine ret_then ?_
          refine ret_in ?_
          refine ret_then ?_
          obtain rfl := Option.some.inj H
          refine ret1 S0 rfl rfl ?_
          exact ⟨rfl, Hq⟩
        · replace H := (if_neg z57h).symm.trans H
          refine w_false S0 rfl (Bool.eq_false_iff.mpr z57h) ?_
          refine w_skip ?_
          refine nr_in ?_
          refine nr_then ?_
          refine w_region ?_
          refine r_pures [_, _, _] S0 rfl ?_
          clear S0; intro a0 S0
          refine wl_nil ?_
          refine nr_then ?_
          exact ⟨(IntKind.i64.wrap (z1x + 1)), H, S0.sub ⟨rfl, rfl, trivial⟩, Hq⟩
    · replace H := (if_neg z2h).symm.trans H
      refine w_false S0 rfl (decide_eq_false z2h) ?_
      refine w_exit ?_
      refine ex_then ?_
      refine ex_then ?_
      refine ex_in ?_
      refine nr_then ?_
      refine w_seq ?_
      refine w_region ?_
      refine r_pures [_] S0 rfl ?_
      clear S0; intro a0 S0
      refine wl_nil ?_
      refine nr_then ?_
      refine w_ret ?_
      obtain rfl := Option.some.inj H
      refine ret1 S0 rfl rfl ?_
      exact ⟨rfl, Hq⟩

end Go.Proofs.Ythlogangnppghaa.M

/- waybill/waybillref10.times: a plain function, and that the machine's call comes to it: printed by a program of the session's own. -/
set_option linter.unusedVariables false
set_option linter.unusedSimpArgs false
namespace Go.Proofs.Ythlogangnppghaa.M
open Go Go.Proofs.Ythlogangnppghaa.Sl
/-! ### waybill/waybillref10.times: function 48 -/
def waybillref10_times.l0 : Nat → Int → Int → Int → Int → Option (Int)
  | 0, _, _, _, _ => none
  | k + 1, x_a, x_b, z2x, z3x => if z3x < 64 then (if z3x < 0 then (none) else (((if (bt_and .u64 (sh_shr .u64 x_b z3x) 1) = 1 then (some (IntKind.u64.wrap (z2x + (sh_shl .u64 x_a z3x)))) else (some z2x)) : Option (Int)).bind fun z6x => (waybillref10_times.l0 k x_a x_b z6x (IntKind.i64.wrap (z3x + 1))))) else (some z2x)
def waybillref10_times.f (k : Nat) (x_a : Int) (x_b : Int) : Option (Int) := (((waybillref10_times.l0 k x_a x_b 0 0)) : Option (Int)).bind fun z1x => (some z1x)
set_option maxRecDepth 100000 in
set_option maxHeartbeats 4000000 in
theorem waybillref10_times.calls (k : Nat) (x_a : Int) (x_b : Int) (W0 : World) (X : Heap)  (Hq : HS W0 [isH X] W0) (r : Int) (H : waybillref10_times.f k x_a x_b = some r) :
    Calls Try.prog 48 #[.int .u64 x_a, .int .u64 x_b] W0 (fun e w => e = .returned (.int .u64 r) ∧ HS W0 [isH X] w) := by
  rw [waybillref10_times.f] at H
  refine calls_in Try.func48 rfl rfl ?_
  intro a0 S0
  refine w_seq ?_
  refine w_region ?_
  refine r_pures [_] S0 rfl ?_
  clear S0; intro a0 S0
  refine wl_nil ?_
  refine nr_then ?_
  refine w_seq ?_
  refine w_region ?_
  refine r_pures [_] S0 rfl ?_
  clear S0; intro a0 S0
  refine wl_nil ?_
  refine nr_then ?_
  refine w_seq ?_
  refine w_seq ?_
  refine w_region ?_
  refine r_pures [_] S0 rfl ?_
  clear S0; intro a0 S0
  refine wl_nil ?_
  refine nr_then ?_
  obtain ⟨z1x, H, HU1⟩ := Option.bind_eq_some_iff.mp H
  refine w_cutT (fun a w => Sl 22 [] [(5, .int .u64 z1x)] a ∧ HS W0 [isH X] w) ?_ ?_
  · skip
    refine w_block ?_
    refine w_loop (fun kq a w => ∃ z2x z3x, waybillref10_times.l0 kq x_a x_b z2x z3x = some z1x ∧ Sl 22 [] [(0, .int .u64 x_a), (1, .int .u64 x_b), (5, .int .u64 z2x), (6, .int .i64 z3x)] a ∧ HS W0 [isH X] w) _ ⟨0, 0, H, S0.sub ⟨rfl, rfl, rfl, rfl, trivial⟩, Hq⟩ ?_
    clear H Hq S0
    rintro k0 a w ⟨z2x, z3x, H, S0, Hq⟩
    cases k0 with
    | zero => simp [waybillref10_times.l0] at H
    | succ k0 =>
      refine ⟨k0, rfl, ?_⟩
      rw [waybillref10_times.l0] at H
      refine w_seq ?_
      refine w_seq ?_
      refine w_region ?_
      refine r_pures [_, _] S0 rfl ?_
      clear S0; intro a0 S0
      refine wl_nil ?_
      refine nr_then ?_
      by_cases z4h : z3x < 64
      · replace H := (if_pos z4h).symm.trans H
        refine w_true S0 rfl (decide_eq_true z4h) ?_
        refine w_skip ?_
        refine nr_then ?_
        refine w_seq ?_
        refine w_block ?_
        refine w_seq ?_
        refine w_region ?_
        refine r_pures [_, _] S0 rfl ?_
        clear S0; intro a0 S0
        by_cases z5h : z3x < 0
        · replace H := (if_pos z5h).symm.trans H
          exact nomatch H
        · replace H := (if_neg z5h).symm.trans H
          refine r_shr' S0 rfl rfl z5h rfl ?_
          clear S0; intro a0 S0
          refine r_pures [_, _] S0 rfl ?_
          clear S0; intro a0 S0
          refine wl_nil ?_
          refine nr_then ?_
          obtain ⟨z6x, H, HU2⟩ := Option.bind_eq_some_iff.mp H
          refine w_cutT (fun a w => Sl 22 [] [(0, .int .u64 x_a), (1, .int .u64 x_b), (5, .int .u64 z6x), (6, .int .i64 z3x)] a ∧ HS W0 [isH X] w) ?_ ?_
          · skip
            by_cases z7h : (bt_and .u64 (sh_shr .u64 x_b z3x) 1) = 1
            · replace H := (if_pos z7h).symm.trans H
              refine w_true S0 rfl (decide_eq_true z7h) ?_
              refine w_region ?_
              refine r_pures [_, _, _] S0 rfl ?_
              clear S0; intro a0 S0
              refine r_shl' S0 rfl rfl z5h rfl ?_
              clear S0; intro a0 S0
              refine r_pures [_, _] S0 rfl ?_
              clear S0; intro a0 S0
              refine wl_nil ?_
              refine nr_then ?_
              obtain rfl := Option.some.inj H
              exact ⟨S0.sub ⟨rfl, rfl, rfl, rfl, trivial⟩, Hq⟩
            · replace H := (if_neg z7h).symm.trans H
              refine w_false S0 rfl (decide_eq_false z7h) ?_
              refine w_skip ?_
              refine nr_then ?_
              obtain rfl := Option.some.inj H
              exact ⟨S0.sub ⟨rfl, rfl, rfl, rfl, trivial⟩, Hq⟩
          · clear S0; rintro a w ⟨S0, Hq⟩
            have H := HU2; clear HU2
            refine nr_in ?_
            refine nr_then ?_
            refine w_region ?_
            refine r_pures [_, _, _] S0 rfl ?_
            clear S0; intro a0 S0
            refine wl_nil ?_
            refine nr_then ?_
            exact ⟨z6x, (IntKind.i64.wrap (z3x + 1)), H, S0.sub ⟨rfl, rfl, rfl, rfl, trivial⟩, Hq⟩
      · replace H := (if_neg z4h).symm.trans H
        refine w_false S0 rfl (decide_eq_false z4h) ?_
        refine w_exit ?_
        refine ex_then ?_
        refine ex_then ?_
        refine ex_in ?_
        refine nr_then ?_
        obtain rfl := Option.some.inj H
        exact ⟨S0.sub ⟨rfl, trivial⟩, Hq⟩
  · clear S0; rintro a w ⟨S0, Hq⟩
    have H := HU1; clear HU1
    refine nr_then ?_
    refine w_seq ?_
    refine w_region ?_
    refine r_pures [_, _] S0 rfl ?_
    clear S0; intro a0 S0
    refine wl_nil ?_
    refine nr_then ?_
    refine w_ret ?_
    obtain rfl := Option.some.inj H
    refine ret1 S0 rfl rfl ?_
    exact ⟨rfl, Hq⟩

end Go.Proofs.Ythlogangnppghaa.M

/- waybill/waybillref10.Mix: a plain function, and that the machine's call comes to it: printed by a program of the session's own. -/
set_option linter.unusedVariables false
set_option linter.unusedSimpArgs false
namespace Go.Proofs.Ythlogangnppghaa.M
open Go Go.Proofs.Ythlogangnppghaa.Sl
/-! ### waybill/waybillref10.Mix: function 38 -/
def waybillref10_Mix.f (k : Nat) (x_x : Int) : Option (Int) := (waybillref10_times.f k (bt_xor .u64 x_x (sh_shr .u64 x_x 33)) 18397679294719823053).bind fun z2t => ((waybillref10_times.f k (bt_xor .u64 z2t (sh_shr .u64 z2t 33)) 14181476777654086739).bind fun z4t => (some (bt_xor .u64 z4t (sh_shr .u64 z4t 33))))
set_option maxRecDepth 100000 in
set_option maxHeartbeats 4000000 in
theorem waybillref10_Mix.calls (k : Nat) (x_x : Int) (W0 : World) (X : Heap)  (Hq : HS W0 [isH X] W0) (r : Int) (H : waybillref10_Mix.f k x_x = some r) :
    Calls Try.prog 38 #[.int .u64 x_x] W0 (fun e w => e = .returned (.int .u64 r) ∧ HS W0 [isH X] w) := by
  rw [waybillref10_Mix.f] at H
  refine calls_in Try.func38 rfl rfl ?_
  intro a0 S0
  refine w_seq ?_
  refine w_region ?_
  refine r_pures [_] S0 rfl ?_
  clear S0; intro a0 S0
  refine wl_nil ?_
  refine nr_then ?_
  refine w_seq ?_
  refine w_region ?_
  refine r_pures [_, _] S0 rfl ?_
  clear S0; intro a0 S0
  refine r_shr' S0 rfl rfl (by decide) rfl ?_
  clear S0; intro a0 S0
  refine r_pures [_] S0 rfl ?_
  clear S0; intro a0 S0
  obtain ⟨Xz1, HXz1, HPz1, HBz1⟩ := call_frame [] Hq
  dsimp only [List.cons_append, List.nil_append] at HXz1 HBz1
  obtain ⟨z2t, Hc, H⟩ := Option.bind_eq_some_iff.mp H
  refine r_call S0 rfl rfl goes48 rfl ?_
  refine (waybillref10_times.calls _ (bt_xor .u64 x_x (sh_shr .u64 x_x 33)) 18397679294719823053 _ _  HXz1 z2t Hc).mono ?_
  rintro e w ⟨rfl, Hq'⟩
  have Hq : HS W0 [isH X] w := HBz1 [] _ Hq'
  clear HXz1 HPz1 HBz1 Hq'
  refine ⟨.int .u64 z2t, rfl, ?_⟩; clear S0; intro a0 S0
  refine r_pures [_] S0 rfl ?_
  clear S0; intro a0 S0
  refine wl_nil ?_
  refine nr_then ?_
  refine w_seq ?_
  refine w_region ?_
  refine r_pures [_, _] S0 rfl ?_
  clear S0; intro a0 S0
  refine r_shr' S0 rfl rfl (by decide) rfl ?_
  clear S0; intro a0 S0
  refine r_pures [_] S0 rfl ?_
  clear S0; intro a0 S0
  obtain ⟨Xz3, HXz3, HPz3, HBz3⟩ := call_frame [] Hq
  dsimp only [List.cons_append, List.nil_append] at HXz3 HBz3
  obtain ⟨z4t, Hc, H⟩ := Option.bind_eq_some_iff.mp H
  refine r_call S0 rfl rfl goes48 rfl ?_
  refine (waybillref10_times.calls _ (bt_xor .u64 z2t (sh_shr .u64 z2t 33)) 14181476777654086739 _ _  HXz3 z4t Hc).mono ?_
  rintro e w ⟨rfl, Hq'⟩
  have Hq : HS W0 [isH X] w := HBz3 [] _ Hq'
  clear HXz3 HPz3 HBz3 Hq'
  refine ⟨.int .u64 z4t, rfl, ?_⟩; clear S0; intro a0 S0
  refine r_pures [_] S0 rfl ?_
  clear S0; intro a0 S0
  refine wl_nil ?_
  refine nr_then ?_
  refine w_seq ?_
  refine w_region ?_
  refine r_pures [_, _] S0 rfl ?_
  clear S0; intro a0 S0
  refine r_shr' S0 rfl rfl (by decide) rfl ?_
  clear S0; intro a0 S0
  refine r_pures [_, _] S0 rfl ?_
  clear S0; intro a0 S0
  refine wl_nil ?_
  refine nr_then ?_
  refine w_ret ?_
  obtain rfl := Option.some.inj H
  refine ret1 S0 rfl rfl ?_
  exact ⟨rfl, Hq⟩

end Go.Proofs.Ythlogangnppghaa.M

/- waybill/waybillref11.Next: a plain function, and that the machine's call comes to it: printed by a program of the session's own. -/
set_option linter.unusedVariables false
set_option linter.unusedSimpArgs false
namespace Go.Proofs.Ythlogangnppghaa.M
open Go Go.Proofs.Ythlogangnppghaa.Sl
/-! ### waybill/waybillref11.Next: function 46 -/
def waybillref11_Next.f (k : Nat) (x_state : Int) : Option (Int × Int) := (waybillref10_Mix.f k (IntKind.u64.wrap (x_state + 11400714819323198485))).bind fun z2t => (some (IntKind.u64.wrap (x_state + 11400714819323198485), z2t))
set_option maxRecDepth 100000 in
set_option maxHeartbeats 4000000 in
theorem waybillref11_Next.calls (k : Nat) (x_state : Int) (W0 : World) (X : Heap)  (Hq : HS W0 [isH X] W0) (r : Int × Int) (H : waybillref11_Next.f k x_state = some r) :
    Calls Try.prog 46 #[.int .u64 x_state] W0 (fun e w => e = .returned (.tuple #[.int .u64 r.1, .int .u64 r.2]) ∧ HS W0 [isH X] w) := by
  rw [waybillref11_Next.f] at H
  refine calls_in Try.func46 rfl rfl ?_
  intro a0 S0
  refine w_seq ?_
  refine w_region ?_
  refine r_pures [_, _] S0 rfl ?_
  clear S0; intro a0 S0
  refine wl_nil ?_
  refine nr_then ?_
  refine w_seq ?_
  refine w_region ?_
  refine r_pures [_, _, _, _] S0 rfl ?_
  clear S0; intro a0 S0
  obtain ⟨Xz1, HXz1, HPz1, HBz1⟩ := call_frame [] Hq
  dsimp only [List.cons_append, List.nil_append] at HXz1 HBz1
  obtain ⟨z2t, Hc, H⟩ := Option.bind_eq_some_iff.mp H
  refine r_call S0 rfl rfl goes38 rfl ?_
  refine (waybillref10_Mix.calls _ (IntKind.u64.wrap (x_state + 11400714819323198485)) _ _  HXz1 z2t Hc).mono ?_
  rintro e w ⟨rfl, Hq'⟩
  have Hq : HS W0 [isH X] w := HBz1 [] _ Hq'
  clear HXz1 HPz1 HBz1 Hq'
  refine ⟨.int .u64 z2t, rfl, ?_⟩; clear S0; intro a0 S0
  refine r_pures [_, _] S0 rfl ?_
  clear S0; intro a0 S0
  refine wl_nil ?_
  refine nr_then ?_
  refine w_ret ?_
  obtain rfl := Option.some.inj H
  refine ret2 S0 rfl rfl rfl ?_
  exact ⟨rfl, Hq⟩

end Go.Proofs.Ythlogangnppghaa.M

/- waybill/waybillref10.Share: a plain function, and that the machine's call comes to it: printed by a program of the session's own. -/
set_option linter.unusedVariables false
set_option linter.unusedSimpArgs false
namespace Go.Proofs.Ythlogangnppghaa.M
open Go Go.Proofs.Ythlogangnppghaa.Sl
/-! ### waybill/waybillref10.Share: function 47 -/
def waybillref10_Share.f (x_x : Int) (x_n : Int) : Option (Int × Int) := ((if x_n < 1 then (some true) else (some (decide (1048576 < x_n)))) : Option (Bool)).bind fun z1x => (if z1x = true then (some (0, 4)) else (some (IntKind.i64.wrap (sh_shr .u64 (IntKind.u64.wrap ((sh_shr .u64 x_x 32) * (IntKind.u64.wrap x_n))) 32), 0)))
set_option maxRecDepth 100000 in
set_option maxHeartbeats 4000000 in
theorem waybillref10_Share.calls (x_x : Int) (x_n : Int) (W0 : World) (X : Heap)  (Hq : HS W0 [isH X] W0) (r : Int × Int) (H : waybillref10_Share.f x_x x_n = some r) :
    Calls Try.prog 47 #[.int .u64 x_x, .int .i64 x_n] W0 (fun e w => e = .returned (.tuple #[.int .i64 r.1, .int .i64 r.2]) ∧ HS W0 [isH X] w) := by
  rw [waybillref10_Share.f] at H
  refine calls_in Try.func47 rfl rfl ?_
  intro a0 S0
  refine w_seq ?_
  refine w_region ?_
  refine r_pures [_, _] S0 rfl ?_
  clear S0; intro a0 S0
  refine wl_nil ?_
  refine nr_then ?_
  refine w_seq ?_
  refine w_seq ?_
  obtain ⟨z1x, H, HU1⟩ := Option.bind_eq_some_iff.mp H
  refine w_cutT (fun a w => Sl 19 [] [(0, .int .u64 x_x), (1, .int .i64 x_n), (11, .bool z1x)] a ∧ HS W0 [isH X] w) ?_ ?_
  · skip
    refine w_region ?_
    refine r_pures [_, _, _] S0 rfl ?_
    clear S0; intro a0 S0
    by_cases z2h : x_n < 1
    · replace H := (if_pos z2h).symm.trans H
      refine r_off S0 rfl rfl rfl (decide_eq_true z2h) ?_ rfl
      clear S0; intro a0 S0
      refine r_off S0 rfl rfl rfl (decide_eq_true z2h) ?_ rfl
      clear S0; intro a0 S0
      refine r_pick S0 rfl (decide_eq_true z2h) _ rfl rfl ?_
      clear S0; intro a0 S0
      refine wl_nil ?_
      refine nr_then ?_
      obtain rfl := Option.some.inj H
      exact ⟨S0.sub ⟨rfl, rfl, rfl, trivial⟩, Hq⟩
    · replace H := (if_neg z2h).symm.trans H
      refine r_on S0 rfl rfl rfl (decide_eq_false z2h) ?_
      refine r_pures [_] S0 rfl ?_
      clear S0; intro a0 S0
      refine r_on S0 rfl rfl rfl (decide_eq_false z2h) ?_
      refine r_pures [_] S0 rfl ?_
      clear S0; intro a0 S0
      refine r_pick S0 rfl (decide_eq_false z2h) _ rfl rfl ?_
      clear S0; intro a0 S0
      refine wl_nil ?_
      refine nr_then ?_
      obtain rfl := Option.some.inj H
      exact ⟨S0.sub ⟨rfl, rfl, rfl, trivial⟩, Hq⟩
  · clear S0; rintro a w ⟨S0, Hq⟩
    have H := HU1; clear HU1
    refine nr_then ?_
    by_cases z3h : z1x = true
    · replace H := (if_pos z3h).symm.trans H
      refine w_true S0 rfl z3h ?_
      refine w_seq ?_
      refine w_region ?_
      refine r_pures [_, _] S0 rfl ?_
      clear S0; intro a0 S0
      refine wl_nil ?_
      refine nr_then ?_
      refine w_ret ?_
      refine ret_then ?_
      obtain rfl := Option.some.inj H
      refine ret2 S0 rfl rfl rfl ?_
      exact ⟨rfl, Hq⟩
    · replace H := (if_neg z3h).symm.trans H
      refine w_false S0 rfl (Bool.eq_false_iff.mpr z3h) ?_
      refine w_skip ?_
      refine nr_then ?_
      refine w_seq ?_
      refine w_region ?_
      refine r_pures [_] S0 rfl ?_
      clear S0; intro a0 S0
      refine r_shr' S0 rfl rfl (by decide) rfl ?_
      clear S0; intro a0 S0
      refine r_pures [_] S0 rfl ?_
      clear S0; intro a0 S0
      refine r_conv S0 rfl und3 und23 rfl ?_
      clear S0; intro a0 S0
      refine r_pures [_] S0 rfl ?_
      clear S0; intro a0 S0
      refine r_shr' S0 rfl rfl (by decide) rfl ?_
      clear S0; intro a0 S0
      refine r_conv S0 rfl und23 und3 rfl ?_
      clear S0; intro a0 S0
      refine r_pures [_, _] S0 rfl ?_
      clear S0; intro a0 S0
      refine wl_nil ?_
      refine nr_then ?_
      refine w_ret ?_
      obtain rfl := Option.some.inj H
      refine ret2 S0 rfl rfl rfl ?_
      exact ⟨rfl, Hq⟩

end Go.Proofs.Ythlogangnppghaa.M

/- waybill/waybillref11.one: a plain function, and that the machine's call comes to it: printed by a program of the session's own. -/
set_option linter.unusedVariables false
set_option linter.unusedSimpArgs false
namespace Go.Proofs.Ythlogangnppghaa.M
open Go Go.Proofs.Ythlogangnppghaa.Sl
/-! ### waybill/waybillref11.one: function 37 -/
def waybillref11_one.f (k : Nat) (x_state : Int) (x_n : Int) : Option (Int × Int) := (waybillref11_Next.f k x_state).bind fun (z2t, z3t) => ((waybillref10_Share.f z3t x_n).bind fun (z5t, z6t) => (some (z2t, z5t)))
set_option maxRecDepth 100000 in
set_option maxHeartbeats 4000000 in
theorem waybillref11_one.calls (k : Nat) (x_state : Int) (x_n : Int) (W0 : World) (X : Heap)  (Hq : HS W0 [isH X] W0) (r : Int × Int) (H : waybillref11_one.f k x_state x_n = some r) :
    Calls Try.prog 37 #[.int .u64 x_state, .int .i64 x_n] W0 (fun e w => e = .returned (.tuple #[.int .u64 r.1, .int .i64 r.2]) ∧ HS W0 [isH X] w) := by
  rw [waybillref11_one.f] at H
  refine calls_in Try.func37 rfl rfl ?_
  intro a0 S0
  refine w_seq ?_
  refine w_region ?_
  refine r_pures [_, _] S0 rfl ?_
  clear S0; intro a0 S0
  refine wl_nil ?_
  refine nr_then ?_
  refine w_seq ?_
  refine w_region ?_
  refine r_pures [_] S0 rfl ?_
  clear S0; intro a0 S0
  obtain ⟨Xz1, HXz1, HPz1, HBz1⟩ := call_frame [] Hq
  dsimp only [List.cons_append, List.nil_append] at HXz1 HBz1
  obtain ⟨⟨z2t, z3t⟩, Hc, H⟩ := Option.bind_eq_some_iff.mp H
  dsimp only at H
  refine r_call S0 rfl rfl goes46 rfl ?_
  refine (waybillref11_Next.calls _ x_state _ _  HXz1 (z2t, z3t) Hc).mono ?_
  rintro e w ⟨rfl, Hq'⟩
  have Hq : HS W0 [isH X] w := HBz1 [] _ Hq'
  clear HXz1 HPz1 HBz1 Hq'
  refine ⟨.tuple #[.int .u64 z2t, .int .u64 z3t], rfl, ?_⟩; clear S0; intro a0 S0
  refine r_pures [_, _, _, _, _] S0 rfl ?_
  clear S0; intro a0 S0
  refine wl_nil ?_
  refine nr_then ?_
  refine w_seq ?_
  refine w_region ?_
  refine r_pures [_, _] S0 rfl ?_
  clear S0; intro a0 S0
  obtain ⟨Xz4, HXz4, HPz4, HBz4⟩ := call_frame [] Hq
  dsimp only [List.cons_append, List.nil_append] at HXz4 HBz4
  obtain ⟨⟨z5t, z6t⟩, Hc, H⟩ := Option.bind_eq_some_iff.mp H
  dsimp only at H
  refine r_call S0 rfl rfl goes47 rfl ?_
  refine (waybillref10_Share.calls z3t x_n _ _  HXz4 (z5t, z6t) Hc).mono ?_
  rintro e w ⟨rfl, Hq'⟩
  have Hq : HS W0 [isH X] w := HBz4 [] _ Hq'
  clear HXz4 HPz4 HBz4 Hq'
  refine ⟨.tuple #[.int .i64 z5t, .int .i64 z6t], rfl, ?_⟩; clear S0; intro a0 S0
  refine r_pures [_, _, _, _, _] S0 rfl ?_
  clear S0; intro a0 S0
  refine wl_nil ?_
  refine nr_then ?_
  refine w_seq ?_
  refine w_region ?_
  refine r_pures [_, _, _, _] S0 rfl ?_
  clear S0; intro a0 S0
  refine wl_nil ?_
  refine nr_then ?_
  refine w_ret ?_
  obtain rfl := Option.some.inj H
  refine ret2 S0 rfl rfl rfl ?_
  exact ⟨rfl, Hq⟩

end Go.Proofs.Ythlogangnppghaa.M

/- waybill/waybillref11.Shuffle: a plain function, and that the machine's call comes to it: printed by a program of the session's own. -/
set_option linter.unusedVariables false
set_option linter.unusedSimpArgs false
namespace Go.Proofs.Ythlogangnppghaa.M
open Go Go.Proofs.Ythlogangnppghaa.Sl
/-! ### waybill/waybillref11.Shuffle: function 23 -/
def waybillref11_Shuffle.l0 : Nat → Int → Int → (List Int) → Option ((List Int))
  | 0, _, _, _ => none
  | k + 1, x_n, z10x, z11x => if z10x < x_n then (if z11x.length + ([z10x] : List Int).length < 17592186044416 then (waybillref11_Shuffle.l0 k x_n (IntKind.i64.wrap (z10x + 1)) (z11x ++ ([z10x] : List Int))) else (none)) else (some z11x)
def waybillref11_Shuffle.l1 : Nat → (List Int) → Int → Int → (List Int) → Option (Int × (List Int))
  | 0, _, _, _, _ => none
  | k + 1, z6x, z24x, z25x, z26x => if 0 < z25x then ((waybillref11_one.f k z24x (IntKind.i64.wrap (z25x + 1))).bind fun (z29t, z30t) => (if 0 ≤ z30t then (if z30t < (z6x.length : Int) then (if 0 ≤ z25x then (if z25x < (z6x.length : Int) then (waybillref11_Shuffle.l1 k z6x z29t (IntKind.i64.wrap (z25x - 1)) ((z26x.set (Int.toNat z25x) (rd e_i64 z26x z30t)).set (Int.toNat z30t) (rd e_i64 z26x z25x))) else (none)) else (none)) else (none)) else (none))) else (some (z24x, z26x))
def waybillref11_Shuffle.f (k : Nat) (x_state : Int) (x_n : Int) : Option (Int × (List Int) × Int) := ((if x_n < 0 then (some true) else (some (decide (1024 < x_n)))) : Option (Bool)).bind fun z1x => (if z1x = true then (some (0, ([] : List Int), 4)) else ((((waybillref11_Shuffle.l0 k x_n 0 ([] : List Int))) : Option ((List Int))).bind fun z6x => ((((waybillref11_Shuffle.l1 k z6x x_state (IntKind.i64.wrap (x_n - 1)) z6x)) : Option (Int × (List Int))).bind fun (z22x, z23x) => (some (z22x, z23x, 0)))))
set_option maxRecDepth 100000 in
set_option maxHeartbeats 4000000 in
theorem waybillref11_Shuffle.calls (k : Nat) (x_state : Int) (x_n : Int) (W0 : World) (X : Heap)  (Hq : HS W0 [isH X] W0) (r : Int × (List Int) × Int) (H : waybillref11_Shuffle.f k x_state x_n = some r) :
    Calls Try.prog 23 #[.int .u64 x_state, .int .i64 x_n] W0 (fun e w => ∃ Ar0 nr0 cr0, e = .returned (.tuple #[.int .u64 r.1, .slice Ar0 nr0 cr0, .int .i64 r.2.2]) ∧ HS W0 [own e_i64 3 Ar0 nr0 cr0 r.2.1, isH X] w) := by
  rw [waybillref11_Shuffle.f] at H
  refine calls_in Try.func23 rfl rfl ?_
  intro a0 S0
  refine w_seq ?_
  refine w_region ?_
  refine r_pures [_, _, _] S0 rfl ?_
  clear S0; intro a0 S0
  refine wl_nil ?_
  refine nr_then ?_
  refine w_seq ?_
  refine w_seq ?_
  obtain ⟨z1x, H, HU1⟩ := Option.bind_eq_some_iff.mp H
  refine w_cutT (fun a w => Sl 55 [] [(0, .int .u64 x_state), (1, .int .i64 x_n), (16, .bool z1x)] a ∧ HS W0 [isH X] w) ?_ ?_
  · skip
    refine w_region ?_
    refine r_pures [_, _, _] S0 rfl ?_
    clear S0; intro a0 S0
    by_cases z2h : x_n < 0
    · replace H := (if_pos z2h).symm.trans H
      refine r_off S0 rfl rfl rfl (decide_eq_true z2h) ?_ rfl
      clear S0; intro a0 S0
      refine r_off S0 rfl rfl rfl (decide_eq_true z2h) ?_ rfl
      clear S0; intro a0 S0
      refine r_pick S0 rfl (decide_eq_true z2h) _ rfl rfl ?_
      clear S0; intro a0 S0
      refine wl_nil ?_
      refine nr_then ?_
      obtain rfl := Option.some.inj H
      exact ⟨S0.sub ⟨rfl, rfl, rfl, trivial⟩, Hq⟩
    · replace H := (if_neg z2h).symm.trans H
      refine r_on S0 rfl rfl rfl (decide_eq_false z2h) ?_
      refine r_pures [_] S0 rfl ?_
      clear S0; intro a0 S0
      refine r_on S0 rfl rfl rfl (decide_eq_false z2h) ?_
      refine r_pures [_] S0 rfl ?_
      clear S0; intro a0 S0
      refine r_pick S0 rfl (decide_eq_false z2h) _ rfl rfl ?_
      clear S0; intro a0 S0
      refine wl_nil ?_
      refine nr_then ?_
      obtain rfl := Option.some.inj H
      exact ⟨S0.sub ⟨rfl, rfl, rfl, trivial⟩, Hq⟩
  · clear S0; rintro a w ⟨S0, Hq⟩
    have H := HU1; clear HU1
    refine nr_then ?_
    by_cases z3h : z1x = true
    · replace H := (if_pos z3h).symm.trans H
      refine w_true S0 rfl z3h ?_
      refine w_seq ?_
      refine w_region ?_
      refine r_pures [_, _, _] S0 rfl ?_
      clear S0; intro a0 S0
      refine wl_nil ?_
      refine nr_then ?_
      refine w_ret ?_
      refine ret_then ?_
      obtain rfl := Option.some.inj H
      replace Hq := HS.own_nil e_i64 3 Hq
      refine ret3 S0 rfl rfl rfl rfl ?_
      replace Hq := HS.pull [_] Hq
      dsimp only [List.cons_append, List.nil_append] at Hq
      replace Hq := HS.pull [_] Hq
      dsimp only [List.cons_append, List.nil_append] at Hq
      exact ⟨none, 0, 0, rfl, Hq⟩
    · replace H := (if_neg z3h).symm.trans H
      refine w_false S0 rfl (Bool.eq_false_iff.mpr z3h) ?_
      refine w_skip ?_
      refine nr_then ?_
      refine w_seq ?_
      refine w_region ?_
      refine r_pures [_] S0 rfl ?_
      clear S0; intro a0 S0
      refine wl_nil ?_
      refine nr_then ?_
      refine w_seq ?_
      refine w_seq ?_
      refine w_region ?_
      refine r_pures [_] S0 rfl ?_
      clear S0; intro a0 S0
      refine wl_nil ?_
      refine nr_then ?_
      replace Hq := HS.own_nil e_i64 3 Hq
      obtain ⟨z6x, H, HU2⟩ := Option.bind_eq_some_iff.mp H
      refine w_cutT (fun a w => ∃ z7A z8m z9n, Sl 55 [] [(0, .int .u64 x_state), (1, .int .i64 x_n), (7, .slice z7A z8m z9n)] a ∧ HS W0 [own e_i64 3 z7A z8m z9n z6x, isH X] w) ?_ ?_
      · skip
        refine w_block ?_
        refine w_loop (fun kq a w => ∃ z10x z11x z12A z13m z14n, waybillref11_Shuffle.l0 kq x_n z10x z11x = some z6x ∧ Sl 55 [] [(0, .int .u64 x_state), (1, .int .i64 x_n), (7, .slice z12A z13m z14n), (8, .int .i64 z10x)] a ∧ HS W0 [own e_i64 3 z12A z13m z14n z11x, isH X] w) _ ⟨0, ([] : List Int), none, 0, 0, H, S0.sub ⟨rfl, rfl, rfl, rfl, trivial⟩, Hq⟩ ?_
        clear H Hq S0
        rintro k0 a w ⟨z10x, z11x, z12A, z13m, z14n, H, S0, Hq⟩
        cases k0 with
        | zero => simp [waybillref11_Shuffle.l0] at H
        | succ k0 =>
          refine ⟨k0, rfl, ?_⟩
          rw [waybillref11_Shuffle.l0] at H
          obtain rfl := own_len [] Hq
          refine w_seq ?_
          refine w_seq ?_
          refine w_region ?_
          refine r_pures [_, _, _] S0 rfl ?_
          clear S0; intro a0 S0
          refine wl_nil ?_
          refine nr_then ?_
          by_cases z15h : z10x < x_n
          · replace H := (if_pos z15h).symm.trans H
            refine w_true S0 rfl (decide_eq_true z15h) ?_
            refine w_skip ?_
            refine nr_then ?_
            refine w_seq ?_
            refine w_block ?_
            refine w_region ?_
            refine r_pures [_, _] S0 rfl ?_
            clear S0; intro a0 S0
            refine r_lit (e := e_i64) (l := ([z10x] : List Int)) (m := 1) (vs := [.int .i64 z10x]) S0 Hq sl22 ti3 rfl rfl rfl rfl rfl rfl ?_
            clear S0 Hq; intro z16b a0 w S0 Hq
            by_cases z19h : z11x.length + ([z10x] : List Int).length < 17592186044416
            · replace H := (if_pos z19h).symm.trans H
              refine r_app [_] S0 Hq (own_rd [] Hq) rfl rfl sl22 ti3 rfl z19h rfl rfl ?_
              clear S0 Hq; intro z20A z21n a0 w S0 Hq; dsimp only [List.cons_append, List.nil_append] at Hq
              refine r_pures [_] S0 rfl ?_
              clear S0; intro a0 S0
              refine wl_nil ?_
              refine nr_in ?_
              refine nr_then ?_
              refine w_region ?_
              refine r_pures [_, _, _] S0 rfl ?_
              clear S0; intro a0 S0
              refine wl_nil ?_
              refine nr_then ?_
              replace Hq := HS.pull [_, _] Hq
              dsimp only [List.cons_append, List.nil_append] at Hq
              replace Hq := HS.pull [_, _] Hq
              dsimp only [List.cons_append, List.nil_append] at Hq
              replace Hq := HS.keep [_, _] Hq
              exact ⟨(IntKind.i64.wrap (z10x + 1)), (z11x ++ ([z10x] : List Int)), z20A, ((z11x ++ ([z10x] : List Int)).length), z21n, H, S0.sub ⟨rfl, rfl, rfl, rfl, trivial⟩, Hq⟩
            · replace H := (if_neg z19h).symm.trans H
              exact nomatch H
          · replace H := (if_neg z15h).symm.trans H
            refine w_false S0 rfl (decide_eq_false z15h) ?_
            refine w_exit ?_
            refine ex_then ?_
            refine ex_then ?_
            refine ex_in ?_
            refine nr_then ?_
            obtain rfl := Option.some.inj H
            exact ⟨z12A, z11x.length, z14n, S0.sub ⟨rfl, rfl, rfl, trivial⟩, Hq⟩
      · clear S0; rintro a w ⟨z7A, z8m, z9n, S0, Hq⟩
        have H := HU2; clear HU2
        obtain rfl := own_len [] Hq
        refine nr_then ?_
        refine w_seq ?_
        refine w_seq ?_
        refine w_region ?_
        refine r_pures [_, _, _] S0 rfl ?_
        clear S0; intro a0 S0
        refine wl_nil ?_
        refine nr_then ?_
        obtain ⟨⟨z22x, z23x⟩, H, HU3⟩ := Option.bind_eq_some_iff.mp H
        dsimp only at HU3
        refine w_cutT (fun a w => Sl 55 [] [(0, .int .u64 z22x), (7, .slice z7A z6x.length z9n)] a ∧ HS W0 [own e_i64 3 z7A z6x.length z9n z23x, isH X] w) ?_ ?_
        · skip
          refine w_block ?_
          refine w_loop (fun kq a w => ∃ z24x z25x z26x, waybillref11_Shuffle.l1 kq z6x z24x z25x z26x = some (z22x, z23x) ∧ Sl 55 [] [(0, .int .u64 z24x), (7, .slice z7A z6x.length z9n), (9, .int .i64 z25x)] a ∧ HS W0 [own e_i64 3 z7A z6x.length z9n z26x, isH X] w) _ ⟨x_state, (IntKind.i64.wrap (x_n - 1)), z6x, H, S0.sub ⟨rfl, rfl, rfl, trivial⟩, Hq⟩ ?_
          clear H Hq S0
          rintro k1 a w ⟨z24x, z25x, z26x, H, S0, Hq⟩
          cases k1 with
          | zero => simp [waybillref11_Shuffle.l1] at H
          | succ k1 =>
            refine ⟨k1, rfl, ?_⟩
            rw [waybillref11_Shuffle.l1] at H
            refine w_seq ?_
            refine w_seq ?_
            refine w_region ?_
            refine r_pures [_, _] S0 rfl ?_
            clear S0; intro a0 S0
            refine wl_nil ?_
            refine nr_then ?_
            by_cases z27h : 0 < z25x
            · replace H := (if_pos z27h).symm.trans H
              refine w_true S0 rfl (decide_eq_true z27h) ?_
              refine w_skip ?_
              refine nr_then ?_
              refine w_seq ?_
              refine w_block ?_
              refine w_seq ?_
              refine w_region ?_
              refine r_pures [_] S0 rfl ?_
              clear S0; intro a0 S0
              refine wl_nil ?_
              refine nr_then ?_
              refine w_seq ?_
              refine w_region ?_
              refine r_pures [_, _, _] S0 rfl ?_
              clear S0; intro a0 S0
              obtain ⟨Xz28, HXz28, HPz28, HBz28⟩ := call_frame [] Hq
              dsimp only [List.cons_append, List.nil_append] at HXz28 HBz28
              obtain ⟨⟨z29t, z30t⟩, Hc, H⟩ := Option.bind_eq_some_iff.mp H
              dsimp only at H
              refine r_call S0 rfl rfl goes37 rfl ?_
              refine (waybillref11_one.calls _ z24x (IntKind.i64.wrap (z25x + 1)) _ _  HXz28 (z29t, z30t) Hc).mono ?_
              rintro e w ⟨rfl, Hq'⟩
              have Hq : HS W0 [own e_i64 3 z7A z6x.length z9n z26x, isH X] w := HBz28 [] _ Hq'
              clear HXz28 HPz28 HBz28 Hq'
              refine ⟨.tuple #[.int .u64 z29t, .int .i64 z30t], rfl, ?_⟩; clear S0; intro a0 S0
              refine r_pures [_, _, _, _, _] S0 rfl ?_
              clear S0; intro a0 S0
              refine wl_nil ?_
              refine nr_then ?_
              refine w_draw TryM.mixed [.pu 0, .pu 1, .pu 2, .pu 3, .pu 4, .pu 5, .pu 6, .pu 8, .pu 9, .pu 10, .rd 7, .rd 11, .pu 12, .ds 13, .pu 14, .ds 15] (by kernel_rfl) rfl ?_
              replace Hq := Hq.drew
              refine st_pures [0, 1, 2, 3, 4, 5] S0 rfl ?_
              intro az31q Sz31q
              by_cases z32h : 0 ≤ z30t
              · replace H := (if_pos z32h).symm.trans H
                by_cases z33h : z30t < (z6x.length : Int)
                · replace H := (if_pos z33h).symm.trans H
                  obtain ⟨z34g, rfl⟩ := own_at [] Hq (by omega)
                  refine st_pu Sz31q rfl (g_none rfl) rfl rfl (fun _ => y_index Sz31q rfl rfl sl22 ti3 z32h z33h) ?_
                  intro az35q Sz35q
                  refine st_pures [8, 9] Sz35q rfl ?_
                  intro az36q Sz36q
                  by_cases z37h : 0 ≤ z25x
                  · replace H := (if_pos z37h).symm.trans H
                    by_cases z38h : z25x < (z6x.length : Int)
                    · replace H := (if_pos z38h).symm.trans H
                      refine st_pu Sz36q rfl (g_none rfl) rfl rfl (fun _ => y_index Sz36q rfl rfl sl22 ti3 z37h z38h) ?_
                      intro az39q Sz39q
                      refine st_rd Sz39q rfl (g_none rfl) rfl rfl (y_elS Sz39q (own_rd [] Hq) z32h z33h rfl ti3 _ rfl) ?_
                      intro az40q Sz40q
                      refine st_rd Sz40q rfl (g_none rfl) rfl rfl (y_elS Sz40q (own_rd [] Hq) z37h z38h rfl ti3 _ rfl) ?_
                      intro az41q Sz41q
                      refine st_pu Sz41q rfl (g_none rfl) rfl rfl (fun _ => y_index Sz41q rfl rfl sl22 ti3 z37h z38h) ?_
                      intro az42q Sz42q
                      refine st_ds rfl ?_
                      have Sz43q := Sz42q
                      refine r_elst [] Sz43q Hq z37h z38h rfl rfl ti3 [.int .i64 (rd e_i64 z26x z30t)] rfl rfl rfl rfl (rd e_i64 z26x z30t) rfl ?_
                      clear Hq; intro w Hq; dsimp only [List.cons_append, List.nil_append] at Hq
                      refine wl_nil ?_
                      refine nr_then ?_
                      refine st_pu Sz43q rfl (g_none rfl) rfl rfl (fun _ => y_index Sz43q rfl rfl sl22 ti3 z32h z33h) ?_
                      intro az44q Sz44q
                      refine st_ds rfl ?_
                      have Sz45q := Sz44q
                      refine r_elst [] Sz45q Hq z32h z33h rfl rfl ti3 [.int .i64 (rd e_i64 z26x z25x)] rfl rfl rfl rfl (rd e_i64 z26x z25x) rfl ?_
                      clear Hq; intro w Hq; dsimp only [List.cons_append, List.nil_append] at Hq
                      refine wl_nil ?_
                      refine nr_then ?_
                      refine st_nil ?_
                      replace S0 := Sz45q
                      refine nr_in ?_
                      refine nr_then ?_
                      refine w_region ?_
                      refine r_pures [_, _, _] S0 rfl ?_
                      clear S0; intro a0 S0
                      refine wl_nil ?_
                      refine nr_then ?_
                      exact ⟨z29t, (IntKind.i64.wrap (z25x - 1)), ((z26x.set (Int.toNat z25x) (rd e_i64 z26x z30t)).set (Int.toNat z30t) (rd e_i64 z26x z25x)), H, S0.sub ⟨rfl, rfl, rfl, trivial⟩, Hq⟩
                    · replace H := (if_neg z38h).symm.trans H
                      exact nomatch H
                  · replace H := (if_neg z37h).symm.trans H
                    exact nomatch H
                · replace H := (if_neg z33h).symm.trans H
                  exact nomatch H
              · replace H := (if_neg z32h).symm.trans H
                exact nomatch H
            · replace H := (if_neg z27h).symm.trans H
              refine w_false S0 rfl (decide_eq_false z27h) ?_
              refine w_exit ?_
              refine ex_then ?_
              refine ex_then ?_
              refine ex_in ?_
              refine nr_then ?_
              simp only [Option.some.injEq, Prod.mk.injEq] at H; obtain ⟨rfl, rfl⟩ := H
              exact ⟨S0.sub ⟨rfl, rfl, trivial⟩, Hq⟩
        · clear S0; rintro a w ⟨S0, Hq⟩
          have H := HU3; clear HU3
          refine nr_then ?_
          refine w_seq ?_
          refine w_region ?_
          refine r_pures [_, _, _, _, _] S0 rfl ?_
          clear S0; intro a0 S0
          refine wl_nil ?_
          refine nr_then ?_
          refine w_ret ?_
          obtain rfl := Option.some.inj H
          refine ret3 S0 rfl rfl rfl rfl ?_
          replace Hq := HS.pull [_] Hq
          dsimp only [List.cons_append, List.nil_append] at Hq
          replace Hq := HS.pull [_] Hq
          dsimp only [List.cons_append, List.nil_append] at Hq
          exact ⟨z7A, z6x.length, z9n, rfl, Hq⟩

end Go.Proofs.Ythlogangnppghaa.M

/- waybill/waybillref10.Ints: a plain function, and that the machine's call comes to it: printed by a program of the session's own. -/
set_option linter.unusedVariables false
set_option linter.unusedSimpArgs false
namespace Go.Proofs.Ythlogangnppghaa.M
open Go Go.Proofs.Ythlogangnppghaa.Sl
/-! ### waybill/waybillref10.Ints: function 24 -/
def waybillref10_Ints.l0 : Nat → (List Int) → Int → Int → Option (Int)
  | 0, _, _, _ => none
  | k + 1, x_l, z2x, z3x => if z3x < (x_l.length : Int) then (if 0 ≤ z3x then ((waybillref10_Mix.f k (IntKind.u64.wrap (z2x + (IntKind.u64.wrap (rd e_i64 x_l z3x))))).bind fun z9t => (waybillref10_Ints.l0 k x_l z9t (IntKind.i64.wrap (z3x + 1)))) else (none)) else (some z2x)
def waybillref10_Ints.f (k : Nat) (x_seed : Int) (x_l : List Int) : Option (Int) := (((waybillref10_Ints.l0 k x_l x_seed 0)) : Option (Int)).bind fun z1x => (some z1x)
set_option maxRecDepth 100000 in
set_option maxHeartbeats 4000000 in
theorem waybillref10_Ints.calls (k : Nat) (x_seed : Int) (A1 : Option Addr) (n1 c1 : Nat) (x_l : List Int) (W0 : World) (X : Heap) (HR1 : Rd e_i64 X A1 n1 c1 x_l) (Hq : HS W0 [isH X] W0) (r : Int) (H : waybillref10_Ints.f k x_seed x_l = some r) :
    Calls Try.prog 24 #[.int .u64 x_seed, .slice A1 n1 c1] W0 (fun e w => e = .returned (.int .u64 r) ∧ HS W0 [isH X] w) := by
  obtain rfl := HR1.1
  rw [waybillref10_Ints.f] at H
  refine calls_in Try.func24 rfl rfl ?_
  intro a0 S0
  refine w_seq ?_
  refine w_region ?_
  refine r_pures [_] S0 rfl ?_
  clear S0; intro a0 S0
  refine wl_nil ?_
  refine nr_then ?_
  refine w_seq ?_
  refine w_seq ?_
  refine w_region ?_
  refine r_pures [_] S0 rfl ?_
  clear S0; intro a0 S0
  refine wl_nil ?_
  refine nr_then ?_
  obtain ⟨z1x, H, HU1⟩ := Option.bind_eq_some_iff.mp H
  refine w_cutT (fun a w => Sl 21 [] [(0, .int .u64 z1x)] a ∧ HS W0 [isH X] w) ?_ ?_
  · skip
    refine w_block ?_
    refine w_loop (fun kq a w => ∃ z2x z3x, waybillref10_Ints.l0 kq x_l z2x z3x = some z1x ∧ Sl 21 [] [(0, .int .u64 z2x), (1, .slice A1 x_l.length c1), (5, .int .i64 z3x)] a ∧ HS W0 [isH X] w) _ ⟨x_seed, 0, H, S0.sub ⟨rfl, rfl, rfl, trivial⟩, Hq⟩ ?_
    clear H Hq S0
    rintro k0 a w ⟨z2x, z3x, H, S0, Hq⟩
    cases k0 with
    | zero => simp [waybillref10_Ints.l0] at H
    | succ k0 =>
      refine ⟨k0, rfl, ?_⟩
      rw [waybillref10_Ints.l0] at H
      refine w_seq ?_
      refine w_seq ?_
      refine w_region ?_
      refine r_pures [_, _] S0 rfl ?_
      clear S0; intro a0 S0
      refine r_len S0 rfl sl22 rfl ?_
      clear S0; intro a0 S0
      refine r_pures [_] S0 rfl ?_
      clear S0; intro a0 S0
      refine wl_nil ?_
      refine nr_then ?_
      by_cases z4h : z3x < (x_l.length : Int)
      · replace H := (if_pos z4h).symm.trans H
        refine w_true S0 rfl (decide_eq_true z4h) ?_
        refine w_skip ?_
        refine nr_then ?_
        refine w_seq ?_
        refine w_block ?_
        refine w_region ?_
        refine r_pures [_, _, _] S0 rfl ?_
        clear S0; intro a0 S0
        by_cases z5h : 0 ≤ z3x
        · replace H := (if_pos z5h).symm.trans H
          obtain ⟨z6b, z7o, rfl⟩ := (isH_rd [] Hq HR1).at (by omega)
          refine r_index S0 rfl rfl sl22 ti3 z5h z4h rfl ?_
          clear S0; intro a0 S0
          refine r_elS S0 (isH_rd [] Hq HR1) z5h z4h rfl ti3 _ rfl rfl ?_
          clear S0; intro a0 S0
          refine r_conv S0 rfl und3 und23 rfl ?_
          clear S0; intro a0 S0
          refine r_pures [_] S0 rfl ?_
          clear S0; intro a0 S0
          obtain ⟨Xz8, HXz8, HPz8, HBz8⟩ := call_frame [] Hq
          dsimp only [List.cons_append, List.nil_append] at HXz8 HBz8
          obtain ⟨z9t, Hc, H⟩ := Option.bind_eq_some_iff.mp H
          refine r_call S0 rfl rfl goes38 rfl ?_
          refine (waybillref10_Mix.calls _ (IntKind.u64.wrap (z2x + (IntKind.u64.wrap (rd e_i64 x_l z3x)))) _ _  HXz8 z9t Hc).mono ?_
          rintro e w ⟨rfl, Hq'⟩
          have Hq : HS W0 [isH X] w := HBz8 [] _ Hq'
          clear HXz8 HPz8 HBz8 Hq'
          refine ⟨.int .u64 z9t, rfl, ?_⟩; clear S0; intro a0 S0
          refine r_pures [_] S0 rfl ?_
          clear S0; intro a0 S0
          refine wl_nil ?_
          refine nr_in ?_
          refine nr_then ?_
          refine w_region ?_
          refine r_pures [_, _, _] S0 rfl ?_
          clear S0; intro a0 S0
          refine wl_nil ?_
          refine nr_then ?_
          exact ⟨z9t, (IntKind.i64.wrap (z3x + 1)), H, S0.sub ⟨rfl, rfl, rfl, trivial⟩, Hq⟩
        · replace H := (if_neg z5h).symm.trans H
          exact nomatch H
      · replace H := (if_neg z4h).symm.trans H
        refine w_false S0 rfl (decide_eq_false z4h) ?_
        refine w_exit ?_
        refine ex_then ?_
        refine ex_then ?_
        refine ex_in ?_
        refine nr_then ?_
        obtain rfl := Option.some.inj H
        exact ⟨S0.sub ⟨rfl, trivial⟩, Hq⟩
  · clear S0; rintro a w ⟨S0, Hq⟩
    have H := HU1; clear HU1
    refine nr_then ?_
    refine w_seq ?_
    refine w_region ?_
    refine r_pures [_, _] S0 rfl ?_
    clear S0; intro a0 S0
    refine wl_nil ?_
    refine nr_then ?_
    refine w_ret ?_
    obtain rfl := Option.some.inj H
    refine ret1 S0 rfl rfl ?_
    exact ⟨rfl, Hq⟩

end Go.Proofs.Ythlogangnppghaa.M

/- waybill/waybillref13.sorted: a plain function, and that the machine's call comes to it: printed by a program of the session's own. -/
set_option linter.unusedVariables false
set_option linter.unusedSimpArgs false
namespace Go.Proofs.Ythlogangnppghaa.M
open Go Go.Proofs.Ythlogangnppghaa.Sl
/-! ### waybill/waybillref13.sorted: function 25 -/
def waybillref13_sorted.l1 : Nat → (List Int) → Int → (List Int) → Int → (List Int) → Option (Int × (List Int))
  | 0, _, _, _, _, _ => none
  | k + 1, x_l, z6x, z7x, z27x, z28x => ((if 0 < z27x then (if 0 ≤ (IntKind.i64.wrap (z27x - 1)) then (if (IntKind.i64.wrap (z27x - 1)) < ((z7x ++ ([(rd e_i64 x_l z6x)] : List Int)).length : Int) then (if 0 ≤ z6x then (if z6x < (x_l.length : Int) then (some (decide ((rd e_i64 x_l z6x) < (rd e_i64 z28x (IntKind.i64.wrap (z27x - 1)))))) else (none)) else (none)) else (none)) else (none)) else (some false)) : Option (Bool)).bind fun z29x => (if z29x = true then (if 0 ≤ (IntKind.i64.wrap (z27x - 1)) then (if (IntKind.i64.wrap (z27x - 1)) < ((z7x ++ ([(rd e_i64 x_l z6x)] : List Int)).length : Int) then (if 0 ≤ z27x then (if z27x < ((z7x ++ ([(rd e_i64 x_l z6x)] : List Int)).length : Int) then (waybillref13_sorted.l1 k x_l z6x z7x (IntKind.i64.wrap (z27x - 1)) (z28x.set (Int.toNat z27x) (rd e_i64 z28x (IntKind.i64.wrap (z27x - 1))))) else (none)) else (none)) else (none)) else (none)) else (some (z27x, z28x)))
def waybillref13_sorted.l0 : Nat → (List Int) → Int → (List Int) → Option ((List Int))
  | 0, _, _, _ => none
  | k + 1, x_l, z6x, z7x => if z6x < (x_l.length : Int) then (((if 0 ≤ z6x then (if z7x.length + ([(rd e_i64 x_l z6x)] : List Int).length < 17592186044416 then ((((waybillref13_sorted.l1 k x_l z6x z7x (z7x.length : Int) (z7x ++ ([(rd e_i64 x_l z6x)] : List Int)))) : Option (Int × (List Int))).bind fun (z25x, z26x) => (if 0 ≤ z25x then (if z25x < ((z7x ++ ([(rd e_i64 x_l z6x)] : List Int)).length : Int) then (some (z26x.set (Int.toNat z25x) (rd e_i64 x_l z6x))) else (none)) else (none))) else (none)) else (none)) : Option ((List Int))).bind fun z12x => (waybillref13_sorted.l0 k x_l (IntKind.i64.wrap (z6x + 1)) z12x)) else (some z7x)
def waybillref13_sorted.f (k : Nat) (x_l : List Int) : Option (List Int) := (((waybillref13_sorted.l0 k x_l 0 ([] : List Int))) : Option ((List Int))).bind fun z2x => (some z2x)
set_option maxRecDepth 100000 in
set_option maxHeartbeats 4000000 in
theorem waybillref13_sorted.calls (k : Nat) (A0 : Option Addr) (n0 c0 : Nat) (x_l : List Int) (W0 : World) (X : Heap) (HR0 : Rd e_i64 X A0 n0 c0 x_l) (Hq : HS W0 [isH X] W0) (r : List Int) (H : waybillref13_sorted.f k x_l = some r) :
    Calls Try.prog 25 #[.slice A0 n0 c0] W0 (fun e w => ∃ Ar0 nr0 cr0, e = .returned (.slice Ar0 nr0 cr0) ∧ HS W0 [own e_i64 3 Ar0 nr0 cr0 r, isH X] w) := by
  obtain rfl := HR0.1
  rw [waybillref13_sorted.f] at H
  refine calls_in Try.func25 rfl rfl ?_
  intro a0 S0
  refine w_seq ?_
  refine w_region ?_
  refine r_pures [_] S0 rfl ?_
  clear S0; intro a0 S0
  refine wl_nil ?_
  refine nr_then ?_
  refine w_seq ?_
  refine w_region ?_
  refine r_pures [_] S0 rfl ?_
  clear S0; intro a0 S0
  refine wl_nil ?_
  refine nr_then ?_
  refine w_seq ?_
  refine w_seq ?_
  refine w_region ?_
  refine r_pures [_] S0 rfl ?_
  clear S0; intro a0 S0
  refine wl_nil ?_
  refine nr_then ?_
  replace Hq := HS.own_nil e_i64 3 Hq
  obtain ⟨z2x, H, HU1⟩ := Option.bind_eq_some_iff.mp H
  refine w_cutT (fun a w => ∃ z3A z4m z5n, Sl 53 [] [(3, .slice z3A z4m z5n)] a ∧ HS W0 [own e_i64 3 z3A z4m z5n z2x, isH X] w) ?_ ?_
  · skip
    refine w_block ?_
    refine w_loop (fun kq a w => ∃ z6x z7x z8A z9m z10n, waybillref13_sorted.l0 kq x_l z6x z7x = some z2x ∧ Sl 53 [] [(0, .slice A0 x_l.length c0), (3, .slice z8A z9m z10n), (4, .int .i64 z6x)] a ∧ HS W0 [own e_i64 3 z8A z9m z10n z7x, isH X] w) _ ⟨0, ([] : List Int), none, 0, 0, H, S0.sub ⟨rfl, rfl, rfl, trivial⟩, Hq⟩ ?_
    clear H Hq S0
    rintro k0 a w ⟨z6x, z7x, z8A, z9m, z10n, H, S0, Hq⟩
    cases k0 with
    | zero => simp [waybillref13_sorted.l0] at H
    | succ k0 =>
      refine ⟨k0, rfl, ?_⟩
      rw [waybillref13_sorted.l0] at H
      obtain rfl := own_len [] Hq
      refine w_seq ?_
      refine w_seq ?_
      refine w_region ?_
      refine r_pures [_, _] S0 rfl ?_
      clear S0; intro a0 S0
      refine r_len S0 rfl sl22 rfl ?_
      clear S0; intro a0 S0
      refine r_pures [_] S0 rfl ?_
      clear S0; intro a0 S0
      refine wl_nil ?_
      refine nr_then ?_
      by_cases z11h : z6x < (x_l.length : Int)
      · replace H := (if_pos z11h).symm.trans H
        refine w_true S0 rfl (decide_eq_true z11h) ?_
        refine w_skip ?_
        refine nr_then ?_
        refine w_seq ?_
        obtain ⟨z12x, H, HU2⟩ := Option.bind_eq_some_iff.mp H
        refine w_cutT (fun a w => ∃ z13A z14m z15n, Sl 53 [] [(0, .slice A0 x_l.length c0), (3, .slice z13A z14m z15n), (4, .int .i64 z6x)] a ∧ HS W0 [own e_i64 3 z13A z14m z15n z12x, isH X] w) ?_ ?_
        · skip
          refine w_block ?_
          refine w_seq ?_
          refine w_region ?_
          refine r_pures [_] S0 rfl ?_
          clear S0; intro a0 S0
          refine r_len S0 rfl sl22 rfl ?_
          clear S0; intro a0 S0
          refine r_pures [_] S0 rfl ?_
          clear S0; intro a0 S0
          refine wl_nil ?_
          refine nr_then ?_
          refine w_seq ?_
          refine w_region ?_
          refine r_pures [_, _, _] S0 rfl ?_
          clear S0; intro a0 S0
          by_cases z16h : 0 ≤ z6x
          · replace H := (if_pos z16h).symm.trans H
            obtain ⟨z17b, z18o, rfl⟩ := (isH_rd [_] Hq HR0).at (by omega)
            refine r_index S0 rfl rfl sl22 ti3 z16h z11h rfl ?_
            clear S0; intro a0 S0
            refine r_elS S0 (isH_rd [_] Hq HR0) z16h z11h rfl ti3 _ rfl rfl ?_
            clear S0; intro a0 S0
            refine r_lit (e := e_i64) (l := ([(rd e_i64 x_l z6x)] : List Int)) (m := 1) (vs := [.int .i64 (rd e_i64 x_l z6x)]) S0 Hq sl22 ti3 rfl rfl rfl rfl rfl rfl ?_
            clear S0 Hq; intro z19b a0 w S0 Hq
            by_cases z22h : z7x.length + ([(rd e_i64 x_l z6x)] : List Int).length < 17592186044416
            · replace H := (if_pos z22h).symm.trans H
              refine r_app [_] S0 Hq (own_rd [] Hq) rfl rfl sl22 ti3 rfl z22h rfl rfl ?_
              clear S0 Hq; intro z23A z24n a0 w S0 Hq; dsimp only [List.cons_append, List.nil_append] at Hq
              refine r_pures [_] S0 rfl ?_
              clear S0; intro a0 S0
              refine wl_nil ?_
              refine nr_then ?_
              refine w_seq ?_
              obtain ⟨⟨z25x, z26x⟩, H, HU3⟩ := Option.bind_eq_some_iff.mp H
              dsimp only at HU3
              refine w_cutT (fun a w => Sl 53 [] [(0, .slice (some ⟨z17b, z18o, none⟩) x_l.length c0), (3, .slice z23A ((z7x ++ ([(rd e_i64 x_l z6x)] : List Int)).length) z24n), (4, .int .i64 z6x), (5, .int .i64 z25x)] a ∧ HS W0 [own e_i64 3 z23A ((z7x ++ ([(rd e_i64 x_l z6x)] : List Int)).length) z24n z26x, isH X] w) ?_ ?_
              · skip
                refine w_block ?_
                replace Hq := HS.pull [_, _] Hq
                dsimp only [List.cons_append, List.nil_append] at Hq
                replace Hq := HS.pull [_, _] Hq
                dsimp only [List.cons_append, List.nil_append] at Hq
                replace Hq := HS.keep [_, _] Hq
                refine w_loop (fun kq a w => ∃ z27x z28x, waybillref13_sorted.l1 kq x_l z6x z7x z27x z28x = some (z25x, z26x) ∧ Sl 53 [] [(0, .slice (some ⟨z17b, z18o, none⟩) x_l.length c0), (3, .slice z23A ((z7x ++ ([(rd e_i64 x_l z6x)] : List Int)).length) z24n), (4, .int .i64 z6x), (5, .int .i64 z27x)] a ∧ HS W0 [own e_i64 3 z23A ((z7x ++ ([(rd e_i64 x_l z6x)] : List Int)).length) z24n z28x, isH X] w) _ ⟨(z7x.length : Int), (z7x ++ ([(rd e_i64 x_l z6x)] : List Int)), H, S0.sub ⟨rfl, rfl, rfl, rfl, trivial⟩, Hq⟩ ?_
                clear H Hq S0
                rintro k1 a w ⟨z27x, z28x, H, S0, Hq⟩
                cases k1 with
                | zero => simp [waybillref13_sorted.l1] at H
                | succ k1 =>
                  refine ⟨k1, rfl, ?_⟩
                  rw [waybillref13_sorted.l1] at H
                  refine w_seq ?_
                  refine w_seq ?_
                  obtain ⟨z29x, H, HU4⟩ := Option.bind_eq_some_iff.mp H
                  refine w_cutT (fun a w => Sl 53 [] [(0, .slice (some ⟨z17b, z18o, none⟩) x_l.length c0), (3, .slice z23A ((z7x ++ ([(rd e_i64 x_l z6x)] : List Int)).length) z24n), (4, .int .i64 z6x), (5, .int .i64 z27x), (34, .bool z29x)] a ∧ HS W0 [own e_i64 3 z23A ((z7x ++ ([(rd e_i64 x_l z6x)] : List Int)).length) z24n z28x, isH X] w) ?_ ?_
                  · skip
                    refine w_draw TryM.mixed [.pu 0, .pu 1, .pu 2, .pu 3, .pu 4, .pu 5, .pu 6, .pu 8, .pu 9, .pu 10, .rd 7, .rd 11, .pu 12, .pu 13] (by kernel_rfl) rfl ?_
                    replace Hq := Hq.drew
                    refine st_pures [0, 1, 2] S0 rfl ?_
                    intro az30q Sz30q
                    by_cases z31h : 0 < z27x
                    · replace H := (if_pos z31h).symm.trans H
                      refine st_pu Sz30q rfl (g_on Sz30q rfl rfl rfl rfl (decide_eq_true z31h)) rfl rfl (fun _ => y_of Sz30q _ rfl) ?_
                      intro az32q Sz32q
                      refine st_pu Sz32q rfl (g_on Sz32q rfl rfl rfl rfl (decide_eq_true z31h)) rfl rfl (fun _ => y_of Sz32q _ rfl) ?_
                      intro az33q Sz33q
                      refine st_pu Sz33q rfl (g_on Sz33q rfl rfl rfl rfl (decide_eq_true z31h)) rfl rfl (fun _ => y_of Sz33q _ rfl) ?_
                      intro az34q Sz34q
                      by_cases z35h : 0 ≤ (IntKind.i64.wrap (z27x - 1))
                      · replace H := (if_pos z35h).symm.trans H
                        by_cases z36h : (IntKind.i64.wrap (z27x - 1)) < ((z7x ++ ([(rd e_i64 x_l z6x)] : List Int)).length : Int)
                        · replace H := (if_pos z36h).symm.trans H
                          obtain ⟨z37g, rfl⟩ := own_at [] Hq (by omega)
                          refine st_pu Sz34q rfl (g_on Sz34q rfl rfl rfl rfl (decide_eq_true z31h)) rfl rfl (fun _ => y_index Sz34q rfl rfl sl22 ti3 z35h z36h) ?_
                          intro az38q Sz38q
                          refine st_pu Sz38q rfl (g_on Sz38q rfl rfl rfl rfl (decide_eq_true z31h)) rfl rfl (fun _ => y_of Sz38q _ rfl) ?_
                          intro az39q Sz39q
                          refine st_pu Sz39q rfl (g_on Sz39q rfl rfl rfl rfl (decide_eq_true z31h)) rfl rfl (fun _ => y_of Sz39q _ rfl) ?_
                          intro az40q Sz40q
                          by_cases z41h : 0 ≤ z6x
                          · replace H := (if_pos z41h).symm.trans H
                            by_cases z42h : z6x < (x_l.length : Int)
                            · replace H := (if_pos z42h).symm.trans H
                              refine st_pu Sz40q rfl (g_on Sz40q rfl rfl rfl rfl (decide_eq_true z31h)) rfl rfl (fun _ => y_index Sz40q rfl rfl sl22 ti3 z41h z42h) ?_
                              intro az43q Sz43q
                              refine st_rd Sz43q rfl (g_on Sz43q rfl rfl rfl rfl (decide_eq_true z31h)) rfl rfl (y_elS Sz43q (own_rd [] Hq) z35h z36h rfl ti3 _ rfl) ?_
                              intro az44q Sz44q
                              refine st_rd Sz44q rfl (g_on Sz44q rfl rfl rfl rfl (decide_eq_true z31h)) rfl rfl (y_elS Sz44q (isH_rd [_] Hq HR0) z41h z42h rfl ti3 _ rfl) ?_
                              intro az45q Sz45q
                              refine st_pu Sz45q rfl (g_on Sz45q rfl rfl rfl rfl (decide_eq_true z31h)) rfl rfl (fun _ => y_of Sz45q _ rfl) ?_
                              intro az46q Sz46q
                              refine st_pu Sz46q rfl (g_none rfl) rfl rfl (fun _ => y_pick Sz46q rfl (decide_eq_true z31h) _ rfl) ?_
                              intro az47q Sz47q
                              refine st_nil ?_
                              replace S0 := Sz47q
                              refine nr_then ?_
                              obtain rfl := Option.some.inj H
                              exact ⟨S0.sub ⟨rfl, rfl, rfl, rfl, rfl, trivial⟩, Hq⟩
                            · replace H := (if_neg z42h).symm.trans H
                              exact nomatch H
                          · replace H := (if_neg z41h).symm.trans H
                            exact nomatch H
                        · replace H := (if_neg z36h).symm.trans H
                          exact nomatch H
                      · replace H := (if_neg z35h).symm.trans H
                        exact nomatch H
                    · replace H := (if_neg z31h).symm.trans H
                      refine st_puOff Sz30q rfl (g_off Sz30q rfl rfl rfl rfl (decide_eq_false z31h)) rfl rfl ?_
                      intro az48q Sz48q
                      refine st_puOff Sz48q rfl (g_off Sz48q rfl rfl rfl rfl (decide_eq_false z31h)) rfl rfl ?_
                      intro az49q Sz49q
                      refine st_puOff Sz49q rfl (g_off Sz49q rfl rfl rfl rfl (decide_eq_false z31h)) rfl rfl ?_
                      intro az50q Sz50q
                      refine st_puOff Sz50q rfl (g_off Sz50q rfl rfl rfl rfl (decide_eq_false z31h)) rfl rfl ?_
                      intro az51q Sz51q
                      refine st_puOff Sz51q rfl (g_off Sz51q rfl rfl rfl rfl (decide_eq_false z31h)) rfl rfl ?_
                      intro az52q Sz52q
                      refine st_puOff Sz52q rfl (g_off Sz52q rfl rfl rfl rfl (decide_eq_false z31h)) rfl rfl ?_
                      intro az53q Sz53q
                      refine st_puOff Sz53q rfl (g_off Sz53q rfl rfl rfl rfl (decide_eq_false z31h)) rfl rfl ?_
                      intro az54q Sz54q
                      refine st_rdOff Sz54q rfl (g_off Sz54q rfl rfl rfl rfl (decide_eq_false z31h)) rfl rfl ?_
                      intro az55q Sz55q
                      refine st_rdOff Sz55q rfl (g_off Sz55q rfl rfl rfl rfl (decide_eq_false z31h)) rfl rfl ?_
                      intro az56q Sz56q
                      refine st_puOff Sz56q rfl (g_off Sz56q rfl rfl rfl rfl (decide_eq_false z31h)) rfl rfl ?_
                      intro az57q Sz57q
                      refine st_pu Sz57q rfl (g_none rfl) rfl rfl (fun _ => y_pick Sz57q rfl (decide_eq_false z31h) _ rfl) ?_
                      intro az58q Sz58q
                      refine st_nil ?_
                      replace S0 := Sz58q
                      refine nr_then ?_
                      obtain rfl := Option.some.inj H
                      exact ⟨S0.sub ⟨rfl, rfl, rfl, rfl, rfl, trivial⟩, Hq⟩
                  · clear S0; rintro a w ⟨S0, Hq⟩
                    have H := HU4; clear HU4
                    refine nr_then ?_
                    by_cases z59h : z29x = true
                    · replace H := (if_pos z59h).symm.trans H
                      refine w_true S0 rfl z59h ?_
                      refine w_skip ?_
                      refine nr_then ?_
                      refine w_block ?_
                      refine w_seq ?_
                      refine w_region ?_
                      refine r_pures [_, _, _, _, _] S0 rfl ?_
                      clear S0; intro a0 S0
                      by_cases z60h : 0 ≤ (IntKind.i64.wrap (z27x - 1))
                      · replace H := (if_pos z60h).symm.trans H
                        by_cases z61h : (IntKind.i64.wrap (z27x - 1)) < ((z7x ++ ([(rd e_i64 x_l z6x)] : List Int)).length : Int)
                        · replace H := (if_pos z61h).symm.trans H
                          obtain ⟨z62g, rfl⟩ := own_at [] Hq (by omega)
                          refine r_index S0 rfl rfl sl22 ti3 z60h z61h rfl ?_
                          clear S0; intro a0 S0
                          refine r_elS S0 (own_rd [] Hq) z60h z61h rfl ti3 _ rfl rfl ?_
                          clear S0; intro a0 S0
                          by_cases z63h : 0 ≤ z27x
                          · replace H := (if_pos z63h).symm.trans H
                            by_cases z64h : z27x < ((z7x ++ ([(rd e_i64 x_l z6x)] : List Int)).length : Int)
                            · replace H := (if_pos z64h).symm.trans H
                              refine r_index S0 rfl rfl sl22 ti3 z63h z64h rfl ?_
                              clear S0; intro a0 S0
                              refine r_elst [] S0 Hq z63h z64h rfl rfl ti3 [.int .i64 (rd e_i64 z28x (IntKind.i64.wrap (z27x - 1)))] rfl rfl rfl rfl (rd e_i64 z28x (IntKind.i64.wrap (z27x - 1))) rfl ?_
                              clear Hq; intro w Hq; dsimp only [List.cons_append, List.nil_append] at Hq
                              refine wl_nil ?_
                              refine nr_then ?_
                              refine w_region ?_
                              refine r_pures [_, _, _] S0 rfl ?_
                              clear S0; intro a0 S0
                              refine wl_nil ?_
                              refine nr_in ?_
                              refine nr_then ?_
                              exact ⟨(IntKind.i64.wrap (z27x - 1)), (z28x.set (Int.toNat z27x) (rd e_i64 z28x (IntKind.i64.wrap (z27x - 1)))), H, S0.sub ⟨rfl, rfl, rfl, rfl, trivial⟩, Hq⟩
                            · replace H := (if_neg z64h).symm.trans H
                              exact nomatch H
                          · replace H := (if_neg z63h).symm.trans H
                            exact nomatch H
                        · replace H := (if_neg z61h).symm.trans H
                          exact nomatch H
                      · replace H := (if_neg z60h).symm.trans H
                        exact nomatch H
                    · replace H := (if_neg z59h).symm.trans H
                      refine w_false S0 rfl (Bool.eq_false_iff.mpr z59h) ?_
                      refine w_exit ?_
                      refine ex_then ?_
                      refine ex_then ?_
                      refine ex_in ?_
                      refine nr_then ?_
                      simp only [Option.some.injEq, Prod.mk.injEq] at H; obtain ⟨rfl, rfl⟩ := H
                      exact ⟨S0.sub ⟨rfl, rfl, rfl, rfl, trivial⟩, Hq⟩
              · clear S0; rintro a w ⟨S0, Hq⟩
                have H := HU3; clear HU3
                refine nr_then ?_
                refine w_region ?_
                refine r_pures [_, _, _, _] S0 rfl ?_
                clear S0; intro a0 S0
                refine r_index S0 rfl rfl sl22 ti3 z16h z11h rfl ?_
                clear S0; intro a0 S0
                refine r_elS S0 (isH_rd [_] Hq HR0) z16h z11h rfl ti3 _ rfl rfl ?_
                clear S0; intro a0 S0
                by_cases z65h : 0 ≤ z25x
                · replace H := (if_pos z65h).symm.trans H
                  by_cases z66h : z25x < ((z7x ++ ([(rd e_i64 x_l z6x)] : List Int)).length : Int)
                  · replace H := (if_pos z66h).symm.trans H
                    obtain ⟨z67g, rfl⟩ := own_at [] Hq (by omega)
                    refine r_index S0 rfl rfl sl22 ti3 z65h z66h rfl ?_
                    clear S0; intro a0 S0
                    refine r_elst [] S0 Hq z65h z66h rfl rfl ti3 [.int .i64 (rd e_i64 x_l z6x)] rfl rfl rfl rfl (rd e_i64 x_l z6x) rfl ?_
                    clear Hq; intro w Hq; dsimp only [List.cons_append, List.nil_append] at Hq
                    refine wl_nil ?_
                    refine nr_in ?_
                    refine nr_then ?_
                    obtain rfl := Option.some.inj H
                    exact ⟨(some ⟨z67g, 0, none⟩), ((z7x ++ ([(rd e_i64 x_l z6x)] : List Int)).length), z24n, S0.sub ⟨rfl, rfl, rfl, trivial⟩, Hq⟩
                  · replace H := (if_neg z66h).symm.trans H
                    exact nomatch H
                · replace H := (if_neg z65h).symm.trans H
                  exact nomatch H
            · replace H := (if_neg z22h).symm.trans H
              exact nomatch H
          · replace H := (if_neg z16h).symm.trans H
            exact nomatch H
        · clear S0; rintro a w ⟨z13A, z14m, z15n, S0, Hq⟩
          have H := HU2; clear HU2
          obtain rfl := own_len [] Hq
          refine nr_then ?_
          refine w_region ?_
          refine r_pures [_, _, _] S0 rfl ?_
          clear S0; intro a0 S0
          refine wl_nil ?_
          refine nr_then ?_
          exact ⟨(IntKind.i64.wrap (z6x + 1)), z12x, z13A, z12x.length, z15n, H, S0.sub ⟨rfl, rfl, rfl, trivial⟩, Hq⟩
      · replace H := (if_neg z11h).symm.trans H
        refine w_false S0 rfl (decide_eq_false z11h) ?_
        refine w_exit ?_
        refine ex_then ?_
        refine ex_then ?_
        refine ex_in ?_
        refine nr_then ?_
        obtain rfl := Option.some.inj H
        exact ⟨z8A, z7x.length, z10n, S0.sub ⟨rfl, trivial⟩, Hq⟩
  · clear S0; rintro a w ⟨z3A, z4m, z5n, S0, Hq⟩
    have H := HU1; clear HU1
    obtain rfl := own_len [] Hq
    refine nr_then ?_
    refine w_seq ?_
    refine w_region ?_
    refine r_pures [_, _] S0 rfl ?_
    clear S0; intro a0 S0
    refine wl_nil ?_
    refine nr_then ?_
    refine w_ret ?_
    obtain rfl := Option.some.inj H
    refine ret1 S0 rfl rfl ?_
    replace Hq := HS.pull [_] Hq
    dsimp only [List.cons_append, List.nil_append] at Hq
    replace Hq := HS.pull [_] Hq
    dsimp only [List.cons_append, List.nil_append] at Hq
    exact ⟨z3A, z2x.length, z5n, rfl, Hq⟩

end Go.Proofs.Ythlogangnppghaa.M

/- waybill/waybillref13.Of: a plain function, and that the machine's call comes to it: printed by a program of the session's own. -/
set_option linter.unusedVariables false
set_option linter.unusedSimpArgs false
namespace Go.Proofs.Ythlogangnppghaa.M
open Go Go.Proofs.Ythlogangnppghaa.Sl
/-! ### waybill/waybillref13.Of: function 13 -/
def waybillref13_Of.l0 : Nat → (List Int) → Int → Int → (List Int) → Int → (List Int) → Option ((List Int))
  | 0, _, _, _, _, _, _ => none
  | k + 1, x_ids, x_size, z8t, z23t, z34x, z35x => if z34x < x_size then (if 0 ≤ (IntKind.i64.wrap ((IntKind.i64.wrap (z8t * x_size)) + z34x)) then (if (IntKind.i64.wrap ((IntKind.i64.wrap (z8t * x_size)) + z34x)) < (z23t.length : Int) then (if 0 ≤ (rd e_i64 z23t (IntKind.i64.wrap ((IntKind.i64.wrap (z8t * x_size)) + z34x))) then (if (rd e_i64 z23t (IntKind.i64.wrap ((IntKind.i64.wrap (z8t * x_size)) + z34x))) < (x_ids.length : Int) then (if z35x.length + ([(rd e_i64 x_ids (rd e_i64 z23t (IntKind.i64.wrap ((IntKind.i64.wrap (z8t * x_size)) + z34x))))] : List Int).length < 17592186044416 then (waybillref13_Of.l0 k x_ids x_size z8t z23t (IntKind.i64.wrap (z34x + 1)) (z35x ++ ([(rd e_i64 x_ids (rd e_i64 z23t (IntKind.i64.wrap ((IntKind.i64.wrap (z8t * x_size)) + z34x))))] : List Int))) else (none)) else (none)) else (none)) else (none)) else (none)) else (some z35x)
def waybillref13_Of.f (k : Nat) (x_ids : List Int) (x_client : Int) (x_size : Int) (x_seed : Int) : Option ((List Int) × Int) := if 32 < (x_ids.length : Int) then (some (([] : List Int), 3)) else ((waybillref13_rising.f k x_ids).bind fun z4t => (if z4t = true then ((waybillref13_Round.f (x_ids.length : Int) x_client x_size).bind fun (z7t, z8t, z9t) => (if z9t = 0 then (if (x_ids.length : Int) ≤ x_size then (if ([] : List Int).length + x_ids.length < 17592186044416 then (some (([] : List Int) ++ x_ids, 0)) else (none)) else ((waybillref10_Ints.f k x_seed ([z7t] : List Int)).bind fun z20t => ((waybillref11_Shuffle.f k z20t (x_ids.length : Int)).bind fun (z22t, z23t, z24t) => ((((waybillref13_Of.l0 k x_ids x_size z8t z23t 0 ([] : List Int))) : Option ((List Int))).bind fun z30x => ((waybillref13_sorted.f k z30x).bind fun z54t => (some (z54t, 0))))))) else (some (([] : List Int), z9t)))) else (some (([] : List Int), 9))))
set_option maxRecDepth 100000 in
set_option maxHeartbeats 4000000 in
theorem waybillref13_Of.calls (k : Nat) (A0 : Option Addr) (n0 c0 : Nat) (x_ids : List Int) (x_client : Int) (x_size : Int) (x_seed : Int) (W0 : World) (X : Heap) (HR0 : Rd e_i64 X A0 n0 c0 x_ids) (Hq : HS W0 [isH X] W0) (r : (List Int) × Int) (H : waybillref13_Of.f k x_ids x_client x_size x_seed = some r) :
    Calls Try.prog 13 #[.slice A0 n0 c0, .int .i64 x_client, .int .i64 x_size, .int .u64 x_seed] W0 (fun e w => ∃ Ar0 nr0 cr0, e = .returned (.tuple #[.slice Ar0 nr0 cr0, .int .i64 r.2]) ∧ HS W0 [own e_i64 3 Ar0 nr0 cr0 r.1, isH X] w) := by
  obtain rfl := HR0.1
  rw [waybillref13_Of.f] at H
  refine calls_in Try.func13 rfl rfl ?_
  intro a0 S0
  refine w_seq ?_
  refine w_region ?_
  refine r_pures [_, _] S0 rfl ?_
  clear S0; intro a0 S0
  refine wl_nil ?_
  refine nr_then ?_
  refine w_seq ?_
  refine w_block ?_
  refine w_seq ?_
  refine w_region ?_
  refine r_pures [_] S0 rfl ?_
  clear S0; intro a0 S0
  refine r_len S0 rfl sl22 rfl ?_
  clear S0; intro a0 S0
  refine r_pures [_, _] S0 rfl ?_
  clear S0; intro a0 S0
  refine wl_nil ?_
  refine nr_then ?_
  by_cases z1h : 32 < (x_ids.length : Int)
  · replace H := (if_pos z1h).symm.trans H
    refine w_true S0 rfl (decide_eq_true z1h) ?_
    refine w_seq ?_
    refine w_region ?_
    refine r_pures [_, _] S0 rfl ?_
    clear S0; intro a0 S0
    refine wl_nil ?_
    refine nr_then ?_
    refine w_ret ?_
    refine ret_in ?_
    refine ret_then ?_
    obtain rfl := Option.some.inj H
    replace Hq := HS.own_nil e_i64 3 Hq
    refine ret2 S0 rfl rfl rfl ?_
    replace Hq := HS.pull [_] Hq
    dsimp only [List.cons_append, List.nil_append] at Hq
    replace Hq := HS.pull [_] Hq
    dsimp only [List.cons_append, List.nil_append] at Hq
    exact ⟨none, 0, 0, rfl, Hq⟩
  · replace H := (if_neg z1h).symm.trans H
    refine w_false S0 rfl (decide_eq_false z1h) ?_
    refine w_seq ?_
    refine w_region ?_
    refine r_pures [_] S0 rfl ?_
    clear S0; intro a0 S0
    obtain ⟨Xz3, HXz3, HPz3, HBz3⟩ := call_frame [] Hq
    dsimp only [List.cons_append, List.nil_append] at HXz3 HBz3
    obtain ⟨z4t, Hc, H⟩ := Option.bind_eq_some_iff.mp H
    refine r_call S0 rfl rfl goes22 rfl ?_
    refine (waybillref13_rising.calls _ _ _ _ x_ids _ _ (sl_isH_rd [] HPz3 HR0) HXz3 z4t Hc).mono ?_
    rintro e w ⟨rfl, Hq'⟩
    have Hq : HS W0 [isH X] w := HBz3 [] _ Hq'
    clear HXz3 HPz3 HBz3 Hq'
    refine ⟨.bool z4t, rfl, ?_⟩; clear S0; intro a0 S0
    refine r_pures [_, _] S0 rfl ?_
    clear S0; intro a0 S0
    refine wl_nil ?_
    refine nr_then ?_
    by_cases z5h : z4t = true
    · replace H := (if_pos z5h).symm.trans H
      refine w_false S0 rfl (congrArg (!·) z5h) ?_
      refine w_skip ?_
      refine nr_in ?_
      refine nr_then ?_
      refine w_seq ?_
      refine w_region ?_
      refine r_pures [_] S0 rfl ?_
      clear S0; intro a0 S0
      refine r_len S0 rfl sl22 rfl ?_
      clear S0; intro a0 S0
      refine r_pures [_, _] S0 rfl ?_
      clear S0; intro a0 S0
      obtain ⟨Xz6, HXz6, HPz6, HBz6⟩ := call_frame [] Hq
      dsimp only [List.cons_append, List.nil_append] at HXz6 HBz6
      obtain ⟨⟨z7t, z8t, z9t⟩, Hc, H⟩ := Option.bind_eq_some_iff.mp H
      dsimp only at H
      refine r_call S0 rfl rfl goes15 rfl ?_
      refine (waybillref13_Round.calls (x_ids.length : Int) x_client x_size _ _  HXz6 (z7t, z8t, z9t) Hc).mono ?_
      rintro e w ⟨rfl, Hq'⟩
      have Hq : HS W0 [isH X] w := HBz6 [] _ Hq'
      clear HXz6 HPz6 HBz6 Hq'
      refine ⟨.tuple #[.int .i64 z7t, .int .i64 z8t, .int .i64 z9t], rfl, ?_⟩; clear S0; intro a0 S0
      refine r_pures [_, _, _, _, _, _, _] S0 rfl ?_
      clear S0; intro a0 S0
      refine wl_nil ?_
      refine nr_then ?_
      refine w_seq ?_
      refine w_seq ?_
      refine w_region ?_
      refine r_pures [_, _] S0 rfl ?_
      clear S0; intro a0 S0
      refine wl_nil ?_
      refine nr_then ?_
      by_cases z10h : z9t = 0
      · replace H := (if_pos z10h).symm.trans H
        refine w_false S0 rfl (congrArg (!·) (decide_eq_true z10h)) ?_
        refine w_skip ?_
        refine nr_then ?_
        refine w_seq ?_
        refine w_seq ?_
        refine w_region ?_
        refine r_pures [_] S0 rfl ?_
        clear S0; intro a0 S0
        refine r_len S0 rfl sl22 rfl ?_
        clear S0; intro a0 S0
        refine r_pures [_, _] S0 rfl ?_
        clear S0; intro a0 S0
        refine wl_nil ?_
        refine nr_then ?_
        by_cases z11h : (x_ids.length : Int) ≤ x_size
        · replace H := (if_pos z11h).symm.trans H
          refine w_true S0 rfl (decide_eq_true z11h) ?_
          refine w_seq ?_
          refine w_region ?_
          refine r_pures [_] S0 rfl ?_
          clear S0; intro a0 S0
          refine wl_nil ?_
          refine nr_then ?_
          refine w_seq ?_
          refine w_region ?_
          refine r_pures [_, _] S0 rfl ?_
          clear S0; intro a0 S0
          replace Hq := HS.own_nil e_i64 3 Hq
          by_cases z13h : ([] : List Int).length + x_ids.length < 17592186044416
          · replace H := (if_pos z13h).symm.trans H
            refine r_app [] S0 Hq (isH_rd [_] Hq HR0) rfl rfl sl22 ti3 rfl z13h rfl rfl ?_
            clear S0 Hq; intro z14A z15n a0 w S0 Hq; dsimp only [List.cons_append, List.nil_append] at Hq
            refine r_pures [_, _] S0 rfl ?_
            clear S0; intro a0 S0
            refine wl_nil ?_
            refine nr_then ?_
            refine w_ret ?_
            refine ret_then ?_
            obtain rfl := Option.some.inj H
            refine ret2 S0 rfl rfl rfl ?_
            replace Hq := HS.pull [_] Hq
            dsimp only [List.cons_append, List.nil_append] at Hq
            replace Hq := HS.pull [_] Hq
            dsimp only [List.cons_append, List.nil_append] at Hq
            exact ⟨z14A, ((([] : List Int) ++ x_ids).length), z15n, rfl, Hq⟩
          · replace H := (if_neg z13h).symm.trans H
            exact nomatch H
        · replace H := (if_neg z11h).symm.trans H
          refine w_false S0 rfl (decide_eq_false z11h) ?_
          refine w_skip ?_
          refine nr_then ?_
          refine w_seq ?_
          refine w_region ?_
          refine r_pures [_, _] S0 rfl ?_
          clear S0; intro a0 S0
          refine r_lit (e := e_i64) (l := ([z7t] : List Int)) (m := 1) (vs := [.int .i64 z7t]) S0 Hq sl22 ti3 rfl rfl rfl rfl rfl rfl ?_
          clear S0 Hq; intro z16b a0 w S0 Hq
          obtain ⟨Xz19, HXz19, HPz19, HBz19⟩ := call_frame [] Hq
          dsimp only [List.cons_append, List.nil_append] at HXz19 HBz19
          obtain ⟨z20t, Hc, H⟩ := Option.bind_eq_some_iff.mp H
          refine r_call S0 rfl rfl goes24 rfl ?_
          refine (waybillref10_Ints.calls _ x_seed _ _ _ ([z7t] : List Int) _ _ (sl_own_rd [] HPz19) HXz19 z20t Hc).mono ?_
          rintro e w ⟨rfl, Hq'⟩
          have Hq : HS W0 [own e_i64 3 (some ⟨z16b, 0, none⟩) 1 1 ([z7t] : List Int), isH X] w := HBz19 [] _ Hq'
          clear HXz19 HPz19 HBz19 Hq'
          refine ⟨.int .u64 z20t, rfl, ?_⟩; clear S0; intro a0 S0
          refine r_pures [_] S0 rfl ?_
          clear S0; intro a0 S0
          refine r_len S0 rfl sl22 rfl ?_
          clear S0; intro a0 S0
          obtain ⟨Xz21, HXz21, HPz21, HBz21⟩ := call_frame [] Hq
          dsimp only [List.cons_append, List.nil_append] at HXz21 HBz21
          obtain ⟨⟨z22t, z23t, z24t⟩, Hc, H⟩ := Option.bind_eq_some_iff.mp H
          dsimp only at H
          refine r_call S0 rfl rfl goes23 rfl ?_
          refine (waybillref11_Shuffle.calls _ z20t (x_ids.length : Int) _ _  HXz21 (z22t, z23t, z24t) Hc).mono ?_
          rintro e w ⟨z25A, z26m, z27n, rfl, Hq'⟩
          have Hq : HS W0 [own e_i64 3 z25A z26m z27n z23t, own e_i64 3 (some ⟨z16b, 0, none⟩) 1 1 ([z7t] : List Int), isH X] w := HBz21 [_] _ Hq'
          clear HXz21 HPz21 HBz21 Hq'
          obtain rfl := own_len [] Hq
          refine ⟨.tuple #[.int .u64 z22t, .slice z25A z23t.length z27n, .int .i64 z24t], rfl, ?_⟩; clear S0; intro a0 S0
          refine r_pures [_, _, _, _, _, _, _] S0 rfl ?_
          clear S0; intro a0 S0
          refine wl_nil ?_
          refine nr_then ?_
          refine w_seq ?_
          refine w_region ?_
          refine r_pures [_] S0 rfl ?_
          clear S0; intro a0 S0
          refine wl_nil ?_
          refine nr_then ?_
          refine w_seq ?_
          refine w_seq ?_
          refine w_region ?_
          refine r_pures [_] S0 rfl ?_
          clear S0; intro a0 S0
          refine wl_nil ?_
          refine nr_then ?_
          replace Hq := HS.own_nil e_i64 3 Hq
          obtain ⟨z30x, H, HU1⟩ := Option.bind_eq_some_iff.mp H
          refine w_cutT (fun a w => ∃ z31A z32m z33n, Sl 78 [] [(17, .slice z31A z32m z33n)] a ∧ HS W0 [own e_i64 3 z31A z32m z33n z30x, isH X] w) ?_ ?_
          · skip
            refine w_block ?_
            replace Hq := HS.pull [_, _, _] Hq
            dsimp only [List.cons_append, List.nil_append] at Hq
            replace Hq := HS.pull [_, _] Hq
            dsimp only [List.cons_append, List.nil_append] at Hq
            replace Hq := HS.pull [_, _] Hq
            dsimp only [List.cons_append, List.nil_append] at Hq
            replace Hq := HS.keep [_, _, _] Hq
            refine w_loop (fun kq a w => ∃ z34x z35x z36A z37m z38n, waybillref13_Of.l0 kq x_ids x_size z8t z23t z34x z35x = some z30x ∧ Sl 78 [] [(0, .slice A0 x_ids.length c0), (2, .int .i64 x_size), (11, .int .i64 z8t), (15, .slice z25A z23t.length z27n), (17, .slice z36A z37m z38n), (18, .int .i64 z34x)] a ∧ HS W0 [own e_i64 3 z36A z37m z38n z35x, own e_i64 3 z25A z23t.length z27n z23t, isH X] w) _ ⟨0, ([] : List Int), none, 0, 0, H, S0.sub ⟨rfl, rfl, rfl, rfl, rfl, rfl, trivial⟩, Hq⟩ ?_
            clear H Hq S0
            rintro k0 a w ⟨z34x, z35x, z36A, z37m, z38n, H, S0, Hq⟩
            cases k0 with
            | zero => simp [waybillref13_Of.l0] at H
            | succ k0 =>
              refine ⟨k0, rfl, ?_⟩
              rw [waybillref13_Of.l0] at H
              obtain rfl := own_len [] Hq
              refine w_seq ?_
              refine w_seq ?_
              refine w_region ?_
              refine r_pures [_, _, _] S0 rfl ?_
              clear S0; intro a0 S0
              refine wl_nil ?_
              refine nr_then ?_
              by_cases z39h : z34x < x_size
              · replace H := (if_pos z39h).symm.trans H
                refine w_true S0 rfl (decide_eq_true z39h) ?_
                refine w_skip ?_
                refine nr_then ?_
                refine w_seq ?_
                refine w_block ?_
                refine w_region ?_
                refine r_pures [_, _, _, _, _, _, _, _] S0 rfl ?_
                clear S0; intro a0 S0
                by_cases z40h : 0 ≤ (IntKind.i64.wrap ((IntKind.i64.wrap (z8t * x_size)) + z34x))
                · replace H := (if_pos z40h).symm.trans H
                  by_cases z41h : (IntKind.i64.wrap ((IntKind.i64.wrap (z8t * x_size)) + z34x)) < (z23t.length : Int)
                  · replace H := (if_pos z41h).symm.trans H
                    obtain ⟨z42g, rfl⟩ := own_at [_] Hq (by omega)
                    refine r_index S0 rfl rfl sl22 ti3 z40h z41h rfl ?_
                    clear S0; intro a0 S0
                    refine r_elS S0 (own_rd [_] Hq) z40h z41h rfl ti3 _ rfl rfl ?_
                    clear S0; intro a0 S0
                    by_cases z43h : 0 ≤ (rd e_i64 z23t (IntKind.i64.wrap ((IntKind.i64.wrap (z8t * x_size)) + z34x)))
                    · replace H := (if_pos z43h).symm.trans H
                      by_cases z44h : (rd e_i64 z23t (IntKind.i64.wrap ((IntKind.i64.wrap (z8t * x_size)) + z34x))) < (x_ids.length : Int)
                      · replace H := (if_pos z44h).symm.trans H
                        obtain ⟨z45b, z46o, rfl⟩ := (isH_rd [_, _] Hq HR0).at (by omega)
                        refine r_index S0 rfl rfl sl22 ti3 z43h z44h rfl ?_
                        clear S0; intro a0 S0
                        refine r_elS S0 (isH_rd [_, _] Hq HR0) z43h z44h rfl ti3 _ rfl rfl ?_
                        clear S0; intro a0 S0
                        refine r_lit (e := e_i64) (l := ([(rd e_i64 x_ids (rd e_i64 z23t (IntKind.i64.wrap ((IntKind.i64.wrap (z8t * x_size)) + z34x))))] : List Int)) (m := 1) (vs := [.int .i64 (rd e_i64 x_ids (rd e_i64 z23t (IntKind.i64.wrap ((IntKind.i64.wrap (z8t * x_size)) + z34x))))]) S0 Hq sl22 ti3 rfl rfl rfl rfl rfl rfl ?_
                        clear S0 Hq; intro z47b a0 w S0 Hq
                        by_cases z50h : z35x.length + ([(rd e_i64 x_ids (rd e_i64 z23t (IntKind.i64.wrap ((IntKind.i64.wrap (z8t * x_size)) + z34x))))] : List Int).length < 17592186044416
                        · replace H := (if_pos z50h).symm.trans H
                          refine r_app [_] S0 Hq (own_rd [] Hq) rfl rfl sl22 ti3 rfl z50h rfl rfl ?_
                          clear S0 Hq; intro z51A z52n a0 w S0 Hq; dsimp only [List.cons_append, List.nil_append] at Hq
                          refine r_pures [_] S0 rfl ?_
                          clear S0; intro a0 S0
                          refine wl_nil ?_
                          refine nr_in ?_
                          refine nr_then ?_
                          refine w_region ?_
                          refine r_pures [_, _, _] S0 rfl ?_
                          clear S0; intro a0 S0
                          refine wl_nil ?_
                          refine nr_then ?_
                          replace Hq := HS.pull [_, _, _] Hq
                          dsimp only [List.cons_append, List.nil_append] at Hq
                          replace Hq := HS.pull [_, _, _] Hq
                          dsimp only [List.cons_append, List.nil_append] at Hq
                          replace Hq := HS.pull [_, _, _] Hq
                          dsimp only [List.cons_append, List.nil_append] at Hq
                          replace Hq := HS.keep [_, _, _] Hq
                          exact ⟨(IntKind.i64.wrap (z34x + 1)), (z35x ++ ([(rd e_i64 x_ids (rd e_i64 z23t (IntKind.i64.wrap ((IntKind.i64.wrap (z8t * x_size)) + z34x))))] : List Int)), z51A, ((z35x ++ ([(rd e_i64 x_ids (rd e_i64 z23t (IntKind.i64.wrap ((IntKind.i64.wrap (z8t * x_size)) + z34x))))] : List Int)).length), z52n, H, S0.sub ⟨rfl, rfl, rfl, rfl, rfl, rfl, trivial⟩, Hq⟩
                        · replace H := (if_neg z50h).symm.trans H
                          exact nomatch H
                      · replace H := (if_neg z44h).symm.trans H
                        exact nomatch H
                    · replace H := (if_neg z43h).symm.trans H
                      exact nomatch H
                  · replace H := (if_neg z41h).symm.trans H
                    exact nomatch H
                · replace H := (if_neg z40h).symm.trans H
                  exact nomatch H
              · replace H := (if_neg z39h).symm.trans H
                refine w_false S0 rfl (decide_eq_false z39h) ?_
                refine w_exit ?_
                refine ex_then ?_
                refine ex_then ?_
                refine ex_in ?_
                refine nr_then ?_
                replace Hq := HS.pull [_, _] Hq
                dsimp only [List.cons_append, List.nil_append] at Hq
                replace Hq := HS.pull [_] Hq
                dsimp only [List.cons_append, List.nil_append] at Hq
                replace Hq := HS.keep [_, _] Hq
                obtain rfl := Option.some.inj H
                exact ⟨z36A, z35x.length, z38n, S0.sub ⟨rfl, trivial⟩, Hq⟩
          · clear S0; rintro a w ⟨z31A, z32m, z33n, S0, Hq⟩
            have H := HU1; clear HU1
            obtain rfl := own_len [] Hq
            refine nr_then ?_
            refine w_seq ?_
            refine w_region ?_
            refine r_pures [_] S0 rfl ?_
            clear S0; intro a0 S0
            obtain ⟨Xz53, HXz53, HPz53, HBz53⟩ := call_frame [] Hq
            dsimp only [List.cons_append, List.nil_append] at HXz53 HBz53
            obtain ⟨z54t, Hc, H⟩ := Option.bind_eq_some_iff.mp H
            refine r_call S0 rfl rfl goes25 rfl ?_
            refine (waybillref13_sorted.calls _ _ _ _ z30x _ _ (sl_own_rd [] HPz53) HXz53 z54t Hc).mono ?_
            rintro e w ⟨z55A, z56m, z57n, rfl, Hq'⟩
            have Hq : HS W0 [own e_i64 3 z55A z56m z57n z54t, own e_i64 3 z31A z30x.length z33n z30x, isH X] w := HBz53 [_] _ Hq'
            clear HXz53 HPz53 HBz53 Hq'
            obtain rfl := own_len [] Hq
            refine ⟨.slice z55A z54t.length z57n, rfl, ?_⟩; clear S0; intro a0 S0
            refine r_pures [_, _] S0 rfl ?_
            clear S0; intro a0 S0
            refine wl_nil ?_
            refine nr_then ?_
            refine w_ret ?_
            obtain rfl := Option.some.inj H
            refine ret2 S0 rfl rfl rfl ?_
            replace Hq := HS.pull [_, _] Hq
            dsimp only [List.cons_append, List.nil_append] at Hq
            replace Hq := HS.pull [_] Hq
            dsimp only [List.cons_append, List.nil_append] at Hq
            replace Hq := HS.keep [_, _] Hq
            exact ⟨z55A, z54t.length, z57n, rfl, Hq⟩
      · replace H := (if_neg z10h).symm.trans H
        refine w_true S0 rfl (congrArg (!·) (decide_eq_false z10h)) ?_
        refine w_seq ?_
        refine w_region ?_
        refine r_pures [_, _, _] S0 rfl ?_
        clear S0; intro a0 S0
        refine wl_nil ?_
        refine nr_then ?_
        refine w_ret ?_
        refine ret_then ?_
        obtain rfl := Option.some.inj H
        replace Hq := HS.own_nil e_i64 3 Hq
        refine ret2 S0 rfl rfl rfl ?_
        replace Hq := HS.pull [_] Hq
        dsimp only [List.cons_append, List.nil_append] at Hq
        replace Hq := HS.pull [_] Hq
        dsimp only [List.cons_append, List.nil_append] at Hq
        exact ⟨none, 0, 0, rfl, Hq⟩
    · replace H := (if_neg z5h).symm.trans H
      refine w_true S0 rfl (congrArg (!·) (Bool.eq_false_iff.mpr z5h)) ?_
      refine w_seq ?_
      refine w_region ?_
      refine r_pures [_, _] S0 rfl ?_
      clear S0; intro a0 S0
      refine wl_nil ?_
      refine nr_then ?_
      refine w_ret ?_
      refine ret_in ?_
      refine ret_then ?_
      obtain rfl := Option.some.inj H
      replace Hq := HS.own_nil e_i64 3 Hq
      refine ret2 S0 rfl rfl rfl ?_
      replace Hq := HS.pull [_] Hq
      dsimp only [List.cons_append, List.nil_append] at Hq
      replace Hq := HS.pull [_] Hq
      dsimp only [List.cons_append, List.nil_append] at Hq
      exact ⟨none, 0, 0, rfl, Hq⟩

end Go.Proofs.Ythlogangnppghaa.M

/- waybill/waybillref13.has: a plain function, and that the machine's call comes to it: printed by a program of the session's own. -/
set_option linter.unusedVariables false
set_option linter.unusedSimpArgs false
namespace Go.Proofs.Ythlogangnppghaa.M
open Go Go.Proofs.Ythlogangnppghaa.Sl
/-! ### waybill/waybillref13.has: function 26 -/
def waybillref13_has.l0 : Nat → (List Int) → Int → Int → Option (Bool)
  | 0, _, _, _ => none
  | k + 1, x_l, x_n, z1x => if z1x < (x_l.length : Int) then (if 0 ≤ z1x then (if (rd e_i64 x_l z1x) = x_n then (some true) else (waybillref13_has.l0 k x_l x_n (IntKind.i64.wrap (z1x + 1)))) else (none)) else (some false)
def waybillref13_has.f (k : Nat) (x_l : List Int) (x_n : Int) : Option (Bool) := (waybillref13_has.l0 k x_l x_n 0)
set_option maxRecDepth 100000 in
set_option maxHeartbeats 4000000 in
theorem waybillref13_has.calls (k : Nat) (A0 : Option Addr) (n0 c0 : Nat) (x_l : List Int) (x_n : Int) (W0 : World) (X : Heap) (HR0 : Rd e_i64 X A0 n0 c0 x_l) (Hq : HS W0 [isH X] W0) (r : Bool) (H : waybillref13_has.f k x_l x_n = some r) :
    Calls Try.prog 26 #[.slice A0 n0 c0, .int .i64 x_n] W0 (fun e w => e = .returned (.bool r) ∧ HS W0 [isH X] w) := by
  obtain rfl := HR0.1
  rw [waybillref13_has.f] at H
  refine calls_in Try.func26 rfl rfl ?_
  intro a0 S0
  refine w_seq ?_
  refine w_region ?_
  refine r_pures [_] S0 rfl ?_
  clear S0; intro a0 S0
  refine wl_nil ?_
  refine nr_then ?_
  refine w_seq ?_
  refine w_seq ?_
  refine w_region ?_
  refine r_pures [_] S0 rfl ?_
  clear S0; intro a0 S0
  refine wl_nil ?_
  refine nr_then ?_
  refine w_block ?_
  refine w_loop (fun kq a w => ∃ z1x, waybillref13_has.l0 kq x_l x_n z1x = some r ∧ Sl 18 [] [(0, .slice A0 x_l.length c0), (1, .int .i64 x_n), (5, .int .i64 z1x)] a ∧ HS W0 [isH X] w) _ ⟨0, H, S0.sub ⟨rfl, rfl, rfl, trivial⟩, Hq⟩ ?_
  clear H Hq S0
  rintro k0 a w ⟨z1x, H, S0, Hq⟩
  cases k0 with
  | zero => simp [waybillref13_has.l0] at H
  | succ k0 =>
    refine ⟨k0, rfl, ?_⟩
    rw [waybillref13_has.l0] at H
    refine w_seq ?_
    refine w_seq ?_
    refine w_region ?_
    refine r_pures [_, _] S0 rfl ?_
    clear S0; intro a0 S0
    refine r_len S0 rfl sl22 rfl ?_
    clear S0; intro a0 S0
    refine r_pures [_] S0 rfl ?_
    clear S0; intro a0 S0
    refine wl_nil ?_
    refine nr_then ?_
    by_cases z2h : z1x < (x_l.length : Int)
    · replace H := (if_pos z2h).symm.trans H
      refine w_true S0 rfl (decide_eq_true z2h) ?_
      refine w_skip ?_
      refine nr_then ?_
      refine w_seq ?_
      refine w_block ?_
      refine w_seq ?_
      refine w_region ?_
      refine r_pures [_, _] S0 rfl ?_
      clear S0; intro a0 S0
      by_cases z3h : 0 ≤ z1x
      · replace H := (if_pos z3h).symm.trans H
        obtain ⟨z4b, z5o, rfl⟩ := (isH_rd [] Hq HR0).at (by omega)
        refine r_index S0 rfl rfl sl22 ti3 z3h z2h rfl ?_
        clear S0; intro a0 S0
        refine r_elS S0 (isH_rd [] Hq HR0) z3h z2h rfl ti3 _ rfl rfl ?_
        clear S0; intro a0 S0
        refine r_pures [_, _] S0 rfl ?_
        clear S0; intro a0 S0
        refine wl_nil ?_
        refine nr_then ?_
        by_cases z6h : (rd e_i64 x_l z1x) = x_n
        · replace H := (if_pos z6h).symm.trans H
          refine w_true S0 rfl (decide_eq_true z6h) ?_
          refine w_seq ?_
          refine w_region ?_
          refine r_pures [_] S0 rfl ?_
          clear S0; intro a0 S0
          refine wl_nil ?_
          refine nr_then ?_
          refine w_ret ?_
          refine ret_in ?_
          refine ret_then ?_
          refine ret_then ?_
          refine ret_in ?_
          refine ret_then ?_
          obtain rfl := Option.some.inj H
          refine ret1 S0 rfl rfl ?_
          exact ⟨rfl, Hq⟩
        · replace H := (if_neg z6h).symm.trans H
          refine w_false S0 rfl (decide_eq_false z6h) ?_
          refine w_skip ?_
          refine nr_in ?_
          refine nr_then ?_
          refine w_region ?_
          refine r_pures [_, _, _] S0 rfl ?_
          clear S0; intro a0 S0
          refine wl_nil ?_
          refine nr_then ?_
          exact ⟨(IntKind.i64.wrap (z1x + 1)), H, S0.sub ⟨rfl, rfl, rfl, trivial⟩, Hq⟩
      · replace H := (if_neg z3h).symm.trans H
        exact nomatch H
    · replace H := (if_neg z2h).symm.trans H
      refine w_false S0 rfl (decide_eq_false z2h) ?_
      refine w_exit ?_
      refine ex_then ?_
      refine ex_then ?_
      refine ex_in ?_
      refine nr_then ?_
      refine w_seq ?_
      refine w_region ?_
      refine r_pures [_] S0 rfl ?_
      clear S0; intro a0 S0
      refine wl_nil ?_
      refine nr_then ?_
      refine w_ret ?_
      obtain rfl := Option.some.inj H
      refine ret1 S0 rfl rfl ?_
      exact ⟨rfl, Hq⟩

end Go.Proofs.Ythlogangnppghaa.M

/- waybill/waybillref13.Counts: a plain function, and that the machine's call comes to it: printed by a program of the session's own. -/
set_option linter.unusedVariables false
set_option linter.unusedSimpArgs false
namespace Go.Proofs.Ythlogangnppghaa.M
open Go Go.Proofs.Ythlogangnppghaa.Sl
/-! ### waybill/waybillref13.Counts: function 16 -/
def waybillref13_Counts.l1 : Nat → (List Int) → (List Int) → Int → (List Int) → Option ((List Int))
  | 0, _, _, _, _ => none
  | k + 1, x_ids, z24t, z31x, z32x => if z31x < (x_ids.length : Int) then (if 0 ≤ z31x then ((waybillref13_has.f k z24t (rd e_i64 x_ids z31x)).bind fun z38t => (((if z38t = true then (if z31x < (Int.toNat (x_ids.length : Int) : Int) then (some (z32x.set (Int.toNat z31x) (IntKind.i64.wrap ((rd e_i64 z32x z31x) + 1)))) else (none)) else (some z32x)) : Option ((List Int))).bind fun z39x => (waybillref13_Counts.l1 k x_ids z24t (IntKind.i64.wrap (z31x + 1)) z39x))) else (none)) else (some z32x)
def waybillref13_Counts.l0 : Nat → (List Int) → Int → Int → Int → Int → (List Int) → Option ((List Int))
  | 0, _, _, _, _, _, _ => none
  | k + 1, x_ids, x_clients, x_size, x_seed, z19x, z20x => if z19x < x_clients then ((((waybillref13_Of.f k x_ids z19x x_size x_seed).bind fun (z24t, z25t) => ((((waybillref13_Counts.l1 k x_ids z24t 0 z20x)) : Option ((List Int))).bind fun z30x => (some z30x))) : Option ((List Int))).bind fun z22x => (waybillref13_Counts.l0 k x_ids x_clients x_size x_seed (IntKind.i64.wrap (z19x + 1)) z22x)) else (some z20x)
def waybillref13_Counts.f (k : Nat) (x_ids : List Int) (x_clients : Int) (x_size : Int) (x_seed : Int) : Option ((List Int) × Int) := (waybillref13_Of.f k x_ids 0 x_size x_seed).bind fun (z2t, z3t) => (if z3t = 0 then (((if x_clients < 0 then (some true) else (some (decide (256 < x_clients)))) : Option (Bool)).bind fun z9x => (if z9x = true then (some (([] : List Int), 4)) else (if 0 ≤ (x_ids.length : Int) then (if Int.toNat (x_ids.length : Int) < 17592186044416 then ((((waybillref13_Counts.l0 k x_ids x_clients x_size x_seed 0 (List.replicate (Int.toNat (x_ids.length : Int)) e_i64.z))) : Option ((List Int))).bind fun z18x => (some (z18x, 0))) else (none)) else (none)))) else (some (([] : List Int), z3t)))
set_option maxRecDepth 100000 in
set_option maxHeartbeats 4000000 in
theorem waybillref13_Counts.calls (k : Nat) (A0 : Option Addr) (n0 c0 : Nat) (x_ids : List Int) (x_clients : Int) (x_size : Int) (x_seed : Int) (W0 : World) (X : Heap) (HR0 : Rd e_i64 X A0 n0 c0 x_ids) (Hq : HS W0 [isH X] W0) (r : (List Int) × Int) (H : waybillref13_Counts.f k x_ids x_clients x_size x_seed = some r) :
    Calls Try.prog 16 #[.slice A0 n0 c0, .int .i64 x_clients, .int .i64 x_size, .int .u64 x_seed] W0 (fun e w => ∃ Ar0 nr0 cr0, e = .returned (.tuple #[.slice Ar0 nr0 cr0, .int .i64 r.2]) ∧ HS W0 [own e_i64 3 Ar0 nr0 cr0 r.1, isH X] w) := by
  obtain rfl := HR0.1
  rw [waybillref13_Counts.f] at H
  refine calls_in Try.func16 rfl rfl ?_
  intro a0 S0
  refine w_seq ?_
  refine w_region ?_
  refine r_pures [_, _] S0 rfl ?_
  clear S0; intro a0 S0
  refine wl_nil ?_
  refine nr_then ?_
  refine w_seq ?_
  refine w_region ?_
  refine r_pures [_, _, _] S0 rfl ?_
  clear S0; intro a0 S0
  obtain ⟨Xz1, HXz1, HPz1, HBz1⟩ := call_frame [] Hq
  dsimp only [List.cons_append, List.nil_append] at HXz1 HBz1
  obtain ⟨⟨z2t, z3t⟩, Hc, H⟩ := Option.bind_eq_some_iff.mp H
  dsimp only at H
  refine r_call S0 rfl rfl goes13 rfl ?_
  refine (waybillref13_Of.calls _ _ _ _ x_ids 0 x_size x_seed _ _ (sl_isH_rd [] HPz1 HR0) HXz1 (z2t, z3t) Hc).mono ?_
  rintro e w ⟨z4A, z5m, z6n, rfl, Hq'⟩
  have Hq : HS W0 [own e_i64 3 z4A z5m z6n z2t, isH X] w := HBz1 [_] _ Hq'
  clear HXz1 HPz1 HBz1 Hq'
  obtain rfl := own_len [] Hq
  refine ⟨.tuple #[.slice z4A z2t.length z6n, .int .i64 z3t], rfl, ?_⟩; clear S0; intro a0 S0
  refine r_pures [_, _, _, _, _] S0 rfl ?_
  clear S0; intro a0 S0
  refine wl_nil ?_
  refine nr_then ?_
  refine w_seq ?_
  refine w_block ?_
  refine w_seq ?_
  refine w_region ?_
  refine r_pures [_, _, _] S0 rfl ?_
  clear S0; intro a0 S0
  refine wl_nil ?_
  refine nr_then ?_
  by_cases z8h : z3t = 0
  · replace H := (if_pos z8h).symm.trans H
    refine w_false S0 rfl (congrArg (!·) (decide_eq_true z8h)) ?_
    refine w_seq ?_
    obtain ⟨z9x, H, HU1⟩ := Option.bind_eq_some_iff.mp H
    refine w_cutT (fun a w => Sl 70 [] [(0, .slice A0 x_ids.length c0), (1, .int .i64 x_clients), (2, .int .i64 x_size), (3, .int .u64 x_seed), (28, .bool z9x)] a ∧ HS W0 [isH X] w) ?_ ?_
    · skip
      refine w_region ?_
      refine r_pures [_, _, _] S0 rfl ?_
      clear S0; intro a0 S0
      by_cases z10h : x_clients < 0
      · replace H := (if_pos z10h).symm.trans H
        refine r_off S0 rfl rfl rfl (decide_eq_true z10h) ?_ rfl
        clear S0; intro a0 S0
        refine r_off S0 rfl rfl rfl (decide_eq_true z10h) ?_ rfl
        clear S0; intro a0 S0
        refine r_pick S0 rfl (decide_eq_true z10h) _ rfl rfl ?_
        clear S0; intro a0 S0
        refine r_pures [_] S0 rfl ?_
        clear S0; intro a0 S0
        refine wl_nil ?_
        refine nr_then ?_
        replace Hq := HS.pull [_] Hq
        dsimp only [List.cons_append, List.nil_append] at Hq
        replace Hq := HS.keep [_] Hq
        obtain rfl := Option.some.inj H
        exact ⟨S0.sub ⟨rfl, rfl, rfl, rfl, rfl, trivial⟩, Hq⟩
      · replace H := (if_neg z10h).symm.trans H
        refine r_on S0 rfl rfl rfl (decide_eq_false z10h) ?_
        refine r_pures [_] S0 rfl ?_
        clear S0; intro a0 S0
        refine r_on S0 rfl rfl rfl (decide_eq_false z10h) ?_
        refine r_pures [_] S0 rfl ?_
        clear S0; intro a0 S0
        refine r_pick S0 rfl (decide_eq_false z10h) _ rfl rfl ?_
        clear S0; intro a0 S0
        refine r_pures [_] S0 rfl ?_
        clear S0; intro a0 S0
        refine wl_nil ?_
        refine nr_then ?_
        replace Hq := HS.pull [_] Hq
        dsimp only [List.cons_append, List.nil_append] at Hq
        replace Hq := HS.keep [_] Hq
        obtain rfl := Option.some.inj H
        exact ⟨S0.sub ⟨rfl, rfl, rfl, rfl, rfl, trivial⟩, Hq⟩
    · clear S0; rintro a w ⟨S0, Hq⟩
      have H := HU1; clear HU1
      refine nr_then ?_
      by_cases z11h : z9x = true
      · replace H := (if_pos z11h).symm.trans H
        refine w_true S0 rfl z11h ?_
        refine w_seq ?_
        refine w_region ?_
        refine r_pures [_, _] S0 rfl ?_
        clear S0; intro a0 S0
        refine wl_nil ?_
        refine nr_then ?_
        refine w_ret ?_
        refine ret_in ?_
        refine ret_then ?_
        obtain rfl := Option.some.inj H
        replace Hq := HS.own_nil e_i64 3 Hq
        refine ret2 S0 rfl rfl rfl ?_
        replace Hq := HS.pull [_] Hq
        dsimp only [List.cons_append, List.nil_append] at Hq
        replace Hq := HS.pull [_] Hq
        dsimp only [List.cons_append, List.nil_append] at Hq
        exact ⟨none, 0, 0, rfl, Hq⟩
      · replace H := (if_neg z11h).symm.trans H
        refine w_false S0 rfl (Bool.eq_false_iff.mpr z11h) ?_
        refine w_skip ?_
        refine nr_in ?_
        refine nr_then ?_
        refine w_seq ?_
        refine w_region ?_
        refine r_pures [_] S0 rfl ?_
        clear S0; intro a0 S0
        refine r_len S0 rfl sl22 rfl ?_
        clear S0; intro a0 S0
        by_cases z13h : 0 ≤ (x_ids.length : Int)
        · replace H := (if_pos z13h).symm.trans H
          by_cases z14h : Int.toNat (x_ids.length : Int) < 17592186044416
          · replace H := (if_pos z14h).symm.trans H
            refine r_make (e := e_i64) S0 Hq rfl rfl sl22 ti3 rfl z13h z14h rfl rfl ?_
            clear S0 Hq; intro z15b a0 w S0 Hq
            refine r_pures [_] S0 rfl ?_
            clear S0; intro a0 S0
            refine wl_nil ?_
            refine nr_then ?_
            refine w_seq ?_
            refine w_seq ?_
            refine w_region ?_
            refine r_pures [_] S0 rfl ?_
            clear S0; intro a0 S0
            refine wl_nil ?_
            refine nr_then ?_
            obtain ⟨z18x, H, HU2⟩ := Option.bind_eq_some_iff.mp H
            refine w_cutT (fun a w => Sl 70 [] [(12, .slice (some ⟨z15b, 0, none⟩) (Int.toNat (x_ids.length : Int)) (Int.toNat (x_ids.length : Int)))] a ∧ HS W0 [own e_i64 3 (some ⟨z15b, 0, none⟩) (Int.toNat (x_ids.length : Int)) (Int.toNat (x_ids.length : Int)) z18x, isH X] w) ?_ ?_
            · skip
              refine w_block ?_
              refine w_loop (fun kq a w => ∃ z19x z20x, waybillref13_Counts.l0 kq x_ids x_clients x_size x_seed z19x z20x = some z18x ∧ Sl 70 [] [(0, .slice A0 x_ids.length c0), (1, .int .i64 x_clients), (2, .int .i64 x_size), (3, .int .u64 x_seed), (12, .slice (some ⟨z15b, 0, none⟩) (Int.toNat (x_ids.length : Int)) (Int.toNat (x_ids.length : Int))), (13, .int .i64 z19x)] a ∧ HS W0 [own e_i64 3 (some ⟨z15b, 0, none⟩) (Int.toNat (x_ids.length : Int)) (Int.toNat (x_ids.length : Int)) z20x, isH X] w) _ ⟨0, (List.replicate (Int.toNat (x_ids.length : Int)) e_i64.z), H, S0.sub ⟨rfl, rfl, rfl, rfl, rfl, rfl, trivial⟩, Hq⟩ ?_
              clear H Hq S0
              rintro k0 a w ⟨z19x, z20x, H, S0, Hq⟩
              cases k0 with
              | zero => simp [waybillref13_Counts.l0] at H
              | succ k0 =>
                refine ⟨k0, rfl, ?_⟩
                rw [waybillref13_Counts.l0] at H
                refine w_seq ?_
                refine w_seq ?_
                refine w_region ?_
                refine r_pures [_, _, _] S0 rfl ?_
                clear S0; intro a0 S0
                refine wl_nil ?_
                refine nr_then ?_
                by_cases z21h : z19x < x_clients
                · replace H := (if_pos z21h).symm.trans H
                  refine w_true S0 rfl (decide_eq_true z21h) ?_
                  refine w_skip ?_
                  refine nr_then ?_
                  refine w_seq ?_
                  obtain ⟨z22x, H, HU3⟩ := Option.bind_eq_some_iff.mp H
                  refine w_cutT (fun a w => Sl 70 [] [(0, .slice A0 x_ids.length c0), (1, .int .i64 x_clients), (2, .int .i64 x_size), (3, .int .u64 x_seed), (12, .slice (some ⟨z15b, 0, none⟩) (Int.toNat (x_ids.length : Int)) (Int.toNat (x_ids.length : Int))), (13, .int .i64 z19x)] a ∧ HS W0 [own e_i64 3 (some ⟨z15b, 0, none⟩) (Int.toNat (x_ids.length : Int)) (Int.toNat (x_ids.length : Int)) z22x, isH X] w) ?_ ?_
                  · skip
                    refine w_block ?_
                    refine w_seq ?_
                    refine w_region ?_
                    refine r_pures [_, _, _, _] S0 rfl ?_
                    clear S0; intro a0 S0
                    obtain ⟨Xz23, HXz23, HPz23, HBz23⟩ := call_frame [] Hq
                    dsimp only [List.cons_append, List.nil_append] at HXz23 HBz23
                    obtain ⟨⟨z24t, z25t⟩, Hc, H⟩ := Option.bind_eq_some_iff.mp H
                    dsimp only at H
                    refine r_call S0 rfl rfl goes13 rfl ?_
                    refine (waybillref13_Of.calls _ _ _ _ x_ids z19x x_size x_seed _ _ (sl_isH_rd [_] HPz23 HR0) HXz23 (z24t, z25t) Hc).mono ?_
                    rintro e w ⟨z26A, z27m, z28n, rfl, Hq'⟩
                    have Hq : HS W0 [own e_i64 3 z26A z27m z28n z24t, own e_i64 3 (some ⟨z15b, 0, none⟩) (Int.toNat (x_ids.length : Int)) (Int.toNat (x_ids.length : Int)) z20x, isH X] w := HBz23 [_] _ Hq'
                    clear HXz23 HPz23 HBz23 Hq'
                    obtain rfl := own_len [] Hq
                    refine ⟨.tuple #[.slice z26A z24t.length z28n, .int .i64 z25t], rfl, ?_⟩; clear S0; intro a0 S0
                    refine r_pures [_, _, _, _, _] S0 rfl ?_
                    clear S0; intro a0 S0
                    refine wl_nil ?_
                    refine nr_then ?_
                    refine w_seq ?_
                    refine w_region ?_
                    refine r_pures [_] S0 rfl ?_
                    clear S0; intro a0 S0
                    refine wl_nil ?_
                    refine nr_then ?_
                    obtain ⟨z30x, H, HU4⟩ := Option.bind_eq_some_iff.mp H
                    refine w_cutT (fun a w => Sl 70 [] [(0, .slice A0 x_ids.length c0), (1, .int .i64 x_clients), (2, .int .i64 x_size), (3, .int .u64 x_seed), (12, .slice (some ⟨z15b, 0, none⟩) (Int.toNat (x_ids.length : Int)) (Int.toNat (x_ids.length : Int))), (13, .int .i64 z19x)] a ∧ HS W0 [own e_i64 3 (some ⟨z15b, 0, none⟩) (Int.toNat (x_ids.length : Int)) (Int.toNat (x_ids.length : Int)) z30x, isH X] w) ?_ ?_
                    · skip
                      refine w_block ?_
                      refine w_loop (fun kq a w => ∃ z31x z32x, waybillref13_Counts.l1 kq x_ids z24t z31x z32x = some z30x ∧ Sl 70 [] [(0, .slice A0 x_ids.length c0), (1, .int .i64 x_clients), (2, .int .i64 x_size), (3, .int .u64 x_seed), (12, .slice (some ⟨z15b, 0, none⟩) (Int.toNat (x_ids.length : Int)) (Int.toNat (x_ids.length : Int))), (13, .int .i64 z19x), (14, .slice z26A z24t.length z28n), (16, .int .i64 z31x)] a ∧ HS W0 [own e_i64 3 z26A z24t.length z28n z24t, own e_i64 3 (some ⟨z15b, 0, none⟩) (Int.toNat (x_ids.length : Int)) (Int.toNat (x_ids.length : Int)) z32x, isH X] w) _ ⟨0, z20x, H, S0.sub ⟨rfl, rfl, rfl, rfl, rfl, rfl, rfl, rfl, trivial⟩, Hq⟩ ?_
                      clear H Hq S0
                      rintro k1 a w ⟨z31x, z32x, H, S0, Hq⟩
                      cases k1 with
                      | zero => simp [waybillref13_Counts.l1] at H
                      | succ k1 =>
                        refine ⟨k1, rfl, ?_⟩
                        rw [waybillref13_Counts.l1] at H
                        refine w_seq ?_
                        refine w_seq ?_
                        refine w_region ?_
                        refine r_pures [_, _] S0 rfl ?_
                        clear S0; intro a0 S0
                        refine r_len S0 rfl sl22 rfl ?_
                        clear S0; intro a0 S0
                        refine r_pures [_] S0 rfl ?_
                        clear S0; intro a0 S0
                        refine wl_nil ?_
                        refine nr_then ?_
                        by_cases z33h : z31x < (x_ids.length : Int)
                        · replace H := (if_pos z33h).symm.trans H
                          refine w_true S0 rfl (decide_eq_true z33h) ?_
                          refine w_skip ?_
                          refine nr_then ?_
                          refine w_seq ?_
                          refine w_block ?_
                          refine w_seq ?_
                          refine w_region ?_
                          refine r_pures [_, _, _] S0 rfl ?_
                          clear S0; intro a0 S0
                          by_cases z34h : 0 ≤ z31x
                          · replace H := (if_pos z34h).symm.trans H
                            obtain ⟨z35b, z36o, rfl⟩ := (isH_rd [_, _] Hq HR0).at (by omega)
                            refine r_index S0 rfl rfl sl22 ti3 z34h z33h rfl ?_
                            clear S0; intro a0 S0
                            refine r_elS S0 (isH_rd [_, _] Hq HR0) z34h z33h rfl ti3 _ rfl rfl ?_
                            clear S0; intro a0 S0
                            obtain ⟨Xz37, HXz37, HPz37, HBz37⟩ := call_frame [] Hq
                            dsimp only [List.cons_append, List.nil_append] at HXz37 HBz37
                            obtain ⟨z38t, Hc, H⟩ := Option.bind_eq_some_iff.mp H
                            refine r_call S0 rfl rfl goes26 rfl ?_
                            refine (waybillref13_has.calls _ _ _ _ z24t (rd e_i64 x_ids z31x) _ _ (sl_own_rd [] HPz37) HXz37 z38t Hc).mono ?_
                            rintro e w ⟨rfl, Hq'⟩
                            have Hq : HS W0 [own e_i64 3 z26A z24t.length z28n z24t, own e_i64 3 (some ⟨z15b, 0, none⟩) (Int.toNat (x_ids.length : Int)) (Int.toNat (x_ids.length : Int)) z32x, isH X] w := HBz37 [] _ Hq'
                            clear HXz37 HPz37 HBz37 Hq'
                            refine ⟨.bool z38t, rfl, ?_⟩; clear S0; intro a0 S0
                            refine wl_nil ?_
                            refine nr_then ?_
                            obtain ⟨z39x, H, HU5⟩ := Option.bind_eq_some_iff.mp H
                            refine w_cutT (fun a w => Sl 70 [] [(0, .slice (some ⟨z35b, z36o, none⟩) x_ids.length c0), (1, .int .i64 x_clients), (2, .int .i64 x_size), (3, .int .u64 x_seed), (12, .slice (some ⟨z15b, 0, none⟩) (Int.toNat (x_ids.length : Int)) (Int.toNat (x_ids.length : Int))), (13, .int .i64 z19x), (14, .slice z26A z24t.length z28n), (16, .int .i64 z31x)] a ∧ HS W0 [own e_i64 3 z26A z24t.length z28n z24t, own e_i64 3 (some ⟨z15b, 0, none⟩) (Int.toNat (x_ids.length : Int)) (Int.toNat (x_ids.length : Int)) z39x, isH X] w) ?_ ?_
                            · skip
                              by_cases z40h : z38t = true
                              · replace H := (if_pos z40h).symm.trans H
                                refine w_true S0 rfl z40h ?_
                                refine w_region ?_
                                refine r_pures [_, _] S0 rfl ?_
                                clear S0; intro a0 S0
                                by_cases z41h : z31x < (Int.toNat (x_ids.length : Int) : Int)
                                · replace H := (if_pos z41h).symm.trans H
                                  refine r_index S0 rfl rfl sl22 ti3 z34h z41h rfl ?_
                                  clear S0; intro a0 S0
                                  refine r_elS S0 (own_rd [_] Hq) z34h z41h rfl ti3 _ rfl rfl ?_
                                  clear S0; intro a0 S0
                                  refine r_pures [_] S0 rfl ?_
                                  clear S0; intro a0 S0
                                  refine r_index S0 rfl rfl sl22 ti3 z34h z41h rfl ?_
                                  clear S0; intro a0 S0
                                  refine r_elst [_] S0 Hq z34h z41h rfl rfl ti3 [.int .i64 (IntKind.i64.wrap ((rd e_i64 z32x z31x) + 1))] rfl rfl rfl rfl (IntKind.i64.wrap ((rd e_i64 z32x z31x) + 1)) rfl ?_
                                  clear Hq; intro w Hq; dsimp only [List.cons_append, List.nil_append] at Hq
                                  refine wl_nil ?_
                                  refine nr_then ?_
                                  obtain rfl := Option.some.inj H
                                  exact ⟨S0.sub ⟨rfl, rfl, rfl, rfl, rfl, rfl, rfl, rfl, trivial⟩, Hq⟩
                                · replace H := (if_neg z41h).symm.trans H
                                  exact nomatch H
                              · replace H := (if_neg z40h).symm.trans H
                                refine w_false S0 rfl (Bool.eq_false_iff.mpr z40h) ?_
                                refine w_skip ?_
                                refine nr_then ?_
                                obtain rfl := Option.some.inj H
                                exact ⟨S0.sub ⟨rfl, rfl, rfl, rfl, rfl, rfl, rfl, rfl, trivial⟩, Hq⟩
                            · clear S0; rintro a w ⟨S0, Hq⟩
                              have H := HU5; clear HU5
                              refine nr_in ?_
                              refine nr_then ?_
                              refine w_region ?_
                              refine r_pures [_, _, _] S0 rfl ?_
                              clear S0; intro a0 S0
                              refine wl_nil ?_
                              refine nr_then ?_
                              exact ⟨(IntKind.i64.wrap (z31x + 1)), z39x, H, S0.sub ⟨rfl, rfl, rfl, rfl, rfl, rfl, rfl, rfl, trivial⟩, Hq⟩
                          · replace H := (if_neg z34h).symm.trans H
                            exact nomatch H
                        · replace H := (if_neg z33h).symm.trans H
                          refine w_false S0 rfl (decide_eq_false z33h) ?_
                          refine w_exit ?_
                          refine ex_then ?_
                          refine ex_then ?_
                          refine ex_in ?_
                          refine nr_then ?_
                          replace Hq := HS.pull [_, _] Hq
                          dsimp only [List.cons_append, List.nil_append] at Hq
                          replace Hq := HS.pull [_, _] Hq
                          dsimp only [List.cons_append, List.nil_append] at Hq
                          replace Hq := HS.keep [_, _] Hq
                          obtain rfl := Option.some.inj H
                          exact ⟨S0.sub ⟨rfl, rfl, rfl, rfl, rfl, rfl, trivial⟩, Hq⟩
                    · clear S0; rintro a w ⟨S0, Hq⟩
                      have H := HU4; clear HU4
                      refine nr_in ?_
                      refine nr_then ?_
                      obtain rfl := Option.some.inj H
                      exact ⟨S0.sub ⟨rfl, rfl, rfl, rfl, rfl, rfl, trivial⟩, Hq⟩
                  · clear S0; rintro a w ⟨S0, Hq⟩
                    have H := HU3; clear HU3
                    refine nr_then ?_
                    refine w_region ?_
                    refine r_pures [_, _, _] S0 rfl ?_
                    clear S0; intro a0 S0
                    refine wl_nil ?_
                    refine nr_then ?_
                    exact ⟨(IntKind.i64.wrap (z19x + 1)), z22x, H, S0.sub ⟨rfl, rfl, rfl, rfl, rfl, rfl, trivial⟩, Hq⟩
                · replace H := (if_neg z21h).symm.trans H
                  refine w_false S0 rfl (decide_eq_false z21h) ?_
                  refine w_exit ?_
                  refine ex_then ?_
                  refine ex_then ?_
                  refine ex_in ?_
                  refine nr_then ?_
                  obtain rfl := Option.some.inj H
                  exact ⟨S0.sub ⟨rfl, trivial⟩, Hq⟩
            · clear S0; rintro a w ⟨S0, Hq⟩
              have H := HU2; clear HU2
              refine nr_then ?_
              refine w_seq ?_
              refine w_region ?_
              refine r_pures [_, _, _] S0 rfl ?_
              clear S0; intro a0 S0
              refine wl_nil ?_
              refine nr_then ?_
              refine w_ret ?_
              obtain rfl := Option.some.inj H
              refine ret2 S0 rfl rfl rfl ?_
              replace Hq := HS.pull [_] Hq
              dsimp only [List.cons_append, List.nil_append] at Hq
              replace Hq := HS.pull [_] Hq
              dsimp only [List.cons_append, List.nil_append] at Hq
              exact ⟨(some ⟨z15b, 0, none⟩), (Int.toNat (x_ids.length : Int)), (Int.toNat (x_ids.length : Int)), rfl, Hq⟩
          · replace H := (if_neg z14h).symm.trans H
            exact nomatch H
        · replace H := (if_neg z13h).symm.trans H
          exact nomatch H
  · replace H := (if_neg z8h).symm.trans H
    refine w_true S0 rfl (congrArg (!·) (decide_eq_false z8h)) ?_
    refine w_seq ?_
    refine w_region ?_
    refine r_pures [_, _, _] S0 rfl ?_
    clear S0; intro a0 S0
    refine wl_nil ?_
    refine nr_then ?_
    refine w_ret ?_
    refine ret_in ?_
    refine ret_then ?_
    obtain rfl := Option.some.inj H
    replace Hq := HS.own_nil e_i64 3 Hq
    refine ret2 S0 rfl rfl rfl ?_
    replace Hq := HS.pull [_, _] Hq
    dsimp only [List.cons_append, List.nil_append] at Hq
    replace Hq := HS.pull [_] Hq
    dsimp only [List.cons_append, List.nil_append] at Hq
    replace Hq := HS.keep [_, _] Hq
    exact ⟨none, 0, 0, rfl, Hq⟩

end Go.Proofs.Ythlogangnppghaa.M

