/- (waybill/subset.dealer).hand: a plain function, and that the machine's call comes to it: printed by a program of the session's own. -/
import Derived.Test.YthlogangnppghaaK
import Derived.Test.YthlogangnppghaaF39
import Derived.Test.YthlogangnppghaaF40
import Derived.Test.YthlogangnppghaaG
set_option linter.unusedVariables false
set_option linter.unusedSimpArgs false
namespace Go.Proofs.Ythlogangnppghaa.M
open Go Go.Proofs.Ythlogangnppghaa.Sl
/-! ### (waybill/subset.dealer).hand: function 28 -/
def subset_dealer_hand.l0 : Nat → subset_dealer → subset_place → (List Int) → Int → (List Int) → Option ((List Int))
  | 0, _, _, _, _, _ => none
  | k + 1, x_d, x_p, z29t, z47x, z48x => if z47x < (((z29t.take (Int.toNat (IntKind.i64.wrap ((IntKind.i64.wrap (x_p.at_ + 1)) * x_d.size)))).drop (Int.toNat (IntKind.i64.wrap (x_p.at_ * x_d.size)))).length : Int) then (if 0 ≤ z47x then (if 0 ≤ (rd e_i64 ((z29t.take (Int.toNat (IntKind.i64.wrap ((IntKind.i64.wrap (x_p.at_ + 1)) * x_d.size)))).drop (Int.toNat (IntKind.i64.wrap (x_p.at_ * x_d.size)))) z47x) then (if (rd e_i64 ((z29t.take (Int.toNat (IntKind.i64.wrap ((IntKind.i64.wrap (x_p.at_ + 1)) * x_d.size)))).drop (Int.toNat (IntKind.i64.wrap (x_p.at_ * x_d.size)))) z47x) < (x_d.ids.length : Int) then (if z48x.length + ([(rd e_i64 x_d.ids (rd e_i64 ((z29t.take (Int.toNat (IntKind.i64.wrap ((IntKind.i64.wrap (x_p.at_ + 1)) * x_d.size)))).drop (Int.toNat (IntKind.i64.wrap (x_p.at_ * x_d.size)))) z47x))] : List Int).length < 17592186044416 then (subset_dealer_hand.l0 k x_d x_p z29t (IntKind.i64.wrap (z47x + 1)) (z48x ++ ([(rd e_i64 x_d.ids (rd e_i64 ((z29t.take (Int.toNat (IntKind.i64.wrap ((IntKind.i64.wrap (x_p.at_ + 1)) * x_d.size)))).drop (Int.toNat (IntKind.i64.wrap (x_p.at_ * x_d.size)))) z47x))] : List Int))) else (none)) else (none)) else (none)) else (none)) else (some z48x)
def subset_dealer_hand.f (k : Nat) (x_d : subset_dealer) (x_p : subset_place) : Option (List Int) := if (x_d.ids.length : Int) ≤ x_d.size then ((slices_Clone_int_int.f x_d.ids).bind fun z7t => (some z7t)) else ((hash_Ints.f k x_d.seed ([x_p.round] : List Int)).bind fun z25t => ((draw_Shuffle.f k z25t (x_d.ids.length : Int)).bind fun (z28t, z29t, z30t) => (if 0 ≤ (IntKind.i64.wrap (x_p.at_ * x_d.size)) then (if (IntKind.i64.wrap (x_p.at_ * x_d.size)) ≤ (IntKind.i64.wrap ((IntKind.i64.wrap (x_p.at_ + 1)) * x_d.size)) then (if (IntKind.i64.wrap ((IntKind.i64.wrap (x_p.at_ + 1)) * x_d.size)) ≤ (z29t.length : Int) then ((((subset_dealer_hand.l0 k x_d x_p z29t 0 ([] : List Int))) : Option ((List Int))).bind fun z43x => ((slices_Sort_int_int.f z43x).bind fun z67t => (some z67t))) else (none)) else (none)) else (none))))
set_option maxRecDepth 100000 in
set_option maxHeartbeats 4000000 in
theorem subset_dealer_hand.calls (k : Nat) (A0x0 : Option Addr) (n0x0 c0x0 : Nat) (x_d : subset_dealer) (x_p : subset_place) (W0 : World) (X : Heap) (HR0x0 : Rd e_i64 X A0x0 n0x0 c0x0 x_d.ids) (Hq : HS W0 [isH X] W0) (r : List Int) (H : subset_dealer_hand.f k x_d x_p = some r) :
    Calls Try.prog 28 #[.agg #[.slice A0x0 n0x0 c0x0, .int .i64 x_d.size, .int .u64 x_d.seed], .agg #[.int .i64 x_p.round, .int .i64 x_p.at_]] W0 (fun e w => ∃ Ar0 nr0 cr0, e = .returned (.slice Ar0 nr0 cr0) ∧ HS W0 [own e_i64 3 Ar0 nr0 cr0 r, isH X] w) := by
  obtain rfl := HR0x0.1
  rw [subset_dealer_hand.f] at H
  refine calls_in Try.func28 rfl rfl ?_
  intro a0 S0
  refine w_seq ?_
  refine w_region ?_
  refine r_box (vs := [.slice A0x0 x_d.ids.length c0x0, .int .i64 x_d.size, .int .u64 x_d.seed]) S0 Hq rfl rfl rfl ?_
  clear S0 Hq; intro z1b a0 w S0 Hq
  refine r_box (vs := [.int .i64 x_p.round, .int .i64 x_p.at_]) S0 Hq rfl rfl rfl ?_
  clear S0 Hq; intro z3b a0 w S0 Hq
  refine r_pures [_] S0 rfl ?_
  clear S0; intro a0 S0
  refine wl_nil ?_
  refine nr_then ?_
  refine w_seq ?_
  refine w_seq ?_
  refine w_region ?_
  refine r_fieldAddr S0 rfl fo45x0 (0) rfl rfl ?_
  clear S0; intro a0 S0
  refine r_ldS [_] S0 Hq rfl ti22 _ rfl rfl ?_
  clear S0; intro a0 S0
  refine r_len S0 rfl sl22 rfl ?_
  clear S0; intro a0 S0
  refine r_fieldAddr S0 rfl fo45x1 (1) rfl rfl ?_
  clear S0; intro a0 S0
  refine r_ldS [_] S0 Hq rfl ti3 _ rfl rfl ?_
  clear S0; intro a0 S0
  refine r_pures [_] S0 rfl ?_
  clear S0; intro a0 S0
  refine wl_nil ?_
  refine nr_then ?_
  by_cases z5h : (x_d.ids.length : Int) ≤ x_d.size
  · replace H := (if_pos z5h).symm.trans H
    refine w_true S0 rfl (decide_eq_true z5h) ?_
    refine w_seq ?_
    refine w_region ?_
    refine r_fieldAddr S0 rfl fo45x0 (0) rfl rfl ?_
    clear S0; intro a0 S0
    refine r_ldS [_] S0 Hq rfl ti22 _ rfl rfl ?_
    clear S0; intro a0 S0
    obtain ⟨Xz6, HXz6, HPz6, HBz6⟩ := call_frame [] Hq
    dsimp only [List.cons_append, List.nil_append] at HXz6 HBz6
    obtain ⟨z7t, Hc, H⟩ := Option.bind_eq_some_iff.mp H
    refine r_call S0 rfl rfl goes32 rfl ?_
    refine (slices_Clone_int_int.calls _ _ _ x_d.ids _ _ (sl_isH_rd [_, _] HPz6 HR0x0) HXz6 z7t Hc).mono ?_
    rintro e w ⟨z8A, z9m, z10n, rfl, Hq'⟩
    have Hq : HS W0 [own e_i64 3 z8A z9m z10n z7t, bx z3b 57 [.int .i64 x_p.round, .int .i64 x_p.at_], bx z1b 45 [.slice A0x0 x_d.ids.length c0x0, .int .i64 x_d.size, .int .u64 x_d.seed], isH X] w := HBz6 [_] _ Hq'
    clear HXz6 HPz6 HBz6 Hq'
    obtain rfl := own_len [] Hq
    refine ⟨.slice z8A z7t.length z10n, rfl, ?_⟩; clear S0; intro a0 S0
    refine r_pures [_] S0 rfl ?_
    clear S0; intro a0 S0
    refine wl_nil ?_
    refine nr_then ?_
    refine w_ret ?_
    refine ret_then ?_
    obtain rfl := Option.some.inj H
    refine ret1 S0 rfl rfl ?_
    replace Hq := HS.pull [_, _, _] Hq
    dsimp only [List.cons_append, List.nil_append] at Hq
    replace Hq := HS.pull [_] Hq
    dsimp only [List.cons_append, List.nil_append] at Hq
    replace Hq := HS.keep [_, _] Hq
    exact ⟨z8A, z7t.length, z10n, rfl, Hq⟩
  · replace H := (if_neg z5h).symm.trans H
    refine w_false S0 rfl (decide_eq_false z5h) ?_
    refine w_skip ?_
    refine nr_then ?_
    refine w_seq ?_
    refine w_draw TryM.mixed [.pu 0, .pu 2, .pu 6, .rd 1, .rd 3, .rd 7, .pu 8, .ef 4, .ef 5, .ef 9, .pu 10, .pu 11, .pu 12, .pu 13, .pu 14, .pu 15, .pu 16] (by kernel_rfl) rfl ?_
    replace Hq := Hq.drew
    refine st_pu S0 rfl (g_none rfl) rfl rfl (fun _ => y_fieldAddr S0 rfl fo45x2 (2) rfl) ?_
    intro az12q Sz12q
    refine st_pu Sz12q rfl (g_none rfl) rfl rfl (fun _ => y_fieldAddr Sz12q rfl fo57x0 (0) rfl) ?_
    intro az13q Sz13q
    refine st_pu Sz13q rfl (g_none rfl) rfl rfl (fun _ => y_fieldAddr Sz13q rfl fo45x0 (0) rfl) ?_
    intro az14q Sz14q
    refine st_rd Sz14q rfl (g_none rfl) rfl rfl (y_ldS [_] Sz14q Hq rfl ti23 _ rfl) ?_
    intro az15q Sz15q
    refine st_rd Sz15q rfl (g_none rfl) rfl rfl (y_ldS [] Sz15q Hq rfl ti3 _ rfl) ?_
    intro az16q Sz16q
    refine st_rd Sz16q rfl (g_none rfl) rfl rfl (y_ldS [_] Sz16q Hq rfl ti22 _ rfl) ?_
    intro az17q Sz17q
    refine st_pu Sz17q rfl (g_none rfl) rfl rfl (fun _ => y_len Sz17q rfl sl22) ?_
    intro az18q Sz18q
    refine st_ef rfl ?_
    have Sz19q := Sz18q
    refine r_lit (e := e_i64) (l := ([x_p.round] : List Int)) (m := 1) (vs := [.int .i64 x_p.round]) Sz19q Hq sl22 ti3 rfl rfl rfl rfl rfl rfl ?_
    clear Sz19q Hq; intro z20b az18q w Sz19q Hq
    refine wl_nil ?_
    refine nr_then ?_
    refine ⟨⟨⟨⟨trivial, y_ldS [_, _] Sz14q Hq rfl ti23 _ rfl⟩, y_ldS [_] Sz15q Hq rfl ti3 _ rfl⟩, y_ldS [_, _] Sz16q Hq rfl ti22 _ rfl⟩, ?_⟩
    refine st_ef rfl ?_
    have Sz23q := Sz19q
    obtain ⟨Xz24, HXz24, HPz24, HBz24⟩ := call_frame [] Hq
    dsimp only [List.cons_append, List.nil_append] at HXz24 HBz24
    obtain ⟨z25t, Hc, H⟩ := Option.bind_eq_some_iff.mp H
    refine r_call Sz23q rfl rfl goes40 rfl ?_
    refine (hash_Ints.calls _ x_d.seed _ _ _ ([x_p.round] : List Int) _ _ (sl_own_rd [] HPz24) HXz24 z25t Hc).mono ?_
    rintro e w ⟨rfl, Hq'⟩
    have Hq : HS W0 [own e_i64 3 (some ⟨z20b, 0, none⟩) 1 1 ([x_p.round] : List Int), bx z3b 57 [.int .i64 x_p.round, .int .i64 x_p.at_], bx z1b 45 [.slice A0x0 x_d.ids.length c0x0, .int .i64 x_d.size, .int .u64 x_d.seed], isH X] w := HBz24 [] _ Hq'
    clear HXz24 HPz24 HBz24 Hq'
    refine ⟨.int .u64 z25t, rfl, ?_⟩; clear Sz23q; intro az18q Sz23q
    refine wl_nil ?_
    refine nr_then ?_
    refine ⟨⟨⟨⟨trivial, y_ldS [_, _] Sz14q Hq rfl ti23 _ rfl⟩, y_ldS [_] Sz15q Hq rfl ti3 _ rfl⟩, y_ldS [_, _] Sz16q Hq rfl ti22 _ rfl⟩, ?_⟩
    refine st_ef rfl ?_
    have Sz26q := Sz23q
    obtain ⟨Xz27, HXz27, HPz27, HBz27⟩ := call_frame [] Hq
    dsimp only [List.cons_append, List.nil_append] at HXz27 HBz27
    obtain ⟨⟨z28t, z29t, z30t⟩, Hc, H⟩ := Option.bind_eq_some_iff.mp H
    dsimp only at H
    refine r_call Sz26q rfl rfl goes39 rfl ?_
    refine (draw_Shuffle.calls _ z25t (x_d.ids.length : Int) _ _  HXz27 (z28t, z29t, z30t) Hc).mono ?_
    rintro e w ⟨z31A, z32m, z33n, rfl, Hq'⟩
    have Hq : HS W0 [own e_i64 3 z31A z32m z33n z29t, own e_i64 3 (some ⟨z20b, 0, none⟩) 1 1 ([x_p.round] : List Int), bx z3b 57 [.int .i64 x_p.round, .int .i64 x_p.at_], bx z1b 45 [.slice A0x0 x_d.ids.length c0x0, .int .i64 x_d.size, .int .u64 x_d.seed], isH X] w := HBz27 [_] _ Hq'
    clear HXz27 HPz27 HBz27 Hq'
    obtain rfl := own_len [] Hq
    refine ⟨.tuple #[.int .u64 z28t, .slice z31A z29t.length z33n, .int .i64 z30t], rfl, ?_⟩; clear Sz26q; intro az18q Sz26q
    refine wl_nil ?_
    refine nr_then ?_
    refine ⟨⟨⟨⟨trivial, y_ldS [_, _, _] Sz14q Hq rfl ti23 _ rfl⟩, y_ldS [_, _] Sz15q Hq rfl ti3 _ rfl⟩, y_ldS [_, _, _] Sz16q Hq rfl ti22 _ rfl⟩, ?_⟩
    refine st_pures [10, 11, 12, 13, 14, 15, 16] Sz26q rfl ?_
    intro az35q Sz35q
    refine st_nil ?_
    replace S0 := Sz35q
    refine nr_then ?_
    refine w_seq ?_
    refine w_region ?_
    refine r_pures [_] S0 rfl ?_
    clear S0; intro a0 S0
    refine wl_nil ?_
    refine nr_then ?_
    refine w_seq ?_
    refine w_seq ?_
    refine w_region ?_
    refine r_pures [_] S0 rfl ?_
    clear S0; intro a0 S0
    refine r_fieldAddr S0 rfl fo57x1 (1) rfl rfl ?_
    clear S0; intro a0 S0
    refine r_ldS [_, _] S0 Hq rfl ti3 _ rfl rfl ?_
    clear S0; intro a0 S0
    refine r_fieldAddr S0 rfl fo45x1 (1) rfl rfl ?_
    clear S0; intro a0 S0
    refine r_ldS [_, _, _] S0 Hq rfl ti3 _ rfl rfl ?_
    clear S0; intro a0 S0
    refine r_pures [_] S0 rfl ?_
    clear S0; intro a0 S0
    refine r_fieldAddr S0 rfl fo57x1 (1) rfl rfl ?_
    clear S0; intro a0 S0
    refine r_ldS [_, _] S0 Hq rfl ti3 _ rfl rfl ?_
    clear S0; intro a0 S0
    refine r_pures [_] S0 rfl ?_
    clear S0; intro a0 S0
    refine r_fieldAddr S0 rfl fo45x1 (1) rfl rfl ?_
    clear S0; intro a0 S0
    refine r_ldS [_, _, _] S0 Hq rfl ti3 _ rfl rfl ?_
    clear S0; intro a0 S0
    refine r_pures [_] S0 rfl ?_
    clear S0; intro a0 S0
    by_cases z36h : 0 ≤ (IntKind.i64.wrap (x_p.at_ * x_d.size))
    · replace H := (if_pos z36h).symm.trans H
      by_cases z37h : (IntKind.i64.wrap (x_p.at_ * x_d.size)) ≤ (IntKind.i64.wrap ((IntKind.i64.wrap (x_p.at_ + 1)) * x_d.size))
      · replace H := (if_pos z37h).symm.trans H
        by_cases z38h : (IntKind.i64.wrap ((IntKind.i64.wrap (x_p.at_ + 1)) * x_d.size)) ≤ (z29t.length : Int)
        · replace H := (if_pos z38h).symm.trans H
          refine r_cutR S0 rfl sl22 ti3 (own_rd [] Hq) (IntKind.i64.wrap (x_p.at_ * x_d.size)) (IntKind.i64.wrap ((IntKind.i64.wrap (x_p.at_ + 1)) * x_d.size)) rfl rfl z36h z37h z38h rfl ((z29t.take (Int.toNat (IntKind.i64.wrap ((IntKind.i64.wrap (x_p.at_ + 1)) * x_d.size)))).drop (Int.toNat (IntKind.i64.wrap (x_p.at_ * x_d.size)))) rfl ?_
          clear S0; intro z39A z40n a0 z41hC S0
          refine r_len S0 rfl sl22 rfl ?_
          clear S0; intro a0 S0
          refine r_pures [_] S0 rfl ?_
          clear S0; intro a0 S0
          refine wl_nil ?_
          refine nr_then ?_
          replace Hq := HS.own_nil e_i64 3 Hq
          obtain ⟨z43x, H, HU1⟩ := Option.bind_eq_some_iff.mp H
          refine w_cutT (fun a w => ∃ z44A z45m z46n, Sl 64 [] [(8, .slice z44A z45m z46n)] a ∧ HS W0 [own e_i64 3 z44A z45m z46n z43x, isH X] w) ?_ ?_
          · skip
            refine w_block ?_
            replace Hq := HS.pull [_, _, _, _, _] Hq
            dsimp only [List.cons_append, List.nil_append] at Hq
            replace Hq := HS.pull [_, _, _, _, _] Hq
            dsimp only [List.cons_append, List.nil_append] at Hq
            replace Hq := HS.pull [_, _, _] Hq
            dsimp only [List.cons_append, List.nil_append] at Hq
            replace Hq := HS.pull [_, _, _] Hq
            dsimp only [List.cons_append, List.nil_append] at Hq
            replace Hq := HS.keep [_, _, _, _] Hq
            refine w_loop (fun kq a w => ∃ z47x z48x z49A z50m z51n, subset_dealer_hand.l0 kq x_d x_p z29t z47x z48x = some z43x ∧ Sl 64 [] [(2, .pointer (some ⟨z1b, 0, none⟩)), (8, .slice z49A z50m z51n), (46, .slice z39A (((z29t.take (Int.toNat (IntKind.i64.wrap ((IntKind.i64.wrap (x_p.at_ + 1)) * x_d.size)))).drop (Int.toNat (IntKind.i64.wrap (x_p.at_ * x_d.size)))).length) z40n), (47, .int .i64 (((z29t.take (Int.toNat (IntKind.i64.wrap ((IntKind.i64.wrap (x_p.at_ + 1)) * x_d.size)))).drop (Int.toNat (IntKind.i64.wrap (x_p.at_ * x_d.size)))).length : Int)), (48, .int .i64 z47x)] a ∧ HS W0 [own e_i64 3 z49A z50m z51n z48x, own e_i64 3 z31A z29t.length z33n z29t, bx z1b 45 [.slice A0x0 x_d.ids.length c0x0, .int .i64 x_d.size, .int .u64 x_d.seed], isH X] w) _ ⟨0, ([] : List Int), none, 0, 0, H, S0.sub ⟨rfl, rfl, rfl, rfl, rfl, trivial⟩, Hq⟩ ?_
            clear H Hq S0
            rintro k0 a w ⟨z47x, z48x, z49A, z50m, z51n, H, S0, Hq⟩
            cases k0 with
            | zero => simp [subset_dealer_hand.l0] at H
            | succ k0 =>
              refine ⟨k0, rfl, ?_⟩
              rw [subset_dealer_hand.l0] at H
              obtain rfl := own_len [] Hq
              refine w_seq ?_
              refine w_region ?_
              refine r_pures [_] S0 rfl ?_
              clear S0; intro a0 S0
              refine wl_nil ?_
              refine nr_then ?_
              refine w_seq ?_
              by_cases z52h : z47x < (((z29t.take (Int.toNat (IntKind.i64.wrap ((IntKind.i64.wrap (x_p.at_ + 1)) * x_d.size)))).drop (Int.toNat (IntKind.i64.wrap (x_p.at_ * x_d.size)))).length : Int)
              · replace H := (if_pos z52h).symm.trans H
                refine w_true S0 rfl (decide_eq_true z52h) ?_
                refine w_skip ?_
                refine nr_then ?_
                refine w_seq ?_
                refine w_block ?_
                refine w_seq ?_
                refine w_region ?_
                by_cases z53h : 0 ≤ z47x
                · replace H := (if_pos z53h).symm.trans H
                  obtain ⟨z54b, z55o, rfl⟩ := (z41hC _ (own_rd [_] Hq)).at (by omega)
                  refine r_index S0 rfl rfl sl22 ti3 z53h z52h rfl ?_
                  clear S0; intro a0 S0
                  refine r_elS S0 (z41hC _ (own_rd [_] Hq)) z53h z52h rfl ti3 _ rfl rfl ?_
                  clear S0; intro a0 S0
                  refine r_pures [_] S0 rfl ?_
                  clear S0; intro a0 S0
                  refine wl_nil ?_
                  refine nr_then ?_
                  refine w_region ?_
                  refine r_pures [_] S0 rfl ?_
                  clear S0; intro a0 S0
                  refine r_fieldAddr S0 rfl fo45x0 (0) rfl rfl ?_
                  clear S0; intro a0 S0
                  refine r_ldS [_, _] S0 Hq rfl ti22 _ rfl rfl ?_
                  clear S0; intro a0 S0
                  refine r_pures [_] S0 rfl ?_
                  clear S0; intro a0 S0
                  by_cases z56h : 0 ≤ (rd e_i64 ((z29t.take (Int.toNat (IntKind.i64.wrap ((IntKind.i64.wrap (x_p.at_ + 1)) * x_d.size)))).drop (Int.toNat (IntKind.i64.wrap (x_p.at_ * x_d.size)))) z47x)
                  · replace H := (if_pos z56h).symm.trans H
                    by_cases z57h : (rd e_i64 ((z29t.take (Int.toNat (IntKind.i64.wrap ((IntKind.i64.wrap (x_p.at_ + 1)) * x_d.size)))).drop (Int.toNat (IntKind.i64.wrap (x_p.at_ * x_d.size)))) z47x) < (x_d.ids.length : Int)
                    · replace H := (if_pos z57h).symm.trans H
                      obtain ⟨z58b, z59o, rfl⟩ := (isH_rd [_, _, _] Hq HR0x0).at (by omega)
                      refine r_index S0 rfl rfl sl22 ti3 z56h z57h rfl ?_
                      clear S0; intro a0 S0
                      refine r_elS S0 (isH_rd [_, _, _] Hq HR0x0) z56h z57h rfl ti3 _ rfl rfl ?_
                      clear S0; intro a0 S0
                      refine r_lit (e := e_i64) (l := ([(rd e_i64 x_d.ids (rd e_i64 ((z29t.take (Int.toNat (IntKind.i64.wrap ((IntKind.i64.wrap (x_p.at_ + 1)) * x_d.size)))).drop (Int.toNat (IntKind.i64.wrap (x_p.at_ * x_d.size)))) z47x))] : List Int)) (m := 1) (vs := [.int .i64 (rd e_i64 x_d.ids (rd e_i64 ((z29t.take (Int.toNat (IntKind.i64.wrap ((IntKind.i64.wrap (x_p.at_ + 1)) * x_d.size)))).drop (Int.toNat (IntKind.i64.wrap (x_p.at_ * x_d.size)))) z47x))]) S0 Hq sl22 ti3 rfl rfl rfl rfl rfl rfl ?_
                      clear S0 Hq; intro z60b a0 w S0 Hq
                      by_cases z63h : z48x.length + ([(rd e_i64 x_d.ids (rd e_i64 ((z29t.take (Int.toNat (IntKind.i64.wrap ((IntKind.i64.wrap (x_p.at_ + 1)) * x_d.size)))).drop (Int.toNat (IntKind.i64.wrap (x_p.at_ * x_d.size)))) z47x))] : List Int).length < 17592186044416
                      · replace H := (if_pos z63h).symm.trans H
                        refine r_app [_] S0 Hq (own_rd [] Hq) rfl rfl sl22 ti3 rfl z63h rfl rfl ?_
                        clear S0 Hq; intro z64A z65n a0 w S0 Hq; dsimp only [List.cons_append, List.nil_append] at Hq
                        refine r_pures [_] S0 rfl ?_
                        clear S0; intro a0 S0
                        refine wl_nil ?_
                        refine nr_in ?_
                        refine nr_then ?_
                        refine w_region ?_
                        refine r_pures [_, _] S0 rfl ?_
                        clear S0; intro a0 S0
                        refine wl_nil ?_
                        refine nr_then ?_
                        replace Hq := HS.pull [_, _, _, _] Hq
                        dsimp only [List.cons_append, List.nil_append] at Hq
                        replace Hq := HS.pull [_, _, _, _] Hq
                        dsimp only [List.cons_append, List.nil_append] at Hq
                        replace Hq := HS.pull [_, _, _, _] Hq
                        dsimp only [List.cons_append, List.nil_append] at Hq
                        replace Hq := HS.pull [_, _, _, _] Hq
                        dsimp only [List.cons_append, List.nil_append] at Hq
                        replace Hq := HS.keep [_, _, _, _] Hq
                        exact ⟨(IntKind.i64.wrap (z47x + 1)), (z48x ++ ([(rd e_i64 x_d.ids (rd e_i64 ((z29t.take (Int.toNat (IntKind.i64.wrap ((IntKind.i64.wrap (x_p.at_ + 1)) * x_d.size)))).drop (Int.toNat (IntKind.i64.wrap (x_p.at_ * x_d.size)))) z47x))] : List Int)), z64A, ((z48x ++ ([(rd e_i64 x_d.ids (rd e_i64 ((z29t.take (Int.toNat (IntKind.i64.wrap ((IntKind.i64.wrap (x_p.at_ + 1)) * x_d.size)))).drop (Int.toNat (IntKind.i64.wrap (x_p.at_ * x_d.size)))) z47x))] : List Int)).length), z65n, H, S0.sub ⟨rfl, rfl, rfl, rfl, rfl, trivial⟩, Hq⟩
                      · replace H := (if_neg z63h).symm.trans H
                        exact nomatch H
                    · replace H := (if_neg z57h).symm.trans H
                      exact nomatch H
                  · replace H := (if_neg z56h).symm.trans H
                    exact nomatch H
                · replace H := (if_neg z53h).symm.trans H
                  exact nomatch H
              · replace H := (if_neg z52h).symm.trans H
                refine w_false S0 rfl (decide_eq_false z52h) ?_
                refine w_exit ?_
                refine ex_then ?_
                refine ex_then ?_
                refine ex_in ?_
                refine nr_then ?_
                replace Hq := HS.pull [_, _, _] Hq
                dsimp only [List.cons_append, List.nil_append] at Hq
                replace Hq := HS.pull [_] Hq
                dsimp only [List.cons_append, List.nil_append] at Hq
                replace Hq := HS.keep [_, _] Hq
                obtain rfl := Option.some.inj H
                exact ⟨z49A, z48x.length, z51n, S0.sub ⟨rfl, trivial⟩, Hq⟩
          · clear S0; rintro a w ⟨z44A, z45m, z46n, S0, Hq⟩
            have H := HU1; clear HU1
            obtain rfl := own_len [] Hq
            refine nr_then ?_
            refine w_seq ?_
            refine w_region ?_
            refine r_pures [_] S0 rfl ?_
            clear S0; intro a0 S0
            obtain ⟨Xz66, HXz66, HPz66, HBz66⟩ := call_frame [_] Hq
            dsimp only [List.cons_append, List.nil_append] at HXz66 HBz66
            obtain ⟨z67t, Hc, H⟩ := Option.bind_eq_some_iff.mp H
            refine r_call S0 rfl rfl goes35 rfl ?_
            refine (slices_Sort_int_int.calls _ _ _ z43x _ _  HXz66 z67t Hc).mono ?_
            rintro e w ⟨rfl, Hq'⟩
            have Hq : HS W0 [own e_i64 3 z44A z43x.length z46n z67t, isH X] w := HBz66 [_] _ Hq'
            clear HXz66 HPz66 HBz66 Hq'
            refine ⟨.tuple #[], rfl, ?_⟩; clear S0; intro a0 S0
            refine wl_nil ?_
            refine nr_then ?_
            refine w_seq ?_
            refine w_region ?_
            refine r_pures [_, _] S0 rfl ?_
            clear S0; intro a0 S0
            refine wl_nil ?_
            refine nr_then ?_
            refine w_ret ?_
            obtain rfl := Option.some.inj H
            refine ret1 S0 rfl rfl ?_
            replace Hq := HS.pull [_] Hq
            dsimp only [List.cons_append, List.nil_append] at Hq
            replace Hq := HS.pull [_] Hq
            dsimp only [List.cons_append, List.nil_append] at Hq
            exact ⟨z44A, z43x.length, z46n, rfl, Hq⟩
        · replace H := (if_neg z38h).symm.trans H
          exact nomatch H
      · replace H := (if_neg z37h).symm.trans H
        exact nomatch H
    · replace H := (if_neg z36h).symm.trans H
      exact nomatch H

end Go.Proofs.Ythlogangnppghaa.M
