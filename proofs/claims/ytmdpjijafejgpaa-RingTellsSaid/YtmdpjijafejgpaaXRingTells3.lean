/- The law RingTells of the seat Ytmdpjijafejgpaa: whatever the input, the call ends, answers true, and what came in reads as it did. This text is part 3 of 4, joined out of the session's texts. -/
import Derived.Test.YtmdpjijafejgpaaXRingTells2
import Derived.Shelf.Sort.Plain
import Derived.Shelf.Slices.CompactI
import Derived.Lib.RowBridge
import Derived.Shelf.Slices.In.SortNone
import Derived.Sort.OwnSortedInts
import Derived.Ground.Names2Prog
import Derived.Shelf.Slices.Empties
import Derived.Shelf.Slices.SearchI
/- waybill/waybillref12.Build: a plain function, and that the machine's call comes to it: printed by a program of the session's own. -/
set_option linter.unusedVariables false
set_option linter.unusedSimpArgs false
namespace Go.Proofs.Ytmdpjijafejgpaa.M
open Go Go.Proofs.Ytmdpjijafejgpaa.Sl
/-! ### waybill/waybillref12.Build: function 13 -/
def waybillref12_Build.l0 : Nat → Int → (List api_Backend) → Int → Int → Option (Int)
  | 0, _, _, _, _ => none
  | k + 1, x_points, x_l, z8x, z9x => if z9x < (x_l.length : Int) then (if 0 ≤ z9x then (waybillref12_Build.l0 k x_points x_l (IntKind.i64.wrap (z8x + (IntKind.i64.wrap (x_points * ((rd e_api_Backend x_l z9x).Weight))))) (IntKind.i64.wrap (z9x + 1))) else (none)) else (some z8x)
def waybillref12_Build.l3 : Nat → (List api_Backend) → Int → (List api_Point) → Int → Int → Option (Int)
  | 0, _, _, _, _, _ => none
  | k + 1, x_l, z19x, z34x, z47x, z85x => ((if 0 < z85x then (if 0 ≤ (IntKind.i64.wrap (z85x - 1)) then (if (IntKind.i64.wrap (z85x - 1)) < (z34x.length : Int) then ((waybillref12_behind.f (rd e_api_Point z34x (IntKind.i64.wrap (z85x - 1))) (⟨z47x, (rd e_api_Backend x_l z19x).ID⟩ : api_Point)).bind fun z100t => (some z100t)) else (none)) else (none)) else (some false)) : Option (Bool)).bind fun z86x => (if z86x = true then (waybillref12_Build.l3 k x_l z19x z34x z47x (IntKind.i64.wrap (z85x - 1))) else (some z85x))
def waybillref12_Build.l4 : Nat → (List api_Backend) → Int → (List api_Point) → Int → Int → Int → (List api_Point) → Option ((List api_Point))
  | 0, _, _, _, _, _, _, _ => none
  | k + 1, x_l, z19x, z34x, z47x, z84x, z117x, z118x => if z84x < z117x then (if 0 ≤ (IntKind.i64.wrap (z117x - 1)) then (if (IntKind.i64.wrap (z117x - 1)) < ((z34x ++ ([(⟨z47x, (rd e_api_Backend x_l z19x).ID⟩ : api_Point)] : List api_Point)).length : Int) then (if 0 ≤ z117x then (if z117x < ((z34x ++ ([(⟨z47x, (rd e_api_Backend x_l z19x).ID⟩ : api_Point)] : List api_Point)).length : Int) then (waybillref12_Build.l4 k x_l z19x z34x z47x z84x (IntKind.i64.wrap (z117x - 1)) (z118x.set (Int.toNat z117x) (rd e_api_Point z118x (IntKind.i64.wrap (z117x - 1))))) else (none)) else (none)) else (none)) else (none)) else (some z118x)
def waybillref12_Build.l2 : Nat → Int → (List api_Backend) → Int → Int → (List api_Point) → Option ((List api_Point))
  | 0, _, _, _, _, _ => none
  | k + 1, x_points, x_l, z19x, z33x, z34x => if 0 ≤ z19x then (if z19x < (x_l.length : Int) then (if z33x < (IntKind.i64.wrap (x_points * ((rd e_api_Backend x_l z19x).Weight))) then ((((((waybillref10_Ints.f k 1 ([(rd e_api_Backend x_l z19x).ID, z33x] : List Int)).bind fun z62t => (some z62t)) : Option (Int)).bind fun z47x => ((((waybillref12_Build.l3 k x_l z19x z34x z47x (z34x.length : Int))) : Option (Int)).bind fun z84x => (if z34x.length + ([(⟨z47x, (rd e_api_Backend x_l z19x).ID⟩ : api_Point)] : List api_Point).length < 8796093022208 then ((((waybillref12_Build.l4 k x_l z19x z34x z47x z84x (IntKind.i64.wrap (((z34x ++ ([(⟨z47x, (rd e_api_Backend x_l z19x).ID⟩ : api_Point)] : List api_Point)).length : Int) - 1)) (z34x ++ ([(⟨z47x, (rd e_api_Backend x_l z19x).ID⟩ : api_Point)] : List api_Point)))) : Option ((List api_Point))).bind fun z116x => (if 0 ≤ z84x then (if z84x < ((z34x ++ ([(⟨z47x, (rd e_api_Backend x_l z19x).ID⟩ : api_Point)] : List api_Point)).length : Int) then (some (z116x.set (Int.toNat z84x) (⟨z47x, (rd e_api_Backend x_l z19x).ID⟩ : api_Point))) else (none)) else (none))) else (none)))) : Option ((List api_Point))).bind fun z43x => (waybillref12_Build.l2 k x_points x_l z19x (IntKind.i64.wrap (z33x + 1)) z43x)) else (some z34x)) else (none)) else (none)
def waybillref12_Build.l1 : Nat → Int → (List api_Backend) → Int → (List api_Point) → Option ((List api_Point))
  | 0, _, _, _, _ => none
  | k + 1, x_points, x_l, z19x, z20x => if z19x < (x_l.length : Int) then ((((((waybillref12_Build.l2 k x_points x_l z19x 0 z20x)) : Option ((List api_Point))).bind fun z29x => (some z29x)) : Option ((List api_Point))).bind fun z25x => (waybillref12_Build.l1 k x_points x_l (IntKind.i64.wrap (z19x + 1)) z25x)) else (some z20x)
def waybillref12_Build.f (k : Nat) (x_points : Int) (x_l : List api_Backend) : Option ((List api_Point) × Int) := (waybillref12_Check.f k x_l).bind fun z2t => (if z2t = 0 then (((if x_points < 1 then (some true) else (some (decide (64 < x_points)))) : Option (Bool)).bind fun z4x => (if z4x = true then (some (([] : List api_Point), 4)) else ((((waybillref12_Build.l0 k x_points x_l 0 0)) : Option (Int)).bind fun z7x => (if 1024 < z7x then (some (([] : List api_Point), 5)) else ((((waybillref12_Build.l1 k x_points x_l 0 ([] : List api_Point))) : Option ((List api_Point))).bind fun z15x => (some (z15x, 0))))))) else (some (([] : List api_Point), z2t)))
set_option maxRecDepth 100000 in
set_option maxHeartbeats 4000000 in
theorem waybillref12_Build.calls (k : Nat) (x_points : Int) (A1 : Option Addr) (n1 c1 : Nat) (x_l : List api_Backend) (W0 : World) (X : Heap) (HR1 : Rd e_api_Backend X A1 n1 c1 x_l) (Hq : HS W0 [isH X] W0) (r : (List api_Point) × Int) (H : waybillref12_Build.f k x_points x_l = some r) :
    Calls Try.prog 13 #[.int .i64 x_points, .slice A1 n1 c1] W0 (fun e w => ∃ Ar0 nr0 cr0, e = .returned (.tuple #[.slice Ar0 nr0 cr0, .int .i64 r.2]) ∧ HS W0 [own e_api_Point 39 Ar0 nr0 cr0 r.1, isH X] w) := by
  obtain rfl := HR1.1
  rw [waybillref12_Build.f] at H
  refine calls_in Try.func13 rfl rfl ?_
  intro a0 S0
  refine w_seq ?_
  refine w_region ?_
  refine r_pures [_, _] S0 rfl ?_
  clear S0; intro a0 S0
  refine wl_nil ?_
  refine nr_then ?_
  refine w_seq ?_
  refine w_region ?_
  refine r_pures [_] S0 rfl ?_
  clear S0; intro a0 S0
  obtain ⟨Xz1, HXz1, HPz1, HBz1⟩ := call_frame [] Hq
  dsimp only [List.cons_append, List.nil_append] at HXz1 HBz1
  obtain ⟨z2t, Hc, H⟩ := Option.bind_eq_some_iff.mp H
  refine r_call S0 rfl rfl goes21 rfl ?_
  refine (waybillref12_Check.calls _ _ _ _ x_l _ _ (sl_isH_rd [] HPz1 HR1) HXz1 z2t Hc).mono ?_
  rintro e w ⟨rfl, Hq'⟩
  have Hq : HS W0 [isH X] w := HBz1 [] _ Hq'
  clear HXz1 HPz1 HBz1 Hq'
  refine ⟨.int .i64 z2t, rfl, ?_⟩; clear S0; intro a0 S0
  refine r_pures [_] S0 rfl ?_
  clear S0; intro a0 S0
  refine wl_nil ?_
  refine nr_then ?_
  refine w_seq ?_
  refine w_block ?_
  refine w_seq ?_
  refine w_region ?_
  refine r_pures [_, _, _] S0 rfl ?_
  clear S0; intro a0 S0
  refine wl_nil ?_
  refine nr_then ?_
  by_cases z3h : z2t = 0
  · replace H := (if_pos z3h).symm.trans H
    refine w_false S0 rfl (congrArg (!·) (decide_eq_true z3h)) ?_
    refine w_seq ?_
    obtain ⟨z4x, H, HU1⟩ := Option.bind_eq_some_iff.mp H
    refine w_cutT (fun a w => Sl 116 [] [(0, .int .i64 x_points), (1, .slice A1 x_l.length c1), (21, .bool z4x)] a ∧ HS W0 [isH X] w) ?_ ?_
    · skip
      refine w_region ?_
      refine r_pures [_, _, _] S0 rfl ?_
      clear S0; intro a0 S0
      by_cases z5h : x_points < 1
      · replace H := (if_pos z5h).symm.trans H
        refine r_off S0 rfl rfl rfl (decide_eq_true z5h) ?_ rfl
        clear S0; intro a0 S0
        refine r_off S0 rfl rfl rfl (decide_eq_true z5h) ?_ rfl
        clear S0; intro a0 S0
        refine r_pick S0 rfl (decide_eq_true z5h) _ rfl rfl ?_
        clear S0; intro a0 S0
        refine r_pures [_] S0 rfl ?_
        clear S0; intro a0 S0
        refine wl_nil ?_
        refine nr_then ?_
        obtain rfl := Option.some.inj H
        exact ⟨S0.sub ⟨rfl, rfl, rfl, trivial⟩, Hq⟩
      · replace H := (if_neg z5h).symm.trans H
        refine r_on S0 rfl rfl rfl (decide_eq_false z5h) ?_
        refine r_pures [_] S0 rfl ?_
        clear S0; intro a0 S0
        refine r_on S0 rfl rfl rfl (decide_eq_false z5h) ?_
        refine r_pures [_] S0 rfl ?_
        clear S0; intro a0 S0
        refine r_pick S0 rfl (decide_eq_false z5h) _ rfl rfl ?_
        clear S0; intro a0 S0
        refine r_pures [_] S0 rfl ?_
        clear S0; intro a0 S0
        refine wl_nil ?_
        refine nr_then ?_
        obtain rfl := Option.some.inj H
        exact ⟨S0.sub ⟨rfl, rfl, rfl, trivial⟩, Hq⟩
    · clear S0; rintro a w ⟨S0, Hq⟩
      have H := HU1; clear HU1
      refine nr_then ?_
      by_cases z6h : z4x = true
      · replace H := (if_pos z6h).symm.trans H
        refine w_true S0 rfl z6h ?_
        refine w_seq ?_
        refine w_region ?_
        refine r_pures [_, _] S0 rfl ?_
        clear S0; intro a0 S0
        refine wl_nil ?_
        refine nr_then ?_
        refine w_ret ?_
        refine ret_in ?_
        refine ret_then ?_
        obtain rfl := Option.some.inj H
        replace Hq := HS.own_nil e_api_Point 39 Hq
        refine ret2 S0 rfl rfl rfl ?_
        replace Hq := HS.pull [_] Hq
        dsimp only [List.cons_append, List.nil_append] at Hq
        replace Hq := HS.pull [_] Hq
        dsimp only [List.cons_append, List.nil_append] at Hq
        exact ⟨none, 0, 0, rfl, Hq⟩
      · replace H := (if_neg z6h).symm.trans H
        refine w_false S0 rfl (Bool.eq_false_iff.mpr z6h) ?_
        refine w_skip ?_
        refine nr_in ?_
        refine nr_then ?_
        refine w_seq ?_
        refine w_region ?_
        refine r_pures [_] S0 rfl ?_
        clear S0; intro a0 S0
        refine wl_nil ?_
        refine nr_then ?_
        refine w_seq ?_
        refine w_seq ?_
        refine w_region ?_
        refine r_pures [_] S0 rfl ?_
        clear S0; intro a0 S0
        refine wl_nil ?_
        refine nr_then ?_
        obtain ⟨z7x, H, HU2⟩ := Option.bind_eq_some_iff.mp H
        refine w_cutT (fun a w => Sl 116 [] [(0, .int .i64 x_points), (1, .slice A1 x_l.length c1), (7, .int .i64 z7x)] a ∧ HS W0 [isH X] w) ?_ ?_
        · skip
          refine w_block ?_
          refine w_loop (fun kq a w => ∃ z8x z9x, waybillref12_Build.l0 kq x_points x_l z8x z9x = some z7x ∧ Sl 116 [] [(0, .int .i64 x_points), (1, .slice A1 x_l.length c1), (7, .int .i64 z8x), (8, .int .i64 z9x)] a ∧ HS W0 [isH X] w) _ ⟨0, 0, H, S0.sub ⟨rfl, rfl, rfl, rfl, trivial⟩, Hq⟩ ?_
          clear H Hq S0
          rintro k0 a w ⟨z8x, z9x, H, S0, Hq⟩
          cases k0 with
          | zero => simp [waybillref12_Build.l0] at H
          | succ k0 =>
            refine ⟨k0, rfl, ?_⟩
            rw [waybillref12_Build.l0] at H
            refine w_seq ?_
            refine w_seq ?_
            refine w_region ?_
            refine r_pures [_, _] S0 rfl ?_
            clear S0; intro a0 S0
            refine r_len S0 rfl sl22 rfl ?_
            clear S0; intro a0 S0
            refine r_pures [_] S0 rfl ?_
            clear S0; intro a0 S0
            refine wl_nil ?_
            refine nr_then ?_
            by_cases z10h : z9x < (x_l.length : Int)
            · replace H := (if_pos z10h).symm.trans H
              refine w_true S0 rfl (decide_eq_true z10h) ?_
              refine w_skip ?_
              refine nr_then ?_
              refine w_seq ?_
              refine w_block ?_
              refine w_region ?_
              refine r_pures [_, _, _, _] S0 rfl ?_
              clear S0; intro a0 S0
              by_cases z11h : 0 ≤ z9x
              · replace H := (if_pos z11h).symm.trans H
                obtain ⟨z12b, z13o, rfl⟩ := (isH_rd [] Hq HR1).at (by omega)
                refine r_index S0 rfl rfl sl22 ti36 z11h z10h rfl ?_
                clear S0; intro a0 S0
                refine r_fieldAddr S0 rfl fo36x1 (z13o + Int.toNat z9x * 2 + 1) rfl rfl ?_
                clear S0; intro a0 S0
                refine r_elS S0 (isH_rd [] Hq HR1) z11h z10h rfl ti3 _ rfl rfl ?_
                clear S0; intro a0 S0
                refine r_pures [_, _, _] S0 rfl ?_
                clear S0; intro a0 S0
                refine wl_nil ?_
                refine nr_in ?_
                refine nr_then ?_
                refine w_region ?_
                refine r_pures [_, _, _] S0 rfl ?_
                clear S0; intro a0 S0
                refine wl_nil ?_
                refine nr_then ?_
                exact ⟨(IntKind.i64.wrap (z8x + (IntKind.i64.wrap (x_points * ((rd e_api_Backend x_l z9x).Weight))))), (IntKind.i64.wrap (z9x + 1)), H, S0.sub ⟨rfl, rfl, rfl, rfl, trivial⟩, Hq⟩
              · replace H := (if_neg z11h).symm.trans H
                exact nomatch H
            · replace H := (if_neg z10h).symm.trans H
              refine w_false S0 rfl (decide_eq_false z10h) ?_
              refine w_exit ?_
              refine ex_then ?_
              refine ex_then ?_
              refine ex_in ?_
              refine nr_then ?_
              obtain rfl := Option.some.inj H
              exact ⟨S0.sub ⟨rfl, rfl, rfl, trivial⟩, Hq⟩
        · clear S0; rintro a w ⟨S0, Hq⟩
          have H := HU2; clear HU2
          refine nr_then ?_
          refine w_seq ?_
          refine w_seq ?_
          refine w_region ?_
          refine r_pures [_, _] S0 rfl ?_
          clear S0; intro a0 S0
          refine wl_nil ?_
          refine nr_then ?_
          by_cases z14h : 1024 < z7x
          · replace H := (if_pos z14h).symm.trans H
            refine w_true S0 rfl (decide_eq_true z14h) ?_
            refine w_seq ?_
            refine w_region ?_
            refine r_pures [_, _] S0 rfl ?_
            clear S0; intro a0 S0
            refine wl_nil ?_
            refine nr_then ?_
            refine w_ret ?_
            refine ret_then ?_
            obtain rfl := Option.some.inj H
            replace Hq := HS.own_nil e_api_Point 39 Hq
            refine ret2 S0 rfl rfl rfl ?_
            replace Hq := HS.pull [_] Hq
            dsimp only [List.cons_append, List.nil_append] at Hq
            replace Hq := HS.pull [_] Hq
            dsimp only [List.cons_append, List.nil_append] at Hq
            exact ⟨none, 0, 0, rfl, Hq⟩
          · replace H := (if_neg z14h).symm.trans H
            refine w_false S0 rfl (decide_eq_false z14h) ?_
            refine w_skip ?_
            refine nr_then ?_
            refine w_seq ?_
            refine w_region ?_
            refine r_pures [_] S0 rfl ?_
            clear S0; intro a0 S0
            refine wl_nil ?_
            refine nr_then ?_
            refine w_seq ?_
            refine w_seq ?_
            refine w_region ?_
            refine r_pures [_] S0 rfl ?_
            clear S0; intro a0 S0
            refine wl_nil ?_
            refine nr_then ?_
            replace Hq := HS.own_nil e_api_Point 39 Hq
            obtain ⟨z15x, H, HU3⟩ := Option.bind_eq_some_iff.mp H
            refine w_cutT (fun a w => ∃ z16A z17m z18n, Sl 116 [] [(9, .slice z16A z17m z18n)] a ∧ HS W0 [own e_api_Point 39 z16A z17m z18n z15x, isH X] w) ?_ ?_
            · skip
              refine w_block ?_
              refine w_loop (fun kq a w => ∃ z19x z20x z21A z22m z23n, waybillref12_Build.l1 kq x_points x_l z19x z20x = some z15x ∧ Sl 116 [] [(0, .int .i64 x_points), (1, .slice A1 x_l.length c1), (9, .slice z21A z22m z23n), (10, .int .i64 z19x)] a ∧ HS W0 [own e_api_Point 39 z21A z22m z23n z20x, isH X] w) _ ⟨0, ([] : List api_Point), none, 0, 0, H, S0.sub ⟨rfl, rfl, rfl, rfl, trivial⟩, Hq⟩ ?_
              clear H Hq S0
              rintro k1 a w ⟨z19x, z20x, z21A, z22m, z23n, H, S0, Hq⟩
              cases k1 with
              | zero => simp [waybillref12_Build.l1] at H
              | succ k1 =>
                refine ⟨k1, rfl, ?_⟩
                rw [waybillref12_Build.l1] at H
                obtain rfl := own_len [] Hq
                refine w_seq ?_
                refine w_seq ?_
                refine w_region ?_
                refine r_pures [_, _] S0 rfl ?_
                clear S0; intro a0 S0
                refine r_len S0 rfl sl22 rfl ?_
                clear S0; intro a0 S0
                refine r_pures [_] S0 rfl ?_
                clear S0; intro a0 S0
                refine wl_nil ?_
                refine nr_then ?_
                by_cases z24h : z19x < (x_l.length : Int)
                · replace H := (if_pos z24h).symm.trans H
                  refine w_true S0 rfl (decide_eq_true z24h) ?_
                  refine w_skip ?_
                  refine nr_then ?_
                  refine w_seq ?_
                  obtain ⟨z25x, H, HU4⟩ := Option.bind_eq_some_iff.mp H
                  refine w_cutT (fun a w => ∃ z26A z27m z28n, Sl 116 [] [(0, .int .i64 x_points), (1, .slice A1 x_l.length c1), (9, .slice z26A z27m z28n), (10, .int .i64 z19x)] a ∧ HS W0 [own e_api_Point 39 z26A z27m z28n z25x, isH X] w) ?_ ?_
                  · skip
                    refine w_block ?_
                    refine w_seq ?_
                    refine w_region ?_
                    refine r_pures [_] S0 rfl ?_
                    clear S0; intro a0 S0
                    refine wl_nil ?_
                    refine nr_then ?_
                    obtain ⟨z29x, H, HU5⟩ := Option.bind_eq_some_iff.mp H
                    refine w_cutT (fun a w => ∃ z30A z31m z32n, Sl 116 [] [(0, .int .i64 x_points), (1, .slice A1 x_l.length c1), (9, .slice z30A z31m z32n), (10, .int .i64 z19x)] a ∧ HS W0 [own e_api_Point 39 z30A z31m z32n z29x, isH X] w) ?_ ?_
                    · skip
                      refine w_block ?_
                      refine w_loop (fun kq a w => ∃ z33x z34x z35A z36m z37n, waybillref12_Build.l2 kq x_points x_l z19x z33x z34x = some z29x ∧ Sl 116 [] [(0, .int .i64 x_points), (1, .slice A1 x_l.length c1), (9, .slice z35A z36m z37n), (10, .int .i64 z19x), (11, .int .i64 z33x)] a ∧ HS W0 [own e_api_Point 39 z35A z36m z37n z34x, isH X] w) _ ⟨0, z20x, z21A, z20x.length, z23n, H, S0.sub ⟨rfl, rfl, rfl, rfl, rfl, trivial⟩, Hq⟩ ?_
                      clear H Hq S0
                      rintro k2 a w ⟨z33x, z34x, z35A, z36m, z37n, H, S0, Hq⟩
                      cases k2 with
                      | zero => simp [waybillref12_Build.l2] at H
                      | succ k2 =>
                        refine ⟨k2, rfl, ?_⟩
                        rw [waybillref12_Build.l2] at H
                        obtain rfl := own_len [] Hq
                        refine w_seq ?_
                        refine w_seq ?_
                        refine w_region ?_
                        refine r_pures [_, _, _, _] S0 rfl ?_
                        clear S0; intro a0 S0
                        by_cases z38h : 0 ≤ z19x
                        · replace H := (if_pos z38h).symm.trans H
                          by_cases z39h : z19x < (x_l.length : Int)
                          · replace H := (if_pos z39h).symm.trans H
                            obtain ⟨z40b, z41o, rfl⟩ := (isH_rd [_] Hq HR1).at (by omega)
                            refine r_index S0 rfl rfl sl22 ti36 z38h z39h rfl ?_
                            clear S0; intro a0 S0
                            refine r_fieldAddr S0 rfl fo36x1 (z41o + Int.toNat z19x * 2 + 1) rfl rfl ?_
                            clear S0; intro a0 S0
                            refine r_elS S0 (isH_rd [_] Hq HR1) z38h z39h rfl ti3 _ rfl rfl ?_
                            clear S0; intro a0 S0
                            refine r_pures [_, _] S0 rfl ?_
                            clear S0; intro a0 S0
                            refine wl_nil ?_
                            refine nr_then ?_
                            by_cases z42h : z33x < (IntKind.i64.wrap (x_points * ((rd e_api_Backend x_l z19x).Weight)))
                            · replace H := (if_pos z42h).symm.trans H
                              refine w_true S0 rfl (decide_eq_true z42h) ?_
                              refine w_skip ?_
                              refine nr_then ?_
                              refine w_seq ?_
                              obtain ⟨z43x, H, HU6⟩ := Option.bind_eq_some_iff.mp H
                              refine w_cutT (fun a w => ∃ z44A z45m z46n, Sl 116 [] [(0, .int .i64 x_points), (1, .slice (some ⟨z40b, z41o, none⟩) x_l.length c1), (9, .slice z44A z45m z46n), (10, .int .i64 z19x), (11, .int .i64 z33x)] a ∧ HS W0 [own e_api_Point 39 z44A z45m z46n z43x, isH X] w) ?_ ?_
                              · skip
                                refine w_block ?_
                                refine w_seq ?_
                                obtain ⟨z47x, H, HU7⟩ := Option.bind_eq_some_iff.mp H
                                refine w_cutT (fun a w => ∃ z48b, Sl 116 [] [(0, .int .i64 x_points), (1, .slice (some ⟨z40b, z41o, none⟩) x_l.length c1), (9, .slice z35A z34x.length z37n), (10, .int .i64 z19x), (11, .int .i64 z33x), (12, .pointer (some ⟨z48b, 0, none⟩))] a ∧ HS W0 [bx z48b 39 [.int .u64 z47x, .int .i64 ((rd e_api_Backend x_l z19x).ID)], own e_api_Point 39 z35A z34x.length z37n z34x, isH X] w) ?_ ?_
                                · skip
                                  refine w_draw TryM.mixed (.pu 0 (.pu 1 (.pu 2 (.pu 3 (.pu 5 (.pu 8 (.pu 9 (.pu 10 (.pu 11 (.rd 4 (.rd 12 (.fk 6 (.fk 7 (.pu 13 (.ef 14 (.ds 15 .done))) 14 (.ef 7 (.pu 13 (.ds 15 .done)))) 14 (.ef 6 (.ef 7 (.pu 13 (.ds 15 .done)))))))))))))))) (by kernel_rfl) rfl ?_
                                  replace Hq := Hq.drew
                                  refine st_pures [0, 1] S0 rfl ?_
                                  intro az49q Sz49q
                                  refine st_pu Sz49q rfl (g_none rfl) rfl rfl (fun _ => y_index Sz49q rfl rfl sl22 ti36 z38h z39h) ?_
                                  intro az50q Sz50q
                                  refine st_pu Sz50q rfl (g_none rfl) rfl rfl (fun _ => y_fieldAddr Sz50q rfl fo36x0 (z41o + Int.toNat z19x * 2 + 0) rfl) ?_
                                  intro az51q Sz51q
                                  refine st_pures [5, 8, 9] Sz51q rfl ?_
                                  intro az52q Sz52q
                                  refine st_pu Sz52q rfl (g_none rfl) rfl rfl (fun _ => y_index Sz52q rfl rfl sl22 ti36 z38h z39h) ?_
                                  intro az53q Sz53q
                                  refine st_pu Sz53q rfl (g_none rfl) rfl rfl (fun _ => y_fieldAddr Sz53q rfl fo36x0 (z41o + Int.toNat z19x * 2 + 0) rfl) ?_
                                  intro az54q Sz54q
                                  refine st_rd Sz54q rfl (g_none rfl) rfl rfl (y_elS Sz54q (isH_rd [_] Hq HR1) z38h z39h rfl ti3 _ rfl) ?_
                                  intro az55q Sz55q
                                  refine st_rd Sz55q rfl (g_none rfl) rfl rfl (y_elS Sz55q (isH_rd [_] Hq HR1) z38h z39h rfl ti3 _ rfl) ?_
                                  intro az56q Sz56q
                                  refine st_fk rfl rfl ?_ ?_
                                  · skip
                                    have Sz57q := Sz56q
                                    refine r_lit (e := e_i64) (l := ([(rd e_api_Backend x_l z19x).ID, z33x] : List Int)) (m := 2) (vs := [.int .i64 ((rd e_api_Backend x_l z19x).ID), .int .i64 z33x]) Sz57q Hq sl32 ti3 rfl rfl rfl rfl rfl rfl ?_
                                    clear Sz57q Hq; intro z58b az56q w Sz57q Hq
                                    refine wl_nil ?_
                                    refine nr_then ?_
                                    refine ⟨⟨⟨trivial, y_elS Sz54q (isH_rd [_, _] Hq HR1) z38h z39h rfl ti3 _ rfl⟩, y_elS Sz55q (isH_rd [_, _] Hq HR1) z38h z39h rfl ti3 _ rfl⟩, ?_⟩
                                    refine st_fk rfl rfl ?_ ?_
                                    · skip
                                      have Sz60q := Sz57q
                                      obtain ⟨Xz61, HXz61, HPz61, HBz61⟩ := call_frame [] Hq
                                      dsimp only [List.cons_append, List.nil_append] at HXz61 HBz61
                                      obtain ⟨z62t, Hc, H⟩ := Option.bind_eq_some_iff.mp H
                                      refine r_call Sz60q rfl rfl goes24 rfl ?_
                                      refine (waybillref10_Ints.calls _ 1 _ _ _ ([(rd e_api_Backend x_l z19x).ID, z33x] : List Int) _ _ (sl_own_rd [] HPz61) HXz61 z62t Hc).mono ?_
                                      rintro e w ⟨rfl, Hq'⟩
                                      have Hq : HS W0 [own e_i64 3 (some ⟨z58b, 0, none⟩) 2 2 ([(rd e_api_Backend x_l z19x).ID, z33x] : List Int), own e_api_Point 39 z35A z34x.length z37n z34x, isH X] w := HBz61 [] _ Hq'
                                      clear HXz61 HPz61 HBz61 Hq'
                                      refine ⟨.int .u64 z62t, rfl, ?_⟩; clear Sz60q; intro az56q Sz60q
                                      refine wl_nil ?_
                                      refine nr_then ?_
                                      refine ⟨⟨⟨trivial, y_elS Sz54q (isH_rd [_, _] Hq HR1) z38h z39h rfl ti3 _ rfl⟩, y_elS Sz55q (isH_rd [_, _] Hq HR1) z38h z39h rfl ti3 _ rfl⟩, ?_⟩
                                      refine st_pu Sz60q rfl (g_none rfl) rfl rfl (fun _ => y_build Sz60q ti39 pl39 rfl [.int .u64 z62t, .int .i64 ((rd e_api_Backend x_l z19x).ID)] rfl) ?_
                                      intro az63q Sz63q
                                      refine st_ef rfl ?_
                                      have Sz64q := Sz63q
                                      refine r_alloc Sz64q Hq ti39 rfl ?_
                                      clear Sz64q Hq; intro z65b az63q w Sz64q Hq
                                      refine wl_nil ?_
                                      refine nr_then ?_
                                      refine ⟨⟨⟨trivial, y_elS Sz54q (isH_rd [_, _, _] Hq HR1) z38h z39h rfl ti3 _ rfl⟩, y_elS Sz55q (isH_rd [_, _, _] Hq HR1) z38h z39h rfl ti3 _ rfl⟩, ?_⟩
                                      refine st_ds rfl ?_
                                      have Sz66q := Sz64q
                                      refine r_st [] Sz66q Hq rfl rfl ti39 [.int .u64 z62t, .int .i64 ((rd e_api_Backend x_l z19x).ID)] rfl rfl rfl rfl [.int .u64 z62t, .int .i64 ((rd e_api_Backend x_l z19x).ID)] rfl ?_
                                      clear Hq; intro w Hq; dsimp only [List.cons_append, List.nil_append] at Hq
                                      refine wl_nil ?_
                                      refine nr_then ?_
                                      refine st_nil ?_
                                      replace S0 := Sz66q
                                      refine nr_then ?_
                                      replace Hq := HS.pull [_, _, _] Hq
                                      dsimp only [List.cons_append, List.nil_append] at Hq
                                      replace Hq := HS.pull [_, _, _] Hq
                                      dsimp only [List.cons_append, List.nil_append] at Hq
                                      replace Hq := HS.pull [_, _] Hq
                                      dsimp only [List.cons_append, List.nil_append] at Hq
                                      replace Hq := HS.keep [_, _, _] Hq
                                      obtain rfl := Option.some.inj H
                                      exact ⟨z65b, S0.sub ⟨rfl, rfl, rfl, rfl, rfl, rfl, trivial⟩, Hq⟩
                                    · skip
                                      have Sz67q := Sz57q
                                      refine r_alloc Sz67q Hq ti39 rfl ?_
                                      clear Sz67q Hq; intro z68b az56q w Sz67q Hq
                                      refine wl_nil ?_
                                      refine nr_then ?_
                                      refine ⟨⟨⟨trivial, y_elS Sz54q (isH_rd [_, _, _] Hq HR1) z38h z39h rfl ti3 _ rfl⟩, y_elS Sz55q (isH_rd [_, _, _] Hq HR1) z38h z39h rfl ti3 _ rfl⟩, ?_⟩
                                      refine st_ef rfl ?_
                                      have Sz69q := Sz67q
                                      obtain ⟨Xz70, HXz70, HPz70, HBz70⟩ := call_frame [] Hq
                                      dsimp only [List.cons_append, List.nil_append] at HXz70 HBz70
                                      obtain ⟨z71t, Hc, H⟩ := Option.bind_eq_some_iff.mp H
                                      refine r_call Sz69q rfl rfl goes24 rfl ?_
                                      refine (waybillref10_Ints.calls _ 1 _ _ _ ([(rd e_api_Backend x_l z19x).ID, z33x] : List Int) _ _ (sl_own_rd [_] HPz70) HXz70 z71t Hc).mono ?_
                                      rintro e w ⟨rfl, Hq'⟩
                                      have Hq : HS W0 [bx z68b 39 [.int .u64 0, .int .i64 0], own e_i64 3 (some ⟨z58b, 0, none⟩) 2 2 ([(rd e_api_Backend x_l z19x).ID, z33x] : List Int), own e_api_Point 39 z35A z34x.length z37n z34x, isH X] w := HBz70 [] _ Hq'
                                      clear HXz70 HPz70 HBz70 Hq'
                                      refine ⟨.int .u64 z71t, rfl, ?_⟩; clear Sz69q; intro az56q Sz69q
                                      refine wl_nil ?_
                                      refine nr_then ?_
                                      refine ⟨⟨⟨trivial, y_elS Sz54q (isH_rd [_, _, _] Hq HR1) z38h z39h rfl ti3 _ rfl⟩, y_elS Sz55q (isH_rd [_, _, _] Hq HR1) z38h z39h rfl ti3 _ rfl⟩, ?_⟩
                                      refine st_pu Sz69q rfl (g_none rfl) rfl rfl (fun _ => y_build Sz69q ti39 pl39 rfl [.int .u64 z71t, .int .i64 ((rd e_api_Backend x_l z19x).ID)] rfl) ?_
                                      intro az72q Sz72q
                                      refine st_ds rfl ?_
                                      have Sz73q := Sz72q
                                      refine r_st [] Sz73q Hq rfl rfl ti39 [.int .u64 z71t, .int .i64 ((rd e_api_Backend x_l z19x).ID)] rfl rfl rfl rfl [.int .u64 z71t, .int .i64 ((rd e_api_Backend x_l z19x).ID)] rfl ?_
                                      clear Hq; intro w Hq; dsimp only [List.cons_append, List.nil_append] at Hq
                                      refine wl_nil ?_
                                      refine nr_then ?_
                                      refine st_nil ?_
                                      replace S0 := Sz73q
                                      refine nr_then ?_
                                      replace Hq := HS.pull [_, _, _] Hq
                                      dsimp only [List.cons_append, List.nil_append] at Hq
                                      replace Hq := HS.pull [_, _, _] Hq
                                      dsimp only [List.cons_append, List.nil_append] at Hq
                                      replace Hq := HS.pull [_, _] Hq
                                      dsimp only [List.cons_append, List.nil_append] at Hq
                                      replace Hq := HS.keep [_, _, _] Hq
                                      obtain rfl := Option.some.inj H
                                      exact ⟨z68b, S0.sub ⟨rfl, rfl, rfl, rfl, rfl, rfl, trivial⟩, Hq⟩
                                  · skip
                                    have Sz74q := Sz56q
                                    refine r_alloc Sz74q Hq ti39 rfl ?_
                                    clear Sz74q Hq; intro z75b az56q w Sz74q Hq
                                    refine wl_nil ?_
                                    refine nr_then ?_
                                    refine ⟨⟨⟨trivial, y_elS Sz54q (isH_rd [_, _] Hq HR1) z38h z39h rfl ti3 _ rfl⟩, y_elS Sz55q (isH_rd [_, _] Hq HR1) z38h z39h rfl ti3 _ rfl⟩, ?_⟩
                                    refine st_ef rfl ?_
                                    have Sz76q := Sz74q
                                    refine r_lit (e := e_i64) (l := ([(rd e_api_Backend x_l z19x).ID, z33x] : List Int)) (m := 2) (vs := [.int .i64 ((rd e_api_Backend x_l z19x).ID), .int .i64 z33x]) Sz76q Hq sl32 ti3 rfl rfl rfl rfl rfl rfl ?_
                                    clear Sz76q Hq; intro z77b az56q w Sz76q Hq
                                    refine wl_nil ?_
                                    refine nr_then ?_
                                    refine ⟨⟨⟨trivial, y_elS Sz54q (isH_rd [_, _, _] Hq HR1) z38h z39h rfl ti3 _ rfl⟩, y_elS Sz55q (isH_rd [_, _, _] Hq HR1) z38h z39h rfl ti3 _ rfl⟩, ?_⟩
                                    refine st_ef rfl ?_
                                    have Sz79q := Sz76q
                                    obtain ⟨Xz80, HXz80, HPz80, HBz80⟩ := call_frame [] Hq
                                    dsimp only [List.cons_append, List.nil_append] at HXz80 HBz80
                                    obtain ⟨z81t, Hc, H⟩ := Option.bind_eq_some_iff.mp H
                                    refine r_call Sz79q rfl rfl goes24 rfl ?_
                                    refine (waybillref10_Ints.calls _ 1 _ _ _ ([(rd e_api_Backend x_l z19x).ID, z33x] : List Int) _ _ (sl_own_rd [] HPz80) HXz80 z81t Hc).mono ?_
                                    rintro e w ⟨rfl, Hq'⟩
                                    have Hq : HS W0 [own e_i64 3 (some ⟨z77b, 0, none⟩) 2 2 ([(rd e_api_Backend x_l z19x).ID, z33x] : List Int), bx z75b 39 [.int .u64 0, .int .i64 0], own e_api_Point 39 z35A z34x.length z37n z34x, isH X] w := HBz80 [] _ Hq'
                                    clear HXz80 HPz80 HBz80 Hq'
                                    refine ⟨.int .u64 z81t, rfl, ?_⟩; clear Sz79q; intro az56q Sz79q
                                    refine wl_nil ?_
                                    refine nr_then ?_
                                    refine ⟨⟨⟨trivial, y_elS Sz54q (isH_rd [_, _, _] Hq HR1) z38h z39h rfl ti3 _ rfl⟩, y_elS Sz55q (isH_rd [_, _, _] Hq HR1) z38h z39h rfl ti3 _ rfl⟩, ?_⟩
                                    refine st_pu Sz79q rfl (g_none rfl) rfl rfl (fun _ => y_build Sz79q ti39 pl39 rfl [.int .u64 z81t, .int .i64 ((rd e_api_Backend x_l z19x).ID)] rfl) ?_
                                    intro az82q Sz82q
                                    refine st_ds rfl ?_
                                    have Sz83q := Sz82q
                                    refine r_st [_] Sz83q Hq rfl rfl ti39 [.int .u64 z81t, .int .i64 ((rd e_api_Backend x_l z19x).ID)] rfl rfl rfl rfl [.int .u64 z81t, .int .i64 ((rd e_api_Backend x_l z19x).ID)] rfl ?_
                                    clear Hq; intro w Hq; dsimp only [List.cons_append, List.nil_append] at Hq
                                    refine wl_nil ?_
                                    refine nr_then ?_
                                    refine st_nil ?_
                                    replace S0 := Sz83q
                                    refine nr_then ?_
                                    replace Hq := HS.pull [_, _, _] Hq
                                    dsimp only [List.cons_append, List.nil_append] at Hq
                                    replace Hq := HS.pull [_, _, _] Hq
                                    dsimp only [List.cons_append, List.nil_append] at Hq
                                    replace Hq := HS.pull [_, _, _] Hq
                                    dsimp only [List.cons_append, List.nil_append] at Hq
                                    replace Hq := HS.keep [_, _, _] Hq
                                    obtain rfl := Option.some.inj H
                                    exact ⟨z75b, S0.sub ⟨rfl, rfl, rfl, rfl, rfl, rfl, trivial⟩, Hq⟩
                                · clear S0; rintro a w ⟨z48b, S0, Hq⟩
                                  have H := HU7; clear HU7
                                  refine nr_then ?_
                                  refine w_seq ?_
                                  refine w_region ?_
                                  refine r_pures [_] S0 rfl ?_
                                  clear S0; intro a0 S0
                                  refine r_len S0 rfl sl25 rfl ?_
                                  clear S0; intro a0 S0
                                  refine r_pures [_] S0 rfl ?_
                                  clear S0; intro a0 S0
                                  refine wl_nil ?_
                                  refine nr_then ?_
                                  refine w_seq ?_
                                  obtain ⟨z84x, H, HU8⟩ := Option.bind_eq_some_iff.mp H
                                  refine w_cutT (fun a w => Sl 116 [] [(0, .int .i64 x_points), (1, .slice (some ⟨z40b, z41o, none⟩) x_l.length c1), (9, .slice z35A z34x.length z37n), (10, .int .i64 z19x), (11, .int .i64 z33x), (12, .pointer (some ⟨z48b, 0, none⟩)), (13, .int .i64 z84x)] a ∧ HS W0 [bx z48b 39 [.int .u64 z47x, .int .i64 ((rd e_api_Backend x_l z19x).ID)], own e_api_Point 39 z35A z34x.length z37n z34x, isH X] w) ?_ ?_
                                  · skip
                                    refine w_block ?_
                                    refine w_loop (fun kq a w => ∃ z85x, waybillref12_Build.l3 kq x_l z19x z34x z47x z85x = some z84x ∧ Sl 116 [] [(0, .int .i64 x_points), (1, .slice (some ⟨z40b, z41o, none⟩) x_l.length c1), (9, .slice z35A z34x.length z37n), (10, .int .i64 z19x), (11, .int .i64 z33x), (12, .pointer (some ⟨z48b, 0, none⟩)), (13, .int .i64 z85x)] a ∧ HS W0 [bx z48b 39 [.int .u64 z47x, .int .i64 ((rd e_api_Backend x_l z19x).ID)], own e_api_Point 39 z35A z34x.length z37n z34x, isH X] w) _ ⟨(z34x.length : Int), H, S0.sub ⟨rfl, rfl, rfl, rfl, rfl, rfl, rfl, trivial⟩, Hq⟩ ?_
                                    clear H Hq S0
                                    rintro k3 a w ⟨z85x, H, S0, Hq⟩
                                    cases k3 with
                                    | zero => simp [waybillref12_Build.l3] at H
                                    | succ k3 =>
                                      refine ⟨k3, rfl, ?_⟩
                                      rw [waybillref12_Build.l3] at H
                                      refine w_seq ?_
                                      refine w_seq ?_
                                      obtain ⟨z86x, H, HU9⟩ := Option.bind_eq_some_iff.mp H
                                      refine w_cutT (fun a w => Sl 116 [] [(0, .int .i64 x_points), (1, .slice (some ⟨z40b, z41o, none⟩) x_l.length c1), (9, .slice z35A z34x.length z37n), (10, .int .i64 z19x), (11, .int .i64 z33x), (12, .pointer (some ⟨z48b, 0, none⟩)), (13, .int .i64 z85x), (88, .bool z86x)] a ∧ HS W0 [bx z48b 39 [.int .u64 z47x, .int .i64 ((rd e_api_Backend x_l z19x).ID)], own e_api_Point 39 z35A z34x.length z37n z34x, isH X] w) ?_ ?_
                                      · skip
                                        refine w_draw TryM.mixed (.pu 0 (.pu 1 (.pu 2 (.pu 3 (.pu 4 (.pu 5 (.pu 6 (.rd 7 (.rd 8 (.ds 9 (.pu 10 .done))))))))))) (by kernel_rfl) rfl ?_
                                        replace Hq := Hq.drew
                                        refine st_pures [0, 1, 2] S0 rfl ?_
                                        intro az87q Sz87q
                                        by_cases z88h : 0 < z85x
                                        · replace H := (if_pos z88h).symm.trans H
                                          refine st_pu Sz87q rfl (g_on Sz87q rfl rfl rfl rfl (decide_eq_true z88h)) rfl rfl (fun _ => y_of Sz87q _ rfl) ?_
                                          intro az89q Sz89q
                                          refine st_pu Sz89q rfl (g_on Sz89q rfl rfl rfl rfl (decide_eq_true z88h)) rfl rfl (fun _ => y_of Sz89q _ rfl) ?_
                                          intro az90q Sz90q
                                          refine st_pu Sz90q rfl (g_on Sz90q rfl rfl rfl rfl (decide_eq_true z88h)) rfl rfl (fun _ => y_of Sz90q _ rfl) ?_
                                          intro az91q Sz91q
                                          by_cases z92h : 0 ≤ (IntKind.i64.wrap (z85x - 1))
                                          · replace H := (if_pos z92h).symm.trans H
                                            by_cases z93h : (IntKind.i64.wrap (z85x - 1)) < (z34x.length : Int)
                                            · replace H := (if_pos z93h).symm.trans H
                                              obtain ⟨z94g, rfl⟩ := own_at [_] Hq (by omega)
                                              refine st_pu Sz91q rfl (g_on Sz91q rfl rfl rfl rfl (decide_eq_true z88h)) rfl rfl (fun _ => y_index Sz91q rfl rfl sl25 ti39 z92h z93h) ?_
                                              intro az95q Sz95q
                                              refine st_rd Sz95q rfl (g_on Sz95q rfl rfl rfl rfl (decide_eq_true z88h)) rfl rfl (y_elA (vs := [.int .u64 ((rd e_api_Point z34x (IntKind.i64.wrap (z85x - 1))).Hash), .int .i64 ((rd e_api_Point z34x (IntKind.i64.wrap (z85x - 1))).ID)]) Sz95q (own_rd [_] Hq) z92h z93h rfl ti39 rfl rfl) ?_
                                              intro az96q Sz96q
                                              refine st_rd Sz96q rfl (g_on Sz96q rfl rfl rfl rfl (decide_eq_true z88h)) rfl rfl (y_ldA [] Sz96q Hq rfl ti39 [.int .u64 z47x, .int .i64 ((rd e_api_Backend x_l z19x).ID)] rfl rfl) ?_
                                              intro az97q Sz97q
                                              refine st_ds rfl ?_
                                              refine r_on Sz97q rfl rfl rfl (decide_eq_true z88h) ?_
                                              have Sz98q := Sz97q
                                              obtain ⟨Xz99, HXz99, HPz99, HBz99⟩ := call_frame [] Hq
                                              dsimp only [List.cons_append, List.nil_append] at HXz99 HBz99
                                              obtain ⟨z100t, Hc, H⟩ := Option.bind_eq_some_iff.mp H
                                              refine r_call Sz98q rfl rfl goes32 rfl ?_
                                              refine (waybillref12_behind.calls (rd e_api_Point z34x (IntKind.i64.wrap (z85x - 1))) (⟨z47x, (rd e_api_Backend x_l z19x).ID⟩ : api_Point) _ _  HXz99 z100t Hc).mono ?_
                                              rintro e w ⟨rfl, Hq'⟩
                                              have Hq : HS W0 [bx z48b 39 [.int .u64 z47x, .int .i64 ((rd e_api_Backend x_l z19x).ID)], own e_api_Point 39 (some ⟨z94g, 0, none⟩) z34x.length z37n z34x, isH X] w := HBz99 [] _ Hq'
                                              clear HXz99 HPz99 HBz99 Hq'
                                              refine ⟨.bool z100t, rfl, ?_⟩; clear Sz98q; intro az97q Sz98q
                                              refine wl_nil ?_
                                              refine nr_then ?_
                                              refine st_pu Sz98q rfl (g_none rfl) rfl rfl (fun _ => y_pick Sz98q rfl (decide_eq_true z88h) _ rfl) ?_
                                              intro az101q Sz101q
                                              refine st_nil ?_
                                              replace S0 := Sz101q
                                              refine nr_then ?_
                                              obtain rfl := Option.some.inj H
                                              exact ⟨S0.sub ⟨rfl, rfl, rfl, rfl, rfl, rfl, rfl, rfl, trivial⟩, Hq⟩
                                            · replace H := (if_neg z93h).symm.trans H
                                              exact nomatch H
                                          · replace H := (if_neg z92h).symm.trans H
                                            exact nomatch H
                                        · replace H := (if_neg z88h).symm.trans H
                                          refine st_puOff Sz87q rfl (g_off Sz87q rfl rfl rfl rfl (decide_eq_false z88h)) rfl rfl ?_
                                          intro az102q Sz102q
                                          refine st_puOff Sz102q rfl (g_off Sz102q rfl rfl rfl rfl (decide_eq_false z88h)) rfl rfl ?_
                                          intro az103q Sz103q
                                          refine st_puOff Sz103q rfl (g_off Sz103q rfl rfl rfl rfl (decide_eq_false z88h)) rfl rfl ?_
                                          intro az104q Sz104q
                                          refine st_puOff Sz104q rfl (g_off Sz104q rfl rfl rfl rfl (decide_eq_false z88h)) rfl rfl ?_
                                          intro az105q Sz105q
                                          refine st_rdOff Sz105q rfl (g_off Sz105q rfl rfl rfl rfl (decide_eq_false z88h)) rfl rfl ?_
                                          intro az106q Sz106q
                                          refine st_rdOff Sz106q rfl (g_off Sz106q rfl rfl rfl rfl (decide_eq_false z88h)) rfl rfl ?_
                                          intro az107q Sz107q
                                          refine st_ds rfl ?_
                                          refine r_off Sz107q rfl rfl rfl (decide_eq_false z88h) ?_ rfl
                                          intro az108q Sz108q
                                          refine wl_nil ?_
                                          refine nr_then ?_
                                          refine st_pu Sz108q rfl (g_none rfl) rfl rfl (fun _ => y_pick Sz108q rfl (decide_eq_false z88h) _ rfl) ?_
                                          intro az109q Sz109q
                                          refine st_nil ?_
                                          replace S0 := Sz109q
                                          refine nr_then ?_
                                          obtain rfl := Option.some.inj H
                                          exact ⟨S0.sub ⟨rfl, rfl, rfl, rfl, rfl, rfl, rfl, rfl, trivial⟩, Hq⟩
                                      · clear S0; rintro a w ⟨S0, Hq⟩
                                        have H := HU9; clear HU9
                                        refine nr_then ?_
                                        by_cases z110h : z86x = true
                                        · replace H := (if_pos z110h).symm.trans H
                                          refine w_true S0 rfl z110h ?_
                                          refine w_skip ?_
                                          refine nr_then ?_
                                          refine w_block ?_
                                          refine w_region ?_
                                          refine r_pures [_, _, _] S0 rfl ?_
                                          clear S0; intro a0 S0
                                          refine wl_nil ?_
                                          refine nr_in ?_
                                          refine nr_then ?_
                                          exact ⟨(IntKind.i64.wrap (z85x - 1)), H, S0.sub ⟨rfl, rfl, rfl, rfl, rfl, rfl, rfl, trivial⟩, Hq⟩
                                        · replace H := (if_neg z110h).symm.trans H
                                          refine w_false S0 rfl (Bool.eq_false_iff.mpr z110h) ?_
                                          refine w_exit ?_
                                          refine ex_then ?_
                                          refine ex_then ?_
                                          refine ex_in ?_
                                          refine nr_then ?_
                                          obtain rfl := Option.some.inj H
                                          exact ⟨S0.sub ⟨rfl, rfl, rfl, rfl, rfl, rfl, rfl, trivial⟩, Hq⟩
                                  · clear S0; rintro a w ⟨S0, Hq⟩
                                    have H := HU8; clear HU8
                                    refine nr_then ?_
                                    refine w_seq ?_
                                    refine w_region ?_
                                    refine r_pures [_] S0 rfl ?_
                                    clear S0; intro a0 S0
                                    refine r_ldA [] S0 Hq rfl ti39 [.int .u64 z47x, .int .i64 ((rd e_api_Backend x_l z19x).ID)] rfl rfl rfl ?_
                                    clear S0; intro a0 S0
                                    refine r_lit (e := e_api_Point) (l := ([(⟨z47x, (rd e_api_Backend x_l z19x).ID⟩ : api_Point)] : List api_Point)) (m := 1) (vs := [.agg #[.int .u64 z47x, .int .i64 ((rd e_api_Backend x_l z19x).ID)]]) S0 Hq sl25 ti39 rfl rfl rfl rfl rfl rfl ?_
                                    clear S0 Hq; intro z111b a0 w S0 Hq
                                    by_cases z113h : z34x.length + ([(⟨z47x, (rd e_api_Backend x_l z19x).ID⟩ : api_Point)] : List api_Point).length < 8796093022208
                                    · replace H := (if_pos z113h).symm.trans H
                                      refine r_app [_, _] S0 Hq (own_rd [] Hq) rfl rfl sl25 ti39 rfl z113h rfl rfl ?_
                                      clear S0 Hq; intro z114A z115n a0 w S0 Hq; dsimp only [List.cons_append, List.nil_append] at Hq
                                      refine r_pures [_] S0 rfl ?_
                                      clear S0; intro a0 S0
                                      refine wl_nil ?_
                                      refine nr_then ?_
                                      refine w_seq ?_
                                      refine w_seq ?_
                                      refine w_region ?_
                                      refine r_pures [_] S0 rfl ?_
                                      clear S0; intro a0 S0
                                      refine r_len S0 rfl sl25 rfl ?_
                                      clear S0; intro a0 S0
                                      refine r_pures [_, _] S0 rfl ?_
                                      clear S0; intro a0 S0
                                      refine wl_nil ?_
                                      refine nr_then ?_
                                      obtain ⟨z116x, H, HU10⟩ := Option.bind_eq_some_iff.mp H
                                      refine w_cutT (fun a w => Sl 116 [] [(0, .int .i64 x_points), (1, .slice (some ⟨z40b, z41o, none⟩) x_l.length c1), (9, .slice z114A ((z34x ++ ([(⟨z47x, (rd e_api_Backend x_l z19x).ID⟩ : api_Point)] : List api_Point)).length) z115n), (10, .int .i64 z19x), (11, .int .i64 z33x), (12, .pointer (some ⟨z48b, 0, none⟩)), (13, .int .i64 z84x)] a ∧ HS W0 [bx z48b 39 [.int .u64 z47x, .int .i64 ((rd e_api_Backend x_l z19x).ID)], own e_api_Point 39 z114A ((z34x ++ ([(⟨z47x, (rd e_api_Backend x_l z19x).ID⟩ : api_Point)] : List api_Point)).length) z115n z116x, isH X] w) ?_ ?_
                                      · skip
                                        refine w_block ?_
                                        replace Hq := HS.pull [_, _, _] Hq
                                        dsimp only [List.cons_append, List.nil_append] at Hq
                                        replace Hq := HS.pull [_, _, _] Hq
                                        dsimp only [List.cons_append, List.nil_append] at Hq
                                        replace Hq := HS.pull [_, _, _] Hq
                                        dsimp only [List.cons_append, List.nil_append] at Hq
                                        replace Hq := HS.keep [_, _, _] Hq
                                        refine w_loop (fun kq a w => ∃ z117x z118x, waybillref12_Build.l4 kq x_l z19x z34x z47x z84x z117x z118x = some z116x ∧ Sl 116 [] [(0, .int .i64 x_points), (1, .slice (some ⟨z40b, z41o, none⟩) x_l.length c1), (9, .slice z114A ((z34x ++ ([(⟨z47x, (rd e_api_Backend x_l z19x).ID⟩ : api_Point)] : List api_Point)).length) z115n), (10, .int .i64 z19x), (11, .int .i64 z33x), (12, .pointer (some ⟨z48b, 0, none⟩)), (13, .int .i64 z84x), (14, .int .i64 z117x)] a ∧ HS W0 [bx z48b 39 [.int .u64 z47x, .int .i64 ((rd e_api_Backend x_l z19x).ID)], own e_api_Point 39 z114A ((z34x ++ ([(⟨z47x, (rd e_api_Backend x_l z19x).ID⟩ : api_Point)] : List api_Point)).length) z115n z118x, isH X] w) _ ⟨(IntKind.i64.wrap (((z34x ++ ([(⟨z47x, (rd e_api_Backend x_l z19x).ID⟩ : api_Point)] : List api_Point)).length : Int) - 1)), (z34x ++ ([(⟨z47x, (rd e_api_Backend x_l z19x).ID⟩ : api_Point)] : List api_Point)), H, S0.sub ⟨rfl, rfl, rfl, rfl, rfl, rfl, rfl, rfl, trivial⟩, Hq⟩ ?_
                                        clear H Hq S0
                                        rintro k4 a w ⟨z117x, z118x, H, S0, Hq⟩
                                        cases k4 with
                                        | zero => simp [waybillref12_Build.l4] at H
                                        | succ k4 =>
                                          refine ⟨k4, rfl, ?_⟩
                                          rw [waybillref12_Build.l4] at H
                                          refine w_seq ?_
                                          refine w_seq ?_
                                          refine w_region ?_
                                          refine r_pures [_, _, _] S0 rfl ?_
                                          clear S0; intro a0 S0
                                          refine wl_nil ?_
                                          refine nr_then ?_
                                          by_cases z119h : z84x < z117x
                                          · replace H := (if_pos z119h).symm.trans H
                                            refine w_true S0 rfl (decide_eq_true z119h) ?_
                                            refine w_skip ?_
                                            refine nr_then ?_
                                            refine w_seq ?_
                                            refine w_block ?_
                                            refine w_region ?_
                                            refine r_pures [_, _, _, _, _] S0 rfl ?_
                                            clear S0; intro a0 S0
                                            by_cases z120h : 0 ≤ (IntKind.i64.wrap (z117x - 1))
                                            · replace H := (if_pos z120h).symm.trans H
                                              by_cases z121h : (IntKind.i64.wrap (z117x - 1)) < ((z34x ++ ([(⟨z47x, (rd e_api_Backend x_l z19x).ID⟩ : api_Point)] : List api_Point)).length : Int)
                                              · replace H := (if_pos z121h).symm.trans H
                                                obtain ⟨z122g, rfl⟩ := own_at [_] Hq (by omega)
                                                refine r_index S0 rfl rfl sl25 ti39 z120h z121h rfl ?_
                                                clear S0; intro a0 S0
                                                refine r_elA (vs := [.int .u64 ((rd e_api_Point z118x (IntKind.i64.wrap (z117x - 1))).Hash), .int .i64 ((rd e_api_Point z118x (IntKind.i64.wrap (z117x - 1))).ID)]) S0 (own_rd [_] Hq) z120h z121h rfl ti39 rfl rfl rfl ?_
                                                clear S0; intro a0 S0
                                                by_cases z123h : 0 ≤ z117x
                                                · replace H := (if_pos z123h).symm.trans H
                                                  by_cases z124h : z117x < ((z34x ++ ([(⟨z47x, (rd e_api_Backend x_l z19x).ID⟩ : api_Point)] : List api_Point)).length : Int)
                                                  · replace H := (if_pos z124h).symm.trans H
                                                    refine r_index S0 rfl rfl sl25 ti39 z123h z124h rfl ?_
                                                    clear S0; intro a0 S0
                                                    refine r_elst [_] S0 Hq z123h z124h rfl rfl ti39 [.int .u64 ((rd e_api_Point z118x (IntKind.i64.wrap (z117x - 1))).Hash), .int .i64 ((rd e_api_Point z118x (IntKind.i64.wrap (z117x - 1))).ID)] rfl rfl rfl rfl (rd e_api_Point z118x (IntKind.i64.wrap (z117x - 1))) rfl ?_
                                                    clear Hq; intro w Hq; dsimp only [List.cons_append, List.nil_append] at Hq
                                                    refine wl_nil ?_
                                                    refine nr_in ?_
                                                    refine nr_then ?_
                                                    refine w_region ?_
                                                    refine r_pures [_, _, _] S0 rfl ?_
                                                    clear S0; intro a0 S0
                                                    refine wl_nil ?_
                                                    refine nr_then ?_
                                                    exact ⟨(IntKind.i64.wrap (z117x - 1)), (z118x.set (Int.toNat z117x) (rd e_api_Point z118x (IntKind.i64.wrap (z117x - 1)))), H, S0.sub ⟨rfl, rfl, rfl, rfl, rfl, rfl, rfl, rfl, trivial⟩, Hq⟩
                                                  · replace H := (if_neg z124h).symm.trans H
                                                    exact nomatch H
                                                · replace H := (if_neg z123h).symm.trans H
                                                  exact nomatch H
                                              · replace H := (if_neg z121h).symm.trans H
                                                exact nomatch H
                                            · replace H := (if_neg z120h).symm.trans H
                                              exact nomatch H
                                          · replace H := (if_neg z119h).symm.trans H
                                            refine w_false S0 rfl (decide_eq_false z119h) ?_
                                            refine w_exit ?_
                                            refine ex_then ?_
                                            refine ex_then ?_
                                            refine ex_in ?_
                                            refine nr_then ?_
                                            obtain rfl := Option.some.inj H
                                            exact ⟨S0.sub ⟨rfl, rfl, rfl, rfl, rfl, rfl, rfl, trivial⟩, Hq⟩
                                      · clear S0; rintro a w ⟨S0, Hq⟩
                                        have H := HU10; clear HU10
                                        refine nr_then ?_
                                        refine w_region ?_
                                        refine r_pures [_, _] S0 rfl ?_
                                        clear S0; intro a0 S0
                                        refine r_ldA [] S0 Hq rfl ti39 [.int .u64 z47x, .int .i64 ((rd e_api_Backend x_l z19x).ID)] rfl rfl rfl ?_
                                        clear S0; intro a0 S0
                                        by_cases z125h : 0 ≤ z84x
                                        · replace H := (if_pos z125h).symm.trans H
                                          by_cases z126h : z84x < ((z34x ++ ([(⟨z47x, (rd e_api_Backend x_l z19x).ID⟩ : api_Point)] : List api_Point)).length : Int)
                                          · replace H := (if_pos z126h).symm.trans H
                                            obtain ⟨z127g, rfl⟩ := own_at [_] Hq (by omega)
                                            refine r_index S0 rfl rfl sl25 ti39 z125h z126h rfl ?_
                                            clear S0; intro a0 S0
                                            refine r_elst [_] S0 Hq z125h z126h rfl rfl ti39 [.int .u64 z47x, .int .i64 ((rd e_api_Backend x_l z19x).ID)] rfl rfl rfl rfl (⟨z47x, (rd e_api_Backend x_l z19x).ID⟩ : api_Point) rfl ?_
                                            clear Hq; intro w Hq; dsimp only [List.cons_append, List.nil_append] at Hq
                                            refine wl_nil ?_
                                            refine nr_in ?_
                                            refine nr_then ?_
                                            replace Hq := HS.pull [_, _] Hq
                                            dsimp only [List.cons_append, List.nil_append] at Hq
                                            replace Hq := HS.pull [_, _] Hq
                                            dsimp only [List.cons_append, List.nil_append] at Hq
                                            replace Hq := HS.keep [_, _] Hq
                                            obtain rfl := Option.some.inj H
                                            exact ⟨(some ⟨z127g, 0, none⟩), ((z34x ++ ([(⟨z47x, (rd e_api_Backend x_l z19x).ID⟩ : api_Point)] : List api_Point)).length), z115n, S0.sub ⟨rfl, rfl, rfl, rfl, rfl, trivial⟩, Hq⟩
                                          · replace H := (if_neg z126h).symm.trans H
                                            exact nomatch H
                                        · replace H := (if_neg z125h).symm.trans H
                                          exact nomatch H
                                    · replace H := (if_neg z113h).symm.trans H
                                      exact nomatch H
                              · clear S0; rintro a w ⟨z44A, z45m, z46n, S0, Hq⟩
                                have H := HU6; clear HU6
                                obtain rfl := own_len [] Hq
                                refine nr_then ?_
                                refine w_region ?_
                                refine r_pures [_, _, _] S0 rfl ?_
                                clear S0; intro a0 S0
                                refine wl_nil ?_
                                refine nr_then ?_
                                exact ⟨(IntKind.i64.wrap (z33x + 1)), z43x, z44A, z43x.length, z46n, H, S0.sub ⟨rfl, rfl, rfl, rfl, rfl, trivial⟩, Hq⟩
                            · replace H := (if_neg z42h).symm.trans H
                              refine w_false S0 rfl (decide_eq_false z42h) ?_
                              refine w_exit ?_
                              refine ex_then ?_
                              refine ex_then ?_
                              refine ex_in ?_
                              refine nr_then ?_
                              obtain rfl := Option.some.inj H
                              exact ⟨z35A, z34x.length, z37n, S0.sub ⟨rfl, rfl, rfl, rfl, trivial⟩, Hq⟩
                          · replace H := (if_neg z39h).symm.trans H
                            exact nomatch H
                        · replace H := (if_neg z38h).symm.trans H
                          exact nomatch H
                    · clear S0; rintro a w ⟨z30A, z31m, z32n, S0, Hq⟩
                      have H := HU5; clear HU5
                      obtain rfl := own_len [] Hq
                      refine nr_in ?_
                      refine nr_then ?_
                      obtain rfl := Option.some.inj H
                      exact ⟨z30A, z29x.length, z32n, S0.sub ⟨rfl, rfl, rfl, rfl, trivial⟩, Hq⟩
                  · clear S0; rintro a w ⟨z26A, z27m, z28n, S0, Hq⟩
                    have H := HU4; clear HU4
                    obtain rfl := own_len [] Hq
                    refine nr_then ?_
                    refine w_region ?_
                    refine r_pures [_, _, _] S0 rfl ?_
                    clear S0; intro a0 S0
                    refine wl_nil ?_
                    refine nr_then ?_
                    exact ⟨(IntKind.i64.wrap (z19x + 1)), z25x, z26A, z25x.length, z28n, H, S0.sub ⟨rfl, rfl, rfl, rfl, trivial⟩, Hq⟩
                · replace H := (if_neg z24h).symm.trans H
                  refine w_false S0 rfl (decide_eq_false z24h) ?_
                  refine w_exit ?_
                  refine ex_then ?_
                  refine ex_then ?_
                  refine ex_in ?_
                  refine nr_then ?_
                  obtain rfl := Option.some.inj H
                  exact ⟨z21A, z20x.length, z23n, S0.sub ⟨rfl, trivial⟩, Hq⟩
            · clear S0; rintro a w ⟨z16A, z17m, z18n, S0, Hq⟩
              have H := HU3; clear HU3
              obtain rfl := own_len [] Hq
              refine nr_then ?_
              refine w_seq ?_
              refine w_region ?_
              refine r_pures [_, _, _] S0 rfl ?_
              clear S0; intro a0 S0
              refine wl_nil ?_
              refine nr_then ?_
              refine w_ret ?_
              obtain rfl := Option.some.inj H
              refine ret2 S0 rfl rfl rfl ?_
              replace Hq := HS.pull [_] Hq
              dsimp only [List.cons_append, List.nil_append] at Hq
              replace Hq := HS.pull [_] Hq
              dsimp only [List.cons_append, List.nil_append] at Hq
              exact ⟨z16A, z15x.length, z18n, rfl, Hq⟩
  · replace H := (if_neg z3h).symm.trans H
    refine w_true S0 rfl (congrArg (!·) (decide_eq_false z3h)) ?_
    refine w_seq ?_
    refine w_region ?_
    refine r_pures [_, _, _] S0 rfl ?_
    clear S0; intro a0 S0
    refine wl_nil ?_
    refine nr_then ?_
    refine w_ret ?_
    refine ret_in ?_
    refine ret_then ?_
    obtain rfl := Option.some.inj H
    replace Hq := HS.own_nil e_api_Point 39 Hq
    refine ret2 S0 rfl rfl rfl ?_
    replace Hq := HS.pull [_] Hq
    dsimp only [List.cons_append, List.nil_append] at Hq
    replace Hq := HS.pull [_] Hq
    dsimp only [List.cons_append, List.nil_append] at Hq
    exact ⟨none, 0, 0, rfl, Hq⟩

end Go.Proofs.Ytmdpjijafejgpaa.M

/- waybill/waybillref12.Whole: a plain function, and that the machine's call comes to it: printed by a program of the session's own. -/
set_option linter.unusedVariables false
set_option linter.unusedSimpArgs false
namespace Go.Proofs.Ytmdpjijafejgpaa.M
open Go Go.Proofs.Ytmdpjijafejgpaa.Sl
/-! ### waybill/waybillref12.Whole: function 23 -/
def waybillref12_Whole.l0 : Nat → (List api_Point) → Int → Option (Int)
  | 0, _, _ => none
  | k + 1, x_r, z2x => if z2x < (x_r.length : Int) then (((if 0 ≤ z2x then (if ((rd e_api_Point x_r z2x).ID) < 0 then (some true) else (if 0 < z2x then (if 0 ≤ (IntKind.i64.wrap (z2x - 1)) then (if (IntKind.i64.wrap (z2x - 1)) < (x_r.length : Int) then ((waybillref12_behind.f (rd e_api_Point x_r (IntKind.i64.wrap (z2x - 1))) (rd e_api_Point x_r z2x)).bind fun z46t => (some z46t)) else (none)) else (none)) else (some false))) else (none)) : Option (Bool)).bind fun z4x => (if z4x = true then (some 9) else (waybillref12_Whole.l0 k x_r (IntKind.i64.wrap (z2x + 1))))) else (some 0)
def waybillref12_Whole.f (k : Nat) (x_r : List api_Point) : Option (Int) := if 1024 < (x_r.length : Int) then (some 3) else ((waybillref12_Whole.l0 k x_r 0))
set_option maxRecDepth 100000 in
set_option maxHeartbeats 4000000 in
theorem waybillref12_Whole.calls (k : Nat) (A0 : Option Addr) (n0 c0 : Nat) (x_r : List api_Point) (W0 : World) (X : Heap) (HR0 : Rd e_api_Point X A0 n0 c0 x_r) (Hq : HS W0 [isH X] W0) (r : Int) (H : waybillref12_Whole.f k x_r = some r) :
    Calls Try.prog 23 #[.slice A0 n0 c0] W0 (fun e w => e = .returned (.int .i64 r) ∧ HS W0 [isH X] w) := by
  obtain rfl := HR0.1
  rw [waybillref12_Whole.f] at H
  refine calls_in Try.func23 rfl rfl ?_
  intro a0 S0
  refine w_seq ?_
  refine w_region ?_
  refine r_pures [_] S0 rfl ?_
  clear S0; intro a0 S0
  refine wl_nil ?_
  refine nr_then ?_
  refine w_seq ?_
  refine w_seq ?_
  refine w_region ?_
  refine r_pures [_] S0 rfl ?_
  clear S0; intro a0 S0
  refine r_len S0 rfl sl25 rfl ?_
  clear S0; intro a0 S0
  refine r_pures [_] S0 rfl ?_
  clear S0; intro a0 S0
  refine wl_nil ?_
  refine nr_then ?_
  by_cases z1h : 1024 < (x_r.length : Int)
  · replace H := (if_pos z1h).symm.trans H
    refine w_true S0 rfl (decide_eq_true z1h) ?_
    refine w_seq ?_
    refine w_region ?_
    refine r_pures [_] S0 rfl ?_
    clear S0; intro a0 S0
    refine wl_nil ?_
    refine nr_then ?_
    refine w_ret ?_
    refine ret_then ?_
    obtain rfl := Option.some.inj H
    refine ret1 S0 rfl rfl ?_
    exact ⟨rfl, Hq⟩
  · replace H := (if_neg z1h).symm.trans H
    refine w_false S0 rfl (decide_eq_false z1h) ?_
    refine w_skip ?_
    refine nr_then ?_
    refine w_seq ?_
    refine w_seq ?_
    refine w_region ?_
    refine r_pures [_] S0 rfl ?_
    clear S0; intro a0 S0
    refine wl_nil ?_
    refine nr_then ?_
    refine w_block ?_
    refine w_loop (fun kq a w => ∃ z2x, waybillref12_Whole.l0 kq x_r z2x = some r ∧ Sl 35 [] [(0, .slice A0 x_r.length c0), (3, .int .i64 z2x)] a ∧ HS W0 [isH X] w) _ ⟨0, H, S0.sub ⟨rfl, rfl, trivial⟩, Hq⟩ ?_
    clear H Hq S0
    rintro k0 a w ⟨z2x, H, S0, Hq⟩
    cases k0 with
    | zero => simp [waybillref12_Whole.l0] at H
    | succ k0 =>
      refine ⟨k0, rfl, ?_⟩
      rw [waybillref12_Whole.l0] at H
      refine w_seq ?_
      refine w_seq ?_
      refine w_region ?_
      refine r_pures [_, _] S0 rfl ?_
      clear S0; intro a0 S0
      refine r_len S0 rfl sl25 rfl ?_
      clear S0; intro a0 S0
      refine r_pures [_] S0 rfl ?_
      clear S0; intro a0 S0
      refine wl_nil ?_
      refine nr_then ?_
      by_cases z3h : z2x < (x_r.length : Int)
      · replace H := (if_pos z3h).symm.trans H
        refine w_true S0 rfl (decide_eq_true z3h) ?_
        refine w_skip ?_
        refine nr_then ?_
        refine w_seq ?_
        refine w_block ?_
        refine w_seq ?_
        obtain ⟨z4x, H, HU1⟩ := Option.bind_eq_some_iff.mp H
        refine w_cutT (fun a w => Sl 35 [] [(0, .slice A0 x_r.length c0), (3, .int .i64 z2x), (34, .bool z4x)] a ∧ HS W0 [isH X] w) ?_ ?_
        · skip
          refine w_draw TryM.mixed (.pu 0 (.pu 1 (.pu 2 (.pu 3 (.rd 4 (.pu 5 (.pu 6 (.pu 7 (.pu 8 (.pu 9 (.pu 10 (.pu 11 (.pu 12 (.pu 13 (.pu 15 (.pu 16 (.pu 17 (.rd 14 (.rd 18 (.ef 19 (.pu 20 (.pu 21 .done)))))))))))))))))))))) (by kernel_rfl) rfl ?_
          replace Hq := Hq.drew
          refine st_pures [0, 1] S0 rfl ?_
          intro az5q Sz5q
          by_cases z6h : 0 ≤ z2x
          · replace H := (if_pos z6h).symm.trans H
            obtain ⟨z7b, z8o, rfl⟩ := (isH_rd [] Hq HR0).at (by omega)
            refine st_pu Sz5q rfl (g_none rfl) rfl rfl (fun _ => y_index Sz5q rfl rfl sl25 ti39 z6h z3h) ?_
            intro az9q Sz9q
            refine st_pu Sz9q rfl (g_none rfl) rfl rfl (fun _ => y_fieldAddr Sz9q rfl fo39x1 (z8o + Int.toNat z2x * 2 + 1) rfl) ?_
            intro az10q Sz10q
            refine st_rd Sz10q rfl (g_none rfl) rfl rfl (y_elS Sz10q (isH_rd [] Hq HR0) z6h z3h rfl ti3 _ rfl) ?_
            intro az11q Sz11q
            refine st_pures [5, 6] Sz11q rfl ?_
            intro az12q Sz12q
            by_cases z13h : ((rd e_api_Point x_r z2x).ID) < 0
            · replace H := (if_pos z13h).symm.trans H
              refine st_puOff Sz12q rfl (g_off Sz12q rfl rfl rfl rfl (decide_eq_true z13h)) rfl rfl ?_
              intro az14q Sz14q
              refine st_puOff Sz14q rfl (g_off Sz14q rfl rfl rfl rfl (decide_eq_true z13h)) rfl rfl ?_
              intro az15q Sz15q
              refine st_puOff Sz15q rfl (g_off Sz15q rfl rfl rfl rfl (decide_eq_true z13h)) rfl rfl ?_
              intro az16q Sz16q
              refine st_puOff Sz16q rfl (g_offU Sz16q rfl rfl rfl rfl) rfl rfl ?_
              intro az17q Sz17q
              refine st_puOff Sz17q rfl (g_offU Sz17q rfl rfl rfl rfl) rfl rfl ?_
              intro az18q Sz18q
              refine st_puOff Sz18q rfl (g_offU Sz18q rfl rfl rfl rfl) rfl rfl ?_
              intro az19q Sz19q
              refine st_puOff Sz19q rfl (g_offU Sz19q rfl rfl rfl rfl) rfl rfl ?_
              intro az20q Sz20q
              refine st_puOff Sz20q rfl (g_offU Sz20q rfl rfl rfl rfl) rfl rfl ?_
              intro az21q Sz21q
              refine st_puOff Sz21q rfl (g_offU Sz21q rfl rfl rfl rfl) rfl rfl ?_
              intro az22q Sz22q
              refine st_puOff Sz22q rfl (g_offU Sz22q rfl rfl rfl rfl) rfl rfl ?_
              intro az23q Sz23q
              refine st_rdOff Sz23q rfl (g_offU Sz23q rfl rfl rfl rfl) rfl rfl ?_
              intro az24q Sz24q
              refine st_rdOff Sz24q rfl (g_offU Sz24q rfl rfl rfl rfl) rfl rfl ?_
              intro az25q Sz25q
              refine st_ef rfl ?_
              refine r_offU Sz25q rfl rfl rfl ?_ rfl
              intro az26q Sz26q
              refine wl_nil ?_
              refine nr_then ?_
              refine ⟨⟨⟨⟨trivial, y_elS Sz10q (isH_rd [] Hq HR0) z6h z3h rfl ti3 _ rfl⟩, trivial⟩, trivial⟩, ?_⟩
              refine st_puOff Sz26q rfl (g_off Sz26q rfl rfl rfl rfl (decide_eq_true z13h)) rfl rfl ?_
              intro az27q Sz27q
              refine st_pu Sz27q rfl (g_none rfl) rfl rfl (fun _ => y_pick Sz27q rfl (decide_eq_true z13h) _ rfl) ?_
              intro az28q Sz28q
              refine st_nil ?_
              replace S0 := Sz28q
              refine nr_then ?_
              obtain rfl := Option.some.inj H
              exact ⟨S0.sub ⟨rfl, rfl, rfl, trivial⟩, Hq⟩
            · replace H := (if_neg z13h).symm.trans H
              refine st_pu Sz12q rfl (g_on Sz12q rfl rfl rfl rfl (decide_eq_false z13h)) rfl rfl (fun _ => y_of Sz12q _ rfl) ?_
              intro az29q Sz29q
              refine st_pu Sz29q rfl (g_on Sz29q rfl rfl rfl rfl (decide_eq_false z13h)) rfl rfl (fun _ => y_of Sz29q _ rfl) ?_
              intro az30q Sz30q
              refine st_pu Sz30q rfl (g_on Sz30q rfl rfl rfl rfl (decide_eq_false z13h)) rfl rfl (fun _ => y_of Sz30q _ rfl) ?_
              intro az31q Sz31q
              by_cases z32h : 0 < z2x
              · replace H := (if_pos z32h).symm.trans H
                refine st_pu Sz31q rfl (g_on Sz31q rfl rfl rfl rfl (decide_eq_true z32h)) rfl rfl (fun _ => y_of Sz31q _ rfl) ?_
                intro az33q Sz33q
                refine st_pu Sz33q rfl (g_on Sz33q rfl rfl rfl rfl (decide_eq_true z32h)) rfl rfl (fun _ => y_of Sz33q _ rfl) ?_
                intro az34q Sz34q
                refine st_pu Sz34q rfl (g_on Sz34q rfl rfl rfl rfl (decide_eq_true z32h)) rfl rfl (fun _ => y_of Sz34q _ rfl) ?_
                intro az35q Sz35q
                by_cases z36h : 0 ≤ (IntKind.i64.wrap (z2x - 1))
                · replace H := (if_pos z36h).symm.trans H
                  by_cases z37h : (IntKind.i64.wrap (z2x - 1)) < (x_r.length : Int)
                  · replace H := (if_pos z37h).symm.trans H
                    refine st_pu Sz35q rfl (g_on Sz35q rfl rfl rfl rfl (decide_eq_true z32h)) rfl rfl (fun _ => y_index Sz35q rfl rfl sl25 ti39 z36h z37h) ?_
                    intro az38q Sz38q
                    refine st_pu Sz38q rfl (g_on Sz38q rfl rfl rfl rfl (decide_eq_true z32h)) rfl rfl (fun _ => y_of Sz38q _ rfl) ?_
                    intro az39q Sz39q
                    refine st_pu Sz39q rfl (g_on Sz39q rfl rfl rfl rfl (decide_eq_true z32h)) rfl rfl (fun _ => y_of Sz39q _ rfl) ?_
                    intro az40q Sz40q
                    refine st_pu Sz40q rfl (g_on Sz40q rfl rfl rfl rfl (decide_eq_true z32h)) rfl rfl (fun _ => y_index Sz40q rfl rfl sl25 ti39 z6h z3h) ?_
                    intro az41q Sz41q
                    refine st_rd Sz41q rfl (g_on Sz41q rfl rfl rfl rfl (decide_eq_true z32h)) rfl rfl (y_elA (vs := [.int .u64 ((rd e_api_Point x_r (IntKind.i64.wrap (z2x - 1))).Hash), .int .i64 ((rd e_api_Point x_r (IntKind.i64.wrap (z2x - 1))).ID)]) Sz41q (isH_rd [] Hq HR0) z36h z37h rfl ti39 rfl rfl) ?_
                    intro az42q Sz42q
                    refine st_rd Sz42q rfl (g_on Sz42q rfl rfl rfl rfl (decide_eq_true z32h)) rfl rfl (y_elA (vs := [.int .u64 ((rd e_api_Point x_r z2x).Hash), .int .i64 ((rd e_api_Point x_r z2x).ID)]) Sz42q (isH_rd [] Hq HR0) z6h z3h rfl ti39 rfl rfl) ?_
                    intro az43q Sz43q
                    refine st_ef rfl ?_
                    refine r_on Sz43q rfl rfl rfl (decide_eq_true z32h) ?_
                    have Sz44q := Sz43q
                    obtain ⟨Xz45, HXz45, HPz45, HBz45⟩ := call_frame [] Hq
                    dsimp only [List.cons_append, List.nil_append] at HXz45 HBz45
                    obtain ⟨z46t, Hc, H⟩ := Option.bind_eq_some_iff.mp H
                    refine r_call Sz44q rfl rfl goes32 rfl ?_
                    refine (waybillref12_behind.calls (rd e_api_Point x_r (IntKind.i64.wrap (z2x - 1))) (rd e_api_Point x_r z2x) _ _  HXz45 z46t Hc).mono ?_
                    rintro e w ⟨rfl, Hq'⟩
                    have Hq : HS W0 [isH X] w := HBz45 [] _ Hq'
                    clear HXz45 HPz45 HBz45 Hq'
                    refine ⟨.bool z46t, rfl, ?_⟩; clear Sz44q; intro az43q Sz44q
                    refine wl_nil ?_
                    refine nr_then ?_
                    refine ⟨⟨⟨⟨trivial, y_elS Sz10q (isH_rd [] Hq HR0) z6h z3h rfl ti3 _ rfl⟩, y_elA (vs := [.int .u64 ((rd e_api_Point x_r (IntKind.i64.wrap (z2x - 1))).Hash), .int .i64 ((rd e_api_Point x_r (IntKind.i64.wrap (z2x - 1))).ID)]) Sz41q (isH_rd [] Hq HR0) z36h z37h rfl ti39 rfl rfl⟩, y_elA (vs := [.int .u64 ((rd e_api_Point x_r z2x).Hash), .int .i64 ((rd e_api_Point x_r z2x).ID)]) Sz42q (isH_rd [] Hq HR0) z6h z3h rfl ti39 rfl rfl⟩, ?_⟩
                    refine st_pu Sz44q rfl (g_on Sz44q rfl rfl rfl rfl (decide_eq_false z13h)) rfl rfl (fun _ => y_pick Sz44q rfl (decide_eq_true z32h) _ rfl) ?_
                    intro az47q Sz47q
                    refine st_pu Sz47q rfl (g_none rfl) rfl rfl (fun _ => y_pick Sz47q rfl (decide_eq_false z13h) _ rfl) ?_
                    intro az48q Sz48q
                    refine st_nil ?_
                    replace S0 := Sz48q
                    refine nr_then ?_
                    obtain rfl := Option.some.inj H
                    exact ⟨S0.sub ⟨rfl, rfl, rfl, trivial⟩, Hq⟩
                  · replace H := (if_neg z37h).symm.trans H
                    exact nomatch H
                · replace H := (if_neg z36h).symm.trans H
                  exact nomatch H
              · replace H := (if_neg z32h).symm.trans H
                refine st_puOff Sz31q rfl (g_off Sz31q rfl rfl rfl rfl (decide_eq_false z32h)) rfl rfl ?_
                intro az49q Sz49q
                refine st_puOff Sz49q rfl (g_off Sz49q rfl rfl rfl rfl (decide_eq_false z32h)) rfl rfl ?_
                intro az50q Sz50q
                refine st_puOff Sz50q rfl (g_off Sz50q rfl rfl rfl rfl (decide_eq_false z32h)) rfl rfl ?_
                intro az51q Sz51q
                refine st_puOff Sz51q rfl (g_off Sz51q rfl rfl rfl rfl (decide_eq_false z32h)) rfl rfl ?_
                intro az52q Sz52q
                refine st_puOff Sz52q rfl (g_off Sz52q rfl rfl rfl rfl (decide_eq_false z32h)) rfl rfl ?_
                intro az53q Sz53q
                refine st_puOff Sz53q rfl (g_off Sz53q rfl rfl rfl rfl (decide_eq_false z32h)) rfl rfl ?_
                intro az54q Sz54q
                refine st_puOff Sz54q rfl (g_off Sz54q rfl rfl rfl rfl (decide_eq_false z32h)) rfl rfl ?_
                intro az55q Sz55q
                refine st_rdOff Sz55q rfl (g_off Sz55q rfl rfl rfl rfl (decide_eq_false z32h)) rfl rfl ?_
                intro az56q Sz56q
                refine st_rdOff Sz56q rfl (g_off Sz56q rfl rfl rfl rfl (decide_eq_false z32h)) rfl rfl ?_
                intro az57q Sz57q
                refine st_ef rfl ?_
                refine r_off Sz57q rfl rfl rfl (decide_eq_false z32h) ?_ rfl
                intro az58q Sz58q
                refine wl_nil ?_
                refine nr_then ?_
                refine ⟨⟨⟨⟨trivial, y_elS Sz10q (isH_rd [] Hq HR0) z6h z3h rfl ti3 _ rfl⟩, trivial⟩, trivial⟩, ?_⟩
                refine st_pu Sz58q rfl (g_on Sz58q rfl rfl rfl rfl (decide_eq_false z13h)) rfl rfl (fun _ => y_pick Sz58q rfl (decide_eq_false z32h) _ rfl) ?_
                intro az59q Sz59q
                refine st_pu Sz59q rfl (g_none rfl) rfl rfl (fun _ => y_pick Sz59q rfl (decide_eq_false z13h) _ rfl) ?_
                intro az60q Sz60q
                refine st_nil ?_
                replace S0 := Sz60q
                refine nr_then ?_
                obtain rfl := Option.some.inj H
                exact ⟨S0.sub ⟨rfl, rfl, rfl, trivial⟩, Hq⟩
          · replace H := (if_neg z6h).symm.trans H
            exact nomatch H
        · clear S0; rintro a w ⟨S0, Hq⟩
          have H := HU1; clear HU1
          refine nr_then ?_
          by_cases z61h : z4x = true
          · replace H := (if_pos z61h).symm.trans H
            refine w_true S0 rfl z61h ?_
            refine w_seq ?_
            refine w_region ?_
            refine r_pures [_] S0 rfl ?_
            clear S0; intro a0 S0
            refine wl_nil ?_
            refine nr_then ?_
            refine w_ret ?_
            refine ret_in ?_
            refine ret_then ?_
            refine ret_then ?_
            refine ret_in ?_
            refine ret_then ?_
            obtain rfl := Option.some.inj H
            refine ret1 S0 rfl rfl ?_
            exact ⟨rfl, Hq⟩
          · replace H := (if_neg z61h).symm.trans H
            refine w_false S0 rfl (Bool.eq_false_iff.mpr z61h) ?_
            refine w_skip ?_
            refine nr_in ?_
            refine nr_then ?_
            refine w_region ?_
            refine r_pures [_, _, _] S0 rfl ?_
            clear S0; intro a0 S0
            refine wl_nil ?_
            refine nr_then ?_
            exact ⟨(IntKind.i64.wrap (z2x + 1)), H, S0.sub ⟨rfl, rfl, trivial⟩, Hq⟩
      · replace H := (if_neg z3h).symm.trans H
        refine w_false S0 rfl (decide_eq_false z3h) ?_
        refine w_exit ?_
        refine ex_then ?_
        refine ex_then ?_
        refine ex_in ?_
        refine nr_then ?_
        refine w_seq ?_
        refine w_region ?_
        refine r_pures [_] S0 rfl ?_
        clear S0; intro a0 S0
        refine wl_nil ?_
        refine nr_then ?_
        refine w_ret ?_
        obtain rfl := Option.some.inj H
        refine ret1 S0 rfl rfl ?_
        exact ⟨rfl, Hq⟩

end Go.Proofs.Ytmdpjijafejgpaa.M

/- waybill/waybillref12.Walk: a plain function, and that the machine's call comes to it: printed by a program of the session's own. -/
set_option linter.unusedVariables false
set_option linter.unusedSimpArgs false
namespace Go.Proofs.Ytmdpjijafejgpaa.M
open Go Go.Proofs.Ytmdpjijafejgpaa.Sl
/-! ### waybill/waybillref12.Walk: function 15 -/
def waybillref12_Walk.l0 : Nat → (List api_Point) → Int → Int → Option (Int)
  | 0, _, _, _ => none
  | k + 1, x_r, x_hash, z6x => ((if z6x < (x_r.length : Int) then (if 0 ≤ z6x then (some (decide (((rd e_api_Point x_r z6x).Hash) < x_hash))) else (none)) else (some false)) : Option (Bool)).bind fun z7x => (if z7x = true then (waybillref12_Walk.l0 k x_r x_hash (IntKind.i64.wrap (z6x + 1))) else (some z6x))
def waybillref12_Walk.l2 : Nat → (List api_Point) → Int → Int → (List Int) → Bool → Int → Option (Bool)
  | 0, _, _, _, _, _, _ => none
  | k + 1, x_r, z5x, z17x, z18x, z33x, z34x => if z34x < (z18x.length : Int) then (((if z33x = true then (some true) else (if 0 ≤ z34x then (some (decide ((rd e_i64 z18x z34x) = ((rd e_api_Point x_r ((IntKind.i64.wrap (z5x + z17x)).tmod (x_r.length : Int))).ID)))) else (none))) : Option (Bool)).bind fun z36x => (waybillref12_Walk.l2 k x_r z5x z17x z18x z36x (IntKind.i64.wrap (z34x + 1)))) else (some z33x)
def waybillref12_Walk.l1 : Nat → (List api_Point) → Int → Int → (List Int) → Option ((List Int))
  | 0, _, _, _, _ => none
  | k + 1, x_r, z5x, z17x, z18x => if z17x < (x_r.length : Int) then (((if (x_r.length : Int) = 0 then (none) else (if 0 ≤ ((IntKind.i64.wrap (z5x + z17x)).tmod (x_r.length : Int)) then (if ((IntKind.i64.wrap (z5x + z17x)).tmod (x_r.length : Int)) < (x_r.length : Int) then ((((waybillref12_Walk.l2 k x_r z5x z17x z18x false 0)) : Option (Bool)).bind fun z32x => (((if z32x = true then (some z18x) else (if z18x.length + ([(rd e_api_Point x_r ((IntKind.i64.wrap (z5x + z17x)).tmod (x_r.length : Int))).ID] : List Int).length < 17592186044416 then (some (z18x ++ ([(rd e_api_Point x_r ((IntKind.i64.wrap (z5x + z17x)).tmod (x_r.length : Int))).ID] : List Int))) else (none))) : Option ((List Int))).bind fun z40x => (some z40x))) else (none)) else (none))) : Option ((List Int))).bind fun z23x => (waybillref12_Walk.l1 k x_r z5x (IntKind.i64.wrap (z17x + 1)) z23x)) else (some z18x)
def waybillref12_Walk.f (k : Nat) (x_r : List api_Point) (x_hash : Int) : Option ((List Int) × Int) := (waybillref12_Whole.f k x_r).bind fun z2t => (if z2t = 0 then (if (x_r.length : Int) = 0 then (some (([] : List Int), 71)) else ((((waybillref12_Walk.l0 k x_r x_hash 0)) : Option (Int)).bind fun z5x => ((((waybillref12_Walk.l1 k x_r z5x 0 ([] : List Int))) : Option ((List Int))).bind fun z13x => (some (z13x, 0))))) else (some (([] : List Int), z2t)))
set_option maxRecDepth 100000 in
set_option maxHeartbeats 4000000 in
theorem waybillref12_Walk.calls (k : Nat) (A0 : Option Addr) (n0 c0 : Nat) (x_r : List api_Point) (x_hash : Int) (W0 : World) (X : Heap) (HR0 : Rd e_api_Point X A0 n0 c0 x_r) (Hq : HS W0 [isH X] W0) (r : (List Int) × Int) (H : waybillref12_Walk.f k x_r x_hash = some r) :
    Calls Try.prog 15 #[.slice A0 n0 c0, .int .u64 x_hash] W0 (fun e w => ∃ Ar0 nr0 cr0, e = .returned (.tuple #[.slice Ar0 nr0 cr0, .int .i64 r.2]) ∧ HS W0 [own e_i64 3 Ar0 nr0 cr0 r.1, isH X] w) := by
  obtain rfl := HR0.1
  rw [waybillref12_Walk.f] at H
  refine calls_in Try.func15 rfl rfl ?_
  intro a0 S0
  refine w_seq ?_
  refine w_region ?_
  refine r_pures [_, _] S0 rfl ?_
  clear S0; intro a0 S0
  refine wl_nil ?_
  refine nr_then ?_
  refine w_seq ?_
  refine w_region ?_
  refine r_pures [_] S0 rfl ?_
  clear S0; intro a0 S0
  obtain ⟨Xz1, HXz1, HPz1, HBz1⟩ := call_frame [] Hq
  dsimp only [List.cons_append, List.nil_append] at HXz1 HBz1
  obtain ⟨z2t, Hc, H⟩ := Option.bind_eq_some_iff.mp H
  refine r_call S0 rfl rfl goes23 rfl ?_
  refine (waybillref12_Whole.calls _ _ _ _ x_r _ _ (sl_isH_rd [] HPz1 HR0) HXz1 z2t Hc).mono ?_
  rintro e w ⟨rfl, Hq'⟩
  have Hq : HS W0 [isH X] w := HBz1 [] _ Hq'
  clear HXz1 HPz1 HBz1 Hq'
  refine ⟨.int .i64 z2t, rfl, ?_⟩; clear S0; intro a0 S0
  refine r_pures [_] S0 rfl ?_
  clear S0; intro a0 S0
  refine wl_nil ?_
  refine nr_then ?_
  refine w_seq ?_
  refine w_block ?_
  refine w_seq ?_
  refine w_region ?_
  refine r_pures [_, _, _] S0 rfl ?_
  clear S0; intro a0 S0
  refine wl_nil ?_
  refine nr_then ?_
  by_cases z3h : z2t = 0
  · replace H := (if_pos z3h).symm.trans H
    refine w_false S0 rfl (congrArg (!·) (decide_eq_true z3h)) ?_
    refine w_seq ?_
    refine w_region ?_
    refine r_pures [_] S0 rfl ?_
    clear S0; intro a0 S0
    refine r_len S0 rfl sl25 rfl ?_
    clear S0; intro a0 S0
    refine r_pures [_, _] S0 rfl ?_
    clear S0; intro a0 S0
    refine wl_nil ?_
    refine nr_then ?_
    by_cases z4h : (x_r.length : Int) = 0
    · replace H := (if_pos z4h).symm.trans H
      refine w_true S0 rfl (decide_eq_true z4h) ?_
      refine w_seq ?_
      refine w_region ?_
      refine r_pures [_, _] S0 rfl ?_
      clear S0; intro a0 S0
      refine wl_nil ?_
      refine nr_then ?_
      refine w_ret ?_
      refine ret_in ?_
      refine ret_then ?_
      obtain rfl := Option.some.inj H
      replace Hq := HS.own_nil e_i64 3 Hq
      refine ret2 S0 rfl rfl rfl ?_
      replace Hq := HS.pull [_] Hq
      dsimp only [List.cons_append, List.nil_append] at Hq
      replace Hq := HS.pull [_] Hq
      dsimp only [List.cons_append, List.nil_append] at Hq
      exact ⟨none, 0, 0, rfl, Hq⟩
    · replace H := (if_neg z4h).symm.trans H
      refine w_false S0 rfl (decide_eq_false z4h) ?_
      refine w_skip ?_
      refine nr_in ?_
      refine nr_then ?_
      refine w_seq ?_
      refine w_region ?_
      refine r_pures [_] S0 rfl ?_
      clear S0; intro a0 S0
      refine wl_nil ?_
      refine nr_then ?_
      refine w_seq ?_
      obtain ⟨z5x, H, HU1⟩ := Option.bind_eq_some_iff.mp H
      refine w_cutT (fun a w => Sl 76 [] [(0, .slice A0 x_r.length c0), (7, .int .i64 z5x)] a ∧ HS W0 [isH X] w) ?_ ?_
      · skip
        refine w_block ?_
        refine w_loop (fun kq a w => ∃ z6x, waybillref12_Walk.l0 kq x_r x_hash z6x = some z5x ∧ Sl 76 [] [(0, .slice A0 x_r.length c0), (1, .int .u64 x_hash), (7, .int .i64 z6x)] a ∧ HS W0 [isH X] w) _ ⟨0, H, S0.sub ⟨rfl, rfl, rfl, trivial⟩, Hq⟩ ?_
        clear H Hq S0
        rintro k0 a w ⟨z6x, H, S0, Hq⟩
        cases k0 with
        | zero => simp [waybillref12_Walk.l0] at H
        | succ k0 =>
          refine ⟨k0, rfl, ?_⟩
          rw [waybillref12_Walk.l0] at H
          refine w_seq ?_
          refine w_seq ?_
          obtain ⟨z7x, H, HU2⟩ := Option.bind_eq_some_iff.mp H
          refine w_cutT (fun a w => Sl 76 [] [(0, .slice A0 x_r.length c0), (1, .int .u64 x_hash), (7, .int .i64 z6x), (35, .bool z7x)] a ∧ HS W0 [isH X] w) ?_ ?_
          · skip
            refine w_region ?_
            refine r_pures [_, _] S0 rfl ?_
            clear S0; intro a0 S0
            refine r_len S0 rfl sl25 rfl ?_
            clear S0; intro a0 S0
            refine r_pures [_, _] S0 rfl ?_
            clear S0; intro a0 S0
            by_cases z8h : z6x < (x_r.length : Int)
            · replace H := (if_pos z8h).symm.trans H
              refine r_on S0 rfl rfl rfl (decide_eq_true z8h) ?_
              refine r_pures [_] S0 rfl ?_
              clear S0; intro a0 S0
              refine r_on S0 rfl rfl rfl (decide_eq_true z8h) ?_
              refine r_pures [_] S0 rfl ?_
              clear S0; intro a0 S0
              refine r_on S0 rfl rfl rfl (decide_eq_true z8h) ?_
              by_cases z9h : 0 ≤ z6x
              · replace H := (if_pos z9h).symm.trans H
                obtain ⟨z10b, z11o, rfl⟩ := (isH_rd [] Hq HR0).at (by omega)
                refine r_index S0 rfl rfl sl25 ti39 z9h z8h rfl ?_
                clear S0; intro a0 S0
                refine r_on S0 rfl rfl rfl (decide_eq_true z8h) ?_
                refine r_fieldAddr S0 rfl fo39x0 (z11o + Int.toNat z6x * 2 + 0) rfl rfl ?_
                clear S0; intro a0 S0
                refine r_on S0 rfl rfl rfl (decide_eq_true z8h) ?_
                refine r_elS S0 (isH_rd [] Hq HR0) z9h z8h rfl ti23 _ rfl rfl ?_
                clear S0; intro a0 S0
                refine r_on S0 rfl rfl rfl (decide_eq_true z8h) ?_
                refine r_pures [_] S0 rfl ?_
                clear S0; intro a0 S0
                refine r_on S0 rfl rfl rfl (decide_eq_true z8h) ?_
                refine r_pures [_] S0 rfl ?_
                clear S0; intro a0 S0
                refine r_pick S0 rfl (decide_eq_true z8h) _ rfl rfl ?_
                clear S0; intro a0 S0
                refine wl_nil ?_
                refine nr_then ?_
                obtain rfl := Option.some.inj H
                exact ⟨S0.sub ⟨rfl, rfl, rfl, rfl, trivial⟩, Hq⟩
              · replace H := (if_neg z9h).symm.trans H
                exact nomatch H
            · replace H := (if_neg z8h).symm.trans H
              refine r_off S0 rfl rfl rfl (decide_eq_false z8h) ?_ rfl
              clear S0; intro a0 S0
              refine r_off S0 rfl rfl rfl (decide_eq_false z8h) ?_ rfl
              clear S0; intro a0 S0
              refine r_off S0 rfl rfl rfl (decide_eq_false z8h) ?_ rfl
              clear S0; intro a0 S0
              refine r_off S0 rfl rfl rfl (decide_eq_false z8h) ?_ rfl
              clear S0; intro a0 S0
              refine r_off S0 rfl rfl rfl (decide_eq_false z8h) ?_ rfl
              clear S0; intro a0 S0
              refine r_off S0 rfl rfl rfl (decide_eq_false z8h) ?_ rfl
              clear S0; intro a0 S0
              refine r_off S0 rfl rfl rfl (decide_eq_false z8h) ?_ rfl
              clear S0; intro a0 S0
              refine r_pick S0 rfl (decide_eq_false z8h) _ rfl rfl ?_
              clear S0; intro a0 S0
              refine wl_nil ?_
              refine nr_then ?_
              obtain rfl := Option.some.inj H
              exact ⟨S0.sub ⟨rfl, rfl, rfl, rfl, trivial⟩, Hq⟩
          · clear S0; rintro a w ⟨S0, Hq⟩
            have H := HU2; clear HU2
            refine nr_then ?_
            by_cases z12h : z7x = true
            · replace H := (if_pos z12h).symm.trans H
              refine w_true S0 rfl z12h ?_
              refine w_skip ?_
              refine nr_then ?_
              refine w_block ?_
              refine w_region ?_
              refine r_pures [_, _, _] S0 rfl ?_
              clear S0; intro a0 S0
              refine wl_nil ?_
              refine nr_in ?_
              refine nr_then ?_
              exact ⟨(IntKind.i64.wrap (z6x + 1)), H, S0.sub ⟨rfl, rfl, rfl, trivial⟩, Hq⟩
            · replace H := (if_neg z12h).symm.trans H
              refine w_false S0 rfl (Bool.eq_false_iff.mpr z12h) ?_
              refine w_exit ?_
              refine ex_then ?_
              refine ex_then ?_
              refine ex_in ?_
              refine nr_then ?_
              obtain rfl := Option.some.inj H
              exact ⟨S0.sub ⟨rfl, rfl, trivial⟩, Hq⟩
      · clear S0; rintro a w ⟨S0, Hq⟩
        have H := HU1; clear HU1
        refine nr_then ?_
        refine w_seq ?_
        refine w_region ?_
        refine r_pures [_] S0 rfl ?_
        clear S0; intro a0 S0
        refine wl_nil ?_
        refine nr_then ?_
        refine w_seq ?_
        refine w_seq ?_
        refine w_region ?_
        refine r_pures [_] S0 rfl ?_
        clear S0; intro a0 S0
        refine wl_nil ?_
        refine nr_then ?_
        replace Hq := HS.own_nil e_i64 3 Hq
        obtain ⟨z13x, H, HU3⟩ := Option.bind_eq_some_iff.mp H
        refine w_cutT (fun a w => ∃ z14A z15m z16n, Sl 76 [] [(8, .slice z14A z15m z16n)] a ∧ HS W0 [own e_i64 3 z14A z15m z16n z13x, isH X] w) ?_ ?_
        · skip
          refine w_block ?_
          refine w_loop (fun kq a w => ∃ z17x z18x z19A z20m z21n, waybillref12_Walk.l1 kq x_r z5x z17x z18x = some z13x ∧ Sl 76 [] [(0, .slice A0 x_r.length c0), (7, .int .i64 z5x), (8, .slice z19A z20m z21n), (9, .int .i64 z17x)] a ∧ HS W0 [own e_i64 3 z19A z20m z21n z18x, isH X] w) _ ⟨0, ([] : List Int), none, 0, 0, H, S0.sub ⟨rfl, rfl, rfl, rfl, trivial⟩, Hq⟩ ?_
          clear H Hq S0
          rintro k1 a w ⟨z17x, z18x, z19A, z20m, z21n, H, S0, Hq⟩
          cases k1 with
          | zero => simp [waybillref12_Walk.l1] at H
          | succ k1 =>
            refine ⟨k1, rfl, ?_⟩
            rw [waybillref12_Walk.l1] at H
            obtain rfl := own_len [] Hq
            refine w_seq ?_
            refine w_seq ?_
            refine w_region ?_
            refine r_pures [_, _] S0 rfl ?_
            clear S0; intro a0 S0
            refine r_len S0 rfl sl25 rfl ?_
            clear S0; intro a0 S0
            refine r_pures [_] S0 rfl ?_
            clear S0; intro a0 S0
            refine wl_nil ?_
            refine nr_then ?_
            by_cases z22h : z17x < (x_r.length : Int)
            · replace H := (if_pos z22h).symm.trans H
              refine w_true S0 rfl (decide_eq_true z22h) ?_
              refine w_skip ?_
              refine nr_then ?_
              refine w_seq ?_
              obtain ⟨z23x, H, HU4⟩ := Option.bind_eq_some_iff.mp H
              refine w_cutT (fun a w => ∃ z24A z25m z26n, Sl 76 [] [(0, .slice A0 x_r.length c0), (7, .int .i64 z5x), (8, .slice z24A z25m z26n), (9, .int .i64 z17x)] a ∧ HS W0 [own e_i64 3 z24A z25m z26n z23x, isH X] w) ?_ ?_
              · skip
                refine w_block ?_
                refine w_seq ?_
                refine w_region ?_
                refine r_pures [_, _, _, _, _] S0 rfl ?_
                clear S0; intro a0 S0
                refine r_len S0 rfl sl25 rfl ?_
                clear S0; intro a0 S0
                by_cases z27h : (x_r.length : Int) = 0
                · replace H := (if_pos z27h).symm.trans H
                  exact nomatch H
                · replace H := (if_neg z27h).symm.trans H
                  refine r_rem S0 rfl rfl z27h rfl ?_
                  clear S0; intro a0 S0
                  by_cases z28h : 0 ≤ ((IntKind.i64.wrap (z5x + z17x)).tmod (x_r.length : Int))
                  · replace H := (if_pos z28h).symm.trans H
                    by_cases z29h : ((IntKind.i64.wrap (z5x + z17x)).tmod (x_r.length : Int)) < (x_r.length : Int)
                    · replace H := (if_pos z29h).symm.trans H
                      obtain ⟨z30b, z31o, rfl⟩ := (isH_rd [_] Hq HR0).at (by omega)
                      refine r_index S0 rfl rfl sl25 ti39 z28h z29h rfl ?_
                      clear S0; intro a0 S0
                      refine r_fieldAddr S0 rfl fo39x1 (z31o + Int.toNat ((IntKind.i64.wrap (z5x + z17x)).tmod (x_r.length : Int)) * 2 + 1) rfl rfl ?_
                      clear S0; intro a0 S0
                      refine r_elS S0 (isH_rd [_] Hq HR0) z28h z29h rfl ti3 _ rfl rfl ?_
                      clear S0; intro a0 S0
                      refine r_pures [_] S0 rfl ?_
                      clear S0; intro a0 S0
                      refine wl_nil ?_
                      refine nr_then ?_
                      refine w_seq ?_
                      refine w_region ?_
                      refine r_pures [_] S0 rfl ?_
                      clear S0; intro a0 S0
                      refine wl_nil ?_
                      refine nr_then ?_
                      refine w_seq ?_
                      refine w_seq ?_
                      refine w_region ?_
                      refine r_pures [_] S0 rfl ?_
                      clear S0; intro a0 S0
                      refine wl_nil ?_
                      refine nr_then ?_
                      obtain ⟨z32x, H, HU5⟩ := Option.bind_eq_some_iff.mp H
                      refine w_cutT (fun a w => Sl 76 [] [(0, .slice (some ⟨z30b, z31o, none⟩) x_r.length c0), (7, .int .i64 z5x), (8, .slice z19A z18x.length z21n), (9, .int .i64 z17x), (10, .int .i64 ((rd e_api_Point x_r ((IntKind.i64.wrap (z5x + z17x)).tmod (x_r.length : Int))).ID)), (11, .bool z32x)] a ∧ HS W0 [own e_i64 3 z19A z18x.length z21n z18x, isH X] w) ?_ ?_
                      · skip
                        refine w_block ?_
                        refine w_loop (fun kq a w => ∃ z33x z34x, waybillref12_Walk.l2 kq x_r z5x z17x z18x z33x z34x = some z32x ∧ Sl 76 [] [(0, .slice (some ⟨z30b, z31o, none⟩) x_r.length c0), (7, .int .i64 z5x), (8, .slice z19A z18x.length z21n), (9, .int .i64 z17x), (10, .int .i64 ((rd e_api_Point x_r ((IntKind.i64.wrap (z5x + z17x)).tmod (x_r.length : Int))).ID)), (11, .bool z33x), (12, .int .i64 z34x)] a ∧ HS W0 [own e_i64 3 z19A z18x.length z21n z18x, isH X] w) _ ⟨false, 0, H, S0.sub ⟨rfl, rfl, rfl, rfl, rfl, rfl, rfl, trivial⟩, Hq⟩ ?_
                        clear H Hq S0
                        rintro k2 a w ⟨z33x, z34x, H, S0, Hq⟩
                        cases k2 with
                        | zero => simp [waybillref12_Walk.l2] at H
                        | succ k2 =>
                          refine ⟨k2, rfl, ?_⟩
                          rw [waybillref12_Walk.l2] at H
                          refine w_seq ?_
                          refine w_seq ?_
                          refine w_region ?_
                          refine r_pures [_, _] S0 rfl ?_
                          clear S0; intro a0 S0
                          refine r_len S0 rfl sl32 rfl ?_
                          clear S0; intro a0 S0
                          refine r_pures [_] S0 rfl ?_
                          clear S0; intro a0 S0
                          refine wl_nil ?_
                          refine nr_then ?_
                          by_cases z35h : z34x < (z18x.length : Int)
                          · replace H := (if_pos z35h).symm.trans H
                            refine w_true S0 rfl (decide_eq_true z35h) ?_
                            refine w_skip ?_
                            refine nr_then ?_
                            refine w_seq ?_
                            refine w_block ?_
                            obtain ⟨z36x, H, HU6⟩ := Option.bind_eq_some_iff.mp H
                            refine w_cutT (fun a w => Sl 76 [] [(0, .slice (some ⟨z30b, z31o, none⟩) x_r.length c0), (7, .int .i64 z5x), (8, .slice z19A z18x.length z21n), (9, .int .i64 z17x), (10, .int .i64 ((rd e_api_Point x_r ((IntKind.i64.wrap (z5x + z17x)).tmod (x_r.length : Int))).ID)), (11, .bool z36x), (12, .int .i64 z34x)] a ∧ HS W0 [own e_i64 3 z19A z18x.length z21n z18x, isH X] w) ?_ ?_
                            · skip
                              refine w_region ?_
                              refine r_pures [_, _] S0 rfl ?_
                              clear S0; intro a0 S0
                              by_cases z37h : z33x = true
                              · replace H := (if_pos z37h).symm.trans H
                                refine r_off S0 rfl rfl rfl z37h ?_ rfl
                                clear S0; intro a0 S0
                                refine r_off S0 rfl rfl rfl z37h ?_ rfl
                                clear S0; intro a0 S0
                                refine r_off S0 rfl rfl rfl z37h ?_ rfl
                                clear S0; intro a0 S0
                                refine r_off S0 rfl rfl rfl z37h ?_ rfl
                                clear S0; intro a0 S0
                                refine r_off S0 rfl rfl rfl z37h ?_ rfl
                                clear S0; intro a0 S0
                                refine r_off S0 rfl rfl rfl z37h ?_ rfl
                                clear S0; intro a0 S0
                                refine r_pick S0 rfl z37h _ rfl rfl ?_
                                clear S0; intro a0 S0
                                refine r_pures [_] S0 rfl ?_
                                clear S0; intro a0 S0
                                refine wl_nil ?_
                                refine nr_then ?_
                                obtain rfl := Option.some.inj H
                                exact ⟨S0.sub ⟨rfl, rfl, rfl, rfl, rfl, rfl, rfl, trivial⟩, Hq⟩
                              · replace H := (if_neg z37h).symm.trans H
                                refine r_on S0 rfl rfl rfl (Bool.eq_false_iff.mpr z37h) ?_
                                refine r_pures [_] S0 rfl ?_
                                clear S0; intro a0 S0
                                refine r_on S0 rfl rfl rfl (Bool.eq_false_iff.mpr z37h) ?_
                                refine r_pures [_] S0 rfl ?_
                                clear S0; intro a0 S0
                                refine r_on S0 rfl rfl rfl (Bool.eq_false_iff.mpr z37h) ?_
                                by_cases z38h : 0 ≤ z34x
                                · replace H := (if_pos z38h).symm.trans H
                                  obtain ⟨z39g, rfl⟩ := own_at [] Hq (by omega)
                                  refine r_index S0 rfl rfl sl32 ti3 z38h z35h rfl ?_
                                  clear S0; intro a0 S0
                                  refine r_on S0 rfl rfl rfl (Bool.eq_false_iff.mpr z37h) ?_
                                  refine r_elS S0 (own_rd [] Hq) z38h z35h rfl ti3 _ rfl rfl ?_
                                  clear S0; intro a0 S0
                                  refine r_on S0 rfl rfl rfl (Bool.eq_false_iff.mpr z37h) ?_
                                  refine r_pures [_] S0 rfl ?_
                                  clear S0; intro a0 S0
                                  refine r_on S0 rfl rfl rfl (Bool.eq_false_iff.mpr z37h) ?_
                                  refine r_pures [_] S0 rfl ?_
                                  clear S0; intro a0 S0
                                  refine r_pick S0 rfl (Bool.eq_false_iff.mpr z37h) _ rfl rfl ?_
                                  clear S0; intro a0 S0
                                  refine r_pures [_] S0 rfl ?_
                                  clear S0; intro a0 S0
                                  refine wl_nil ?_
                                  refine nr_then ?_
                                  obtain rfl := Option.some.inj H
                                  exact ⟨S0.sub ⟨rfl, rfl, rfl, rfl, rfl, rfl, rfl, trivial⟩, Hq⟩
                                · replace H := (if_neg z38h).symm.trans H
                                  exact nomatch H
                            · clear S0; rintro a w ⟨S0, Hq⟩
                              have H := HU6; clear HU6
                              refine nr_in ?_
                              refine nr_then ?_
                              refine w_region ?_
                              refine r_pures [_, _, _] S0 rfl ?_
                              clear S0; intro a0 S0
                              refine wl_nil ?_
                              refine nr_then ?_
                              exact ⟨z36x, (IntKind.i64.wrap (z34x + 1)), H, S0.sub ⟨rfl, rfl, rfl, rfl, rfl, rfl, rfl, trivial⟩, Hq⟩
                          · replace H := (if_neg z35h).symm.trans H
                            refine w_false S0 rfl (decide_eq_false z35h) ?_
                            refine w_exit ?_
                            refine ex_then ?_
                            refine ex_then ?_
                            refine ex_in ?_
                            refine nr_then ?_
                            obtain rfl := Option.some.inj H
                            exact ⟨S0.sub ⟨rfl, rfl, rfl, rfl, rfl, rfl, trivial⟩, Hq⟩
                      · clear S0; rintro a w ⟨S0, Hq⟩
                        have H := HU5; clear HU5
                        refine nr_then ?_
                        refine w_seq ?_
                        refine w_region ?_
                        refine r_pures [_, _] S0 rfl ?_
                        clear S0; intro a0 S0
                        refine wl_nil ?_
                        refine nr_then ?_
                        obtain ⟨z40x, H, HU7⟩ := Option.bind_eq_some_iff.mp H
                        refine w_cutT (fun a w => ∃ z41A z42m z43n, Sl 76 [] [(0, .slice (some ⟨z30b, z31o, none⟩) x_r.length c0), (7, .int .i64 z5x), (8, .slice z41A z42m z43n), (9, .int .i64 z17x)] a ∧ HS W0 [own e_i64 3 z41A z42m z43n z40x, isH X] w) ?_ ?_
                        · skip
                          by_cases z44h : z32x = true
                          · replace H := (if_pos z44h).symm.trans H
                            refine w_false S0 rfl (congrArg (!·) z44h) ?_
                            refine w_skip ?_
                            refine nr_then ?_
                            obtain rfl := Option.some.inj H
                            exact ⟨z19A, z18x.length, z21n, S0.sub ⟨rfl, rfl, rfl, rfl, trivial⟩, Hq⟩
                          · replace H := (if_neg z44h).symm.trans H
                            refine w_true S0 rfl (congrArg (!·) (Bool.eq_false_iff.mpr z44h)) ?_
                            refine w_region ?_
                            refine r_pures [_, _] S0 rfl ?_
                            clear S0; intro a0 S0
                            refine r_lit (e := e_i64) (l := ([(rd e_api_Point x_r ((IntKind.i64.wrap (z5x + z17x)).tmod (x_r.length : Int))).ID] : List Int)) (m := 1) (vs := [.int .i64 ((rd e_api_Point x_r ((IntKind.i64.wrap (z5x + z17x)).tmod (x_r.length : Int))).ID)]) S0 Hq sl32 ti3 rfl rfl rfl rfl rfl rfl ?_
                            clear S0 Hq; intro z45b a0 w S0 Hq
                            by_cases z47h : z18x.length + ([(rd e_api_Point x_r ((IntKind.i64.wrap (z5x + z17x)).tmod (x_r.length : Int))).ID] : List Int).length < 17592186044416
                            · replace H := (if_pos z47h).symm.trans H
                              refine r_app [_] S0 Hq (own_rd [] Hq) rfl rfl sl32 ti3 rfl z47h rfl rfl ?_
                              clear S0 Hq; intro z48A z49n a0 w S0 Hq; dsimp only [List.cons_append, List.nil_append] at Hq
                              refine r_pures [_] S0 rfl ?_
                              clear S0; intro a0 S0
                              refine wl_nil ?_
                              refine nr_then ?_
                              replace Hq := HS.pull [_, _] Hq
                              dsimp only [List.cons_append, List.nil_append] at Hq
                              replace Hq := HS.pull [_, _] Hq
                              dsimp only [List.cons_append, List.nil_append] at Hq
                              replace Hq := HS.keep [_, _] Hq
                              obtain rfl := Option.some.inj H
                              exact ⟨z48A, ((z18x ++ ([(rd e_api_Point x_r ((IntKind.i64.wrap (z5x + z17x)).tmod (x_r.length : Int))).ID] : List Int)).length), z49n, S0.sub ⟨rfl, rfl, rfl, rfl, trivial⟩, Hq⟩
                            · replace H := (if_neg z47h).symm.trans H
                              exact nomatch H
                        · clear S0; rintro a w ⟨z41A, z42m, z43n, S0, Hq⟩
                          have H := HU7; clear HU7
                          obtain rfl := own_len [] Hq
                          refine nr_in ?_
                          refine nr_then ?_
                          obtain rfl := Option.some.inj H
                          exact ⟨z41A, z40x.length, z43n, S0.sub ⟨rfl, rfl, rfl, rfl, trivial⟩, Hq⟩
                    · replace H := (if_neg z29h).symm.trans H
                      exact nomatch H
                  · replace H := (if_neg z28h).symm.trans H
                    exact nomatch H
              · clear S0; rintro a w ⟨z24A, z25m, z26n, S0, Hq⟩
                have H := HU4; clear HU4
                obtain rfl := own_len [] Hq
                refine nr_then ?_
                refine w_region ?_
                refine r_pures [_, _, _] S0 rfl ?_
                clear S0; intro a0 S0
                refine wl_nil ?_
                refine nr_then ?_
                exact ⟨(IntKind.i64.wrap (z17x + 1)), z23x, z24A, z23x.length, z26n, H, S0.sub ⟨rfl, rfl, rfl, rfl, trivial⟩, Hq⟩
            · replace H := (if_neg z22h).symm.trans H
              refine w_false S0 rfl (decide_eq_false z22h) ?_
              refine w_exit ?_
              refine ex_then ?_
              refine ex_then ?_
              refine ex_in ?_
              refine nr_then ?_
              obtain rfl := Option.some.inj H
              exact ⟨z19A, z18x.length, z21n, S0.sub ⟨rfl, trivial⟩, Hq⟩
        · clear S0; rintro a w ⟨z14A, z15m, z16n, S0, Hq⟩
          have H := HU3; clear HU3
          obtain rfl := own_len [] Hq
          refine nr_then ?_
          refine w_seq ?_
          refine w_region ?_
          refine r_pures [_, _, _] S0 rfl ?_
          clear S0; intro a0 S0
          refine wl_nil ?_
          refine nr_then ?_
          refine w_ret ?_
          obtain rfl := Option.some.inj H
          refine ret2 S0 rfl rfl rfl ?_
          replace Hq := HS.pull [_] Hq
          dsimp only [List.cons_append, List.nil_append] at Hq
          replace Hq := HS.pull [_] Hq
          dsimp only [List.cons_append, List.nil_append] at Hq
          exact ⟨z14A, z13x.length, z16n, rfl, Hq⟩
  · replace H := (if_neg z3h).symm.trans H
    refine w_true S0 rfl (congrArg (!·) (decide_eq_false z3h)) ?_
    refine w_seq ?_
    refine w_region ?_
    refine r_pures [_, _, _] S0 rfl ?_
    clear S0; intro a0 S0
    refine wl_nil ?_
    refine nr_then ?_
    refine w_ret ?_
    refine ret_in ?_
    refine ret_then ?_
    obtain rfl := Option.some.inj H
    replace Hq := HS.own_nil e_i64 3 Hq
    refine ret2 S0 rfl rfl rfl ?_
    replace Hq := HS.pull [_] Hq
    dsimp only [List.cons_append, List.nil_append] at Hq
    replace Hq := HS.pull [_] Hq
    dsimp only [List.cons_append, List.nil_append] at Hq
    exact ⟨none, 0, 0, rfl, Hq⟩

end Go.Proofs.Ytmdpjijafejgpaa.M

/- waybill/waybillref12.Lookup: a plain function, and that the machine's call comes to it: printed by a program of the session's own. -/
set_option linter.unusedVariables false
set_option linter.unusedSimpArgs false
namespace Go.Proofs.Ytmdpjijafejgpaa.M
open Go Go.Proofs.Ytmdpjijafejgpaa.Sl
/-! ### waybill/waybillref12.Lookup: function 14 -/
def waybillref12_Lookup.f (k : Nat) (x_r : List api_Point) (x_hash : Int) : Option (Int × Int) := (waybillref12_Walk.f k x_r x_hash).bind fun (z2t, z3t) => (if z3t = 0 then (if 0 < (z2t.length : Int) then (some ((rd e_i64 z2t 0), 0)) else (none)) else (some (0, z3t)))
set_option maxRecDepth 100000 in
set_option maxHeartbeats 4000000 in
theorem waybillref12_Lookup.calls (k : Nat) (A0 : Option Addr) (n0 c0 : Nat) (x_r : List api_Point) (x_hash : Int) (W0 : World) (X : Heap) (HR0 : Rd e_api_Point X A0 n0 c0 x_r) (Hq : HS W0 [isH X] W0) (r : Int × Int) (H : waybillref12_Lookup.f k x_r x_hash = some r) :
    Calls Try.prog 14 #[.slice A0 n0 c0, .int .u64 x_hash] W0 (fun e w => e = .returned (.tuple #[.int .i64 r.1, .int .i64 r.2]) ∧ HS W0 [isH X] w) := by
  obtain rfl := HR0.1
  rw [waybillref12_Lookup.f] at H
  refine calls_in Try.func14 rfl rfl ?_
  intro a0 S0
  refine w_seq ?_
  refine w_region ?_
  refine r_pures [_, _] S0 rfl ?_
  clear S0; intro a0 S0
  refine wl_nil ?_
  refine nr_then ?_
  refine w_seq ?_
  refine w_region ?_
  refine r_pures [_, _] S0 rfl ?_
  clear S0; intro a0 S0
  obtain ⟨Xz1, HXz1, HPz1, HBz1⟩ := call_frame [] Hq
  dsimp only [List.cons_append, List.nil_append] at HXz1 HBz1
  obtain ⟨⟨z2t, z3t⟩, Hc, H⟩ := Option.bind_eq_some_iff.mp H
  dsimp only at H
  refine r_call S0 rfl rfl goes15 rfl ?_
  refine (waybillref12_Walk.calls _ _ _ _ x_r x_hash _ _ (sl_isH_rd [] HPz1 HR0) HXz1 (z2t, z3t) Hc).mono ?_
  rintro e w ⟨z4A, z5m, z6n, rfl, Hq'⟩
  have Hq : HS W0 [own e_i64 3 z4A z5m z6n z2t, isH X] w := HBz1 [_] _ Hq'
  clear HXz1 HPz1 HBz1 Hq'
  obtain rfl := own_len [] Hq
  refine ⟨.tuple #[.slice z4A z2t.length z6n, .int .i64 z3t], rfl, ?_⟩; clear S0; intro a0 S0
  refine r_pures [_, _, _, _, _] S0 rfl ?_
  clear S0; intro a0 S0
  refine wl_nil ?_
  refine nr_then ?_
  refine w_seq ?_
  refine w_seq ?_
  refine w_region ?_
  refine r_pures [_, _] S0 rfl ?_
  clear S0; intro a0 S0
  refine wl_nil ?_
  refine nr_then ?_
  by_cases z7h : z3t = 0
  · replace H := (if_pos z7h).symm.trans H
    refine w_false S0 rfl (congrArg (!·) (decide_eq_true z7h)) ?_
    refine w_skip ?_
    refine nr_then ?_
    refine w_seq ?_
    refine w_region ?_
    refine r_pures [_] S0 rfl ?_
    clear S0; intro a0 S0
    by_cases z8h : 0 < (z2t.length : Int)
    · replace H := (if_pos z8h).symm.trans H
      obtain ⟨z9g, rfl⟩ := own_at [] Hq (by omega)
      refine r_index S0 rfl rfl sl32 ti3 (by decide : (0:Int) ≤ 0) z8h rfl ?_
      clear S0; intro a0 S0
      refine r_elS S0 (own_rd [] Hq) (by decide : (0:Int) ≤ 0) z8h rfl ti3 _ rfl rfl ?_
      clear S0; intro a0 S0
      refine r_pures [_, _] S0 rfl ?_
      clear S0; intro a0 S0
      refine wl_nil ?_
      refine nr_then ?_
      refine w_ret ?_
      obtain rfl := Option.some.inj H
      refine ret2 S0 rfl rfl rfl ?_
      replace Hq := HS.pull [_] Hq
      dsimp only [List.cons_append, List.nil_append] at Hq
      replace Hq := HS.keep [_] Hq
      exact ⟨rfl, Hq⟩
    · replace H := (if_neg z8h).symm.trans H
      exact nomatch H
  · replace H := (if_neg z7h).symm.trans H
    refine w_true S0 rfl (congrArg (!·) (decide_eq_false z7h)) ?_
    refine w_seq ?_
    refine w_region ?_
    refine r_pures [_, _, _] S0 rfl ?_
    clear S0; intro a0 S0
    refine wl_nil ?_
    refine nr_then ?_
    refine w_ret ?_
    refine ret_then ?_
    obtain rfl := Option.some.inj H
    refine ret2 S0 rfl rfl rfl ?_
    replace Hq := HS.pull [_] Hq
    dsimp only [List.cons_append, List.nil_append] at Hq
    replace Hq := HS.keep [_] Hq
    exact ⟨rfl, Hq⟩

end Go.Proofs.Ytmdpjijafejgpaa.M

/- Rows of one's own behind the library's sort and its like: the shelf's contracts in the words of chunks. -/
set_option linter.unusedVariables false
set_option linter.unusedSimpArgs false
namespace Go.Proofs.Ytmdpjijafejgpaa.Sl
open Go Go.Shelf Go.Sort Go.RowKit

variable {P : Program} {ρ : Ren} {w w0 w' : World} {cs : List Hp} {pre post : List Hp} {α : Type} {e : En α} {E : TypeId} {A B : Option Addr} {m c : Nat} {l l2 : List α}

theorem flat_int {e : En Int} (hz : e.sz = 1) (he : ∀ x, e.enc x = [.int .i64 x]) (l : List Int) : l.flatMap e.enc = l.map (Value.int .i64) := by
  induction l with
  | nil => rfl
  | cons x l ih => rw [List.flatMap_cons, he, ih]; rfl
/-- slices.Sort, of whole numbers -/
theorem sort_ints (Ly : Lays.n189 P ρ) {e : En Int} (hz : e.sz = 1) (he : ∀ x, e.enc x = [.int .i64 x]) (pre : List Hp) {l : List Int} (H : HS w0 (pre ++ own e E A m c l :: post) w) (hsz : l.length < 4611686018427387904) :
    Calls P (ρ.f 189) #[.slice A m c] w fun x w' => x = .returned (.tuple #[]) ∧ HS w0 (pre ++ own e E A m c (l.mergeSort fun x y => decide (x ≤ y)) :: post) w' := by
  have hlm := own_len pre H
  rcases Nat.eq_zero_or_pos m with h0 | hpos
  · subst h0
    have : l = [] := List.eq_nil_of_length_eq_zero hlm
    subst this
    refine (Any.slices_Sort_int_none Ly A c w).mono ?_
    rintro x w' ⟨rfl, rfl⟩
    exact ⟨rfl, by simpa using H⟩
  · obtain ⟨g, cur, rfl, hb, h1, h2, h3, h4, h5⟩ := own_blk pre H hpos
    rw [hz, Nat.mul_one] at h3 h4
    rw [flat_int hz he] at h4
    have hg : g < w.heap.size := (Array.getElem?_eq_some_iff.1 hb).1
    have hh : Holds (Value.int .i64) w g 0 l.toArray := holds_of_blockI hb (by rw [h5]; exact h4)
    have := Any.slices_Sort_int Ly g 0 c l w hh hg hsz
    rw [h5] at this
    refine this.mono ?_
    rintro x w' ⟨rfl, n, os, rfl⟩
    have hlen : (l.mergeSort fun x y => decide (x ≤ y)).length = m := by rw [List.length_mergeSort, h5]
    refine ⟨rfl, HS.rowed pre H hpos (grownBy_sortedI _) (Nat.le_add_right _ _) (heap_sortedI _ hb) ?_ ?_ hlen⟩
    · rw [hz]; simp [putCells, h3]
    · rw [hz, Nat.mul_one, flat_int hz he]
      rw [← hlen]; exact take_putCellsI cur _ (by rw [hlen]; omega)
/-- slices.Compact, of whole numbers -/
theorem compact_ints (Ly : Lays2.n20 P ρ) {e : En Int} (hz : e.sz = 1) (he : ∀ x, e.enc x = [.int .i64 x]) (pre : List Hp) {l : List Int} (H : HS w0 (pre ++ own e E A m c l :: post) w) (hsz : l.length < 4611686018427387904) :
    Calls P (ρ.f 20) #[.slice A m c] w fun x w' => ∃ Ar nr cr, x = .returned (.slice Ar nr cr) ∧ HS w0 (pre ++ own e E Ar nr cr (Lib.compact l) :: post) w' := by
  have hlm := own_len pre H
  rcases Nat.eq_zero_or_pos m with h0 | hpos
  · subst h0
    have : l = [] := List.eq_nil_of_length_eq_zero hlm
    subst this
    refine (Any.slices_Compact_int_empty Ly A c w).mono ?_
    rintro x w' ⟨rfl, rfl⟩
    exact ⟨_, _, _, rfl, by simpa [Lib.compact, Lib.compactUpTo] using H⟩
  · obtain ⟨g, cur, rfl, hb, h1, h2, h3, h4, h5⟩ := own_blk pre H hpos
    rw [hz, Nat.mul_one] at h3 h4
    rw [flat_int hz he] at h4
    have hh : Holds (Value.int .i64) w g 0 l.toArray := holds_of_blockI hb (by rw [h5]; exact h4)
    have := Any.slices_Compact_int Ly g 0 c l w hh (by omega) (by omega)
    rw [h5] at this
    refine this.mono ?_
    rintro x w' ⟨rfl, n, rfl⟩
    have hcl := Lib.compact_length_le l
    have hlen : (Lib.compact l ++ List.replicate (m - (Lib.compact l).length) (0 : Int)).length = m := by rw [List.length_append, List.length_replicate]; omega
    have k1 := grownBy_sortedI (w := w) (g := g) (n := n) (os := #[]) (Lib.compact l ++ List.replicate (m - (Lib.compact l).length) (0 : Int)).toArray
    have k2 := heap_sortedI (n := n) (os := #[]) (Lib.compact l ++ List.replicate (m - (Lib.compact l).length) (0 : Int)).toArray hb
    rw [grow_empty] at k1 k2
    have HH := HS.rowed pre H hpos k1 (Nat.le_add_right _ _) k2 (l' := Lib.compact l ++ List.replicate (m - (Lib.compact l).length) (0 : Int)) (by rw [hz]; simp [putCells, h3]) (by
      rw [hz, Nat.mul_one, flat_int hz he]
      have hT := take_putCellsI cur (Lib.compact l ++ List.replicate (m - (Lib.compact l).length) (0 : Int)) (by rw [hlen]; omega)
      rw [hlen] at hT; exact hT) hlen
    have HH2 := HS.shrink pre HH (q := (Lib.compact l).length) (by omega)
    rw [List.take_left' rfl] at HH2
    exact ⟨_, _, _, rfl, HH2⟩
end Go.Proofs.Ytmdpjijafejgpaa.Sl

/- The library's functions that this seat's code calls, in the words of chunks. -/
set_option linter.unusedVariables false
set_option linter.unusedSimpArgs false
set_option maxRecDepth 100000
namespace Go.Proofs.Ytmdpjijafejgpaa.M
open Go Go.Shelf Go.Proofs Go.Proofs.Ytmdpjijafejgpaa.Sl

def slices_Sort_int_int.f (x : List Int) : Option (List Int) := if x.length < 4611686018427387904 then some (x.mergeSort fun a b => decide (a ≤ b)) else none
theorem slices_Sort_int_int.calls (A : Option Addr) (n c : Nat) (x : List Int) (W0 : World) (X : Heap) (Hq : HS W0 [own e_i64 3 A n c x, isH X] W0) (r : List Int) (H : slices_Sort_int_int.f x = some r) :
    Calls Try.prog 33 #[.slice A n c] W0 (fun e w => e = .returned (.tuple #[]) ∧ HS W0 [own e_i64 3 A n c r, isH X] w) := by
  rw [slices_Sort_int_int.f] at H
  split at H
  · rename_i h; obtain rfl := Option.some.inj H
    exact sort_ints YtmdpjijafejgpaaLNm189 rfl (fun _ => rfl) [] Hq h
  · cases H

def slices_BinarySearch_int_int.f (x : List Int) (t : Int) : Option (Int × Bool) := if x.length < 4611686018427387904 ∧ x.Pairwise (· ≤ ·) then some ((x.countP (· < t) : Nat), x.contains t) else none
theorem slices_BinarySearch_int_int.calls (A : Option Addr) (n c : Nat) (x : List Int) (t : Int) (W0 : World) (X : Heap) (HR : Rd e_i64 X A n c x) (Hq : HS W0 [isH X] W0) (r : Int × Bool) (H : slices_BinarySearch_int_int.f x t = some r) :
    Calls Try.prog 34 #[.slice A n c, .int .i64 t] W0 (fun e w => e = .returned (.tuple #[.int .i64 r.1, .bool r.2]) ∧ HS W0 [isH X] w) := by
  rw [slices_BinarySearch_int_int.f] at H
  split at H
  · rename_i h; obtain rfl := Option.some.inj H
    have R := isH_rd [] Hq HR
    rcases Nat.eq_zero_or_pos n with h0 | h0
    · subst h0
      have : x = [] := List.eq_nil_of_length_eq_zero HR.1
      subst this
      refine (Any.slices_BinarySearch_int_empty YtmdpjijafejgpaaLNm225 A c t W0).mono ?_
      rintro e w ⟨rfl, rfl⟩
      exact ⟨rfl, Hq⟩
    · obtain ⟨b, o, rfl, f⟩ := R.2.2.2 h0
      refine (Any.slices_BinarySearch_int YtmdpjijafejgpaaLNm225 b o n c x t W0 (by rw [HR.1]; exact Nat.le_refl _) (by rw [← HR.1]; exact h.1) (fun j hj => ?_) (by rw [← HR.1, List.take_length]; exact h.2)).mono ?_
      · have := f j 0 (.int .i64 (x.getD j 0)) (by rw [← HR.1]; exact hj) rfl
        rw [cell_hcell]
        simpa [e_i64] using this
      · rintro e w ⟨rfl, q, rfl⟩
        rw [← HR.1, List.take_length]
        exact ⟨rfl, HS.drewN Hq q⟩
  · cases H
end Go.Proofs.Ytmdpjijafejgpaa.M

/- waybill/ring.Shares: a plain function, and that the machine's call comes to it: printed by a program of the session's own. -/
set_option linter.unusedVariables false
set_option linter.unusedSimpArgs false
namespace Go.Proofs.Ytmdpjijafejgpaa.M
open Go Go.Proofs.Ytmdpjijafejgpaa.Sl
/-! ### waybill/ring.Shares: function 16 -/
def ring_Shares.l1 : Nat → (List api_Point) → Int → Int → Int → Option (Int)
  | 0, _, _, _, _ => none
  | k + 1, x_r, z24t, z27x, z28x => if z27x < z28x then (if 0 ≤ (IntKind.i64.wrap (sh_shr .u64 (IntKind.u64.wrap (IntKind.i64.wrap (z27x + z28x))) 1)) then (if (IntKind.i64.wrap (sh_shr .u64 (IntKind.u64.wrap (IntKind.i64.wrap (z27x + z28x))) 1)) < (x_r.length : Int) then ((ring_begins_1.f (rd e_api_Point x_r (IntKind.i64.wrap (sh_shr .u64 (IntKind.u64.wrap (IntKind.i64.wrap (z27x + z28x))) 1))) z24t).bind fun z35t => (((if z35t < 0 then (some (IntKind.i64.wrap ((IntKind.i64.wrap (sh_shr .u64 (IntKind.u64.wrap (IntKind.i64.wrap (z27x + z28x))) 1)) + 1), z28x)) else (some (z27x, IntKind.i64.wrap (sh_shr .u64 (IntKind.u64.wrap (IntKind.i64.wrap (z27x + z28x))) 1)))) : Option (Int × Int)).bind fun (z36x, z37x) => (ring_Shares.l1 k x_r z24t z36x z37x))) else (none)) else (none)) else (some z27x)
def ring_Shares.l0 : Nat → (List api_Point) → Int → (List Int) → (List Int) → Int → (List Int) → Option ((List Int))
  | 0, _, _, _, _, _, _ => none
  | k + 1, x_r, x_keys, z2t, z12t, z18x, z19x => if z18x < x_keys then ((hash_Ints.f k 2 ([z18x] : List Int)).bind fun z24t => ((((ring_Shares.l1 k x_r z24t 0 (x_r.length : Int))) : Option (Int)).bind fun z26x => (((if z26x < (x_r.length : Int) then (if 0 ≤ z26x then ((ring_begins_1.f (rd e_api_Point x_r z26x) z24t).bind fun z45t => (some (decide (z45t = 0)))) else (none)) else (some false)) : Option (Bool)).bind fun z39x => ((ring_round_first.f (⟨x_r, z26x⟩ : ring_round)).bind fun z47t => ((slices_BinarySearch_int_int.f z12t z47t).bind fun (z49t, z50t) => (if 0 ≤ z49t then (if z49t < (Int.toNat (z2t.length : Int) : Int) then (ring_Shares.l0 k x_r x_keys z2t z12t (IntKind.i64.wrap (z18x + 1)) (z19x.set (Int.toNat z49t) (IntKind.i64.wrap ((rd e_i64 z19x z49t) + 1)))) else (none)) else (none))))))) else (some z19x)
def ring_Shares.f (k : Nat) (x_r : List api_Point) (x_keys : Int) : Option ((List Int) × Int) := (ring_Walk.f k x_r 0).bind fun (z2t, z3t) => (if z3t = 0 then (((if x_keys < 0 then (some true) else (some (decide (4096 < x_keys)))) : Option (Bool)).bind fun z8x => (if z8x = true then (some (([] : List Int), 4)) else ((slices_Sort_int_int.f z2t).bind fun z12t => (if 0 ≤ (z2t.length : Int) then (if Int.toNat (z2t.length : Int) < 17592186044416 then ((((ring_Shares.l0 k x_r x_keys z2t z12t 0 (List.replicate (Int.toNat (z2t.length : Int)) e_i64.z))) : Option ((List Int))).bind fun z17x => (some (z17x, 0))) else (none)) else (none))))) else (some (([] : List Int), z3t)))
set_option maxRecDepth 100000 in
set_option maxHeartbeats 4000000 in
theorem ring_Shares.calls (k : Nat) (A0 : Option Addr) (n0 c0 : Nat) (x_r : List api_Point) (x_keys : Int) (W0 : World) (X : Heap) (HR0 : Rd e_api_Point X A0 n0 c0 x_r) (Hq : HS W0 [isH X] W0) (r : (List Int) × Int) (H : ring_Shares.f k x_r x_keys = some r) :
    Calls Try.prog 16 #[.slice A0 n0 c0, .int .i64 x_keys] W0 (fun e w => ∃ Ar0 nr0 cr0, e = .returned (.tuple #[.slice Ar0 nr0 cr0, .int .i64 r.2]) ∧ HS W0 [own e_i64 3 Ar0 nr0 cr0 r.1, isH X] w) := by
  obtain rfl := HR0.1
  rw [ring_Shares.f] at H
  refine calls_in Try.func16 rfl rfl ?_
  intro a0 S0
  refine w_seq ?_
  refine w_region ?_
  refine r_pures [_, _] S0 rfl ?_
  clear S0; intro a0 S0
  refine wl_nil ?_
  refine nr_then ?_
  refine w_seq ?_
  refine w_region ?_
  refine r_pures [_] S0 rfl ?_
  clear S0; intro a0 S0
  obtain ⟨Xz1, HXz1, HPz1, HBz1⟩ := call_frame [] Hq
  dsimp only [List.cons_append, List.nil_append] at HXz1 HBz1
  obtain ⟨⟨z2t, z3t⟩, Hc, H⟩ := Option.bind_eq_some_iff.mp H
  dsimp only at H
  refine r_call S0 rfl rfl goes11 rfl ?_
  refine (ring_Walk.calls _ _ _ _ x_r 0 _ _ (sl_isH_rd [] HPz1 HR0) HXz1 (z2t, z3t) Hc).mono ?_
  rintro e w ⟨z4A, z5m, z6n, rfl, Hq'⟩
  have Hq : HS W0 [own e_i64 3 z4A z5m z6n z2t, isH X] w := HBz1 [_] _ Hq'
  clear HXz1 HPz1 HBz1 Hq'
  obtain rfl := own_len [] Hq
  refine ⟨.tuple #[.slice z4A z2t.length z6n, .int .i64 z3t], rfl, ?_⟩; clear S0; intro a0 S0
  refine r_pures [_, _, _, _, _] S0 rfl ?_
  clear S0; intro a0 S0
  refine wl_nil ?_
  refine nr_then ?_
  refine w_seq ?_
  refine w_block ?_
  refine w_seq ?_
  refine w_region ?_
  refine r_pures [_, _, _] S0 rfl ?_
  clear S0; intro a0 S0
  refine wl_nil ?_
  refine nr_then ?_
  by_cases z7h : z3t = 0
  · replace H := (if_pos z7h).symm.trans H
    refine w_false S0 rfl (congrArg (!·) (decide_eq_true z7h)) ?_
    refine w_seq ?_
    obtain ⟨z8x, H, HU1⟩ := Option.bind_eq_some_iff.mp H
    refine w_cutT (fun a w => Sl 56 [] [(0, .slice A0 x_r.length c0), (1, .int .i64 x_keys), (6, .slice z4A z2t.length z6n), (21, .bool z8x)] a ∧ HS W0 [own e_i64 3 z4A z2t.length z6n z2t, isH X] w) ?_ ?_
    · skip
      refine w_region ?_
      refine r_pures [_, _, _] S0 rfl ?_
      clear S0; intro a0 S0
      by_cases z9h : x_keys < 0
      · replace H := (if_pos z9h).symm.trans H
        refine r_off S0 rfl rfl rfl (decide_eq_true z9h) ?_ rfl
        clear S0; intro a0 S0
        refine r_off S0 rfl rfl rfl (decide_eq_true z9h) ?_ rfl
        clear S0; intro a0 S0
        refine r_pick S0 rfl (decide_eq_true z9h) _ rfl rfl ?_
        clear S0; intro a0 S0
        refine r_pures [_] S0 rfl ?_
        clear S0; intro a0 S0
        refine wl_nil ?_
        refine nr_then ?_
        obtain rfl := Option.some.inj H
        exact ⟨S0.sub ⟨rfl, rfl, rfl, rfl, trivial⟩, Hq⟩
      · replace H := (if_neg z9h).symm.trans H
        refine r_on S0 rfl rfl rfl (decide_eq_false z9h) ?_
        refine r_pures [_] S0 rfl ?_
        clear S0; intro a0 S0
        refine r_on S0 rfl rfl rfl (decide_eq_false z9h) ?_
        refine r_pures [_] S0 rfl ?_
        clear S0; intro a0 S0
        refine r_pick S0 rfl (decide_eq_false z9h) _ rfl rfl ?_
        clear S0; intro a0 S0
        refine r_pures [_] S0 rfl ?_
        clear S0; intro a0 S0
        refine wl_nil ?_
        refine nr_then ?_
        obtain rfl := Option.some.inj H
        exact ⟨S0.sub ⟨rfl, rfl, rfl, rfl, trivial⟩, Hq⟩
    · clear S0; rintro a w ⟨S0, Hq⟩
      have H := HU1; clear HU1
      refine nr_then ?_
      by_cases z10h : z8x = true
      · replace H := (if_pos z10h).symm.trans H
        refine w_true S0 rfl z10h ?_
        refine w_seq ?_
        refine w_region ?_
        refine r_pures [_, _] S0 rfl ?_
        clear S0; intro a0 S0
        refine wl_nil ?_
        refine nr_then ?_
        refine w_ret ?_
        refine ret_in ?_
        refine ret_then ?_
        obtain rfl := Option.some.inj H
        replace Hq := HS.own_nil e_i64 3 Hq
        refine ret2 S0 rfl rfl rfl ?_
        replace Hq := HS.pull [_, _] Hq
        dsimp only [List.cons_append, List.nil_append] at Hq
        replace Hq := HS.pull [_] Hq
        dsimp only [List.cons_append, List.nil_append] at Hq
        replace Hq := HS.keep [_, _] Hq
        exact ⟨none, 0, 0, rfl, Hq⟩
      · replace H := (if_neg z10h).symm.trans H
        refine w_false S0 rfl (Bool.eq_false_iff.mpr z10h) ?_
        refine w_skip ?_
        refine nr_in ?_
        refine nr_then ?_
        refine w_seq ?_
        refine w_region ?_
        refine r_pures [_] S0 rfl ?_
        clear S0; intro a0 S0
        obtain ⟨Xz11, HXz11, HPz11, HBz11⟩ := call_frame [_] Hq
        dsimp only [List.cons_append, List.nil_append] at HXz11 HBz11
        obtain ⟨z12t, Hc, H⟩ := Option.bind_eq_some_iff.mp H
        refine r_call S0 rfl rfl goes33 rfl ?_
        refine (slices_Sort_int_int.calls _ _ _ z2t _ _  HXz11 z12t Hc).mono ?_
        rintro e w ⟨rfl, Hq'⟩
        have Hq : HS W0 [own e_i64 3 z4A z2t.length z6n z12t, isH X] w := HBz11 [_] _ Hq'
        clear HXz11 HPz11 HBz11 Hq'
        refine ⟨.tuple #[], rfl, ?_⟩; clear S0; intro a0 S0
        refine wl_nil ?_
        refine nr_then ?_
        refine w_seq ?_
        refine w_region ?_
        refine r_pures [_] S0 rfl ?_
        clear S0; intro a0 S0
        refine r_len S0 rfl sl32 rfl ?_
        clear S0; intro a0 S0
        by_cases z13h : 0 ≤ (z2t.length : Int)
        · replace H := (if_pos z13h).symm.trans H
          by_cases z14h : Int.toNat (z2t.length : Int) < 17592186044416
          · replace H := (if_pos z14h).symm.trans H
            refine r_make (e := e_i64) S0 Hq rfl rfl sl32 ti3 rfl z13h z14h rfl rfl ?_
            clear S0 Hq; intro z15b a0 w S0 Hq
            refine r_pures [_] S0 rfl ?_
            clear S0; intro a0 S0
            refine wl_nil ?_
            refine nr_then ?_
            refine w_seq ?_
            refine w_seq ?_
            refine w_region ?_
            refine r_pures [_, _] S0 rfl ?_
            clear S0; intro a0 S0
            refine wl_nil ?_
            refine nr_then ?_
            obtain ⟨z17x, H, HU2⟩ := Option.bind_eq_some_iff.mp H
            refine w_cutT (fun a w => Sl 56 [] [(8, .slice (some ⟨z15b, 0, none⟩) (Int.toNat (z2t.length : Int)) (Int.toNat (z2t.length : Int)))] a ∧ HS W0 [own e_i64 3 (some ⟨z15b, 0, none⟩) (Int.toNat (z2t.length : Int)) (Int.toNat (z2t.length : Int)) z17x, isH X] w) ?_ ?_
            · skip
              refine w_block ?_
              refine w_loop (fun kq a w => ∃ z18x z19x, ring_Shares.l0 kq x_r x_keys z2t z12t z18x z19x = some z17x ∧ Sl 56 [] [(0, .slice A0 x_r.length c0), (6, .slice z4A z2t.length z6n), (8, .slice (some ⟨z15b, 0, none⟩) (Int.toNat (z2t.length : Int)) (Int.toNat (z2t.length : Int))), (33, .int .i64 x_keys), (34, .int .i64 z18x)] a ∧ HS W0 [own e_i64 3 (some ⟨z15b, 0, none⟩) (Int.toNat (z2t.length : Int)) (Int.toNat (z2t.length : Int)) z19x, own e_i64 3 z4A z2t.length z6n z12t, isH X] w) _ ⟨0, (List.replicate (Int.toNat (z2t.length : Int)) e_i64.z), H, S0.sub ⟨rfl, rfl, rfl, rfl, rfl, trivial⟩, Hq⟩ ?_
              clear H Hq S0
              rintro k0 a w ⟨z18x, z19x, H, S0, Hq⟩
              cases k0 with
              | zero => simp [ring_Shares.l0] at H
              | succ k0 =>
                refine ⟨k0, rfl, ?_⟩
                rw [ring_Shares.l0] at H
                refine w_seq ?_
                refine w_region ?_
                refine r_pures [_] S0 rfl ?_
                clear S0; intro a0 S0
                refine wl_nil ?_
                refine nr_then ?_
                refine w_seq ?_
                by_cases z20h : z18x < x_keys
                · replace H := (if_pos z20h).symm.trans H
                  refine w_true S0 rfl (decide_eq_true z20h) ?_
                  refine w_skip ?_
                  refine nr_then ?_
                  refine w_seq ?_
                  refine w_block ?_
                  refine w_seq ?_
                  refine w_region ?_
                  refine r_pures [_, _] S0 rfl ?_
                  clear S0; intro a0 S0
                  refine wl_nil ?_
                  refine nr_then ?_
                  refine w_seq ?_
                  refine w_region ?_
                  refine r_pures [_, _, _] S0 rfl ?_
                  clear S0; intro a0 S0
                  refine r_lit (e := e_i64) (l := ([z18x] : List Int)) (m := 1) (vs := [.int .i64 z18x]) S0 Hq sl32 ti3 rfl rfl rfl rfl rfl rfl ?_
                  clear S0 Hq; intro z21b a0 w S0 Hq
                  obtain ⟨Xz23, HXz23, HPz23, HBz23⟩ := call_frame [] Hq
                  dsimp only [List.cons_append, List.nil_append] at HXz23 HBz23
                  obtain ⟨z24t, Hc, H⟩ := Option.bind_eq_some_iff.mp H
                  refine r_call S0 rfl rfl goes25 rfl ?_
                  refine (hash_Ints.calls _ 2 _ _ _ ([z18x] : List Int) _ _ (sl_own_rd [] HPz23) HXz23 z24t Hc).mono ?_
                  rintro e w ⟨rfl, Hq'⟩
                  have Hq : HS W0 [own e_i64 3 (some ⟨z21b, 0, none⟩) 1 1 ([z18x] : List Int), own e_i64 3 (some ⟨z15b, 0, none⟩) (Int.toNat (z2t.length : Int)) (Int.toNat (z2t.length : Int)) z19x, own e_i64 3 z4A z2t.length z6n z12t, isH X] w := HBz23 [] _ Hq'
                  clear HXz23 HPz23 HBz23 Hq'
                  refine ⟨.int .u64 z24t, rfl, ?_⟩; clear S0; intro a0 S0
                  refine r_call S0 rfl rfl goes29 rfl ?_
                  refine calls_in Try.func29 rfl rfl ?_
                  intro a1 S1
                  refine w_seq ?_
                  refine w_region ?_
                  refine r_alloc S1 Hq ti63 rfl ?_
                  clear S1 Hq; intro z25b a1 w S1 Hq
                  refine wl_nil ?_
                  refine nr_then ?_
                  refine w_seq ?_
                  refine w_region ?_
                  refine r_pures [_, _] S1 rfl ?_
                  clear S1; intro a1 S1
                  refine r_call S1 rfl rfl goes47 rfl ?_
                  refine calls_in Try.func47 rfl rfl ?_
                  intro a2 S2
                  refine w_seq ?_
                  refine w_region ?_
                  refine r_pures [_, _] S2 rfl ?_
                  clear S2; intro a2 S2
                  refine wl_nil ?_
                  refine nr_then ?_
                  refine w_seq ?_
                  refine w_region ?_
                  refine r_pures [_] S2 rfl ?_
                  clear S2; intro a2 S2
                  refine r_len S2 rfl sl25 rfl ?_
                  clear S2; intro a2 S2
                  refine r_pures [_] S2 rfl ?_
                  clear S2; intro a2 S2
                  refine wl_nil ?_
                  refine nr_then ?_
                  refine w_seq ?_
                  refine w_region ?_
                  refine r_pures [_, _, _] S2 rfl ?_
                  clear S2; intro a2 S2
                  refine wl_nil ?_
                  refine nr_then ?_
                  refine w_seq ?_
                  obtain ⟨z26x, H, HU3⟩ := Option.bind_eq_some_iff.mp H
                  refine w_cutT (fun a w => Sl 49 [] [(0, .slice A0 x_r.length c0), (1, .int .u64 z24t), (2, .func (.func 48) #[] #[]), (8, .int .i64 (x_r.length : Int)), (9, .int .i64 z26x)] a ∧ HS W0 [bx z25b 63 [.slice none 0 0, .int .i64 0], own e_i64 3 (some ⟨z21b, 0, none⟩) 1 1 ([z18x] : List Int), own e_i64 3 (some ⟨z15b, 0, none⟩) (Int.toNat (z2t.length : Int)) (Int.toNat (z2t.length : Int)) z19x, own e_i64 3 z4A z2t.length z6n z12t, isH X] w) ?_ ?_
                  · skip
                    refine w_block ?_
                    refine w_loop (fun kq a w => ∃ z27x z28x, ring_Shares.l1 kq x_r z24t z27x z28x = some z26x ∧ Sl 49 [] [(0, .slice A0 x_r.length c0), (1, .int .u64 z24t), (2, .func (.func 48) #[] #[]), (8, .int .i64 (x_r.length : Int)), (9, .int .i64 z27x), (10, .int .i64 z28x)] a ∧ HS W0 [bx z25b 63 [.slice none 0 0, .int .i64 0], own e_i64 3 (some ⟨z21b, 0, none⟩) 1 1 ([z18x] : List Int), own e_i64 3 (some ⟨z15b, 0, none⟩) (Int.toNat (z2t.length : Int)) (Int.toNat (z2t.length : Int)) z19x, own e_i64 3 z4A z2t.length z6n z12t, isH X] w) _ ⟨0, (x_r.length : Int), H, S2.sub ⟨rfl, rfl, rfl, rfl, rfl, rfl, trivial⟩, Hq⟩ ?_
                    clear H Hq S2
                    rintro k1 a w ⟨z27x, z28x, H, S2, Hq⟩
                    cases k1 with
                    | zero => simp [ring_Shares.l1] at H
                    | succ k1 =>
                      refine ⟨k1, rfl, ?_⟩
                      rw [ring_Shares.l1] at H
                      refine w_seq ?_
                      refine w_seq ?_
                      refine w_region ?_
                      refine r_pures [_, _, _] S2 rfl ?_
                      clear S2; intro a2 S2
                      refine wl_nil ?_
                      refine nr_then ?_
                      by_cases z29h : z27x < z28x
                      · replace H := (if_pos z29h).symm.trans H
                        refine w_true S2 rfl (decide_eq_true z29h) ?_
                        refine w_skip ?_
                        refine nr_then ?_
                        refine w_block ?_
                        refine w_seq ?_
                        refine w_region ?_
                        refine r_pures [_, _, _] S2 rfl ?_
                        clear S2; intro a2 S2
                        refine r_conv S2 rfl und3 und81 rfl ?_
                        clear S2; intro a2 S2
                        refine r_shr' S2 rfl rfl (by decide) rfl ?_
                        clear S2; intro a2 S2
                        refine r_conv S2 rfl und81 und3 rfl ?_
                        clear S2; intro a2 S2
                        refine r_pures [_] S2 rfl ?_
                        clear S2; intro a2 S2
                        refine wl_nil ?_
                        refine nr_then ?_
                        refine w_seq ?_
                        refine w_region ?_
                        refine r_pures [_, _, _] S2 rfl ?_
                        clear S2; intro a2 S2
                        by_cases z30h : 0 ≤ (IntKind.i64.wrap (sh_shr .u64 (IntKind.u64.wrap (IntKind.i64.wrap (z27x + z28x))) 1))
                        · replace H := (if_pos z30h).symm.trans H
                          by_cases z31h : (IntKind.i64.wrap (sh_shr .u64 (IntKind.u64.wrap (IntKind.i64.wrap (z27x + z28x))) 1)) < (x_r.length : Int)
                          · replace H := (if_pos z31h).symm.trans H
                            obtain ⟨z32b, z33o, rfl⟩ := (isH_rd [_, _, _, _] Hq HR0).at (by omega)
                            refine r_index S2 rfl rfl sl25 ti39 z30h z31h rfl ?_
                            clear S2; intro a2 S2
                            refine r_elA (vs := [.int .u64 ((rd e_api_Point x_r (IntKind.i64.wrap (sh_shr .u64 (IntKind.u64.wrap (IntKind.i64.wrap (z27x + z28x))) 1))).Hash), .int .i64 ((rd e_api_Point x_r (IntKind.i64.wrap (sh_shr .u64 (IntKind.u64.wrap (IntKind.i64.wrap (z27x + z28x))) 1))).ID)]) S2 (isH_rd [_, _, _, _] Hq HR0) z30h z31h rfl ti39 rfl rfl rfl ?_
                            clear S2; intro a2 S2
                            refine r_pures [_] S2 rfl ?_
                            clear S2; intro a2 S2
                            obtain ⟨Xz34, HXz34, HPz34, HBz34⟩ := call_frame [] Hq
                            dsimp only [List.cons_append, List.nil_append] at HXz34 HBz34
                            obtain ⟨z35t, Hc, H⟩ := Option.bind_eq_some_iff.mp H
                            refine r_call S2 rfl rfl goes48 rfl ?_
                            refine (ring_begins_1.calls (rd e_api_Point x_r (IntKind.i64.wrap (sh_shr .u64 (IntKind.u64.wrap (IntKind.i64.wrap (z27x + z28x))) 1))) z24t _ _  HXz34 z35t Hc).mono ?_
                            rintro e w ⟨rfl, Hq'⟩
                            have Hq : HS W0 [bx z25b 63 [.slice none 0 0, .int .i64 0], own e_i64 3 (some ⟨z21b, 0, none⟩) 1 1 ([z18x] : List Int), own e_i64 3 (some ⟨z15b, 0, none⟩) (Int.toNat (z2t.length : Int)) (Int.toNat (z2t.length : Int)) z19x, own e_i64 3 z4A z2t.length z6n z12t, isH X] w := HBz34 [] _ Hq'
                            clear HXz34 HPz34 HBz34 Hq'
                            refine ⟨.int .i64 z35t, rfl, ?_⟩; clear S2; intro a2 S2
                            refine r_pures [_] S2 rfl ?_
                            clear S2; intro a2 S2
                            refine wl_nil ?_
                            refine nr_then ?_
                            obtain ⟨⟨z36x, z37x⟩, H, HU4⟩ := Option.bind_eq_some_iff.mp H
                            dsimp only at HU4
                            refine w_cutT (fun a w => Sl 49 [] [(0, .slice (some ⟨z32b, z33o, none⟩) x_r.length c0), (1, .int .u64 z24t), (2, .func (.func 48) #[] #[]), (8, .int .i64 (x_r.length : Int)), (9, .int .i64 z36x), (10, .int .i64 z37x)] a ∧ HS W0 [bx z25b 63 [.slice none 0 0, .int .i64 0], own e_i64 3 (some ⟨z21b, 0, none⟩) 1 1 ([z18x] : List Int), own e_i64 3 (some ⟨z15b, 0, none⟩) (Int.toNat (z2t.length : Int)) (Int.toNat (z2t.length : Int)) z19x, own e_i64 3 z4A z2t.length z6n z12t, isH X] w) ?_ ?_
                            · skip
                              by_cases z38h : z35t < 0
                              · replace H := (if_pos z38h).symm.trans H
                                refine w_true S2 rfl (decide_eq_true z38h) ?_
                                refine w_region ?_
                                refine r_pures [_, _, _] S2 rfl ?_
                                clear S2; intro a2 S2
                                refine wl_nil ?_
                                refine nr_then ?_
                                simp only [Option.some.injEq, Prod.mk.injEq] at H; obtain ⟨rfl, rfl⟩ := H
                                exact ⟨S2.sub ⟨rfl, rfl, rfl, rfl, rfl, rfl, trivial⟩, Hq⟩
                              · replace H := (if_neg z38h).symm.trans H
                                refine w_false S2 rfl (decide_eq_false z38h) ?_
                                refine w_region ?_
                                refine r_pures [_, _] S2 rfl ?_
                                clear S2; intro a2 S2
                                refine wl_nil ?_
                                refine nr_then ?_
                                simp only [Option.some.injEq, Prod.mk.injEq] at H; obtain ⟨rfl, rfl⟩ := H
                                exact ⟨S2.sub ⟨rfl, rfl, rfl, rfl, rfl, rfl, trivial⟩, Hq⟩
                            · clear S2; rintro a w ⟨S2, Hq⟩
                              have H := HU4; clear HU4
                              refine nr_in ?_
                              refine nr_then ?_
                              exact ⟨z36x, z37x, H, S2.sub ⟨rfl, rfl, rfl, rfl, rfl, rfl, trivial⟩, Hq⟩
                          · replace H := (if_neg z31h).symm.trans H
                            exact nomatch H
                        · replace H := (if_neg z30h).symm.trans H
                          exact nomatch H
                      · replace H := (if_neg z29h).symm.trans H
                        refine w_false S2 rfl (decide_eq_false z29h) ?_
                        refine w_exit ?_
                        refine ex_then ?_
                        refine ex_then ?_
                        refine ex_in ?_
                        refine nr_then ?_
                        obtain rfl := Option.some.inj H
                        exact ⟨S2.sub ⟨rfl, rfl, rfl, rfl, rfl, trivial⟩, Hq⟩
                  · clear S2; rintro a w ⟨S2, Hq⟩
                    have H := HU3; clear HU3
                    refine nr_then ?_
                    refine w_seq ?_
                    obtain ⟨z39x, H, HU5⟩ := Option.bind_eq_some_iff.mp H
                    refine w_cutT (fun a w => Sl 49 [] [(6, .int .i64 z26x), (7, .bool z39x)] a ∧ HS W0 [bx z25b 63 [.slice none 0 0, .int .i64 0], own e_i64 3 (some ⟨z21b, 0, none⟩) 1 1 ([z18x] : List Int), own e_i64 3 (some ⟨z15b, 0, none⟩) (Int.toNat (z2t.length : Int)) (Int.toNat (z2t.length : Int)) z19x, own e_i64 3 z4A z2t.length z6n z12t, isH X] w) ?_ ?_
                    · skip
                      refine w_region ?_
                      refine r_pures [_, _, _, _, _] S2 rfl ?_
                      clear S2; intro a2 S2
                      by_cases z40h : z26x < (x_r.length : Int)
                      · replace H := (if_pos z40h).symm.trans H
                        refine r_on S2 rfl rfl rfl (decide_eq_true z40h) ?_
                        refine r_pures [_] S2 rfl ?_
                        clear S2; intro a2 S2
                        refine r_on S2 rfl rfl rfl (decide_eq_true z40h) ?_
                        refine r_pures [_] S2 rfl ?_
                        clear S2; intro a2 S2
                        refine r_on S2 rfl rfl rfl (decide_eq_true z40h) ?_
                        refine r_pures [_] S2 rfl ?_
                        clear S2; intro a2 S2
                        refine r_on S2 rfl rfl rfl (decide_eq_true z40h) ?_
                        by_cases z41h : 0 ≤ z26x
                        · replace H := (if_pos z41h).symm.trans H
                          obtain ⟨z42b, z43o, rfl⟩ := (isH_rd [_, _, _, _] Hq HR0).at (by omega)
                          refine r_index S2 rfl rfl sl25 ti39 z41h z40h rfl ?_
                          clear S2; intro a2 S2
                          refine r_on S2 rfl rfl rfl (decide_eq_true z40h) ?_
                          refine r_elA (vs := [.int .u64 ((rd e_api_Point x_r z26x).Hash), .int .i64 ((rd e_api_Point x_r z26x).ID)]) S2 (isH_rd [_, _, _, _] Hq HR0) z41h z40h rfl ti39 rfl rfl rfl ?_
                          clear S2; intro a2 S2
                          refine r_on S2 rfl rfl rfl (decide_eq_true z40h) ?_
                          refine r_pures [_] S2 rfl ?_
                          clear S2; intro a2 S2
                          refine r_on S2 rfl rfl rfl (decide_eq_true z40h) ?_
                          obtain ⟨Xz44, HXz44, HPz44, HBz44⟩ := call_frame [] Hq
                          dsimp only [List.cons_append, List.nil_append] at HXz44 HBz44
                          obtain ⟨z45t, Hc, H⟩ := Option.bind_eq_some_iff.mp H
                          refine r_call S2 rfl rfl goes48 rfl ?_
                          refine (ring_begins_1.calls (rd e_api_Point x_r z26x) z24t _ _  HXz44 z45t Hc).mono ?_
                          rintro e w ⟨rfl, Hq'⟩
                          have Hq : HS W0 [bx z25b 63 [.slice none 0 0, .int .i64 0], own e_i64 3 (some ⟨z21b, 0, none⟩) 1 1 ([z18x] : List Int), own e_i64 3 (some ⟨z15b, 0, none⟩) (Int.toNat (z2t.length : Int)) (Int.toNat (z2t.length : Int)) z19x, own e_i64 3 z4A z2t.length z6n z12t, isH X] w := HBz44 [] _ Hq'
                          clear HXz44 HPz44 HBz44 Hq'
                          refine ⟨.int .i64 z45t, rfl, ?_⟩; clear S2; intro a2 S2
                          refine r_on S2 rfl rfl rfl (decide_eq_true z40h) ?_
                          refine r_pures [_] S2 rfl ?_
                          clear S2; intro a2 S2
                          refine r_pick S2 rfl (decide_eq_true z40h) _ rfl rfl ?_
                          clear S2; intro a2 S2
                          refine r_pures [_, _] S2 rfl ?_
                          clear S2; intro a2 S2
                          refine wl_nil ?_
                          refine nr_then ?_
                          obtain rfl := Option.some.inj H
                          exact ⟨S2.sub ⟨rfl, rfl, trivial⟩, Hq⟩
                        · replace H := (if_neg z41h).symm.trans H
                          exact nomatch H
                      · replace H := (if_neg z40h).symm.trans H
                        refine r_off S2 rfl rfl rfl (decide_eq_false z40h) ?_ rfl
                        clear S2; intro a2 S2
                        refine r_off S2 rfl rfl rfl (decide_eq_false z40h) ?_ rfl
                        clear S2; intro a2 S2
                        refine r_off S2 rfl rfl rfl (decide_eq_false z40h) ?_ rfl
                        clear S2; intro a2 S2
                        refine r_off S2 rfl rfl rfl (decide_eq_false z40h) ?_ rfl
                        clear S2; intro a2 S2
                        refine r_off S2 rfl rfl rfl (decide_eq_false z40h) ?_ rfl
                        clear S2; intro a2 S2
                        refine r_off S2 rfl rfl rfl (decide_eq_false z40h) ?_ rfl
                        clear S2; intro a2 S2
                        refine r_off S2 rfl rfl rfl (decide_eq_false z40h) ?_ rfl
                        clear S2; intro a2 S2
                        refine r_off S2 rfl rfl rfl (decide_eq_false z40h) ?_ rfl
                        clear S2; intro a2 S2
                        refine r_pick S2 rfl (decide_eq_false z40h) _ rfl rfl ?_
                        clear S2; intro a2 S2
                        refine r_pures [_, _] S2 rfl ?_
                        clear S2; intro a2 S2
                        refine wl_nil ?_
                        refine nr_then ?_
                        obtain rfl := Option.some.inj H
                        exact ⟨S2.sub ⟨rfl, rfl, trivial⟩, Hq⟩
                    · clear S2; rintro a w ⟨S2, Hq⟩
                      have H := HU5; clear HU5
                      refine nr_then ?_
                      refine w_ret ?_
                      refine ret2 S2 rfl rfl rfl ?_
                      clear S2
                      refine ⟨_, rfl, ?_⟩; clear S1; intro a1 S1
                      refine r_pures [_, _, _, _, _] S1 rfl ?_
                      clear S1; intro a1 S1
                      refine wl_nil ?_
                      refine nr_then ?_
                      refine w_seq ?_
                      refine w_region ?_
                      refine r_pures [_, _] S1 rfl ?_
                      clear S1; intro a1 S1
                      refine r_build S1 ti63 pl63 rfl [.slice A0 x_r.length c0, .int .i64 z26x] rfl rfl ?_
                      clear S1; intro a1 S1
                      refine r_st [] S1 Hq rfl rfl ti63 [.slice A0 x_r.length c0, .int .i64 z26x] rfl rfl rfl rfl [.slice A0 x_r.length c0, .int .i64 z26x] rfl ?_
                      clear Hq; intro w Hq; dsimp only [List.cons_append, List.nil_append] at Hq
                      refine wl_nil ?_
                      refine nr_then ?_
                      refine w_ret ?_
                      refine retL [.cell 4 63] [.agg #[.slice A0 x_r.length c0, .int .i64 z26x]] S1 rfl ⟨rv_cell [] Hq rfl ti63 rfl rfl, trivial⟩ (.agg #[.slice A0 x_r.length c0, .int .i64 z26x]) rfl ?_
                      clear S1
                      refine ⟨_, rfl, ?_⟩; clear S0; intro a0 S0
                      obtain ⟨Xz46, HXz46, HPz46, HBz46⟩ := call_frame [] Hq
                      dsimp only [List.cons_append, List.nil_append] at HXz46 HBz46
                      obtain ⟨z47t, Hc, H⟩ := Option.bind_eq_some_iff.mp H
                      refine r_call S0 rfl rfl goes30 rfl ?_
                      refine (ring_round_first.calls _ _ _ (⟨x_r, z26x⟩ : ring_round) _ _ (sl_isH_rd [_, _, _, _] HPz46 HR0) HXz46 z47t Hc).mono ?_
                      rintro e w ⟨rfl, Hq'⟩
                      have Hq : HS W0 [bx z25b 63 [.slice A0 x_r.length c0, .int .i64 z26x], own e_i64 3 (some ⟨z21b, 0, none⟩) 1 1 ([z18x] : List Int), own e_i64 3 (some ⟨z15b, 0, none⟩) (Int.toNat (z2t.length : Int)) (Int.toNat (z2t.length : Int)) z19x, own e_i64 3 z4A z2t.length z6n z12t, isH X] w := HBz46 [] _ Hq'
                      clear HXz46 HPz46 HBz46 Hq'
                      refine ⟨.int .i64 z47t, rfl, ?_⟩; clear S0; intro a0 S0
                      obtain ⟨Xz48, HXz48, HPz48, HBz48⟩ := call_frame [] Hq
                      dsimp only [List.cons_append, List.nil_append] at HXz48 HBz48
                      obtain ⟨⟨z49t, z50t⟩, Hc, H⟩ := Option.bind_eq_some_iff.mp H
                      dsimp only at H
                      refine r_call S0 rfl rfl goes34 rfl ?_
                      refine (slices_BinarySearch_int_int.calls _ _ _ z12t z47t _ _ (sl_own_rd [_, _, _] HPz48) HXz48 (z49t, z50t) Hc).mono ?_
                      rintro e w ⟨rfl, Hq'⟩
                      have Hq : HS W0 [bx z25b 63 [.slice A0 x_r.length c0, .int .i64 z26x], own e_i64 3 (some ⟨z21b, 0, none⟩) 1 1 ([z18x] : List Int), own e_i64 3 (some ⟨z15b, 0, none⟩) (Int.toNat (z2t.length : Int)) (Int.toNat (z2t.length : Int)) z19x, own e_i64 3 z4A z2t.length z6n z12t, isH X] w := HBz48 [] _ Hq'
                      clear HXz48 HPz48 HBz48 Hq'
                      refine ⟨.tuple #[.int .i64 z49t, .bool z50t], rfl, ?_⟩; clear S0; intro a0 S0
                      refine r_pures [_, _, _, _, _] S0 rfl ?_
                      clear S0; intro a0 S0
                      refine wl_nil ?_
                      refine nr_then ?_
                      refine w_region ?_
                      refine r_pures [_, _] S0 rfl ?_
                      clear S0; intro a0 S0
                      by_cases z51h : 0 ≤ z49t
                      · replace H := (if_pos z51h).symm.trans H
                        by_cases z52h : z49t < (Int.toNat (z2t.length : Int) : Int)
                        · replace H := (if_pos z52h).symm.trans H
                          refine r_index S0 rfl rfl sl32 ti3 z51h z52h rfl ?_
                          clear S0; intro a0 S0
                          refine r_elS S0 (own_rd [_, _] Hq) z51h z52h rfl ti3 _ rfl rfl ?_
                          clear S0; intro a0 S0
                          refine r_pures [_] S0 rfl ?_
                          clear S0; intro a0 S0
                          refine r_index S0 rfl rfl sl32 ti3 z51h z52h rfl ?_
                          clear S0; intro a0 S0
                          refine r_elst [_, _] S0 Hq z51h z52h rfl rfl ti3 [.int .i64 (IntKind.i64.wrap ((rd e_i64 z19x z49t) + 1))] rfl rfl rfl rfl (IntKind.i64.wrap ((rd e_i64 z19x z49t) + 1)) rfl ?_
                          clear Hq; intro w Hq; dsimp only [List.cons_append, List.nil_append] at Hq
                          refine wl_nil ?_
                          refine nr_in ?_
                          refine nr_then ?_
                          refine w_region ?_
                          refine r_pures [_, _] S0 rfl ?_
                          clear S0; intro a0 S0
                          refine wl_nil ?_
                          refine nr_then ?_
                          replace Hq := HS.pull [_, _, _, _] Hq
                          dsimp only [List.cons_append, List.nil_append] at Hq
                          replace Hq := HS.pull [_, _, _, _] Hq
                          dsimp only [List.cons_append, List.nil_append] at Hq
                          replace Hq := HS.pull [_, _, _, _] Hq
                          dsimp only [List.cons_append, List.nil_append] at Hq
                          replace Hq := HS.keep [_, _, _] Hq
                          exact ⟨(IntKind.i64.wrap (z18x + 1)), (z19x.set (Int.toNat z49t) (IntKind.i64.wrap ((rd e_i64 z19x z49t) + 1))), H, S0.sub ⟨rfl, rfl, rfl, rfl, rfl, trivial⟩, Hq⟩
                        · replace H := (if_neg z52h).symm.trans H
                          exact nomatch H
                      · replace H := (if_neg z51h).symm.trans H
                        exact nomatch H
                · replace H := (if_neg z20h).symm.trans H
                  refine w_false S0 rfl (decide_eq_false z20h) ?_
                  refine w_exit ?_
                  refine ex_then ?_
                  refine ex_then ?_
                  refine ex_in ?_
                  refine nr_then ?_
                  replace Hq := HS.pull [_, _] Hq
                  dsimp only [List.cons_append, List.nil_append] at Hq
                  replace Hq := HS.pull [_] Hq
                  dsimp only [List.cons_append, List.nil_append] at Hq
                  replace Hq := HS.keep [_, _] Hq
                  obtain rfl := Option.some.inj H
                  exact ⟨S0.sub ⟨rfl, trivial⟩, Hq⟩
            · clear S0; rintro a w ⟨S0, Hq⟩
              have H := HU2; clear HU2
              refine nr_then ?_
              refine w_seq ?_
              refine w_region ?_
              refine r_pures [_, _, _] S0 rfl ?_
              clear S0; intro a0 S0
              refine wl_nil ?_
              refine nr_then ?_
              refine w_ret ?_
              obtain rfl := Option.some.inj H
              refine ret2 S0 rfl rfl rfl ?_
              replace Hq := HS.pull [_] Hq
              dsimp only [List.cons_append, List.nil_append] at Hq
              replace Hq := HS.pull [_] Hq
              dsimp only [List.cons_append, List.nil_append] at Hq
              exact ⟨(some ⟨z15b, 0, none⟩), (Int.toNat (z2t.length : Int)), (Int.toNat (z2t.length : Int)), rfl, Hq⟩
          · replace H := (if_neg z14h).symm.trans H
            exact nomatch H
        · replace H := (if_neg z13h).symm.trans H
          exact nomatch H
  · replace H := (if_neg z7h).symm.trans H
    refine w_true S0 rfl (congrArg (!·) (decide_eq_false z7h)) ?_
    refine w_seq ?_
    refine w_region ?_
    refine r_pures [_, _, _] S0 rfl ?_
    clear S0; intro a0 S0
    refine wl_nil ?_
    refine nr_then ?_
    refine w_ret ?_
    refine ret_in ?_
    refine ret_then ?_
    obtain rfl := Option.some.inj H
    replace Hq := HS.own_nil e_i64 3 Hq
    refine ret2 S0 rfl rfl rfl ?_
    replace Hq := HS.pull [_, _] Hq
    dsimp only [List.cons_append, List.nil_append] at Hq
    replace Hq := HS.pull [_] Hq
    dsimp only [List.cons_append, List.nil_append] at Hq
    replace Hq := HS.keep [_, _] Hq
    exact ⟨none, 0, 0, rfl, Hq⟩

end Go.Proofs.Ytmdpjijafejgpaa.M

/- waybill/waybillref12.Shares: a plain function, and that the machine's call comes to it: printed by a program of the session's own. -/
set_option linter.unusedVariables false
set_option linter.unusedSimpArgs false
namespace Go.Proofs.Ytmdpjijafejgpaa.M
open Go Go.Proofs.Ytmdpjijafejgpaa.Sl
/-! ### waybill/waybillref12.Shares: function 17 -/
def waybillref12_Shares.l1 : Nat → (List Int) → Int → (List Int) → Int → (List Int) → Option (Int × (List Int))
  | 0, _, _, _, _, _ => none
  | k + 1, z2t, z15x, z16x, z34x, z35x => ((if 0 < z34x then (if 0 ≤ (IntKind.i64.wrap (z34x - 1)) then (if (IntKind.i64.wrap (z34x - 1)) < ((z16x ++ ([(rd e_i64 z2t z15x)] : List Int)).length : Int) then (if 0 ≤ z15x then (if z15x < (z2t.length : Int) then (some (decide ((rd e_i64 z2t z15x) < (rd e_i64 z35x (IntKind.i64.wrap (z34x - 1)))))) else (none)) else (none)) else (none)) else (none)) else (some false)) : Option (Bool)).bind fun z36x => (if z36x = true then (if 0 ≤ (IntKind.i64.wrap (z34x - 1)) then (if (IntKind.i64.wrap (z34x - 1)) < ((z16x ++ ([(rd e_i64 z2t z15x)] : List Int)).length : Int) then (if 0 ≤ z34x then (if z34x < ((z16x ++ ([(rd e_i64 z2t z15x)] : List Int)).length : Int) then (waybillref12_Shares.l1 k z2t z15x z16x (IntKind.i64.wrap (z34x - 1)) (z35x.set (Int.toNat z34x) (rd e_i64 z35x (IntKind.i64.wrap (z34x - 1))))) else (none)) else (none)) else (none)) else (none)) else (some (z34x, z35x)))
def waybillref12_Shares.l0 : Nat → (List Int) → Int → (List Int) → Option ((List Int))
  | 0, _, _, _ => none
  | k + 1, z2t, z15x, z16x => if z15x < (z2t.length : Int) then (((if 0 ≤ z15x then (if z16x.length + ([(rd e_i64 z2t z15x)] : List Int).length < 17592186044416 then ((((waybillref12_Shares.l1 k z2t z15x z16x (z16x.length : Int) (z16x ++ ([(rd e_i64 z2t z15x)] : List Int)))) : Option (Int × (List Int))).bind fun (z32x, z33x) => (if 0 ≤ z32x then (if z32x < ((z16x ++ ([(rd e_i64 z2t z15x)] : List Int)).length : Int) then (some (z33x.set (Int.toNat z32x) (rd e_i64 z2t z15x))) else (none)) else (none))) else (none)) else (none)) : Option ((List Int))).bind fun z21x => (waybillref12_Shares.l0 k z2t (IntKind.i64.wrap (z15x + 1)) z21x)) else (some z16x)
def waybillref12_Shares.l3 : Nat → (List api_Point) → Int → Int → Option (Int)
  | 0, _, _, _ => none
  | k + 1, x_r, z87t, z89x => ((if z89x < (x_r.length : Int) then (if 0 ≤ z89x then (some (decide (((rd e_api_Point x_r z89x).Hash) < z87t))) else (none)) else (some false)) : Option (Bool)).bind fun z90x => (if z90x = true then (waybillref12_Shares.l3 k x_r z87t (IntKind.i64.wrap (z89x + 1))) else (some z89x))
def waybillref12_Shares.l4 : Nat → (List api_Point) → (List Int) → Int → Int → (List Int) → Option ((List Int))
  | 0, _, _, _, _, _ => none
  | k + 1, x_r, z11x, z88x, z97x, z98x => if z97x < (z11x.length : Int) then (if 0 ≤ z97x then (if (x_r.length : Int) = 0 then (none) else (if 0 ≤ (z88x.tmod (x_r.length : Int)) then (if (z88x.tmod (x_r.length : Int)) < (x_r.length : Int) then (((if (rd e_i64 z11x z97x) = ((rd e_api_Point x_r (z88x.tmod (x_r.length : Int))).ID) then (if z97x < (Int.toNat (z11x.length : Int) : Int) then (some (z98x.set (Int.toNat z97x) (IntKind.i64.wrap ((rd e_i64 z98x z97x) + 1)))) else (none)) else (some z98x)) : Option ((List Int))).bind fun z117x => (waybillref12_Shares.l4 k x_r z11x z88x (IntKind.i64.wrap (z97x + 1)) z117x)) else (none)) else (none))) else (none)) else (some z98x)
def waybillref12_Shares.l2 : Nat → (List api_Point) → Int → (List Int) → Int → (List Int) → Option ((List Int))
  | 0, _, _, _, _, _ => none
  | k + 1, x_r, x_keys, z11x, z80x, z81x => if z80x < x_keys then ((((waybillref10_Ints.f k 2 ([z80x] : List Int)).bind fun z87t => ((((waybillref12_Shares.l3 k x_r z87t 0)) : Option (Int)).bind fun z88x => ((((waybillref12_Shares.l4 k x_r z11x z88x 0 z81x)) : Option ((List Int))).bind fun z96x => (some z96x)))) : Option ((List Int))).bind fun z83x => (waybillref12_Shares.l2 k x_r x_keys z11x (IntKind.i64.wrap (z80x + 1)) z83x)) else (some z81x)
def waybillref12_Shares.f (k : Nat) (x_r : List api_Point) (x_keys : Int) : Option ((List Int) × Int) := (waybillref12_Walk.f k x_r 0).bind fun (z2t, z3t) => (if z3t = 0 then (((if x_keys < 0 then (some true) else (some (decide (4096 < x_keys)))) : Option (Bool)).bind fun z8x => (if z8x = true then (some (([] : List Int), 4)) else ((((waybillref12_Shares.l0 k z2t 0 ([] : List Int))) : Option ((List Int))).bind fun z11x => (if 0 ≤ (z11x.length : Int) then (if Int.toNat (z11x.length : Int) < 17592186044416 then ((((waybillref12_Shares.l2 k x_r x_keys z11x 0 (List.replicate (Int.toNat (z11x.length : Int)) e_i64.z))) : Option ((List Int))).bind fun z79x => (some (z79x, 0))) else (none)) else (none))))) else (some (([] : List Int), z3t)))
set_option maxRecDepth 100000 in
set_option maxHeartbeats 4000000 in
theorem waybillref12_Shares.calls (k : Nat) (A0 : Option Addr) (n0 c0 : Nat) (x_r : List api_Point) (x_keys : Int) (W0 : World) (X : Heap) (HR0 : Rd e_api_Point X A0 n0 c0 x_r) (Hq : HS W0 [isH X] W0) (r : (List Int) × Int) (H : waybillref12_Shares.f k x_r x_keys = some r) :
    Calls Try.prog 17 #[.slice A0 n0 c0, .int .i64 x_keys] W0 (fun e w => ∃ Ar0 nr0 cr0, e = .returned (.tuple #[.slice Ar0 nr0 cr0, .int .i64 r.2]) ∧ HS W0 [own e_i64 3 Ar0 nr0 cr0 r.1, isH X] w) := by
  obtain rfl := HR0.1
  rw [waybillref12_Shares.f] at H
  refine calls_in Try.func17 rfl rfl ?_
  intro a0 S0
  refine w_seq ?_
  refine w_region ?_
  refine r_pures [_, _] S0 rfl ?_
  clear S0; intro a0 S0
  refine wl_nil ?_
  refine nr_then ?_
  refine w_seq ?_
  refine w_region ?_
  refine r_pures [_] S0 rfl ?_
  clear S0; intro a0 S0
  obtain ⟨Xz1, HXz1, HPz1, HBz1⟩ := call_frame [] Hq
  dsimp only [List.cons_append, List.nil_append] at HXz1 HBz1
  obtain ⟨⟨z2t, z3t⟩, Hc, H⟩ := Option.bind_eq_some_iff.mp H
  dsimp only at H
  refine r_call S0 rfl rfl goes15 rfl ?_
  refine (waybillref12_Walk.calls _ _ _ _ x_r 0 _ _ (sl_isH_rd [] HPz1 HR0) HXz1 (z2t, z3t) Hc).mono ?_
  rintro e w ⟨z4A, z5m, z6n, rfl, Hq'⟩
  have Hq : HS W0 [own e_i64 3 z4A z5m z6n z2t, isH X] w := HBz1 [_] _ Hq'
  clear HXz1 HPz1 HBz1 Hq'
  obtain rfl := own_len [] Hq
  refine ⟨.tuple #[.slice z4A z2t.length z6n, .int .i64 z3t], rfl, ?_⟩; clear S0; intro a0 S0
  refine r_pures [_, _, _, _, _] S0 rfl ?_
  clear S0; intro a0 S0
  refine wl_nil ?_
  refine nr_then ?_
  refine w_seq ?_
  refine w_block ?_
  refine w_seq ?_
  refine w_region ?_
  refine r_pures [_, _, _] S0 rfl ?_
  clear S0; intro a0 S0
  refine wl_nil ?_
  refine nr_then ?_
  by_cases z7h : z3t = 0
  · replace H := (if_pos z7h).symm.trans H
    refine w_false S0 rfl (congrArg (!·) (decide_eq_true z7h)) ?_
    refine w_seq ?_
    obtain ⟨z8x, H, HU1⟩ := Option.bind_eq_some_iff.mp H
    refine w_cutT (fun a w => Sl 130 [] [(0, .slice A0 x_r.length c0), (1, .int .i64 x_keys), (6, .slice z4A z2t.length z6n), (25, .bool z8x)] a ∧ HS W0 [own e_i64 3 z4A z2t.length z6n z2t, isH X] w) ?_ ?_
    · skip
      refine w_region ?_
      refine r_pures [_, _, _] S0 rfl ?_
      clear S0; intro a0 S0
      by_cases z9h : x_keys < 0
      · replace H := (if_pos z9h).symm.trans H
        refine r_off S0 rfl rfl rfl (decide_eq_true z9h) ?_ rfl
        clear S0; intro a0 S0
        refine r_off S0 rfl rfl rfl (decide_eq_true z9h) ?_ rfl
        clear S0; intro a0 S0
        refine r_pick S0 rfl (decide_eq_true z9h) _ rfl rfl ?_
        clear S0; intro a0 S0
        refine r_pures [_] S0 rfl ?_
        clear S0; intro a0 S0
        refine wl_nil ?_
        refine nr_then ?_
        obtain rfl := Option.some.inj H
        exact ⟨S0.sub ⟨rfl, rfl, rfl, rfl, trivial⟩, Hq⟩
      · replace H := (if_neg z9h).symm.trans H
        refine r_on S0 rfl rfl rfl (decide_eq_false z9h) ?_
        refine r_pures [_] S0 rfl ?_
        clear S0; intro a0 S0
        refine r_on S0 rfl rfl rfl (decide_eq_false z9h) ?_
        refine r_pures [_] S0 rfl ?_
        clear S0; intro a0 S0
        refine r_pick S0 rfl (decide_eq_false z9h) _ rfl rfl ?_
        clear S0; intro a0 S0
        refine r_pures [_] S0 rfl ?_
        clear S0; intro a0 S0
        refine wl_nil ?_
        refine nr_then ?_
        obtain rfl := Option.some.inj H
        exact ⟨S0.sub ⟨rfl, rfl, rfl, rfl, trivial⟩, Hq⟩
    · clear S0; rintro a w ⟨S0, Hq⟩
      have H := HU1; clear HU1
      refine nr_then ?_
      by_cases z10h : z8x = true
      · replace H := (if_pos z10h).symm.trans H
        refine w_true S0 rfl z10h ?_
        refine w_seq ?_
        refine w_region ?_
        refine r_pures [_, _] S0 rfl ?_
        clear S0; intro a0 S0
        refine wl_nil ?_
        refine nr_then ?_
        refine w_ret ?_
        refine ret_in ?_
        refine ret_then ?_
        obtain rfl := Option.some.inj H
        replace Hq := HS.own_nil e_i64 3 Hq
        refine ret2 S0 rfl rfl rfl ?_
        replace Hq := HS.pull [_, _] Hq
        dsimp only [List.cons_append, List.nil_append] at Hq
        replace Hq := HS.pull [_] Hq
        dsimp only [List.cons_append, List.nil_append] at Hq
        replace Hq := HS.keep [_, _] Hq
        exact ⟨none, 0, 0, rfl, Hq⟩
      · replace H := (if_neg z10h).symm.trans H
        refine w_false S0 rfl (Bool.eq_false_iff.mpr z10h) ?_
        refine w_skip ?_
        refine nr_in ?_
        refine nr_then ?_
        refine w_seq ?_
        refine w_region ?_
        refine r_pures [_] S0 rfl ?_
        clear S0; intro a0 S0
        refine wl_nil ?_
        refine nr_then ?_
        refine w_seq ?_
        refine w_seq ?_
        refine w_region ?_
        refine r_pures [_] S0 rfl ?_
        clear S0; intro a0 S0
        refine wl_nil ?_
        refine nr_then ?_
        replace Hq := HS.own_nil e_i64 3 Hq
        obtain ⟨z11x, H, HU2⟩ := Option.bind_eq_some_iff.mp H
        refine w_cutT (fun a w => ∃ z12A z13m z14n, Sl 130 [] [(0, .slice A0 x_r.length c0), (1, .int .i64 x_keys), (8, .slice z12A z13m z14n)] a ∧ HS W0 [own e_i64 3 z12A z13m z14n z11x, isH X] w) ?_ ?_
        · skip
          refine w_block ?_
          refine w_loop (fun kq a w => ∃ z15x z16x z17A z18m z19n, waybillref12_Shares.l0 kq z2t z15x z16x = some z11x ∧ Sl 130 [] [(0, .slice A0 x_r.length c0), (1, .int .i64 x_keys), (6, .slice z4A z2t.length z6n), (8, .slice z17A z18m z19n), (9, .int .i64 z15x)] a ∧ HS W0 [own e_i64 3 z17A z18m z19n z16x, own e_i64 3 z4A z2t.length z6n z2t, isH X] w) _ ⟨0, ([] : List Int), none, 0, 0, H, S0.sub ⟨rfl, rfl, rfl, rfl, rfl, trivial⟩, Hq⟩ ?_
          clear H Hq S0
          rintro k0 a w ⟨z15x, z16x, z17A, z18m, z19n, H, S0, Hq⟩
          cases k0 with
          | zero => simp [waybillref12_Shares.l0] at H
          | succ k0 =>
            refine ⟨k0, rfl, ?_⟩
            rw [waybillref12_Shares.l0] at H
            obtain rfl := own_len [] Hq
            refine w_seq ?_
            refine w_seq ?_
            refine w_region ?_
            refine r_pures [_, _] S0 rfl ?_
            clear S0; intro a0 S0
            refine r_len S0 rfl sl32 rfl ?_
            clear S0; intro a0 S0
            refine r_pures [_] S0 rfl ?_
            clear S0; intro a0 S0
            refine wl_nil ?_
            refine nr_then ?_
            by_cases z20h : z15x < (z2t.length : Int)
            · replace H := (if_pos z20h).symm.trans H
              refine w_true S0 rfl (decide_eq_true z20h) ?_
              refine w_skip ?_
              refine nr_then ?_
              refine w_seq ?_
              obtain ⟨z21x, H, HU3⟩ := Option.bind_eq_some_iff.mp H
              refine w_cutT (fun a w => ∃ z22A z23m z24n, Sl 130 [] [(0, .slice A0 x_r.length c0), (1, .int .i64 x_keys), (6, .slice z4A z2t.length z6n), (8, .slice z22A z23m z24n), (9, .int .i64 z15x)] a ∧ HS W0 [own e_i64 3 z22A z23m z24n z21x, own e_i64 3 z4A z2t.length z6n z2t, isH X] w) ?_ ?_
              · skip
                refine w_block ?_
                refine w_seq ?_
                refine w_region ?_
                refine r_pures [_] S0 rfl ?_
                clear S0; intro a0 S0
                refine r_len S0 rfl sl32 rfl ?_
                clear S0; intro a0 S0
                refine r_pures [_] S0 rfl ?_
                clear S0; intro a0 S0
                refine wl_nil ?_
                refine nr_then ?_
                refine w_seq ?_
                refine w_region ?_
                refine r_pures [_, _, _] S0 rfl ?_
                clear S0; intro a0 S0
                by_cases z25h : 0 ≤ z15x
                · replace H := (if_pos z25h).symm.trans H
                  obtain ⟨z26g, rfl⟩ := own_at [_] Hq (by omega)
                  refine r_index S0 rfl rfl sl32 ti3 z25h z20h rfl ?_
                  clear S0; intro a0 S0
                  refine r_elS S0 (own_rd [_] Hq) z25h z20h rfl ti3 _ rfl rfl ?_
                  clear S0; intro a0 S0
                  refine r_lit (e := e_i64) (l := ([(rd e_i64 z2t z15x)] : List Int)) (m := 1) (vs := [.int .i64 (rd e_i64 z2t z15x)]) S0 Hq sl32 ti3 rfl rfl rfl rfl rfl rfl ?_
                  clear S0 Hq; intro z27b a0 w S0 Hq
                  by_cases z29h : z16x.length + ([(rd e_i64 z2t z15x)] : List Int).length < 17592186044416
                  · replace H := (if_pos z29h).symm.trans H
                    refine r_app [_] S0 Hq (own_rd [] Hq) rfl rfl sl32 ti3 rfl z29h rfl rfl ?_
                    clear S0 Hq; intro z30A z31n a0 w S0 Hq; dsimp only [List.cons_append, List.nil_append] at Hq
                    refine r_pures [_] S0 rfl ?_
                    clear S0; intro a0 S0
                    refine wl_nil ?_
                    refine nr_then ?_
                    refine w_seq ?_
                    obtain ⟨⟨z32x, z33x⟩, H, HU4⟩ := Option.bind_eq_some_iff.mp H
                    dsimp only at HU4
                    refine w_cutT (fun a w => Sl 130 [] [(0, .slice A0 x_r.length c0), (1, .int .i64 x_keys), (6, .slice (some ⟨z26g, 0, none⟩) z2t.length z6n), (8, .slice z30A ((z16x ++ ([(rd e_i64 z2t z15x)] : List Int)).length) z31n), (9, .int .i64 z15x), (10, .int .i64 z32x)] a ∧ HS W0 [own e_i64 3 z30A ((z16x ++ ([(rd e_i64 z2t z15x)] : List Int)).length) z31n z33x, own e_i64 3 (some ⟨z26g, 0, none⟩) z2t.length z6n z2t, isH X] w) ?_ ?_
                    · skip
                      refine w_block ?_
                      replace Hq := HS.pull [_, _, _] Hq
                      dsimp only [List.cons_append, List.nil_append] at Hq
                      replace Hq := HS.pull [_, _, _] Hq
                      dsimp only [List.cons_append, List.nil_append] at Hq
                      replace Hq := HS.pull [_, _, _] Hq
                      dsimp only [List.cons_append, List.nil_append] at Hq
                      replace Hq := HS.keep [_, _, _] Hq
                      refine w_loop (fun kq a w => ∃ z34x z35x, waybillref12_Shares.l1 kq z2t z15x z16x z34x z35x = some (z32x, z33x) ∧ Sl 130 [] [(0, .slice A0 x_r.length c0), (1, .int .i64 x_keys), (6, .slice (some ⟨z26g, 0, none⟩) z2t.length z6n), (8, .slice z30A ((z16x ++ ([(rd e_i64 z2t z15x)] : List Int)).length) z31n), (9, .int .i64 z15x), (10, .int .i64 z34x)] a ∧ HS W0 [own e_i64 3 z30A ((z16x ++ ([(rd e_i64 z2t z15x)] : List Int)).length) z31n z35x, own e_i64 3 (some ⟨z26g, 0, none⟩) z2t.length z6n z2t, isH X] w) _ ⟨(z16x.length : Int), (z16x ++ ([(rd e_i64 z2t z15x)] : List Int)), H, S0.sub ⟨rfl, rfl, rfl, rfl, rfl, rfl, trivial⟩, Hq⟩ ?_
                      clear H Hq S0
                      rintro k1 a w ⟨z34x, z35x, H, S0, Hq⟩
                      cases k1 with
                      | zero => simp [waybillref12_Shares.l1] at H
                      | succ k1 =>
                        refine ⟨k1, rfl, ?_⟩
                        rw [waybillref12_Shares.l1] at H
                        refine w_seq ?_
                        refine w_seq ?_
                        obtain ⟨z36x, H, HU5⟩ := Option.bind_eq_some_iff.mp H
                        refine w_cutT (fun a w => Sl 130 [] [(0, .slice A0 x_r.length c0), (1, .int .i64 x_keys), (6, .slice (some ⟨z26g, 0, none⟩) z2t.length z6n), (8, .slice z30A ((z16x ++ ([(rd e_i64 z2t z15x)] : List Int)).length) z31n), (9, .int .i64 z15x), (10, .int .i64 z34x), (60, .bool z36x)] a ∧ HS W0 [own e_i64 3 z30A ((z16x ++ ([(rd e_i64 z2t z15x)] : List Int)).length) z31n z35x, own e_i64 3 (some ⟨z26g, 0, none⟩) z2t.length z6n z2t, isH X] w) ?_ ?_
                        · skip
                          refine w_draw TryM.mixed (.pu 0 (.pu 1 (.pu 2 (.pu 3 (.pu 4 (.pu 5 (.pu 6 (.pu 8 (.pu 9 (.pu 10 (.rd 7 (.rd 11 (.pu 12 (.pu 13 .done)))))))))))))) (by kernel_rfl) rfl ?_
                          replace Hq := Hq.drew
                          refine st_pures [0, 1, 2] S0 rfl ?_
                          intro az37q Sz37q
                          by_cases z38h : 0 < z34x
                          · replace H := (if_pos z38h).symm.trans H
                            refine st_pu Sz37q rfl (g_on Sz37q rfl rfl rfl rfl (decide_eq_true z38h)) rfl rfl (fun _ => y_of Sz37q _ rfl) ?_
                            intro az39q Sz39q
                            refine st_pu Sz39q rfl (g_on Sz39q rfl rfl rfl rfl (decide_eq_true z38h)) rfl rfl (fun _ => y_of Sz39q _ rfl) ?_
                            intro az40q Sz40q
                            refine st_pu Sz40q rfl (g_on Sz40q rfl rfl rfl rfl (decide_eq_true z38h)) rfl rfl (fun _ => y_of Sz40q _ rfl) ?_
                            intro az41q Sz41q
                            by_cases z42h : 0 ≤ (IntKind.i64.wrap (z34x - 1))
                            · replace H := (if_pos z42h).symm.trans H
                              by_cases z43h : (IntKind.i64.wrap (z34x - 1)) < ((z16x ++ ([(rd e_i64 z2t z15x)] : List Int)).length : Int)
                              · replace H := (if_pos z43h).symm.trans H
                                obtain ⟨z44g, rfl⟩ := own_at [] Hq (by omega)
                                refine st_pu Sz41q rfl (g_on Sz41q rfl rfl rfl rfl (decide_eq_true z38h)) rfl rfl (fun _ => y_index Sz41q rfl rfl sl32 ti3 z42h z43h) ?_
                                intro az45q Sz45q
                                refine st_pu Sz45q rfl (g_on Sz45q rfl rfl rfl rfl (decide_eq_true z38h)) rfl rfl (fun _ => y_of Sz45q _ rfl) ?_
                                intro az46q Sz46q
                                refine st_pu Sz46q rfl (g_on Sz46q rfl rfl rfl rfl (decide_eq_true z38h)) rfl rfl (fun _ => y_of Sz46q _ rfl) ?_
                                intro az47q Sz47q
                                by_cases z48h : 0 ≤ z15x
                                · replace H := (if_pos z48h).symm.trans H
                                  by_cases z49h : z15x < (z2t.length : Int)
                                  · replace H := (if_pos z49h).symm.trans H
                                    refine st_pu Sz47q rfl (g_on Sz47q rfl rfl rfl rfl (decide_eq_true z38h)) rfl rfl (fun _ => y_index Sz47q rfl rfl sl32 ti3 z48h z49h) ?_
                                    intro az50q Sz50q
                                    refine st_rd Sz50q rfl (g_on Sz50q rfl rfl rfl rfl (decide_eq_true z38h)) rfl rfl (y_elS Sz50q (own_rd [] Hq) z42h z43h rfl ti3 _ rfl) ?_
                                    intro az51q Sz51q
                                    refine st_rd Sz51q rfl (g_on Sz51q rfl rfl rfl rfl (decide_eq_true z38h)) rfl rfl (y_elS Sz51q (own_rd [_] Hq) z48h z49h rfl ti3 _ rfl) ?_
                                    intro az52q Sz52q
                                    refine st_pu Sz52q rfl (g_on Sz52q rfl rfl rfl rfl (decide_eq_true z38h)) rfl rfl (fun _ => y_of Sz52q _ rfl) ?_
                                    intro az53q Sz53q
                                    refine st_pu Sz53q rfl (g_none rfl) rfl rfl (fun _ => y_pick Sz53q rfl (decide_eq_true z38h) _ rfl) ?_
                                    intro az54q Sz54q
                                    refine st_nil ?_
                                    replace S0 := Sz54q
                                    refine nr_then ?_
                                    obtain rfl := Option.some.inj H
                                    exact ⟨S0.sub ⟨rfl, rfl, rfl, rfl, rfl, rfl, rfl, trivial⟩, Hq⟩
                                  · replace H := (if_neg z49h).symm.trans H
                                    exact nomatch H
                                · replace H := (if_neg z48h).symm.trans H
                                  exact nomatch H
                              · replace H := (if_neg z43h).symm.trans H
                                exact nomatch H
                            · replace H := (if_neg z42h).symm.trans H
                              exact nomatch H
                          · replace H := (if_neg z38h).symm.trans H
                            refine st_puOff Sz37q rfl (g_off Sz37q rfl rfl rfl rfl (decide_eq_false z38h)) rfl rfl ?_
                            intro az55q Sz55q
                            refine st_puOff Sz55q rfl (g_off Sz55q rfl rfl rfl rfl (decide_eq_false z38h)) rfl rfl ?_
                            intro az56q Sz56q
                            refine st_puOff Sz56q rfl (g_off Sz56q rfl rfl rfl rfl (decide_eq_false z38h)) rfl rfl ?_
                            intro az57q Sz57q
                            refine st_puOff Sz57q rfl (g_off Sz57q rfl rfl rfl rfl (decide_eq_false z38h)) rfl rfl ?_
                            intro az58q Sz58q
                            refine st_puOff Sz58q rfl (g_off Sz58q rfl rfl rfl rfl (decide_eq_false z38h)) rfl rfl ?_
                            intro az59q Sz59q
                            refine st_puOff Sz59q rfl (g_off Sz59q rfl rfl rfl rfl (decide_eq_false z38h)) rfl rfl ?_
                            intro az60q Sz60q
                            refine st_puOff Sz60q rfl (g_off Sz60q rfl rfl rfl rfl (decide_eq_false z38h)) rfl rfl ?_
                            intro az61q Sz61q
                            refine st_rdOff Sz61q rfl (g_off Sz61q rfl rfl rfl rfl (decide_eq_false z38h)) rfl rfl ?_
                            intro az62q Sz62q
                            refine st_rdOff Sz62q rfl (g_off Sz62q rfl rfl rfl rfl (decide_eq_false z38h)) rfl rfl ?_
                            intro az63q Sz63q
                            refine st_puOff Sz63q rfl (g_off Sz63q rfl rfl rfl rfl (decide_eq_false z38h)) rfl rfl ?_
                            intro az64q Sz64q
                            refine st_pu Sz64q rfl (g_none rfl) rfl rfl (fun _ => y_pick Sz64q rfl (decide_eq_false z38h) _ rfl) ?_
                            intro az65q Sz65q
                            refine st_nil ?_
                            replace S0 := Sz65q
                            refine nr_then ?_
                            obtain rfl := Option.some.inj H
                            exact ⟨S0.sub ⟨rfl, rfl, rfl, rfl, rfl, rfl, rfl, trivial⟩, Hq⟩
                        · clear S0; rintro a w ⟨S0, Hq⟩
                          have H := HU5; clear HU5
                          refine nr_then ?_
                          by_cases z66h : z36x = true
                          · replace H := (if_pos z66h).symm.trans H
                            refine w_true S0 rfl z66h ?_
                            refine w_skip ?_
                            refine nr_then ?_
                            refine w_block ?_
                            refine w_seq ?_
                            refine w_region ?_
                            refine r_pures [_, _, _, _, _] S0 rfl ?_
                            clear S0; intro a0 S0
                            by_cases z67h : 0 ≤ (IntKind.i64.wrap (z34x - 1))
                            · replace H := (if_pos z67h).symm.trans H
                              by_cases z68h : (IntKind.i64.wrap (z34x - 1)) < ((z16x ++ ([(rd e_i64 z2t z15x)] : List Int)).length : Int)
                              · replace H := (if_pos z68h).symm.trans H
                                obtain ⟨z69g, rfl⟩ := own_at [] Hq (by omega)
                                refine r_index S0 rfl rfl sl32 ti3 z67h z68h rfl ?_
                                clear S0; intro a0 S0
                                refine r_elS S0 (own_rd [] Hq) z67h z68h rfl ti3 _ rfl rfl ?_
                                clear S0; intro a0 S0
                                by_cases z70h : 0 ≤ z34x
                                · replace H := (if_pos z70h).symm.trans H
                                  by_cases z71h : z34x < ((z16x ++ ([(rd e_i64 z2t z15x)] : List Int)).length : Int)
                                  · replace H := (if_pos z71h).symm.trans H
                                    refine r_index S0 rfl rfl sl32 ti3 z70h z71h rfl ?_
                                    clear S0; intro a0 S0
                                    refine r_elst [] S0 Hq z70h z71h rfl rfl ti3 [.int .i64 (rd e_i64 z35x (IntKind.i64.wrap (z34x - 1)))] rfl rfl rfl rfl (rd e_i64 z35x (IntKind.i64.wrap (z34x - 1))) rfl ?_
                                    clear Hq; intro w Hq; dsimp only [List.cons_append, List.nil_append] at Hq
                                    refine wl_nil ?_
                                    refine nr_then ?_
                                    refine w_region ?_
                                    refine r_pures [_, _, _] S0 rfl ?_
                                    clear S0; intro a0 S0
                                    refine wl_nil ?_
                                    refine nr_in ?_
                                    refine nr_then ?_
                                    exact ⟨(IntKind.i64.wrap (z34x - 1)), (z35x.set (Int.toNat z34x) (rd e_i64 z35x (IntKind.i64.wrap (z34x - 1)))), H, S0.sub ⟨rfl, rfl, rfl, rfl, rfl, rfl, trivial⟩, Hq⟩
                                  · replace H := (if_neg z71h).symm.trans H
                                    exact nomatch H
                                · replace H := (if_neg z70h).symm.trans H
                                  exact nomatch H
                              · replace H := (if_neg z68h).symm.trans H
                                exact nomatch H
                            · replace H := (if_neg z67h).symm.trans H
                              exact nomatch H
                          · replace H := (if_neg z66h).symm.trans H
                            refine w_false S0 rfl (Bool.eq_false_iff.mpr z66h) ?_
                            refine w_exit ?_
                            refine ex_then ?_
                            refine ex_then ?_
                            refine ex_in ?_
                            refine nr_then ?_
                            simp only [Option.some.injEq, Prod.mk.injEq] at H; obtain ⟨rfl, rfl⟩ := H
                            exact ⟨S0.sub ⟨rfl, rfl, rfl, rfl, rfl, rfl, trivial⟩, Hq⟩
                    · clear S0; rintro a w ⟨S0, Hq⟩
                      have H := HU4; clear HU4
                      refine nr_then ?_
                      refine w_region ?_
                      refine r_pures [_, _, _, _] S0 rfl ?_
                      clear S0; intro a0 S0
                      refine r_index S0 rfl rfl sl32 ti3 z25h z20h rfl ?_
                      clear S0; intro a0 S0
                      refine r_elS S0 (own_rd [_] Hq) z25h z20h rfl ti3 _ rfl rfl ?_
                      clear S0; intro a0 S0
                      by_cases z72h : 0 ≤ z32x
                      · replace H := (if_pos z72h).symm.trans H
                        by_cases z73h : z32x < ((z16x ++ ([(rd e_i64 z2t z15x)] : List Int)).length : Int)
                        · replace H := (if_pos z73h).symm.trans H
                          obtain ⟨z74g, rfl⟩ := own_at [] Hq (by omega)
                          refine r_index S0 rfl rfl sl32 ti3 z72h z73h rfl ?_
                          clear S0; intro a0 S0
                          refine r_elst [] S0 Hq z72h z73h rfl rfl ti3 [.int .i64 (rd e_i64 z2t z15x)] rfl rfl rfl rfl (rd e_i64 z2t z15x) rfl ?_
                          clear Hq; intro w Hq; dsimp only [List.cons_append, List.nil_append] at Hq
                          refine wl_nil ?_
                          refine nr_in ?_
                          refine nr_then ?_
                          obtain rfl := Option.some.inj H
                          exact ⟨(some ⟨z74g, 0, none⟩), ((z16x ++ ([(rd e_i64 z2t z15x)] : List Int)).length), z31n, S0.sub ⟨rfl, rfl, rfl, rfl, rfl, trivial⟩, Hq⟩
                        · replace H := (if_neg z73h).symm.trans H
                          exact nomatch H
                      · replace H := (if_neg z72h).symm.trans H
                        exact nomatch H
                  · replace H := (if_neg z29h).symm.trans H
                    exact nomatch H
                · replace H := (if_neg z25h).symm.trans H
                  exact nomatch H
              · clear S0; rintro a w ⟨z22A, z23m, z24n, S0, Hq⟩
                have H := HU3; clear HU3
                obtain rfl := own_len [] Hq
                refine nr_then ?_
                refine w_region ?_
                refine r_pures [_, _, _] S0 rfl ?_
                clear S0; intro a0 S0
                refine wl_nil ?_
                refine nr_then ?_
                exact ⟨(IntKind.i64.wrap (z15x + 1)), z21x, z22A, z21x.length, z24n, H, S0.sub ⟨rfl, rfl, rfl, rfl, rfl, trivial⟩, Hq⟩
            · replace H := (if_neg z20h).symm.trans H
              refine w_false S0 rfl (decide_eq_false z20h) ?_
              refine w_exit ?_
              refine ex_then ?_
              refine ex_then ?_
              refine ex_in ?_
              refine nr_then ?_
              replace Hq := HS.pull [_, _] Hq
              dsimp only [List.cons_append, List.nil_append] at Hq
              replace Hq := HS.pull [_] Hq
              dsimp only [List.cons_append, List.nil_append] at Hq
              replace Hq := HS.keep [_, _] Hq
              obtain rfl := Option.some.inj H
              exact ⟨z17A, z16x.length, z19n, S0.sub ⟨rfl, rfl, rfl, trivial⟩, Hq⟩
        · clear S0; rintro a w ⟨z12A, z13m, z14n, S0, Hq⟩
          have H := HU2; clear HU2
          obtain rfl := own_len [] Hq
          refine nr_then ?_
          refine w_seq ?_
          refine w_region ?_
          refine r_pures [_] S0 rfl ?_
          clear S0; intro a0 S0
          refine r_len S0 rfl sl32 rfl ?_
          clear S0; intro a0 S0
          by_cases z75h : 0 ≤ (z11x.length : Int)
          · replace H := (if_pos z75h).symm.trans H
            by_cases z76h : Int.toNat (z11x.length : Int) < 17592186044416
            · replace H := (if_pos z76h).symm.trans H
              refine r_make (e := e_i64) S0 Hq rfl rfl sl32 ti3 rfl z75h z76h rfl rfl ?_
              clear S0 Hq; intro z77b a0 w S0 Hq
              refine r_pures [_] S0 rfl ?_
              clear S0; intro a0 S0
              refine wl_nil ?_
              refine nr_then ?_
              refine w_seq ?_
              refine w_seq ?_
              refine w_region ?_
              refine r_pures [_] S0 rfl ?_
              clear S0; intro a0 S0
              refine wl_nil ?_
              refine nr_then ?_
              obtain ⟨z79x, H, HU6⟩ := Option.bind_eq_some_iff.mp H
              refine w_cutT (fun a w => Sl 130 [] [(11, .slice (some ⟨z77b, 0, none⟩) (Int.toNat (z11x.length : Int)) (Int.toNat (z11x.length : Int)))] a ∧ HS W0 [own e_i64 3 (some ⟨z77b, 0, none⟩) (Int.toNat (z11x.length : Int)) (Int.toNat (z11x.length : Int)) z79x, isH X] w) ?_ ?_
              · skip
                refine w_block ?_
                refine w_loop (fun kq a w => ∃ z80x z81x, waybillref12_Shares.l2 kq x_r x_keys z11x z80x z81x = some z79x ∧ Sl 130 [] [(0, .slice A0 x_r.length c0), (1, .int .i64 x_keys), (8, .slice z12A z11x.length z14n), (11, .slice (some ⟨z77b, 0, none⟩) (Int.toNat (z11x.length : Int)) (Int.toNat (z11x.length : Int))), (12, .int .i64 z80x)] a ∧ HS W0 [own e_i64 3 (some ⟨z77b, 0, none⟩) (Int.toNat (z11x.length : Int)) (Int.toNat (z11x.length : Int)) z81x, own e_i64 3 z12A z11x.length z14n z11x, isH X] w) _ ⟨0, (List.replicate (Int.toNat (z11x.length : Int)) e_i64.z), H, S0.sub ⟨rfl, rfl, rfl, rfl, rfl, trivial⟩, Hq⟩ ?_
                clear H Hq S0
                rintro k2 a w ⟨z80x, z81x, H, S0, Hq⟩
                cases k2 with
                | zero => simp [waybillref12_Shares.l2] at H
                | succ k2 =>
                  refine ⟨k2, rfl, ?_⟩
                  rw [waybillref12_Shares.l2] at H
                  refine w_seq ?_
                  refine w_seq ?_
                  refine w_region ?_
                  refine r_pures [_, _, _] S0 rfl ?_
                  clear S0; intro a0 S0
                  refine wl_nil ?_
                  refine nr_then ?_
                  by_cases z82h : z80x < x_keys
                  · replace H := (if_pos z82h).symm.trans H
                    refine w_true S0 rfl (decide_eq_true z82h) ?_
                    refine w_skip ?_
                    refine nr_then ?_
                    refine w_seq ?_
                    obtain ⟨z83x, H, HU7⟩ := Option.bind_eq_some_iff.mp H
                    refine w_cutT (fun a w => Sl 130 [] [(0, .slice A0 x_r.length c0), (1, .int .i64 x_keys), (8, .slice z12A z11x.length z14n), (11, .slice (some ⟨z77b, 0, none⟩) (Int.toNat (z11x.length : Int)) (Int.toNat (z11x.length : Int))), (12, .int .i64 z80x)] a ∧ HS W0 [own e_i64 3 (some ⟨z77b, 0, none⟩) (Int.toNat (z11x.length : Int)) (Int.toNat (z11x.length : Int)) z83x, own e_i64 3 z12A z11x.length z14n z11x, isH X] w) ?_ ?_
                    · skip
                      refine w_block ?_
                      refine w_seq ?_
                      refine w_region ?_
                      refine r_pures [_] S0 rfl ?_
                      clear S0; intro a0 S0
                      refine r_lit (e := e_i64) (l := ([z80x] : List Int)) (m := 1) (vs := [.int .i64 z80x]) S0 Hq sl32 ti3 rfl rfl rfl rfl rfl rfl ?_
                      clear S0 Hq; intro z84b a0 w S0 Hq
                      obtain ⟨Xz86, HXz86, HPz86, HBz86⟩ := call_frame [] Hq
                      dsimp only [List.cons_append, List.nil_append] at HXz86 HBz86
                      obtain ⟨z87t, Hc, H⟩ := Option.bind_eq_some_iff.mp H
                      refine r_call S0 rfl rfl goes24 rfl ?_
                      refine (waybillref10_Ints.calls _ 2 _ _ _ ([z80x] : List Int) _ _ (sl_own_rd [] HPz86) HXz86 z87t Hc).mono ?_
                      rintro e w ⟨rfl, Hq'⟩
                      have Hq : HS W0 [own e_i64 3 (some ⟨z84b, 0, none⟩) 1 1 ([z80x] : List Int), own e_i64 3 (some ⟨z77b, 0, none⟩) (Int.toNat (z11x.length : Int)) (Int.toNat (z11x.length : Int)) z81x, own e_i64 3 z12A z11x.length z14n z11x, isH X] w := HBz86 [] _ Hq'
                      clear HXz86 HPz86 HBz86 Hq'
                      refine ⟨.int .u64 z87t, rfl, ?_⟩; clear S0; intro a0 S0
                      refine r_pures [_] S0 rfl ?_
                      clear S0; intro a0 S0
                      refine wl_nil ?_
                      refine nr_then ?_
                      refine w_seq ?_
                      refine w_region ?_
                      refine r_pures [_] S0 rfl ?_
                      clear S0; intro a0 S0
                      refine wl_nil ?_
                      refine nr_then ?_
                      refine w_seq ?_
                      obtain ⟨z88x, H, HU8⟩ := Option.bind_eq_some_iff.mp H
                      refine w_cutT (fun a w => Sl 130 [] [(0, .slice A0 x_r.length c0), (1, .int .i64 x_keys), (8, .slice z12A z11x.length z14n), (11, .slice (some ⟨z77b, 0, none⟩) (Int.toNat (z11x.length : Int)) (Int.toNat (z11x.length : Int))), (12, .int .i64 z80x), (14, .int .i64 z88x)] a ∧ HS W0 [own e_i64 3 (some ⟨z77b, 0, none⟩) (Int.toNat (z11x.length : Int)) (Int.toNat (z11x.length : Int)) z81x, own e_i64 3 z12A z11x.length z14n z11x, isH X] w) ?_ ?_
                      · skip
                        refine w_block ?_
                        replace Hq := HS.pull [_, _, _] Hq
                        dsimp only [List.cons_append, List.nil_append] at Hq
                        replace Hq := HS.pull [_, _, _] Hq
                        dsimp only [List.cons_append, List.nil_append] at Hq
                        replace Hq := HS.pull [_, _, _] Hq
                        dsimp only [List.cons_append, List.nil_append] at Hq
                        replace Hq := HS.keep [_, _, _] Hq
                        refine w_loop (fun kq a w => ∃ z89x, waybillref12_Shares.l3 kq x_r z87t z89x = some z88x ∧ Sl 130 [] [(0, .slice A0 x_r.length c0), (1, .int .i64 x_keys), (8, .slice z12A z11x.length z14n), (11, .slice (some ⟨z77b, 0, none⟩) (Int.toNat (z11x.length : Int)) (Int.toNat (z11x.length : Int))), (12, .int .i64 z80x), (13, .int .u64 z87t), (14, .int .i64 z89x)] a ∧ HS W0 [own e_i64 3 (some ⟨z77b, 0, none⟩) (Int.toNat (z11x.length : Int)) (Int.toNat (z11x.length : Int)) z81x, own e_i64 3 z12A z11x.length z14n z11x, isH X] w) _ ⟨0, H, S0.sub ⟨rfl, rfl, rfl, rfl, rfl, rfl, rfl, trivial⟩, Hq⟩ ?_
                        clear H Hq S0
                        rintro k3 a w ⟨z89x, H, S0, Hq⟩
                        cases k3 with
                        | zero => simp [waybillref12_Shares.l3] at H
                        | succ k3 =>
                          refine ⟨k3, rfl, ?_⟩
                          rw [waybillref12_Shares.l3] at H
                          refine w_seq ?_
                          refine w_seq ?_
                          obtain ⟨z90x, H, HU9⟩ := Option.bind_eq_some_iff.mp H
                          refine w_cutT (fun a w => Sl 130 [] [(0, .slice A0 x_r.length c0), (1, .int .i64 x_keys), (8, .slice z12A z11x.length z14n), (11, .slice (some ⟨z77b, 0, none⟩) (Int.toNat (z11x.length : Int)) (Int.toNat (z11x.length : Int))), (12, .int .i64 z80x), (13, .int .u64 z87t), (14, .int .i64 z89x), (101, .bool z90x)] a ∧ HS W0 [own e_i64 3 (some ⟨z77b, 0, none⟩) (Int.toNat (z11x.length : Int)) (Int.toNat (z11x.length : Int)) z81x, own e_i64 3 z12A z11x.length z14n z11x, isH X] w) ?_ ?_
                          · skip
                            refine w_region ?_
                            refine r_pures [_, _] S0 rfl ?_
                            clear S0; intro a0 S0
                            refine r_len S0 rfl sl25 rfl ?_
                            clear S0; intro a0 S0
                            refine r_pures [_, _] S0 rfl ?_
                            clear S0; intro a0 S0
                            by_cases z91h : z89x < (x_r.length : Int)
                            · replace H := (if_pos z91h).symm.trans H
                              refine r_on S0 rfl rfl rfl (decide_eq_true z91h) ?_
                              refine r_pures [_] S0 rfl ?_
                              clear S0; intro a0 S0
                              refine r_on S0 rfl rfl rfl (decide_eq_true z91h) ?_
                              refine r_pures [_] S0 rfl ?_
                              clear S0; intro a0 S0
                              refine r_on S0 rfl rfl rfl (decide_eq_true z91h) ?_
                              by_cases z92h : 0 ≤ z89x
                              · replace H := (if_pos z92h).symm.trans H
                                obtain ⟨z93b, z94o, rfl⟩ := (isH_rd [_, _] Hq HR0).at (by omega)
                                refine r_index S0 rfl rfl sl25 ti39 z92h z91h rfl ?_
                                clear S0; intro a0 S0
                                refine r_on S0 rfl rfl rfl (decide_eq_true z91h) ?_
                                refine r_fieldAddr S0 rfl fo39x0 (z94o + Int.toNat z89x * 2 + 0) rfl rfl ?_
                                clear S0; intro a0 S0
                                refine r_on S0 rfl rfl rfl (decide_eq_true z91h) ?_
                                refine r_elS S0 (isH_rd [_, _] Hq HR0) z92h z91h rfl ti23 _ rfl rfl ?_
                                clear S0; intro a0 S0
                                refine r_on S0 rfl rfl rfl (decide_eq_true z91h) ?_
                                refine r_pures [_] S0 rfl ?_
                                clear S0; intro a0 S0
                                refine r_on S0 rfl rfl rfl (decide_eq_true z91h) ?_
                                refine r_pures [_] S0 rfl ?_
                                clear S0; intro a0 S0
                                refine r_pick S0 rfl (decide_eq_true z91h) _ rfl rfl ?_
                                clear S0; intro a0 S0
                                refine wl_nil ?_
                                refine nr_then ?_
                                obtain rfl := Option.some.inj H
                                exact ⟨S0.sub ⟨rfl, rfl, rfl, rfl, rfl, rfl, rfl, rfl, trivial⟩, Hq⟩
                              · replace H := (if_neg z92h).symm.trans H
                                exact nomatch H
                            · replace H := (if_neg z91h).symm.trans H
                              refine r_off S0 rfl rfl rfl (decide_eq_false z91h) ?_ rfl
                              clear S0; intro a0 S0
                              refine r_off S0 rfl rfl rfl (decide_eq_false z91h) ?_ rfl
                              clear S0; intro a0 S0
                              refine r_off S0 rfl rfl rfl (decide_eq_false z91h) ?_ rfl
                              clear S0; intro a0 S0
                              refine r_off S0 rfl rfl rfl (decide_eq_false z91h) ?_ rfl
                              clear S0; intro a0 S0
                              refine r_off S0 rfl rfl rfl (decide_eq_false z91h) ?_ rfl
                              clear S0; intro a0 S0
                              refine r_off S0 rfl rfl rfl (decide_eq_false z91h) ?_ rfl
                              clear S0; intro a0 S0
                              refine r_off S0 rfl rfl rfl (decide_eq_false z91h) ?_ rfl
                              clear S0; intro a0 S0
                              refine r_pick S0 rfl (decide_eq_false z91h) _ rfl rfl ?_
                              clear S0; intro a0 S0
                              refine wl_nil ?_
                              refine nr_then ?_
                              obtain rfl := Option.some.inj H
                              exact ⟨S0.sub ⟨rfl, rfl, rfl, rfl, rfl, rfl, rfl, rfl, trivial⟩, Hq⟩
                          · clear S0; rintro a w ⟨S0, Hq⟩
                            have H := HU9; clear HU9
                            refine nr_then ?_
                            by_cases z95h : z90x = true
                            · replace H := (if_pos z95h).symm.trans H
                              refine w_true S0 rfl z95h ?_
                              refine w_skip ?_
                              refine nr_then ?_
                              refine w_block ?_
                              refine w_region ?_
                              refine r_pures [_, _, _] S0 rfl ?_
                              clear S0; intro a0 S0
                              refine wl_nil ?_
                              refine nr_in ?_
                              refine nr_then ?_
                              exact ⟨(IntKind.i64.wrap (z89x + 1)), H, S0.sub ⟨rfl, rfl, rfl, rfl, rfl, rfl, rfl, trivial⟩, Hq⟩
                            · replace H := (if_neg z95h).symm.trans H
                              refine w_false S0 rfl (Bool.eq_false_iff.mpr z95h) ?_
                              refine w_exit ?_
                              refine ex_then ?_
                              refine ex_then ?_
                              refine ex_in ?_
                              refine nr_then ?_
                              obtain rfl := Option.some.inj H
                              exact ⟨S0.sub ⟨rfl, rfl, rfl, rfl, rfl, rfl, trivial⟩, Hq⟩
                      · clear S0; rintro a w ⟨S0, Hq⟩
                        have H := HU8; clear HU8
                        refine nr_then ?_
                        refine w_seq ?_
                        refine w_region ?_
                        refine r_pures [_] S0 rfl ?_
                        clear S0; intro a0 S0
                        refine wl_nil ?_
                        refine nr_then ?_
                        obtain ⟨z96x, H, HU10⟩ := Option.bind_eq_some_iff.mp H
                        refine w_cutT (fun a w => Sl 130 [] [(0, .slice A0 x_r.length c0), (1, .int .i64 x_keys), (8, .slice z12A z11x.length z14n), (11, .slice (some ⟨z77b, 0, none⟩) (Int.toNat (z11x.length : Int)) (Int.toNat (z11x.length : Int))), (12, .int .i64 z80x)] a ∧ HS W0 [own e_i64 3 (some ⟨z77b, 0, none⟩) (Int.toNat (z11x.length : Int)) (Int.toNat (z11x.length : Int)) z96x, own e_i64 3 z12A z11x.length z14n z11x, isH X] w) ?_ ?_
                        · skip
                          refine w_block ?_
                          refine w_loop (fun kq a w => ∃ z97x z98x, waybillref12_Shares.l4 kq x_r z11x z88x z97x z98x = some z96x ∧ Sl 130 [] [(0, .slice A0 x_r.length c0), (1, .int .i64 x_keys), (8, .slice z12A z11x.length z14n), (11, .slice (some ⟨z77b, 0, none⟩) (Int.toNat (z11x.length : Int)) (Int.toNat (z11x.length : Int))), (12, .int .i64 z80x), (14, .int .i64 z88x), (15, .int .i64 z97x)] a ∧ HS W0 [own e_i64 3 (some ⟨z77b, 0, none⟩) (Int.toNat (z11x.length : Int)) (Int.toNat (z11x.length : Int)) z98x, own e_i64 3 z12A z11x.length z14n z11x, isH X] w) _ ⟨0, z81x, H, S0.sub ⟨rfl, rfl, rfl, rfl, rfl, rfl, rfl, trivial⟩, Hq⟩ ?_
                          clear H Hq S0
                          rintro k4 a w ⟨z97x, z98x, H, S0, Hq⟩
                          cases k4 with
                          | zero => simp [waybillref12_Shares.l4] at H
                          | succ k4 =>
                            refine ⟨k4, rfl, ?_⟩
                            rw [waybillref12_Shares.l4] at H
                            refine w_seq ?_
                            refine w_seq ?_
                            refine w_region ?_
                            refine r_pures [_, _] S0 rfl ?_
                            clear S0; intro a0 S0
                            refine r_len S0 rfl sl32 rfl ?_
                            clear S0; intro a0 S0
                            refine r_pures [_] S0 rfl ?_
                            clear S0; intro a0 S0
                            refine wl_nil ?_
                            refine nr_then ?_
                            by_cases z99h : z97x < (z11x.length : Int)
                            · replace H := (if_pos z99h).symm.trans H
                              refine w_true S0 rfl (decide_eq_true z99h) ?_
                              refine w_skip ?_
                              refine nr_then ?_
                              refine w_seq ?_
                              refine w_block ?_
                              refine w_seq ?_
                              refine w_draw TryM.mixed (.pu 0 (.pu 1 (.pu 2 (.pu 4 (.pu 5 (.pu 6 (.pu 7 (.pu 8 (.pu 9 (.pu 10 (.rd 3 (.rd 11 (.pu 12 .done))))))))))))) (by kernel_rfl) rfl ?_
                              replace Hq := Hq.drew
                              refine st_pures [0, 1] S0 rfl ?_
                              intro az100q Sz100q
                              by_cases z101h : 0 ≤ z97x
                              · replace H := (if_pos z101h).symm.trans H
                                obtain ⟨z102g, rfl⟩ := own_at [_] Hq (by omega)
                                refine st_pu Sz100q rfl (g_none rfl) rfl rfl (fun _ => y_index Sz100q rfl rfl sl32 ti3 z101h z99h) ?_
                                intro az103q Sz103q
                                refine st_pures [4, 5, 6] Sz103q rfl ?_
                                intro az104q Sz104q
                                refine st_pu Sz104q rfl (g_none rfl) rfl rfl (fun _ => y_len Sz104q rfl sl25) ?_
                                intro az105q Sz105q
                                by_cases z106h : (x_r.length : Int) = 0
                                · replace H := (if_pos z106h).symm.trans H
                                  exact nomatch H
                                · replace H := (if_neg z106h).symm.trans H
                                  refine st_pu Sz105q rfl (g_none rfl) rfl rfl (fun _ => y_rem Sz105q rfl rfl z106h) ?_
                                  intro az107q Sz107q
                                  by_cases z108h : 0 ≤ (z88x.tmod (x_r.length : Int))
                                  · replace H := (if_pos z108h).symm.trans H
                                    by_cases z109h : (z88x.tmod (x_r.length : Int)) < (x_r.length : Int)
                                    · replace H := (if_pos z109h).symm.trans H
                                      obtain ⟨z110b, z111o, rfl⟩ := (isH_rd [_, _] Hq HR0).at (by omega)
                                      refine st_pu Sz107q rfl (g_none rfl) rfl rfl (fun _ => y_index Sz107q rfl rfl sl25 ti39 z108h z109h) ?_
                                      intro az112q Sz112q
                                      refine st_pu Sz112q rfl (g_none rfl) rfl rfl (fun _ => y_fieldAddr Sz112q rfl fo39x1 (z111o + Int.toNat (z88x.tmod (x_r.length : Int)) * 2 + 1) rfl) ?_
                                      intro az113q Sz113q
                                      refine st_rd Sz113q rfl (g_none rfl) rfl rfl (y_elS Sz113q (own_rd [_] Hq) z101h z99h rfl ti3 _ rfl) ?_
                                      intro az114q Sz114q
                                      refine st_rd Sz114q rfl (g_none rfl) rfl rfl (y_elS Sz114q (isH_rd [_, _] Hq HR0) z108h z109h rfl ti3 _ rfl) ?_
                                      intro az115q Sz115q
                                      refine st_pures [12] Sz115q rfl ?_
                                      intro az116q Sz116q
                                      refine st_nil ?_
                                      replace S0 := Sz116q
                                      refine nr_then ?_
                                      obtain ⟨z117x, H, HU11⟩ := Option.bind_eq_some_iff.mp H
                                      refine w_cutT (fun a w => Sl 130 [] [(0, .slice (some ⟨z110b, z111o, none⟩) x_r.length c0), (1, .int .i64 x_keys), (8, .slice (some ⟨z102g, 0, none⟩) z11x.length z14n), (11, .slice (some ⟨z77b, 0, none⟩) (Int.toNat (z11x.length : Int)) (Int.toNat (z11x.length : Int))), (12, .int .i64 z80x), (14, .int .i64 z88x), (15, .int .i64 z97x)] a ∧ HS W0 [own e_i64 3 (some ⟨z77b, 0, none⟩) (Int.toNat (z11x.length : Int)) (Int.toNat (z11x.length : Int)) z117x, own e_i64 3 (some ⟨z102g, 0, none⟩) z11x.length z14n z11x, isH X] w) ?_ ?_
                                      · skip
                                        by_cases z118h : (rd e_i64 z11x z97x) = ((rd e_api_Point x_r (z88x.tmod (x_r.length : Int))).ID)
                                        · replace H := (if_pos z118h).symm.trans H
                                          refine w_true S0 rfl (decide_eq_true z118h) ?_
                                          refine w_region ?_
                                          refine r_pures [_, _] S0 rfl ?_
                                          clear S0; intro a0 S0
                                          by_cases z119h : z97x < (Int.toNat (z11x.length : Int) : Int)
                                          · replace H := (if_pos z119h).symm.trans H
                                            refine r_index S0 rfl rfl sl32 ti3 z101h z119h rfl ?_
                                            clear S0; intro a0 S0
                                            refine r_elS S0 (own_rd [] Hq) z101h z119h rfl ti3 _ rfl rfl ?_
                                            clear S0; intro a0 S0
                                            refine r_pures [_] S0 rfl ?_
                                            clear S0; intro a0 S0
                                            refine r_index S0 rfl rfl sl32 ti3 z101h z119h rfl ?_
                                            clear S0; intro a0 S0
                                            refine r_elst [] S0 Hq z101h z119h rfl rfl ti3 [.int .i64 (IntKind.i64.wrap ((rd e_i64 z98x z97x) + 1))] rfl rfl rfl rfl (IntKind.i64.wrap ((rd e_i64 z98x z97x) + 1)) rfl ?_
                                            clear Hq; intro w Hq; dsimp only [List.cons_append, List.nil_append] at Hq
                                            refine wl_nil ?_
                                            refine nr_then ?_
                                            obtain rfl := Option.some.inj H
                                            exact ⟨S0.sub ⟨rfl, rfl, rfl, rfl, rfl, rfl, rfl, trivial⟩, Hq⟩
                                          · replace H := (if_neg z119h).symm.trans H
                                            exact nomatch H
                                        · replace H := (if_neg z118h).symm.trans H
                                          refine w_false S0 rfl (decide_eq_false z118h) ?_
                                          refine w_skip ?_
                                          refine nr_then ?_
                                          obtain rfl := Option.some.inj H
                                          exact ⟨S0.sub ⟨rfl, rfl, rfl, rfl, rfl, rfl, rfl, trivial⟩, Hq⟩
                                      · clear S0; rintro a w ⟨S0, Hq⟩
                                        have H := HU11; clear HU11
                                        refine nr_in ?_
                                        refine nr_then ?_
                                        refine w_region ?_
                                        refine r_pures [_, _, _] S0 rfl ?_
                                        clear S0; intro a0 S0
                                        refine wl_nil ?_
                                        refine nr_then ?_
                                        exact ⟨(IntKind.i64.wrap (z97x + 1)), z117x, H, S0.sub ⟨rfl, rfl, rfl, rfl, rfl, rfl, rfl, trivial⟩, Hq⟩
                                    · replace H := (if_neg z109h).symm.trans H
                                      exact nomatch H
                                  · replace H := (if_neg z108h).symm.trans H
                                    exact nomatch H
                              · replace H := (if_neg z101h).symm.trans H
                                exact nomatch H
                            · replace H := (if_neg z99h).symm.trans H
                              refine w_false S0 rfl (decide_eq_false z99h) ?_
                              refine w_exit ?_
                              refine ex_then ?_
                              refine ex_then ?_
                              refine ex_in ?_
                              refine nr_then ?_
                              obtain rfl := Option.some.inj H
                              exact ⟨S0.sub ⟨rfl, rfl, rfl, rfl, rfl, trivial⟩, Hq⟩
                        · clear S0; rintro a w ⟨S0, Hq⟩
                          have H := HU10; clear HU10
                          refine nr_in ?_
                          refine nr_then ?_
                          obtain rfl := Option.some.inj H
                          exact ⟨S0.sub ⟨rfl, rfl, rfl, rfl, rfl, trivial⟩, Hq⟩
                    · clear S0; rintro a w ⟨S0, Hq⟩
                      have H := HU7; clear HU7
                      refine nr_then ?_
                      refine w_region ?_
                      refine r_pures [_, _, _] S0 rfl ?_
                      clear S0; intro a0 S0
                      refine wl_nil ?_
                      refine nr_then ?_
                      exact ⟨(IntKind.i64.wrap (z80x + 1)), z83x, H, S0.sub ⟨rfl, rfl, rfl, rfl, rfl, trivial⟩, Hq⟩
                  · replace H := (if_neg z82h).symm.trans H
                    refine w_false S0 rfl (decide_eq_false z82h) ?_
                    refine w_exit ?_
                    refine ex_then ?_
                    refine ex_then ?_
                    refine ex_in ?_
                    refine nr_then ?_
                    replace Hq := HS.pull [_, _] Hq
                    dsimp only [List.cons_append, List.nil_append] at Hq
                    replace Hq := HS.pull [_] Hq
                    dsimp only [List.cons_append, List.nil_append] at Hq
                    replace Hq := HS.keep [_, _] Hq
                    obtain rfl := Option.some.inj H
                    exact ⟨S0.sub ⟨rfl, trivial⟩, Hq⟩
              · clear S0; rintro a w ⟨S0, Hq⟩
                have H := HU6; clear HU6
                refine nr_then ?_
                refine w_seq ?_
                refine w_region ?_
                refine r_pures [_, _, _] S0 rfl ?_
                clear S0; intro a0 S0
                refine wl_nil ?_
                refine nr_then ?_
                refine w_ret ?_
                obtain rfl := Option.some.inj H
                refine ret2 S0 rfl rfl rfl ?_
                replace Hq := HS.pull [_] Hq
                dsimp only [List.cons_append, List.nil_append] at Hq
                replace Hq := HS.pull [_] Hq
                dsimp only [List.cons_append, List.nil_append] at Hq
                exact ⟨(some ⟨z77b, 0, none⟩), (Int.toNat (z11x.length : Int)), (Int.toNat (z11x.length : Int)), rfl, Hq⟩
            · replace H := (if_neg z76h).symm.trans H
              exact nomatch H
          · replace H := (if_neg z75h).symm.trans H
            exact nomatch H
  · replace H := (if_neg z7h).symm.trans H
    refine w_true S0 rfl (congrArg (!·) (decide_eq_false z7h)) ?_
    refine w_seq ?_
    refine w_region ?_
    refine r_pures [_, _, _] S0 rfl ?_
    clear S0; intro a0 S0
    refine wl_nil ?_
    refine nr_then ?_
    refine w_ret ?_
    refine ret_in ?_
    refine ret_then ?_
    obtain rfl := Option.some.inj H
    replace Hq := HS.own_nil e_i64 3 Hq
    refine ret2 S0 rfl rfl rfl ?_
    replace Hq := HS.pull [_, _] Hq
    dsimp only [List.cons_append, List.nil_append] at Hq
    replace Hq := HS.pull [_] Hq
    dsimp only [List.cons_append, List.nil_append] at Hq
    replace Hq := HS.keep [_, _] Hq
    exact ⟨none, 0, 0, rfl, Hq⟩

end Go.Proofs.Ytmdpjijafejgpaa.M

/- waybill/waybillplain.SamePoints: a plain function, and that the machine's call comes to it: printed by a program of the session's own. -/
set_option linter.unusedVariables false
set_option linter.unusedSimpArgs false
namespace Go.Proofs.Ytmdpjijafejgpaa.M
open Go Go.Proofs.Ytmdpjijafejgpaa.Sl
/-! ### waybill/waybillplain.SamePoints: function 18 -/
def waybillplain_SamePoints.l0 : Nat → (List api_Point) → (List api_Point) → Int → Option (Bool)
  | 0, _, _, _ => none
  | k + 1, x_a, x_b, z2x => if z2x < (x_a.length : Int) then (if 0 ≤ z2x then (if z2x < (x_b.length : Int) then (if (rd e_api_Point x_a z2x) = (rd e_api_Point x_b z2x) then (waybillplain_SamePoints.l0 k x_a x_b (IntKind.i64.wrap (z2x + 1))) else (some false)) else (none)) else (none)) else (some true)
def waybillplain_SamePoints.f (k : Nat) (x_a : List api_Point) (x_b : List api_Point) : Option (Bool) := if (x_a.length : Int) = (x_b.length : Int) then ((waybillplain_SamePoints.l0 k x_a x_b 0)) else (some false)
set_option maxRecDepth 100000 in
set_option maxHeartbeats 4000000 in
theorem waybillplain_SamePoints.calls (k : Nat) (A0 : Option Addr) (n0 c0 : Nat) (x_a : List api_Point) (A1 : Option Addr) (n1 c1 : Nat) (x_b : List api_Point) (W0 : World) (X : Heap) (HR0 : Rd e_api_Point X A0 n0 c0 x_a) (HR1 : Rd e_api_Point X A1 n1 c1 x_b) (Hq : HS W0 [isH X] W0) (r : Bool) (H : waybillplain_SamePoints.f k x_a x_b = some r) :
    Calls Try.prog 18 #[.slice A0 n0 c0, .slice A1 n1 c1] W0 (fun e w => e = .returned (.bool r) ∧ HS W0 [isH X] w) := by
  obtain rfl := HR0.1
  obtain rfl := HR1.1
  rw [waybillplain_SamePoints.f] at H
  refine calls_in Try.func18 rfl rfl ?_
  intro a0 S0
  refine w_seq ?_
  refine w_region ?_
  refine r_pures [_] S0 rfl ?_
  clear S0; intro a0 S0
  refine wl_nil ?_
  refine nr_then ?_
  refine w_seq ?_
  refine w_seq ?_
  refine w_region ?_
  refine r_pures [_] S0 rfl ?_
  clear S0; intro a0 S0
  refine r_len S0 rfl sl25 rfl ?_
  clear S0; intro a0 S0
  refine r_pures [_] S0 rfl ?_
  clear S0; intro a0 S0
  refine r_len S0 rfl sl25 rfl ?_
  clear S0; intro a0 S0
  refine r_pures [_] S0 rfl ?_
  clear S0; intro a0 S0
  refine wl_nil ?_
  refine nr_then ?_
  by_cases z1h : (x_a.length : Int) = (x_b.length : Int)
  · replace H := (if_pos z1h).symm.trans H
    refine w_false S0 rfl (congrArg (!·) (decide_eq_true z1h)) ?_
    refine w_skip ?_
    refine nr_then ?_
    refine w_seq ?_
    refine w_seq ?_
    refine w_region ?_
    refine r_pures [_] S0 rfl ?_
    clear S0; intro a0 S0
    refine wl_nil ?_
    refine nr_then ?_
    refine w_block ?_
    refine w_loop (fun kq a w => ∃ z2x, waybillplain_SamePoints.l0 kq x_a x_b z2x = some r ∧ Sl 26 [] [(0, .slice A0 x_a.length c0), (1, .slice A1 x_b.length c1), (5, .int .i64 z2x)] a ∧ HS W0 [isH X] w) _ ⟨0, H, S0.sub ⟨rfl, rfl, rfl, trivial⟩, Hq⟩ ?_
    clear H Hq S0
    rintro k0 a w ⟨z2x, H, S0, Hq⟩
    cases k0 with
    | zero => simp [waybillplain_SamePoints.l0] at H
    | succ k0 =>
      refine ⟨k0, rfl, ?_⟩
      rw [waybillplain_SamePoints.l0] at H
      refine w_seq ?_
      refine w_seq ?_
      refine w_region ?_
      refine r_pures [_, _] S0 rfl ?_
      clear S0; intro a0 S0
      refine r_len S0 rfl sl25 rfl ?_
      clear S0; intro a0 S0
      refine r_pures [_] S0 rfl ?_
      clear S0; intro a0 S0
      refine wl_nil ?_
      refine nr_then ?_
      by_cases z3h : z2x < (x_a.length : Int)
      · replace H := (if_pos z3h).symm.trans H
        refine w_true S0 rfl (decide_eq_true z3h) ?_
        refine w_skip ?_
        refine nr_then ?_
        refine w_seq ?_
        refine w_block ?_
        refine w_seq ?_
        refine w_draw TryM.mixed (.pu 0 (.pu 1 (.pu 2 (.pu 4 (.pu 5 (.pu 6 (.rd 3 (.rd 7 (.pu 8 .done))))))))) (by kernel_rfl) rfl ?_
        replace Hq := Hq.drew
        refine st_pures [0, 1] S0 rfl ?_
        intro az4q Sz4q
        by_cases z5h : 0 ≤ z2x
        · replace H := (if_pos z5h).symm.trans H
          obtain ⟨z6b, z7o, rfl⟩ := (isH_rd [] Hq HR0).at (by omega)
          refine st_pu Sz4q rfl (g_none rfl) rfl rfl (fun _ => y_index Sz4q rfl rfl sl25 ti39 z5h z3h) ?_
          intro az8q Sz8q
          refine st_pures [4, 5] Sz8q rfl ?_
          intro az9q Sz9q
          by_cases z10h : z2x < (x_b.length : Int)
          · replace H := (if_pos z10h).symm.trans H
            obtain ⟨z11b, z12o, rfl⟩ := (isH_rd [] Hq HR1).at (by omega)
            refine st_pu Sz9q rfl (g_none rfl) rfl rfl (fun _ => y_index Sz9q rfl rfl sl25 ti39 z5h z10h) ?_
            intro az13q Sz13q
            refine st_rd Sz13q rfl (g_none rfl) rfl rfl (y_elA (vs := [.int .u64 ((rd e_api_Point x_a z2x).Hash), .int .i64 ((rd e_api_Point x_a z2x).ID)]) Sz13q (isH_rd [] Hq HR0) z5h z3h rfl ti39 rfl rfl) ?_
            intro az14q Sz14q
            refine st_rd Sz14q rfl (g_none rfl) rfl rfl (y_elA (vs := [.int .u64 ((rd e_api_Point x_b z2x).Hash), .int .i64 ((rd e_api_Point x_b z2x).ID)]) Sz14q (isH_rd [] Hq HR1) z5h z10h rfl ti39 rfl rfl) ?_
            intro az15q Sz15q
            refine st_pu Sz15q rfl (g_none rfl) rfl rfl (fun _ => y_sne (us := [.int .u64 ((rd e_api_Point x_a z2x).Hash), .int .i64 ((rd e_api_Point x_a z2x).ID)]) (vs := [.int .u64 ((rd e_api_Point x_b z2x).Hash), .int .i64 ((rd e_api_Point x_b z2x).ID)]) Sz15q rfl rfl (seq39 (rd e_api_Point x_a z2x) (rd e_api_Point x_b z2x))) ?_
            intro az16q Sz16q
            refine st_nil ?_
            replace S0 := Sz16q
            refine nr_then ?_
            by_cases z17h : (rd e_api_Point x_a z2x) = (rd e_api_Point x_b z2x)
            · replace H := (if_pos z17h).symm.trans H
              refine w_false S0 rfl (congrArg (!·) (decide_eq_true z17h)) ?_
              refine w_skip ?_
              refine nr_in ?_
              refine nr_then ?_
              refine w_region ?_
              refine r_pures [_, _, _] S0 rfl ?_
              clear S0; intro a0 S0
              refine wl_nil ?_
              refine nr_then ?_
              exact ⟨(IntKind.i64.wrap (z2x + 1)), H, S0.sub ⟨rfl, rfl, rfl, trivial⟩, Hq⟩
            · replace H := (if_neg z17h).symm.trans H
              refine w_true S0 rfl (congrArg (!·) (decide_eq_false z17h)) ?_
              refine w_seq ?_
              refine w_region ?_
              refine r_pures [_] S0 rfl ?_
              clear S0; intro a0 S0
              refine wl_nil ?_
              refine nr_then ?_
              refine w_ret ?_
              refine ret_in ?_
              refine ret_then ?_
              refine ret_then ?_
              refine ret_in ?_
              refine ret_then ?_
              obtain rfl := Option.some.inj H
              refine ret1 S0 rfl rfl ?_
              exact ⟨rfl, Hq⟩
          · replace H := (if_neg z10h).symm.trans H
            exact nomatch H
        · replace H := (if_neg z5h).symm.trans H
          exact nomatch H
      · replace H := (if_neg z3h).symm.trans H
        refine w_false S0 rfl (decide_eq_false z3h) ?_
        refine w_exit ?_
        refine ex_then ?_
        refine ex_then ?_
        refine ex_in ?_
        refine nr_then ?_
        refine w_seq ?_
        refine w_region ?_
        refine r_pures [_] S0 rfl ?_
        clear S0; intro a0 S0
        refine wl_nil ?_
        refine nr_then ?_
        refine w_ret ?_
        obtain rfl := Option.some.inj H
        refine ret1 S0 rfl rfl ?_
        exact ⟨rfl, Hq⟩
  · replace H := (if_neg z1h).symm.trans H
    refine w_true S0 rfl (congrArg (!·) (decide_eq_false z1h)) ?_
    refine w_seq ?_
    refine w_region ?_
    refine r_pures [_] S0 rfl ?_
    clear S0; intro a0 S0
    refine wl_nil ?_
    refine nr_then ?_
    refine w_ret ?_
    refine ret_then ?_
    obtain rfl := Option.some.inj H
    refine ret1 S0 rfl rfl ?_
    exact ⟨rfl, Hq⟩

end Go.Proofs.Ytmdpjijafejgpaa.M

/- waybill/waybillplain.SameInts: a plain function, and that the machine's call comes to it: printed by a program of the session's own. -/
set_option linter.unusedVariables false
set_option linter.unusedSimpArgs false
namespace Go.Proofs.Ytmdpjijafejgpaa.M
open Go Go.Proofs.Ytmdpjijafejgpaa.Sl
/-! ### waybill/waybillplain.SameInts: function 19 -/
def waybillplain_SameInts.l0 : Nat → (List Int) → (List Int) → Int → Option (Bool)
  | 0, _, _, _ => none
  | k + 1, x_a, x_b, z2x => if z2x < (x_a.length : Int) then (if 0 ≤ z2x then (if z2x < (x_b.length : Int) then (if (rd e_i64 x_a z2x) = (rd e_i64 x_b z2x) then (waybillplain_SameInts.l0 k x_a x_b (IntKind.i64.wrap (z2x + 1))) else (some false)) else (none)) else (none)) else (some true)
def waybillplain_SameInts.f (k : Nat) (x_a : List Int) (x_b : List Int) : Option (Bool) := if (x_a.length : Int) = (x_b.length : Int) then ((waybillplain_SameInts.l0 k x_a x_b 0)) else (some false)
set_option maxRecDepth 100000 in
set_option maxHeartbeats 4000000 in
theorem waybillplain_SameInts.calls (k : Nat) (A0 : Option Addr) (n0 c0 : Nat) (x_a : List Int) (A1 : Option Addr) (n1 c1 : Nat) (x_b : List Int) (W0 : World) (X : Heap) (HR0 : Rd e_i64 X A0 n0 c0 x_a) (HR1 : Rd e_i64 X A1 n1 c1 x_b) (Hq : HS W0 [isH X] W0) (r : Bool) (H : waybillplain_SameInts.f k x_a x_b = some r) :
    Calls Try.prog 19 #[.slice A0 n0 c0, .slice A1 n1 c1] W0 (fun e w => e = .returned (.bool r) ∧ HS W0 [isH X] w) := by
  obtain rfl := HR0.1
  obtain rfl := HR1.1
  rw [waybillplain_SameInts.f] at H
  refine calls_in Try.func19 rfl rfl ?_
  intro a0 S0
  refine w_seq ?_
  refine w_region ?_
  refine r_pures [_] S0 rfl ?_
  clear S0; intro a0 S0
  refine wl_nil ?_
  refine nr_then ?_
  refine w_seq ?_
  refine w_seq ?_
  refine w_region ?_
  refine r_pures [_] S0 rfl ?_
  clear S0; intro a0 S0
  refine r_len S0 rfl sl32 rfl ?_
  clear S0; intro a0 S0
  refine r_pures [_] S0 rfl ?_
  clear S0; intro a0 S0
  refine r_len S0 rfl sl32 rfl ?_
  clear S0; intro a0 S0
  refine r_pures [_] S0 rfl ?_
  clear S0; intro a0 S0
  refine wl_nil ?_
  refine nr_then ?_
  by_cases z1h : (x_a.length : Int) = (x_b.length : Int)
  · replace H := (if_pos z1h).symm.trans H
    refine w_false S0 rfl (congrArg (!·) (decide_eq_true z1h)) ?_
    refine w_skip ?_
    refine nr_then ?_
    refine w_seq ?_
    refine w_seq ?_
    refine w_region ?_
    refine r_pures [_] S0 rfl ?_
    clear S0; intro a0 S0
    refine wl_nil ?_
    refine nr_then ?_
    refine w_block ?_
    refine w_loop (fun kq a w => ∃ z2x, waybillplain_SameInts.l0 kq x_a x_b z2x = some r ∧ Sl 26 [] [(0, .slice A0 x_a.length c0), (1, .slice A1 x_b.length c1), (5, .int .i64 z2x)] a ∧ HS W0 [isH X] w) _ ⟨0, H, S0.sub ⟨rfl, rfl, rfl, trivial⟩, Hq⟩ ?_
    clear H Hq S0
    rintro k0 a w ⟨z2x, H, S0, Hq⟩
    cases k0 with
    | zero => simp [waybillplain_SameInts.l0] at H
    | succ k0 =>
      refine ⟨k0, rfl, ?_⟩
      rw [waybillplain_SameInts.l0] at H
      refine w_seq ?_
      refine w_seq ?_
      refine w_region ?_
      refine r_pures [_, _] S0 rfl ?_
      clear S0; intro a0 S0
      refine r_len S0 rfl sl32 rfl ?_
      clear S0; intro a0 S0
      refine r_pures [_] S0 rfl ?_
      clear S0; intro a0 S0
      refine wl_nil ?_
      refine nr_then ?_
      by_cases z3h : z2x < (x_a.length : Int)
      · replace H := (if_pos z3h).symm.trans H
        refine w_true S0 rfl (decide_eq_true z3h) ?_
        refine w_skip ?_
        refine nr_then ?_
        refine w_seq ?_
        refine w_block ?_
        refine w_seq ?_
        refine w_draw TryM.mixed (.pu 0 (.pu 1 (.pu 2 (.pu 4 (.pu 5 (.pu 6 (.rd 3 (.rd 7 (.pu 8 .done))))))))) (by kernel_rfl) rfl ?_
        replace Hq := Hq.drew
        refine st_pures [0, 1] S0 rfl ?_
        intro az4q Sz4q
        by_cases z5h : 0 ≤ z2x
        · replace H := (if_pos z5h).symm.trans H
          obtain ⟨z6b, z7o, rfl⟩ := (isH_rd [] Hq HR0).at (by omega)
          refine st_pu Sz4q rfl (g_none rfl) rfl rfl (fun _ => y_index Sz4q rfl rfl sl32 ti3 z5h z3h) ?_
          intro az8q Sz8q
          refine st_pures [4, 5] Sz8q rfl ?_
          intro az9q Sz9q
          by_cases z10h : z2x < (x_b.length : Int)
          · replace H := (if_pos z10h).symm.trans H
            obtain ⟨z11b, z12o, rfl⟩ := (isH_rd [] Hq HR1).at (by omega)
            refine st_pu Sz9q rfl (g_none rfl) rfl rfl (fun _ => y_index Sz9q rfl rfl sl32 ti3 z5h z10h) ?_
            intro az13q Sz13q
            refine st_rd Sz13q rfl (g_none rfl) rfl rfl (y_elS Sz13q (isH_rd [] Hq HR0) z5h z3h rfl ti3 _ rfl) ?_
            intro az14q Sz14q
            refine st_rd Sz14q rfl (g_none rfl) rfl rfl (y_elS Sz14q (isH_rd [] Hq HR1) z5h z10h rfl ti3 _ rfl) ?_
            intro az15q Sz15q
            refine st_pures [8] Sz15q rfl ?_
            intro az16q Sz16q
            refine st_nil ?_
            replace S0 := Sz16q
            refine nr_then ?_
            by_cases z17h : (rd e_i64 x_a z2x) = (rd e_i64 x_b z2x)
            · replace H := (if_pos z17h).symm.trans H
              refine w_false S0 rfl (congrArg (!·) (decide_eq_true z17h)) ?_
              refine w_skip ?_
              refine nr_in ?_
              refine nr_then ?_
              refine w_region ?_
              refine r_pures [_, _, _] S0 rfl ?_
              clear S0; intro a0 S0
              refine wl_nil ?_
              refine nr_then ?_
              exact ⟨(IntKind.i64.wrap (z2x + 1)), H, S0.sub ⟨rfl, rfl, rfl, trivial⟩, Hq⟩
            · replace H := (if_neg z17h).symm.trans H
              refine w_true S0 rfl (congrArg (!·) (decide_eq_false z17h)) ?_
              refine w_seq ?_
              refine w_region ?_
              refine r_pures [_] S0 rfl ?_
              clear S0; intro a0 S0
              refine wl_nil ?_
              refine nr_then ?_
              refine w_ret ?_
              refine ret_in ?_
              refine ret_then ?_
              refine ret_then ?_
              refine ret_in ?_
              refine ret_then ?_
              obtain rfl := Option.some.inj H
              refine ret1 S0 rfl rfl ?_
              exact ⟨rfl, Hq⟩
          · replace H := (if_neg z10h).symm.trans H
            exact nomatch H
        · replace H := (if_neg z5h).symm.trans H
          exact nomatch H
      · replace H := (if_neg z3h).symm.trans H
        refine w_false S0 rfl (decide_eq_false z3h) ?_
        refine w_exit ?_
        refine ex_then ?_
        refine ex_then ?_
        refine ex_in ?_
        refine nr_then ?_
        refine w_seq ?_
        refine w_region ?_
        refine r_pures [_] S0 rfl ?_
        clear S0; intro a0 S0
        refine wl_nil ?_
        refine nr_then ?_
        refine w_ret ?_
        obtain rfl := Option.some.inj H
        refine ret1 S0 rfl rfl ?_
        exact ⟨rfl, Hq⟩
  · replace H := (if_neg z1h).symm.trans H
    refine w_true S0 rfl (congrArg (!·) (decide_eq_false z1h)) ?_
    refine w_seq ?_
    refine w_region ?_
    refine r_pures [_] S0 rfl ?_
    clear S0; intro a0 S0
    refine wl_nil ?_
    refine nr_then ?_
    refine w_ret ?_
    refine ret_then ?_
    obtain rfl := Option.some.inj H
    refine ret1 S0 rfl rfl ?_
    exact ⟨rfl, Hq⟩

end Go.Proofs.Ytmdpjijafejgpaa.M

