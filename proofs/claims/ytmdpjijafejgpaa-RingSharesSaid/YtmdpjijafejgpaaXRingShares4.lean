/- The law RingShares of the seat Ytmdpjijafejgpaa: whatever the input, the call ends, answers true, and what came in reads as it did. This text is part 4 of 4, joined out of the session's texts. -/
import Derived.Test.YtmdpjijafejgpaaXRingShares3
import Derived.Test.YtmdpjijafejgpaaRows
import Derived.Test.YtmdpjijafejgpaaChecked
import Derived.WalkKit
import Derived.ProofKit
import Derived.OpenShut
import Derived.ShutString
import Derived.ChangeOld
import Derived.Below
import Derived.SizedLaws
/- waybill/waybillref12.Shares: a plain function, and that the machine's call comes to it: printed by a program of the session's own. -/
set_option linter.unusedVariables false
set_option linter.unusedSimpArgs false
namespace Go.Proofs.Ytmdpjijafejgpaa.M
open Go Go.Proofs.Ytmdpjijafejgpaa.Sl
/-! ### waybill/waybillref12.Shares: function 17 -/
def waybillref12_Shares.l1 : Nat → (List Int) → Int → (List Int) → Int → (List Int) → Option (Int × (List Int))
  | 0, _, _, _, _, _ => none
  | k + 1, z2t, z15x, z16x, z34x, z35x => ((if 0 < z34x then (if 0 ≤ (IntKind.i64.wrap (z34x - 1)) then (if (IntKind.i64.wrap (z34x - 1)) < ((z16x ++ ([(rd e_i64 z2t z15x)] : List Int)).length : Int) then (if 0 ≤ z15x then (if z15x < (z2t.length : Int) then (some (decide ((rd e_i64 z2t z15x) < (rd e_i64 z35x (IntKind.i64.wrap (z34x - 1)))))) else (none)) else (none)) else (none)) else (none)) else (some false)) : Option (Bool)).bind fun z36x => (if z36x = true then (if 0 ≤ (IntKind.i64.wrap (z34x - 1)) then (if (IntKind.i64.wrap (z34x - 1)) < ((z16x ++ ([(rd e_i64 z2t z15x)] : List Int)).length : Int) then (if 0 ≤ z34x then (if z34x < ((z16x ++ ([(rd e_i64 z2t z15x)] : List Int)).length : Int) then (waybillref12_Shares.l1 k z2t z15x z16x (IntKind.i64.wrap (z34x - 1)) (z35x.set (Int.toNat z34x) (rd e_i64 z35x (IntKind.i64.wrap (z34x - 1))))) else (none)) else (none)) else (none)) else (none)) else (some (z34x, z35x)))
def waybillref12_Shares.l0 : Nat → (List Int) → Int → (List Int) → Option ((List Int))
  | 0, _, _, _ => none
  | k + 1, z2t, z15x, z16x => if z15x < (z2t.length : Int) then (((if 0 ≤ z15x then (if z16x.length + ([(rd e_i64 z2t z15x)] : List Int).length < 17592186044416 then ((((waybillref12_Shares.l1 k z2t z15x z16x (z16x.length : Int) (z16x ++ ([(rd e_i64 z2t z15x)] : List Int)))) : Option (Int × (List Int))).bind fun (z32x, z33x) => (if 0 ≤ z32x then (if z32x < ((z16x ++ ([(rd e_i64 z2t z15x)] : List Int)).length : Int) then (some (z33x.set (Int.toNat z32x) (rd e_i64 z2t z15x))) else (none)) else (none))) else (none)) else (none)) : Option ((List Int))).bind fun z21x => (waybillref12_Shares.l0 k z2t (IntKind.i64.wrap (z15x + 1)) z21x)) else (some z16x)
def waybillref12_Shares.l3 : Nat → (List api_Point) → Int → Int → Option (Int)
  | 0, _, _, _ => none
  | k + 1, x_r, z87t, z89x => ((if z89x < (x_r.length : Int) then (if 0 ≤ z89x then (some (decide (((rd e_api_Point x_r z89x).Hash) < z87t))) else (none)) else (some false)) : Option (Bool)).bind fun z90x => (if z90x = true then (waybillref12_Shares.l3 k x_r z87t (IntKind.i64.wrap (z89x + 1))) else (some z89x))
def waybillref12_Shares.l4 : Nat → (List api_Point) → (List Int) → Int → Int → (List Int) → Option ((List Int))
  | 0, _, _, _, _, _ => none
  | k + 1, x_r, z11x, z88x, z97x, z98x => if z97x < (z11x.length : Int) then (if 0 ≤ z97x then (if (x_r.length : Int) = 0 then (none) else (if 0 ≤ (z88x.tmod (x_r.length : Int)) then (if (z88x.tmod (x_r.length : Int)) < (x_r.length : Int) then (((if (rd e_i64 z11x z97x) = ((rd e_api_Point x_r (z88x.tmod (x_r.length : Int))).ID) then (if z97x < (Int.toNat (z11x.length : Int) : Int) then (some (z98x.set (Int.toNat z97x) (IntKind.i64.wrap ((rd e_i64 z98x z97x) + 1)))) else (none)) else (some z98x)) : Option ((List Int))).bind fun z117x => (waybillref12_Shares.l4 k x_r z11x z88x (IntKind.i64.wrap (z97x + 1)) z117x)) else (none)) else (none))) else (none)) else (some z98x)
def waybillref12_Shares.l2 : Nat → (List api_Point) → Int → (List Int) → Int → (List Int) → Option ((List Int))
  | 0, _, _, _, _, _ => none
  | k + 1, x_r, x_keys, z11x, z80x, z81x => if z80x < x_keys then ((((waybillref10_Ints.f k 2 ([z80x] : List Int)).bind fun z87t => ((((waybillref12_Shares.l3 k x_r z87t 0)) : Option (Int)).bind fun z88x => ((((waybillref12_Shares.l4 k x_r z11x z88x 0 z81x)) : Option ((List Int))).bind fun z96x => (some z96x)))) : Option ((List Int))).bind fun z83x => (waybillref12_Shares.l2 k x_r x_keys z11x (IntKind.i64.wrap (z80x + 1)) z83x)) else (some z81x)
def waybillref12_Shares.f (k : Nat) (x_r : List api_Point) (x_keys : Int) : Option ((List Int) × Int) := (waybillref12_Walk.f k x_r 0).bind fun (z2t, z3t) => (if z3t = 0 then (((if x_keys < 0 then (some true) else (some (decide (4096 < x_keys)))) : Option (Bool)).bind fun z8x => (if z8x = true then (some (([] : List Int), 4)) else ((((waybillref12_Shares.l0 k z2t 0 ([] : List Int))) : Option ((List Int))).bind fun z11x => (if 0 ≤ (z11x.length : Int) then (if Int.toNat (z11x.length : Int) < 17592186044416 then ((((waybillref12_Shares.l2 k x_r x_keys z11x 0 (List.replicate (Int.toNat (z11x.length : Int)) e_i64.z))) : Option ((List Int))).bind fun z79x => (some (z79x, 0))) else (none)) else (none))))) else (some (([] : List Int), z3t)))
set_option maxRecDepth 100000 in
set_option maxHeartbeats 4000000 in
theorem waybillref12_Shares.calls (k : Nat) (A0 : Option Addr) (n0 c0 : Nat) (x_r : List api_Point) (x_keys : Int) (W0 : World) (X : Heap) (HR0 : Rd e_api_Point X A0 n0 c0 x_r) (Hq : HS W0 [isH X] W0) (r : (List Int) × Int) (H : waybillref12_Shares.f k x_r x_keys = some r) :
    Calls Try.prog 17 #[.slice A0 n0 c0, .int .i64 x_keys] W0 (fun e w => ∃ Ar0 nr0 cr0, e = .returned (.tuple #[.slice Ar0 nr0 cr0, .int .i64 r.2]) ∧ HS W0 [own e_i64 3 Ar0 nr0 cr0 r.1, isH X] w) := by
  obtain rfl := HR0.1
  rw [waybillref12_Shares.f] at H
  refine calls_in Try.func17 rfl rfl ?_
  intro a0 S0
  refine w_seq ?_
  refine w_region ?_
  refine r_pures [_, _] S0 rfl ?_
  clear S0; intro a0 S0
  refine wl_nil ?_
  refine nr_then ?_
  refine w_seq ?_
  refine w_region ?_
  refine r_pures [_] S0 rfl ?_
  clear S0; intro a0 S0
  obtain ⟨Xz1, HXz1, HPz1, HBz1⟩ := call_frame [] Hq
  dsimp only [List.cons_append, List.nil_append] at HXz1 HBz1
  obtain ⟨⟨z2t, z3t⟩, Hc, H⟩ := Option.bind_eq_some_iff.mp H
  dsimp only at H
  refine r_call S0 rfl rfl goes15 rfl ?_
  refine (waybillref12_Walk.calls _ _ _ _ x_r 0 _ _ (sl_isH_rd [] HPz1 HR0) HXz1 (z2t, z3t) Hc).mono ?_
  rintro e w ⟨z4A, z5m, z6n, rfl, Hq'⟩
  have Hq : HS W0 [own e_i64 3 z4A z5m z6n z2t, isH X] w := HBz1 [_] _ Hq'
  clear HXz1 HPz1 HBz1 Hq'
  obtain rfl := own_len [] Hq
  refine ⟨.tuple #[.slice z4A z2t.length z6n, .int .i64 z3t], rfl, ?_⟩; clear S0; intro a0 S0
  refine r_pures [_, _, _, _, _] S0 rfl ?_
  clear S0; intro a0 S0
  refine wl_nil ?_
  refine nr_then ?_
  refine w_seq ?_
  refine w_block ?_
  refine w_seq ?_
  refine w_region ?_
  refine r_pures [_, _, _] S0 rfl ?_
  clear S0; intro a0 S0
  refine wl_nil ?_
  refine nr_then ?_
  by_cases z7h : z3t = 0
  · replace H := (if_pos z7h).symm.trans H
    refine w_false S0 rfl (congrArg (!·) (decide_eq_true z7h)) ?_
    refine w_seq ?_
    obtain ⟨z8x, H, HU1⟩ := Option.bind_eq_some_iff.mp H
    refine w_cutT (fun a w => Sl 130 [] [(0, .slice A0 x_r.length c0), (1, .int .i64 x_keys), (6, .slice z4A z2t.length z6n), (25, .bool z8x)] a ∧ HS W0 [own e_i64 3 z4A z2t.length z6n z2t, isH X] w) ?_ ?_
    · skip
      refine w_region ?_
      refine r_pures [_, _, _] S0 rfl ?_
      clear S0; intro a0 S0
      by_cases z9h : x_keys < 0
      · replace H := (if_pos z9h).symm.trans H
        refine r_off S0 rfl rfl rfl (decide_eq_true z9h) ?_ rfl
        clear S0; intro a0 S0
        refine r_off S0 rfl rfl rfl (decide_eq_true z9h) ?_ rfl
        clear S0; intro a0 S0
        refine r_pick S0 rfl (decide_eq_true z9h) _ rfl rfl ?_
        clear S0; intro a0 S0
        refine r_pures [_] S0 rfl ?_
        clear S0; intro a0 S0
        refine wl_nil ?_
        refine nr_then ?_
        obtain rfl := Option.some.inj H
        exact ⟨S0.sub ⟨rfl, rfl, rfl, rfl, trivial⟩, Hq⟩
      · replace H := (if_neg z9h).symm.trans H
        refine r_on S0 rfl rfl rfl (decide_eq_false z9h) ?_
        refine r_pures [_] S0 rfl ?_
        clear S0; intro a0 S0
        refine r_on S0 rfl rfl rfl (decide_eq_false z9h) ?_
        refine r_pures [_] S0 rfl ?_
        clear S0; intro a0 S0
        refine r_pick S0 rfl (decide_eq_false z9h) _ rfl rfl ?_
        clear S0; intro a0 S0
        refine r_pures [_] S0 rfl ?_
        clear S0; intro a0 S0
        refine wl_nil ?_
        refine nr_then ?_
        obtain rfl := Option.some.inj H
        exact ⟨S0.sub ⟨rfl, rfl, rfl, rfl, trivial⟩, Hq⟩
    · clear S0; rintro a w ⟨S0, Hq⟩
      have H := HU1; clear HU1
      refine nr_then ?_
      by_cases z10h : z8x = true
      · replace H := (if_pos z10h).symm.trans H
        refine w_true S0 rfl z10h ?_
        refine w_seq ?_
        refine w_region ?_
        refine r_pures [_, _] S0 rfl ?_
        clear S0; intro a0 S0
        refine wl_nil ?_
        refine nr_then ?_
        refine w_ret ?_
        refine ret_in ?_
        refine ret_then ?_
        obtain rfl := Option.some.inj H
        replace Hq := HS.own_nil e_i64 3 Hq
        refine ret2 S0 rfl rfl rfl ?_
        replace Hq := HS.pull [_, _] Hq
        dsimp only [List.cons_append, List.nil_append] at Hq
        replace Hq := HS.pull [_] Hq
        dsimp only [List.cons_append, List.nil_append] at Hq
        replace Hq := HS.keep [_, _] Hq
        exact ⟨none, 0, 0, rfl, Hq⟩
      · replace H := (if_neg z10h).symm.trans H
        refine w_false S0 rfl (Bool.eq_false_iff.mpr z10h) ?_
        refine w_skip ?_
        refine nr_in ?_
        refine nr_then ?_
        refine w_seq ?_
        refine w_region ?_
        refine r_pures [_] S0 rfl ?_
        clear S0; intro a0 S0
        refine wl_nil ?_
        refine nr_then ?_
        refine w_seq ?_
        refine w_seq ?_
        refine w_region ?_
        refine r_pures [_] S0 rfl ?_
        clear S0; intro a0 S0
        refine wl_nil ?_
        refine nr_then ?_
        replace Hq := HS.own_nil e_i64 3 Hq
        obtain ⟨z11x, H, HU2⟩ := Option.bind_eq_some_iff.mp H
        refine w_cutT (fun a w => ∃ z12A z13m z14n, Sl 130 [] [(0, .slice A0 x_r.length c0), (1, .int .i64 x_keys), (8, .slice z12A z13m z14n)] a ∧ HS W0 [own e_i64 3 z12A z13m z14n z11x, isH X] w) ?_ ?_
        · skip
          refine w_block ?_
          refine w_loop (fun kq a w => ∃ z15x z16x z17A z18m z19n, waybillref12_Shares.l0 kq z2t z15x z16x = some z11x ∧ Sl 130 [] [(0, .slice A0 x_r.length c0), (1, .int .i64 x_keys), (6, .slice z4A z2t.length z6n), (8, .slice z17A z18m z19n), (9, .int .i64 z15x)] a ∧ HS W0 [own e_i64 3 z17A z18m z19n z16x, own e_i64 3 z4A z2t.length z6n z2t, isH X] w) _ ⟨0, ([] : List Int), none, 0, 0, H, S0.sub ⟨rfl, rfl, rfl, rfl, rfl, trivial⟩, Hq⟩ ?_
          clear H Hq S0
          rintro k0 a w ⟨z15x, z16x, z17A, z18m, z19n, H, S0, Hq⟩
          cases k0 with
          | zero => simp [waybillref12_Shares.l0] at H
          | succ k0 =>
            refine ⟨k0, rfl, ?_⟩
            rw [waybillref12_Shares.l0] at H
            obtain rfl := own_len [] Hq
            refine w_seq ?_
            refine w_seq ?_
            refine w_region ?_
            refine r_pures [_, _] S0 rfl ?_
            clear S0; intro a0 S0
            refine r_len S0 rfl sl32 rfl ?_
            clear S0; intro a0 S0
            refine r_pures [_] S0 rfl ?_
            clear S0; intro a0 S0
            refine wl_nil ?_
            refine nr_then ?_
            by_cases z20h : z15x < (z2t.length : Int)
            · replace H := (if_pos z20h).symm.trans H
              refine w_true S0 rfl (decide_eq_true z20h) ?_
              refine w_skip ?_
              refine nr_then ?_
              refine w_seq ?_
              obtain ⟨z21x, H, HU3⟩ := Option.bind_eq_some_iff.mp H
              refine w_cutT (fun a w => ∃ z22A z23m z24n, Sl 130 [] [(0, .slice A0 x_r.length c0), (1, .int .i64 x_keys), (6, .slice z4A z2t.length z6n), (8, .slice z22A z23m z24n), (9, .int .i64 z15x)] a ∧ HS W0 [own e_i64 3 z22A z23m z24n z21x, own e_i64 3 z4A z2t.length z6n z2t, isH X] w) ?_ ?_
              · skip
                refine w_block ?_
                refine w_seq ?_
                refine w_region ?_
                refine r_pures [_] S0 rfl ?_
                clear S0; intro a0 S0
                refine r_len S0 rfl sl32 rfl ?_
                clear S0; intro a0 S0
                refine r_pures [_] S0 rfl ?_
                clear S0; intro a0 S0
                refine wl_nil ?_
                refine nr_then ?_
                refine w_seq ?_
                refine w_region ?_
                refine r_pures [_, _, _] S0 rfl ?_
                clear S0; intro a0 S0
                by_cases z25h : 0 ≤ z15x
                · replace H := (if_pos z25h).symm.trans H
                  obtain ⟨z26g, rfl⟩ := own_at [_] Hq (by omega)
                  refine r_index S0 rfl rfl sl32 ti3 z25h z20h rfl ?_
                  clear S0; intro a0 S0
                  refine r_elS S0 (own_rd [_] Hq) z25h z20h rfl ti3 _ rfl rfl ?_
                  clear S0; intro a0 S0
                  refine r_lit (e := e_i64) (l := ([(rd e_i64 z2t z15x)] : List Int)) (m := 1) (vs := [.int .i64 (rd e_i64 z2t z15x)]) S0 Hq sl32 ti3 rfl rfl rfl rfl rfl rfl ?_
                  clear S0 Hq; intro z27b a0 w S0 Hq
                  by_cases z29h : z16x.length + ([(rd e_i64 z2t z15x)] : List Int).length < 17592186044416
                  · replace H := (if_pos z29h).symm.trans H
                    refine r_app [_] S0 Hq (own_rd [] Hq) rfl rfl sl32 ti3 rfl z29h rfl rfl ?_
                    clear S0 Hq; intro z30A z31n a0 w S0 Hq; dsimp only [List.cons_append, List.nil_append] at Hq
                    refine r_pures [_] S0 rfl ?_
                    clear S0; intro a0 S0
                    refine wl_nil ?_
                    refine nr_then ?_
                    refine w_seq ?_
                    obtain ⟨⟨z32x, z33x⟩, H, HU4⟩ := Option.bind_eq_some_iff.mp H
                    dsimp only at HU4
                    refine w_cutT (fun a w => Sl 130 [] [(0, .slice A0 x_r.length c0), (1, .int .i64 x_keys), (6, .slice (some ⟨z26g, 0, none⟩) z2t.length z6n), (8, .slice z30A ((z16x ++ ([(rd e_i64 z2t z15x)] : List Int)).length) z31n), (9, .int .i64 z15x), (10, .int .i64 z32x)] a ∧ HS W0 [own e_i64 3 z30A ((z16x ++ ([(rd e_i64 z2t z15x)] : List Int)).length) z31n z33x, own e_i64 3 (some ⟨z26g, 0, none⟩) z2t.length z6n z2t, isH X] w) ?_ ?_
                    · skip
                      refine w_block ?_
                      replace Hq := HS.pull [_, _, _] Hq
                      dsimp only [List.cons_append, List.nil_append] at Hq
                      replace Hq := HS.pull [_, _, _] Hq
                      dsimp only [List.cons_append, List.nil_append] at Hq
                      replace Hq := HS.pull [_, _, _] Hq
                      dsimp only [List.cons_append, List.nil_append] at Hq
                      replace Hq := HS.keep [_, _, _] Hq
                      refine w_loop (fun kq a w => ∃ z34x z35x, waybillref12_Shares.l1 kq z2t z15x z16x z34x z35x = some (z32x, z33x) ∧ Sl 130 [] [(0, .slice A0 x_r.length c0), (1, .int .i64 x_keys), (6, .slice (some ⟨z26g, 0, none⟩) z2t.length z6n), (8, .slice z30A ((z16x ++ ([(rd e_i64 z2t z15x)] : List Int)).length) z31n), (9, .int .i64 z15x), (10, .int .i64 z34x)] a ∧ HS W0 [own e_i64 3 z30A ((z16x ++ ([(rd e_i64 z2t z15x)] : List Int)).length) z31n z35x, own e_i64 3 (some ⟨z26g, 0, none⟩) z2t.length z6n z2t, isH X] w) _ ⟨(z16x.length : Int), (z16x ++ ([(rd e_i64 z2t z15x)] : List Int)), H, S0.sub ⟨rfl, rfl, rfl, rfl, rfl, rfl, trivial⟩, Hq⟩ ?_
                      clear H Hq S0
                      rintro k1 a w ⟨z34x, z35x, H, S0, Hq⟩
                      cases k1 with
                      | zero => simp [waybillref12_Shares.l1] at H
                      | succ k1 =>
                        refine ⟨k1, rfl, ?_⟩
                        rw [waybillref12_Shares.l1] at H
                        refine w_seq ?_
                        refine w_seq ?_
                        obtain ⟨z36x, H, HU5⟩ := Option.bind_eq_some_iff.mp H
                        refine w_cutT (fun a w => Sl 130 [] [(0, .slice A0 x_r.length c0), (1, .int .i64 x_keys), (6, .slice (some ⟨z26g, 0, none⟩) z2t.length z6n), (8, .slice z30A ((z16x ++ ([(rd e_i64 z2t z15x)] : List Int)).length) z31n), (9, .int .i64 z15x), (10, .int .i64 z34x), (60, .bool z36x)] a ∧ HS W0 [own e_i64 3 z30A ((z16x ++ ([(rd e_i64 z2t z15x)] : List Int)).length) z31n z35x, own e_i64 3 (some ⟨z26g, 0, none⟩) z2t.length z6n z2t, isH X] w) ?_ ?_
                        · skip
                          refine w_draw TryM.mixed (.pu 0 (.pu 1 (.pu 2 (.pu 3 (.pu 4 (.pu 5 (.pu 6 (.pu 8 (.pu 9 (.pu 10 (.rd 7 (.rd 11 (.pu 12 (.pu 13 .done)))))))))))))) (by kernel_rfl) rfl ?_
                          replace Hq := Hq.drew
                          refine st_pures [0, 1, 2] S0 rfl ?_
                          intro az37q Sz37q
                          by_cases z38h : 0 < z34x
                          · replace H := (if_pos z38h).symm.trans H
                            refine st_pu Sz37q rfl (g_on Sz37q rfl rfl rfl rfl (decide_eq_true z38h)) rfl rfl (fun _ => y_of Sz37q _ rfl) ?_
                            intro az39q Sz39q
                            refine st_pu Sz39q rfl (g_on Sz39q rfl rfl rfl rfl (decide_eq_true z38h)) rfl rfl (fun _ => y_of Sz39q _ rfl) ?_
                            intro az40q Sz40q
                            refine st_pu Sz40q rfl (g_on Sz40q rfl rfl rfl rfl (decide_eq_true z38h)) rfl rfl (fun _ => y_of Sz40q _ rfl) ?_
                            intro az41q Sz41q
                            by_cases z42h : 0 ≤ (IntKind.i64.wrap (z34x - 1))
                            · replace H := (if_pos z42h).symm.trans H
                              by_cases z43h : (IntKind.i64.wrap (z34x - 1)) < ((z16x ++ ([(rd e_i64 z2t z15x)] : List Int)).length : Int)
                              · replace H := (if_pos z43h).symm.trans H
                                obtain ⟨z44g, rfl⟩ := own_at [] Hq (by omega)
                                refine st_pu Sz41q rfl (g_on Sz41q rfl rfl rfl rfl (decide_eq_true z38h)) rfl rfl (fun _ => y_index Sz41q rfl rfl sl32 ti3 z42h z43h) ?_
                                intro az45q Sz45q
                                refine st_pu Sz45q rfl (g_on Sz45q rfl rfl rfl rfl (decide_eq_true z38h)) rfl rfl (fun _ => y_of Sz45q _ rfl) ?_
                                intro az46q Sz46q
                                refine st_pu Sz46q rfl (g_on Sz46q rfl rfl rfl rfl (decide_eq_true z38h)) rfl rfl (fun _ => y_of Sz46q _ rfl) ?_
                                intro az47q Sz47q
                                by_cases z48h : 0 ≤ z15x
                                · replace H := (if_pos z48h).symm.trans H
                                  by_cases z49h : z15x < (z2t.length : Int)
                                  · replace H := (if_pos z49h).symm.trans H
                                    refine st_pu Sz47q rfl (g_on Sz47q rfl rfl rfl rfl (decide_eq_true z38h)) rfl rfl (fun _ => y_index Sz47q rfl rfl sl32 ti3 z48h z49h) ?_
                                    intro az50q Sz50q
                                    refine st_rd Sz50q rfl (g_on Sz50q rfl rfl rfl rfl (decide_eq_true z38h)) rfl rfl (y_elS Sz50q (own_rd [] Hq) z42h z43h rfl ti3 _ rfl) ?_
                                    intro az51q Sz51q
                                    refine st_rd Sz51q rfl (g_on Sz51q rfl rfl rfl rfl (decide_eq_true z38h)) rfl rfl (y_elS Sz51q (own_rd [_] Hq) z48h z49h rfl ti3 _ rfl) ?_
                                    intro az52q Sz52q
                                    refine st_pu Sz52q rfl (g_on Sz52q rfl rfl rfl rfl (decide_eq_true z38h)) rfl rfl (fun _ => y_of Sz52q _ rfl) ?_
                                    intro az53q Sz53q
                                    refine st_pu Sz53q rfl (g_none rfl) rfl rfl (fun _ => y_pick Sz53q rfl (decide_eq_true z38h) _ rfl) ?_
                                    intro az54q Sz54q
                                    refine st_nil ?_
                                    replace S0 := Sz54q
                                    refine nr_then ?_
                                    obtain rfl := Option.some.inj H
                                    exact ⟨S0.sub ⟨rfl, rfl, rfl, rfl, rfl, rfl, rfl, trivial⟩, Hq⟩
                                  · replace H := (if_neg z49h).symm.trans H
                                    exact nomatch H
                                · replace H := (if_neg z48h).symm.trans H
                                  exact nomatch H
                              · replace H := (if_neg z43h).symm.trans H
                                exact nomatch H
                            · replace H := (if_neg z42h).symm.trans H
                              exact nomatch H
                          · replace H := (if_neg z38h).symm.trans H
                            refine st_puOff Sz37q rfl (g_off Sz37q rfl rfl rfl rfl (decide_eq_false z38h)) rfl rfl ?_
                            intro az55q Sz55q
                            refine st_puOff Sz55q rfl (g_off Sz55q rfl rfl rfl rfl (decide_eq_false z38h)) rfl rfl ?_
                            intro az56q Sz56q
                            refine st_puOff Sz56q rfl (g_off Sz56q rfl rfl rfl rfl (decide_eq_false z38h)) rfl rfl ?_
                            intro az57q Sz57q
                            refine st_puOff Sz57q rfl (g_off Sz57q rfl rfl rfl rfl (decide_eq_false z38h)) rfl rfl ?_
                            intro az58q Sz58q
                            refine st_puOff Sz58q rfl (g_off Sz58q rfl rfl rfl rfl (decide_eq_false z38h)) rfl rfl ?_
                            intro az59q Sz59q
                            refine st_puOff Sz59q rfl (g_off Sz59q rfl rfl rfl rfl (decide_eq_false z38h)) rfl rfl ?_
                            intro az60q Sz60q
                            refine st_puOff Sz60q rfl (g_off Sz60q rfl rfl rfl rfl (decide_eq_false z38h)) rfl rfl ?_
                            intro az61q Sz61q
                            refine st_rdOff Sz61q rfl (g_off Sz61q rfl rfl rfl rfl (decide_eq_false z38h)) rfl rfl ?_
                            intro az62q Sz62q
                            refine st_rdOff Sz62q rfl (g_off Sz62q rfl rfl rfl rfl (decide_eq_false z38h)) rfl rfl ?_
                            intro az63q Sz63q
                            refine st_puOff Sz63q rfl (g_off Sz63q rfl rfl rfl rfl (decide_eq_false z38h)) rfl rfl ?_
                            intro az64q Sz64q
                            refine st_pu Sz64q rfl (g_none rfl) rfl rfl (fun _ => y_pick Sz64q rfl (decide_eq_false z38h) _ rfl) ?_
                            intro az65q Sz65q
                            refine st_nil ?_
                            replace S0 := Sz65q
                            refine nr_then ?_
                            obtain rfl := Option.some.inj H
                            exact ⟨S0.sub ⟨rfl, rfl, rfl, rfl, rfl, rfl, rfl, trivial⟩, Hq⟩
                        · clear S0; rintro a w ⟨S0, Hq⟩
                          have H := HU5; clear HU5
                          refine nr_then ?_
                          by_cases z66h : z36x = true
                          · replace H := (if_pos z66h).symm.trans H
                            refine w_true S0 rfl z66h ?_
                            refine w_skip ?_
                            refine nr_then ?_
                            refine w_block ?_
                            refine w_seq ?_
                            refine w_region ?_
                            refine r_pures [_, _, _, _, _] S0 rfl ?_
                            clear S0; intro a0 S0
                            by_cases z67h : 0 ≤ (IntKind.i64.wrap (z34x - 1))
                            · replace H := (if_pos z67h).symm.trans H
                              by_cases z68h : (IntKind.i64.wrap (z34x - 1)) < ((z16x ++ ([(rd e_i64 z2t z15x)] : List Int)).length : Int)
                              · replace H := (if_pos z68h).symm.trans H
                                obtain ⟨z69g, rfl⟩ := own_at [] Hq (by omega)
                                refine r_index S0 rfl rfl sl32 ti3 z67h z68h rfl ?_
                                clear S0; intro a0 S0
                                refine r_elS S0 (own_rd [] Hq) z67h z68h rfl ti3 _ rfl rfl ?_
                                clear S0; intro a0 S0
                                by_cases z70h : 0 ≤ z34x
                                · replace H := (if_pos z70h).symm.trans H
                                  by_cases z71h : z34x < ((z16x ++ ([(rd e_i64 z2t z15x)] : List Int)).length : Int)
                                  · replace H := (if_pos z71h).symm.trans H
                                    refine r_index S0 rfl rfl sl32 ti3 z70h z71h rfl ?_
                                    clear S0; intro a0 S0
                                    refine r_elst [] S0 Hq z70h z71h rfl rfl ti3 [.int .i64 (rd e_i64 z35x (IntKind.i64.wrap (z34x - 1)))] rfl rfl rfl rfl (rd e_i64 z35x (IntKind.i64.wrap (z34x - 1))) rfl ?_
                                    clear Hq; intro w Hq; dsimp only [List.cons_append, List.nil_append] at Hq
                                    refine wl_nil ?_
                                    refine nr_then ?_
                                    refine w_region ?_
                                    refine r_pures [_, _, _] S0 rfl ?_
                                    clear S0; intro a0 S0
                                    refine wl_nil ?_
                                    refine nr_in ?_
                                    refine nr_then ?_
                                    exact ⟨(IntKind.i64.wrap (z34x - 1)), (z35x.set (Int.toNat z34x) (rd e_i64 z35x (IntKind.i64.wrap (z34x - 1)))), H, S0.sub ⟨rfl, rfl, rfl, rfl, rfl, rfl, trivial⟩, Hq⟩
                                  · replace H := (if_neg z71h).symm.trans H
                                    exact nomatch H
                                · replace H := (if_neg z70h).symm.trans H
                                  exact nomatch H
                              · replace H := (if_neg z68h).symm.trans H
                                exact nomatch H
                            · replace H := (if_neg z67h).symm.trans H
                              exact nomatch H
                          · replace H := (if_neg z66h).symm.trans H
                            refine w_false S0 rfl (Bool.eq_false_iff.mpr z66h) ?_
                            refine w_exit ?_
                            refine ex_then ?_
                            refine ex_then ?_
                            refine ex_in ?_
                            refine nr_then ?_
                            simp only [Option.some.injEq, Prod.mk.injEq] at H; obtain ⟨rfl, rfl⟩ := H
                            exact ⟨S0.sub ⟨rfl, rfl, rfl, rfl, rfl, rfl, trivial⟩, Hq⟩
                    · clear S0; rintro a w ⟨S0, Hq⟩
                      have H := HU4; clear HU4
                      refine nr_then ?_
                      refine w_region ?_
                      refine r_pures [_, _, _, _] S0 rfl ?_
                      clear S0; intro a0 S0
                      refine r_index S0 rfl rfl sl32 ti3 z25h z20h rfl ?_
                      clear S0; intro a0 S0
                      refine r_elS S0 (own_rd [_] Hq) z25h z20h rfl ti3 _ rfl rfl ?_
                      clear S0; intro a0 S0
                      by_cases z72h : 0 ≤ z32x
                      · replace H := (if_pos z72h).symm.trans H
                        by_cases z73h : z32x < ((z16x ++ ([(rd e_i64 z2t z15x)] : List Int)).length : Int)
                        · replace H := (if_pos z73h).symm.trans H
                          obtain ⟨z74g, rfl⟩ := own_at [] Hq (by omega)
                          refine r_index S0 rfl rfl sl32 ti3 z72h z73h rfl ?_
                          clear S0; intro a0 S0
                          refine r_elst [] S0 Hq z72h z73h rfl rfl ti3 [.int .i64 (rd e_i64 z2t z15x)] rfl rfl rfl rfl (rd e_i64 z2t z15x) rfl ?_
                          clear Hq; intro w Hq; dsimp only [List.cons_append, List.nil_append] at Hq
                          refine wl_nil ?_
                          refine nr_in ?_
                          refine nr_then ?_
                          obtain rfl := Option.some.inj H
                          exact ⟨(some ⟨z74g, 0, none⟩), ((z16x ++ ([(rd e_i64 z2t z15x)] : List Int)).length), z31n, S0.sub ⟨rfl, rfl, rfl, rfl, rfl, trivial⟩, Hq⟩
                        · replace H := (if_neg z73h).symm.trans H
                          exact nomatch H
                      · replace H := (if_neg z72h).symm.trans H
                        exact nomatch H
                  · replace H := (if_neg z29h).symm.trans H
                    exact nomatch H
                · replace H := (if_neg z25h).symm.trans H
                  exact nomatch H
              · clear S0; rintro a w ⟨z22A, z23m, z24n, S0, Hq⟩
                have H := HU3; clear HU3
                obtain rfl := own_len [] Hq
                refine nr_then ?_
                refine w_region ?_
                refine r_pures [_, _, _] S0 rfl ?_
                clear S0; intro a0 S0
                refine wl_nil ?_
                refine nr_then ?_
                exact ⟨(IntKind.i64.wrap (z15x + 1)), z21x, z22A, z21x.length, z24n, H, S0.sub ⟨rfl, rfl, rfl, rfl, rfl, trivial⟩, Hq⟩
            · replace H := (if_neg z20h).symm.trans H
              refine w_false S0 rfl (decide_eq_false z20h) ?_
              refine w_exit ?_
              refine ex_then ?_
              refine ex_then ?_
              refine ex_in ?_
              refine nr_then ?_
              replace Hq := HS.pull [_, _] Hq
              dsimp only [List.cons_append, List.nil_append] at Hq
              replace Hq := HS.pull [_] Hq
              dsimp only [List.cons_append, List.nil_append] at Hq
              replace Hq := HS.keep [_, _] Hq
              obtain rfl := Option.some.inj H
              exact ⟨z17A, z16x.length, z19n, S0.sub ⟨rfl, rfl, rfl, trivial⟩, Hq⟩
        · clear S0; rintro a w ⟨z12A, z13m, z14n, S0, Hq⟩
          have H := HU2; clear HU2
          obtain rfl := own_len [] Hq
          refine nr_then ?_
          refine w_seq ?_
          refine w_region ?_
          refine r_pures [_] S0 rfl ?_
          clear S0; intro a0 S0
          refine r_len S0 rfl sl32 rfl ?_
          clear S0; intro a0 S0
          by_cases z75h : 0 ≤ (z11x.length : Int)
          · replace H := (if_pos z75h).symm.trans H
            by_cases z76h : Int.toNat (z11x.length : Int) < 17592186044416
            · replace H := (if_pos z76h).symm.trans H
              refine r_make (e := e_i64) S0 Hq rfl rfl sl32 ti3 rfl z75h z76h rfl rfl ?_
              clear S0 Hq; intro z77b a0 w S0 Hq
              refine r_pures [_] S0 rfl ?_
              clear S0; intro a0 S0
              refine wl_nil ?_
              refine nr_then ?_
              refine w_seq ?_
              refine w_seq ?_
              refine w_region ?_
              refine r_pures [_] S0 rfl ?_
              clear S0; intro a0 S0
              refine wl_nil ?_
              refine nr_then ?_
              obtain ⟨z79x, H, HU6⟩ := Option.bind_eq_some_iff.mp H
              refine w_cutT (fun a w => Sl 130 [] [(11, .slice (some ⟨z77b, 0, none⟩) (Int.toNat (z11x.length : Int)) (Int.toNat (z11x.length : Int)))] a ∧ HS W0 [own e_i64 3 (some ⟨z77b, 0, none⟩) (Int.toNat (z11x.length : Int)) (Int.toNat (z11x.length : Int)) z79x, isH X] w) ?_ ?_
              · skip
                refine w_block ?_
                refine w_loop (fun kq a w => ∃ z80x z81x, waybillref12_Shares.l2 kq x_r x_keys z11x z80x z81x = some z79x ∧ Sl 130 [] [(0, .slice A0 x_r.length c0), (1, .int .i64 x_keys), (8, .slice z12A z11x.length z14n), (11, .slice (some ⟨z77b, 0, none⟩) (Int.toNat (z11x.length : Int)) (Int.toNat (z11x.length : Int))), (12, .int .i64 z80x)] a ∧ HS W0 [own e_i64 3 (some ⟨z77b, 0, none⟩) (Int.toNat (z11x.length : Int)) (Int.toNat (z11x.length : Int)) z81x, own e_i64 3 z12A z11x.length z14n z11x, isH X] w) _ ⟨0, (List.replicate (Int.toNat (z11x.length : Int)) e_i64.z), H, S0.sub ⟨rfl, rfl, rfl, rfl, rfl, trivial⟩, Hq⟩ ?_
                clear H Hq S0
                rintro k2 a w ⟨z80x, z81x, H, S0, Hq⟩
                cases k2 with
                | zero => simp [waybillref12_Shares.l2] at H
                | succ k2 =>
                  refine ⟨k2, rfl, ?_⟩
                  rw [waybillref12_Shares.l2] at H
                  refine w_seq ?_
                  refine w_seq ?_
                  refine w_region ?_
                  refine r_pures [_, _, _] S0 rfl ?_
                  clear S0; intro a0 S0
                  refine wl_nil ?_
                  refine nr_then ?_
                  by_cases z82h : z80x < x_keys
                  · replace H := (if_pos z82h).symm.trans H
                    refine w_true S0 rfl (decide_eq_true z82h) ?_
                    refine w_skip ?_
                    refine nr_then ?_
                    refine w_seq ?_
                    obtain ⟨z83x, H, HU7⟩ := Option.bind_eq_some_iff.mp H
                    refine w_cutT (fun a w => Sl 130 [] [(0, .slice A0 x_r.length c0), (1, .int .i64 x_keys), (8, .slice z12A z11x.length z14n), (11, .slice (some ⟨z77b, 0, none⟩) (Int.toNat (z11x.length : Int)) (Int.toNat (z11x.length : Int))), (12, .int .i64 z80x)] a ∧ HS W0 [own e_i64 3 (some ⟨z77b, 0, none⟩) (Int.toNat (z11x.length : Int)) (Int.toNat (z11x.length : Int)) z83x, own e_i64 3 z12A z11x.length z14n z11x, isH X] w) ?_ ?_
                    · skip
                      refine w_block ?_
                      refine w_seq ?_
                      refine w_region ?_
                      refine r_pures [_] S0 rfl ?_
                      clear S0; intro a0 S0
                      refine r_lit (e := e_i64) (l := ([z80x] : List Int)) (m := 1) (vs := [.int .i64 z80x]) S0 Hq sl32 ti3 rfl rfl rfl rfl rfl rfl ?_
                      clear S0 Hq; intro z84b a0 w S0 Hq
                      obtain ⟨Xz86, HXz86, HPz86, HBz86⟩ := call_frame [] Hq
                      dsimp only [List.cons_append, List.nil_append] at HXz86 HBz86
                      obtain ⟨z87t, Hc, H⟩ := Option.bind_eq_some_iff.mp H
                      refine r_call S0 rfl rfl goes24 rfl ?_
                      refine (waybillref10_Ints.calls _ 2 _ _ _ ([z80x] : List Int) _ _ (sl_own_rd [] HPz86) HXz86 z87t Hc).mono ?_
                      rintro e w ⟨rfl, Hq'⟩
                      have Hq : HS W0 [own e_i64 3 (some ⟨z84b, 0, none⟩) 1 1 ([z80x] : List Int), own e_i64 3 (some ⟨z77b, 0, none⟩) (Int.toNat (z11x.length : Int)) (Int.toNat (z11x.length : Int)) z81x, own e_i64 3 z12A z11x.length z14n z11x, isH X] w := HBz86 [] _ Hq'
                      clear HXz86 HPz86 HBz86 Hq'
                      refine ⟨.int .u64 z87t, rfl, ?_⟩; clear S0; intro a0 S0
                      refine r_pures [_] S0 rfl ?_
                      clear S0; intro a0 S0
                      refine wl_nil ?_
                      refine nr_then ?_
                      refine w_seq ?_
                      refine w_region ?_
                      refine r_pures [_] S0 rfl ?_
                      clear S0; intro a0 S0
                      refine wl_nil ?_
                      refine nr_then ?_
                      refine w_seq ?_
                      obtain ⟨z88x, H, HU8⟩ := Option.bind_eq_some_iff.mp H
                      refine w_cutT (fun a w => Sl 130 [] [(0, .slice A0 x_r.length c0), (1, .int .i64 x_keys), (8, .slice z12A z11x.length z14n), (11, .slice (some ⟨z77b, 0, none⟩) (Int.toNat (z11x.length : Int)) (Int.toNat (z11x.length : Int))), (12, .int .i64 z80x), (14, .int .i64 z88x)] a ∧ HS W0 [own e_i64 3 (some ⟨z77b, 0, none⟩) (Int.toNat (z11x.length : Int)) (Int.toNat (z11x.length : Int)) z81x, own e_i64 3 z12A z11x.length z14n z11x, isH X] w) ?_ ?_
                      · skip
                        refine w_block ?_
                        replace Hq := HS.pull [_, _, _] Hq
                        dsimp only [List.cons_append, List.nil_append] at Hq
                        replace Hq := HS.pull [_, _, _] Hq
                        dsimp only [List.cons_append, List.nil_append] at Hq
                        replace Hq := HS.pull [_, _, _] Hq
                        dsimp only [List.cons_append, List.nil_append] at Hq
                        replace Hq := HS.keep [_, _, _] Hq
                        refine w_loop (fun kq a w => ∃ z89x, waybillref12_Shares.l3 kq x_r z87t z89x = some z88x ∧ Sl 130 [] [(0, .slice A0 x_r.length c0), (1, .int .i64 x_keys), (8, .slice z12A z11x.length z14n), (11, .slice (some ⟨z77b, 0, none⟩) (Int.toNat (z11x.length : Int)) (Int.toNat (z11x.length : Int))), (12, .int .i64 z80x), (13, .int .u64 z87t), (14, .int .i64 z89x)] a ∧ HS W0 [own e_i64 3 (some ⟨z77b, 0, none⟩) (Int.toNat (z11x.length : Int)) (Int.toNat (z11x.length : Int)) z81x, own e_i64 3 z12A z11x.length z14n z11x, isH X] w) _ ⟨0, H, S0.sub ⟨rfl, rfl, rfl, rfl, rfl, rfl, rfl, trivial⟩, Hq⟩ ?_
                        clear H Hq S0
                        rintro k3 a w ⟨z89x, H, S0, Hq⟩
                        cases k3 with
                        | zero => simp [waybillref12_Shares.l3] at H
                        | succ k3 =>
                          refine ⟨k3, rfl, ?_⟩
                          rw [waybillref12_Shares.l3] at H
                          refine w_seq ?_
                          refine w_seq ?_
                          obtain ⟨z90x, H, HU9⟩ := Option.bind_eq_some_iff.mp H
                          refine w_cutT (fun a w => Sl 130 [] [(0, .slice A0 x_r.length c0), (1, .int .i64 x_keys), (8, .slice z12A z11x.length z14n), (11, .slice (some ⟨z77b, 0, none⟩) (Int.toNat (z11x.length : Int)) (Int.toNat (z11x.length : Int))), (12, .int .i64 z80x), (13, .int .u64 z87t), (14, .int .i64 z89x), (101, .bool z90x)] a ∧ HS W0 [own e_i64 3 (some ⟨z77b, 0, none⟩) (Int.toNat (z11x.length : Int)) (Int.toNat (z11x.length : Int)) z81x, own e_i64 3 z12A z11x.length z14n z11x, isH X] w) ?_ ?_
                          · skip
                            refine w_region ?_
                            refine r_pures [_, _] S0 rfl ?_
                            clear S0; intro a0 S0
                            refine r_len S0 rfl sl25 rfl ?_
                            clear S0; intro a0 S0
                            refine r_pures [_, _] S0 rfl ?_
                            clear S0; intro a0 S0
                            by_cases z91h : z89x < (x_r.length : Int)
                            · replace H := (if_pos z91h).symm.trans H
                              refine r_on S0 rfl rfl rfl (decide_eq_true z91h) ?_
                              refine r_pures [_] S0 rfl ?_
                              clear S0; intro a0 S0
                              refine r_on S0 rfl rfl rfl (decide_eq_true z91h) ?_
                              refine r_pures [_] S0 rfl ?_
                              clear S0; intro a0 S0
                              refine r_on S0 rfl rfl rfl (decide_eq_true z91h) ?_
                              by_cases z92h : 0 ≤ z89x
                              · replace H := (if_pos z92h).symm.trans H
                                obtain ⟨z93b, z94o, rfl⟩ := (isH_rd [_, _] Hq HR0).at (by omega)
                                refine r_index S0 rfl rfl sl25 ti39 z92h z91h rfl ?_
                                clear S0; intro a0 S0
                                refine r_on S0 rfl rfl rfl (decide_eq_true z91h) ?_
                                refine r_fieldAddr S0 rfl fo39x0 (z94o + Int.toNat z89x * 2 + 0) rfl rfl ?_
                                clear S0; intro a0 S0
                                refine r_on S0 rfl rfl rfl (decide_eq_true z91h) ?_
                                refine r_elS S0 (isH_rd [_, _] Hq HR0) z92h z91h rfl ti23 _ rfl rfl ?_
                                clear S0; intro a0 S0
                                refine r_on S0 rfl rfl rfl (decide_eq_true z91h) ?_
                                refine r_pures [_] S0 rfl ?_
                                clear S0; intro a0 S0
                                refine r_on S0 rfl rfl rfl (decide_eq_true z91h) ?_
                                refine r_pures [_] S0 rfl ?_
                                clear S0; intro a0 S0
                                refine r_pick S0 rfl (decide_eq_true z91h) _ rfl rfl ?_
                                clear S0; intro a0 S0
                                refine wl_nil ?_
                                refine nr_then ?_
                                obtain rfl := Option.some.inj H
                                exact ⟨S0.sub ⟨rfl, rfl, rfl, rfl, rfl, rfl, rfl, rfl, trivial⟩, Hq⟩
                              · replace H := (if_neg z92h).symm.trans H
                                exact nomatch H
                            · replace H := (if_neg z91h).symm.trans H
                              refine r_off S0 rfl rfl rfl (decide_eq_false z91h) ?_ rfl
                              clear S0; intro a0 S0
                              refine r_off S0 rfl rfl rfl (decide_eq_false z91h) ?_ rfl
                              clear S0; intro a0 S0
                              refine r_off S0 rfl rfl rfl (decide_eq_false z91h) ?_ rfl
                              clear S0; intro a0 S0
                              refine r_off S0 rfl rfl rfl (decide_eq_false z91h) ?_ rfl
                              clear S0; intro a0 S0
                              refine r_off S0 rfl rfl rfl (decide_eq_false z91h) ?_ rfl
                              clear S0; intro a0 S0
                              refine r_off S0 rfl rfl rfl (decide_eq_false z91h) ?_ rfl
                              clear S0; intro a0 S0
                              refine r_off S0 rfl rfl rfl (decide_eq_false z91h) ?_ rfl
                              clear S0; intro a0 S0
                              refine r_pick S0 rfl (decide_eq_false z91h) _ rfl rfl ?_
                              clear S0; intro a0 S0
                              refine wl_nil ?_
                              refine nr_then ?_
                              obtain rfl := Option.some.inj H
                              exact ⟨S0.sub ⟨rfl, rfl, rfl, rfl, rfl, rfl, rfl, rfl, trivial⟩, Hq⟩
                          · clear S0; rintro a w ⟨S0, Hq⟩
                            have H := HU9; clear HU9
                            refine nr_then ?_
                            by_cases z95h : z90x = true
                            · replace H := (if_pos z95h).symm.trans H
                              refine w_true S0 rfl z95h ?_
                              refine w_skip ?_
                              refine nr_then ?_
                              refine w_block ?_
                              refine w_region ?_
                              refine r_pures [_, _, _] S0 rfl ?_
                              clear S0; intro a0 S0
                              refine wl_nil ?_
                              refine nr_in ?_
                              refine nr_then ?_
                              exact ⟨(IntKind.i64.wrap (z89x + 1)), H, S0.sub ⟨rfl, rfl, rfl, rfl, rfl, rfl, rfl, trivial⟩, Hq⟩
                            · replace H := (if_neg z95h).symm.trans H
                              refine w_false S0 rfl (Bool.eq_false_iff.mpr z95h) ?_
                              refine w_exit ?_
                              refine ex_then ?_
                              refine ex_then ?_
                              refine ex_in ?_
                              refine nr_then ?_
                              obtain rfl := Option.some.inj H
                              exact ⟨S0.sub ⟨rfl, rfl, rfl, rfl, rfl, rfl, trivial⟩, Hq⟩
                      · clear S0; rintro a w ⟨S0, Hq⟩
                        have H := HU8; clear HU8
                        refine nr_then ?_
                        refine w_seq ?_
                        refine w_region ?_
                        refine r_pures [_] S0 rfl ?_
                        clear S0; intro a0 S0
                        refine wl_nil ?_
                        refine nr_then ?_
                        obtain ⟨z96x, H, HU10⟩ := Option.bind_eq_some_iff.mp H
                        refine w_cutT (fun a w => Sl 130 [] [(0, .slice A0 x_r.length c0), (1, .int .i64 x_keys), (8, .slice z12A z11x.length z14n), (11, .slice (some ⟨z77b, 0, none⟩) (Int.toNat (z11x.length : Int)) (Int.toNat (z11x.length : Int))), (12, .int .i64 z80x)] a ∧ HS W0 [own e_i64 3 (some ⟨z77b, 0, none⟩) (Int.toNat (z11x.length : Int)) (Int.toNat (z11x.length : Int)) z96x, own e_i64 3 z12A z11x.length z14n z11x, isH X] w) ?_ ?_
                        · skip
                          refine w_block ?_
                          refine w_loop (fun kq a w => ∃ z97x z98x, waybillref12_Shares.l4 kq x_r z11x z88x z97x z98x = some z96x ∧ Sl 130 [] [(0, .slice A0 x_r.length c0), (1, .int .i64 x_keys), (8, .slice z12A z11x.length z14n), (11, .slice (some ⟨z77b, 0, none⟩) (Int.toNat (z11x.length : Int)) (Int.toNat (z11x.length : Int))), (12, .int .i64 z80x), (14, .int .i64 z88x), (15, .int .i64 z97x)] a ∧ HS W0 [own e_i64 3 (some ⟨z77b, 0, none⟩) (Int.toNat (z11x.length : Int)) (Int.toNat (z11x.length : Int)) z98x, own e_i64 3 z12A z11x.length z14n z11x, isH X] w) _ ⟨0, z81x, H, S0.sub ⟨rfl, rfl, rfl, rfl, rfl, rfl, rfl, trivial⟩, Hq⟩ ?_
                          clear H Hq S0
                          rintro k4 a w ⟨z97x, z98x, H, S0, Hq⟩
                          cases k4 with
                          | zero => simp [waybillref12_Shares.l4] at H
                          | succ k4 =>
                            refine ⟨k4, rfl, ?_⟩
                            rw [waybillref12_Shares.l4] at H
                            refine w_seq ?_
                            refine w_seq ?_
                            refine w_region ?_
                            refine r_pures [_, _] S0 rfl ?_
                            clear S0; intro a0 S0
                            refine r_len S0 rfl sl32 rfl ?_
                            clear S0; intro a0 S0
                            refine r_pures [_] S0 rfl ?_
                            clear S0; intro a0 S0
                            refine wl_nil ?_
                            refine nr_then ?_
                            by_cases z99h : z97x < (z11x.length : Int)
                            · replace H := (if_pos z99h).symm.trans H
                              refine w_true S0 rfl (decide_eq_true z99h) ?_
                              refine w_skip ?_
                              refine nr_then ?_
                              refine w_seq ?_
                              refine w_block ?_
                              refine w_seq ?_
                              refine w_draw TryM.mixed (.pu 0 (.pu 1 (.pu 2 (.pu 4 (.pu 5 (.pu 6 (.pu 7 (.pu 8 (.pu 9 (.pu 10 (.rd 3 (.rd 11 (.pu 12 .done))))))))))))) (by kernel_rfl) rfl ?_
                              replace Hq := Hq.drew
                              refine st_pures [0, 1] S0 rfl ?_
                              intro az100q Sz100q
                              by_cases z101h : 0 ≤ z97x
                              · replace H := (if_pos z101h).symm.trans H
                                obtain ⟨z102g, rfl⟩ := own_at [_] Hq (by omega)
                                refine st_pu Sz100q rfl (g_none rfl) rfl rfl (fun _ => y_index Sz100q rfl rfl sl32 ti3 z101h z99h) ?_
                                intro az103q Sz103q
                                refine st_pures [4, 5, 6] Sz103q rfl ?_
                                intro az104q Sz104q
                                refine st_pu Sz104q rfl (g_none rfl) rfl rfl (fun _ => y_len Sz104q rfl sl25) ?_
                                intro az105q Sz105q
                                by_cases z106h : (x_r.length : Int) = 0
                                · replace H := (if_pos z106h).symm.trans H
                                  exact nomatch H
                                · replace H := (if_neg z106h).symm.trans H
                                  refine st_pu Sz105q rfl (g_none rfl) rfl rfl (fun _ => y_rem Sz105q rfl rfl z106h) ?_
                                  intro az107q Sz107q
                                  by_cases z108h : 0 ≤ (z88x.tmod (x_r.length : Int))
                                  · replace H := (if_pos z108h).symm.trans H
                                    by_cases z109h : (z88x.tmod (x_r.length : Int)) < (x_r.length : Int)
                                    · replace H := (if_pos z109h).symm.trans H
                                      obtain ⟨z110b, z111o, rfl⟩ := (isH_rd [_, _] Hq HR0).at (by omega)
                                      refine st_pu Sz107q rfl (g_none rfl) rfl rfl (fun _ => y_index Sz107q rfl rfl sl25 ti39 z108h z109h) ?_
                                      intro az112q Sz112q
                                      refine st_pu Sz112q rfl (g_none rfl) rfl rfl (fun _ => y_fieldAddr Sz112q rfl fo39x1 (z111o + Int.toNat (z88x.tmod (x_r.length : Int)) * 2 + 1) rfl) ?_
                                      intro az113q Sz113q
                                      refine st_rd Sz113q rfl (g_none rfl) rfl rfl (y_elS Sz113q (own_rd [_] Hq) z101h z99h rfl ti3 _ rfl) ?_
                                      intro az114q Sz114q
                                      refine st_rd Sz114q rfl (g_none rfl) rfl rfl (y_elS Sz114q (isH_rd [_, _] Hq HR0) z108h z109h rfl ti3 _ rfl) ?_
                                      intro az115q Sz115q
                                      refine st_pures [12] Sz115q rfl ?_
                                      intro az116q Sz116q
                                      refine st_nil ?_
                                      replace S0 := Sz116q
                                      refine nr_then ?_
                                      obtain ⟨z117x, H, HU11⟩ := Option.bind_eq_some_iff.mp H
                                      refine w_cutT (fun a w => Sl 130 [] [(0, .slice (some ⟨z110b, z111o, none⟩) x_r.length c0), (1, .int .i64 x_keys), (8, .slice (some ⟨z102g, 0, none⟩) z11x.length z14n), (11, .slice (some ⟨z77b, 0, none⟩) (Int.toNat (z11x.length : Int)) (Int.toNat (z11x.length : Int))), (12, .int .i64 z80x), (14, .int .i64 z88x), (15, .int .i64 z97x)] a ∧ HS W0 [own e_i64 3 (some ⟨z77b, 0, none⟩) (Int.toNat (z11x.length : Int)) (Int.toNat (z11x.length : Int)) z117x, own e_i64 3 (some ⟨z102g, 0, none⟩) z11x.length z14n z11x, isH X] w) ?_ ?_
                                      · skip
                                        by_cases z118h : (rd e_i64 z11x z97x) = ((rd e_api_Point x_r (z88x.tmod (x_r.length : Int))).ID)
                                        · replace H := (if_pos z118h).symm.trans H
                                          refine w_true S0 rfl (decide_eq_true z118h) ?_
                                          refine w_region ?_
                                          refine r_pures [_, _] S0 rfl ?_
                                          clear S0; intro a0 S0
                                          by_cases z119h : z97x < (Int.toNat (z11x.length : Int) : Int)
                                          · replace H := (if_pos z119h).symm.trans H
                                            refine r_index S0 rfl rfl sl32 ti3 z101h z119h rfl ?_
                                            clear S0; intro a0 S0
                                            refine r_elS S0 (own_rd [] Hq) z101h z119h rfl ti3 _ rfl rfl ?_
                                            clear S0; intro a0 S0
                                            refine r_pures [_] S0 rfl ?_
                                            clear S0; intro a0 S0
                                            refine r_index S0 rfl rfl sl32 ti3 z101h z119h rfl ?_
                                            clear S0; intro a0 S0
                                            refine r_elst [] S0 Hq z101h z119h rfl rfl ti3 [.int .i64 (IntKind.i64.wrap ((rd e_i64 z98x z97x) + 1))] rfl rfl rfl rfl (IntKind.i64.wrap ((rd e_i64 z98x z97x) + 1)) rfl ?_
                                            clear Hq; intro w Hq; dsimp only [List.cons_append, List.nil_append] at Hq
                                            refine wl_nil ?_
                                            refine nr_then ?_
                                            obtain rfl := Option.some.inj H
                                            exact ⟨S0.sub ⟨rfl, rfl, rfl, rfl, rfl, rfl, rfl, trivial⟩, Hq⟩
                                          · replace H := (if_neg z119h).symm.trans H
                                            exact nomatch H
                                        · replace H := (if_neg z118h).symm.trans H
                                          refine w_false S0 rfl (decide_eq_false z118h) ?_
                                          refine w_skip ?_
                                          refine nr_then ?_
                                          obtain rfl := Option.some.inj H
                                          exact ⟨S0.sub ⟨rfl, rfl, rfl, rfl, rfl, rfl, rfl, trivial⟩, Hq⟩
                                      · clear S0; rintro a w ⟨S0, Hq⟩
                                        have H := HU11; clear HU11
                                        refine nr_in ?_
                                        refine nr_then ?_
                                        refine w_region ?_
                                        refine r_pures [_, _, _] S0 rfl ?_
                                        clear S0; intro a0 S0
                                        refine wl_nil ?_
                                        refine nr_then ?_
                                        exact ⟨(IntKind.i64.wrap (z97x + 1)), z117x, H, S0.sub ⟨rfl, rfl, rfl, rfl, rfl, rfl, rfl, trivial⟩, Hq⟩
                                    · replace H := (if_neg z109h).symm.trans H
                                      exact nomatch H
                                  · replace H := (if_neg z108h).symm.trans H
                                    exact nomatch H
                              · replace H := (if_neg z101h).symm.trans H
                                exact nomatch H
                            · replace H := (if_neg z99h).symm.trans H
                              refine w_false S0 rfl (decide_eq_false z99h) ?_
                              refine w_exit ?_
                              refine ex_then ?_
                              refine ex_then ?_
                              refine ex_in ?_
                              refine nr_then ?_
                              obtain rfl := Option.some.inj H
                              exact ⟨S0.sub ⟨rfl, rfl, rfl, rfl, rfl, trivial⟩, Hq⟩
                        · clear S0; rintro a w ⟨S0, Hq⟩
                          have H := HU10; clear HU10
                          refine nr_in ?_
                          refine nr_then ?_
                          obtain rfl := Option.some.inj H
                          exact ⟨S0.sub ⟨rfl, rfl, rfl, rfl, rfl, trivial⟩, Hq⟩
                    · clear S0; rintro a w ⟨S0, Hq⟩
                      have H := HU7; clear HU7
                      refine nr_then ?_
                      refine w_region ?_
                      refine r_pures [_, _, _] S0 rfl ?_
                      clear S0; intro a0 S0
                      refine wl_nil ?_
                      refine nr_then ?_
                      exact ⟨(IntKind.i64.wrap (z80x + 1)), z83x, H, S0.sub ⟨rfl, rfl, rfl, rfl, rfl, trivial⟩, Hq⟩
                  · replace H := (if_neg z82h).symm.trans H
                    refine w_false S0 rfl (decide_eq_false z82h) ?_
                    refine w_exit ?_
                    refine ex_then ?_
                    refine ex_then ?_
                    refine ex_in ?_
                    refine nr_then ?_
                    replace Hq := HS.pull [_, _] Hq
                    dsimp only [List.cons_append, List.nil_append] at Hq
                    replace Hq := HS.pull [_] Hq
                    dsimp only [List.cons_append, List.nil_append] at Hq
                    replace Hq := HS.keep [_, _] Hq
                    obtain rfl := Option.some.inj H
                    exact ⟨S0.sub ⟨rfl, trivial⟩, Hq⟩
              · clear S0; rintro a w ⟨S0, Hq⟩
                have H := HU6; clear HU6
                refine nr_then ?_
                refine w_seq ?_
                refine w_region ?_
                refine r_pures [_, _, _] S0 rfl ?_
                clear S0; intro a0 S0
                refine wl_nil ?_
                refine nr_then ?_
                refine w_ret ?_
                obtain rfl := Option.some.inj H
                refine ret2 S0 rfl rfl rfl ?_
                replace Hq := HS.pull [_] Hq
                dsimp only [List.cons_append, List.nil_append] at Hq
                replace Hq := HS.pull [_] Hq
                dsimp only [List.cons_append, List.nil_append] at Hq
                exact ⟨(some ⟨z77b, 0, none⟩), (Int.toNat (z11x.length : Int)), (Int.toNat (z11x.length : Int)), rfl, Hq⟩
            · replace H := (if_neg z76h).symm.trans H
              exact nomatch H
          · replace H := (if_neg z75h).symm.trans H
            exact nomatch H
  · replace H := (if_neg z7h).symm.trans H
    refine w_true S0 rfl (congrArg (!·) (decide_eq_false z7h)) ?_
    refine w_seq ?_
    refine w_region ?_
    refine r_pures [_, _, _] S0 rfl ?_
    clear S0; intro a0 S0
    refine wl_nil ?_
    refine nr_then ?_
    refine w_ret ?_
    refine ret_in ?_
    refine ret_then ?_
    obtain rfl := Option.some.inj H
    replace Hq := HS.own_nil e_i64 3 Hq
    refine ret2 S0 rfl rfl rfl ?_
    replace Hq := HS.pull [_, _] Hq
    dsimp only [List.cons_append, List.nil_append] at Hq
    replace Hq := HS.pull [_] Hq
    dsimp only [List.cons_append, List.nil_append] at Hq
    replace Hq := HS.keep [_, _] Hq
    exact ⟨none, 0, 0, rfl, Hq⟩

end Go.Proofs.Ytmdpjijafejgpaa.M

/- waybill/waybillplain.SamePoints: a plain function, and that the machine's call comes to it: printed by a program of the session's own. -/
set_option linter.unusedVariables false
set_option linter.unusedSimpArgs false
namespace Go.Proofs.Ytmdpjijafejgpaa.M
open Go Go.Proofs.Ytmdpjijafejgpaa.Sl
/-! ### waybill/waybillplain.SamePoints: function 18 -/
def waybillplain_SamePoints.l0 : Nat → (List api_Point) → (List api_Point) → Int → Option (Bool)
  | 0, _, _, _ => none
  | k + 1, x_a, x_b, z2x => if z2x < (x_a.length : Int) then (if 0 ≤ z2x then (if z2x < (x_b.length : Int) then (if (rd e_api_Point x_a z2x) = (rd e_api_Point x_b z2x) then (waybillplain_SamePoints.l0 k x_a x_b (IntKind.i64.wrap (z2x + 1))) else (some false)) else (none)) else (none)) else (some true)
def waybillplain_SamePoints.f (k : Nat) (x_a : List api_Point) (x_b : List api_Point) : Option (Bool) := if (x_a.length : Int) = (x_b.length : Int) then ((waybillplain_SamePoints.l0 k x_a x_b 0)) else (some false)
set_option maxRecDepth 100000 in
set_option maxHeartbeats 4000000 in
theorem waybillplain_SamePoints.calls (k : Nat) (A0 : Option Addr) (n0 c0 : Nat) (x_a : List api_Point) (A1 : Option Addr) (n1 c1 : Nat) (x_b : List api_Point) (W0 : World) (X : Heap) (HR0 : Rd e_api_Point X A0 n0 c0 x_a) (HR1 : Rd e_api_Point X A1 n1 c1 x_b) (Hq : HS W0 [isH X] W0) (r : Bool) (H : waybillplain_SamePoints.f k x_a x_b = some r) :
    Calls Try.prog 18 #[.slice A0 n0 c0, .slice A1 n1 c1] W0 (fun e w => e = .returned (.bool r) ∧ HS W0 [isH X] w) := by
  obtain rfl := HR0.1
  obtain rfl := HR1.1
  rw [waybillplain_SamePoints.f] at H
  refine calls_in Try.func18 rfl rfl ?_
  intro a0 S0
  refine w_seq ?_
  refine w_region ?_
  refine r_pures [_] S0 rfl ?_
  clear S0; intro a0 S0
  refine wl_nil ?_
  refine nr_then ?_
  refine w_seq ?_
  refine w_seq ?_
  refine w_region ?_
  refine r_pures [_] S0 rfl ?_
  clear S0; intro a0 S0
  refine r_len S0 rfl sl25 rfl ?_
  clear S0; intro a0 S0
  refine r_pures [_] S0 rfl ?_
  clear S0; intro a0 S0
  refine r_len S0 rfl sl25 rfl ?_
  clear S0; intro a0 S0
  refine r_pures [_] S0 rfl ?_
  clear S0; intro a0 S0
  refine wl_nil ?_
  refine nr_then ?_
  by_cases z1h : (x_a.length : Int) = (x_b.length : Int)
  · replace H := (if_pos z1h).symm.trans H
    refine w_false S0 rfl (congrArg (!·) (decide_eq_true z1h)) ?_
    refine w_skip ?_
    refine nr_then ?_
    refine w_seq ?_
    refine w_seq ?_
    refine w_region ?_
    refine r_pures [_] S0 rfl ?_
    clear S0; intro a0 S0
    refine wl_nil ?_
    refine nr_then ?_
    refine w_block ?_
    refine w_loop (fun kq a w => ∃ z2x, waybillplain_SamePoints.l0 kq x_a x_b z2x = some r ∧ Sl 26 [] [(0, .slice A0 x_a.length c0), (1, .slice A1 x_b.length c1), (5, .int .i64 z2x)] a ∧ HS W0 [isH X] w) _ ⟨0, H, S0.sub ⟨rfl, rfl, rfl, trivial⟩, Hq⟩ ?_
    clear H Hq S0
    rintro k0 a w ⟨z2x, H, S0, Hq⟩
    cases k0 with
    | zero => simp [waybillplain_SamePoints.l0] at H
    | succ k0 =>
      refine ⟨k0, rfl, ?_⟩
      rw [waybillplain_SamePoints.l0] at H
      refine w_seq ?_
      refine w_seq ?_
      refine w_region ?_
      refine r_pures [_, _] S0 rfl ?_
      clear S0; intro a0 S0
      refine r_len S0 rfl sl25 rfl ?_
      clear S0; intro a0 S0
      refine r_pures [_] S0 rfl ?_
      clear S0; intro a0 S0
      refine wl_nil ?_
      refine nr_then ?_
      by_cases z3h : z2x < (x_a.length : Int)
      · replace H := (if_pos z3h).symm.trans H
        refine w_true S0 rfl (decide_eq_true z3h) ?_
        refine w_skip ?_
        refine nr_then ?_
        refine w_seq ?_
        refine w_block ?_
        refine w_seq ?_
        refine w_draw TryM.mixed (.pu 0 (.pu 1 (.pu 2 (.pu 4 (.pu 5 (.pu 6 (.rd 3 (.rd 7 (.pu 8 .done))))))))) (by kernel_rfl) rfl ?_
        replace Hq := Hq.drew
        refine st_pures [0, 1] S0 rfl ?_
        intro az4q Sz4q
        by_cases z5h : 0 ≤ z2x
        · replace H := (if_pos z5h).symm.trans H
          obtain ⟨z6b, z7o, rfl⟩ := (isH_rd [] Hq HR0).at (by omega)
          refine st_pu Sz4q rfl (g_none rfl) rfl rfl (fun _ => y_index Sz4q rfl rfl sl25 ti39 z5h z3h) ?_
          intro az8q Sz8q
          refine st_pures [4, 5] Sz8q rfl ?_
          intro az9q Sz9q
          by_cases z10h : z2x < (x_b.length : Int)
          · replace H := (if_pos z10h).symm.trans H
            obtain ⟨z11b, z12o, rfl⟩ := (isH_rd [] Hq HR1).at (by omega)
            refine st_pu Sz9q rfl (g_none rfl) rfl rfl (fun _ => y_index Sz9q rfl rfl sl25 ti39 z5h z10h) ?_
            intro az13q Sz13q
            refine st_rd Sz13q rfl (g_none rfl) rfl rfl (y_elA (vs := [.int .u64 ((rd e_api_Point x_a z2x).Hash), .int .i64 ((rd e_api_Point x_a z2x).ID)]) Sz13q (isH_rd [] Hq HR0) z5h z3h rfl ti39 rfl rfl) ?_
            intro az14q Sz14q
            refine st_rd Sz14q rfl (g_none rfl) rfl rfl (y_elA (vs := [.int .u64 ((rd e_api_Point x_b z2x).Hash), .int .i64 ((rd e_api_Point x_b z2x).ID)]) Sz14q (isH_rd [] Hq HR1) z5h z10h rfl ti39 rfl rfl) ?_
            intro az15q Sz15q
            refine st_pu Sz15q rfl (g_none rfl) rfl rfl (fun _ => y_sne (us := [.int .u64 ((rd e_api_Point x_a z2x).Hash), .int .i64 ((rd e_api_Point x_a z2x).ID)]) (vs := [.int .u64 ((rd e_api_Point x_b z2x).Hash), .int .i64 ((rd e_api_Point x_b z2x).ID)]) Sz15q rfl rfl (seq39 (rd e_api_Point x_a z2x) (rd e_api_Point x_b z2x))) ?_
            intro az16q Sz16q
            refine st_nil ?_
            replace S0 := Sz16q
            refine nr_then ?_
            by_cases z17h : (rd e_api_Point x_a z2x) = (rd e_api_Point x_b z2x)
            · replace H := (if_pos z17h).symm.trans H
              refine w_false S0 rfl (congrArg (!·) (decide_eq_true z17h)) ?_
              refine w_skip ?_
              refine nr_in ?_
              refine nr_then ?_
              refine w_region ?_
              refine r_pures [_, _, _] S0 rfl ?_
              clear S0; intro a0 S0
              refine wl_nil ?_
              refine nr_then ?_
              exact ⟨(IntKind.i64.wrap (z2x + 1)), H, S0.sub ⟨rfl, rfl, rfl, trivial⟩, Hq⟩
            · replace H := (if_neg z17h).symm.trans H
              refine w_true S0 rfl (congrArg (!·) (decide_eq_false z17h)) ?_
              refine w_seq ?_
              refine w_region ?_
              refine r_pures [_] S0 rfl ?_
              clear S0; intro a0 S0
              refine wl_nil ?_
              refine nr_then ?_
              refine w_ret ?_
              refine ret_in ?_
              refine ret_then ?_
              refine ret_then ?_
              refine ret_in ?_
              refine ret_then ?_
              obtain rfl := Option.some.inj H
              refine ret1 S0 rfl rfl ?_
              exact ⟨rfl, Hq⟩
          · replace H := (if_neg z10h).symm.trans H
            exact nomatch H
        · replace H := (if_neg z5h).symm.trans H
          exact nomatch H
      · replace H := (if_neg z3h).symm.trans H
        refine w_false S0 rfl (decide_eq_false z3h) ?_
        refine w_exit ?_
        refine ex_then ?_
        refine ex_then ?_
        refine ex_in ?_
        refine nr_then ?_
        refine w_seq ?_
        refine w_region ?_
        refine r_pures [_] S0 rfl ?_
        clear S0; intro a0 S0
        refine wl_nil ?_
        refine nr_then ?_
        refine w_ret ?_
        obtain rfl := Option.some.inj H
        refine ret1 S0 rfl rfl ?_
        exact ⟨rfl, Hq⟩
  · replace H := (if_neg z1h).symm.trans H
    refine w_true S0 rfl (congrArg (!·) (decide_eq_false z1h)) ?_
    refine w_seq ?_
    refine w_region ?_
    refine r_pures [_] S0 rfl ?_
    clear S0; intro a0 S0
    refine wl_nil ?_
    refine nr_then ?_
    refine w_ret ?_
    refine ret_then ?_
    obtain rfl := Option.some.inj H
    refine ret1 S0 rfl rfl ?_
    exact ⟨rfl, Hq⟩

end Go.Proofs.Ytmdpjijafejgpaa.M

/- waybill/waybilllaw12.own: a plain function, and that the machine's call comes to it: printed by a program of the session's own. -/
set_option linter.unusedVariables false
set_option linter.unusedSimpArgs false
namespace Go.Proofs.Ytmdpjijafejgpaa.M
open Go Go.Proofs.Ytmdpjijafejgpaa.Sl
/-! ### waybill/waybilllaw12.own: function 12 -/
def waybilllaw12_own.f (x_r : List api_Point) : Option (List api_Point) := if ([] : List api_Point).length + x_r.length < 8796093022208 then (some (([] : List api_Point) ++ x_r)) else (none)
set_option maxRecDepth 100000 in
set_option maxHeartbeats 4000000 in
theorem waybilllaw12_own.calls (A0 : Option Addr) (n0 c0 : Nat) (x_r : List api_Point) (W0 : World) (X : Heap) (HR0 : Rd e_api_Point X A0 n0 c0 x_r) (Hq : HS W0 [isH X] W0) (r : List api_Point) (H : waybilllaw12_own.f x_r = some r) :
    Calls Try.prog 12 #[.slice A0 n0 c0] W0 (fun e w => ∃ Ar0 nr0 cr0, e = .returned (.slice Ar0 nr0 cr0) ∧ HS W0 [own e_api_Point 39 Ar0 nr0 cr0 r, isH X] w) := by
  obtain rfl := HR0.1
  rw [waybilllaw12_own.f] at H
  refine calls_in Try.func12 rfl rfl ?_
  intro a0 S0
  refine w_seq ?_
  refine w_region ?_
  refine r_pures [_] S0 rfl ?_
  clear S0; intro a0 S0
  refine wl_nil ?_
  refine nr_then ?_
  refine w_seq ?_
  refine w_region ?_
  refine r_pures [_] S0 rfl ?_
  clear S0; intro a0 S0
  refine wl_nil ?_
  refine nr_then ?_
  refine w_seq ?_
  refine w_region ?_
  refine r_pures [_, _] S0 rfl ?_
  clear S0; intro a0 S0
  replace Hq := HS.own_nil e_api_Point 39 Hq
  by_cases z1h : ([] : List api_Point).length + x_r.length < 8796093022208
  · replace H := (if_pos z1h).symm.trans H
    refine r_app [] S0 Hq (isH_rd [_] Hq HR0) rfl rfl sl25 ti39 rfl z1h rfl rfl ?_
    clear S0 Hq; intro z2A z3n a0 w S0 Hq; dsimp only [List.cons_append, List.nil_append] at Hq
    refine r_pures [_] S0 rfl ?_
    clear S0; intro a0 S0
    refine wl_nil ?_
    refine nr_then ?_
    refine w_ret ?_
    obtain rfl := Option.some.inj H
    refine ret1 S0 rfl rfl ?_
    replace Hq := HS.pull [_] Hq
    dsimp only [List.cons_append, List.nil_append] at Hq
    replace Hq := HS.pull [_] Hq
    dsimp only [List.cons_append, List.nil_append] at Hq
    exact ⟨z2A, ((([] : List api_Point) ++ x_r).length), z3n, rfl, Hq⟩
  · replace H := (if_neg z1h).symm.trans H
    exact nomatch H

end Go.Proofs.Ytmdpjijafejgpaa.M

/- How many keys each has: by the program and by the page. What the laws ask besides. -/
set_option linter.unusedVariables false
set_option linter.unusedSimpArgs false
namespace Go.Proofs.Ytmdpjijafejgpaa.M
open Go Go.Proofs.Ytmdpjijafejgpaa.Sl

def srtI (l : List Int) : List Int := l.mergeSort fun a b => decide (a ≤ b)
theorem srtI_perm (l : List Int) : (srtI l).Perm l := List.mergeSort_perm _ _
theorem srtI_sorted (l : List Int) : (srtI l).Pairwise (· ≤ ·) := by
  have := List.pairwise_mergeSort (le := fun a b : Int => decide (a ≤ b)) (fun a b c h1 h2 => by simp at *; omega) (fun a b => by simp; omega) l
  exact this.imp fun h => by simpa using h
theorem srtI_uniq {l m : List Int} (h : m.Perm l) (hs : m.Pairwise (· ≤ ·)) : m = srtI l :=
  List.Perm.eq_of_pairwise (fun a b _ _ h1 h2 => Int.le_antisymm h1 h2) hs (srtI_sorted l) (h.trans (srtI_perm l).symm)
def gi (l : List Int) (i : Nat) : Int := l.getD i 0
theorem gi_rd (l : List Int) (i : Nat) : rd e_i64 l (i : Int) = gi l i := rfl
theorem drop_gi (l : List Int) {i : Nat} (hi : i < l.length) : l.drop i = gi l i :: l.drop (i + 1) := by
  rw [List.drop_eq_getElem_cons hi, gi, getD_get _ _ _ hi]

/-! ### the page's sort -/
theorem i_l1 (l : List Int) {i : Nat} (hi : i < l.length) (q : List Int) (hq : q.length ≤ 1024) (hs : q.Pairwise (· ≤ ·)) : ∀ (at_ : Nat) (z : List Int), at_ ≤ q.length → z.length = q.length + 1 → z.take at_ = q.take at_ → z.drop (at_ + 1) = q.drop at_ →
    (∀ x ∈ q.drop at_, gi l i < x) → ∃ (a : Nat) (y : List Int), Ev (fun k => waybillref12_Shares.l1 k l i q at_ z) ((a : Int), y) ∧ a < y.length ∧ y.length = q.length + 1 ∧ y.set a (gi l i) = q.take a ++ gi l i :: q.drop a ∧ (∀ x ∈ q.take a, x ≤ gi l i) ∧ (∀ x ∈ q.drop a, gi l i < x)
  | 0, z, h1, h2, h3, h4, h5 => by
    refine ⟨0, z, ?_, by omega, h2, ?_, by simp, h5⟩
    · refine Ev.succ ?_
      simp only [waybillref12_Shares.l1]
      exact Ev.bind (x := false) (Ev.neg (by omega) Ev.ret) (Ev.neg (by simp) Ev.ret)
    · cases z with
      | nil => simp at h2
      | cons a z => simp at h4; simp [h4]
  | at_ + 1, z, h1, h2, h3, h4, h5 => by
    have hzq : (q ++ ([gi l i] : List Int)).length = q.length + 1 := by simp
    have hg : gi z at_ = gi q at_ := by
      have e1 := congrArg (fun w => w.getD at_ 0) h3
      simp only [getD_take _ _ _ _ (Nat.lt_succ_self at_)] at e1
      exact e1
    by_cases c : gi l i < gi q at_
    · obtain ⟨a, y, r1, r2, r3, r4, r5, r6⟩ := i_l1 l hi q hq hs at_ (z.set (at_ + 1) (gi z at_)) (by omega) (by simp [h2]) (by
        rw [List.take_set, List.set_eq_of_length_le (by simp; omega)]
        have := congrArg (List.take at_) h3
        rwa [List.take_take, List.take_take, Nat.min_eq_left (by omega)] at this) (by
        rw [List.drop_set, if_neg (by omega)]
        rw [drop_gi z (i := at_ + 1) (by omega), h4, Nat.sub_self, List.set_cons_zero, hg, ← drop_gi q (by omega)]) (fun x hx => by
        rw [drop_gi q (by omega)] at hx
        rcases List.mem_cons.1 hx with rfl | hx
        · exact c
        · exact h5 x hx)
      refine ⟨a, y, ?_, r2, r3, r4, r5, r6⟩
      refine Ev.succ ?_
      simp only [waybillref12_Shares.l1, W_pred (show at_ + 1 < 4611686018427387904 by omega) (Nat.succ_pos _), gi_rd, hzq]
      refine Ev.bind (x := true) (Ev.pos (by omega) (Ev.pos (by omega) (Ev.pos (by omega) (Ev.pos (by omega) (Ev.pos (by omega) ?_))))) (Ev.pos rfl (Ev.pos (by omega) (Ev.pos (by omega) (Ev.pos (by omega) (Ev.pos (by omega) ?_)))))
      · rw [show at_ + 1 - 1 = at_ by omega, hg]; exact Ev.of (congrArg some (decide_eq_true c))
      · simpa using r1
    · have hle : ∀ x ∈ q.take (at_ + 1), x ≤ gi l i := by
        intro x hx
        rw [List.take_add_one, List.getElem?_eq_getElem (by omega : at_ < q.length)] at hx
        have e : gi q at_ = q[at_] := getD_get _ _ _ (by omega)
        rcases List.mem_append.1 hx with hx | hx
        · have hp : x ≤ gi q at_ := by
            rw [← List.take_append_drop at_ q, drop_gi q (by omega)] at hs
            exact (List.pairwise_append.1 hs).2.2 x hx _ List.mem_cons_self
          omega
        · simp at hx; subst hx
          omega
      refine ⟨at_ + 1, z, ?_, by omega, h2, ?_, hle, h5⟩
      · refine Ev.succ ?_
        simp only [waybillref12_Shares.l1, W_pred (show at_ + 1 < 4611686018427387904 by omega) (Nat.succ_pos _), gi_rd, hzq]
        refine Ev.bind (x := false) (Ev.pos (by omega) (Ev.pos (by omega) (Ev.pos (by omega) (Ev.pos (by omega) (Ev.pos (by omega) ?_))))) (Ev.neg (by simp) Ev.ret)
        rw [show at_ + 1 - 1 = at_ by omega, hg]; exact Ev.of (congrArg some (decide_eq_false c))
      · rw [List.set_eq_take_append_cons_drop, if_pos (by omega), h3, h4]
theorem i_l0 (l : List Int) (hl : l.length ≤ 1024) : ∀ (d i : Nat) (q : List Int), i + d = l.length → q.length = i → q.Pairwise (· ≤ ·) → ∃ y, Ev (fun k => waybillref12_Shares.l0 k l i q) y ∧ y.Pairwise (· ≤ ·) ∧ y.Perm (q ++ l.drop i)
  | 0, i, q, h1, h2, h3 => by
    refine ⟨q, ?_, h3, by rw [List.drop_of_length_le (by omega)]; simp⟩
    refine Ev.succ ?_
    simp only [waybillref12_Shares.l0]
    exact Ev.neg (by omega) Ev.ret
  | d + 1, i, q, h1, h2, h3 => by
    obtain ⟨a, y, r1, r2, r3, r4, r5, r6⟩ := i_l1 l (i := i) (by omega) q (by omega) h3 q.length (q ++ [gi l i]) (Nat.le_refl _) (by simp) (by simp) (by simp) (by simp)
    have hp : (y.set a (gi l i)).Pairwise (· ≤ ·) := by
      rw [r4, List.pairwise_append]
      refine ⟨h3.sublist (List.take_sublist _ _), List.pairwise_cons.2 ⟨fun x hx => Int.le_of_lt (r6 x hx), h3.sublist (List.drop_sublist _ _)⟩, fun x hx z hz => ?_⟩
      rcases List.mem_cons.1 hz with rfl | hz
      · exact r5 x hx
      · have := r5 x hx; have := r6 z hz; omega
    obtain ⟨w, w1, w2, w3⟩ := i_l0 l hl d (i + 1) (y.set a (gi l i)) (by omega) (by rw [List.length_set, r3, h2]) hp
    refine ⟨w, ?_, w2, ?_⟩
    · refine Ev.succ ?_
      simp only [waybillref12_Shares.l0, gi_rd]
      refine Ev.pos (by omega) (Ev.bind (x := y.set a (gi l i)) (Ev.pos (by omega) (Ev.pos (by simp; omega) (Ev.bind r1 (Ev.pos (by omega) (Ev.pos (by simp; omega) Ev.ret))))) ?_)
      rw [W_succ (by omega)]; exact w1
    · refine w3.trans ?_
      rw [drop_gi l (by omega : i < l.length), r4]
      refine (List.Perm.append_right _ (List.perm_middle)).trans ?_
      rw [List.take_append_drop, List.cons_append]
      exact List.perm_middle.symm

/-! ### one more for one of them -/
def bump (out : List Int) (p : Nat) : List Int := out.set p (IntKind.i64.wrap (gi out p + 1))
theorem bump_len (out : List Int) (p : Nat) : (bump out p).length = out.length := by simp [bump]
def place (l : List Int) (y : Int) : Nat := l.countP fun x => decide (x < y)
theorem place_ok {l : List Int} (hs : l.Pairwise (· < ·)) {y : Int} (hy : y ∈ l) : place l y < l.length ∧ gi l (place l y) = y ∧ ∀ j, j < l.length → j ≠ place l y → gi l j ≠ y := by
  obtain ⟨A, C, rfl⟩ := List.append_of_mem hy
  obtain ⟨h1, h2, h3⟩ := List.pairwise_append.1 hs
  obtain ⟨h4, h5⟩ := List.pairwise_cons.1 h2
  have hp : place (A ++ y :: C) y = A.length := by
    unfold place
    rw [List.countP_append, List.countP_cons, if_neg (by simp)]
    have e1 : A.countP (fun x => decide (x < y)) = A.length := List.countP_eq_length.2 fun x hx => decide_eq_true (h3 x hx y List.mem_cons_self)
    have e2 : C.countP (fun x => decide (x < y)) = 0 := List.countP_eq_zero.2 fun x hx => by have := h4 x hx; simp; omega
    omega
  rw [hp]
  refine ⟨by simp, ?_, fun j hj hne q => ?_⟩
  · rw [gi, getD_get _ _ _ (by simp), List.getElem_append_right (Nat.le_refl _)]; simp
  · rw [gi, getD_get _ _ _ hj] at q
    rcases Nat.lt_or_gt_of_ne hne with c | c
    · have := List.pairwise_iff_getElem.1 hs j A.length hj (by simp) c
      rw [q, List.getElem_append_right (Nat.le_refl _)] at this
      simp at this
    · have := List.pairwise_iff_getElem.1 hs A.length j (by simp) hj c
      rw [q, List.getElem_append_right (Nat.le_refl _)] at this
      simp at this
theorem bump_loop (L : Nat → Int → List Int → Option (List Int)) {l : List Int} {y : Int} (hp : place l y < l.length) (he : gi l (place l y) = y) (hu : ∀ j, j < l.length → j ≠ place l y → gi l j ≠ y)
    (step : ∀ (i : Nat) (out : List Int), i < l.length → out.length = l.length → ∀ r, Ev (fun k => L k ((i + 1 : Nat) : Int) (if gi l i = y then bump out i else out)) r → Ev (fun k => L k i out) r) (fin : ∀ out, Ev (fun k => L k (l.length : Int) out) out) (out : List Int) (ho : out.length = l.length) :
    Ev (fun k => L k 0 out) (bump out (place l y)) := by
  have key : ∀ (d i : Nat) (o : List Int), i + d = l.length → o.length = l.length → Ev (fun k => L k i o) (if i ≤ place l y then bump o (place l y) else o) := by
    intro d
    induction d with
    | zero =>
      intro i o h1 h2
      have : i = l.length := by omega
      subst this
      rw [if_neg (by omega)]; exact fin o
    | succ d ih =>
      intro i o h1 h2
      refine step i o (by omega) h2 _ ?_
      by_cases c : i = place l y
      · rw [if_pos (by rw [c]; exact he), if_pos (by omega)]
        have := ih (i + 1) (bump o i) (by omega) (by rw [bump_len]; exact h2)
        rw [if_neg (by omega)] at this
        rw [← c]; exact this
      · rw [if_neg (hu i (by omega) c)]
        have := ih (i + 1) o (by omega) h2
        by_cases c2 : i ≤ place l y
        · rw [if_pos (by omega)] at this; rw [if_pos c2]; exact this
        · rw [if_neg (by omega)] at this; rw [if_neg c2]; exact this
  have := key l.length 0 out (Nat.zero_add _) ho
  rwa [if_pos (Nat.zero_le _)] at this

/-! ### shares -/
def whose (r : List Pt) (i : Nat) : Int := (gp r (fr r (hs 2 [(i : Int)]) % r.length)).ID
def tally (r : List Pt) (l : List Int) : Nat → Nat → List Int → List Int
  | 0, _, out => out
  | d + 1, i, out => tally r l d (i + 1) (bump out (place l (whose r i)))
theorem tally_len (r : List Pt) (l : List Int) : ∀ (d i : Nat) (out : List Int), (tally r l d i out).length = out.length := by
  intro d
  induction d with
  | zero => intro i out; rfl
  | succ d ih => intro i out; rw [tally, ih, bump_len]
theorem whose_mem {r : List Pt} (h0 : 0 < r.length) (i : Nat) : whose r i ∈ ids r := by
  unfold whose ids
  have := Nat.mod_lt (fr r (hs 2 [(i : Int)])) h0
  exact List.mem_map.2 ⟨_, getD_mem _ _ _ this, rfl⟩
theorem shares_l0 {r : List Pt} (hl : r.length ≤ 1024) (hs' : Srt r) (h0 : 0 < r.length) (l w : List Int) (hlw : l.length = w.length) (hll : l.length ≤ 1024) (hlt : l.Pairwise (· < ·)) (hm : ∀ i, whose r i ∈ l) {keys : Nat} (hk : keys ≤ 4096) : ∀ (d i : Nat) (out : List Int), i + d = keys → out.length = l.length →
    Ev (fun k => ring_Shares.l0 k r keys w l i out) (tally r l d i out)
  | 0, i, out, h1, h2 => by
    refine Ev.succ ?_
    simp only [ring_Shares.l0]
    exact Ev.neg (by omega) Ev.ret
  | d + 1, i, out, h1, h2 => by
    obtain ⟨p1, p2, p3⟩ := place_ok hlt (hm i)
    obtain ⟨b, hb⟩ := found_ok r (hs 2 [(i : Int)])
    refine Ev.succ ?_
    simp only [ring_Shares.l0, Int.toNat_natCast]
    refine Ev.pos (by omega) (Ev.bind (pints_ok 2 _ (by simp)) (Ev.bind (bsearch hl hs' _ _ (fun k a b => rfl) r.length 0 r.length (by omega) (by omega) (fr_le r _) (Nat.le_refl _)) (Ev.bind hb (Ev.bind (Ev.of (first_ok _ h0)) ?_))))
    refine Ev.bind (x := (((place l (whose r i) : Nat) : Int), l.contains (whose r i))) (Ev.of ?_) ?_
    · unfold slices_BinarySearch_int_int.f
      rw [if_pos ⟨by omega, hlt.imp fun h => Int.le_of_lt h⟩]; rfl
    · refine Ev.pos (by omega) (Ev.pos (by omega) ?_)
      rw [gi_rd, Int.toNat_natCast, W_succ (by omega)]
      exact shares_l0 hl hs' h0 l w hlw hll hlt hm hk d (i + 1) (bump out (place l (whose r i))) (by omega) (by rw [bump_len]; exact h2)
theorem rshares_l3 {r : List Pt} (hl : r.length ≤ 1024) (hs : Srt r) (h : Int) : Ev (fun k => waybillref12_Shares.l3 k r h 0) ((fr r h : Nat) : Int) := by
  have hfl := fr_le r h
  refine scan_all (n := fr r h) (p := fun _ => False) (fun i hi _ v hv => ?_) (fun _ _ q => q) ?_
  · refine Ev.succ ?_
    simp only [waybillref12_Shares.l3, gp_rd]
    refine Ev.bind (x := true) (Ev.pos (by omega) (Ev.pos (by omega) (Ev.of (congrArg some (decide_eq_true ((fr_iff hs h (by omega)).2 hi)))))) (Ev.pos rfl ?_)
    rw [W_succ (by omega)]; exact hv
  · refine Ev.succ ?_
    simp only [waybillref12_Shares.l3, gp_rd]
    refine Ev.bind (x := false) ?_ (Ev.neg (by simp) Ev.ret)
    by_cases c : fr r h < r.length
    · exact Ev.pos (by omega) (Ev.pos (by omega) (Ev.of (congrArg some (decide_eq_false fun q => absurd ((fr_iff hs h c).1 q) (by omega)))))
    · exact Ev.neg (by omega) Ev.ret
theorem rshares_l2 {r : List Pt} (hl : r.length ≤ 1024) (hs' : Srt r) (h0 : 0 < r.length) (l : List Int) (hll : l.length ≤ 1024) (hlt : l.Pairwise (· < ·)) (hm : ∀ i, whose r i ∈ l) {keys : Nat} (hk : keys ≤ 4096) : ∀ (d i : Nat) (out : List Int), i + d = keys → out.length = l.length →
    Ev (fun k => waybillref12_Shares.l2 k r keys l i out) (tally r l d i out)
  | 0, i, out, h1, h2 => by
    refine Ev.succ ?_
    simp only [waybillref12_Shares.l2]
    exact Ev.neg (by omega) Ev.ret
  | d + 1, i, out, h1, h2 => by
    obtain ⟨p1, p2, p3⟩ := place_ok hlt (hm i)
    have hmod := Nat.mod_lt (fr r (hs 2 [(i : Int)])) h0
    refine Ev.succ ?_
    simp only [waybillref12_Shares.l2]
    refine Ev.pos (by omega) (Ev.bind (x := bump out (place l (whose r i))) (Ev.bind (rints_ok 2 _ (by simp)) (Ev.bind (rshares_l3 hl hs' _) (Ev.bind ?_ Ev.ret))) ?_)
    · refine bump_loop (fun k j o => waybillref12_Shares.l4 k r l ((fr r (hs 2 [(i : Int)]) : Nat) : Int) j o) p1 p2 p3 (fun j o hj ho v hv => ?_) (fun o => ?_) out h2
      · refine Ev.succ ?_
        simp only [waybillref12_Shares.l4, Int.toNat_natCast, mod_ok, gp_rd, gi_rd]
        refine Ev.pos (by omega) (Ev.pos (by omega) (Ev.neg (by omega) (Ev.pos (by omega) (Ev.pos (by omega) (Ev.bind (x := if gi l j = whose r i then bump o j else o) ?_ ?_)))))
        · by_cases c : gi l j = whose r i
          · rw [show (if gi l j = whose r i then bump o j else o) = bump o j from if_pos c]; exact Ev.pos c (Ev.pos (by omega) Ev.ret)
          · rw [show (if gi l j = whose r i then bump o j else o) = o from if_neg c]; exact Ev.neg c Ev.ret
        · rw [W_succ (by omega)]; exact hv
      · refine Ev.succ ?_
        simp only [waybillref12_Shares.l4]
        exact Ev.neg (by omega) Ev.ret
    · rw [W_succ (by omega)]
      exact rshares_l2 hl hs' h0 l hll hlt hm hk d (i + 1) _ (by omega) (by rw [bump_len]; exact h2)
theorem sortI_lt (l : List Int) (hn : l.Nodup) : (srtI l).Pairwise (· < ·) := by
  have h1 := srtI_sorted l
  have h2 : (srtI l).Nodup := (srtI_perm l).nodup_iff.2 hn
  exact (List.pairwise_and_iff.2 ⟨h1, h2⟩).imp fun h => by omega
theorem shares_ok (r : List Pt) (keys : Int) : ∃ s e, Ev (fun k => ring_Shares.f k r keys) (s, e) ∧ Ev (fun k => waybillref12_Shares.f k r keys) (s, e) ∧ s.length ≤ 1024 ∧
    (∀ n : Nat, keys = n → n ≤ 4096 → GoodR r → 0 < r.length → e = 0 ∧ s = tally r (srtI (dd (ids (rot r 0)))) n 0 (List.replicate (dd (ids (rot r 0))).length 0)) := by
  obtain ⟨w, e, w1, w2, w3, w4, w5⟩ := walk_ok r 0
  by_cases c : e = 0
  · subst c
    obtain ⟨G, h0⟩ := w3.1 rfl
    have hs' := goodR_srt G
    have hl := G.len
    have hw : w = dd (ids (rot r 0)) := by rw [w4 rfl, adds_nil]
    by_cases c1 : keys < 0 ∨ 4096 < keys
    · have hb : Ev (fun _ => if keys < 0 then (some true) else (some (decide (4096 < keys)))) true := by
        rcases c1 with h | h
        · exact Ev.pos h Ev.ret
        · exact Ev.neg (by omega) (Ev.of (by simp [h]))
      refine ⟨[], 4, ?_, ?_, by simp, fun n h => by omega⟩
      · simp only [ring_Shares.f]; exact Ev.bind w1 (Ev.pos rfl (Ev.bind hb (Ev.pos rfl Ev.ret)))
      · simp only [waybillref12_Shares.f]; exact Ev.bind w2 (Ev.pos rfl (Ev.bind hb (Ev.pos rfl Ev.ret)))
    · obtain ⟨n, rfl⟩ := Int.eq_ofNat_of_zero_le (show 0 ≤ keys by omega)
      have hb : Ev (fun _ => if (n : Int) < 0 then (some true) else (some (decide (4096 < (n : Int))))) false := Ev.neg (by omega) (Ev.of (by simp; omega))
      have hn : w.Nodup := by rw [hw]; exact nodup_dd _
      have hwl : w.length ≤ 1024 := by
        have h1 : w.length ≤ (ids (rot r 0)).length := by
          rw [w4 rfl]
          have : ∀ (l acc : List Int), (adds acc l).length ≤ acc.length + l.length := by
            intro l
            induction l with
            | nil => intro acc; simp [adds]
            | cons x l ih => intro acc; have := ih (add acc x); have := add_len acc x; simp only [adds, List.foldl_cons] at *; rw [List.length_cons]; omega
          simpa using this (ids (rot r 0)) []
        have h2 : (ids (rot r 0)).length = r.length := by unfold ids; rw [List.length_map, rot_len hs']
        omega
      have hlt := sortI_lt w hn
      have hlen : (srtI w).length = w.length := (srtI_perm w).length_eq
      have hmem : ∀ i, whose r i ∈ srtI w := fun i => by
        rw [(srtI_perm w).mem_iff, hw, mem_dd]
        obtain ⟨p, hp, e⟩ := List.mem_map.1 (whose_mem h0 i)
        exact List.mem_map.2 ⟨p, rot_mem.2 hp, e⟩
      obtain ⟨y, y1, y2, y3⟩ := i_l0 w hwl w.length 0 [] (Nat.zero_add _) rfl List.Pairwise.nil
      rw [List.drop_zero, List.nil_append] at y3
      obtain rfl := srtI_uniq y3 y2
      refine ⟨tally r (srtI w) n 0 (List.replicate w.length 0), 0, ?_, ?_, by rw [tally_len, List.length_replicate]; omega, fun n' hn' _ _ _ => ⟨rfl, by rw [show n' = n by omega, ← hw]⟩⟩
      · simp only [ring_Shares.f, Int.toNat_natCast]
        refine Ev.bind w1 ?_
        dsimp only
        refine (Ev.pos rfl (Ev.bind hb (Ev.neg (by simp) (Ev.bind (x := srtI w) (Ev.of ?_) (Ev.pos (by omega) (Ev.pos (by omega) (Ev.bind ?_ Ev.ret)))))))
        · unfold slices_Sort_int_int.f
          rw [if_pos (by omega)]; rfl
        · exact shares_l0 hl hs' h0 (srtI w) w hlen (by omega) hlt hmem (by omega) n 0 _ (Nat.zero_add _) (by rw [List.length_replicate, hlen])
      · simp only [waybillref12_Shares.f, Int.toNat_natCast]
        refine Ev.bind w2 ?_
        dsimp only
        refine (Ev.pos rfl (Ev.bind hb (Ev.neg (by simp) (Ev.bind y1 (Ev.pos (by omega) (Ev.pos (by omega) (Ev.bind ?_ Ev.ret)))))))
        rw [hlen]
        exact rshares_l2 hl hs' h0 (srtI w) (by omega) hlt hmem (by omega) n 0 _ (Nat.zero_add _) (by rw [List.length_replicate, hlen])
  · refine ⟨[], e, ?_, ?_, by simp, fun n _ _ G h0 => absurd (w3.2 ⟨G, h0⟩) c⟩
    · simp only [ring_Shares.f]; exact Ev.bind w1 (Ev.neg c Ev.ret)
    · simp only [waybillref12_Shares.f]; exact Ev.bind w2 (Ev.neg c Ev.ret)

/-! ### rows that are one; the page's example -/
theorem sameP_ok (l : List Pt) (hl : l.length < 4611686018427387904) : Ev (fun k => waybillplain_SamePoints.f k l l) true := by
  simp only [waybillplain_SamePoints.f]
  refine Ev.pos trivial ?_
  refine scan_all (n := l.length) (p := fun _ => False) (fun i hi hp r hr => ?_) (fun j _ h => h) ?_
  · refine Ev.succ ?_
    simp only [waybillplain_SamePoints.l0]
    refine Ev.pos (by omega) (Ev.pos (by omega) (Ev.pos (by omega) (Ev.pos trivial ?_)))
    rw [W_succ (by omega)]; exact hr
  · refine Ev.succ ?_
    simp only [waybillplain_SamePoints.l0]
    exact Ev.neg (by omega) Ev.ret
theorem sameI_ok (l : List Int) (hl : l.length < 4611686018427387904) : Ev (fun k => waybillplain_SameInts.f k l l) true := by
  simp only [waybillplain_SameInts.f]
  refine Ev.pos trivial ?_
  refine scan_all (n := l.length) (p := fun _ => False) (fun i hi hp r hr => ?_) (fun j _ h => h) ?_
  · refine Ev.succ ?_
    simp only [waybillplain_SameInts.l0]
    refine Ev.pos (by omega) (Ev.pos (by omega) (Ev.pos (by omega) (Ev.pos trivial ?_)))
    rw [W_succ (by omega)]; exact hr
  · refine Ev.succ ?_
    simp only [waybillplain_SameInts.l0]
    exact Ev.neg (by omega) Ev.ret
theorem own_ok (l : List Pt) (hl : l.length < 8796093022208) : waybilllaw12_own.f l = some l := by
  unfold waybilllaw12_own.f; rw [if_pos (by simpa using hl)]; rfl
theorem goodB_pw {l : List B} (G : GoodB l) : l.Pairwise fun a b => a.ID < b.ID := by
  have key : ∀ (d i j : Nat), j = i + d → 0 < d → j < l.length → (gb l i).ID < (gb l j).ID := by
    intro d
    induction d with
    | zero => intro i j _ h; omega
    | succ d ih =>
      intro i j h1 h2 h3
      have b := G.up j h3 (by omega)
      rw [show j - 1 = i + d by omega] at b
      by_cases c : d = 0
      · subst c; simp at b; simpa using b
      · have a := ih i (i + d) rfl (by omega) (by omega)
        omega
  refine List.pairwise_iff_getElem.2 fun i j hi hj hij => ?_
  have := key (j - i) i j (by omega) (by omega) hj
  rwa [gb, gb, getD_get _ _ _ hi, getD_get _ _ _ hj] at this
theorem pw_goodB {l : List B} (hl : l.length ≤ 32) (hm : ∀ b ∈ l, mayB b) (hp : l.Pairwise fun a b => a.ID < b.ID) : GoodB l := by
  refine ⟨hl, fun i hi => hm _ (getD_mem _ _ _ hi), fun i hi h0 => ?_⟩
  have := List.pairwise_iff_getElem.1 hp (i - 1) i (by omega) hi (by omega)
  rw [gb, gb, getD_get _ _ _ hi, getD_get _ _ _ (by omega)]
  omega
theorem mem_pts {p : Nat} {l : List B} {q : Pt} (h : q ∈ pts p l) : ∃ b ∈ l, q.ID = b.ID := by
  obtain ⟨b, hb, hq⟩ := List.mem_flatMap.1 h
  obtain ⟨i, _, rfl⟩ := List.mem_map.1 hq
  exact ⟨b, hb, rfl⟩
theorem pts_has {p : Nat} (hp : 1 ≤ p) {l : List B} {b : B} (hb : b ∈ l) (hm : mayB b) : ∃ q ∈ pts p l, q.ID = b.ID := by
  have hc : 0 < cnt p b := by
    unfold cnt
    obtain ⟨_, _, h1, _⟩ := hm
    exact Nat.mul_pos (by omega) (by omega)
  refine ⟨⟨hs 1 [b.ID, ((0 : Nat) : Int)], b.ID⟩, List.mem_flatMap.2 ⟨b, hb, List.mem_map.2 ⟨0, ?_, rfl⟩⟩, rfl⟩
  rw [List.mem_range'_1]; omega
/-- a ring that was built -/
theorem built {p : Nat} {l : List B} (G : GoodB l) (hp : 1 ≤ p) (hn : (pts p l).length ≤ 1024) : GoodR (srt (pts p l)) ∧ (0 < l.length → 0 < (srt (pts p l)).length) ∧ ∀ y, y ∈ ids (srt (pts p l)) ↔ y ∈ l.map (·.ID) := by
  have hmay : ∀ b ∈ l, mayB b := fun b hb => by
    obtain ⟨i, hi, e⟩ := mem_getD api_Backend.zero hb
    have := G.may i hi
    rw [gb, e] at this
    exact this
  refine ⟨srt_good (srt_sorted _) (by rw [srt_len]; exact hn) fun q hq => ?_, fun h0 => ?_, fun y => ?_⟩
  · obtain ⟨b, hb, e⟩ := mem_pts ((srt_perm _).mem_iff.1 hq)
    have := (hmay b hb).1
    omega
  · cases l with
    | nil => simp at h0
    | cons b l =>
      obtain ⟨q, hq, _⟩ := pts_has hp (List.mem_cons_self) (hmay b List.mem_cons_self)
      rw [srt_len]
      exact List.length_pos_of_mem hq
  · constructor
    · intro hy
      obtain ⟨q, hq, rfl⟩ := List.mem_map.1 hy
      obtain ⟨b, hb, e⟩ := mem_pts ((srt_perm _).mem_iff.1 hq)
      exact List.mem_map.2 ⟨b, hb, e.symm⟩
    · intro hy
      obtain ⟨b, hb, rfl⟩ := List.mem_map.1 hy
      obtain ⟨q, hq, e⟩ := pts_has hp hb (hmay b hb)
      exact List.mem_map.2 ⟨q, (srt_perm _).mem_iff.2 hq, e⟩
theorem walk_perm {p : Nat} {l : List B} (G : GoodB l) (hp : 1 ≤ p) (hn : (pts p l).length ≤ 1024) (h : Int) : (dd (ids (rot (srt (pts p l)) h))).Perm (l.map (·.ID)) := by
  obtain ⟨b1, b2, b3⟩ := built G hp hn
  refine (List.perm_ext_iff_of_nodup (nodup_dd _) ?_).2 fun y => ?_
  · refine List.pairwise_map.2 ((goodB_pw G).imp fun h => ?_)
    omega
  · rw [mem_dd, ← b3]
    constructor
    · intro hy
      obtain ⟨q, hq, e⟩ := List.mem_map.1 hy
      exact List.mem_map.2 ⟨q, rot_mem.1 hq, e⟩
    · intro hy
      obtain ⟨q, hq, e⟩ := List.mem_map.1 hy
      exact List.mem_map.2 ⟨q, rot_mem.2 hq, e⟩
theorem alive_ok : Ev (fun k => waybilllaw12_alive.f k) true := by
  obtain ⟨q, e, b1, _, _, _, b5, b6⟩ := build_ok 3 [(⟨4, 2⟩ : api_Backend)]
  have G : GoodB [(⟨4, 2⟩ : api_Backend)] := pw_goodB (by decide) (fun b hb => by simp at hb; subst hb; decide) (by simp)
  have hn : (pts 3 [(⟨4, 2⟩ : api_Backend)]).length = 6 := by simp [pts, ptsB, cnt]
  obtain rfl : e = 0 := b5.2 ⟨G, 3, rfl, by omega, by omega, by omega⟩
  obtain rfl := b6 3 rfl rfl
  obtain ⟨g1, g2, g3⟩ := built G (p := 3) (by omega) (by omega)
  obtain ⟨x, e, l1, _, l3, l4, _⟩ := lookup_ok (srt (pts 3 [(⟨4, 2⟩ : api_Backend)])) 12345
  have h0 := g2 (by simp)
  obtain rfl : e = 0 := l3.2 ⟨g1, h0⟩
  have hx : x = 4 := by
    have : x ∈ ids (srt (pts 3 [(⟨4, 2⟩ : api_Backend)])) := by
      rw [l4 rfl]
      exact List.mem_map.2 ⟨_, getD_mem _ _ _ (Nat.mod_lt _ h0), rfl⟩
    rw [g3] at this
    simpa using this
  simp only [waybilllaw12_alive.f]
  refine Ev.bind b1 ?_
  dsimp only
  refine Ev.bind l1 ?_
  dsimp only
  refine Ev.bind (x := true) (Ev.bind (Ev.of (r := 0) rfl) (Ev.bind (Ev.of (r := 0) rfl) (Ev.pos (by decide) (Ev.pos ?_ (Ev.of (congrArg some (decide_eq_true hx))))))) Ev.ret
  rw [srt_len, hn]; rfl
end Go.Proofs.Ytmdpjijafejgpaa.M

/- The law RingShares, over the translation's plain functions: true of every input. -/
set_option linter.unusedVariables false
set_option linter.unusedSimpArgs false
namespace Go.Proofs.Ytmdpjijafejgpaa.M
open Go Go.Proofs.Ytmdpjijafejgpaa.Sl

theorem norm200 (x : Int) : ∃ a : Nat, a < 200 ∧ (IntKind.i64.wrap (x.tmod 200 + 200)).tmod 200 = (a : Int) := by
  have q1 := Int.tmod_lt_of_pos x (show (0 : Int) < 200 by omega)
  have q2 := Int.lt_tmod_of_pos x (show (0 : Int) < 200 by omega)
  generalize x.tmod 200 = y at *
  obtain ⟨z, hz⟩ := Int.eq_ofNat_of_zero_le (show 0 ≤ y + 200 by omega)
  refine ⟨z % 200, Nat.mod_lt _ (by omega), ?_⟩
  rw [W_eq (by omega) (by omega), hz]
  exact mod_ok (n := 200)
theorem want_l0 {r : List Pt} (G : GoodR r) (h0 : 0 < r.length) (l : List B) (hll : l.length ≤ 32) (hlt : (l.map (·.ID)).Pairwise (· < ·)) (hm : ∀ i, whose r i ∈ l.map (·.ID)) (keys : Int) {n : Nat} (hn : n < 200) (hk : (IntKind.i64.wrap (keys.tmod 200 + 200)).tmod 200 = (n : Int)) : ∀ (d i : Nat) (out : List Int), i + d = n → out.length = l.length →
    Ev (fun k => waybilllaw12_RingShares.l0 k l keys r i out) (tally r (l.map (·.ID)) d i out)
  | 0, i, out, h1, h2 => by
    refine Ev.succ ?_
    simp only [waybilllaw12_RingShares.l0, hk]
    exact Ev.neg (by omega) Ev.ret
  | d + 1, i, out, h1, h2 => by
    obtain ⟨p1, p2, p3⟩ := place_ok hlt (hm i)
    obtain ⟨x, e, x1, _, x3, x4, _⟩ := lookup_ok r (hs 2 [(i : Int)])
    obtain rfl : e = 0 := x3.2 ⟨G, h0⟩
    obtain rfl : x = whose r i := x4 rfl
    refine Ev.succ ?_
    simp only [waybilllaw12_RingShares.l0, hk]
    refine Ev.pos (by omega) (Ev.bind (x := bump out (place (l.map (·.ID)) (whose r i))) (Ev.bind (rints_ok 2 _ (by simp)) (Ev.bind x1 (Ev.bind ?_ Ev.ret))) ?_)
    · refine bump_loop (fun k j o => waybilllaw12_RingShares.l1 k l (whose r i) 0 j o) p1 p2 p3 (fun j o hj ho v hv => ?_) (fun o => ?_) out (by rw [List.length_map]; exact h2)
      · rw [List.length_map] at hj ho
        have hg : gi (l.map (·.ID)) j = (gb l j).ID := by
          rw [gi, gb, getD_get _ _ _ (by simpa using hj), getD_get _ _ _ hj]; simp
        rw [hg] at hv
        refine Ev.succ ?_
        simp only [waybilllaw12_RingShares.l1, Int.toNat_natCast, gb_rd, gi_rd]
        refine Ev.pos (by omega) (Ev.bind (x := decide ((gb l j).ID = whose r i)) (Ev.bind (Ev.of (r := 0) rfl) (Ev.pos rfl (Ev.pos (by omega) Ev.ret))) (Ev.bind (x := if (gb l j).ID = whose r i then bump o j else o) ?_ ?_))
        · by_cases c : (gb l j).ID = whose r i
          · rw [show (if (gb l j).ID = whose r i then bump o j else o) = bump o j from if_pos c]; exact Ev.dpos c (Ev.pos (by omega) (Ev.pos (by omega) Ev.ret))
          · rw [show (if (gb l j).ID = whose r i then bump o j else o) = o from if_neg c]; exact Ev.dneg c Ev.ret
        · rw [W_succ (by omega)]; exact hv
      · refine Ev.succ ?_
        simp only [waybilllaw12_RingShares.l1]
        exact Ev.neg (by rw [List.length_map]; omega) Ev.ret
    · rw [W_succ (by omega)]
      exact want_l0 G h0 l hll hlt hm keys hn hk d (i + 1) _ (by omega) (by rw [bump_len]; exact h2)
theorem ringShares_ok (points : Int) (l : List B) (keys : Int) : ∃ k, waybilllaw12_RingShares.f k points l keys = some true := by
  refine Ev.some (f := fun k => waybilllaw12_RingShares.f k points l keys) ?_
  obtain ⟨r, e, b1, _, b3, _, b5, b6⟩ := build_ok points l
  simp only [waybilllaw12_RingShares.f]
  refine Ev.bind alive_ok (Ev.pos rfl (Ev.bind b1 ?_))
  dsimp only
  by_cases c : e = 0 ∧ ¬ (l.length : Int) = 0
  · obtain ⟨rfl, hl0⟩ := c
    obtain ⟨G, p, rfl, p1, p2, p3⟩ := b5.1 rfl
    obtain rfl := b6 p rfl rfl
    clear b5 b6
    have hl := G.len
    obtain ⟨n, hn, hk⟩ := norm200 keys
    obtain ⟨g1, g2, g3⟩ := built G p1 p3
    have r0 := g2 (by omega)
    obtain ⟨s, se, s1, _, s3, s4⟩ := shares_ok (srt (pts p l)) (n : Int)
    obtain ⟨rfl, hs⟩ := s4 n rfl (by omega) g1 r0
    have hperm := walk_perm G p1 p3 0
    have hlt : (l.map (·.ID)).Pairwise (· < ·) := List.pairwise_map.2 (goodB_pw G)
    have hids : srtI (dd (ids (rot (srt (pts p l)) 0))) = l.map (·.ID) := (srtI_uniq hperm.symm (hlt.imp fun h => Int.le_of_lt h)).symm
    have hlen : (dd (ids (rot (srt (pts p l)) 0))).length = l.length := by rw [hperm.length_eq, List.length_map]
    rw [hids, hlen] at hs
    have hsl : s.length = l.length := by rw [hs, tally_len, List.length_replicate]
    have hm : ∀ i, whose (srt (pts p l)) i ∈ l.map (·.ID) := fun i => (g3 _).1 (whose_mem r0 i)
    refine Ev.bind (x := false) (Ev.bind (Ev.of (r := 0) rfl) (Ev.pos rfl (Ev.of (congrArg some (decide_eq_false hl0))))) (Ev.neg (by simp) ?_)
    rw [hk]
    refine Ev.bind s1 ?_
    dsimp only
    refine Ev.bind (x := false) (Ev.bind (Ev.of (r := 0) rfl) (Ev.pos rfl (Ev.of (by rw [hsl]; simp)))) (Ev.neg (by simp) (Ev.pos (by omega) ?_))
    simp only [Int.toNat_natCast]
    refine Ev.pos (by omega) (Ev.bind (x := s) ?_ (Ev.bind (sameI_ok s (by omega)) Ev.ret))
    rw [hs]
    exact want_l0 g1 r0 l hl hlt hm keys hn hk n 0 _ (Nat.zero_add _) List.length_replicate
  · refine Ev.bind (x := true) (Ev.bind (Ev.of (r := e) rfl) ?_) (Ev.pos rfl (Ev.bind (x := true) (Ev.bind (Ev.of (r := e) rfl) ?_) Ev.ret))
    · by_cases c1 : e = 0
      · exact Ev.pos c1 (Ev.of (congrArg some (decide_eq_true (Classical.not_not.1 fun q => c ⟨c1, q⟩))))
      · exact Ev.neg c1 Ev.ret
    · by_cases c1 : e = 0
      · exact Ev.pos c1 Ev.ret
      · refine Ev.neg c1 (Ev.of ?_)
        rw [b3 c1]; rfl
end Go.Proofs.Ytmdpjijafejgpaa.M

/- The row of the law RingShares: whatever the input, the call ends, answers true, and what came in reads as it did. It stands on the walk of the law's code (F6) and on the plain law. -/
namespace Go.Proofs.Ytmdpjijafejgpaa.ringShares
open Go Go.ChangeShapes Go.WideShapes Go.ChangeAt Go.RowKit Go.Proofs Go.Proofs.Ytmdpjijafejgpaa.Sl Go.Proofs.Ytmdpjijafejgpaa.M
set_option linter.unusedVariables false
set_option linter.unusedSimpArgs false
theorem own : ownKnob Try.prog.godebug = none := by kernel_rfl
theorem laidOut : laidOutB Try.prog = true := by kernel_rfl
theorem dec36 {H : Type} {enc : TypeId × Value → H} {W : World} (cs : List Value) (h : Mt enc Try.prog W [.int .i64, .int .i64] cs) : ∃ x : api_Backend, cs = e_api_Backend.enc x := by
  obtain ⟨c0, cs0, rfl, -, h⟩ := h.int
  obtain ⟨c1, cs1, rfl, -, h⟩ := h.int
  obtain rfl := h.nil
  exact ⟨⟨c0, c1⟩, rfl⟩
set_option maxRecDepth 100000 in
theorem lifted (os : Os) (started : os.Started) (H : Type) (enc : TypeId × Value → H) :
    ReturnsInHanded {} Try.checked os 6 .any (Rows.ringSharesSpec.pre6 enc Try.prog Try.f6 Rows.ringSharesRow.domain false) (Rows.ringSharesSpec.post enc Try.prog Try.f6 false true false false) := by
  refine returnsInHanded_of_change_sized (C := Try.checked) own started (by kernel_rfl) Try.func6
    (ChangeSpec.witness6 (enc := enc) (C := Try.checked) false ⟨#[], #[.int .i64 0, .slice none 0 0, .int .i64 0], []⟩ 8 (by kernel_rfl) (by kernel_rfl) (by kernel_rfl) (by kernel_rfl)) ?_
  intro W base args ds gs before hval0 hW hcnd hsz0 _
  have hsz : (DataW.weightsEach Try.prog (Try.f6.params.toList ++ Rows.ringSharesSpec.plain.varTypes Try.prog) (ds ++ gs)).all (· ≤ reachBytes) = true := hsz0
  have hval : ∀ (j : Nat) t v, Try.f6.params[j]? = some t → args[j]? = some v → Value.okWide Try.prog W .any base t v := hval0
  have hW' := hW
  obtain ⟨p, q, hA0, hV, rfl, hfz, hnd⟩ := hW
  have hA : DataW.TrodAll enc Try.prog W 0 (fun _ => true) true Try.f6.params.toList args.toList ds p := hA0
  rw [show Try.f6.params = #[3, 22, 3] by kernel_rfl] at hA hval hsz
  obtain ⟨v0, vs0, d0, ds0, p0, q0, hargs, rfl, rfl, h0, r0⟩ := trodAll_cons hA
  obtain ⟨v1, vs1, d1, ds1, p1, q1, rfl, rfl, rfl, h1, r1⟩ := trodAll_cons r0
  obtain ⟨v2, vs2, d2, ds2, p2, q2, rfl, rfl, rfl, h2, r2⟩ := trodAll_cons r1
  obtain ⟨rfl, rfl, rfl⟩ := trodAll_nil r2
  obtain rfl : args = #[v0, v1, v2] := by cases args; simp_all
  obtain ⟨rfl, rfl⟩ := trodVars_none hV
  obtain ⟨a0, rfl, rfl, rfl, w0⟩ := open_int (by kernel_rfl : Try.prog.underlying 3 = some (.int .i64)) (hval 0 3 v0 rfl rfl) h0
  have hw1 := own_weights hsz (j := 1) (t := 22) rfl rfl
  obtain ⟨a1, n1, c1, rfl⟩ := okWide_slice (by kernel_rfl : Try.prog.underlying 22 = some (.slice 36)) (hval 1 22 v1 rfl rfl)
  have k1 := h1
  have lt1 : ∀ x ∈ p1, x.block < W.heap.size := by obtain ⟨m, hm⟩ := k1; exact DataW.trod_lt m _ _ _ hm
  obtain ⟨m1, hm1⟩ := h1
  obtain ⟨A1, len1, cap1, l1, hv1, R1, M1, y1⟩ := row_of (e := e_api_Backend) (by kernel_rfl : Try.prog.underlying 22 = some (.slice 36)) (by kernel_rfl : leafKs Try.prog 12 36 = some [.int .i64, .int .i64]) (by kernel_rfl) dec36 hm1 hw1
  obtain ⟨rfl, rfl, rfl⟩ := Value.slice.inj hv1
  rw [show Try.prog.bytesOf 36 = 16 by kernel_rfl] at y1
  obtain ⟨a2, rfl, rfl, rfl, w2⟩ := open_int (by kernel_rfl : Try.prog.underlying 3 = some (.int .i64)) (hval 2 3 v2 rfl rfl) h2
  clear hA0 hval0 hsz0 hsz
  obtain ⟨k, hk⟩ : ∃ k, waybilllaw12_RingShares.f k a0 l1 a2 = some true := ringShares_ok a0 l1 a2
  refine (waybilllaw12_RingShares.calls k a0 a1 n1 c1 l1 a2 W (hpOf W) R1 (HS.start W) true hk).mono fun e W' ⟨he, hs⟩ => ?_
  have bel : Below W.heap.size W W' := HS.below (pre := []) hs
  subst he
  exact ⟨_, rfl, _, _, _, [], _, [], hW', trodAll_mk1 (shut_bool (by kernel_rfl : Try.prog.underlying 4 = some .bool) _), (trodAll_cons_mk (shut_int (by kernel_rfl : Try.prog.underlying 3 = some (.int .i64)) w0) (trodAll_cons_mk (Below.trod laidOut (by kernel_rfl) (of_decide_eq_true (by kernel_rfl)) k1 bel lt1) (trodAll_cons_mk (shut_int (by kernel_rfl : Try.prog.underlying 3 = some (.int .i64)) w2) trodAll_mk0))), rfl, bel.frame _, fun h => by cases h⟩
theorem over : Rows.ringSharesRow.holds Try.pinned (OpenSpec.ofChange Rows.ringSharesSpec) :=
  OpenClaim.holds_of_wide 6 Try.f6 rfl rfl rfl rfl rfl rfl rfl ⟨rfl, rfl, rfl, rfl, rfl⟩ rfl rfl rfl rfl rfl (by kernel_rfl) Try.func6 (by kernel_rfl)
    (of_decide_eq_true (by kernel_rfl)) (by unfold Func.isWrapper; first | (rw [if_pos (by decide +kernel)]; kernel_rfl) | (rw [if_neg (by decide +kernel)]; exact ⟨rfl, rfl⟩))
    (fun os started H enc _ => lifted os started H enc)
theorem proved : Rows.RingSharesSaid := over
#print axioms proved
end Go.Proofs.Ytmdpjijafejgpaa.ringShares
namespace Go.Proofs.Ytmdpjijafejgpaa
/-- The row, under a short name, for the claim. -/
theorem ringShares_holds : Rows.RingSharesSaid := ringShares.proved
end Go.Proofs.Ytmdpjijafejgpaa

