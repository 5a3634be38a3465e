/- The law SubsetTells of the seat Ythlogangnppghaa: whatever the input, the call ends, answers true, and what came in reads as it did. This text is part 3 of 3, joined out of the session's texts. -/
import Derived.Test.YthlogangnppghaaXSubsetTells2
import Derived.Test.YthlogangnppghaaRows
import Derived.Test.YthlogangnppghaaChecked
import Derived.WalkKit
import Derived.ProofKit
import Derived.OpenShut
import Derived.ShutString
import Derived.ChangeOld
import Derived.Below
import Derived.SizedLaws
/- waybill/waybillref13.Change: a plain function, and that the machine's call comes to it: printed by a program of the session's own. -/
set_option linter.unusedVariables false
set_option linter.unusedSimpArgs false
namespace Go.Proofs.Ythlogangnppghaa.M
open Go Go.Proofs.Ythlogangnppghaa.Sl
/-! ### waybill/waybillref13.Change: function 17 -/
def waybillref13_Change.l0 : Nat → (List Int) → (List Int) → Int → (List Int) → Option ((List Int))
  | 0, _, _, _, _ => none
  | k + 1, x_old, x_ids, z6x, z7x => if z6x < (x_ids.length : Int) then (((if 0 ≤ z6x then ((waybillref13_has.f k x_old (rd e_i64 x_ids z6x)).bind fun z17t => (if z17t = true then (some false) else ((waybillref13_has.f k z7x (rd e_i64 x_ids z6x)).bind fun z20t => (some (!z20t))))) else (none)) : Option (Bool)).bind fun z12x => (((if z12x = true then (if 0 ≤ z6x then (if z7x.length + ([(rd e_i64 x_ids z6x)] : List Int).length < 17592186044416 then (some (z7x ++ ([(rd e_i64 x_ids z6x)] : List Int))) else (none)) else (none)) else (some z7x)) : Option ((List Int))).bind fun z21x => (waybillref13_Change.l0 k x_old x_ids (IntKind.i64.wrap (z6x + 1)) z21x))) else (some z7x)
def waybillref13_Change.l1 : Nat → (List Int) → (List Int) → Int → (List Int) → Option ((List Int))
  | 0, _, _, _, _ => none
  | k + 1, x_old, x_ids, z40x, z41x => if z40x < (x_old.length : Int) then (((if 0 ≤ z40x then ((waybillref13_has.f k x_ids (rd e_i64 x_old z40x)).bind fun z51t => (if z51t = true then (some false) else ((waybillref13_has.f k z41x (rd e_i64 x_old z40x)).bind fun z54t => (some (!z54t))))) else (none)) : Option (Bool)).bind fun z46x => (((if z46x = true then (if 0 ≤ z40x then (if z41x.length + ([(rd e_i64 x_old z40x)] : List Int).length < 17592186044416 then (some (z41x ++ ([(rd e_i64 x_old z40x)] : List Int))) else (none)) else (none)) else (some z41x)) : Option ((List Int))).bind fun z55x => (waybillref13_Change.l1 k x_old x_ids (IntKind.i64.wrap (z40x + 1)) z55x))) else (some z41x)
def waybillref13_Change.f (k : Nat) (x_old : List Int) (x_ids : List Int) : Option ((List Int) × (List Int)) := (((waybillref13_Change.l0 k x_old x_ids 0 ([] : List Int))) : Option ((List Int))).bind fun z2x => ((((waybillref13_Change.l1 k x_old x_ids 0 ([] : List Int))) : Option ((List Int))).bind fun z36x => ((waybillref13_sorted.f k z2x).bind fun z70t => ((waybillref13_sorted.f k z36x).bind fun z76t => (some (z70t, z76t)))))
set_option maxRecDepth 100000 in
set_option maxHeartbeats 4000000 in
theorem waybillref13_Change.calls (k : Nat) (A0 : Option Addr) (n0 c0 : Nat) (x_old : List Int) (A1 : Option Addr) (n1 c1 : Nat) (x_ids : List Int) (W0 : World) (X : Heap) (HR0 : Rd e_i64 X A0 n0 c0 x_old) (HR1 : Rd e_i64 X A1 n1 c1 x_ids) (Hq : HS W0 [isH X] W0) (r : (List Int) × (List Int)) (H : waybillref13_Change.f k x_old x_ids = some r) :
    Calls Try.prog 17 #[.slice A0 n0 c0, .slice A1 n1 c1] W0 (fun e w => ∃ Ar0 nr0 cr0 Ar1 nr1 cr1, e = .returned (.tuple #[.slice Ar0 nr0 cr0, .slice Ar1 nr1 cr1]) ∧ HS W0 [own e_i64 3 Ar0 nr0 cr0 r.1, own e_i64 3 Ar1 nr1 cr1 r.2, isH X] w) := by
  obtain rfl := HR0.1
  obtain rfl := HR1.1
  rw [waybillref13_Change.f] at H
  refine calls_in Try.func17 rfl rfl ?_
  intro a0 S0
  refine w_seq ?_
  refine w_region ?_
  refine r_pures [_, _] S0 rfl ?_
  clear S0; intro a0 S0
  refine wl_nil ?_
  refine nr_then ?_
  refine w_seq ?_
  refine w_region ?_
  refine r_pures [_, _] S0 rfl ?_
  clear S0; intro a0 S0
  refine wl_nil ?_
  refine nr_then ?_
  refine w_seq ?_
  refine w_seq ?_
  refine w_region ?_
  refine r_pures [_] S0 rfl ?_
  clear S0; intro a0 S0
  refine wl_nil ?_
  refine nr_then ?_
  replace Hq := HS.own_nil e_i64 3 Hq
  obtain ⟨z2x, H, HU1⟩ := Option.bind_eq_some_iff.mp H
  refine w_cutT (fun a w => ∃ z3A z4m z5n, Sl 72 [] [(0, .slice A0 x_old.length c0), (1, .slice A1 x_ids.length c1), (6, .slice z3A z4m z5n), (7, .slice none 0 0)] a ∧ HS W0 [own e_i64 3 z3A z4m z5n z2x, isH X] w) ?_ ?_
  · skip
    refine w_block ?_
    refine w_loop (fun kq a w => ∃ z6x z7x z8A z9m z10n, waybillref13_Change.l0 kq x_old x_ids z6x z7x = some z2x ∧ Sl 72 [] [(0, .slice A0 x_old.length c0), (1, .slice A1 x_ids.length c1), (6, .slice z8A z9m z10n), (7, .slice none 0 0), (8, .int .i64 z6x)] a ∧ HS W0 [own e_i64 3 z8A z9m z10n z7x, isH X] w) _ ⟨0, ([] : List Int), none, 0, 0, H, S0.sub ⟨rfl, rfl, rfl, rfl, rfl, trivial⟩, Hq⟩ ?_
    clear H Hq S0
    rintro k0 a w ⟨z6x, z7x, z8A, z9m, z10n, H, S0, Hq⟩
    cases k0 with
    | zero => simp [waybillref13_Change.l0] at H
    | succ k0 =>
      refine ⟨k0, rfl, ?_⟩
      rw [waybillref13_Change.l0] at H
      obtain rfl := own_len [] Hq
      refine w_seq ?_
      refine w_seq ?_
      refine w_region ?_
      refine r_pures [_, _] S0 rfl ?_
      clear S0; intro a0 S0
      refine r_len S0 rfl sl22 rfl ?_
      clear S0; intro a0 S0
      refine r_pures [_] S0 rfl ?_
      clear S0; intro a0 S0
      refine wl_nil ?_
      refine nr_then ?_
      by_cases z11h : z6x < (x_ids.length : Int)
      · replace H := (if_pos z11h).symm.trans H
        refine w_true S0 rfl (decide_eq_true z11h) ?_
        refine w_skip ?_
        refine nr_then ?_
        refine w_seq ?_
        refine w_block ?_
        refine w_seq ?_
        obtain ⟨z12x, H, HU2⟩ := Option.bind_eq_some_iff.mp H
        refine w_cutT (fun a w => Sl 72 [] [(0, .slice A0 x_old.length c0), (1, .slice A1 x_ids.length c1), (6, .slice z8A z7x.length z10n), (7, .slice none 0 0), (8, .int .i64 z6x), (31, .bool z12x)] a ∧ HS W0 [own e_i64 3 z8A z7x.length z10n z7x, isH X] w) ?_ ?_
        · skip
          refine w_region ?_
          refine r_pures [_, _, _] S0 rfl ?_
          clear S0; intro a0 S0
          by_cases z13h : 0 ≤ z6x
          · replace H := (if_pos z13h).symm.trans H
            obtain ⟨z14b, z15o, rfl⟩ := (isH_rd [_] Hq HR1).at (by omega)
            refine r_index S0 rfl rfl sl22 ti3 z13h z11h rfl ?_
            clear S0; intro a0 S0
            refine r_elS S0 (isH_rd [_] Hq HR1) z13h z11h rfl ti3 _ rfl rfl ?_
            clear S0; intro a0 S0
            obtain ⟨Xz16, HXz16, HPz16, HBz16⟩ := call_frame [] Hq
            dsimp only [List.cons_append, List.nil_append] at HXz16 HBz16
            obtain ⟨z17t, Hc, H⟩ := Option.bind_eq_some_iff.mp H
            refine r_call S0 rfl rfl goes26 rfl ?_
            refine (waybillref13_has.calls _ _ _ _ x_old (rd e_i64 x_ids z6x) _ _ (sl_isH_rd [_] HPz16 HR0) HXz16 z17t Hc).mono ?_
            rintro e w ⟨rfl, Hq'⟩
            have Hq : HS W0 [own e_i64 3 z8A z7x.length z10n z7x, isH X] w := HBz16 [] _ Hq'
            clear HXz16 HPz16 HBz16 Hq'
            refine ⟨.bool z17t, rfl, ?_⟩; clear S0; intro a0 S0
            refine r_pures [_, _] S0 rfl ?_
            clear S0; intro a0 S0
            by_cases z18h : z17t = true
            · replace H := (if_pos z18h).symm.trans H
              refine r_off S0 rfl rfl rfl (congrArg (!·) z18h) ?_ rfl
              clear S0; intro a0 S0
              refine r_off S0 rfl rfl rfl (congrArg (!·) z18h) ?_ rfl
              clear S0; intro a0 S0
              refine r_off S0 rfl rfl rfl (congrArg (!·) z18h) ?_ rfl
              clear S0; intro a0 S0
              refine r_off S0 rfl rfl rfl (congrArg (!·) z18h) ?_ rfl
              clear S0; intro a0 S0
              refine r_off S0 rfl rfl rfl (congrArg (!·) z18h) ?_ rfl
              clear S0; intro a0 S0
              refine r_off S0 rfl rfl rfl (congrArg (!·) z18h) ?_ rfl
              clear S0; intro a0 S0
              refine r_off S0 rfl rfl rfl (congrArg (!·) z18h) ?_ rfl
              clear S0; intro a0 S0
              refine r_pick S0 rfl (congrArg (!·) z18h) _ rfl rfl ?_
              clear S0; intro a0 S0
              refine wl_nil ?_
              refine nr_then ?_
              obtain rfl := Option.some.inj H
              exact ⟨S0.sub ⟨rfl, rfl, rfl, rfl, rfl, rfl, trivial⟩, Hq⟩
            · replace H := (if_neg z18h).symm.trans H
              refine r_on S0 rfl rfl rfl (congrArg (!·) (Bool.eq_false_iff.mpr z18h)) ?_
              refine r_pures [_] S0 rfl ?_
              clear S0; intro a0 S0
              refine r_on S0 rfl rfl rfl (congrArg (!·) (Bool.eq_false_iff.mpr z18h)) ?_
              refine r_pures [_] S0 rfl ?_
              clear S0; intro a0 S0
              refine r_on S0 rfl rfl rfl (congrArg (!·) (Bool.eq_false_iff.mpr z18h)) ?_
              refine r_pures [_] S0 rfl ?_
              clear S0; intro a0 S0
              refine r_on S0 rfl rfl rfl (congrArg (!·) (Bool.eq_false_iff.mpr z18h)) ?_
              refine r_index S0 rfl rfl sl22 ti3 z13h z11h rfl ?_
              clear S0; intro a0 S0
              refine r_on S0 rfl rfl rfl (congrArg (!·) (Bool.eq_false_iff.mpr z18h)) ?_
              refine r_elS S0 (isH_rd [_] Hq HR1) z13h z11h rfl ti3 _ rfl rfl ?_
              clear S0; intro a0 S0
              refine r_on S0 rfl rfl rfl (congrArg (!·) (Bool.eq_false_iff.mpr z18h)) ?_
              obtain ⟨Xz19, HXz19, HPz19, HBz19⟩ := call_frame [] Hq
              dsimp only [List.cons_append, List.nil_append] at HXz19 HBz19
              obtain ⟨z20t, Hc, H⟩ := Option.bind_eq_some_iff.mp H
              refine r_call S0 rfl rfl goes26 rfl ?_
              refine (waybillref13_has.calls _ _ _ _ z7x (rd e_i64 x_ids z6x) _ _ (sl_own_rd [] HPz19) HXz19 z20t Hc).mono ?_
              rintro e w ⟨rfl, Hq'⟩
              have Hq : HS W0 [own e_i64 3 z8A z7x.length z10n z7x, isH X] w := HBz19 [] _ Hq'
              clear HXz19 HPz19 HBz19 Hq'
              refine ⟨.bool z20t, rfl, ?_⟩; clear S0; intro a0 S0
              refine r_on S0 rfl rfl rfl (congrArg (!·) (Bool.eq_false_iff.mpr z18h)) ?_
              refine r_pures [_] S0 rfl ?_
              clear S0; intro a0 S0
              refine r_pick S0 rfl (congrArg (!·) (Bool.eq_false_iff.mpr z18h)) _ rfl rfl ?_
              clear S0; intro a0 S0
              refine wl_nil ?_
              refine nr_then ?_
              obtain rfl := Option.some.inj H
              exact ⟨S0.sub ⟨rfl, rfl, rfl, rfl, rfl, rfl, trivial⟩, Hq⟩
          · replace H := (if_neg z13h).symm.trans H
            exact nomatch H
        · clear S0; rintro a w ⟨S0, Hq⟩
          have H := HU2; clear HU2
          refine nr_then ?_
          obtain ⟨z21x, H, HU3⟩ := Option.bind_eq_some_iff.mp H
          refine w_cutT (fun a w => ∃ z22A z23m z24n, Sl 72 [] [(0, .slice A0 x_old.length c0), (1, .slice A1 x_ids.length c1), (6, .slice z22A z23m z24n), (7, .slice none 0 0), (8, .int .i64 z6x)] a ∧ HS W0 [own e_i64 3 z22A z23m z24n z21x, isH X] w) ?_ ?_
          · skip
            by_cases z25h : z12x = true
            · replace H := (if_pos z25h).symm.trans H
              refine w_true S0 rfl z25h ?_
              refine w_region ?_
              refine r_pures [_, _, _] S0 rfl ?_
              clear S0; intro a0 S0
              by_cases z26h : 0 ≤ z6x
              · replace H := (if_pos z26h).symm.trans H
                obtain ⟨z27b, z28o, rfl⟩ := (isH_rd [_] Hq HR1).at (by omega)
                refine r_index S0 rfl rfl sl22 ti3 z26h z11h rfl ?_
                clear S0; intro a0 S0
                refine r_elS S0 (isH_rd [_] Hq HR1) z26h z11h rfl ti3 _ rfl rfl ?_
                clear S0; intro a0 S0
                refine r_lit (e := e_i64) (l := ([(rd e_i64 x_ids z6x)] : List Int)) (m := 1) (vs := [.int .i64 (rd e_i64 x_ids z6x)]) S0 Hq sl22 ti3 rfl rfl rfl rfl rfl rfl ?_
                clear S0 Hq; intro z29b a0 w S0 Hq
                by_cases z32h : z7x.length + ([(rd e_i64 x_ids z6x)] : List Int).length < 17592186044416
                · replace H := (if_pos z32h).symm.trans H
                  refine r_app [_] S0 Hq (own_rd [] Hq) rfl rfl sl22 ti3 rfl z32h rfl rfl ?_
                  clear S0 Hq; intro z33A z34n a0 w S0 Hq; dsimp only [List.cons_append, List.nil_append] at Hq
                  refine r_pures [_] S0 rfl ?_
                  clear S0; intro a0 S0
                  refine wl_nil ?_
                  refine nr_then ?_
                  replace Hq := HS.pull [_, _] Hq
                  dsimp only [List.cons_append, List.nil_append] at Hq
                  replace Hq := HS.pull [_, _] Hq
                  dsimp only [List.cons_append, List.nil_append] at Hq
                  replace Hq := HS.keep [_, _] Hq
                  obtain rfl := Option.some.inj H
                  exact ⟨z33A, ((z7x ++ ([(rd e_i64 x_ids z6x)] : List Int)).length), z34n, S0.sub ⟨rfl, rfl, rfl, rfl, rfl, trivial⟩, Hq⟩
                · replace H := (if_neg z32h).symm.trans H
                  exact nomatch H
              · replace H := (if_neg z26h).symm.trans H
                exact nomatch H
            · replace H := (if_neg z25h).symm.trans H
              refine w_false S0 rfl (Bool.eq_false_iff.mpr z25h) ?_
              refine w_skip ?_
              refine nr_then ?_
              obtain rfl := Option.some.inj H
              exact ⟨z8A, z7x.length, z10n, S0.sub ⟨rfl, rfl, rfl, rfl, rfl, trivial⟩, Hq⟩
          · clear S0; rintro a w ⟨z22A, z23m, z24n, S0, Hq⟩
            have H := HU3; clear HU3
            obtain rfl := own_len [] Hq
            refine nr_in ?_
            refine nr_then ?_
            refine w_region ?_
            refine r_pures [_, _, _] S0 rfl ?_
            clear S0; intro a0 S0
            refine wl_nil ?_
            refine nr_then ?_
            exact ⟨(IntKind.i64.wrap (z6x + 1)), z21x, z22A, z21x.length, z24n, H, S0.sub ⟨rfl, rfl, rfl, rfl, rfl, trivial⟩, Hq⟩
      · replace H := (if_neg z11h).symm.trans H
        refine w_false S0 rfl (decide_eq_false z11h) ?_
        refine w_exit ?_
        refine ex_then ?_
        refine ex_then ?_
        refine ex_in ?_
        refine nr_then ?_
        obtain rfl := Option.some.inj H
        exact ⟨z8A, z7x.length, z10n, S0.sub ⟨rfl, rfl, rfl, rfl, trivial⟩, Hq⟩
  · clear S0; rintro a w ⟨z3A, z4m, z5n, S0, Hq⟩
    have H := HU1; clear HU1
    obtain rfl := own_len [] Hq
    refine nr_then ?_
    refine w_seq ?_
    refine w_seq ?_
    refine w_region ?_
    refine r_pures [_] S0 rfl ?_
    clear S0; intro a0 S0
    refine wl_nil ?_
    refine nr_then ?_
    replace Hq := HS.own_nil e_i64 3 Hq
    obtain ⟨z36x, H, HU4⟩ := Option.bind_eq_some_iff.mp H
    refine w_cutT (fun a w => ∃ z37A z38m z39n, Sl 72 [] [(6, .slice z3A z2x.length z5n), (7, .slice z37A z38m z39n)] a ∧ HS W0 [own e_i64 3 z37A z38m z39n z36x, own e_i64 3 z3A z2x.length z5n z2x, isH X] w) ?_ ?_
    · skip
      refine w_block ?_
      refine w_loop (fun kq a w => ∃ z40x z41x z42A z43m z44n, waybillref13_Change.l1 kq x_old x_ids z40x z41x = some z36x ∧ Sl 72 [] [(0, .slice A0 x_old.length c0), (1, .slice A1 x_ids.length c1), (6, .slice z3A z2x.length z5n), (7, .slice z42A z43m z44n), (9, .int .i64 z40x)] a ∧ HS W0 [own e_i64 3 z42A z43m z44n z41x, own e_i64 3 z3A z2x.length z5n z2x, isH X] w) _ ⟨0, ([] : List Int), none, 0, 0, H, S0.sub ⟨rfl, rfl, rfl, rfl, rfl, trivial⟩, Hq⟩ ?_
      clear H Hq S0
      rintro k1 a w ⟨z40x, z41x, z42A, z43m, z44n, H, S0, Hq⟩
      cases k1 with
      | zero => simp [waybillref13_Change.l1] at H
      | succ k1 =>
        refine ⟨k1, rfl, ?_⟩
        rw [waybillref13_Change.l1] at H
        obtain rfl := own_len [] Hq
        refine w_seq ?_
        refine w_seq ?_
        refine w_region ?_
        refine r_pures [_, _] S0 rfl ?_
        clear S0; intro a0 S0
        refine r_len S0 rfl sl22 rfl ?_
        clear S0; intro a0 S0
        refine r_pures [_] S0 rfl ?_
        clear S0; intro a0 S0
        refine wl_nil ?_
        refine nr_then ?_
        by_cases z45h : z40x < (x_old.length : Int)
        · replace H := (if_pos z45h).symm.trans H
          refine w_true S0 rfl (decide_eq_true z45h) ?_
          refine w_skip ?_
          refine nr_then ?_
          refine w_seq ?_
          refine w_block ?_
          refine w_seq ?_
          obtain ⟨z46x, H, HU5⟩ := Option.bind_eq_some_iff.mp H
          refine w_cutT (fun a w => Sl 72 [] [(0, .slice A0 x_old.length c0), (1, .slice A1 x_ids.length c1), (6, .slice z3A z2x.length z5n), (7, .slice z42A z41x.length z44n), (9, .int .i64 z40x), (60, .bool z46x)] a ∧ HS W0 [own e_i64 3 z42A z41x.length z44n z41x, own e_i64 3 z3A z2x.length z5n z2x, isH X] w) ?_ ?_
          · skip
            refine w_region ?_
            refine r_pures [_, _, _] S0 rfl ?_
            clear S0; intro a0 S0
            by_cases z47h : 0 ≤ z40x
            · replace H := (if_pos z47h).symm.trans H
              obtain ⟨z48b, z49o, rfl⟩ := (isH_rd [_, _] Hq HR0).at (by omega)
              refine r_index S0 rfl rfl sl22 ti3 z47h z45h rfl ?_
              clear S0; intro a0 S0
              refine r_elS S0 (isH_rd [_, _] Hq HR0) z47h z45h rfl ti3 _ rfl rfl ?_
              clear S0; intro a0 S0
              obtain ⟨Xz50, HXz50, HPz50, HBz50⟩ := call_frame [] Hq
              dsimp only [List.cons_append, List.nil_append] at HXz50 HBz50
              obtain ⟨z51t, Hc, H⟩ := Option.bind_eq_some_iff.mp H
              refine r_call S0 rfl rfl goes26 rfl ?_
              refine (waybillref13_has.calls _ _ _ _ x_ids (rd e_i64 x_old z40x) _ _ (sl_isH_rd [_, _] HPz50 HR1) HXz50 z51t Hc).mono ?_
              rintro e w ⟨rfl, Hq'⟩
              have Hq : HS W0 [own e_i64 3 z42A z41x.length z44n z41x, own e_i64 3 z3A z2x.length z5n z2x, isH X] w := HBz50 [] _ Hq'
              clear HXz50 HPz50 HBz50 Hq'
              refine ⟨.bool z51t, rfl, ?_⟩; clear S0; intro a0 S0
              refine r_pures [_, _] S0 rfl ?_
              clear S0; intro a0 S0
              by_cases z52h : z51t = true
              · replace H := (if_pos z52h).symm.trans H
                refine r_off S0 rfl rfl rfl (congrArg (!·) z52h) ?_ rfl
                clear S0; intro a0 S0
                refine r_off S0 rfl rfl rfl (congrArg (!·) z52h) ?_ rfl
                clear S0; intro a0 S0
                refine r_off S0 rfl rfl rfl (congrArg (!·) z52h) ?_ rfl
                clear S0; intro a0 S0
                refine r_off S0 rfl rfl rfl (congrArg (!·) z52h) ?_ rfl
                clear S0; intro a0 S0
                refine r_off S0 rfl rfl rfl (congrArg (!·) z52h) ?_ rfl
                clear S0; intro a0 S0
                refine r_off S0 rfl rfl rfl (congrArg (!·) z52h) ?_ rfl
                clear S0; intro a0 S0
                refine r_off S0 rfl rfl rfl (congrArg (!·) z52h) ?_ rfl
                clear S0; intro a0 S0
                refine r_pick S0 rfl (congrArg (!·) z52h) _ rfl rfl ?_
                clear S0; intro a0 S0
                refine wl_nil ?_
                refine nr_then ?_
                obtain rfl := Option.some.inj H
                exact ⟨S0.sub ⟨rfl, rfl, rfl, rfl, rfl, rfl, trivial⟩, Hq⟩
              · replace H := (if_neg z52h).symm.trans H
                refine r_on S0 rfl rfl rfl (congrArg (!·) (Bool.eq_false_iff.mpr z52h)) ?_
                refine r_pures [_] S0 rfl ?_
                clear S0; intro a0 S0
                refine r_on S0 rfl rfl rfl (congrArg (!·) (Bool.eq_false_iff.mpr z52h)) ?_
                refine r_pures [_] S0 rfl ?_
                clear S0; intro a0 S0
                refine r_on S0 rfl rfl rfl (congrArg (!·) (Bool.eq_false_iff.mpr z52h)) ?_
                refine r_pures [_] S0 rfl ?_
                clear S0; intro a0 S0
                refine r_on S0 rfl rfl rfl (congrArg (!·) (Bool.eq_false_iff.mpr z52h)) ?_
                refine r_index S0 rfl rfl sl22 ti3 z47h z45h rfl ?_
                clear S0; intro a0 S0
                refine r_on S0 rfl rfl rfl (congrArg (!·) (Bool.eq_false_iff.mpr z52h)) ?_
                refine r_elS S0 (isH_rd [_, _] Hq HR0) z47h z45h rfl ti3 _ rfl rfl ?_
                clear S0; intro a0 S0
                refine r_on S0 rfl rfl rfl (congrArg (!·) (Bool.eq_false_iff.mpr z52h)) ?_
                obtain ⟨Xz53, HXz53, HPz53, HBz53⟩ := call_frame [] Hq
                dsimp only [List.cons_append, List.nil_append] at HXz53 HBz53
                obtain ⟨z54t, Hc, H⟩ := Option.bind_eq_some_iff.mp H
                refine r_call S0 rfl rfl goes26 rfl ?_
                refine (waybillref13_has.calls _ _ _ _ z41x (rd e_i64 x_old z40x) _ _ (sl_own_rd [] HPz53) HXz53 z54t Hc).mono ?_
                rintro e w ⟨rfl, Hq'⟩
                have Hq : HS W0 [own e_i64 3 z42A z41x.length z44n z41x, own e_i64 3 z3A z2x.length z5n z2x, isH X] w := HBz53 [] _ Hq'
                clear HXz53 HPz53 HBz53 Hq'
                refine ⟨.bool z54t, rfl, ?_⟩; clear S0; intro a0 S0
                refine r_on S0 rfl rfl rfl (congrArg (!·) (Bool.eq_false_iff.mpr z52h)) ?_
                refine r_pures [_] S0 rfl ?_
                clear S0; intro a0 S0
                refine r_pick S0 rfl (congrArg (!·) (Bool.eq_false_iff.mpr z52h)) _ rfl rfl ?_
                clear S0; intro a0 S0
                refine wl_nil ?_
                refine nr_then ?_
                obtain rfl := Option.some.inj H
                exact ⟨S0.sub ⟨rfl, rfl, rfl, rfl, rfl, rfl, trivial⟩, Hq⟩
            · replace H := (if_neg z47h).symm.trans H
              exact nomatch H
          · clear S0; rintro a w ⟨S0, Hq⟩
            have H := HU5; clear HU5
            refine nr_then ?_
            obtain ⟨z55x, H, HU6⟩ := Option.bind_eq_some_iff.mp H
            refine w_cutT (fun a w => ∃ z56A z57m z58n, Sl 72 [] [(0, .slice A0 x_old.length c0), (1, .slice A1 x_ids.length c1), (6, .slice z3A z2x.length z5n), (7, .slice z56A z57m z58n), (9, .int .i64 z40x)] a ∧ HS W0 [own e_i64 3 z56A z57m z58n z55x, own e_i64 3 z3A z2x.length z5n z2x, isH X] w) ?_ ?_
            · skip
              by_cases z59h : z46x = true
              · replace H := (if_pos z59h).symm.trans H
                refine w_true S0 rfl z59h ?_
                refine w_region ?_
                refine r_pures [_, _, _] S0 rfl ?_
                clear S0; intro a0 S0
                by_cases z60h : 0 ≤ z40x
                · replace H := (if_pos z60h).symm.trans H
                  obtain ⟨z61b, z62o, rfl⟩ := (isH_rd [_, _] Hq HR0).at (by omega)
                  refine r_index S0 rfl rfl sl22 ti3 z60h z45h rfl ?_
                  clear S0; intro a0 S0
                  refine r_elS S0 (isH_rd [_, _] Hq HR0) z60h z45h rfl ti3 _ rfl rfl ?_
                  clear S0; intro a0 S0
                  refine r_lit (e := e_i64) (l := ([(rd e_i64 x_old z40x)] : List Int)) (m := 1) (vs := [.int .i64 (rd e_i64 x_old z40x)]) S0 Hq sl22 ti3 rfl rfl rfl rfl rfl rfl ?_
                  clear S0 Hq; intro z63b a0 w S0 Hq
                  by_cases z66h : z41x.length + ([(rd e_i64 x_old z40x)] : List Int).length < 17592186044416
                  · replace H := (if_pos z66h).symm.trans H
                    refine r_app [_] S0 Hq (own_rd [] Hq) rfl rfl sl22 ti3 rfl z66h rfl rfl ?_
                    clear S0 Hq; intro z67A z68n a0 w S0 Hq; dsimp only [List.cons_append, List.nil_append] at Hq
                    refine r_pures [_] S0 rfl ?_
                    clear S0; intro a0 S0
                    refine wl_nil ?_
                    refine nr_then ?_
                    replace Hq := HS.pull [_, _, _] Hq
                    dsimp only [List.cons_append, List.nil_append] at Hq
                    replace Hq := HS.pull [_, _, _] Hq
                    dsimp only [List.cons_append, List.nil_append] at Hq
                    replace Hq := HS.pull [_, _, _] Hq
                    dsimp only [List.cons_append, List.nil_append] at Hq
                    replace Hq := HS.keep [_, _, _] Hq
                    obtain rfl := Option.some.inj H
                    exact ⟨z67A, ((z41x ++ ([(rd e_i64 x_old z40x)] : List Int)).length), z68n, S0.sub ⟨rfl, rfl, rfl, rfl, rfl, trivial⟩, Hq⟩
                  · replace H := (if_neg z66h).symm.trans H
                    exact nomatch H
                · replace H := (if_neg z60h).symm.trans H
                  exact nomatch H
              · replace H := (if_neg z59h).symm.trans H
                refine w_false S0 rfl (Bool.eq_false_iff.mpr z59h) ?_
                refine w_skip ?_
                refine nr_then ?_
                obtain rfl := Option.some.inj H
                exact ⟨z42A, z41x.length, z44n, S0.sub ⟨rfl, rfl, rfl, rfl, rfl, trivial⟩, Hq⟩
            · clear S0; rintro a w ⟨z56A, z57m, z58n, S0, Hq⟩
              have H := HU6; clear HU6
              obtain rfl := own_len [] Hq
              refine nr_in ?_
              refine nr_then ?_
              refine w_region ?_
              refine r_pures [_, _, _] S0 rfl ?_
              clear S0; intro a0 S0
              refine wl_nil ?_
              refine nr_then ?_
              exact ⟨(IntKind.i64.wrap (z40x + 1)), z55x, z56A, z55x.length, z58n, H, S0.sub ⟨rfl, rfl, rfl, rfl, rfl, trivial⟩, Hq⟩
        · replace H := (if_neg z45h).symm.trans H
          refine w_false S0 rfl (decide_eq_false z45h) ?_
          refine w_exit ?_
          refine ex_then ?_
          refine ex_then ?_
          refine ex_in ?_
          refine nr_then ?_
          obtain rfl := Option.some.inj H
          exact ⟨z42A, z41x.length, z44n, S0.sub ⟨rfl, rfl, trivial⟩, Hq⟩
    · clear S0; rintro a w ⟨z37A, z38m, z39n, S0, Hq⟩
      have H := HU4; clear HU4
      obtain rfl := own_len [] Hq
      refine nr_then ?_
      refine w_seq ?_
      refine w_region ?_
      refine r_pures [_] S0 rfl ?_
      clear S0; intro a0 S0
      obtain ⟨Xz69, HXz69, HPz69, HBz69⟩ := call_frame [] Hq
      dsimp only [List.cons_append, List.nil_append] at HXz69 HBz69
      obtain ⟨z70t, Hc, H⟩ := Option.bind_eq_some_iff.mp H
      refine r_call S0 rfl rfl goes25 rfl ?_
      refine (waybillref13_sorted.calls _ _ _ _ z2x _ _ (sl_own_rd [_] HPz69) HXz69 z70t Hc).mono ?_
      rintro e w ⟨z71A, z72m, z73n, rfl, Hq'⟩
      have Hq : HS W0 [own e_i64 3 z71A z72m z73n z70t, own e_i64 3 z37A z36x.length z39n z36x, own e_i64 3 z3A z2x.length z5n z2x, isH X] w := HBz69 [_] _ Hq'
      clear HXz69 HPz69 HBz69 Hq'
      obtain rfl := own_len [] Hq
      refine ⟨.slice z71A z70t.length z73n, rfl, ?_⟩; clear S0; intro a0 S0
      refine r_pures [_] S0 rfl ?_
      clear S0; intro a0 S0
      obtain ⟨Xz75, HXz75, HPz75, HBz75⟩ := call_frame [] Hq
      dsimp only [List.cons_append, List.nil_append] at HXz75 HBz75
      obtain ⟨z76t, Hc, H⟩ := Option.bind_eq_some_iff.mp H
      refine r_call S0 rfl rfl goes25 rfl ?_
      refine (waybillref13_sorted.calls _ _ _ _ z36x _ _ (sl_own_rd [_] HPz75) HXz75 z76t Hc).mono ?_
      rintro e w ⟨z77A, z78m, z79n, rfl, Hq'⟩
      have Hq : HS W0 [own e_i64 3 z77A z78m z79n z76t, own e_i64 3 z71A z70t.length z73n z70t, own e_i64 3 z37A z36x.length z39n z36x, own e_i64 3 z3A z2x.length z5n z2x, isH X] w := HBz75 [_] _ Hq'
      clear HXz75 HPz75 HBz75 Hq'
      obtain rfl := own_len [] Hq
      refine ⟨.slice z77A z76t.length z79n, rfl, ?_⟩; clear S0; intro a0 S0
      refine r_pures [_, _] S0 rfl ?_
      clear S0; intro a0 S0
      refine wl_nil ?_
      refine nr_then ?_
      refine w_ret ?_
      obtain rfl := Option.some.inj H
      refine ret2 S0 rfl rfl rfl ?_
      replace Hq := HS.pull [_, _, _, _] Hq
      dsimp only [List.cons_append, List.nil_append] at Hq
      replace Hq := HS.pull [_] Hq
      dsimp only [List.cons_append, List.nil_append] at Hq
      replace Hq := HS.pull [_, _] Hq
      dsimp only [List.cons_append, List.nil_append] at Hq
      replace Hq := HS.keep [_, _, _] Hq
      exact ⟨z71A, z70t.length, z73n, z77A, z76t.length, z79n, rfl, Hq⟩

end Go.Proofs.Ythlogangnppghaa.M

/- waybill/waybilllaw13.SubsetTells: a plain function, and that the machine's call comes to it: printed by a program of the session's own. -/
set_option linter.unusedVariables false
set_option linter.unusedSimpArgs false
namespace Go.Proofs.Ythlogangnppghaa.M
open Go Go.Proofs.Ythlogangnppghaa.Sl
/-! ### waybill/waybilllaw13.SubsetTells: function 5 -/
def waybilllaw13_SubsetTells.f (k : Nat) (x_ids : List Int) (x_other : List Int) (x_client : Int) (x_size : Int) (x_seed : Int) (x_n : Int) : Option (Bool) := (waybillplain_CopyInts.f x_ids).bind fun z2t => ((subset_Of.f k z2t x_client x_size x_seed).bind fun (z8t, z9t) => ((waybillref13_Of.f k x_ids x_client x_size x_seed).bind fun (z15t, z16t) => ((subset_Round.f x_n x_client x_size).bind fun (z22t, z23t, z24t) => ((waybillref13_Round.f x_n x_client x_size).bind fun (z26t, z27t, z28t) => ((subset_Counts.f k z2t x_n x_size x_seed).bind fun (z30t, z31t) => ((waybillref13_Counts.f k x_ids x_n x_size x_seed).bind fun (z37t, z38t) => ((subset_Change.f k z2t x_other).bind fun (z44t, z45t) => ((waybillref13_Change.f k x_ids x_other).bind fun (z55t, z56t) => ((((waybillplain_SameInts.f k z8t z15t).bind fun z67t => (if z67t = true then ((waybilllaw13_num.f z9t).bind fun z70t => (if z70t = z16t then (if z22t = z26t then (if z23t = z27t then ((waybilllaw13_num.f z24t).bind fun z75t => (if z75t = z28t then ((waybillplain_SameInts.f k z30t z37t).bind fun z78t => (if z78t = true then ((waybilllaw13_num.f z31t).bind fun z81t => (some (!(decide (z81t = z38t))))) else (some true))) else (some true))) else (some true)) else (some true)) else (some true))) else (some true))) : Option (Bool)).bind fun z65x => (if z65x = true then (some false) else ((((waybillplain_SameInts.f k z44t z55t).bind fun z85t => (if z85t = true then ((waybillplain_SameInts.f k z45t z56t).bind fun z88t => (if z88t = true then ((waybillplain_SameInts.f k z2t x_ids).bind fun z91t => (if z91t = true then ((waybilllaw13_alive.f k ).bind fun z94t => (some z94t)) else (some false))) else (some false))) else (some false))) : Option (Bool)).bind fun z83x => (some z83x))))))))))))
set_option maxRecDepth 100000 in
set_option maxHeartbeats 4000000 in
theorem waybilllaw13_SubsetTells.calls (k : Nat) (A0 : Option Addr) (n0 c0 : Nat) (x_ids : List Int) (A1 : Option Addr) (n1 c1 : Nat) (x_other : List Int) (x_client : Int) (x_size : Int) (x_seed : Int) (x_n : Int) (W0 : World) (X : Heap) (HR0 : Rd e_i64 X A0 n0 c0 x_ids) (HR1 : Rd e_i64 X A1 n1 c1 x_other) (Hq : HS W0 [isH X] W0) (r : Bool) (H : waybilllaw13_SubsetTells.f k x_ids x_other x_client x_size x_seed x_n = some r) :
    Calls Try.prog 5 #[.slice A0 n0 c0, .slice A1 n1 c1, .int .i64 x_client, .int .i64 x_size, .int .u64 x_seed, .int .i64 x_n] W0 (fun e w => e = .returned (.bool r) ∧ HS W0 [isH X] w) := by
  obtain rfl := HR0.1
  obtain rfl := HR1.1
  rw [waybilllaw13_SubsetTells.f] at H
  refine calls_in Try.func5 rfl rfl ?_
  intro a0 S0
  refine w_seq ?_
  refine w_region ?_
  refine r_pures [_] S0 rfl ?_
  clear S0; intro a0 S0
  refine wl_nil ?_
  refine nr_then ?_
  refine w_seq ?_
  refine w_region ?_
  refine r_pures [_] S0 rfl ?_
  clear S0; intro a0 S0
  obtain ⟨Xz1, HXz1, HPz1, HBz1⟩ := call_frame [] Hq
  dsimp only [List.cons_append, List.nil_append] at HXz1 HBz1
  obtain ⟨z2t, Hc, H⟩ := Option.bind_eq_some_iff.mp H
  refine r_call S0 rfl rfl goes11 rfl ?_
  refine (waybillplain_CopyInts.calls _ _ _ x_ids _ _ (sl_isH_rd [] HPz1 HR0) HXz1 z2t Hc).mono ?_
  rintro e w ⟨z3A, z4m, z5n, rfl, Hq'⟩
  have Hq : HS W0 [own e_i64 3 z3A z4m z5n z2t, isH X] w := HBz1 [_] _ Hq'
  clear HXz1 HPz1 HBz1 Hq'
  obtain rfl := own_len [] Hq
  refine ⟨.slice z3A z2t.length z5n, rfl, ?_⟩; clear S0; intro a0 S0
  refine r_pures [_] S0 rfl ?_
  clear S0; intro a0 S0
  refine wl_nil ?_
  refine nr_then ?_
  refine w_seq ?_
  refine w_region ?_
  refine r_pures [_, _, _, _] S0 rfl ?_
  clear S0; intro a0 S0
  obtain ⟨Xz7, HXz7, HPz7, HBz7⟩ := call_frame [] Hq
  dsimp only [List.cons_append, List.nil_append] at HXz7 HBz7
  obtain ⟨⟨z8t, z9t⟩, Hc, H⟩ := Option.bind_eq_some_iff.mp H
  dsimp only at H
  refine r_call S0 rfl rfl goes12 rfl ?_
  refine (subset_Of.calls _ _ _ _ z2t x_client x_size x_seed _ _ (sl_own_rd [] HPz7) HXz7 (z8t, z9t) Hc).mono ?_
  rintro e w ⟨z10A, z11m, z12n, rfl, Hq'⟩
  have Hq : HS W0 [own e_i64 3 z10A z11m z12n z8t, own e_i64 3 z3A z2t.length z5n z2t, isH X] w := HBz7 [_] _ Hq'
  clear HXz7 HPz7 HBz7 Hq'
  obtain rfl := own_len [] Hq
  refine ⟨.tuple #[.slice z10A z8t.length z12n, .int .i64 z9t], rfl, ?_⟩; clear S0; intro a0 S0
  refine r_pures [_, _, _, _, _] S0 rfl ?_
  clear S0; intro a0 S0
  refine wl_nil ?_
  refine nr_then ?_
  refine w_seq ?_
  refine w_region ?_
  refine r_pures [_, _, _, _] S0 rfl ?_
  clear S0; intro a0 S0
  obtain ⟨Xz14, HXz14, HPz14, HBz14⟩ := call_frame [] Hq
  dsimp only [List.cons_append, List.nil_append] at HXz14 HBz14
  obtain ⟨⟨z15t, z16t⟩, Hc, H⟩ := Option.bind_eq_some_iff.mp H
  dsimp only at H
  refine r_call S0 rfl rfl goes13 rfl ?_
  refine (waybillref13_Of.calls _ _ _ _ x_ids x_client x_size x_seed _ _ (sl_isH_rd [_, _] HPz14 HR0) HXz14 (z15t, z16t) Hc).mono ?_
  rintro e w ⟨z17A, z18m, z19n, rfl, Hq'⟩
  have Hq : HS W0 [own e_i64 3 z17A z18m z19n z15t, own e_i64 3 z10A z8t.length z12n z8t, own e_i64 3 z3A z2t.length z5n z2t, isH X] w := HBz14 [_] _ Hq'
  clear HXz14 HPz14 HBz14 Hq'
  obtain rfl := own_len [] Hq
  refine ⟨.tuple #[.slice z17A z15t.length z19n, .int .i64 z16t], rfl, ?_⟩; clear S0; intro a0 S0
  refine r_pures [_, _, _, _, _] S0 rfl ?_
  clear S0; intro a0 S0
  refine wl_nil ?_
  refine nr_then ?_
  refine w_seq ?_
  refine w_region ?_
  refine r_pures [_, _, _] S0 rfl ?_
  clear S0; intro a0 S0
  obtain ⟨Xz21, HXz21, HPz21, HBz21⟩ := call_frame [] Hq
  dsimp only [List.cons_append, List.nil_append] at HXz21 HBz21
  obtain ⟨⟨z22t, z23t, z24t⟩, Hc, H⟩ := Option.bind_eq_some_iff.mp H
  dsimp only at H
  refine r_call S0 rfl rfl goes14 rfl ?_
  refine (subset_Round.calls x_n x_client x_size _ _  HXz21 (z22t, z23t, z24t) Hc).mono ?_
  rintro e w ⟨rfl, Hq'⟩
  have Hq : HS W0 [own e_i64 3 z17A z15t.length z19n z15t, own e_i64 3 z10A z8t.length z12n z8t, own e_i64 3 z3A z2t.length z5n z2t, isH X] w := HBz21 [] _ Hq'
  clear HXz21 HPz21 HBz21 Hq'
  refine ⟨.tuple #[.int .i64 z22t, .int .i64 z23t, .int .i64 z24t], rfl, ?_⟩; clear S0; intro a0 S0
  refine r_pures [_, _, _, _, _, _, _] S0 rfl ?_
  clear S0; intro a0 S0
  refine wl_nil ?_
  refine nr_then ?_
  refine w_seq ?_
  refine w_region ?_
  refine r_pures [_, _, _] S0 rfl ?_
  clear S0; intro a0 S0
  obtain ⟨Xz25, HXz25, HPz25, HBz25⟩ := call_frame [] Hq
  dsimp only [List.cons_append, List.nil_append] at HXz25 HBz25
  obtain ⟨⟨z26t, z27t, z28t⟩, Hc, H⟩ := Option.bind_eq_some_iff.mp H
  dsimp only at H
  refine r_call S0 rfl rfl goes15 rfl ?_
  refine (waybillref13_Round.calls x_n x_client x_size _ _  HXz25 (z26t, z27t, z28t) Hc).mono ?_
  rintro e w ⟨rfl, Hq'⟩
  have Hq : HS W0 [own e_i64 3 z17A z15t.length z19n z15t, own e_i64 3 z10A z8t.length z12n z8t, own e_i64 3 z3A z2t.length z5n z2t, isH X] w := HBz25 [] _ Hq'
  clear HXz25 HPz25 HBz25 Hq'
  refine ⟨.tuple #[.int .i64 z26t, .int .i64 z27t, .int .i64 z28t], rfl, ?_⟩; clear S0; intro a0 S0
  refine r_pures [_, _, _, _, _, _, _] S0 rfl ?_
  clear S0; intro a0 S0
  refine wl_nil ?_
  refine nr_then ?_
  refine w_seq ?_
  refine w_region ?_
  refine r_pures [_, _, _, _] S0 rfl ?_
  clear S0; intro a0 S0
  obtain ⟨Xz29, HXz29, HPz29, HBz29⟩ := call_frame [] Hq
  dsimp only [List.cons_append, List.nil_append] at HXz29 HBz29
  obtain ⟨⟨z30t, z31t⟩, Hc, H⟩ := Option.bind_eq_some_iff.mp H
  dsimp only at H
  refine r_call S0 rfl rfl goes7 rfl ?_
  refine (subset_Counts.calls _ _ _ _ z2t x_n x_size x_seed _ _ (sl_own_rd [_, _] HPz29) HXz29 (z30t, z31t) Hc).mono ?_
  rintro e w ⟨z32A, z33m, z34n, rfl, Hq'⟩
  have Hq : HS W0 [own e_i64 3 z32A z33m z34n z30t, own e_i64 3 z17A z15t.length z19n z15t, own e_i64 3 z10A z8t.length z12n z8t, own e_i64 3 z3A z2t.length z5n z2t, isH X] w := HBz29 [_] _ Hq'
  clear HXz29 HPz29 HBz29 Hq'
  obtain rfl := own_len [] Hq
  refine ⟨.tuple #[.slice z32A z30t.length z34n, .int .i64 z31t], rfl, ?_⟩; clear S0; intro a0 S0
  refine r_pures [_, _, _, _, _] S0 rfl ?_
  clear S0; intro a0 S0
  refine wl_nil ?_
  refine nr_then ?_
  refine w_seq ?_
  refine w_region ?_
  refine r_pures [_, _, _, _] S0 rfl ?_
  clear S0; intro a0 S0
  obtain ⟨Xz36, HXz36, HPz36, HBz36⟩ := call_frame [] Hq
  dsimp only [List.cons_append, List.nil_append] at HXz36 HBz36
  obtain ⟨⟨z37t, z38t⟩, Hc, H⟩ := Option.bind_eq_some_iff.mp H
  dsimp only at H
  refine r_call S0 rfl rfl goes16 rfl ?_
  refine (waybillref13_Counts.calls _ _ _ _ x_ids x_n x_size x_seed _ _ (sl_isH_rd [_, _, _, _] HPz36 HR0) HXz36 (z37t, z38t) Hc).mono ?_
  rintro e w ⟨z39A, z40m, z41n, rfl, Hq'⟩
  have Hq : HS W0 [own e_i64 3 z39A z40m z41n z37t, own e_i64 3 z32A z30t.length z34n z30t, own e_i64 3 z17A z15t.length z19n z15t, own e_i64 3 z10A z8t.length z12n z8t, own e_i64 3 z3A z2t.length z5n z2t, isH X] w := HBz36 [_] _ Hq'
  clear HXz36 HPz36 HBz36 Hq'
  obtain rfl := own_len [] Hq
  refine ⟨.tuple #[.slice z39A z37t.length z41n, .int .i64 z38t], rfl, ?_⟩; clear S0; intro a0 S0
  refine r_pures [_, _, _, _, _] S0 rfl ?_
  clear S0; intro a0 S0
  refine wl_nil ?_
  refine nr_then ?_
  refine w_seq ?_
  refine w_region ?_
  refine r_pures [_, _] S0 rfl ?_
  clear S0; intro a0 S0
  obtain ⟨Xz43, HXz43, HPz43, HBz43⟩ := call_frame [] Hq
  dsimp only [List.cons_append, List.nil_append] at HXz43 HBz43
  obtain ⟨⟨z44t, z45t⟩, Hc, H⟩ := Option.bind_eq_some_iff.mp H
  dsimp only at H
  refine r_call S0 rfl rfl goes9 rfl ?_
  refine (subset_Change.calls _ _ _ _ z2t _ _ _ x_other _ _ (sl_own_rd [_, _, _, _] HPz43) (sl_isH_rd [_, _, _, _, _] HPz43 HR1) HXz43 (z44t, z45t) Hc).mono ?_
  rintro e w ⟨z46A, z47m, z48n, z50A, z51m, z52n, rfl, Hq'⟩
  have Hq : HS W0 [own e_i64 3 z46A z47m z48n z44t, own e_i64 3 z50A z51m z52n z45t, own e_i64 3 z39A z37t.length z41n z37t, own e_i64 3 z32A z30t.length z34n z30t, own e_i64 3 z17A z15t.length z19n z15t, own e_i64 3 z10A z8t.length z12n z8t, own e_i64 3 z3A z2t.length z5n z2t, isH X] w := HBz43 [_, _] _ Hq'
  clear HXz43 HPz43 HBz43 Hq'
  obtain rfl := own_len [] Hq
  obtain rfl := own_len [_] Hq
  refine ⟨.tuple #[.slice z46A z44t.length z48n, .slice z50A z45t.length z52n], rfl, ?_⟩; clear S0; intro a0 S0
  refine r_pures [_, _, _, _, _] S0 rfl ?_
  clear S0; intro a0 S0
  refine wl_nil ?_
  refine nr_then ?_
  refine w_seq ?_
  refine w_region ?_
  refine r_pures [_, _] S0 rfl ?_
  clear S0; intro a0 S0
  obtain ⟨Xz54, HXz54, HPz54, HBz54⟩ := call_frame [] Hq
  dsimp only [List.cons_append, List.nil_append] at HXz54 HBz54
  obtain ⟨⟨z55t, z56t⟩, Hc, H⟩ := Option.bind_eq_some_iff.mp H
  dsimp only at H
  refine r_call S0 rfl rfl goes17 rfl ?_
  refine (waybillref13_Change.calls _ _ _ _ x_ids _ _ _ x_other _ _ (sl_isH_rd [_, _, _, _, _, _, _] HPz54 HR0) (sl_isH_rd [_, _, _, _, _, _, _] HPz54 HR1) HXz54 (z55t, z56t) Hc).mono ?_
  rintro e w ⟨z57A, z58m, z59n, z61A, z62m, z63n, rfl, Hq'⟩
  have Hq : HS W0 [own e_i64 3 z57A z58m z59n z55t, own e_i64 3 z61A z62m z63n z56t, own e_i64 3 z46A z44t.length z48n z44t, own e_i64 3 z50A z45t.length z52n z45t, own e_i64 3 z39A z37t.length z41n z37t, own e_i64 3 z32A z30t.length z34n z30t, own e_i64 3 z17A z15t.length z19n z15t, own e_i64 3 z10A z8t.length z12n z8t, own e_i64 3 z3A z2t.length z5n z2t, isH X] w := HBz54 [_, _] _ Hq'
  clear HXz54 HPz54 HBz54 Hq'
  obtain rfl := own_len [] Hq
  obtain rfl := own_len [_] Hq
  refine ⟨.tuple #[.slice z57A z55t.length z59n, .slice z61A z56t.length z63n], rfl, ?_⟩; clear S0; intro a0 S0
  refine r_pures [_, _, _, _, _] S0 rfl ?_
  clear S0; intro a0 S0
  refine wl_nil ?_
  refine nr_then ?_
  refine w_seq ?_
  refine w_seq ?_
  obtain ⟨z65x, H, HU1⟩ := Option.bind_eq_some_iff.mp H
  refine w_cutT (fun a w => Sl 148 [] [(0, .slice A0 x_ids.length c0), (13, .slice z3A z2t.length z5n), (28, .slice z46A z44t.length z48n), (29, .slice z50A z45t.length z52n), (30, .slice z57A z55t.length z59n), (31, .slice z61A z56t.length z63n), (131, .bool z65x)] a ∧ HS W0 [own e_i64 3 z57A z55t.length z59n z55t, own e_i64 3 z61A z56t.length z63n z56t, own e_i64 3 z46A z44t.length z48n z44t, own e_i64 3 z50A z45t.length z52n z45t, own e_i64 3 z3A z2t.length z5n z2t, isH X] w) ?_ ?_
  · skip
    refine w_region ?_
    refine r_pures [_, _] S0 rfl ?_
    clear S0; intro a0 S0
    obtain ⟨Xz66, HXz66, HPz66, HBz66⟩ := call_frame [] Hq
    dsimp only [List.cons_append, List.nil_append] at HXz66 HBz66
    obtain ⟨z67t, Hc, H⟩ := Option.bind_eq_some_iff.mp H
    refine r_call S0 rfl rfl goes18 rfl ?_
    refine (waybillplain_SameInts.calls _ _ _ _ z8t _ _ _ z15t _ _ (sl_own_rd [_, _, _, _, _, _, _] HPz66) (sl_own_rd [_, _, _, _, _, _] HPz66) HXz66 z67t Hc).mono ?_
    rintro e w ⟨rfl, Hq'⟩
    have Hq : HS W0 [own e_i64 3 z57A z55t.length z59n z55t, own e_i64 3 z61A z56t.length z63n z56t, own e_i64 3 z46A z44t.length z48n z44t, own e_i64 3 z50A z45t.length z52n z45t, own e_i64 3 z39A z37t.length z41n z37t, own e_i64 3 z32A z30t.length z34n z30t, own e_i64 3 z17A z15t.length z19n z15t, own e_i64 3 z10A z8t.length z12n z8t, own e_i64 3 z3A z2t.length z5n z2t, isH X] w := HBz66 [] _ Hq'
    clear HXz66 HPz66 HBz66 Hq'
    refine ⟨.bool z67t, rfl, ?_⟩; clear S0; intro a0 S0
    refine r_pures [_, _] S0 rfl ?_
    clear S0; intro a0 S0
    by_cases z68h : z67t = true
    · replace H := (if_pos z68h).symm.trans H
      refine r_on S0 rfl rfl rfl (congrArg (!·) z68h) ?_
      refine r_pures [_] S0 rfl ?_
      clear S0; intro a0 S0
      refine r_on S0 rfl rfl rfl (congrArg (!·) z68h) ?_
      obtain ⟨Xz69, HXz69, HPz69, HBz69⟩ := call_frame [] Hq
      dsimp only [List.cons_append, List.nil_append] at HXz69 HBz69
      obtain ⟨z70t, Hc, H⟩ := Option.bind_eq_some_iff.mp H
      refine r_call S0 rfl rfl goes8 rfl ?_
      refine (waybilllaw13_num.calls z9t _ _  HXz69 z70t Hc).mono ?_
      rintro e w ⟨rfl, Hq'⟩
      have Hq : HS W0 [own e_i64 3 z57A z55t.length z59n z55t, own e_i64 3 z61A z56t.length z63n z56t, own e_i64 3 z46A z44t.length z48n z44t, own e_i64 3 z50A z45t.length z52n z45t, own e_i64 3 z39A z37t.length z41n z37t, own e_i64 3 z32A z30t.length z34n z30t, own e_i64 3 z17A z15t.length z19n z15t, own e_i64 3 z10A z8t.length z12n z8t, own e_i64 3 z3A z2t.length z5n z2t, isH X] w := HBz69 [] _ Hq'
      clear HXz69 HPz69 HBz69 Hq'
      refine ⟨.int .i64 z70t, rfl, ?_⟩; clear S0; intro a0 S0
      refine r_on S0 rfl rfl rfl (congrArg (!·) z68h) ?_
      refine r_pures [_] S0 rfl ?_
      clear S0; intro a0 S0
      refine r_on S0 rfl rfl rfl (congrArg (!·) z68h) ?_
      refine r_pures [_] S0 rfl ?_
      clear S0; intro a0 S0
      refine r_pick S0 rfl (congrArg (!·) z68h) _ rfl rfl ?_
      clear S0; intro a0 S0
      refine r_pures [_] S0 rfl ?_
      clear S0; intro a0 S0
      by_cases z71h : z70t = z16t
      · replace H := (if_pos z71h).symm.trans H
        refine r_on S0 rfl rfl rfl (congrArg (!·) (decide_eq_true z71h)) ?_
        refine r_pures [_] S0 rfl ?_
        clear S0; intro a0 S0
        refine r_on S0 rfl rfl rfl (congrArg (!·) (decide_eq_true z71h)) ?_
        refine r_pures [_] S0 rfl ?_
        clear S0; intro a0 S0
        refine r_on S0 rfl rfl rfl (congrArg (!·) (decide_eq_true z71h)) ?_
        refine r_pures [_] S0 rfl ?_
        clear S0; intro a0 S0
        refine r_pick S0 rfl (congrArg (!·) (decide_eq_true z71h)) _ rfl rfl ?_
        clear S0; intro a0 S0
        refine r_pures [_] S0 rfl ?_
        clear S0; intro a0 S0
        by_cases z72h : z22t = z26t
        · replace H := (if_pos z72h).symm.trans H
          refine r_on S0 rfl rfl rfl (congrArg (!·) (decide_eq_true z72h)) ?_
          refine r_pures [_] S0 rfl ?_
          clear S0; intro a0 S0
          refine r_on S0 rfl rfl rfl (congrArg (!·) (decide_eq_true z72h)) ?_
          refine r_pures [_] S0 rfl ?_
          clear S0; intro a0 S0
          refine r_on S0 rfl rfl rfl (congrArg (!·) (decide_eq_true z72h)) ?_
          refine r_pures [_] S0 rfl ?_
          clear S0; intro a0 S0
          refine r_pick S0 rfl (congrArg (!·) (decide_eq_true z72h)) _ rfl rfl ?_
          clear S0; intro a0 S0
          refine r_pures [_] S0 rfl ?_
          clear S0; intro a0 S0
          by_cases z73h : z23t = z27t
          · replace H := (if_pos z73h).symm.trans H
            refine r_on S0 rfl rfl rfl (congrArg (!·) (decide_eq_true z73h)) ?_
            refine r_pures [_] S0 rfl ?_
            clear S0; intro a0 S0
            refine r_on S0 rfl rfl rfl (congrArg (!·) (decide_eq_true z73h)) ?_
            obtain ⟨Xz74, HXz74, HPz74, HBz74⟩ := call_frame [] Hq
            dsimp only [List.cons_append, List.nil_append] at HXz74 HBz74
            obtain ⟨z75t, Hc, H⟩ := Option.bind_eq_some_iff.mp H
            refine r_call S0 rfl rfl goes8 rfl ?_
            refine (waybilllaw13_num.calls z24t _ _  HXz74 z75t Hc).mono ?_
            rintro e w ⟨rfl, Hq'⟩
            have Hq : HS W0 [own e_i64 3 z57A z55t.length z59n z55t, own e_i64 3 z61A z56t.length z63n z56t, own e_i64 3 z46A z44t.length z48n z44t, own e_i64 3 z50A z45t.length z52n z45t, own e_i64 3 z39A z37t.length z41n z37t, own e_i64 3 z32A z30t.length z34n z30t, own e_i64 3 z17A z15t.length z19n z15t, own e_i64 3 z10A z8t.length z12n z8t, own e_i64 3 z3A z2t.length z5n z2t, isH X] w := HBz74 [] _ Hq'
            clear HXz74 HPz74 HBz74 Hq'
            refine ⟨.int .i64 z75t, rfl, ?_⟩; clear S0; intro a0 S0
            refine r_on S0 rfl rfl rfl (congrArg (!·) (decide_eq_true z73h)) ?_
            refine r_pures [_] S0 rfl ?_
            clear S0; intro a0 S0
            refine r_on S0 rfl rfl rfl (congrArg (!·) (decide_eq_true z73h)) ?_
            refine r_pures [_] S0 rfl ?_
            clear S0; intro a0 S0
            refine r_pick S0 rfl (congrArg (!·) (decide_eq_true z73h)) _ rfl rfl ?_
            clear S0; intro a0 S0
            refine r_pures [_] S0 rfl ?_
            clear S0; intro a0 S0
            by_cases z76h : z75t = z28t
            · replace H := (if_pos z76h).symm.trans H
              refine r_on S0 rfl rfl rfl (congrArg (!·) (decide_eq_true z76h)) ?_
              refine r_pures [_] S0 rfl ?_
              clear S0; intro a0 S0
              refine r_on S0 rfl rfl rfl (congrArg (!·) (decide_eq_true z76h)) ?_
              refine r_pures [_] S0 rfl ?_
              clear S0; intro a0 S0
              refine r_on S0 rfl rfl rfl (congrArg (!·) (decide_eq_true z76h)) ?_
              obtain ⟨Xz77, HXz77, HPz77, HBz77⟩ := call_frame [] Hq
              dsimp only [List.cons_append, List.nil_append] at HXz77 HBz77
              obtain ⟨z78t, Hc, H⟩ := Option.bind_eq_some_iff.mp H
              refine r_call S0 rfl rfl goes18 rfl ?_
              refine (waybillplain_SameInts.calls _ _ _ _ z30t _ _ _ z37t _ _ (sl_own_rd [_, _, _, _, _] HPz77) (sl_own_rd [_, _, _, _] HPz77) HXz77 z78t Hc).mono ?_
              rintro e w ⟨rfl, Hq'⟩
              have Hq : HS W0 [own e_i64 3 z57A z55t.length z59n z55t, own e_i64 3 z61A z56t.length z63n z56t, own e_i64 3 z46A z44t.length z48n z44t, own e_i64 3 z50A z45t.length z52n z45t, own e_i64 3 z39A z37t.length z41n z37t, own e_i64 3 z32A z30t.length z34n z30t, own e_i64 3 z17A z15t.length z19n z15t, own e_i64 3 z10A z8t.length z12n z8t, own e_i64 3 z3A z2t.length z5n z2t, isH X] w := HBz77 [] _ Hq'
              clear HXz77 HPz77 HBz77 Hq'
              refine ⟨.bool z78t, rfl, ?_⟩; clear S0; intro a0 S0
              refine r_on S0 rfl rfl rfl (congrArg (!·) (decide_eq_true z76h)) ?_
              refine r_pures [_] S0 rfl ?_
              clear S0; intro a0 S0
              refine r_pick S0 rfl (congrArg (!·) (decide_eq_true z76h)) _ rfl rfl ?_
              clear S0; intro a0 S0
              refine r_pures [_] S0 rfl ?_
              clear S0; intro a0 S0
              by_cases z79h : z78t = true
              · replace H := (if_pos z79h).symm.trans H
                refine r_on S0 rfl rfl rfl (congrArg (!·) z79h) ?_
                refine r_pures [_] S0 rfl ?_
                clear S0; intro a0 S0
                refine r_on S0 rfl rfl rfl (congrArg (!·) z79h) ?_
                obtain ⟨Xz80, HXz80, HPz80, HBz80⟩ := call_frame [] Hq
                dsimp only [List.cons_append, List.nil_append] at HXz80 HBz80
                obtain ⟨z81t, Hc, H⟩ := Option.bind_eq_some_iff.mp H
                refine r_call S0 rfl rfl goes8 rfl ?_
                refine (waybilllaw13_num.calls z31t _ _  HXz80 z81t Hc).mono ?_
                rintro e w ⟨rfl, Hq'⟩
                have Hq : HS W0 [own e_i64 3 z57A z55t.length z59n z55t, own e_i64 3 z61A z56t.length z63n z56t, own e_i64 3 z46A z44t.length z48n z44t, own e_i64 3 z50A z45t.length z52n z45t, own e_i64 3 z39A z37t.length z41n z37t, own e_i64 3 z32A z30t.length z34n z30t, own e_i64 3 z17A z15t.length z19n z15t, own e_i64 3 z10A z8t.length z12n z8t, own e_i64 3 z3A z2t.length z5n z2t, isH X] w := HBz80 [] _ Hq'
                clear HXz80 HPz80 HBz80 Hq'
                refine ⟨.int .i64 z81t, rfl, ?_⟩; clear S0; intro a0 S0
                refine r_on S0 rfl rfl rfl (congrArg (!·) z79h) ?_
                refine r_pures [_] S0 rfl ?_
                clear S0; intro a0 S0
                refine r_on S0 rfl rfl rfl (congrArg (!·) z79h) ?_
                refine r_pures [_] S0 rfl ?_
                clear S0; intro a0 S0
                refine r_pick S0 rfl (congrArg (!·) z79h) _ rfl rfl ?_
                clear S0; intro a0 S0
                refine wl_nil ?_
                refine nr_then ?_
                replace Hq := HS.pull [_, _, _, _, _, _, _, _, _] Hq
                dsimp only [List.cons_append, List.nil_append] at Hq
                replace Hq := HS.pull [_, _, _, _, _, _, _, _, _] Hq
                dsimp only [List.cons_append, List.nil_append] at Hq
                replace Hq := HS.pull [_, _, _, _, _] Hq
                dsimp only [List.cons_append, List.nil_append] at Hq
                replace Hq := HS.pull [_, _, _, _, _] Hq
                dsimp only [List.cons_append, List.nil_append] at Hq
                replace Hq := HS.pull [_, _, _, _, _] Hq
                dsimp only [List.cons_append, List.nil_append] at Hq
                replace Hq := HS.pull [_, _, _, _, _] Hq
                dsimp only [List.cons_append, List.nil_append] at Hq
                replace Hq := HS.keep [_, _, _, _, _, _] Hq
                obtain rfl := Option.some.inj H
                exact ⟨S0.sub ⟨rfl, rfl, rfl, rfl, rfl, rfl, rfl, trivial⟩, Hq⟩
              · replace H := (if_neg z79h).symm.trans H
                refine r_off S0 rfl rfl rfl (congrArg (!·) (Bool.eq_false_iff.mpr z79h)) ?_ rfl
                clear S0; intro a0 S0
                refine r_off S0 rfl rfl rfl (congrArg (!·) (Bool.eq_false_iff.mpr z79h)) ?_ rfl
                clear S0; intro a0 S0
                refine r_off S0 rfl rfl rfl (congrArg (!·) (Bool.eq_false_iff.mpr z79h)) ?_ rfl
                clear S0; intro a0 S0
                refine r_off S0 rfl rfl rfl (congrArg (!·) (Bool.eq_false_iff.mpr z79h)) ?_ rfl
                clear S0; intro a0 S0
                refine r_pick S0 rfl (congrArg (!·) (Bool.eq_false_iff.mpr z79h)) _ rfl rfl ?_
                clear S0; intro a0 S0
                refine wl_nil ?_
                refine nr_then ?_
                replace Hq := HS.pull [_, _, _, _, _, _, _, _, _] Hq
                dsimp only [List.cons_append, List.nil_append] at Hq
                replace Hq := HS.pull [_, _, _, _, _, _, _, _, _] Hq
                dsimp only [List.cons_append, List.nil_append] at Hq
                replace Hq := HS.pull [_, _, _, _, _] Hq
                dsimp only [List.cons_append, List.nil_append] at Hq
                replace Hq := HS.pull [_, _, _, _, _] Hq
                dsimp only [List.cons_append, List.nil_append] at Hq
                replace Hq := HS.pull [_, _, _, _, _] Hq
                dsimp only [List.cons_append, List.nil_append] at Hq
                replace Hq := HS.pull [_, _, _, _, _] Hq
                dsimp only [List.cons_append, List.nil_append] at Hq
                replace Hq := HS.keep [_, _, _, _, _, _] Hq
                obtain rfl := Option.some.inj H
                exact ⟨S0.sub ⟨rfl, rfl, rfl, rfl, rfl, rfl, rfl, trivial⟩, Hq⟩
            · replace H := (if_neg z76h).symm.trans H
              refine r_off S0 rfl rfl rfl (congrArg (!·) (decide_eq_false z76h)) ?_ rfl
              clear S0; intro a0 S0
              refine r_off S0 rfl rfl rfl (congrArg (!·) (decide_eq_false z76h)) ?_ rfl
              clear S0; intro a0 S0
              refine r_off S0 rfl rfl rfl (congrArg (!·) (decide_eq_false z76h)) ?_ rfl
              clear S0; intro a0 S0
              refine r_off S0 rfl rfl rfl (congrArg (!·) (decide_eq_false z76h)) ?_ rfl
              clear S0; intro a0 S0
              refine r_pick S0 rfl (congrArg (!·) (decide_eq_false z76h)) _ rfl rfl ?_
              clear S0; intro a0 S0
              refine r_pures [_] S0 rfl ?_
              clear S0; intro a0 S0
              refine r_off S0 rfl rfl rfl rfl ?_ rfl
              clear S0; intro a0 S0
              refine r_off S0 rfl rfl rfl rfl ?_ rfl
              clear S0; intro a0 S0
              refine r_off S0 rfl rfl rfl rfl ?_ rfl
              clear S0; intro a0 S0
              refine r_off S0 rfl rfl rfl rfl ?_ rfl
              clear S0; intro a0 S0
              refine r_pick S0 rfl rfl _ rfl rfl ?_
              clear S0; intro a0 S0
              refine wl_nil ?_
              refine nr_then ?_
              replace Hq := HS.pull [_, _, _, _, _, _, _, _, _] Hq
              dsimp only [List.cons_append, List.nil_append] at Hq
              replace Hq := HS.pull [_, _, _, _, _, _, _, _, _] Hq
              dsimp only [List.cons_append, List.nil_append] at Hq
              replace Hq := HS.pull [_, _, _, _, _] Hq
              dsimp only [List.cons_append, List.nil_append] at Hq
              replace Hq := HS.pull [_, _, _, _, _] Hq
              dsimp only [List.cons_append, List.nil_append] at Hq
              replace Hq := HS.pull [_, _, _, _, _] Hq
              dsimp only [List.cons_append, List.nil_append] at Hq
              replace Hq := HS.pull [_, _, _, _, _] Hq
              dsimp only [List.cons_append, List.nil_append] at Hq
              replace Hq := HS.keep [_, _, _, _, _, _] Hq
              obtain rfl := Option.some.inj H
              exact ⟨S0.sub ⟨rfl, rfl, rfl, rfl, rfl, rfl, rfl, trivial⟩, Hq⟩
          · replace H := (if_neg z73h).symm.trans H
            refine r_off S0 rfl rfl rfl (congrArg (!·) (decide_eq_false z73h)) ?_ rfl
            clear S0; intro a0 S0
            refine r_off S0 rfl rfl rfl (congrArg (!·) (decide_eq_false z73h)) ?_ rfl
            clear S0; intro a0 S0
            refine r_off S0 rfl rfl rfl (congrArg (!·) (decide_eq_false z73h)) ?_ rfl
            clear S0; intro a0 S0
            refine r_off S0 rfl rfl rfl (congrArg (!·) (decide_eq_false z73h)) ?_ rfl
            clear S0; intro a0 S0
            refine r_pick S0 rfl (congrArg (!·) (decide_eq_false z73h)) _ rfl rfl ?_
            clear S0; intro a0 S0
            refine r_pures [_] S0 rfl ?_
            clear S0; intro a0 S0
            refine r_off S0 rfl rfl rfl rfl ?_ rfl
            clear S0; intro a0 S0
            refine r_off S0 rfl rfl rfl rfl ?_ rfl
            clear S0; intro a0 S0
            refine r_off S0 rfl rfl rfl rfl ?_ rfl
            clear S0; intro a0 S0
            refine r_off S0 rfl rfl rfl rfl ?_ rfl
            clear S0; intro a0 S0
            refine r_pick S0 rfl rfl _ rfl rfl ?_
            clear S0; intro a0 S0
            refine r_pures [_] S0 rfl ?_
            clear S0; intro a0 S0
            refine r_off S0 rfl rfl rfl rfl ?_ rfl
            clear S0; intro a0 S0
            refine r_off S0 rfl rfl rfl rfl ?_ rfl
            clear S0; intro a0 S0
            refine r_off S0 rfl rfl rfl rfl ?_ rfl
            clear S0; intro a0 S0
            refine r_off S0 rfl rfl rfl rfl ?_ rfl
            clear S0; intro a0 S0
            refine r_pick S0 rfl rfl _ rfl rfl ?_
            clear S0; intro a0 S0
            refine wl_nil ?_
            refine nr_then ?_
            replace Hq := HS.pull [_, _, _, _, _, _, _, _, _] Hq
            dsimp only [List.cons_append, List.nil_append] at Hq
            replace Hq := HS.pull [_, _, _, _, _, _, _, _, _] Hq
            dsimp only [List.cons_append, List.nil_append] at Hq
            replace Hq := HS.pull [_, _, _, _, _] Hq
            dsimp only [List.cons_append, List.nil_append] at Hq
            replace Hq := HS.pull [_, _, _, _, _] Hq
            dsimp only [List.cons_append, List.nil_append] at Hq
            replace Hq := HS.pull [_, _, _, _, _] Hq
            dsimp only [List.cons_append, List.nil_append] at Hq
            replace Hq := HS.pull [_, _, _, _, _] Hq
            dsimp only [List.cons_append, List.nil_append] at Hq
            replace Hq := HS.keep [_, _, _, _, _, _] Hq
            obtain rfl := Option.some.inj H
            exact ⟨S0.sub ⟨rfl, rfl, rfl, rfl, rfl, rfl, rfl, trivial⟩, Hq⟩
        · replace H := (if_neg z72h).symm.trans H
          refine r_off S0 rfl rfl rfl (congrArg (!·) (decide_eq_false z72h)) ?_ rfl
          clear S0; intro a0 S0
          refine r_off S0 rfl rfl rfl (congrArg (!·) (decide_eq_false z72h)) ?_ rfl
          clear S0; intro a0 S0
          refine r_off S0 rfl rfl rfl (congrArg (!·) (decide_eq_false z72h)) ?_ rfl
          clear S0; intro a0 S0
          refine r_pick S0 rfl (congrArg (!·) (decide_eq_false z72h)) _ rfl rfl ?_
          clear S0; intro a0 S0
          refine r_pures [_] S0 rfl ?_
          clear S0; intro a0 S0
          refine r_off S0 rfl rfl rfl rfl ?_ rfl
          clear S0; intro a0 S0
          refine r_off S0 rfl rfl rfl rfl ?_ rfl
          clear S0; intro a0 S0
          refine r_off S0 rfl rfl rfl rfl ?_ rfl
          clear S0; intro a0 S0
          refine r_off S0 rfl rfl rfl rfl ?_ rfl
          clear S0; intro a0 S0
          refine r_pick S0 rfl rfl _ rfl rfl ?_
          clear S0; intro a0 S0
          refine r_pures [_] S0 rfl ?_
          clear S0; intro a0 S0
          refine r_off S0 rfl rfl rfl rfl ?_ rfl
          clear S0; intro a0 S0
          refine r_off S0 rfl rfl rfl rfl ?_ rfl
          clear S0; intro a0 S0
          refine r_off S0 rfl rfl rfl rfl ?_ rfl
          clear S0; intro a0 S0
          refine r_off S0 rfl rfl rfl rfl ?_ rfl
          clear S0; intro a0 S0
          refine r_pick S0 rfl rfl _ rfl rfl ?_
          clear S0; intro a0 S0
          refine r_pures [_] S0 rfl ?_
          clear S0; intro a0 S0
          refine r_off S0 rfl rfl rfl rfl ?_ rfl
          clear S0; intro a0 S0
          refine r_off S0 rfl rfl rfl rfl ?_ rfl
          clear S0; intro a0 S0
          refine r_off S0 rfl rfl rfl rfl ?_ rfl
          clear S0; intro a0 S0
          refine r_off S0 rfl rfl rfl rfl ?_ rfl
          clear S0; intro a0 S0
          refine r_pick S0 rfl rfl _ rfl rfl ?_
          clear S0; intro a0 S0
          refine wl_nil ?_
          refine nr_then ?_
          replace Hq := HS.pull [_, _, _, _, _, _, _, _, _] Hq
          dsimp only [List.cons_append, List.nil_append] at Hq
          replace Hq := HS.pull [_, _, _, _, _, _, _, _, _] Hq
          dsimp only [List.cons_append, List.nil_append] at Hq
          replace Hq := HS.pull [_, _, _, _, _] Hq
          dsimp only [List.cons_append, List.nil_append] at Hq
          replace Hq := HS.pull [_, _, _, _, _] Hq
          dsimp only [List.cons_append, List.nil_append] at Hq
          replace Hq := HS.pull [_, _, _, _, _] Hq
          dsimp only [List.cons_append, List.nil_append] at Hq
          replace Hq := HS.pull [_, _, _, _, _] Hq
          dsimp only [List.cons_append, List.nil_append] at Hq
          replace Hq := HS.keep [_, _, _, _, _, _] Hq
          obtain rfl := Option.some.inj H
          exact ⟨S0.sub ⟨rfl, rfl, rfl, rfl, rfl, rfl, rfl, trivial⟩, Hq⟩
      · replace H := (if_neg z71h).symm.trans H
        refine r_off S0 rfl rfl rfl (congrArg (!·) (decide_eq_false z71h)) ?_ rfl
        clear S0; intro a0 S0
        refine r_off S0 rfl rfl rfl (congrArg (!·) (decide_eq_false z71h)) ?_ rfl
        clear S0; intro a0 S0
        refine r_off S0 rfl rfl rfl (congrArg (!·) (decide_eq_false z71h)) ?_ rfl
        clear S0; intro a0 S0
        refine r_pick S0 rfl (congrArg (!·) (decide_eq_false z71h)) _ rfl rfl ?_
        clear S0; intro a0 S0
        refine r_pures [_] S0 rfl ?_
        clear S0; intro a0 S0
        refine r_off S0 rfl rfl rfl rfl ?_ rfl
        clear S0; intro a0 S0
        refine r_off S0 rfl rfl rfl rfl ?_ rfl
        clear S0; intro a0 S0
        refine r_off S0 rfl rfl rfl rfl ?_ rfl
        clear S0; intro a0 S0
        refine r_pick S0 rfl rfl _ rfl rfl ?_
        clear S0; intro a0 S0
        refine r_pures [_] S0 rfl ?_
        clear S0; intro a0 S0
        refine r_off S0 rfl rfl rfl rfl ?_ rfl
        clear S0; intro a0 S0
        refine r_off S0 rfl rfl rfl rfl ?_ rfl
        clear S0; intro a0 S0
        refine r_off S0 rfl rfl rfl rfl ?_ rfl
        clear S0; intro a0 S0
        refine r_off S0 rfl rfl rfl rfl ?_ rfl
        clear S0; intro a0 S0
        refine r_pick S0 rfl rfl _ rfl rfl ?_
        clear S0; intro a0 S0
        refine r_pures [_] S0 rfl ?_
        clear S0; intro a0 S0
        refine r_off S0 rfl rfl rfl rfl ?_ rfl
        clear S0; intro a0 S0
        refine r_off S0 rfl rfl rfl rfl ?_ rfl
        clear S0; intro a0 S0
        refine r_off S0 rfl rfl rfl rfl ?_ rfl
        clear S0; intro a0 S0
        refine r_off S0 rfl rfl rfl rfl ?_ rfl
        clear S0; intro a0 S0
        refine r_pick S0 rfl rfl _ rfl rfl ?_
        clear S0; intro a0 S0
        refine r_pures [_] S0 rfl ?_
        clear S0; intro a0 S0
        refine r_off S0 rfl rfl rfl rfl ?_ rfl
        clear S0; intro a0 S0
        refine r_off S0 rfl rfl rfl rfl ?_ rfl
        clear S0; intro a0 S0
        refine r_off S0 rfl rfl rfl rfl ?_ rfl
        clear S0; intro a0 S0
        refine r_off S0 rfl rfl rfl rfl ?_ rfl
        clear S0; intro a0 S0
        refine r_pick S0 rfl rfl _ rfl rfl ?_
        clear S0; intro a0 S0
        refine wl_nil ?_
        refine nr_then ?_
        replace Hq := HS.pull [_, _, _, _, _, _, _, _, _] Hq
        dsimp only [List.cons_append, List.nil_append] at Hq
        replace Hq := HS.pull [_, _, _, _, _, _, _, _, _] Hq
        dsimp only [List.cons_append, List.nil_append] at Hq
        replace Hq := HS.pull [_, _, _, _, _] Hq
        dsimp only [List.cons_append, List.nil_append] at Hq
        replace Hq := HS.pull [_, _, _, _, _] Hq
        dsimp only [List.cons_append, List.nil_append] at Hq
        replace Hq := HS.pull [_, _, _, _, _] Hq
        dsimp only [List.cons_append, List.nil_append] at Hq
        replace Hq := HS.pull [_, _, _, _, _] Hq
        dsimp only [List.cons_append, List.nil_append] at Hq
        replace Hq := HS.keep [_, _, _, _, _, _] Hq
        obtain rfl := Option.some.inj H
        exact ⟨S0.sub ⟨rfl, rfl, rfl, rfl, rfl, rfl, rfl, trivial⟩, Hq⟩
    · replace H := (if_neg z68h).symm.trans H
      refine r_off S0 rfl rfl rfl (congrArg (!·) (Bool.eq_false_iff.mpr z68h)) ?_ rfl
      clear S0; intro a0 S0
      refine r_off S0 rfl rfl rfl (congrArg (!·) (Bool.eq_false_iff.mpr z68h)) ?_ rfl
      clear S0; intro a0 S0
      refine r_off S0 rfl rfl rfl (congrArg (!·) (Bool.eq_false_iff.mpr z68h)) ?_ rfl
      clear S0; intro a0 S0
      refine r_off S0 rfl rfl rfl (congrArg (!·) (Bool.eq_false_iff.mpr z68h)) ?_ rfl
      clear S0; intro a0 S0
      refine r_pick S0 rfl (congrArg (!·) (Bool.eq_false_iff.mpr z68h)) _ rfl rfl ?_
      clear S0; intro a0 S0
      refine r_pures [_] S0 rfl ?_
      clear S0; intro a0 S0
      refine r_off S0 rfl rfl rfl rfl ?_ rfl
      clear S0; intro a0 S0
      refine r_off S0 rfl rfl rfl rfl ?_ rfl
      clear S0; intro a0 S0
      refine r_off S0 rfl rfl rfl rfl ?_ rfl
      clear S0; intro a0 S0
      refine r_pick S0 rfl rfl _ rfl rfl ?_
      clear S0; intro a0 S0
      refine r_pures [_] S0 rfl ?_
      clear S0; intro a0 S0
      refine r_off S0 rfl rfl rfl rfl ?_ rfl
      clear S0; intro a0 S0
      refine r_off S0 rfl rfl rfl rfl ?_ rfl
      clear S0; intro a0 S0
      refine r_off S0 rfl rfl rfl rfl ?_ rfl
      clear S0; intro a0 S0
      refine r_pick S0 rfl rfl _ rfl rfl ?_
      clear S0; intro a0 S0
      refine r_pures [_] S0 rfl ?_
      clear S0; intro a0 S0
      refine r_off S0 rfl rfl rfl rfl ?_ rfl
      clear S0; intro a0 S0
      refine r_off S0 rfl rfl rfl rfl ?_ rfl
      clear S0; intro a0 S0
      refine r_off S0 rfl rfl rfl rfl ?_ rfl
      clear S0; intro a0 S0
      refine r_off S0 rfl rfl rfl rfl ?_ rfl
      clear S0; intro a0 S0
      refine r_pick S0 rfl rfl _ rfl rfl ?_
      clear S0; intro a0 S0
      refine r_pures [_] S0 rfl ?_
      clear S0; intro a0 S0
      refine r_off S0 rfl rfl rfl rfl ?_ rfl
      clear S0; intro a0 S0
      refine r_off S0 rfl rfl rfl rfl ?_ rfl
      clear S0; intro a0 S0
      refine r_off S0 rfl rfl rfl rfl ?_ rfl
      clear S0; intro a0 S0
      refine r_off S0 rfl rfl rfl rfl ?_ rfl
      clear S0; intro a0 S0
      refine r_pick S0 rfl rfl _ rfl rfl ?_
      clear S0; intro a0 S0
      refine r_pures [_] S0 rfl ?_
      clear S0; intro a0 S0
      refine r_off S0 rfl rfl rfl rfl ?_ rfl
      clear S0; intro a0 S0
      refine r_off S0 rfl rfl rfl rfl ?_ rfl
      clear S0; intro a0 S0
      refine r_off S0 rfl rfl rfl rfl ?_ rfl
      clear S0; intro a0 S0
      refine r_off S0 rfl rfl rfl rfl ?_ rfl
      clear S0; intro a0 S0
      refine r_pick S0 rfl rfl _ rfl rfl ?_
      clear S0; intro a0 S0
      refine wl_nil ?_
      refine nr_then ?_
      replace Hq := HS.pull [_, _, _, _, _, _, _, _, _] Hq
      dsimp only [List.cons_append, List.nil_append] at Hq
      replace Hq := HS.pull [_, _, _, _, _, _, _, _, _] Hq
      dsimp only [List.cons_append, List.nil_append] at Hq
      replace Hq := HS.pull [_, _, _, _, _] Hq
      dsimp only [List.cons_append, List.nil_append] at Hq
      replace Hq := HS.pull [_, _, _, _, _] Hq
      dsimp only [List.cons_append, List.nil_append] at Hq
      replace Hq := HS.pull [_, _, _, _, _] Hq
      dsimp only [List.cons_append, List.nil_append] at Hq
      replace Hq := HS.pull [_, _, _, _, _] Hq
      dsimp only [List.cons_append, List.nil_append] at Hq
      replace Hq := HS.keep [_, _, _, _, _, _] Hq
      obtain rfl := Option.some.inj H
      exact ⟨S0.sub ⟨rfl, rfl, rfl, rfl, rfl, rfl, rfl, trivial⟩, Hq⟩
  · clear S0; rintro a w ⟨S0, Hq⟩
    have H := HU1; clear HU1
    refine nr_then ?_
    by_cases z82h : z65x = true
    · replace H := (if_pos z82h).symm.trans H
      refine w_true S0 rfl z82h ?_
      refine w_seq ?_
      refine w_region ?_
      refine r_pures [_] S0 rfl ?_
      clear S0; intro a0 S0
      refine wl_nil ?_
      refine nr_then ?_
      refine w_ret ?_
      refine ret_then ?_
      obtain rfl := Option.some.inj H
      refine ret1 S0 rfl rfl ?_
      replace Hq := HS.pull [_, _, _, _, _] Hq
      dsimp only [List.cons_append, List.nil_append] at Hq
      replace Hq := HS.keep [_] Hq
      exact ⟨rfl, Hq⟩
    · replace H := (if_neg z82h).symm.trans H
      refine w_false S0 rfl (Bool.eq_false_iff.mpr z82h) ?_
      refine w_skip ?_
      refine nr_then ?_
      refine w_seq ?_
      obtain ⟨z83x, H, HU2⟩ := Option.bind_eq_some_iff.mp H
      refine w_cutT (fun a w => Sl 148 [] [(12, .bool z83x)] a ∧ HS W0 [isH X] w) ?_ ?_
      · skip
        refine w_region ?_
        refine r_pures [_, _] S0 rfl ?_
        clear S0; intro a0 S0
        obtain ⟨Xz84, HXz84, HPz84, HBz84⟩ := call_frame [] Hq
        dsimp only [List.cons_append, List.nil_append] at HXz84 HBz84
        obtain ⟨z85t, Hc, H⟩ := Option.bind_eq_some_iff.mp H
        refine r_call S0 rfl rfl goes18 rfl ?_
        refine (waybillplain_SameInts.calls _ _ _ _ z44t _ _ _ z55t _ _ (sl_own_rd [_, _] HPz84) (sl_own_rd [] HPz84) HXz84 z85t Hc).mono ?_
        rintro e w ⟨rfl, Hq'⟩
        have Hq : HS W0 [own e_i64 3 z57A z55t.length z59n z55t, own e_i64 3 z61A z56t.length z63n z56t, own e_i64 3 z46A z44t.length z48n z44t, own e_i64 3 z50A z45t.length z52n z45t, own e_i64 3 z3A z2t.length z5n z2t, isH X] w := HBz84 [] _ Hq'
        clear HXz84 HPz84 HBz84 Hq'
        refine ⟨.bool z85t, rfl, ?_⟩; clear S0; intro a0 S0
        refine r_pures [_] S0 rfl ?_
        clear S0; intro a0 S0
        by_cases z86h : z85t = true
        · replace H := (if_pos z86h).symm.trans H
          refine r_on S0 rfl rfl rfl z86h ?_
          refine r_pures [_] S0 rfl ?_
          clear S0; intro a0 S0
          refine r_on S0 rfl rfl rfl z86h ?_
          refine r_pures [_] S0 rfl ?_
          clear S0; intro a0 S0
          refine r_on S0 rfl rfl rfl z86h ?_
          obtain ⟨Xz87, HXz87, HPz87, HBz87⟩ := call_frame [] Hq
          dsimp only [List.cons_append, List.nil_append] at HXz87 HBz87
          obtain ⟨z88t, Hc, H⟩ := Option.bind_eq_some_iff.mp H
          refine r_call S0 rfl rfl goes18 rfl ?_
          refine (waybillplain_SameInts.calls _ _ _ _ z45t _ _ _ z56t _ _ (sl_own_rd [_, _, _] HPz87) (sl_own_rd [_] HPz87) HXz87 z88t Hc).mono ?_
          rintro e w ⟨rfl, Hq'⟩
          have Hq : HS W0 [own e_i64 3 z57A z55t.length z59n z55t, own e_i64 3 z61A z56t.length z63n z56t, own e_i64 3 z46A z44t.length z48n z44t, own e_i64 3 z50A z45t.length z52n z45t, own e_i64 3 z3A z2t.length z5n z2t, isH X] w := HBz87 [] _ Hq'
          clear HXz87 HPz87 HBz87 Hq'
          refine ⟨.bool z88t, rfl, ?_⟩; clear S0; intro a0 S0
          refine r_pick S0 rfl z86h _ rfl rfl ?_
          clear S0; intro a0 S0
          refine r_pures [_] S0 rfl ?_
          clear S0; intro a0 S0
          by_cases z89h : z88t = true
          · replace H := (if_pos z89h).symm.trans H
            refine r_on S0 rfl rfl rfl z89h ?_
            refine r_pures [_] S0 rfl ?_
            clear S0; intro a0 S0
            refine r_on S0 rfl rfl rfl z89h ?_
            refine r_pures [_] S0 rfl ?_
            clear S0; intro a0 S0
            refine r_on S0 rfl rfl rfl z89h ?_
            obtain ⟨Xz90, HXz90, HPz90, HBz90⟩ := call_frame [] Hq
            dsimp only [List.cons_append, List.nil_append] at HXz90 HBz90
            obtain ⟨z91t, Hc, H⟩ := Option.bind_eq_some_iff.mp H
            refine r_call S0 rfl rfl goes18 rfl ?_
            refine (waybillplain_SameInts.calls _ _ _ _ z2t _ _ _ x_ids _ _ (sl_own_rd [_, _, _, _] HPz90) (sl_isH_rd [_, _, _, _, _] HPz90 HR0) HXz90 z91t Hc).mono ?_
            rintro e w ⟨rfl, Hq'⟩
            have Hq : HS W0 [own e_i64 3 z57A z55t.length z59n z55t, own e_i64 3 z61A z56t.length z63n z56t, own e_i64 3 z46A z44t.length z48n z44t, own e_i64 3 z50A z45t.length z52n z45t, own e_i64 3 z3A z2t.length z5n z2t, isH X] w := HBz90 [] _ Hq'
            clear HXz90 HPz90 HBz90 Hq'
            refine ⟨.bool z91t, rfl, ?_⟩; clear S0; intro a0 S0
            refine r_pick S0 rfl z89h _ rfl rfl ?_
            clear S0; intro a0 S0
            refine r_pures [_] S0 rfl ?_
            clear S0; intro a0 S0
            by_cases z92h : z91t = true
            · replace H := (if_pos z92h).symm.trans H
              refine r_on S0 rfl rfl rfl z92h ?_
              obtain ⟨Xz93, HXz93, HPz93, HBz93⟩ := call_frame [] Hq
              dsimp only [List.cons_append, List.nil_append] at HXz93 HBz93
              obtain ⟨z94t, Hc, H⟩ := Option.bind_eq_some_iff.mp H
              refine r_call S0 rfl rfl goes6 rfl ?_
              refine (waybilllaw13_alive.calls _  _ _  HXz93 z94t Hc).mono ?_
              rintro e w ⟨rfl, Hq'⟩
              have Hq : HS W0 [own e_i64 3 z57A z55t.length z59n z55t, own e_i64 3 z61A z56t.length z63n z56t, own e_i64 3 z46A z44t.length z48n z44t, own e_i64 3 z50A z45t.length z52n z45t, own e_i64 3 z3A z2t.length z5n z2t, isH X] w := HBz93 [] _ Hq'
              clear HXz93 HPz93 HBz93 Hq'
              refine ⟨.bool z94t, rfl, ?_⟩; clear S0; intro a0 S0
              refine r_pick S0 rfl z92h _ rfl rfl ?_
              clear S0; intro a0 S0
              refine r_pures [_] S0 rfl ?_
              clear S0; intro a0 S0
              refine wl_nil ?_
              refine nr_then ?_
              replace Hq := HS.pull [_, _, _, _, _] Hq
              dsimp only [List.cons_append, List.nil_append] at Hq
              replace Hq := HS.keep [_] Hq
              obtain rfl := Option.some.inj H
              exact ⟨S0.sub ⟨rfl, trivial⟩, Hq⟩
            · replace H := (if_neg z92h).symm.trans H
              refine r_off S0 rfl rfl rfl (Bool.eq_false_iff.mpr z92h) ?_ rfl
              clear S0; intro a0 S0
              refine r_pick S0 rfl (Bool.eq_false_iff.mpr z92h) _ rfl rfl ?_
              clear S0; intro a0 S0
              refine r_pures [_] S0 rfl ?_
              clear S0; intro a0 S0
              refine wl_nil ?_
              refine nr_then ?_
              replace Hq := HS.pull [_, _, _, _, _] Hq
              dsimp only [List.cons_append, List.nil_append] at Hq
              replace Hq := HS.keep [_] Hq
              obtain rfl := Option.some.inj H
              exact ⟨S0.sub ⟨rfl, trivial⟩, Hq⟩
          · replace H := (if_neg z89h).symm.trans H
            refine r_off S0 rfl rfl rfl (Bool.eq_false_iff.mpr z89h) ?_ rfl
            clear S0; intro a0 S0
            refine r_off S0 rfl rfl rfl (Bool.eq_false_iff.mpr z89h) ?_ rfl
            clear S0; intro a0 S0
            refine r_off S0 rfl rfl rfl (Bool.eq_false_iff.mpr z89h) ?_ rfl
            clear S0; intro a0 S0
            refine r_pick S0 rfl (Bool.eq_false_iff.mpr z89h) _ rfl rfl ?_
            clear S0; intro a0 S0
            refine r_pures [_] S0 rfl ?_
            clear S0; intro a0 S0
            refine r_off S0 rfl rfl rfl rfl ?_ rfl
            clear S0; intro a0 S0
            refine r_pick S0 rfl rfl _ rfl rfl ?_
            clear S0; intro a0 S0
            refine r_pures [_] S0 rfl ?_
            clear S0; intro a0 S0
            refine wl_nil ?_
            refine nr_then ?_
            replace Hq := HS.pull [_, _, _, _, _] Hq
            dsimp only [List.cons_append, List.nil_append] at Hq
            replace Hq := HS.keep [_] Hq
            obtain rfl := Option.some.inj H
            exact ⟨S0.sub ⟨rfl, trivial⟩, Hq⟩
        · replace H := (if_neg z86h).symm.trans H
          refine r_off S0 rfl rfl rfl (Bool.eq_false_iff.mpr z86h) ?_ rfl
          clear S0; intro a0 S0
          refine r_off S0 rfl rfl rfl (Bool.eq_false_iff.mpr z86h) ?_ rfl
          clear S0; intro a0 S0
          refine r_off S0 rfl rfl rfl (Bool.eq_false_iff.mpr z86h) ?_ rfl
          clear S0; intro a0 S0
          refine r_pick S0 rfl (Bool.eq_false_iff.mpr z86h) _ rfl rfl ?_
          clear S0; intro a0 S0
          refine r_pures [_] S0 rfl ?_
          clear S0; intro a0 S0
          refine r_off S0 rfl rfl rfl rfl ?_ rfl
          clear S0; intro a0 S0
          refine r_off S0 rfl rfl rfl rfl ?_ rfl
          clear S0; intro a0 S0
          refine r_off S0 rfl rfl rfl rfl ?_ rfl
          clear S0; intro a0 S0
          refine r_pick S0 rfl rfl _ rfl rfl ?_
          clear S0; intro a0 S0
          refine r_pures [_] S0 rfl ?_
          clear S0; intro a0 S0
          refine r_off S0 rfl rfl rfl rfl ?_ rfl
          clear S0; intro a0 S0
          refine r_pick S0 rfl rfl _ rfl rfl ?_
          clear S0; intro a0 S0
          refine r_pures [_] S0 rfl ?_
          clear S0; intro a0 S0
          refine wl_nil ?_
          refine nr_then ?_
          replace Hq := HS.pull [_, _, _, _, _] Hq
          dsimp only [List.cons_append, List.nil_append] at Hq
          replace Hq := HS.keep [_] Hq
          obtain rfl := Option.some.inj H
          exact ⟨S0.sub ⟨rfl, trivial⟩, Hq⟩
      · clear S0; rintro a w ⟨S0, Hq⟩
        have H := HU2; clear HU2
        refine nr_then ?_
        refine w_ret ?_
        obtain rfl := Option.some.inj H
        refine ret1 S0 rfl rfl ?_
        exact ⟨rfl, Hq⟩

end Go.Proofs.Ythlogangnppghaa.M

/- Hashes, draws and a shuffle: what the functions of the translation answer. -/
set_option linter.unusedVariables false
set_option linter.unusedSimpArgs false
namespace Go.Proofs.Ythlogangnppghaa.M
open Go Go.Proofs.Ythlogangnppghaa.Sl

theorem mix_ok (x : Int) : ∃ m, hash_Mix.f x = some m := by simp [hash_Mix.f, hash_fold.f]
theorem share_ok (x : Int) {n : Int} (h1 : 1 ≤ n) (h2 : n ≤ 1048576) : ∃ h, hash_Share.f x n = some (h, 0) ∧ 0 ≤ h ∧ h < n := by
  have e1 : ¬ n < 1 := by omega
  have e2 : ¬ 1048576 < n := by omega
  obtain ⟨a, ha⟩ : ∃ a, a = sh_shl .u64 (sh_shr .u64 x 32) 32 := ⟨_, rfl⟩
  have a0 : 0 ≤ a := by rw [ha]; exact U_lo _
  have a1 : a < 18446744073709551616 := by rw [ha]; exact U_hi _
  have hu : IntKind.u64.wrap n = n := U_eq (by omega) (by omega)
  have q0 : 0 ≤ a * n / 18446744073709551616 := Int.ediv_nonneg (Int.mul_nonneg a0 (by omega)) (by omega)
  have q1 : a * n / 18446744073709551616 < n := by
    apply Int.ediv_lt_of_lt_mul (by omega)
    rw [Int.mul_comm n]
    exact Int.mul_lt_mul_of_pos_right a1 (by omega)
  refine ⟨a * n / 18446744073709551616, ?_, q0, q1⟩
  rw [hash_Share.f, ← ha, hu]
  simp only [e1, e2, if_false, if_true, decide_false, Option.bind_some, bits_Mul64.f]
  rw [if_neg (by simp), if_pos ⟨a0, a1, by omega, by omega⟩]
  simp only [Option.bind_some]
  rw [W_eq (by omega) (by omega)]
theorem below_ok (s : Int) {n : Int} (h1 : 1 ≤ n) (h2 : n ≤ 1048576) : ∃ k s', draw_stream_below.f s n = some (k, s') ∧ 0 ≤ k ∧ k < n := by
  obtain ⟨m, hm⟩ := mix_ok (IntKind.u64.wrap (s + 11400714819323198485))
  obtain ⟨h, hh, h3, h4⟩ := share_ok m h1 h2
  exact ⟨h, IntKind.u64.wrap (s + 11400714819323198485), by simp only [draw_stream_below.f, draw_Next.f, hm, Option.bind_some, hh], h3, h4⟩
theorem shuffle_l0 {n : Nat} (hn : n ≤ 1024) : ∀ (d k i : Nat) (acc : List Int), i + d = n → acc.length = i → d < k → draw_Shuffle.l0 k n i acc = some (acc ++ (List.range' i d).map Int.ofNat)
  | 0, k + 1, i, acc, h1, h2, _ => by rw [draw_Shuffle.l0, if_neg (by omega)]; simp
  | d + 1, k + 1, i, acc, h1, h2, h3 => by
    rw [draw_Shuffle.l0, if_pos (by omega), if_pos (by simp; omega), W_eq (by omega) (by omega)]
    have := shuffle_l0 hn d k (i + 1) (acc ++ [(i : Int)]) (by omega) (by simp [h2]) (by omega)
    rw [show ((i : Int) + 1) = ((i + 1 : Nat) : Int) by omega, this]
    simp [List.range'_succ]
theorem shuffle_l1 {z : List Int} (hz : z.length ≤ 1024) : ∀ (m : Nat) (o : List Int) (s : Int), m ≤ z.length → o.length = z.length → ∃ o' s', (∀ k, m < k → draw_Shuffle.l1 k z m o s = some (o', s')) ∧ o'.Perm o := by
  intro m
  induction m using Nat.strongRecOn with
  | _ m ih =>
    intro o s h1 h2
    by_cases hm : 1 < (m : Int)
    · obtain ⟨b, s', hb, b0, b1⟩ := below_ok s (n := (m : Int)) (by omega) (by omega)
      have hp := swap_perm (e := e_i64) o (i := b) (j := (m : Int) - 1) b0 (by omega) (by omega) (by omega)
      obtain ⟨o', s'', h4, h5⟩ := ih (m - 1) (by omega) ((o.set b.toNat (rd e_i64 o ((m : Int) - 1))).set (((m : Int) - 1)).toNat (rd e_i64 o b)) s' (by omega) (by simp [h2])
      refine ⟨o', s'', fun k hk => ?_, h5.trans hp⟩
      cases k with
      | zero => omega
      | succ k =>
        rw [draw_Shuffle.l1, if_pos hm, hb]
        simp only [Option.bind_some]
        rw [W_eq (by omega) (by omega), if_pos (by omega), if_pos (by omega), if_pos (by omega), if_pos b0, if_pos b1, if_pos (by omega), if_pos (by omega)]
        rw [show ((m : Int) - 1).toNat = m - 1 by omega] at h4 ⊢
        exact h4 k (by omega)
    · refine ⟨o, s, fun k hk => ?_, .refl _⟩
      cases k with
      | zero => omega
      | succ k => rw [draw_Shuffle.l1, if_neg hm]
/-- a shuffle is of the numbers below n -/
theorem shuffle_ok {n : Nat} (hn : n ≤ 1024) (s : Int) : ∃ s' o, (∀ k, n < k → draw_Shuffle.f k s n = some (s', o, 0)) ∧ o.Perm ((List.range n).map Int.ofNat) := by
  obtain ⟨o, s', h1, h2⟩ := shuffle_l1 (z := (List.range n).map Int.ofNat) (by simp; omega) n ((List.range n).map Int.ofNat) s (by simp) rfl
  refine ⟨s', o, fun k hk => ?_, h2⟩
  have h0 := shuffle_l0 hn n k 0 [] (by omega) rfl hk
  simp only [List.nil_append] at h0
  rw [← List.range_eq_range'] at h0
  rw [draw_Shuffle.f]
  have e1 : ¬ (n : Int) < 0 := by omega
  have e2 : ¬ (1024 : Int) < n := by omega
  simp only [e1, e2, if_false, decide_false, Option.bind_some]
  rw [if_neg (by simp)]
  have h0' : draw_Shuffle.l0 k n 0 [] = some ((List.range n).map Int.ofNat) := h0
  rw [h0']
  simp only [Option.bind_some, List.length_map, List.length_range, h1 k hk]
theorem ints_one (seed x : Int) : ∃ h, ∀ k, 1 < k → hash_Ints.f k seed [x] = some h := by
  obtain ⟨m, hm⟩ := mix_ok (IntKind.u64.wrap (seed + (IntKind.u64.wrap x)))
  refine ⟨m, fun k hk => ?_⟩
  match k, hk with
  | k + 2, _ =>
    have e1 : (0 : Int) < (([x] : List Int).length : Int) := by simp
    have e2 : ¬ (IntKind.i64.wrap (0 + 1)) < (([x] : List Int).length : Int) := by rw [W_eq (by omega) (by omega)]; simp
    have e3 : rd e_i64 [x] 0 = x := rfl
    simp only [hash_Ints.f, hash_Ints.l0, e1, e2, e3, if_true, if_false, Int.le_refl, hm, Option.bind_some]
/-- the order of a round -/
theorem order_ok {n : Nat} (hn : n ≤ 1024) (seed x : Int) : ∃ h s' o, (∀ k, n + 1 < k → hash_Ints.f k seed [x] = some h ∧ draw_Shuffle.f k h n = some (s', o, 0)) ∧ o.Perm ((List.range n).map Int.ofNat) := by
  obtain ⟨h, hh⟩ := ints_one seed x
  obtain ⟨s', o, ho, hp⟩ := shuffle_ok hn h
  exact ⟨h, s', o, fun k hk => ⟨hh k (by omega), ho k (by omega)⟩, hp⟩
end Go.Proofs.Ythlogangnppghaa.M

/- The page's hash and shuffle answer as the program's. -/
set_option linter.unusedVariables false
set_option linter.unusedSimpArgs false
namespace Go.Proofs.Ythlogangnppghaa.M
open Go Go.Proofs.Ythlogangnppghaa.Sl

theorem U_def (x : Int) : IntKind.u64.wrap x = x % 18446744073709551616 := IntKind.wrap_u64 x
theorem bt_one {x : Int} (h : 0 ≤ x) : bt_and .u64 x 1 = x % 2 := by
  obtain ⟨n, rfl⟩ := Int.eq_ofNat_of_zero_le h
  have e : (BitVec.ofInt 64 ((n : Nat) : Int) &&& BitVec.ofInt 64 1).toNat = n % 2 := by
    rw [BitVec.toNat_and, BitVec.ofInt_natCast, BitVec.toNat_ofNat, show (BitVec.ofInt 64 1).toNat = 1 from by decide, Nat.and_one_is_mod]
    omega
  show IntKind.u64.wrap (((BitVec.ofInt 64 ((n : Nat) : Int) &&& BitVec.ofInt 64 1).toNat : Nat) : Int) = _
  rw [e, U_def]; omega
theorem shr_eq {x : Int} {i : Nat} (hi : i ≤ 64) : sh_shr .u64 x (i : Int) = x / 2 ^ i := by
  unfold sh_shr
  simp only [Int.toNat_natCast, IntKind.bits]
  rw [Nat.min_eq_left hi, Int.fdiv_eq_ediv_of_nonneg _ (by exact Int.le_of_lt (Int.pow_pos (by omega)))]
theorem shl_eq {x : Int} {i : Nat} (hi : i ≤ 64) : sh_shl .u64 x (i : Int) = IntKind.u64.wrap (x * 2 ^ i) := by
  unfold sh_shl
  simp only [Int.toNat_natCast, IntKind.bits]
  rw [Nat.min_eq_left hi]
theorem U_add (x y : Int) : IntKind.u64.wrap (IntKind.u64.wrap x + IntKind.u64.wrap y) = IntKind.u64.wrap (x + y) := by
  simp only [U_def]; omega
theorem times_l0 (a b : Int) (hb : 0 ≤ b) : ∀ (m i k : Nat) (n : Int), i + m = 64 → m < k → n = IntKind.u64.wrap (a * (b % 2 ^ i)) → waybillref10_times.l0 k a b n i = some (IntKind.u64.wrap (a * (b % 2 ^ 64)))
  | 0, i, k + 1, n, h1, h2, h3 => by
    rw [waybillref10_times.l0, if_neg (by omega), h3]
    have : i = 64 := by omega
    subst this; rfl
  | m + 1, i, k + 1, n, h1, h2, h3 => by
    rw [waybillref10_times.l0, if_pos (by omega), if_neg (by omega), shr_eq (by omega), bt_one (Int.ediv_nonneg hb (by exact Int.le_of_lt (Int.pow_pos (by omega)))), shl_eq (by omega), W_eq (by omega) (by omega)]
    have hp : (2 : Int) ^ (i + 1) = 2 ^ i * 2 := Int.pow_succ 2 i
    have hmod : b % 2 ^ (i + 1) = b % 2 ^ i + 2 ^ i * (b / 2 ^ i % 2) := by
      obtain ⟨n, rfl⟩ := Int.eq_ofNat_of_zero_le hb
      have := @Nat.mod_mul (2 ^ i) 2 n
      rw [hp]; exact_mod_cast this
    have key : ∀ n', n' = IntKind.u64.wrap (a * (b % 2 ^ (i + 1))) → waybillref10_times.l0 k a b n' ((i : Int) + 1) = some (IntKind.u64.wrap (a * (b % 2 ^ 64))) := fun n' h => by
      have := times_l0 a b hb m (i + 1) k n' (by omega) (by omega) h
      rw [show ((i : Int) + 1) = ((i + 1 : Nat) : Int) by omega]; exact this
    rcases Int.emod_two_eq (b / 2 ^ i) with h0 | h0
    · rw [if_neg (by omega)]
      simp only [Option.bind_some]
      refine key n ?_
      rw [h3, hmod, h0]; simp
    · rw [if_pos h0]
      simp only [Option.bind_some]
      refine key _ ?_
      rw [h3, U_add, hmod, h0, Int.mul_one, Int.mul_add]
theorem times_ok (a b : Int) (hb : 0 ≤ b) (hb2 : b < 18446744073709551616) {k : Nat} (hk : 64 < k) : waybillref10_times.f k a b = some (IntKind.u64.wrap (a * b)) := by
  have := times_l0 a b hb 64 0 k 0 (by omega) hk (by simp [U_def, Int.emod_one])
  have this' : waybillref10_times.l0 k a b 0 0 = some (IntKind.u64.wrap (a * (b % 2 ^ 64))) := this
  rw [waybillref10_times.f, this']
  simp only [Option.bind_some]
  rw [Int.emod_eq_of_lt hb (by simpa using hb2)]
theorem mix_eq (x : Int) {k : Nat} (hk : 64 < k) : waybillref10_Mix.f k x = hash_Mix.f x := by
  rw [waybillref10_Mix.f, hash_Mix.f, times_ok _ _ (by omega) (by omega) hk]
  simp only [Option.bind_some, hash_fold.f]
  rw [times_ok _ _ (by omega) (by omega) hk]
  simp only [Option.bind_some]
theorem mix_range {x m : Int} (h : hash_Mix.f x = some m) : 0 ≤ m ∧ m < 18446744073709551616 := by
  simp only [hash_Mix.f, hash_fold.f, Option.bind_some, Option.some.injEq] at h
  subst h
  exact ⟨U_lo _, U_hi _⟩
theorem share_eq {x n : Int} (h0 : 0 ≤ x) (h1 : x < 18446744073709551616) (hn : 1 ≤ n) (hn2 : n ≤ 1048576) : waybillref10_Share.f x n = hash_Share.f x n := by
  have e1 : ¬ n < 1 := by omega
  have e2 : ¬ 1048576 < n := by omega
  have hu : IntKind.u64.wrap n = n := U_eq (by omega) (by omega)
  have hs : sh_shr .u64 x 32 = x / 4294967296 := by have := shr_eq (x := x) (i := 32) (by omega); simpa using this
  have hq0 : 0 ≤ x / 4294967296 := by omega
  have hq1 : x / 4294967296 < 4294967296 := by omega
  have hs2 : sh_shl .u64 (x / 4294967296) 32 = x / 4294967296 * 4294967296 := by
    have := shl_eq (x := x / 4294967296) (i := 32) (by omega)
    simp only [Int.reducePow] at this
    rw [show (32 : Int) = ((32 : Nat) : Int) from rfl, this, U_eq (by omega) (by omega)]
  generalize x / 4294967296 = q at hq0 hq1 hs hs2
  have hqn0 : 0 ≤ q * n := Int.mul_nonneg hq0 (by omega)
  have hqn1 : q * n ≤ 4294967296 * 1048576 := Int.mul_le_mul (by omega) hn2 (by omega) (by omega)
  have hs3 : sh_shr .u64 (q * n) 32 = q * n / 4294967296 := by have := shr_eq (x := q * n) (i := 32) (by omega); simpa using this
  rw [waybillref10_Share.f, hash_Share.f]
  simp only [e1, e2, if_false, decide_false, Option.bind_some, bits_Mul64.f, hs, hs2, hu]
  rw [if_neg (by simp), if_neg (by simp), if_pos ⟨by omega, by omega, by omega, by omega⟩]
  simp only [Option.bind_some]
  rw [U_eq (by omega) (by omega), hs3]
  congr 3
  rw [show q * 4294967296 * n = q * n * 4294967296 by rw [Int.mul_assoc, Int.mul_comm 4294967296 n, ← Int.mul_assoc], show (18446744073709551616 : Int) = 4294967296 * 4294967296 from rfl, Int.mul_ediv_mul_of_pos_left _ _ (by omega)]
theorem one_eq (s : Int) {n : Int} (h1 : 1 ≤ n) (h2 : n ≤ 1048576) {b s' : Int} (h : draw_stream_below.f s n = some (b, s')) {k : Nat} (hk : 64 < k) : waybillref11_one.f k s n = some (s', b) := by
  obtain ⟨m, hm⟩ := mix_ok (IntKind.u64.wrap (s + 11400714819323198485))
  have hr := mix_range hm
  obtain ⟨q, hq, -⟩ := share_ok m h1 h2
  rw [draw_stream_below.f, draw_Next.f, hm] at h
  simp only [Option.bind_some, hq, Option.some.injEq, Prod.mk.injEq] at h
  obtain ⟨rfl, rfl⟩ := h
  rw [waybillref11_one.f, waybillref11_Next.f, mix_eq _ hk, hm]
  simp only [Option.bind_some]
  rw [share_eq hr.1 hr.2 h1 h2, hq]
  rfl
theorem set_swap (o : List Int) (i j : Nat) (x y : Int) (h : i = j → x = y) : (o.set i x).set j y = (o.set j y).set i x := by
  by_cases e : i = j
  · subst e; rw [h rfl]
  · exact List.set_comm _ _ e
theorem shuffle2_l1 {z : List Int} (hz : z.length ≤ 1024) : ∀ (m : Nat) (o : List Int) (s : Int), m ≤ z.length → o.length = z.length → ∃ o' s', (∀ k, m < k → draw_Shuffle.l1 k z m o s = some (o', s')) ∧ o'.Perm o ∧ ∀ k, m + 70 < k → waybillref11_Shuffle.l1 k z s ((m : Int) - 1) o = some (s', o') := by
  intro m
  induction m using Nat.strongRecOn with
  | _ m ih =>
    intro o s h1 h2
    by_cases hm : 1 < (m : Int)
    · obtain ⟨b, s', hb, b0, b1⟩ := below_ok s (n := (m : Int)) (by omega) (by omega)
      have hp := swap_perm (e := e_i64) o (i := b) (j := (m : Int) - 1) b0 (by omega) (by omega) (by omega)
      obtain ⟨o', s'', h4, h5, h6⟩ := ih (m - 1) (by omega) ((o.set b.toNat (rd e_i64 o ((m : Int) - 1))).set (((m : Int) - 1)).toNat (rd e_i64 o b)) s' (by omega) (by simp [h2])
      refine ⟨o', s'', fun k hk => ?_, h5.trans hp, fun k hk => ?_⟩
      · cases k with
        | zero => omega
        | succ k =>
          rw [draw_Shuffle.l1, if_pos hm, hb]
          simp only [Option.bind_some]
          rw [W_eq (by omega) (by omega), if_pos (by omega), if_pos (by omega), if_pos (by omega), if_pos b0, if_pos b1, if_pos (by omega), if_pos (by omega)]
          rw [show ((m : Int) - 1).toNat = m - 1 by omega] at h4 ⊢
          exact h4 k (by omega)
      · cases k with
        | zero => omega
        | succ k =>
          rw [waybillref11_Shuffle.l1, if_pos (by omega), W_eq (by omega) (by omega), show (m : Int) - 1 + 1 = m by omega, one_eq s (by omega) (by omega) hb (by omega)]
          simp only [Option.bind_some]
          rw [if_pos b0, if_pos (by omega), if_pos (by omega), if_pos (by omega), W_eq (by omega) (by omega)]
          rw [set_swap o _ _ _ _ (fun e => by congr 1; omega)]
          have := h6 k (by omega)
          rwa [show ((m - 1 : Nat) : Int) - 1 = (m : Int) - 1 - 1 by omega] at this
    · refine ⟨o, s, fun k hk => ?_, .refl _, fun k hk => ?_⟩
      · cases k with
        | zero => omega
        | succ k => rw [draw_Shuffle.l1, if_neg hm]
      · cases k with
        | zero => omega
        | succ k => rw [waybillref11_Shuffle.l1, if_neg (by omega)]
theorem shuffle_r0 {n : Nat} (hn : n ≤ 1024) : ∀ (d k i : Nat) (acc : List Int), i + d = n → acc.length = i → d < k → waybillref11_Shuffle.l0 k n i acc = some (acc ++ (List.range' i d).map Int.ofNat)
  | 0, k + 1, i, acc, h1, h2, _ => by rw [waybillref11_Shuffle.l0, if_neg (by omega)]; simp
  | d + 1, k + 1, i, acc, h1, h2, h3 => by
    rw [waybillref11_Shuffle.l0, if_pos (by omega), if_pos (by simp; omega), W_eq (by omega) (by omega)]
    have := shuffle_r0 hn d k (i + 1) (acc ++ [(i : Int)]) (by omega) (by simp [h2]) (by omega)
    rw [show ((i : Int) + 1) = ((i + 1 : Nat) : Int) by omega, this]
    simp [List.range'_succ]
theorem ints2 (seed x : Int) : ∃ h, ∀ k, 70 < k → hash_Ints.f k seed [x] = some h ∧ waybillref10_Ints.f k seed [x] = some h := by
  obtain ⟨m, hm⟩ := mix_ok (IntKind.u64.wrap (seed + (IntKind.u64.wrap x)))
  refine ⟨m, fun k hk => ?_⟩
  match k, hk with
  | k + 2, hk =>
    have e1 : (0 : Int) < (([x] : List Int).length : Int) := by simp
    have e2 : ¬ (IntKind.i64.wrap (0 + 1)) < (([x] : List Int).length : Int) := by rw [W_eq (by omega) (by omega)]; simp
    have e3 : rd e_i64 [x] 0 = x := rfl
    have e4 := mix_eq (IntKind.u64.wrap (seed + (IntKind.u64.wrap x))) (k := k + 1) (by omega)
    constructor
    · simp only [hash_Ints.f, hash_Ints.l0, e1, e2, e3, if_true, if_false, Int.le_refl, hm, Option.bind_some]
    · simp only [waybillref10_Ints.f, waybillref10_Ints.l0, e1, e2, e3, if_true, if_false, Int.le_refl, e4, hm, Option.bind_some]
/-- the order of a round, by both -/
theorem order2 {n : Nat} (hn : n ≤ 1024) (seed x : Int) : ∃ h s' o, (∀ k, n + 80 < k → hash_Ints.f k seed [x] = some h ∧ draw_Shuffle.f k h n = some (s', o, 0) ∧ waybillref10_Ints.f k seed [x] = some h ∧ waybillref11_Shuffle.f k h n = some (s', o, 0)) ∧ o.Perm ((List.range n).map Int.ofNat) := by
  obtain ⟨h, hh⟩ := ints2 seed x
  obtain ⟨o, s', h1, h2, h3⟩ := shuffle2_l1 (z := (List.range n).map Int.ofNat) (by simp; omega) n ((List.range n).map Int.ofNat) h (by simp) rfl
  refine ⟨h, s', o, fun k hk => ⟨(hh k (by omega)).1, ?_, (hh k (by omega)).2, ?_⟩, h2⟩
  · have h0 := shuffle_l0 hn n k 0 [] (by omega) rfl (by omega)
    simp only [List.nil_append] at h0
    rw [← List.range_eq_range'] at h0
    rw [draw_Shuffle.f]
    have e1 : ¬ (n : Int) < 0 := by omega
    have e2 : ¬ (1024 : Int) < n := by omega
    simp only [e1, e2, if_false, decide_false, Option.bind_some]
    rw [if_neg (by simp)]
    have h0' : draw_Shuffle.l0 k n 0 [] = some ((List.range n).map Int.ofNat) := h0
    rw [h0']
    simp only [Option.bind_some, List.length_map, List.length_range, h1 k (by omega)]
  · have h0 := shuffle_r0 hn n k 0 [] (by omega) rfl (by omega)
    simp only [List.nil_append] at h0
    rw [← List.range_eq_range'] at h0
    rw [waybillref11_Shuffle.f]
    have e1 : ¬ (n : Int) < 0 := by omega
    have e2 : ¬ (1024 : Int) < n := by omega
    simp only [e1, e2, if_false, decide_false, Option.bind_some]
    rw [if_neg (by simp)]
    have h0' : waybillref11_Shuffle.l0 k n 0 [] = some ((List.range n).map Int.ofNat) := h0
    rw [h0']
    simp only [Option.bind_some]
    rw [W_eq (by omega) (by omega), h3 k (by omega)]
    rfl
end Go.Proofs.Ythlogangnppghaa.M

/- A client's subset: the round's order, cut; what the functions of the translation answer. -/
set_option linter.unusedVariables false
set_option linter.unusedSimpArgs false
namespace Go.Proofs.Ythlogangnppghaa.M
open Go Go.Proofs.Ythlogangnppghaa.Sl

theorem check_l0 (d : subset_dealer) (hd : d.ids.length ≤ 32) : ∀ (m i : Nat) (last : Int), i + m = d.ids.length → ∃ e, (∀ k, m < k → subset_dealer_check.l0 k d last i = some e) ∧ (e = 0 → (∀ x ∈ d.ids.drop i, last < x) ∧ (d.ids.drop i).Pairwise (· < ·))
  | 0, i, last, h1 => by
    refine ⟨0, fun k hk => ?_, fun _ => ?_⟩
    · cases k with
      | zero => omega
      | succ k => rw [subset_dealer_check.l0, if_neg (by omega)]
    · rw [List.drop_of_length_le (by omega)]; simp
  | m + 1, i, last, h1 => by
    have hlt : i < d.ids.length := by omega
    have hr : rd e_i64 d.ids (i : Int) = d.ids[i] := rd_nat _ _ i hlt
    by_cases hx : d.ids[i] ≤ last
    · refine ⟨9, fun k hk => ?_, fun h => absurd h (by omega)⟩
      cases k with
      | zero => omega
      | succ k => rw [subset_dealer_check.l0, if_pos (by omega), if_pos (by omega), hr, if_pos hx]
    · obtain ⟨e, h2, h3⟩ := check_l0 d hd m (i + 1) d.ids[i] (by omega)
      refine ⟨e, fun k hk => ?_, fun h => ?_⟩
      · cases k with
        | zero => omega
        | succ k =>
          rw [subset_dealer_check.l0, if_pos (by omega), if_pos (by omega), hr, if_neg hx, W_eq (by omega) (by omega)]
          exact h2 k (by omega)
      · obtain ⟨h4, h5⟩ := h3 h
        rw [List.drop_eq_getElem_cons hlt]
        refine ⟨?_, List.pairwise_cons.2 ⟨h4, h5⟩⟩
        intro x hx'
        rcases List.mem_cons.1 hx' with rfl | h'
        · omega
        · have := h4 x h'; omega
theorem check_ok (d : subset_dealer) (hd : d.ids.length ≤ 32) : ∃ e, (∀ k, 32 < k → subset_dealer_check.f k d = some e) ∧ (e = 0 → d.ids.Pairwise (· < ·)) := by
  obtain ⟨e, h1, h2⟩ := check_l0 d hd d.ids.length 0 (-1) (by omega)
  refine ⟨e, fun k hk => ?_, fun h => ?_⟩
  · rw [subset_dealer_check.f, if_neg (by omega)]; exact h1 k (by omega)
  · simpa using (h2 h).2
/-- a client's round, where there are more backends than a subset has -/
theorem round_ok {n c s : Nat} (hn : n ≤ 32) (hs : 1 ≤ s) (hsn : s < n) (hc : c ≤ 1048576) : subset_Round.f n c s = some (((c / (n / s) : Nat) : Int), ((c % (n / s) : Nat) : Int), 0) := by
  have e1 : ¬ (n : Int) < 0 := by omega
  have e2 : ¬ (32 : Int) < n := by omega
  have e3 : ¬ (c : Int) < 0 := by omega
  have e4 : ¬ (1048576 : Int) < c := by omega
  have e5 : ¬ (s : Int) < 1 := by omega
  have e6 : ¬ (32 : Int) < s := by omega
  have e7 : ¬ (n : Int) ≤ s := by omega
  have e8 : ¬ (s : Int) = 0 := by omega
  have hd : 1 ≤ n / s := (Nat.one_le_div_iff (by omega)).2 (by omega)
  have hdn : n / s ≤ n := Nat.div_le_self _ _
  have hq : (n : Int).tdiv s = (n / s : Nat) := by rw [Int.tdiv_eq_ediv_of_nonneg (by omega)]; rfl
  have hcq : c / (n / s) ≤ c := Nat.div_le_self _ _
  rw [subset_Round.f]
  simp only [e1, e2, e3, e4, e5, e6, if_false, decide_false, Option.bind_some]
  rw [if_neg (by simp), if_neg e7, if_neg e8, hq, W_eq (by omega) (by omega), if_neg (by omega)]
  rw [Int.tdiv_eq_ediv_of_nonneg (by omega), Int.tmod_eq_emod_of_nonneg (by omega)]
  have e9 : (c : Int) / ((n / s : Nat) : Int) = ((c / (n / s) : Nat) : Int) := (Int.natCast_ediv _ _).symm
  have e10 : (c : Int) % ((n / s : Nat) : Int) = ((c % (n / s) : Nat) : Int) := (Int.natCast_emod _ _).symm
  rw [e9, e10]
  generalize c / (n / s) = q at hcq ⊢
  generalize c % (n / s) = q2
  rw [W_eq (by omega) (by omega)]
theorem hand_l0 (d : subset_dealer) (p : subset_place) (o : List Int) (b : List Int) (hb : b = ((o.take (Int.toNat (IntKind.i64.wrap ((IntKind.i64.wrap (p.at_ + 1)) * d.size)))).drop (Int.toNat (IntKind.i64.wrap (p.at_ * d.size)))))
    (hl : b.length ≤ 1024) (ho : ∀ x ∈ b, 0 ≤ x ∧ x < (d.ids.length : Int)) : ∀ (m i k : Nat) (acc : List Int), i + m = b.length → acc.length = i → m < k → subset_dealer_hand.l0 k d p o i acc = some (acc ++ (b.drop i).map (rd e_i64 d.ids))
  | 0, i, k + 1, acc, h1, h2, _ => by
    rw [subset_dealer_hand.l0, ← hb, if_neg (by omega), List.drop_of_length_le (by omega)]; simp
  | m + 1, i, k + 1, acc, h1, h2, h3 => by
    have hlt : i < b.length := by omega
    have hr : rd e_i64 b (i : Int) = b[i] := rd_nat _ _ i hlt
    have hx := ho b[i] (List.getElem_mem hlt)
    rw [subset_dealer_hand.l0, ← hb, if_pos (by omega), if_pos (by omega), hr, if_pos hx.1, if_pos hx.2, if_pos (by simp; omega), W_eq (by omega) (by omega)]
    have := hand_l0 d p o b hb hl ho m (i + 1) k (acc ++ [rd e_i64 d.ids b[i]]) (by omega) (by simp [h2]) (by omega)
    rw [show ((i : Int) + 1) = ((i + 1 : Nat) : Int) by omega, this, List.drop_eq_getElem_cons hlt]
    simp only [List.append_assoc, List.cons_append, List.nil_append, List.map_cons]
/-- the order of a round, told without how long it is looked for -/
theorem ord_ex (n : Nat) (seed r : Int) : ∃ o : List Int, n ≤ 1024 → o.Perm ((List.range n).map Int.ofNat) ∧ ∃ h s', ∀ k, n + 1 < k → hash_Ints.f k seed [r] = some h ∧ draw_Shuffle.f k h n = some (s', o, 0) := by
  by_cases hn : n ≤ 1024
  · obtain ⟨h, s', o, h1, h2⟩ := order_ok hn seed r
    exact ⟨o, fun _ => ⟨h2, h, s', h1⟩⟩
  · exact ⟨[], fun h => absurd h hn⟩
noncomputable def ord (n : Nat) (seed r : Int) : List Int := Classical.choose (ord_ex n seed r)
theorem ord_perm {n : Nat} (hn : n ≤ 1024) (seed r : Int) : (ord n seed r).Perm ((List.range n).map Int.ofNat) := (Classical.choose_spec (ord_ex n seed r) hn).1
theorem ord_runs {n : Nat} (hn : n ≤ 1024) (seed r : Int) : ∃ h s', ∀ k, n + 1 < k → hash_Ints.f k seed [r] = some h ∧ draw_Shuffle.f k h n = some (s', ord n seed r, 0) := (Classical.choose_spec (ord_ex n seed r) hn).2
def block (o : List Int) (a s : Nat) : List Int := (o.take ((a + 1) * s)).drop (a * s)
theorem hand_ok (ids : List Int) (s : Nat) (seed : Int) (hn : ids.length ≤ 32) (hs : 1 ≤ s) (hsn : s < ids.length) {r a : Nat} (ha : a < ids.length / s) :
    ∃ l, (∀ k, 40 < k → subset_dealer_hand.f k ⟨ids, s, seed⟩ ⟨r, a⟩ = some l) ∧ l.Perm ((block (ord ids.length seed r) a s).map (rd e_i64 ids)) := by
  have hm : (a + 1) * s ≤ ids.length := by
    have : (a + 1) * s ≤ (ids.length / s) * s := Nat.mul_le_mul_right _ ha
    exact Nat.le_trans this (Nat.div_mul_le_self _ _)
  have hm' : a * s + s = (a + 1) * s := by rw [Nat.add_mul, Nat.one_mul]
  have hp := ord_perm (n := ids.length) (by omega) seed r
  obtain ⟨h, s', hrun⟩ := ord_runs (n := ids.length) (by omega) seed r
  have hol : (ord ids.length seed r).length = ids.length := by rw [hp.length_eq]; simp
  have w1 : IntKind.i64.wrap ((a : Int) * s) = ((a * s : Nat) : Int) := by rw [← Int.natCast_mul]; exact W_eq (by omega) (by omega)
  have w2 : IntKind.i64.wrap (IntKind.i64.wrap ((a : Int) + 1) * s) = (((a + 1) * s : Nat) : Int) := by
    have : a < 32 := by have := Nat.div_le_self ids.length s; omega
    rw [W_eq (x := (a : Int) + 1) (by omega) (by omega), show ((a : Int) + 1) = ((a + 1 : Nat) : Int) by omega, ← Int.natCast_mul]; exact W_eq (by omega) (by omega)
  have hblk : block (ord ids.length seed r) a s = (((ord ids.length seed r).take (Int.toNat (IntKind.i64.wrap ((IntKind.i64.wrap (((⟨r, a⟩ : subset_place)).at_ + 1)) * (⟨ids, s, seed⟩ : subset_dealer).size)))).drop (Int.toNat (IntKind.i64.wrap ((⟨r, a⟩ : subset_place).at_ * (⟨ids, s, seed⟩ : subset_dealer).size)))) := by
    simp only [w1, w2, Int.toNat_natCast]; rfl
  have hbl : (block (ord ids.length seed r) a s).length = s := by
    rw [block, List.length_drop, List.length_take, hol]; omega
  have hbm : ∀ x ∈ block (ord ids.length seed r) a s, 0 ≤ x ∧ x < (ids.length : Int) := fun x hx => by
    have h1 : x ∈ ord ids.length seed r := List.mem_of_mem_take (List.mem_of_mem_drop hx)
    have h2 := hp.mem_iff.1 h1
    obtain ⟨y, hy, rfl⟩ := List.mem_map.1 h2
    have := List.mem_range.1 hy
    exact ⟨by simp, by simpa using this⟩
  refine ⟨((block (ord ids.length seed r) a s).map (rd e_i64 ids)).mergeSort fun a b => decide (a ≤ b), fun k hk => ?_, ?_⟩
  rotate_left
  · exact List.mergeSort_perm _ _
  · have h0 := hand_l0 ⟨ids, s, seed⟩ ⟨r, a⟩ (ord ids.length seed r) _ hblk (by omega) hbm s 0 k [] (by omega) rfl (by omega)
    simp only [List.drop_zero, List.nil_append] at h0
    rw [subset_dealer_hand.f, if_neg (by simp; omega)]
    obtain ⟨q1, q2⟩ := hrun k (by omega)
    simp only [q1, q2, Option.bind_some, w1, w2]
    rw [if_pos (by omega), if_pos (by omega), if_pos (by omega)]
    have h0' : subset_dealer_hand.l0 k ⟨ids, s, seed⟩ ⟨r, a⟩ (ord ids.length seed r) 0 [] = some ((block (ord ids.length seed r) a s).map (rd e_i64 ids)) := h0
    rw [h0']
    simp only [Option.bind_some, slices_Sort_int_int.f]
    rw [if_pos (by simp [hbl]; omega)]
    rfl
theorem of_ok (ids : List Int) (s : Nat) (seed : Int) (hn : ids.length ≤ 32) (hs : 1 ≤ s) (hsn : s < ids.length) (hck : ∀ k, 32 < k → subset_dealer_check.f k ⟨ids, s, seed⟩ = some 0) {c : Nat} (hc : c ≤ 1048576) :
    ∃ l, (∀ k, 40 < k → subset_dealer_of.f k ⟨ids, s, seed⟩ c = some (l, 0)) ∧ l.Perm ((block (ord ids.length seed (c / (ids.length / s) : Nat)) (c % (ids.length / s)) s).map (rd e_i64 ids)) := by
  have hd : 1 ≤ ids.length / s := (Nat.one_le_div_iff (by omega)).2 (by omega)
  obtain ⟨l, h1, h2⟩ := hand_ok ids s seed hn hs hsn (r := c / (ids.length / s)) (a := c % (ids.length / s)) (Nat.mod_lt _ (by omega))
  refine ⟨l, fun k hk => ?_, h2⟩
  rw [subset_dealer_of.f, hck k (by omega)]
  simp only [Option.bind_some, if_true, round_ok hn hs hsn hc, h1 k hk]
end Go.Proofs.Ythlogangnppghaa.M

/- The page's subset answers as the program's. -/
set_option linter.unusedVariables false
set_option linter.unusedSimpArgs false
namespace Go.Proofs.Ythlogangnppghaa.M
open Go Go.Proofs.Ythlogangnppghaa.Sl

/-- sorted lists of the same elements are one list -/
theorem sorted_eq : ∀ (l m : List Int), l.Perm m → l.Pairwise (· ≤ ·) → m.Pairwise (· ≤ ·) → l = m
  | [], m, h, _, _ => by have := h.length_eq; exact (List.eq_nil_of_length_eq_zero this.symm).symm
  | x :: l, [], h, _, _ => by have := h.length_eq; simp at this
  | x :: l, y :: m, h, h1, h2 => by
    obtain ⟨a1, a2⟩ := List.pairwise_cons.1 h1
    obtain ⟨b1, b2⟩ := List.pairwise_cons.1 h2
    have hxy : x = y := by
      have h3 : x ∈ y :: m := h.mem_iff.1 List.mem_cons_self
      have h4 : y ∈ x :: l := h.mem_iff.2 List.mem_cons_self
      rcases List.mem_cons.1 h3 with e | e
      · exact e
      · rcases List.mem_cons.1 h4 with e' | e'
        · exact e'.symm
        · have := b1 x e; have := a1 y e'; omega
    subst hxy
    rw [sorted_eq l m (List.perm_cons x |>.1 h) a2 b2]
theorem mergeSort_le (l : List Int) : (l.mergeSort fun a b => decide (a ≤ b)).Pairwise (· ≤ ·) :=
  (List.pairwise_mergeSort (le := fun a b : Int => decide (a ≤ b)) (fun a b c h1 h2 => by simp at *; omega) (fun a b => by simp; omega) _).imp fun h => by simpa using h
/-- one more into a sorted list -/
theorem sorted_l1 (l acc : List Int) (i : Nat) (hi : i < l.length) (hl : l.length < 9000000000000000000) (ha : acc.length < 9000000000000000000) (hs : acc.Pairwise (· ≤ ·)) : ∀ (at_ k : Nat) (y : Int), at_ ≤ acc.length → at_ < k → (∀ x ∈ acc.drop at_, l[i] < x) →
    ∃ (p : Nat) (z : Int), waybillref13_sorted.l1 k l i acc at_ (acc.take at_ ++ y :: acc.drop at_) = some ((p : Int), acc.take p ++ z :: acc.drop p) ∧ p ≤ acc.length ∧ (∀ x ∈ acc.drop p, l[i] < x) ∧ ∀ x ∈ acc.take p, x ≤ l[i]
  | 0, k + 1, y, h1, h2, h3 => by
    refine ⟨0, y, ?_, by omega, h3, by simp⟩
    rw [waybillref13_sorted.l1, if_neg (by omega)]
    simp
  | at_ + 1, k + 1, y, h1, h2, h3 => by
    have hr : rd e_i64 l (i : Int) = l[i] := rd_nat _ _ i hi
    have hlen : (acc ++ [l[i]]).length = acc.length + 1 := by simp
    have hat : at_ < acc.length := by omega
    have hrd : rd e_i64 (acc.take (at_ + 1) ++ y :: acc.drop (at_ + 1)) (at_ : Int) = acc[at_] := by
      have hlt : at_ < (acc.take (at_ + 1) ++ y :: acc.drop (at_ + 1)).length := by simp; omega
      rw [rd_nat _ _ at_ hlt, List.getElem_append_left (by simp; omega), List.getElem_take]
    rw [waybillref13_sorted.l1, if_pos (by omega), show (((at_ + 1 : Nat) : Int) - 1) = (at_ : Int) by omega, W_eq (by omega) (by omega), hr, hrd]
    rw [if_pos (by omega), if_pos (by rw [hlen]; omega), if_pos (by omega), if_pos (by omega)]
    simp only [Option.bind_some, decide_eq_true_eq]
    by_cases hx : l[i] < acc[at_]
    · rw [if_pos hx, if_pos (by omega), if_pos (by rw [hlen]; omega), if_pos (by omega), if_pos (by rw [hlen]; omega)]
      have hset : (acc.take (at_ + 1) ++ y :: acc.drop (at_ + 1)).set (Int.toNat ((at_ + 1 : Nat) : Int)) acc[at_] = acc.take at_ ++ acc[at_] :: acc.drop at_ := by
        rw [Int.toNat_natCast, List.set_append_right _ _ (by simp; omega)]
        have : at_ + 1 - (acc.take (at_ + 1)).length = 0 := by rw [List.length_take]; omega
        rw [this, List.set_cons_zero, List.take_succ_eq_append_getElem hat, List.drop_eq_getElem_cons hat]
        simp only [List.append_assoc, List.cons_append, List.nil_append]
      rw [hset]
      exact sorted_l1 l acc i hi hl ha hs at_ k acc[at_] (by omega) (by omega) (fun x hx' => by
        rw [List.drop_eq_getElem_cons hat] at hx'
        rcases List.mem_cons.1 hx' with rfl | h
        · exact hx
        · exact h3 x h)
    · rw [if_neg hx]
      refine ⟨at_ + 1, y, rfl, h1, h3, fun x hx' => ?_⟩
      obtain ⟨j, hj, rfl⟩ := List.getElem_of_mem hx'
      rw [List.getElem_take]
      have hj' : j < at_ + 1 := by rw [List.length_take] at hj; omega
      rcases Nat.lt_or_ge j at_ with h | h
      · have := List.pairwise_iff_getElem.1 hs j at_ (by omega) hat h; omega
      · have : j = at_ := by omega
        subst this; omega
theorem sorted_l0 (l : List Int) (hl : l.length < 17592186044416) : ∀ (m i k : Nat) (acc : List Int), i + m = l.length → acc.length = i → acc.Pairwise (· ≤ ·) → l.length + 2 + m < k → ∃ s, waybillref13_sorted.l0 k l i acc = some s ∧ s.Perm (acc ++ l.drop i) ∧ s.Pairwise (· ≤ ·)
  | 0, i, k + 1, acc, h1, h2, h3, h4 => by
    refine ⟨acc, by rw [waybillref13_sorted.l0, if_neg (by omega)], ?_, h3⟩
    rw [List.drop_of_length_le (by omega), List.append_nil]
  | m + 1, i, k + 1, acc, h1, h2, h3, h4 => by
    have hlt : i < l.length := by omega
    have hr : rd e_i64 l (i : Int) = l[i] := rd_nat _ _ i hlt
    obtain ⟨p, z, q1, q2, q3, q4⟩ := sorted_l1 l acc i hlt (by omega) (by omega) h3 acc.length k l[i] (Nat.le_refl _) (by omega) (by rw [List.drop_length]; simp)
    rw [List.take_length, List.drop_length] at q1
    have hlen : (acc ++ [l[i]]).length = acc.length + 1 := by simp
    rw [waybillref13_sorted.l0, if_pos (by omega), if_pos (by omega), hr, if_pos (by simp; omega), q1]
    simp only [Option.bind_some]
    rw [if_pos (by omega), if_pos (by rw [hlen]; omega)]
    simp only [Option.bind_some, Int.toNat_natCast]
    have hset : (acc.take p ++ z :: acc.drop p).set p l[i] = acc.take p ++ l[i] :: acc.drop p := by
      rw [List.set_append_right _ _ (by simp; omega)]
      have : p - (acc.take p).length = 0 := by rw [List.length_take]; omega
      rw [this, List.set_cons_zero]
    rw [hset, W_eq (by omega) (by omega)]
    have hpw : (acc.take p ++ l[i] :: acc.drop p).Pairwise (· ≤ ·) := by
      rw [← List.take_append_drop p acc, List.pairwise_append] at h3
      rw [List.pairwise_append, List.pairwise_cons]
      refine ⟨h3.1, ⟨fun x hx => by have := q3 x hx; omega, h3.2.1⟩, fun x hx y hy => ?_⟩
      rcases List.mem_cons.1 hy with rfl | hy
      · exact q4 x hx
      · exact h3.2.2 x hx y hy
    obtain ⟨s, s1, s2, s3⟩ := sorted_l0 l hl m (i + 1) k (acc.take p ++ l[i] :: acc.drop p) (by omega) (by simp; omega) hpw (by omega)
    refine ⟨s, by rw [show ((i : Int) + 1) = ((i + 1 : Nat) : Int) by omega]; exact s1, s2.trans ?_, s3⟩
    rw [List.drop_eq_getElem_cons hlt]
    have e1 : (acc.take p ++ l[i] :: acc.drop p).Perm (l[i] :: acc) := by
      have := List.perm_middle (a := l[i]) (l₁ := acc.take p) (l₂ := acc.drop p)
      rwa [List.take_append_drop] at this
    have e2 : (acc ++ l[i] :: l.drop (i + 1)).Perm (l[i] :: acc ++ l.drop (i + 1)) := List.perm_middle
    exact (e1.append_right _).trans e2.symm
theorem sorted_ok (l : List Int) (hl : l.length < 17592186044416) {k : Nat} (hk : 2 * l.length + 2 < k) : waybillref13_sorted.f k l = some (l.mergeSort fun a b => decide (a ≤ b)) := by
  obtain ⟨s, h1, h2, h3⟩ := sorted_l0 l hl l.length 0 k [] (by omega) rfl List.Pairwise.nil (by omega)
  have h1' : waybillref13_sorted.l0 k l 0 [] = some s := h1
  rw [waybillref13_sorted.f, h1']
  simp only [Option.bind_some, Option.some.injEq]
  refine sorted_eq _ _ ?_ h3 (mergeSort_le l)
  exact h2.trans (by simpa using (List.mergeSort_perm l _).symm)
def Rise (l : List Int) : Prop := (∀ x ∈ l, 0 ≤ x) ∧ l.Pairwise (· < ·)
instance (l : List Int) : Decidable (Rise l) := inferInstanceAs (Decidable (_ ∧ _))
theorem check_l0' (d : subset_dealer) (hd : d.ids.length ≤ 32) : ∀ (m i k : Nat) (last : Int), i + m = d.ids.length → m < k → subset_dealer_check.l0 k d last i = some (if (∀ x ∈ d.ids.drop i, last < x) ∧ (d.ids.drop i).Pairwise (· < ·) then 0 else 9)
  | 0, i, k + 1, last, h1, h2 => by
    rw [subset_dealer_check.l0, if_neg (by omega), List.drop_of_length_le (by omega), if_pos (by simp)]
  | m + 1, i, k + 1, last, h1, h2 => by
    have hlt : i < d.ids.length := by omega
    have hr : rd e_i64 d.ids (i : Int) = d.ids[i] := rd_nat _ _ i hlt
    rw [subset_dealer_check.l0, if_pos (by omega), if_pos (by omega), hr, List.drop_eq_getElem_cons hlt]
    by_cases hx : d.ids[i] ≤ last
    · rw [if_pos hx, if_neg (fun h => by have := h.1 d.ids[i] List.mem_cons_self; omega)]
    · rw [if_neg hx, W_eq (by omega) (by omega), show ((i : Int) + 1) = ((i + 1 : Nat) : Int) by omega, check_l0' d hd m (i + 1) k d.ids[i] (by omega) (by omega)]
      congr 1
      have : ((∀ x ∈ d.ids.drop (i + 1), d.ids[i] < x) ∧ (d.ids.drop (i + 1)).Pairwise (· < ·)) ↔ ((∀ x ∈ d.ids[i] :: d.ids.drop (i + 1), last < x) ∧ (d.ids[i] :: d.ids.drop (i + 1)).Pairwise (· < ·)) := by
        rw [List.pairwise_cons]
        constructor
        · rintro ⟨a, b⟩
          refine ⟨fun x hx' => ?_, a, b⟩
          rcases List.mem_cons.1 hx' with rfl | h
          · omega
          · have := a x h; omega
        · rintro ⟨a, b, c⟩; exact ⟨b, c⟩
      simp only [this]
theorem check_rise (d : subset_dealer) (hd : d.ids.length ≤ 32) {k : Nat} (hk : 32 < k) : subset_dealer_check.f k d = some (if Rise d.ids then 0 else 9) := by
  have := check_l0' d hd d.ids.length 0 k (-1) (by omega) (by omega)
  rw [subset_dealer_check.f, if_neg (by omega)]
  have this' : subset_dealer_check.l0 k d (-1) 0 = _ := this
  rw [this', List.drop_zero]
  congr 1
theorem rising_l0 (l : List Int) (hl : l.length ≤ 32) : ∀ (m i k : Nat), i + m = l.length → m < k → waybillref13_rising.l0 k l i = some (decide ((∀ x ∈ l.drop i, 0 ≤ x) ∧ ∀ (j : Nat) (h : j < l.length), i ≤ j → 0 < j → l[j - 1] < l[j]))
  | 0, i, k + 1, h1, h2 => by
    rw [waybillref13_rising.l0, if_neg (by omega), List.drop_of_length_le (by omega)]
    simp only [Option.some.injEq]
    exact (decide_eq_true ⟨by simp, fun j h h' => by omega⟩).symm
  | m + 1, i, k + 1, h1, h2 => by
    have hlt : i < l.length := by omega
    have hr : rd e_i64 l (i : Int) = l[i] := rd_nat _ _ i hlt
    have ih := rising_l0 l hl m (i + 1) k (by omega) (by omega)
    rw [waybillref13_rising.l0, if_pos (by omega), if_pos (by omega), hr, List.drop_eq_getElem_cons hlt]
    by_cases h0 : l[i] < 0
    · rw [if_pos h0]
      simp only [Option.bind_some, if_true, Option.some.injEq]
      exact (decide_eq_false fun h => by have := h.1 l[i] List.mem_cons_self; omega).symm
    · rw [if_neg h0]
      rcases Nat.eq_zero_or_pos i with hi0 | hi0
      · subst hi0
        rw [if_neg (by omega)]
        simp only [Option.bind_some, Bool.false_eq_true, if_false]
        rw [W_eq (by omega) (by omega)]
        have ih' : waybillref13_rising.l0 k l ((0 : Nat) + 1 : Int) = _ := ih
        rw [ih']
        simp only [Option.some.injEq, decide_eq_decide]
        constructor
        · rintro ⟨a, b⟩
          refine ⟨fun x hx => ?_, fun j h _ h' => b j h (by omega) h'⟩
          rcases List.mem_cons.1 hx with rfl | h
          · omega
          · exact a x h
        · rintro ⟨a, b⟩; exact ⟨fun x hx => a x (List.mem_cons_of_mem _ hx), fun j h _ h' => b j h (by omega) h'⟩
      · have hr2 : rd e_i64 l ((i : Int) - 1) = l[i - 1] := by
          rw [show (i : Int) - 1 = ((i - 1 : Nat) : Int) by omega]; exact rd_nat _ _ (i - 1) (by omega)
        rw [if_pos (by omega), W_eq (by omega) (by omega), if_pos (by omega), if_pos (by omega), hr2]
        simp only [Option.bind_some, decide_eq_true_eq]
        by_cases h3 : l[i] ≤ l[i - 1]
        · rw [if_pos h3]
          simp only [Option.some.injEq]
          exact (decide_eq_false fun h => by have := h.2 i hlt (Nat.le_refl _) hi0; omega).symm
        · rw [if_neg h3, W_eq (by omega) (by omega), show ((i : Int) + 1) = ((i + 1 : Nat) : Int) by omega, ih]
          simp only [Option.some.injEq, decide_eq_decide]
          constructor
          · rintro ⟨a, b⟩
            refine ⟨fun x hx => ?_, fun j h hj h' => ?_⟩
            · rcases List.mem_cons.1 hx with rfl | h
              · omega
              · exact a x h
            · rcases Nat.lt_or_ge i j with q | q
              · exact b j h (by omega) h'
              · have : i = j := by omega
                subst this; omega
          · rintro ⟨a, b⟩; exact ⟨fun x hx => a x (List.mem_cons_of_mem _ hx), fun j h hj h' => b j h (by omega) h'⟩
theorem pairwise_step (l : List Int) (h : ∀ (j : Nat) (h : j < l.length), 0 < j → l[j - 1] < l[j]) : l.Pairwise (· < ·) := by
  rw [List.pairwise_iff_getElem]
  intro i j hi hj hij
  induction j with
  | zero => omega
  | succ j ih =>
    have := h (j + 1) hj (by omega)
    simp only [Nat.add_sub_cancel] at this
    rcases Nat.lt_or_ge i j with q | q
    · have := ih (by omega) q; omega
    · have : i = j := by omega
      subst this; exact this
theorem rising_ok (l : List Int) (hl : l.length ≤ 32) {k : Nat} (hk : 32 < k) : waybillref13_rising.f k l = some (decide (Rise l)) := by
  have := rising_l0 l hl l.length 0 k (by omega) (by omega)
  rw [waybillref13_rising.f]
  have this' : waybillref13_rising.l0 k l 0 = _ := this
  rw [this']
  simp only [Option.some.injEq, decide_eq_decide, List.drop_zero]
  constructor
  · rintro ⟨a, b⟩; exact ⟨a, pairwise_step l fun j h h' => b j h (by omega) h'⟩
  · rintro ⟨a, b⟩
    exact ⟨a, fun j h _ h' => List.pairwise_iff_getElem.1 b (j - 1) j (by omega) h (by omega)⟩
theorem round_eq (n c s : Int) : waybillref13_Round.f n c s = subset_Round.f n c s := rfl
theorem of_l0 (ids : List Int) (s a : Nat) (o : List Int) (hs : s ≤ 1024) (ha : (a + 1) * s ≤ o.length) (hol : o.length ≤ 1024) (ho : ∀ x ∈ o, 0 ≤ x ∧ x < (ids.length : Int)) : ∀ (m i k : Nat) (acc : List Int), i + m = s → acc.length = i → m < k → waybillref13_Of.l0 k ids s a o i acc = some (acc ++ ((block o a s).drop i).map (rd e_i64 ids))
  | 0, i, k + 1, acc, h1, h2, _ => by
    have hbl : (block o a s).length ≤ s := by
      rw [block, List.length_drop, List.length_take, Nat.add_mul, Nat.one_mul]; omega
    rw [waybillref13_Of.l0, if_neg (by omega), List.drop_of_length_le (by omega)]; simp
  | m + 1, i, k + 1, acc, h1, h2, h3 => by
    have hm' : a * s + s = (a + 1) * s := by rw [Nat.add_mul, Nat.one_mul]
    have hbl : (block o a s).length = s := by
      rw [block, List.length_drop, List.length_take]; omega
    have hlt : i < (block o a s).length := by omega
    have hlt2 : a * s + i < o.length := by omega
    have hx : (block o a s)[i] = o[a * s + i] := by
      simp only [block, List.getElem_drop, List.getElem_take]
    have hw : IntKind.i64.wrap (IntKind.i64.wrap ((a : Int) * s) + i) = ((a * s + i : Nat) : Int) := by
      rw [← Int.natCast_mul, W_eq (x := ((a * s : Nat) : Int)) (by omega) (by omega), W_eq (by omega) (by omega)]; omega
    have hr : rd e_i64 o ((a * s + i : Nat) : Int) = o[a * s + i] := rd_nat _ _ _ hlt2
    have hxx := ho o[a * s + i] (List.getElem_mem hlt2)
    rw [waybillref13_Of.l0, if_pos (by omega), hw, if_pos (by omega), if_pos (by omega), hr, if_pos hxx.1, if_pos hxx.2, if_pos (by simp; omega), W_eq (by omega) (by omega)]
    have := of_l0 ids s a o hs ha hol ho m (i + 1) k (acc ++ [rd e_i64 ids o[a * s + i]]) (by omega) (by simp [h2]) (by omega)
    rw [show ((i : Int) + 1) = ((i + 1 : Nat) : Int) by omega, this, List.drop_eq_getElem_cons hlt, hx]
    simp only [List.append_assoc, List.cons_append, List.nil_append, List.map_cons]
/-- a client's subset, by both -/
theorem of2 (ids : List Int) (c s seed : Int) : ∃ l e, (∀ k, 200 < k → subset_Of.f k ids c s seed = some (l, e) ∧ waybillref13_Of.f k ids c s seed = some (l, e)) ∧ l.length ≤ 1024 ∧ l.Nodup ∧ (∀ x ∈ l, x ∈ ids) ∧ (e = 0 → ids.length ≤ 32 ∧ Rise ids) := by
  by_cases h32 : 32 < (ids.length : Int)
  · refine ⟨[], 3, fun k hk => ⟨?_, ?_⟩, by simp, List.nodup_nil, by simp, fun h => absurd h (by omega)⟩
    · rw [subset_Of.f, subset_dealer_of.f, subset_dealer_check.f, if_pos h32]; rfl
    · rw [waybillref13_Of.f, if_pos h32]
  have hn : ids.length ≤ 32 := by omega
  by_cases hR' : ¬ Rise ids
  · have hR := hR'
    refine ⟨[], 9, fun k hk => ⟨?_, ?_⟩, by simp, List.nodup_nil, by simp, fun h => absurd h (by omega)⟩
    · rw [subset_Of.f, subset_dealer_of.f, check_rise ⟨ids, s, seed⟩ hn (by omega), if_neg hR]; rfl
    · rw [waybillref13_Of.f, if_neg h32, rising_ok ids hn (by omega), decide_eq_false hR]; rfl
  have hR : Rise ids := Classical.not_not.1 hR'
  have hnd : ids.Nodup := hR.2.imp fun h => by omega
  have hck : ∀ k, 32 < k → subset_dealer_check.f k ⟨ids, s, seed⟩ = some 0 := fun k hk => by rw [check_rise ⟨ids, s, seed⟩ hn hk, if_pos hR]
  have hri : ∀ k, 32 < k → waybillref13_rising.f k ids = some true := fun k hk => by rw [rising_ok ids hn hk, decide_eq_true hR]
  by_cases hbad : (s < 1 ∨ 32 < s) ∨ (c < 0 ∨ 1048576 < c)
  · have hround : subset_Round.f ids.length c s = some (0, 0, 4) := by
      rw [subset_Round.f, if_neg (by omega), if_neg h32]
      by_cases q1 : c < 0
      · simp [q1]
      by_cases q2 : 1048576 < c
      · simp [q1, q2]
      by_cases q3 : s < 1
      · simp [q1, q2, q3]
      · have q4 : 32 < s := by omega
        simp [q1, q2, q3, q4]
    refine ⟨[], 4, fun k hk => ⟨?_, ?_⟩, by simp, List.nodup_nil, by simp, fun h => absurd h (by omega)⟩
    · rw [subset_Of.f, subset_dealer_of.f, hck k (by omega)]
      simp only [Option.bind_some, if_true, hround]
      rfl
    · rw [waybillref13_Of.f, if_neg h32, hri k (by omega)]
      simp only [Option.bind_some, if_true, round_eq, hround]
      rfl
  obtain ⟨s, rfl⟩ := Int.eq_ofNat_of_zero_le (show 0 ≤ s by omega)
  obtain ⟨c, rfl⟩ := Int.eq_ofNat_of_zero_le (show 0 ≤ c by omega)
  by_cases hle : (ids.length : Int) ≤ s
  · have hround : subset_Round.f ids.length c s = some (0, 0, 0) := by
      have e1 : ¬ (ids.length : Int) < 0 := by omega
      have e3 : ¬ (c : Int) < 0 := by omega
      have e4 : ¬ (1048576 : Int) < c := by omega
      have e5 : ¬ (s : Int) < 1 := by omega
      have e6 : ¬ (32 : Int) < s := by omega
      rw [subset_Round.f]
      simp only [e1, h32, e3, e4, e5, e6, if_false, decide_false, Option.bind_some]
      rw [if_neg (by simp), if_pos hle]
    refine ⟨ids, 0, fun k hk => ⟨?_, ?_⟩, by omega, hnd, fun x h => h, fun _ => ⟨hn, hR⟩⟩
    · rw [subset_Of.f, subset_dealer_of.f, hck k (by omega)]
      simp only [Option.bind_some, if_true, hround, subset_dealer_hand.f]
      rw [if_pos hle, slices_Clone_int_int.f, if_pos (by omega)]
      rfl
    · rw [waybillref13_Of.f, if_neg h32, hri k (by omega)]
      simp only [Option.bind_some, if_true, round_eq, hround]
      rw [if_pos hle, if_pos (by simp; omega)]
      rfl
  · have hs1 : 1 ≤ s := by omega
    have hsn : s < ids.length := by omega
    have hd : 1 ≤ ids.length / s := (Nat.one_le_div_iff (by omega)).2 (by omega)
    have hround := round_ok hn hs1 hsn (c := c) (by omega)
    have ha : c % (ids.length / s) < ids.length / s := Nat.mod_lt _ (by omega)
    generalize hr : c / (ids.length / s) = r at hround
    generalize haa : c % (ids.length / s) = a at hround ha
    have hm : (a + 1) * s ≤ ids.length := by
      have : (a + 1) * s ≤ (ids.length / s) * s := Nat.mul_le_mul_right _ ha
      exact Nat.le_trans this (Nat.div_mul_le_self _ _)
    have hm' : a * s + s = (a + 1) * s := by rw [Nat.add_mul, Nat.one_mul]
    obtain ⟨h, s', o, hrun, hp⟩ := order2 (n := ids.length) (by omega) seed r
    have hol : o.length = ids.length := by rw [hp.length_eq]; simp
    have ho : ∀ x ∈ o, 0 ≤ x ∧ x < (ids.length : Int) := fun x hx => by
      obtain ⟨y, hy, rfl⟩ := List.mem_map.1 (hp.mem_iff.1 hx)
      have := List.mem_range.1 hy
      exact ⟨by simp, by simpa using this⟩
    have hbl : (block o a s).length = s := by rw [block, List.length_drop, List.length_take]; omega
    have hbm : ∀ x ∈ block o a s, 0 ≤ x ∧ x < (ids.length : Int) := fun x hx => ho x (List.mem_of_mem_take (List.mem_of_mem_drop hx))
    have hbn : (block o a s).Nodup := by
      have : o.Nodup := hp.nodup_iff.2 (by
        rw [List.nodup_iff_pairwise_ne, List.pairwise_map]
        exact (List.nodup_range (n := ids.length)).imp fun h e => h (Int.ofNat.inj e))
      exact (this.sublist (List.take_sublist _ _)).sublist (List.drop_sublist _ _)
    have w1 : IntKind.i64.wrap ((a : Int) * s) = ((a * s : Nat) : Int) := by rw [← Int.natCast_mul]; exact W_eq (by omega) (by omega)
    have w2 : IntKind.i64.wrap (IntKind.i64.wrap ((a : Int) + 1) * s) = (((a + 1) * s : Nat) : Int) := by
      have : a < 32 := by have := Nat.div_le_self ids.length s; omega
      rw [W_eq (x := (a : Int) + 1) (by omega) (by omega), show ((a : Int) + 1) = ((a + 1 : Nat) : Int) by omega, ← Int.natCast_mul]; exact W_eq (by omega) (by omega)
    have hblk : block o a s = ((o.take (Int.toNat (IntKind.i64.wrap ((IntKind.i64.wrap (((⟨r, a⟩ : subset_place)).at_ + 1)) * (⟨ids, s, seed⟩ : subset_dealer).size)))).drop (Int.toNat (IntKind.i64.wrap ((⟨r, a⟩ : subset_place).at_ * (⟨ids, s, seed⟩ : subset_dealer).size)))) := by
      simp only [w1, w2, Int.toNat_natCast]; rfl
    refine ⟨((block o a s).map (rd e_i64 ids)).mergeSort fun a b => decide (a ≤ b), 0, fun k hk => ⟨?_, ?_⟩, by rw [List.length_mergeSort, List.length_map]; omega, ?_, ?_, fun _ => ⟨hn, hR⟩⟩
    · have h0 := hand_l0 ⟨ids, s, seed⟩ ⟨r, a⟩ o _ hblk (by omega) hbm s 0 k [] (by omega) rfl (by omega)
      simp only [List.drop_zero, List.nil_append] at h0
      rw [subset_Of.f, subset_dealer_of.f, hck k (by omega)]
      simp only [Option.bind_some, if_true, hround, subset_dealer_hand.f]
      rw [if_neg (by omega)]
      obtain ⟨q1, q2, -, -⟩ := hrun k (by omega)
      simp only [q1, q2, Option.bind_some, w1, w2]
      rw [if_pos (by omega), if_pos (by omega), if_pos (by omega)]
      have h0' : subset_dealer_hand.l0 k ⟨ids, s, seed⟩ ⟨r, a⟩ o 0 [] = some ((block o a s).map (rd e_i64 ids)) := h0
      rw [h0']
      simp only [Option.bind_some, slices_Sort_int_int.f]
      rw [if_pos (by simp [hbl]; omega)]
      rfl
    · have h0 := of_l0 ids s a o (by omega) (by omega) (by omega) ho s 0 k [] (by omega) rfl (by omega)
      simp only [List.drop_zero, List.nil_append] at h0
      rw [waybillref13_Of.f, if_neg h32, hri k (by omega)]
      simp only [Option.bind_some, if_true, round_eq, hround]
      rw [if_neg hle]
      obtain ⟨-, -, q1, q2⟩ := hrun k (by omega)
      simp only [q1, q2, Option.bind_some]
      have h0' : waybillref13_Of.l0 k ids s a o 0 [] = some ((block o a s).map (rd e_i64 ids)) := h0
      rw [h0']
      simp only [Option.bind_some]
      rw [sorted_ok _ (by rw [List.length_map]; omega) (by rw [List.length_map]; omega)]
      rfl
    · rw [(List.mergeSort_perm _ _).nodup_iff, List.nodup_iff_pairwise_ne, List.pairwise_map]
      refine (List.Pairwise.and_mem.1 hbn).imp ?_
      rintro x y ⟨hx, hy, hne⟩ he
      have hx' := hbm x hx
      have hy' := hbm y hy
      rw [rd_int e_i64 ids hx'.1 (by omega), rd_int e_i64 ids hy'.1 (by omega)] at he
      have hpw := List.pairwise_iff_getElem.1 hR.2
      rcases Nat.lt_trichotomy x.toNat y.toNat with q | q | q
      · have := hpw _ _ (by omega) (by omega) q; omega
      · omega
      · have := hpw _ _ (by omega) (by omega) q; omega
    · intro x hx
      rw [List.mem_mergeSort, List.mem_map] at hx
      obtain ⟨y, hy, rfl⟩ := hx
      exact rd_mem e_i64 ids (hbm y hy).1 (hbm y hy).2
end Go.Proofs.Ythlogangnppghaa.M

/- waybill/waybilllaw13.SubsetEven: a plain function, and that the machine's call comes to it: printed by a program of the session's own. -/
set_option linter.unusedVariables false
set_option linter.unusedSimpArgs false
namespace Go.Proofs.Ythlogangnppghaa.M
open Go Go.Proofs.Ythlogangnppghaa.Sl
/-! ### waybill/waybilllaw13.SubsetEven: function 3 -/
def waybilllaw13_SubsetEven.l0 : Nat → (List Int) → Int → Int → (List Int) → Int → Int → Option (Bool)
  | 0, _, _, _, _, _, _ => none
  | k + 1, x_ids, x_rounds, x_size, z10t, z19x, z20x => if z20x < (z10t.length : Int) then (((if 0 ≤ z20x then (if (rd e_i64 z10t z20x) < 0 then (some true) else (some (decide (((IntKind.i64.wrap ((x_rounds.tmod 6) + 6)).tmod 6) < (rd e_i64 z10t z20x))))) else (none)) : Option (Bool)).bind fun z22x => (if z22x = true then (some false) else (if 0 ≤ z20x then (waybilllaw13_SubsetEven.l0 k x_ids x_rounds x_size z10t (IntKind.i64.wrap (z19x + (rd e_i64 z10t z20x))) (IntKind.i64.wrap (z20x + 1))) else (none)))) else (some (decide (z19x = (IntKind.i64.wrap ((IntKind.i64.wrap (((IntKind.i64.wrap ((x_rounds.tmod 6) + 6)).tmod 6) * (IntKind.i64.wrap ((x_ids.length : Int).tdiv x_size)))) * x_size)))))
def waybilllaw13_SubsetEven.f (k : Nat) (x_ids : List Int) (x_rounds : Int) (x_size : Int) (x_seed : Int) : Option (Bool) := (waybilllaw13_alive.f k ).bind fun z2t => (if z2t = true then (((if 32 < (x_ids.length : Int) then (some true) else (if x_size < 1 then (some true) else (some (decide ((x_ids.length : Int) ≤ x_size))))) : Option (Bool)).bind fun z4x => (if z4x = true then (some true) else (if x_size = 0 then (none) else ((subset_Counts.f k x_ids (IntKind.i64.wrap (((IntKind.i64.wrap ((x_rounds.tmod 6) + 6)).tmod 6) * (IntKind.i64.wrap ((x_ids.length : Int).tdiv x_size)))) x_size x_seed).bind fun (z10t, z11t) => ((waybilllaw13_num.f z11t).bind fun z17t => (if z17t = 0 then ((waybilllaw13_SubsetEven.l0 k x_ids x_rounds x_size z10t 0 0)) else (some (decide ((z10t.length : Int) = 0))))))))) else (some false))
set_option maxRecDepth 100000 in
set_option maxHeartbeats 4000000 in
theorem waybilllaw13_SubsetEven.calls (k : Nat) (A0 : Option Addr) (n0 c0 : Nat) (x_ids : List Int) (x_rounds : Int) (x_size : Int) (x_seed : Int) (W0 : World) (X : Heap) (HR0 : Rd e_i64 X A0 n0 c0 x_ids) (Hq : HS W0 [isH X] W0) (r : Bool) (H : waybilllaw13_SubsetEven.f k x_ids x_rounds x_size x_seed = some r) :
    Calls Try.prog 3 #[.slice A0 n0 c0, .int .i64 x_rounds, .int .i64 x_size, .int .u64 x_seed] W0 (fun e w => e = .returned (.bool r) ∧ HS W0 [isH X] w) := by
  obtain rfl := HR0.1
  rw [waybilllaw13_SubsetEven.f] at H
  refine calls_in Try.func3 rfl rfl ?_
  intro a0 S0
  refine w_seq ?_
  refine w_region ?_
  refine r_pures [_] S0 rfl ?_
  clear S0; intro a0 S0
  refine wl_nil ?_
  refine nr_then ?_
  refine w_seq ?_
  refine w_seq ?_
  refine w_region ?_
  obtain ⟨Xz1, HXz1, HPz1, HBz1⟩ := call_frame [] Hq
  dsimp only [List.cons_append, List.nil_append] at HXz1 HBz1
  obtain ⟨z2t, Hc, H⟩ := Option.bind_eq_some_iff.mp H
  refine r_call S0 rfl rfl goes6 rfl ?_
  refine (waybilllaw13_alive.calls _  _ _  HXz1 z2t Hc).mono ?_
  rintro e w ⟨rfl, Hq'⟩
  have Hq : HS W0 [isH X] w := HBz1 [] _ Hq'
  clear HXz1 HPz1 HBz1 Hq'
  refine ⟨.bool z2t, rfl, ?_⟩; clear S0; intro a0 S0
  refine r_pures [_] S0 rfl ?_
  clear S0; intro a0 S0
  refine wl_nil ?_
  refine nr_then ?_
  by_cases z3h : z2t = true
  · replace H := (if_pos z3h).symm.trans H
    refine w_false S0 rfl (congrArg (!·) z3h) ?_
    refine w_skip ?_
    refine nr_then ?_
    refine w_seq ?_
    refine w_region ?_
    refine r_pures [_] S0 rfl ?_
    clear S0; intro a0 S0
    refine r_rem S0 rfl rfl (by decide) rfl ?_
    clear S0; intro a0 S0
    refine r_pures [_] S0 rfl ?_
    clear S0; intro a0 S0
    refine r_rem S0 rfl rfl (by decide) rfl ?_
    clear S0; intro a0 S0
    refine r_pures [_] S0 rfl ?_
    clear S0; intro a0 S0
    refine wl_nil ?_
    refine nr_then ?_
    refine w_seq ?_
    refine w_seq ?_
    obtain ⟨z4x, H, HU1⟩ := Option.bind_eq_some_iff.mp H
    refine w_cutT (fun a w => Sl 83 [] [(0, .slice A0 x_ids.length c0), (1, .int .i64 ((IntKind.i64.wrap ((x_rounds.tmod 6) + 6)).tmod 6)), (2, .int .i64 x_size), (3, .int .u64 x_seed), (32, .bool z4x)] a ∧ HS W0 [isH X] w) ?_ ?_
    · skip
      refine w_region ?_
      refine r_pures [_] S0 rfl ?_
      clear S0; intro a0 S0
      refine r_len S0 rfl sl22 rfl ?_
      clear S0; intro a0 S0
      refine r_pures [_, _] S0 rfl ?_
      clear S0; intro a0 S0
      by_cases z5h : 32 < (x_ids.length : Int)
      · replace H := (if_pos z5h).symm.trans H
        refine r_off S0 rfl rfl rfl (decide_eq_true z5h) ?_ rfl
        clear S0; intro a0 S0
        refine r_off S0 rfl rfl rfl (decide_eq_true z5h) ?_ rfl
        clear S0; intro a0 S0
        refine r_pick S0 rfl (decide_eq_true z5h) _ rfl rfl ?_
        clear S0; intro a0 S0
        refine r_pures [_] S0 rfl ?_
        clear S0; intro a0 S0
        refine r_off S0 rfl rfl rfl rfl ?_ rfl
        clear S0; intro a0 S0
        refine r_off S0 rfl rfl rfl rfl ?_ rfl
        clear S0; intro a0 S0
        refine r_off S0 rfl rfl rfl rfl ?_ rfl
        clear S0; intro a0 S0
        refine r_off S0 rfl rfl rfl rfl ?_ rfl
        clear S0; intro a0 S0
        refine r_pick S0 rfl rfl _ rfl rfl ?_
        clear S0; intro a0 S0
        refine wl_nil ?_
        refine nr_then ?_
        obtain rfl := Option.some.inj H
        exact ⟨S0.sub ⟨rfl, rfl, rfl, rfl, rfl, trivial⟩, Hq⟩
      · replace H := (if_neg z5h).symm.trans H
        refine r_on S0 rfl rfl rfl (decide_eq_false z5h) ?_
        refine r_pures [_] S0 rfl ?_
        clear S0; intro a0 S0
        refine r_on S0 rfl rfl rfl (decide_eq_false z5h) ?_
        refine r_pures [_] S0 rfl ?_
        clear S0; intro a0 S0
        refine r_pick S0 rfl (decide_eq_false z5h) _ rfl rfl ?_
        clear S0; intro a0 S0
        refine r_pures [_] S0 rfl ?_
        clear S0; intro a0 S0
        by_cases z6h : x_size < 1
        · replace H := (if_pos z6h).symm.trans H
          refine r_off S0 rfl rfl rfl (decide_eq_true z6h) ?_ rfl
          clear S0; intro a0 S0
          refine r_off S0 rfl rfl rfl (decide_eq_true z6h) ?_ rfl
          clear S0; intro a0 S0
          refine r_off S0 rfl rfl rfl (decide_eq_true z6h) ?_ rfl
          clear S0; intro a0 S0
          refine r_off S0 rfl rfl rfl (decide_eq_true z6h) ?_ rfl
          clear S0; intro a0 S0
          refine r_pick S0 rfl (decide_eq_true z6h) _ rfl rfl ?_
          clear S0; intro a0 S0
          refine wl_nil ?_
          refine nr_then ?_
          obtain rfl := Option.some.inj H
          exact ⟨S0.sub ⟨rfl, rfl, rfl, rfl, rfl, trivial⟩, Hq⟩
        · replace H := (if_neg z6h).symm.trans H
          refine r_on S0 rfl rfl rfl (decide_eq_false z6h) ?_
          refine r_pures [_] S0 rfl ?_
          clear S0; intro a0 S0
          refine r_on S0 rfl rfl rfl (decide_eq_false z6h) ?_
          refine r_pures [_] S0 rfl ?_
          clear S0; intro a0 S0
          refine r_on S0 rfl rfl rfl (decide_eq_false z6h) ?_
          refine r_len S0 rfl sl22 rfl ?_
          clear S0; intro a0 S0
          refine r_on S0 rfl rfl rfl (decide_eq_false z6h) ?_
          refine r_pures [_] S0 rfl ?_
          clear S0; intro a0 S0
          refine r_pick S0 rfl (decide_eq_false z6h) _ rfl rfl ?_
          clear S0; intro a0 S0
          refine wl_nil ?_
          refine nr_then ?_
          obtain rfl := Option.some.inj H
          exact ⟨S0.sub ⟨rfl, rfl, rfl, rfl, rfl, trivial⟩, Hq⟩
    · clear S0; rintro a w ⟨S0, Hq⟩
      have H := HU1; clear HU1
      refine nr_then ?_
      by_cases z7h : z4x = true
      · replace H := (if_pos z7h).symm.trans H
        refine w_true S0 rfl z7h ?_
        refine w_seq ?_
        refine w_region ?_
        refine r_pures [_] S0 rfl ?_
        clear S0; intro a0 S0
        refine wl_nil ?_
        refine nr_then ?_
        refine w_ret ?_
        refine ret_then ?_
        obtain rfl := Option.some.inj H
        refine ret1 S0 rfl rfl ?_
        exact ⟨rfl, Hq⟩
      · replace H := (if_neg z7h).symm.trans H
        refine w_false S0 rfl (Bool.eq_false_iff.mpr z7h) ?_
        refine w_skip ?_
        refine nr_then ?_
        refine w_seq ?_
        refine w_region ?_
        refine r_pures [_, _] S0 rfl ?_
        clear S0; intro a0 S0
        refine r_len S0 rfl sl22 rfl ?_
        clear S0; intro a0 S0
        refine r_pures [_] S0 rfl ?_
        clear S0; intro a0 S0
        by_cases z8h : x_size = 0
        · replace H := (if_pos z8h).symm.trans H
          exact nomatch H
        · replace H := (if_neg z8h).symm.trans H
          refine r_quo S0 rfl rfl z8h rfl ?_
          clear S0; intro a0 S0
          refine r_pures [_, _] S0 rfl ?_
          clear S0; intro a0 S0
          refine wl_nil ?_
          refine nr_then ?_
          refine w_seq ?_
          refine w_region ?_
          refine r_pures [_, _, _, _] S0 rfl ?_
          clear S0; intro a0 S0
          obtain ⟨Xz9, HXz9, HPz9, HBz9⟩ := call_frame [] Hq
          dsimp only [List.cons_append, List.nil_append] at HXz9 HBz9
          obtain ⟨⟨z10t, z11t⟩, Hc, H⟩ := Option.bind_eq_some_iff.mp H
          dsimp only at H
          refine r_call S0 rfl rfl goes7 rfl ?_
          refine (subset_Counts.calls _ _ _ _ x_ids (IntKind.i64.wrap (((IntKind.i64.wrap ((x_rounds.tmod 6) + 6)).tmod 6) * (IntKind.i64.wrap ((x_ids.length : Int).tdiv x_size)))) x_size x_seed _ _ (sl_isH_rd [] HPz9 HR0) HXz9 (z10t, z11t) Hc).mono ?_
          rintro e w ⟨z12A, z13m, z14n, rfl, Hq'⟩
          have Hq : HS W0 [own e_i64 3 z12A z13m z14n z10t, isH X] w := HBz9 [_] _ Hq'
          clear HXz9 HPz9 HBz9 Hq'
          obtain rfl := own_len [] Hq
          refine ⟨.tuple #[.slice z12A z10t.length z14n, .int .i64 z11t], rfl, ?_⟩; clear S0; intro a0 S0
          refine r_pures [_, _, _, _, _] S0 rfl ?_
          clear S0; intro a0 S0
          refine wl_nil ?_
          refine nr_then ?_
          refine w_seq ?_
          refine w_seq ?_
          refine w_region ?_
          refine r_pures [_] S0 rfl ?_
          clear S0; intro a0 S0
          obtain ⟨Xz16, HXz16, HPz16, HBz16⟩ := call_frame [] Hq
          dsimp only [List.cons_append, List.nil_append] at HXz16 HBz16
          obtain ⟨z17t, Hc, H⟩ := Option.bind_eq_some_iff.mp H
          refine r_call S0 rfl rfl goes8 rfl ?_
          refine (waybilllaw13_num.calls z11t _ _  HXz16 z17t Hc).mono ?_
          rintro e w ⟨rfl, Hq'⟩
          have Hq : HS W0 [own e_i64 3 z12A z10t.length z14n z10t, isH X] w := HBz16 [] _ Hq'
          clear HXz16 HPz16 HBz16 Hq'
          refine ⟨.int .i64 z17t, rfl, ?_⟩; clear S0; intro a0 S0
          refine r_pures [_] S0 rfl ?_
          clear S0; intro a0 S0
          refine wl_nil ?_
          refine nr_then ?_
          by_cases z18h : z17t = 0
          · replace H := (if_pos z18h).symm.trans H
            refine w_false S0 rfl (congrArg (!·) (decide_eq_true z18h)) ?_
            refine w_skip ?_
            refine nr_then ?_
            refine w_seq ?_
            refine w_region ?_
            refine r_pures [_] S0 rfl ?_
            clear S0; intro a0 S0
            refine wl_nil ?_
            refine nr_then ?_
            refine w_seq ?_
            refine w_seq ?_
            refine w_region ?_
            refine r_pures [_] S0 rfl ?_
            clear S0; intro a0 S0
            refine wl_nil ?_
            refine nr_then ?_
            refine w_block ?_
            refine w_loop (fun kq a w => ∃ z19x z20x, waybilllaw13_SubsetEven.l0 kq x_ids x_rounds x_size z10t z19x z20x = some r ∧ Sl 83 [] [(1, .int .i64 ((IntKind.i64.wrap ((x_rounds.tmod 6) + 6)).tmod 6)), (2, .int .i64 x_size), (9, .int .i64 (IntKind.i64.wrap (((IntKind.i64.wrap ((x_rounds.tmod 6) + 6)).tmod 6) * (IntKind.i64.wrap ((x_ids.length : Int).tdiv x_size))))), (10, .slice z12A z10t.length z14n), (12, .int .i64 z19x), (13, .int .i64 z20x)] a ∧ HS W0 [own e_i64 3 z12A z10t.length z14n z10t, isH X] w) _ ⟨0, 0, H, S0.sub ⟨rfl, rfl, rfl, rfl, rfl, rfl, trivial⟩, Hq⟩ ?_
            clear H Hq S0
            rintro k0 a w ⟨z19x, z20x, H, S0, Hq⟩
            cases k0 with
            | zero => simp [waybilllaw13_SubsetEven.l0] at H
            | succ k0 =>
              refine ⟨k0, rfl, ?_⟩
              rw [waybilllaw13_SubsetEven.l0] at H
              refine w_seq ?_
              refine w_seq ?_
              refine w_region ?_
              refine r_pures [_, _] S0 rfl ?_
              clear S0; intro a0 S0
              refine r_len S0 rfl sl22 rfl ?_
              clear S0; intro a0 S0
              refine r_pures [_] S0 rfl ?_
              clear S0; intro a0 S0
              refine wl_nil ?_
              refine nr_then ?_
              by_cases z21h : z20x < (z10t.length : Int)
              · replace H := (if_pos z21h).symm.trans H
                refine w_true S0 rfl (decide_eq_true z21h) ?_
                refine w_skip ?_
                refine nr_then ?_
                refine w_seq ?_
                refine w_block ?_
                refine w_seq ?_
                refine w_seq ?_
                obtain ⟨z22x, H, HU2⟩ := Option.bind_eq_some_iff.mp H
                refine w_cutT (fun a w => Sl 83 [] [(1, .int .i64 ((IntKind.i64.wrap ((x_rounds.tmod 6) + 6)).tmod 6)), (2, .int .i64 x_size), (9, .int .i64 (IntKind.i64.wrap (((IntKind.i64.wrap ((x_rounds.tmod 6) + 6)).tmod 6) * (IntKind.i64.wrap ((x_ids.length : Int).tdiv x_size))))), (10, .slice z12A z10t.length z14n), (12, .int .i64 z19x), (13, .int .i64 z20x), (71, .bool z22x)] a ∧ HS W0 [own e_i64 3 z12A z10t.length z14n z10t, isH X] w) ?_ ?_
                · skip
                  refine w_region ?_
                  refine r_pures [_, _] S0 rfl ?_
                  clear S0; intro a0 S0
                  by_cases z23h : 0 ≤ z20x
                  · replace H := (if_pos z23h).symm.trans H
                    obtain ⟨z24g, rfl⟩ := own_at [] Hq (by omega)
                    refine r_index S0 rfl rfl sl22 ti3 z23h z21h rfl ?_
                    clear S0; intro a0 S0
                    refine r_elS S0 (own_rd [] Hq) z23h z21h rfl ti3 _ rfl rfl ?_
                    clear S0; intro a0 S0
                    refine r_pures [_, _] S0 rfl ?_
                    clear S0; intro a0 S0
                    by_cases z25h : (rd e_i64 z10t z20x) < 0
                    · replace H := (if_pos z25h).symm.trans H
                      refine r_off S0 rfl rfl rfl (decide_eq_true z25h) ?_ rfl
                      clear S0; intro a0 S0
                      refine r_off S0 rfl rfl rfl (decide_eq_true z25h) ?_ rfl
                      clear S0; intro a0 S0
                      refine r_off S0 rfl rfl rfl (decide_eq_true z25h) ?_ rfl
                      clear S0; intro a0 S0
                      refine r_off S0 rfl rfl rfl (decide_eq_true z25h) ?_ rfl
                      clear S0; intro a0 S0
                      refine r_off S0 rfl rfl rfl (decide_eq_true z25h) ?_ rfl
                      clear S0; intro a0 S0
                      refine r_off S0 rfl rfl rfl (decide_eq_true z25h) ?_ rfl
                      clear S0; intro a0 S0
                      refine r_pick S0 rfl (decide_eq_true z25h) _ rfl rfl ?_
                      clear S0; intro a0 S0
                      refine wl_nil ?_
                      refine nr_then ?_
                      obtain rfl := Option.some.inj H
                      exact ⟨S0.sub ⟨rfl, rfl, rfl, rfl, rfl, rfl, rfl, trivial⟩, Hq⟩
                    · replace H := (if_neg z25h).symm.trans H
                      refine r_on S0 rfl rfl rfl (decide_eq_false z25h) ?_
                      refine r_pures [_] S0 rfl ?_
                      clear S0; intro a0 S0
                      refine r_on S0 rfl rfl rfl (decide_eq_false z25h) ?_
                      refine r_pures [_] S0 rfl ?_
                      clear S0; intro a0 S0
                      refine r_on S0 rfl rfl rfl (decide_eq_false z25h) ?_
                      refine r_index S0 rfl rfl sl22 ti3 z23h z21h rfl ?_
                      clear S0; intro a0 S0
                      refine r_on S0 rfl rfl rfl (decide_eq_false z25h) ?_
                      refine r_elS S0 (own_rd [] Hq) z23h z21h rfl ti3 _ rfl rfl ?_
                      clear S0; intro a0 S0
                      refine r_on S0 rfl rfl rfl (decide_eq_false z25h) ?_
                      refine r_pures [_] S0 rfl ?_
                      clear S0; intro a0 S0
                      refine r_on S0 rfl rfl rfl (decide_eq_false z25h) ?_
                      refine r_pures [_] S0 rfl ?_
                      clear S0; intro a0 S0
                      refine r_pick S0 rfl (decide_eq_false z25h) _ rfl rfl ?_
                      clear S0; intro a0 S0
                      refine wl_nil ?_
                      refine nr_then ?_
                      obtain rfl := Option.some.inj H
                      exact ⟨S0.sub ⟨rfl, rfl, rfl, rfl, rfl, rfl, rfl, trivial⟩, Hq⟩
                  · replace H := (if_neg z23h).symm.trans H
                    exact nomatch H
                · clear S0; rintro a w ⟨S0, Hq⟩
                  have H := HU2; clear HU2
                  refine nr_then ?_
                  by_cases z26h : z22x = true
                  · replace H := (if_pos z26h).symm.trans H
                    refine w_true S0 rfl z26h ?_
                    refine w_seq ?_
                    refine w_region ?_
                    refine r_pures [_] S0 rfl ?_
                    clear S0; intro a0 S0
                    refine wl_nil ?_
                    refine nr_then ?_
                    refine w_ret ?_
                    refine ret_then ?_
                    refine ret_in ?_
                    refine ret_then ?_
                    refine ret_then ?_
                    refine ret_in ?_
                    refine ret_then ?_
                    obtain rfl := Option.some.inj H
                    refine ret1 S0 rfl rfl ?_
                    replace Hq := HS.pull [_] Hq
                    dsimp only [List.cons_append, List.nil_append] at Hq
                    replace Hq := HS.keep [_] Hq
                    exact ⟨rfl, Hq⟩
                  · replace H := (if_neg z26h).symm.trans H
                    refine w_false S0 rfl (Bool.eq_false_iff.mpr z26h) ?_
                    refine w_skip ?_
                    refine nr_then ?_
                    refine w_region ?_
                    refine r_pures [_, _, _] S0 rfl ?_
                    clear S0; intro a0 S0
                    by_cases z27h : 0 ≤ z20x
                    · replace H := (if_pos z27h).symm.trans H
                      obtain ⟨z28g, rfl⟩ := own_at [] Hq (by omega)
                      refine r_index S0 rfl rfl sl22 ti3 z27h z21h rfl ?_
                      clear S0; intro a0 S0
                      refine r_elS S0 (own_rd [] Hq) z27h z21h rfl ti3 _ rfl rfl ?_
                      clear S0; intro a0 S0
                      refine r_pures [_, _] S0 rfl ?_
                      clear S0; intro a0 S0
                      refine wl_nil ?_
                      refine nr_in ?_
                      refine nr_then ?_
                      refine w_region ?_
                      refine r_pures [_, _, _] S0 rfl ?_
                      clear S0; intro a0 S0
                      refine wl_nil ?_
                      refine nr_then ?_
                      exact ⟨(IntKind.i64.wrap (z19x + (rd e_i64 z10t z20x))), (IntKind.i64.wrap (z20x + 1)), H, S0.sub ⟨rfl, rfl, rfl, rfl, rfl, rfl, trivial⟩, Hq⟩
                    · replace H := (if_neg z27h).symm.trans H
                      exact nomatch H
              · replace H := (if_neg z21h).symm.trans H
                refine w_false S0 rfl (decide_eq_false z21h) ?_
                refine w_exit ?_
                refine ex_then ?_
                refine ex_then ?_
                refine ex_in ?_
                refine nr_then ?_
                refine w_seq ?_
                refine w_region ?_
                refine r_pures [_, _, _, _, _, _] S0 rfl ?_
                clear S0; intro a0 S0
                refine wl_nil ?_
                refine nr_then ?_
                refine w_ret ?_
                obtain rfl := Option.some.inj H
                refine ret1 S0 rfl rfl ?_
                replace Hq := HS.pull [_] Hq
                dsimp only [List.cons_append, List.nil_append] at Hq
                replace Hq := HS.keep [_] Hq
                exact ⟨rfl, Hq⟩
          · replace H := (if_neg z18h).symm.trans H
            refine w_true S0 rfl (congrArg (!·) (decide_eq_false z18h)) ?_
            refine w_seq ?_
            refine w_region ?_
            refine r_pures [_] S0 rfl ?_
            clear S0; intro a0 S0
            refine r_len S0 rfl sl22 rfl ?_
            clear S0; intro a0 S0
            refine r_pures [_, _] S0 rfl ?_
            clear S0; intro a0 S0
            refine wl_nil ?_
            refine nr_then ?_
            refine w_ret ?_
            refine ret_then ?_
            obtain rfl := Option.some.inj H
            refine ret1 S0 rfl rfl ?_
            replace Hq := HS.pull [_] Hq
            dsimp only [List.cons_append, List.nil_append] at Hq
            replace Hq := HS.keep [_] Hq
            exact ⟨rfl, Hq⟩
  · replace H := (if_neg z3h).symm.trans H
    refine w_true S0 rfl (congrArg (!·) (Bool.eq_false_iff.mpr z3h)) ?_
    refine w_seq ?_
    refine w_region ?_
    refine r_pures [_] S0 rfl ?_
    clear S0; intro a0 S0
    refine wl_nil ?_
    refine nr_then ?_
    refine w_ret ?_
    refine ret_then ?_
    obtain rfl := Option.some.inj H
    refine ret1 S0 rfl rfl ?_
    exact ⟨rfl, Hq⟩

end Go.Proofs.Ythlogangnppghaa.M

/- How many clients each backend has: over whole rounds, at most one a round. -/
set_option linter.unusedVariables false
set_option linter.unusedSimpArgs false
namespace Go.Proofs.Ythlogangnppghaa.M
open Go Go.Proofs.Ythlogangnppghaa.Sl

theorem sum_set : ∀ (l : List Int) (i : Nat) (h : i < l.length) (x : Int), (l.set i x).sum = l.sum + (x - l[i])
  | y :: l, 0, _, x => by simp; omega
  | y :: l, i + 1, h, x => by
    have := sum_set l i (by simpa using h) x
    simp [this]; omega
theorem countP_lt (ids : List Int) (hs : ids.Pairwise (· < ·)) : ∀ (j : Nat) (h : j < ids.length), ids.countP (· < ids[j]) = j := by
  induction ids with
  | nil => intro j h; simp at h
  | cons y l ih =>
    obtain ⟨h1, h2⟩ := List.pairwise_cons.1 hs
    intro j h
    cases j with
    | zero =>
      simp only [List.getElem_cons_zero]
      rw [List.countP_eq_zero]
      intro x hx
      rcases List.mem_cons.1 hx with rfl | hx
      · simp
      · have := h1 x hx; simp; omega
    | succ j =>
      simp only [List.getElem_cons_succ]
      have hj : j < l.length := by simpa using h
      rw [List.countP_cons_of_pos (by simpa using h1 _ (List.getElem_mem hj)), ih h2 j hj]
theorem inj (ids : List Int) (hs : ids.Pairwise (· < ·)) {i j : Nat} (hi : i < ids.length) (hj : j < ids.length) (h : ids[i] = ids[j]) : i = j := by
  have h1 := countP_lt ids hs i hi
  have h2 := countP_lt ids hs j hj
  simp only [h] at h1; omega
theorem search_ok (ids : List Int) (hn : ids.length ≤ 32) (hs : ids.Pairwise (· < ·)) {j : Nat} (h : j < ids.length) : slices_BinarySearch_int_int.f ids ids[j] = some ((j : Int), true) := by
  rw [slices_BinarySearch_int_int.f, if_pos ⟨by omega, hs.imp fun h => by omega⟩, countP_lt ids hs j h]
  have : ids.contains ids[j] = true := by rw [List.contains_iff_mem]; exact List.getElem_mem h
  rw [this]
/-- one client's hand, counted -/
theorem counts_l1 (ids : List Int) (hn : ids.length ≤ 32) (hs : ids.Pairwise (· < ·)) (l : List Int) (hl : l.length ≤ 1024) (hm : ∀ x ∈ l, x ∈ ids) : ∀ (m i : Nat) (out : List Int), i + m = l.length → out.length = ids.length →
    (∀ (j : Nat) (h : j < out.length), 0 ≤ out[j] ∧ out[j] ≤ 1000000 + i) →
    ∃ out', (∀ k, m < k → subset_Counts.l1 k ids l i out = some out') ∧ out'.length = ids.length ∧ out'.sum = out.sum + m ∧ ∀ (j : Nat) (h : j < out'.length) (h2 : j < out.length) (h3 : j < ids.length), out'[j] = out[j] + (l.drop i).count ids[j]
  | 0, i, out, h1, h2, h3 => by
    refine ⟨out, fun k hk => ?_, h2, by simp, fun j h h' h'' => ?_⟩
    · cases k with
      | zero => omega
      | succ k => rw [subset_Counts.l1, if_neg (by omega)]
    · rw [List.drop_of_length_le (by omega)]; simp
  | m + 1, i, out, h1, h2, h3 => by
    have hlt : i < l.length := by omega
    have hr : rd e_i64 l (i : Int) = l[i] := rd_nat _ _ i hlt
    obtain ⟨p, hp, hpe⟩ := List.getElem_of_mem (hm l[i] (List.getElem_mem hlt))
    have hpo : p < out.length := by omega
    have hro : rd e_i64 out (p : Int) = out[p] := rd_nat _ _ p hpo
    have hb := h3 p hpo
    obtain ⟨out', q1, q2, q3, q4⟩ := counts_l1 ids hn hs l hl hm m (i + 1) (out.set p (out[p] + 1)) (by omega) (by simpa using h2) (fun j h => by
      rw [List.getElem_set]
      split
      · omega
      · have := h3 j (by simpa using h); omega)
    refine ⟨out', fun k hk => ?_, q2, ?_, fun j h h' h'' => ?_⟩
    · cases k with
      | zero => omega
      | succ k =>
        rw [subset_Counts.l1, if_pos (by omega), if_pos (by omega), hr, ← hpe, search_ok ids hn hs hp]
        simp only [Option.bind_some, Int.toNat_natCast]
        rw [if_pos (by omega), if_pos (by omega), hro, W_eq (x := (i : Int) + 1) (by omega) (by omega), W_eq (by omega) (by omega)]
        exact q1 k (by omega)
    · rw [q3, sum_set out p hpo]; omega
    · rw [q4 j h (by simpa using h') h'', List.drop_eq_getElem_cons hlt, List.getElem_set, ← hpe]
      rw [List.count_cons]
      by_cases hj : p = j
      · subst hj; simp; omega
      · have : ¬ ids[p] = ids[j] := fun e => hj (inj ids hs hp h'' e)
        simp [hj, this]
theorem count_map (ids : List Int) (hs : ids.Pairwise (· < ·)) {j : Nat} (hj : j < ids.length) : ∀ (b : List Int), (∀ x ∈ b, 0 ≤ x ∧ x < (ids.length : Int)) → (b.map (rd e_i64 ids)).count ids[j] = b.count (j : Int)
  | [], _ => rfl
  | x :: b, h => by
    obtain ⟨h1, h2⟩ := h x (by simp)
    have ih := count_map ids hs hj b (fun y hy => h y (by simp [hy]))
    rw [List.map_cons, List.count_cons, List.count_cons, ih, rd_int e_i64 ids h1 (by omega)]
    congr 1
    by_cases hx : x = j
    · subst hx; simp
    · have : ¬ ids[x.toNat] = ids[j] := fun e => hx (by have := inj ids hs (by omega) hj e; omega)
      simp [hx, this]
theorem block_count (o : List Int) (a s : Nat) (x : Int) : (o.take ((a + 1) * s)).count x = (o.take (a * s)).count x + (block o a s).count x := by
  have : (o.take ((a + 1) * s)).take (a * s) = o.take (a * s) := by
    rw [List.take_take, Nat.min_eq_left]; exact Nat.mul_le_mul_right _ (by omega)
  rw [block]
  conv => lhs; rw [← List.take_append_drop (a * s) (o.take ((a + 1) * s))]
  rw [List.count_append, this]
theorem ord_count {n : Nat} (hn : n ≤ 1024) (seed r : Int) (k : Nat) (j : Nat) : ((ord n seed r).take k).count (j : Int) ≤ 1 := by
  have h1 : ((ord n seed r).take k).count (j : Int) ≤ (ord n seed r).count (j : Int) := (List.take_sublist _ _).count_le _
  have h2 := (ord_perm hn seed r).count_eq (j : Int)
  have h3 : ((List.range n).map Int.ofNat).count (j : Int) ≤ 1 := by
    have : ((List.range n).map Int.ofNat).Nodup := by
      rw [List.nodup_iff_pairwise_ne, List.pairwise_map]
      exact (List.nodup_range (n := n)).imp fun h e => h (Int.ofNat.inj e)
    exact List.nodup_iff_count.1 this _
  omega
/-- the clients one behind the other -/
theorem counts_l0 (ids : List Int) (s C : Nat) (seed : Int) (hn : ids.length ≤ 32) (hs1 : 1 ≤ s) (hsn : s < ids.length) (hs : ids.Pairwise (· < ·)) (hck : ∀ k, 32 < k → subset_dealer_check.f k ⟨ids, s, seed⟩ = some 0) (hC : C ≤ 1000) : ∀ (m c : Nat) (out : List Int), c + m = C → out.length = ids.length →
    (∀ (j : Nat) (h : j < out.length), 0 ≤ out[j] ∧ out[j] ≤ (c / (ids.length / s) : Nat) + ((ord ids.length seed (c / (ids.length / s) : Nat)).take ((c % (ids.length / s)) * s)).count (j : Int)) → out.sum = c * s →
    ∃ out', (∀ k, 60 + m < k → subset_Counts.l0 k ids C s seed c out = some out') ∧ out'.length = ids.length ∧ out'.sum = C * s ∧ ∀ (j : Nat) (h : j < out'.length), 0 ≤ out'[j] ∧ out'[j] ≤ (C / (ids.length / s) : Nat) + ((ord ids.length seed (C / (ids.length / s) : Nat)).take ((C % (ids.length / s)) * s)).count (j : Int)
  | 0, c, out, h1, h2, h3, h4 => by
    obtain rfl : c = C := by omega
    refine ⟨out, fun k hk => ?_, h2, h4, h3⟩
    cases k with
    | zero => omega
    | succ k => rw [subset_Counts.l0, if_neg (by omega)]
  | m + 1, c, out, h1, h2, h3, h4 => by
    have hd : 1 ≤ ids.length / s := (Nat.one_le_div_iff (by omega)).2 (by omega)
    have hdn : ids.length / s ≤ ids.length := Nat.div_le_self _ _
    obtain ⟨l, hof, hperm⟩ := of_ok ids s seed hn hs1 hsn hck (c := c) (by omega)
    have hat : c % (ids.length / s) < ids.length / s := Nat.mod_lt _ (by omega)
    have hm1 : (c % (ids.length / s) + 1) * s ≤ ids.length := by
      have : (c % (ids.length / s) + 1) * s ≤ (ids.length / s) * s := Nat.mul_le_mul_right _ hat
      exact Nat.le_trans this (Nat.div_mul_le_self _ _)
    have hm' : c % (ids.length / s) * s + s = (c % (ids.length / s) + 1) * s := by rw [Nat.add_mul, Nat.one_mul]
    have hcd : c / (ids.length / s) ≤ c := Nat.div_le_self _ _
    have hpo := ord_perm (n := ids.length) (by omega) seed (c / (ids.length / s) : Nat)
    have hol : (ord ids.length seed (c / (ids.length / s) : Nat)).length = ids.length := by rw [hpo.length_eq]; simp
    have hbl : (block (ord ids.length seed (c / (ids.length / s) : Nat)) (c % (ids.length / s)) s).length = s := by
      rw [block, List.length_drop, List.length_take, hol]; omega
    have hbm : ∀ x ∈ block (ord ids.length seed (c / (ids.length / s) : Nat)) (c % (ids.length / s)) s, 0 ≤ x ∧ x < (ids.length : Int) := fun x hx => by
      have h2 := hpo.mem_iff.1 (List.mem_of_mem_take (List.mem_of_mem_drop hx))
      obtain ⟨y, hy, rfl⟩ := List.mem_map.1 h2
      have := List.mem_range.1 hy
      exact ⟨by simp, by simpa using this⟩
    have hll : l.length = s := by rw [hperm.length_eq, List.length_map, hbl]
    have hlm : ∀ x ∈ l, x ∈ ids := fun x hx => by
      obtain ⟨y, hy, rfl⟩ := List.mem_map.1 (hperm.mem_iff.1 hx)
      exact rd_mem e_i64 ids (hbm y hy).1 (hbm y hy).2
    have hbound : ∀ (j : Nat) (h : j < out.length), 0 ≤ out[j] ∧ out[j] ≤ 1000000 + (0 : Nat) := fun j h => by
      have q1 := h3 j h
      have q2 := ord_count (n := ids.length) (by omega) seed (c / (ids.length / s) : Nat) ((c % (ids.length / s)) * s) j
      generalize c / (ids.length / s) = q at hcd q1 q2
      omega
    obtain ⟨out1, p1, p2, p3, p4⟩ := counts_l1 ids hn hs l (by omega) hlm s 0 out (by omega) h2 hbound
    have hval : ∀ (j : Nat) (h : j < out1.length) (h' : j < out.length), out1[j] = out[j] + ((block (ord ids.length seed (c / (ids.length / s) : Nat)) (c % (ids.length / s)) s).count (j : Int) : Nat) := fun j h h' => by
      rw [p4 j h h' (by omega), List.drop_zero, hperm.count_eq, count_map ids hs (by omega) _ hbm]
    obtain ⟨out', q1, q2, q3, q4⟩ := counts_l0 ids s C seed hn hs1 hsn hs hck hC m (c + 1) out1 (by omega) p2 (fun j h => by
      have h' : j < out.length := by omega
      have e1 := hval j h h'
      have e2 := h3 j h'
      have e3 := block_count (ord ids.length seed (c / (ids.length / s) : Nat)) (c % (ids.length / s)) s (j : Int)
      have e4 := ord_count (n := ids.length) (by omega) seed (c / (ids.length / s) : Nat) ((c % (ids.length / s) + 1) * s) j
      rcases Nat.lt_or_ge (c % (ids.length / s) + 1) (ids.length / s) with hlt | hge
      · have d1 : (c + 1) / (ids.length / s) = c / (ids.length / s) := by
          have := Nat.div_add_mod c (ids.length / s)
          refine Nat.div_eq_of_lt_le ?_ ?_
          · rw [Nat.mul_comm]; omega
          · rw [Nat.add_mul, Nat.mul_comm]; omega
        have d2 : (c + 1) % (ids.length / s) = c % (ids.length / s) + 1 := by
          have a1 := Nat.div_add_mod c (ids.length / s)
          have a2 := Nat.div_add_mod (c + 1) (ids.length / s)
          rw [d1] at a2; omega
        rw [d1, d2]
        generalize c / (ids.length / s) = q at *
        omega
      · have d0 : c % (ids.length / s) + 1 = ids.length / s := by omega
        have d1 : (c + 1) / (ids.length / s) = c / (ids.length / s) + 1 := by
          have := Nat.div_add_mod c (ids.length / s)
          refine Nat.div_eq_of_lt_le ?_ ?_
          · rw [Nat.add_mul, Nat.mul_comm]; omega
          · rw [Nat.add_mul, Nat.add_mul, Nat.mul_comm]; omega
        have d2 : (c + 1) % (ids.length / s) = 0 := by
          have a1 := Nat.div_add_mod c (ids.length / s)
          have a2 := Nat.div_add_mod (c + 1) (ids.length / s)
          rw [d1, Nat.mul_add] at a2; omega
        rw [d1, d2]
        simp only [Nat.zero_mul, List.take_zero, List.count_nil]
        generalize c / (ids.length / s) = q at *
        omega) (by rw [p3, h4]; rw [show ((c + 1 : Nat) : Int) = (c : Int) + 1 by omega, Int.add_mul]; omega)
    refine ⟨out', fun k hk => ?_, q2, q3, q4⟩
    cases k with
    | zero => omega
    | succ k =>
      rw [subset_Counts.l0, if_pos (by omega), hof k (by omega)]
      have p1' := p1 k (by omega)
      simp only [Option.bind_some]
      have p1'' : subset_Counts.l1 k ids l 0 out = some out1 := p1'
      rw [p1'']
      simp only [Option.bind_some]
      rw [W_eq (by omega) (by omega)]
      exact q1 k (by omega)
end Go.Proofs.Ythlogangnppghaa.M

/- What came and what went: numbers of one list that are not in another, each once, rising. -/
set_option linter.unusedVariables false
set_option linter.unusedSimpArgs false
namespace Go.Proofs.Ythlogangnppghaa.M
open Go Go.Proofs.Ythlogangnppghaa.Sl

theorem index_l0 (l : List Int) (v : Int) (hl : l.length < 9000000000000000000) : ∀ (m i k : Nat), i + m = l.length → m < k → ∃ r, slices_Index_int_int.l0 k l v i = some r ∧ (0 ≤ r ↔ v ∈ l.drop i)
  | 0, i, k + 1, h1, h2 => by
    refine ⟨-1, by rw [slices_Index_int_int.l0, if_neg (by omega)], ?_⟩
    rw [List.drop_of_length_le (by omega)]; simp
  | m + 1, i, k + 1, h1, h2 => by
    have hlt : i < l.length := by omega
    have hr : rd e_i64 l (i : Int) = l[i] := rd_nat _ _ i hlt
    rw [slices_Index_int_int.l0, if_pos (by omega), if_pos (by omega), hr, List.drop_eq_getElem_cons hlt]
    by_cases hv : v = l[i]
    · exact ⟨i, by rw [if_pos hv], ⟨fun _ => by rw [hv]; exact List.mem_cons_self, fun _ => by omega⟩⟩
    · obtain ⟨r, h3, h4⟩ := index_l0 l v hl m (i + 1) k (by omega) (by omega)
      refine ⟨r, by rw [if_neg hv, W_eq (by omega) (by omega)]; exact h3, ?_⟩
      rw [h4, List.mem_cons]
      exact ⟨Or.inr, fun h => h.resolve_left hv⟩
theorem contains_ok (l : List Int) (v : Int) (hl : l.length < 9000000000000000000) {k : Nat} (hk : l.length < k) : slices_Contains_int_int.f k l v = some (decide (v ∈ l)) := by
  obtain ⟨r, h1, h2⟩ := index_l0 l v hl l.length 0 k (by omega) hk
  have h1' : slices_Index_int_int.f k l v = some r := h1
  rw [slices_Contains_int_int.f, h1']
  simp only [Option.bind_some, Option.some.injEq, decide_eq_decide]
  simpa using h2
theorem without_l1 (no z : List Int) (hz : z.length < 9000000000000000000) (hno : no.length < 9000000000000000000) : ∀ (m i j k : Nat) (a : List Int), j + m = z.length → i ≤ j → a.length = z.length → a.drop j = z.drop j → m + no.length < k →
    ∃ (i' : Nat) (a' : List Int), subset_without.l1 k no z i j a = some ((i' : Int), a') ∧ i' ≤ z.length ∧ a'.length = z.length ∧ a'.take i' = a.take i ++ (z.drop j).filter (fun x => !decide (x ∈ no))
  | 0, i, j, k + 1, a, h1, h2, h3, h4, h5 => by
    refine ⟨i, a, by rw [subset_without.l1, if_neg (by omega)], by omega, h3, ?_⟩
    rw [List.drop_of_length_le (by omega)]; simp
  | m + 1, i, j, k + 1, a, h1, h2, h3, h4, h5 => by
    have hlt : j < a.length := by omega
    have hltz : j < z.length := by omega
    have hr : rd e_i64 a (j : Int) = a[j] := rd_nat _ _ j hlt
    have haz : a[j] = z[j] := by
      have e1 := List.drop_eq_getElem_cons hlt
      have e2 := List.drop_eq_getElem_cons hltz
      rw [h4, e2] at e1
      exact (List.cons.inj e1).1.symm
    have hdr : a.drop (j + 1) = z.drop (j + 1) := by
      have e1 := List.drop_eq_getElem_cons hlt
      have e2 := List.drop_eq_getElem_cons hltz
      rw [h4, e2] at e1
      exact (List.cons.inj e1).2.symm
    rw [subset_without.l1, if_pos (by omega), if_pos (by omega), hr, contains_ok no a[j] hno (by omega)]
    simp only [Option.bind_some]
    rw [List.drop_eq_getElem_cons hltz, ← haz]
    by_cases hm : a[j] ∈ no
    · simp only [hm, decide_true, if_true, Option.bind_some]
      rw [W_eq (by omega) (by omega)]
      obtain ⟨i', a', q1, q2, q3, q4⟩ := without_l1 no z hz hno m i (j + 1) k a (by omega) (by omega) h3 hdr (by omega)
      refine ⟨i', a', q1, q2, q3, ?_⟩
      rw [q4, List.filter_cons_of_neg (by simp [hm])]
    · simp only [hm, decide_false, Bool.false_eq_true, if_false]
      rw [if_pos (by omega), if_pos (by omega)]
      simp only [Option.bind_some, Int.toNat_natCast]
      rw [W_eq (by omega) (by omega), W_eq (by omega) (by omega)]
      obtain ⟨i', a', q1, q2, q3, q4⟩ := without_l1 no z hz hno m (i + 1) (j + 1) k (a.set i a[j]) (by omega) (by omega) (by simpa using h3) (by rw [List.drop_set_of_lt (by omega)]; exact hdr) (by omega)
      refine ⟨i', a', q1, q2, q3, ?_⟩
      rw [q4, List.filter_cons_of_pos (by simp [hm]), List.take_succ_eq_append_getElem (by simp; omega), List.take_set_of_le (Nat.le_refl _)]
      simp
theorem without_ok (l no : List Int) (hl : l.length < 17592186044416) (hno : no.length < 17592186044416) {k : Nat} (hk : l.length + no.length + 10 < k) :
    subset_without.f k l no = some (Lib.compact ((l.filter fun x => !decide (x ∈ no)).mergeSort fun a b => decide (a ≤ b))) := by
  have hend : ∀ (z : List Int), z.length < 17592186044416 → ((slices_Sort_int_int.f z).bind fun z55t => ((slices_Compact_int_int.f z55t).bind fun z57t => (some z57t))) = some (Lib.compact (z.mergeSort fun a b => decide (a ≤ b))) := by
    intro z hz
    rw [slices_Sort_int_int.f, if_pos (by omega)]
    simp only [Option.bind_some]
    rw [slices_Compact_int_int.f, if_pos (by rw [List.length_mergeSort]; omega)]
    rfl
  have hl0 : ∀ (m i k : Nat), i + m = l.length → m + no.length + 1 < k → (l.take i).filter (fun x => !decide (x ∈ no)) = l.take i →
      subset_without.l0 k no l i = some (Lib.compact ((l.filter fun x => !decide (x ∈ no)).mergeSort fun a b => decide (a ≤ b))) := by
    intro m
    induction m with
    | zero =>
      intro i k h1 h2 h3
      obtain ⟨k, rfl⟩ : ∃ j, k = j + 1 := ⟨k - 1, by omega⟩
      rw [subset_without.l0, if_neg (by omega), hend l hl]
      rw [List.take_of_length_le (by omega)] at h3
      rw [h3]
    | succ m ih =>
      intro i k h1 h2 h3
      obtain ⟨k, rfl⟩ : ∃ j, k = j + 1 := ⟨k - 1, by omega⟩
      have hlt : i < l.length := by omega
      have hr : rd e_i64 l (i : Int) = l[i] := rd_nat _ _ i hlt
      rw [subset_without.l0, if_pos (by omega), if_pos (by omega), hr, contains_ok no l[i] (by omega) (by omega)]
      simp only [Option.bind_some]
      by_cases hm : l[i] ∈ no
      · simp only [hm, decide_true, if_true]
        rw [if_neg (by omega), W_eq (by omega) (by omega)]
        obtain ⟨i', a', q1, q2, q3, q4⟩ := without_l1 no l (by omega) (by omega) m i (i + 1) k l (by omega) (by omega) rfl rfl (by omega)
        have q1' : subset_without.l1 k no l i ((i : Int) + 1) l = some ((i' : Int), a') := by rw [← q1]; congr 1
        rw [q1']
        simp only [Option.bind_some, Int.toNat_natCast]
        rw [if_pos (by omega), if_pos (by omega), if_pos q2]
        have e1 : (a'.take i' ++ List.replicate (a'.drop i').length e_i64.z).take i' = a'.take i' := by
          rw [List.take_append_of_le_length (by rw [List.length_take]; omega), List.take_take, Nat.min_self]
        have hfl : a'.take i' = l.filter (fun x => !decide (x ∈ no)) := by
          rw [q4, ← h3]
          conv => rhs; rw [← List.take_append_drop i l, List.filter_append, List.drop_eq_getElem_cons hlt, List.filter_cons_of_neg (by simp [hm])]
        have hlen : (a'.take i').length = i' := by rw [List.length_take]; omega
        rw [e1, slices_Sort_int_int.f, if_pos (by omega)]
        simp only [Option.bind_some]
        rw [List.take_of_length_le (by rw [List.length_mergeSort]; omega), slices_Compact_int_int.f, if_pos (by rw [List.length_mergeSort]; omega), hfl]
        rfl
      · simp only [hm, decide_false, Bool.false_eq_true, if_false]
        rw [W_eq (by omega) (by omega)]
        have := ih (i + 1) k (by omega) (by omega) (by
          rw [List.take_succ_eq_append_getElem hlt, List.filter_append, h3, List.filter_cons_of_pos (by simp [hm])]; rfl)
        rw [show ((i : Int) + 1) = ((i + 1 : Nat) : Int) by omega]; exact this
  rw [subset_without.f, slices_Clone_int_int.f, if_pos hl]
  simp only [Option.bind_some]
  exact hl0 l.length 0 k (by omega) (by omega) (by simp)
theorem compact_mem (zs : List Int) (x : Int) : x ∈ Lib.compact zs ↔ x ∈ zs := by
  unfold Lib.compact Lib.compactUpTo
  rw [List.mem_map]
  constructor
  · rintro ⟨j, hj, rfl⟩
    have := List.mem_range.1 (List.mem_filter.1 hj).1
    have hs : j < zs.toArray.size := by simpa using this
    rw [getElem!_pos zs.toArray j hs]; simp
  · intro hx
    obtain ⟨j0, h1, h2⟩ := List.getElem_of_mem hx
    obtain ⟨j, hj, hmin⟩ := least (fun j => ∃ h : j < zs.length, zs[j] = x) j0 ⟨h1, h2⟩
    obtain ⟨hlt, rfl⟩ := hj
    refine ⟨j, List.mem_filter.2 ⟨List.mem_range.2 hlt, ?_⟩, by rw [getElem!_pos zs.toArray j (by simpa using hlt)]; simp⟩
    unfold Lib.keeps
    cases j with
    | zero => simp
    | succ j =>
      have hne : ¬ zs[j] = zs[j + 1] := fun e => by have := hmin j ⟨by omega, e⟩; omega
      simp [getElem!_pos zs.toArray (j + 1) (by simpa using hlt), getElem!_pos zs.toArray j (by simp; omega)]
      first | exact fun e => hne e.symm | exact fun e => hne e | simp [hne, Ne.symm hne]
theorem compact_lt (zs : List Int) (hs : zs.Pairwise (· ≤ ·)) : (Lib.compact zs).Pairwise (· < ·) := by
  unfold Lib.compact Lib.compactUpTo
  rw [List.pairwise_map]
  refine (List.Pairwise.filter _ (List.pairwise_lt_range (n := zs.length))).imp_of_mem ?_
  intro i j hi hj hij
  obtain ⟨hi1, _⟩ := List.mem_filter.1 hi
  obtain ⟨hj1, hk⟩ := List.mem_filter.1 hj
  have hi2 := List.mem_range.1 hi1
  have hj2 := List.mem_range.1 hj1
  have hle : ∀ (a b : Nat) (ha : a < zs.length) (hb : b < zs.length), a ≤ b → zs[a] ≤ zs[b] := fun a b ha hb hab => by
    rcases Nat.lt_or_ge a b with h | h
    · exact List.pairwise_iff_getElem.1 hs a b ha hb h
    · have : a = b := by omega
      subst this; exact Int.le_refl _
  rw [getElem!_pos zs.toArray i (by simpa using hi2), getElem!_pos zs.toArray j (by simpa using hj2)]
  simp only [List.getElem_toArray]
  have h1 := hle i (j - 1) hi2 (by omega) (by omega)
  have h2 := hle (j - 1) j (by omega) hj2 (by omega)
  have hne : ¬ zs[j] = zs[j - 1] := by
    unfold Lib.keeps at hk
    rw [getElem!_pos zs.toArray j (by simpa using hj2), getElem!_pos zs.toArray (j - 1) (by simp; omega)] at hk
    simp at hk
    rcases hk with h | h
    · omega
    · first | exact h | exact fun e => h e.symm
  omega
/-- what a list has that another one hasn't: each once, rising -/
def less (l no : List Int) : List Int := Lib.compact ((l.filter fun x => !decide (x ∈ no)).mergeSort fun a b => decide (a ≤ b))
theorem less_mem (l no : List Int) (x : Int) : x ∈ less l no ↔ x ∈ l ∧ x ∉ no := by
  rw [less, compact_mem, List.mem_mergeSort, List.mem_filter]; simp
theorem less_lt (l no : List Int) : (less l no).Pairwise (· < ·) :=
  compact_lt _ ((List.pairwise_mergeSort (le := fun a b : Int => decide (a ≤ b)) (fun a b c h1 h2 => by simp at *; omega) (fun a b => by simp; omega) _).imp fun h => by simpa using h)
theorem change_ok (old ids : List Int) (h1 : old.length < 17592186044416) (h2 : ids.length < 17592186044416) {k : Nat} (hk : old.length + ids.length + 10 < k) : subset_Change.f k old ids = some (less ids old, less old ids) := by
  rw [subset_Change.f, without_ok ids old h2 h1 (by omega)]
  simp only [Option.bind_some]
  rw [without_ok old ids h1 h2 (by omega)]
  rfl
end Go.Proofs.Ythlogangnppghaa.M

/- The page's counts and changes answer as the program's. -/
set_option linter.unusedVariables false
set_option linter.unusedSimpArgs false
namespace Go.Proofs.Ythlogangnppghaa.M
open Go Go.Proofs.Ythlogangnppghaa.Sl

theorem rhas_l0 (l : List Int) (v : Int) (hl : l.length < 9000000000000000000) : ∀ (m i k : Nat), i + m = l.length → m < k → waybillref13_has.l0 k l v i = some (decide (v ∈ l.drop i))
  | 0, i, k + 1, h1, h2 => by
    rw [waybillref13_has.l0, if_neg (by omega), List.drop_of_length_le (by omega)]; simp
  | m + 1, i, k + 1, h1, h2 => by
    have hlt : i < l.length := by omega
    have hr : rd e_i64 l (i : Int) = l[i] := rd_nat _ _ i hlt
    rw [waybillref13_has.l0, if_pos (by omega), if_pos (by omega), hr, List.drop_eq_getElem_cons hlt]
    by_cases hv : l[i] = v
    · rw [if_pos hv, ← hv, decide_eq_true List.mem_cons_self]
    · rw [if_neg hv, W_eq (by omega) (by omega)]
      have := rhas_l0 l v hl m (i + 1) k (by omega) (by omega)
      rw [show ((i : Int) + 1) = ((i + 1 : Nat) : Int) by omega, this]
      have hv' : ¬ v = l[i] := fun e => hv e.symm
      congr 1
      rw [decide_eq_decide, List.mem_cons]
      exact ⟨Or.inr, fun h => h.resolve_left hv'⟩
theorem rhas_ok (l : List Int) (v : Int) (hl : l.length < 9000000000000000000) {k : Nat} (hk : l.length < k) : waybillref13_has.f k l v = some (decide (v ∈ l)) := by
  rw [waybillref13_has.f]
  exact rhas_l0 l v hl l.length 0 k (by omega) hk
/-- one client, counted by the page -/
theorem rcounts_l1 (ids : List Int) (hn : ids.length ≤ 32) (l : List Int) (hl : l.length ≤ 1024) : ∀ (m i : Nat) (out : List Int), i + m = ids.length → out.length = ids.length → (∀ (j : Nat) (h : j < out.length), i ≤ j → 0 ≤ out[j] ∧ out[j] ≤ 1000000) →
    ∃ out', (∀ k, 1100 + m < k → waybillref13_Counts.l1 k ids l i out = some out') ∧ out'.length = ids.length ∧ ∀ (j : Nat) (h : j < out'.length) (h2 : j < out.length) (h3 : j < ids.length), out'[j] = if i ≤ j ∧ ids[j] ∈ l then out[j] + 1 else out[j]
  | 0, i, out, h1, h2, h3 => by
    refine ⟨out, fun k hk => ?_, h2, fun j h h' h'' => by rw [if_neg (by omega)]⟩
    cases k with
    | zero => omega
    | succ k => rw [waybillref13_Counts.l1, if_neg (by omega)]
  | m + 1, i, out, h1, h2, h3 => by
    have hlt : i < ids.length := by omega
    have hlo : i < out.length := by omega
    have hr : rd e_i64 ids (i : Int) = ids[i] := rd_nat _ _ i hlt
    have hro : rd e_i64 out (i : Int) = out[i] := rd_nat _ _ i hlo
    have hb := h3 i hlo (Nat.le_refl _)
    by_cases hm : ids[i] ∈ l
    · obtain ⟨out', q1, q2, q3⟩ := rcounts_l1 ids hn l hl m (i + 1) (out.set i (out[i] + 1)) (by omega) (by simpa using h2) (fun j h hj => by
        rw [List.getElem_set, if_neg (by omega)]
        exact h3 j (by simpa using h) (by omega))
      refine ⟨out', fun k hk => ?_, q2, fun j h h' h'' => ?_⟩
      · cases k with
        | zero => omega
        | succ k =>
          rw [waybillref13_Counts.l1, if_pos (by omega), if_pos (by omega), hr, rhas_ok l ids[i] (by omega) (by omega)]
          simp only [Option.bind_some, hm, decide_true, if_true, Int.toNat_natCast]
          rw [if_pos (by omega)]
          simp only [Option.bind_some]
          rw [hro, W_eq (x := (i : Int) + 1) (by omega) (by omega), W_eq (by omega) (by omega), show ((i : Int) + 1) = ((i + 1 : Nat) : Int) by omega]
          exact q1 k (by omega)
      · rw [q3 j h (by simpa using h') h'', List.getElem_set]
        by_cases hj : i = j
        · subst hj
          rw [if_neg (by omega), if_pos rfl, if_pos ⟨Nat.le_refl _, hm⟩]
        · rw [if_neg hj]
          by_cases hm2 : ids[j] ∈ l
          · rcases Nat.lt_or_ge i j with q | q
            · rw [if_pos ⟨by omega, hm2⟩, if_pos ⟨by omega, hm2⟩]
            · rw [if_neg (by omega), if_neg (by omega)]
          · rw [if_neg (fun e => hm2 e.2), if_neg (fun e => hm2 e.2)]
    · obtain ⟨out', q1, q2, q3⟩ := rcounts_l1 ids hn l hl m (i + 1) out (by omega) h2 (fun j h hj => h3 j h (by omega))
      refine ⟨out', fun k hk => ?_, q2, fun j h h' h'' => ?_⟩
      · cases k with
        | zero => omega
        | succ k =>
          rw [waybillref13_Counts.l1, if_pos (by omega), if_pos (by omega), hr, rhas_ok l ids[i] (by omega) (by omega)]
          simp only [Option.bind_some, hm, decide_false, Bool.false_eq_true, if_false]
          rw [W_eq (x := (i : Int) + 1) (by omega) (by omega), show ((i : Int) + 1) = ((i + 1 : Nat) : Int) by omega]
          exact q1 k (by omega)
      · rw [q3 j h h' h'']
        by_cases hj : i = j
        · subst hj
          rw [if_neg (by omega), if_neg (fun e => hm e.2)]
        · by_cases hm2 : ids[j] ∈ l
          · rcases Nat.lt_or_ge i j with q | q
            · rw [if_pos ⟨by omega, hm2⟩, if_pos ⟨by omega, hm2⟩]
            · rw [if_neg (by omega), if_neg (by omega)]
          · rw [if_neg (fun e => hm2 e.2), if_neg (fun e => hm2 e.2)]
theorem of_of {k : Nat} {ids : List Int} {c s seed : Int} {l : List Int} {e : Int} (h : subset_Of.f k ids c s seed = some (l, e)) : subset_dealer_of.f k ⟨ids, s, seed⟩ c = some (l, e) := by
  rw [subset_Of.f] at h
  cases hq : subset_dealer_of.f k ⟨ids, s, seed⟩ c with
  | none => rw [hq] at h; cases h
  | some p => obtain ⟨a, b⟩ := p; rw [hq] at h; simp only [Option.bind_some] at h; exact h
/-- the clients one behind the other, by both -/
theorem counts2_l0 (ids : List Int) (s seed : Int) (C : Nat) (hn : ids.length ≤ 32) (hR : Rise ids) (hC : C ≤ 256) : ∀ (m c : Nat) (out : List Int), c + m = C → out.length = ids.length → (∀ (j : Nat) (h : j < out.length), 0 ≤ out[j] ∧ out[j] ≤ c) →
    ∃ out' : List Int, (∀ k, 2000 + m < k → subset_Counts.l0 k ids C s seed c out = some out' ∧ waybillref13_Counts.l0 k ids C s seed c out = some out') ∧ out'.length = ids.length
  | 0, c, out, h1, h2, h3 => by
    refine ⟨out, fun k hk => ?_, h2⟩
    cases k with
    | zero => omega
    | succ k => rw [subset_Counts.l0, waybillref13_Counts.l0, if_neg (by omega), if_neg (by omega)]; exact ⟨rfl, rfl⟩
  | m + 1, c, out, h1, h2, h3 => by
    obtain ⟨l, e, hof, hl, hnd, hmem, -⟩ := of2 ids c s seed
    obtain ⟨out1, p1, p2, p3, p4⟩ := counts_l1 ids hn hR.2 l hl hmem l.length 0 out (by omega) h2 (fun j h => by have := h3 j h; omega)
    obtain ⟨out2, r1, r2, r3⟩ := rcounts_l1 ids hn l hl ids.length 0 out (by omega) h2 (fun j h _ => by have := h3 j h; omega)
    have hval : ∀ (j : Nat) (h : j < out1.length), out1[j] = if ids[j]'(by omega) ∈ l then out[j]'(by omega) + 1 else out[j]'(by omega) := fun j h => by
      rw [p4 j h (by omega) (by omega), List.drop_zero]
      have h1 := List.nodup_iff_count.1 hnd (ids[j]'(by omega))
      by_cases hm : ids[j]'(by omega) ∈ l
      · have h2 := List.count_pos_iff.2 hm
        rw [if_pos hm]; omega
      · rw [if_neg hm, List.count_eq_zero.2 hm]; omega
    have heq : out1 = out2 := by
      apply List.ext_getElem (by omega)
      intro j h h'
      rw [hval j h, r3 j h' (by omega) (by omega)]
      simp
    obtain ⟨out', q1, q2⟩ := counts2_l0 ids s seed C hn hR hC m (c + 1) out1 (by omega) p2 (fun j h => by
      have := h3 j (by omega)
      rw [hval j h]
      split <;> omega)
    refine ⟨out', fun k hk => ?_, q2⟩
    cases k with
    | zero => omega
    | succ k =>
      obtain ⟨o1, o2⟩ := hof k (by omega)
      have p1' : subset_Counts.l1 k ids l 0 out = some out1 := p1 k (by omega)
      have r1' : waybillref13_Counts.l1 k ids l 0 out = some out1 := by rw [heq]; exact r1 k (by omega)
      obtain ⟨s1, s2⟩ := q1 k (by omega)
      constructor
      · rw [subset_Counts.l0, if_pos (by omega), of_of o1]
        simp only [Option.bind_some, p1']
        rw [W_eq (by omega) (by omega)]
        exact s1
      · rw [waybillref13_Counts.l0, if_pos (by omega), o2]
        simp only [Option.bind_some, r1']
        rw [W_eq (by omega) (by omega)]
        exact s2
theorem counts2 (ids : List Int) (n s seed : Int) : ∃ (l : List Int) (e : Int), l.length ≤ 32 ∧ ∀ k, 3000 < k → subset_Counts.f k ids n s seed = some (l, e) ∧ waybillref13_Counts.f k ids n s seed = some (l, e) := by
  obtain ⟨l0, e, hof, -, -, -, hok⟩ := of2 ids 0 s seed
  by_cases he : ¬ e = 0
  · refine ⟨[], e, by simp, fun k hk => ?_⟩
    obtain ⟨o1, o2⟩ := hof k (by omega)
    rw [subset_Counts.f, waybillref13_Counts.f, of_of o1, o2]
    simp only [Option.bind_some]
    rw [if_neg he, if_neg he]; exact ⟨rfl, rfl⟩
  have he : e = 0 := Classical.not_not.1 he
  subst he
  obtain ⟨hn, hR⟩ := hok rfl
  by_cases hb : n < 0 ∨ 256 < n
  · refine ⟨[], 4, by simp, fun k hk => ?_⟩
    obtain ⟨o1, o2⟩ := hof k (by omega)
    rw [subset_Counts.f, waybillref13_Counts.f, of_of o1, o2]
    simp only [Option.bind_some, if_true]
    rcases hb with hb | hb
    · simp [hb]
    · simp [hb, show ¬ n < 0 by omega]
  obtain ⟨C, rfl⟩ := Int.eq_ofNat_of_zero_le (show 0 ≤ n by omega)
  obtain ⟨out', q1, q2⟩ := counts2_l0 ids s seed C hn hR (by omega) C 0 (List.replicate ids.length 0) (by omega) (by simp) (fun j h => by simp)
  refine ⟨out', 0, by omega, fun k hk => ?_⟩
  obtain ⟨o1, o2⟩ := hof k (by omega)
  obtain ⟨s1, s2⟩ := q1 k (by omega)
  have e1 : ¬ (C : Int) < 0 := by omega
  have e2 : ¬ (256 : Int) < C := by omega
  have s1' : subset_Counts.l0 k ids C s seed 0 (List.replicate ids.length e_i64.z) = some out' := s1
  have s2' : waybillref13_Counts.l0 k ids C s seed 0 (List.replicate ids.length e_i64.z) = some out' := s2
  rw [subset_Counts.f, waybillref13_Counts.f, of_of o1, o2]
  simp only [Option.bind_some, if_true, e1, e2, if_false, decide_false, Int.toNat_natCast]
  refine ⟨?_, ?_⟩
  · rw [if_neg (by simp), if_pos (by omega), if_pos (by omega), s1']; rfl
  · rw [if_neg (by simp), if_pos (by omega), if_pos (by omega), s2']; rfl
/-- what one list has that another one hasn't, by the page -/
theorem strict_eq : ∀ (l m : List Int), l.Pairwise (· < ·) → m.Pairwise (· < ·) → (∀ x, x ∈ l ↔ x ∈ m) → l = m := by
  intro l m h1 h2 h
  refine sorted_eq l m ?_ (h1.imp fun h => by omega) (h2.imp fun h => by omega)
  rw [List.perm_iff_count]
  intro x
  have a1 := List.nodup_iff_count.1 (h1.imp fun h => by omega : l.Nodup) x
  have a2 := List.nodup_iff_count.1 (h2.imp fun h => by omega : m.Nodup) x
  by_cases hx : x ∈ l
  · have b1 := List.count_pos_iff.2 hx
    have b2 := List.count_pos_iff.2 ((h x).1 hx)
    omega
  · rw [List.count_eq_zero.2 hx, List.count_eq_zero.2 (fun q => hx ((h x).2 q))]
theorem nodup_sorted {l : List Int} (h : l.Nodup) : (l.mergeSort fun a b => decide (a ≤ b)).Pairwise (· < ·) := by
  have h1 := mergeSort_le l
  have h2 : (l.mergeSort fun a b => decide (a ≤ b)).Nodup := (List.mergeSort_perm l _).nodup_iff.2 h
  exact (List.pairwise_and_iff.2 ⟨h1, h2⟩).imp fun h => by have := h.1; have := h.2; omega
theorem change_l0 (old ids : List Int) (ho : old.length < 17592186044416) (hi : ids.length < 17592186044416) : ∀ (m i k : Nat) (acc : List Int), i + m = ids.length → acc.length ≤ i → acc.Nodup → (∀ x, x ∈ acc ↔ x ∈ ids.take i ∧ x ∉ old) → old.length + ids.length + m < k →
    ∃ r, waybillref13_Change.l0 k old ids i acc = some r ∧ r.Nodup ∧ r.length ≤ ids.length ∧ ∀ x, x ∈ r ↔ x ∈ ids ∧ x ∉ old
  | 0, i, k + 1, acc, h1, h2, h3, h4, h5 => by
    refine ⟨acc, by rw [waybillref13_Change.l0, if_neg (by omega)], h3, by omega, fun x => ?_⟩
    rw [h4, List.take_of_length_le (by omega)]
  | m + 1, i, k + 1, acc, h1, h2, h3, h4, h5 => by
    have hlt : i < ids.length := by omega
    have hr : rd e_i64 ids (i : Int) = ids[i] := rd_nat _ _ i hlt
    have htk : ∀ x, x ∈ ids.take (i + 1) ↔ x ∈ ids.take i ∨ x = ids[i] := fun x => by
      rw [List.take_succ_eq_append_getElem hlt, List.mem_append, List.mem_singleton]
    rw [waybillref13_Change.l0, if_pos (by omega), if_pos (by omega), hr, rhas_ok old ids[i] (by omega) (by omega)]
    simp only [Option.bind_some]
    by_cases ho' : ids[i] ∈ old
    · simp only [ho', decide_true, if_true, Option.bind_some, Bool.false_eq_true, if_false]
      rw [W_eq (by omega) (by omega), show ((i : Int) + 1) = ((i + 1 : Nat) : Int) by omega]
      refine change_l0 old ids ho hi m (i + 1) k acc (by omega) (by omega) h3 (fun x => ?_) (by omega)
      rw [h4, htk]
      constructor
      · rintro ⟨a, b⟩; exact ⟨.inl a, b⟩
      · rintro ⟨a | rfl, b⟩
        · exact ⟨a, b⟩
        · exact absurd ho' b
    · simp only [ho', decide_false, Bool.false_eq_true, if_false]
      rw [rhas_ok acc ids[i] (by omega) (by omega)]
      simp only [Option.bind_some]
      by_cases ha : ids[i] ∈ acc
      · simp only [ha, decide_true, Bool.not_true, Bool.false_eq_true, if_false, Option.bind_some]
        rw [W_eq (by omega) (by omega), show ((i : Int) + 1) = ((i + 1 : Nat) : Int) by omega]
        refine change_l0 old ids ho hi m (i + 1) k acc (by omega) (by omega) h3 (fun x => ?_) (by omega)
        rw [h4, htk]
        constructor
        · rintro ⟨a, b⟩; exact ⟨.inl a, b⟩
        · rintro ⟨a | rfl, b⟩
          · exact ⟨a, b⟩
          · exact (h4 _).1 ha
      · simp only [ha, decide_false, Bool.not_false, if_true]
        rw [if_pos (by omega), if_pos (by simp; omega)]
        simp only [Option.bind_some]
        rw [W_eq (by omega) (by omega), show ((i : Int) + 1) = ((i + 1 : Nat) : Int) by omega]
        refine change_l0 old ids ho hi m (i + 1) k (acc ++ [ids[i]]) (by omega) (by simp; omega) ?_ (fun x => ?_) (by omega)
        · rw [List.nodup_append]
          refine ⟨h3, by simp, fun x hx y hy => ?_⟩
          rw [List.mem_singleton] at hy
          subst hy
          exact fun e => ha (e ▸ hx)
        · rw [List.mem_append, List.mem_singleton, h4, htk]
          constructor
          · rintro (⟨a, b⟩ | rfl)
            · exact ⟨.inl a, b⟩
            · exact ⟨.inr rfl, ho'⟩
          · rintro ⟨a | rfl, b⟩
            · exact .inl ⟨a, b⟩
            · exact .inr rfl
theorem change_l1 : ∀ (k : Nat) (old ids : List Int) (i : Int) (acc : List Int), waybillref13_Change.l1 k old ids i acc = waybillref13_Change.l0 k ids old i acc
  | 0, _, _, _, _ => rfl
  | k + 1, old, ids, i, acc => by
    rw [waybillref13_Change.l1, waybillref13_Change.l0]
    simp only [change_l1 k]
theorem rchange_ok (old ids : List Int) (h1 : old.length < 17592186044416) (h2 : ids.length < 17592186044416) {k : Nat} (hk : 2 * (old.length + ids.length) + 10 < k) : waybillref13_Change.f k old ids = some (less ids old, less old ids) := by
  obtain ⟨a, a1, a2, a3, a4⟩ := change_l0 old ids h1 h2 ids.length 0 k [] (by omega) (by simp) List.nodup_nil (by simp) (by omega)
  obtain ⟨b, b1, b2, b3, b4⟩ := change_l0 ids old h2 h1 old.length 0 k [] (by omega) (by simp) List.nodup_nil (by simp) (by omega)
  have a1' : waybillref13_Change.l0 k old ids 0 [] = some a := a1
  have b1' : waybillref13_Change.l1 k old ids 0 [] = some b := by rw [change_l1]; exact b1
  rw [waybillref13_Change.f, a1']
  simp only [Option.bind_some, b1']
  rw [sorted_ok a (by omega) (by omega), sorted_ok b (by omega) (by omega)]
  simp only [Option.bind_some, Option.some.injEq, Prod.mk.injEq]
  exact ⟨strict_eq _ _ (nodup_sorted a2) (less_lt _ _) fun x => by rw [List.mem_mergeSort, a4, less_mem], strict_eq _ _ (nodup_sorted b2) (less_lt _ _) fun x => by rw [List.mem_mergeSort, b4, less_mem]⟩
end Go.Proofs.Ythlogangnppghaa.M

/- The page's example, as the translation's plain function: it answers true. -/
set_option linter.unusedVariables false
set_option linter.unusedSimpArgs false
namespace Go.Proofs.Ythlogangnppghaa.M
open Go Go.Proofs.Ythlogangnppghaa.Sl

theorem alive_ok {k : Nat} (hk : 40 < k) : waybilllaw13_alive.f k = some true := by
  obtain ⟨k, rfl⟩ : ∃ j, k = j + 5 := ⟨k - 5, by omega⟩
  have w (x : Int) (h1 : -100 ≤ x) (h2 : x ≤ 100) : IntKind.i64.wrap x = x := W_eq (by omega) (by omega)
  have hc : subset_dealer_check.f (k + 5) ⟨[1, 2, 3], 3, 0⟩ = some 0 := by
    simp [subset_dealer_check.f, subset_dealer_check.l0, w, rd]
  have hr : subset_Round.f 3 0 3 = some (0, 0, 0) := by simp [subset_Round.f]
  have hs : waybillplain_SameInts.f (k + 5) [1, 2, 3] [1, 2, 3] = some true := by
    simp [waybillplain_SameInts.f, waybillplain_SameInts.l0, w, rd]
  simp [waybilllaw13_alive.f, subset_Of.f, subset_dealer_of.f, hc, hr, subset_dealer_hand.f, slices_Clone_int_int.f, waybilllaw13_num.f, hs]
end Go.Proofs.Ythlogangnppghaa.M

/- The law SubsetTells, as the translation's plain function: it answers true. -/
set_option linter.unusedVariables false
set_option linter.unusedSimpArgs false
namespace Go.Proofs.Ythlogangnppghaa.M
open Go Go.Proofs.Ythlogangnppghaa.Sl

theorem same_l0 (a b : List Int) (hab : a.length = b.length) (hl : a.length < 9000000000000000000) : ∀ (m i k : Nat), i + m = a.length → m < k → waybillplain_SameInts.l0 k a b i = some (decide (a.drop i = b.drop i))
  | 0, i, k + 1, h1, h2 => by
    rw [waybillplain_SameInts.l0, if_neg (by omega), List.drop_of_length_le (by omega), List.drop_of_length_le (by omega)]; simp
  | m + 1, i, k + 1, h1, h2 => by
    have hlt : i < a.length := by omega
    have hlt2 : i < b.length := by omega
    have hr : rd e_i64 a (i : Int) = a[i] := rd_nat _ _ i hlt
    have hr2 : rd e_i64 b (i : Int) = b[i] := rd_nat _ _ i hlt2
    rw [waybillplain_SameInts.l0, if_pos (by omega), if_pos (by omega), if_pos (by omega), hr, hr2, List.drop_eq_getElem_cons hlt, List.drop_eq_getElem_cons hlt2]
    by_cases hv : a[i] = b[i]
    · rw [if_pos hv, W_eq (by omega) (by omega), show ((i : Int) + 1) = ((i + 1 : Nat) : Int) by omega, same_l0 a b hab hl m (i + 1) k (by omega) (by omega)]
      simp only [Option.some.injEq, decide_eq_decide, List.cons.injEq, hv, true_and]
    · rw [if_neg hv, decide_eq_false (fun h => hv (List.cons.inj h).1)]
theorem same_ok (a : List Int) (hl : a.length < 9000000000000000000) {k : Nat} (hk : a.length < k) : waybillplain_SameInts.f k a a = some true := by
  rw [waybillplain_SameInts.f, if_pos rfl]
  have := same_l0 a a rfl hl a.length 0 k (by omega) hk
  have this' : waybillplain_SameInts.l0 k a a 0 = _ := this
  rw [this']; simp
theorem round_total (n c s : Int) : ∃ x y z, subset_Round.f n c s = some (x, y, z) := by
  by_cases hb : n < 0 ∨ 32 < n ∨ c < 0 ∨ 1048576 < c ∨ s < 1 ∨ 32 < s
  · refine ⟨0, 0, 4, ?_⟩
    rw [subset_Round.f]
    by_cases q1 : n < 0
    · simp [q1]
    by_cases q2 : 32 < n
    · simp [q1, q2]
    by_cases q3 : c < 0
    · simp [q1, q2, q3]
    by_cases q4 : 1048576 < c
    · simp [q1, q2, q3, q4]
    by_cases q5 : s < 1
    · simp [q1, q2, q3, q4, q5]
    · have q6 : 32 < s := by omega
      simp [q1, q2, q3, q4, q5, q6]
  · obtain ⟨n, rfl⟩ := Int.eq_ofNat_of_zero_le (show 0 ≤ n by omega)
    obtain ⟨c, rfl⟩ := Int.eq_ofNat_of_zero_le (show 0 ≤ c by omega)
    obtain ⟨s, rfl⟩ := Int.eq_ofNat_of_zero_le (show 0 ≤ s by omega)
    rcases Nat.lt_or_ge s n with h | h
    · exact ⟨_, _, _, round_ok (by omega) (by omega) h (by omega)⟩
    · refine ⟨0, 0, 0, ?_⟩
      have e1 : ¬ (n : Int) < 0 := by omega
      have e2 : ¬ (32 : Int) < n := by omega
      have e3 : ¬ (c : Int) < 0 := by omega
      have e4 : ¬ (1048576 : Int) < c := by omega
      have e5 : ¬ (s : Int) < 1 := by omega
      have e6 : ¬ (32 : Int) < s := by omega
      rw [subset_Round.f]
      simp only [e1, e2, e3, e4, e5, e6, if_false, decide_false, Option.bind_some]
      rw [if_neg (by simp), if_pos (by omega)]
theorem tells_ok (ids other : List Int) (client size seed n : Int) (h1 : ids.length < 17592186044416) (h2 : other.length < 17592186044416) : ∃ k, waybilllaw13_SubsetTells.f k ids other client size seed n = some true := by
  obtain ⟨a, e, hof, ha, -, -, -⟩ := of2 ids client size seed
  obtain ⟨c, i, hcl, hco⟩ := counts2 ids n size seed
  obtain ⟨x, y, z, hrd⟩ := round_total n client size
  have l1 : (less other ids).length ≤ other.length := by
    rw [less]; refine Nat.le_trans (Lib.compact_length_le _) ?_; rw [List.length_mergeSort]; exact List.length_filter_le _ _
  have l2 : (less ids other).length ≤ ids.length := by
    rw [less]; refine Nat.le_trans (Lib.compact_length_le _) ?_; rw [List.length_mergeSort]; exact List.length_filter_le _ _
  obtain ⟨K, hK⟩ : ∃ K, K = 4000 + 2 * (ids.length + other.length) + c.length := ⟨_, rfl⟩
  refine ⟨K, ?_⟩
  obtain ⟨o1, o2⟩ := hof K (by omega)
  obtain ⟨c1, c2⟩ := hco K (by omega)
  have g1 := change_ok ids other h1 h2 (k := K) (by omega)
  have g2 := rchange_ok ids other h1 h2 (k := K) (by omega)
  · have s1 := same_ok a (by omega) (k := K) (by omega)
    have s2 := same_ok c (by omega) (k := K) (by omega)
    have s3 := same_ok (less other ids) (by omega) (k := K) (by omega)
    have s4 := same_ok (less ids other) (by omega) (k := K) (by omega)
    have s5 := same_ok ids (by omega) (k := K) (by omega)
    have hal := alive_ok (k := K) (by omega)
    have hcopy : waybillplain_CopyInts.f ids = some ids := by rw [waybillplain_CopyInts.f, if_pos (by simpa using h1)]; rfl
    rw [waybilllaw13_SubsetTells.f, hcopy]
    simp only [Option.bind_some, o1, o2, hrd, round_eq, c1, c2, g1, g2, s1, s2, s3, s4, s5, hal, waybilllaw13_num.f, if_true]
    simp
end Go.Proofs.Ythlogangnppghaa.M

/- The row of the law SubsetTells: whatever the input, the call ends, answers true, and what came in reads as it did. It stands on the walk of the law's code (F5) and on the plain law. -/
namespace Go.Proofs.Ythlogangnppghaa.subsetTells
open Go Go.ChangeShapes Go.WideShapes Go.ChangeAt Go.RowKit Go.Proofs Go.Proofs.Ythlogangnppghaa.Sl Go.Proofs.Ythlogangnppghaa.M
set_option linter.unusedVariables false
theorem own : ownKnob Try.prog.godebug = none := by kernel_rfl
theorem laidOut : laidOutB Try.prog = true := by kernel_rfl
set_option maxRecDepth 100000 in
theorem lifted (os : Os) (started : os.Started) (H : Type) (enc : TypeId × Value → H) :
    ReturnsInHanded {} Try.checked os 5 .any (Rows.subsetTellsSpec.pre6 enc Try.prog Try.f5 Rows.subsetTellsRow.domain false) (Rows.subsetTellsSpec.post enc Try.prog Try.f5 false true false false) := by
  refine returnsInHanded_of_change_sized (C := Try.checked) own started (by kernel_rfl) Try.func5
    (ChangeSpec.witness6 (enc := enc) (C := Try.checked) false ⟨#[], #[.slice none 0 0, .slice none 0 0, .int .i64 0, .int .i64 0, .int .u64 0, .int .i64 0], []⟩ 8 (by kernel_rfl) (by kernel_rfl) (by kernel_rfl) (by kernel_rfl)) ?_
  intro W base args ds gs before hval0 hW hcnd hsz0 _
  have hsz : (DataW.weightsEach Try.prog (Try.f5.params.toList ++ Rows.subsetTellsSpec.plain.varTypes Try.prog) (ds ++ gs)).all (· ≤ reachBytes) = true := hsz0
  have hval : ∀ (j : Nat) t v, Try.f5.params[j]? = some t → args[j]? = some v → Value.okWide Try.prog W .any base t v := hval0
  have hW' := hW
  obtain ⟨p, q, hA0, hV, rfl, hfz, hnd⟩ := hW
  have hA : DataW.TrodAll enc Try.prog W 0 (fun _ => true) true Try.f5.params.toList args.toList ds p := hA0
  rw [show Try.f5.params = #[22, 22, 3, 3, 23, 3] by kernel_rfl] at hA hval hsz
  obtain ⟨v0, vs0, d0, ds0, p0, q0, hargs, rfl, rfl, h0, r0⟩ := trodAll_cons hA
  obtain ⟨v1, vs1, d1, ds1, p1, q1, rfl, rfl, rfl, h1, r1⟩ := trodAll_cons r0
  obtain ⟨v2, vs2, d2, ds2, p2, q2, rfl, rfl, rfl, h2, r2⟩ := trodAll_cons r1
  obtain ⟨v3, vs3, d3, ds3, p3, q3, rfl, rfl, rfl, h3, r3⟩ := trodAll_cons r2
  obtain ⟨v4, vs4, d4, ds4, p4, q4, rfl, rfl, rfl, h4, r4⟩ := trodAll_cons r3
  obtain ⟨v5, vs5, d5, ds5, p5, q5, rfl, rfl, rfl, h5, r5⟩ := trodAll_cons r4
  obtain ⟨rfl, rfl, rfl⟩ := trodAll_nil r5
  obtain rfl : args = #[v0, v1, v2, v3, v4, v5] := by cases args; simp_all
  obtain ⟨rfl, rfl⟩ := trodVars_none hV
  obtain ⟨a0, len0, cap0, rfl⟩ := okWide_slice (by kernel_rfl : Try.prog.underlying 22 = some (.slice 3)) (hval 0 22 v0 rfl rfl)
  have k0 := h0
  have lt0 : ∀ x ∈ p0, x.block < W.heap.size := by obtain ⟨m, hm⟩ := k0; exact DataW.trod_lt m _ _ _ hm
  obtain ⟨z0, w0⟩ : ∃ zs, IsRow .i64 W a0 len0 cap0 zs := by
    obtain ⟨fuel, hf⟩ := h0
    rcases open_ints (by kernel_rfl : Try.prog.underlying 22 = some (.slice 3)) (by kernel_rfl : Try.prog.underlying 3 = some (.int .i64)) (by kernel_rfl) hf with ⟨hcs, _⟩ | ⟨x, l, c, zs, hcs, _, hl, hm, hz, _, hcell, hwz⟩
    · simp [Value.cells] at hcs
      obtain ⟨rfl, rfl, rfl⟩ := hcs
      exact ⟨[], .inl ⟨rfl, rfl, rfl, rfl⟩⟩
    · simp [Value.cells] at hcs
      obtain ⟨rfl, rfl, rfl⟩ := hcs
      exact ⟨zs, .inr ⟨_, rfl, hl, hm, by simpa using hz, hcell, hwz⟩⟩
  have y0 : len0 * 8 ≤ 140737488351232 := by
    obtain ⟨fuel, hf⟩ := h0
    rcases open_ints (by kernel_rfl : Try.prog.underlying 22 = some (.slice 3)) (by kernel_rfl : Try.prog.underlying 3 = some (.int .i64)) (by kernel_rfl) hf with ⟨hcs, _⟩ | ⟨x, l, c, zs, hcs, _, hl, _, hz, hx, _, _⟩
    · simp [Value.cells] at hcs; obtain ⟨rfl, rfl, rfl⟩ := hcs; simp
    · simp [Value.cells] at hcs
      obtain ⟨rfl, rfl, rfl⟩ := hcs
      obtain ⟨hx, _⟩ := Prod.mk.inj hx
      rw [hx] at hsz
      have z := sized_slice hsz (j := 0) (t := 22) rfl rfl (by kernel_rfl : Try.prog.underlying 22 = some (.slice 3))
      rw [show Try.prog.bytesOf 3 = 8 by kernel_rfl] at z
      have h1 : (lits (H := H) .i64 (zs.take len0)).length + (lits (H := H) .i64 (zs.drop len0)).length = zs.length := by simp [lits]; omega
      rw [h1] at z
      have hl2 : len0 ≤ zs.length := by rw [hz]; split <;> omega
      exact Nat.le_trans (Nat.mul_le_mul_right _ hl2) z
  obtain ⟨a1, len1, cap1, rfl⟩ := okWide_slice (by kernel_rfl : Try.prog.underlying 22 = some (.slice 3)) (hval 1 22 v1 rfl rfl)
  have k1 := h1
  have lt1 : ∀ x ∈ p1, x.block < W.heap.size := by obtain ⟨m, hm⟩ := k1; exact DataW.trod_lt m _ _ _ hm
  obtain ⟨z1, w1⟩ : ∃ zs, IsRow .i64 W a1 len1 cap1 zs := by
    obtain ⟨fuel, hf⟩ := h1
    rcases open_ints (by kernel_rfl : Try.prog.underlying 22 = some (.slice 3)) (by kernel_rfl : Try.prog.underlying 3 = some (.int .i64)) (by kernel_rfl) hf with ⟨hcs, _⟩ | ⟨x, l, c, zs, hcs, _, hl, hm, hz, _, hcell, hwz⟩
    · simp [Value.cells] at hcs
      obtain ⟨rfl, rfl, rfl⟩ := hcs
      exact ⟨[], .inl ⟨rfl, rfl, rfl, rfl⟩⟩
    · simp [Value.cells] at hcs
      obtain ⟨rfl, rfl, rfl⟩ := hcs
      exact ⟨zs, .inr ⟨_, rfl, hl, hm, by simpa using hz, hcell, hwz⟩⟩
  have y1 : len1 * 8 ≤ 140737488351232 := by
    obtain ⟨fuel, hf⟩ := h1
    rcases open_ints (by kernel_rfl : Try.prog.underlying 22 = some (.slice 3)) (by kernel_rfl : Try.prog.underlying 3 = some (.int .i64)) (by kernel_rfl) hf with ⟨hcs, _⟩ | ⟨x, l, c, zs, hcs, _, hl, _, hz, hx, _, _⟩
    · simp [Value.cells] at hcs; obtain ⟨rfl, rfl, rfl⟩ := hcs; simp
    · simp [Value.cells] at hcs
      obtain ⟨rfl, rfl, rfl⟩ := hcs
      obtain ⟨hx, _⟩ := Prod.mk.inj hx
      rw [hx] at hsz
      have z := sized_slice hsz (j := 1) (t := 22) rfl rfl (by kernel_rfl : Try.prog.underlying 22 = some (.slice 3))
      rw [show Try.prog.bytesOf 3 = 8 by kernel_rfl] at z
      have h1 : (lits (H := H) .i64 (zs.take len1)).length + (lits (H := H) .i64 (zs.drop len1)).length = zs.length := by simp [lits]; omega
      rw [h1] at z
      have hl2 : len1 ≤ zs.length := by rw [hz]; split <;> omega
      exact Nat.le_trans (Nat.mul_le_mul_right _ hl2) z
  obtain ⟨a2, rfl, rfl, rfl, w2⟩ := open_int (by kernel_rfl : Try.prog.underlying 3 = some (.int .i64)) (hval 2 3 v2 rfl rfl) h2
  obtain ⟨a3, rfl, rfl, rfl, w3⟩ := open_int (by kernel_rfl : Try.prog.underlying 3 = some (.int .i64)) (hval 3 3 v3 rfl rfl) h3
  obtain ⟨a4, rfl, rfl, rfl, w4⟩ := open_int (by kernel_rfl : Try.prog.underlying 23 = some (.int .u64)) (hval 4 23 v4 rfl rfl) h4
  obtain ⟨a5, rfl, rfl, rfl, w5⟩ := open_int (by kernel_rfl : Try.prog.underlying 3 = some (.int .i64)) (hval 5 3 v5 rfl rfl) h5
  clear hA0 hval0 hsz0 hsz
  obtain ⟨k, hk⟩ : ∃ k, waybilllaw13_SubsetTells.f k (z0.take len0) (z1.take len1) a2 a3 a4 a5 = some true := tells_ok (z0.take len0) (z1.take len1) a2 a3 a4 a5 (by have := w0.len; omega) (by have := w1.len; omega)
  refine (waybilllaw13_SubsetTells.calls k a0 len0 cap0 (z0.take len0) a1 len1 cap1 (z1.take len1) a2 a3 a4 a5 W (hpOf W) (w0.rd rfl (fun _ => rfl)) (w1.rd rfl (fun _ => rfl)) (HS.start W) true hk).mono fun e W' ⟨he, hs⟩ => ?_
  have bel : Below W.heap.size W W' := HS.below (pre := []) hs
  subst he
  exact ⟨_, rfl, _, _, _, [], _, [], hW', trodAll_mk1 (shut_bool (by kernel_rfl : Try.prog.underlying 4 = some .bool) _), (trodAll_cons_mk (Below.trod laidOut (by kernel_rfl) (of_decide_eq_true (by kernel_rfl)) k0 bel lt0) (trodAll_cons_mk (Below.trod laidOut (by kernel_rfl) (of_decide_eq_true (by kernel_rfl)) k1 bel lt1) (trodAll_cons_mk (shut_int (by kernel_rfl : Try.prog.underlying 3 = some (.int .i64)) w2) (trodAll_cons_mk (shut_int (by kernel_rfl : Try.prog.underlying 3 = some (.int .i64)) w3) (trodAll_cons_mk (shut_int (by kernel_rfl : Try.prog.underlying 23 = some (.int .u64)) w4) (trodAll_cons_mk (shut_int (by kernel_rfl : Try.prog.underlying 3 = some (.int .i64)) w5) trodAll_mk0)))))), rfl, bel.frame _, fun h => by cases h⟩
theorem over : Rows.subsetTellsRow.holds Try.pinned (OpenSpec.ofChange Rows.subsetTellsSpec) :=
  OpenClaim.holds_of_wide 5 Try.f5 rfl rfl rfl rfl rfl rfl rfl ⟨rfl, rfl, rfl, rfl, rfl⟩ rfl rfl rfl rfl rfl (by kernel_rfl) Try.func5 (by kernel_rfl)
    (of_decide_eq_true (by kernel_rfl)) (by unfold Func.isWrapper; first | (rw [if_pos (by decide +kernel)]; kernel_rfl) | (rw [if_neg (by decide +kernel)]; exact ⟨rfl, rfl⟩))
    (fun os started H enc _ => lifted os started H enc)
theorem proved : Rows.SubsetTellsSaid := over
#print axioms proved
end Go.Proofs.Ythlogangnppghaa.subsetTells
namespace Go.Proofs.Ythlogangnppghaa
/-- The row, under a short name, for the claim. -/
theorem subsetTells_holds : Rows.SubsetTellsSaid := subsetTells.proved
end Go.Proofs.Ythlogangnppghaa

