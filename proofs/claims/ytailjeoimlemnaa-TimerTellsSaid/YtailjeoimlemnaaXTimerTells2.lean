/- The law TimerTells of the seat Ytailjeoimlemnaa: whatever the input, the call ends, answers true, and what came in reads as it did. This text is part 2 of 4, joined out of the session's texts. -/
import Derived.Test.YtailjeoimlemnaaXTimerTells1
import Derived.Shelf.SlLaysF0
import Derived.Test.YtailjeoimlemnaaProg
import Derived.Shelf.SlSortCmp.NoneTotal
/- waybill/timer.Check: a plain function, and that the machine's call comes to it: printed by a program of the session's own. -/
set_option linter.unusedVariables false
set_option linter.unusedSimpArgs false
namespace Go.Proofs.Ytailjeoimlemnaa.M
open Go Go.Proofs.Ytailjeoimlemnaa.Sl
/-! ### waybill/timer.Check: function 22 -/
def timer_Check.l1 : Nat → (List api_Timer) → Int → (List (Int × Bool)) → Option (Sum (Int) (Unit))
  | 0, _, _, _ => none
  | k + 1, x_l, z11x, z12x => if z11x < (x_l.length : Int) then (if 0 ≤ z11x then (if (mget z12x ((rd e_api_Timer x_l z11x).ID) false) = true then (some (Sum.inl 6)) else (timer_Check.l1 k x_l (IntKind.i64.wrap (z11x + 1)) (mput z12x ((rd e_api_Timer x_l z11x).ID) true))) else (none)) else (some (Sum.inr (())))
def timer_Check.l2 : Nat → (List api_Timer) → Int → Option (Sum (Int) (Unit))
  | 0, _, _ => none
  | k + 1, x_l, z19x => if z19x < (x_l.length : Int) then (((if 0 < z19x then ((timer_heap_ahead.f k x_l z19x (IntKind.i64.wrap ((IntKind.i64.wrap (z19x - 1)).tdiv 2))).bind fun z24t => (some z24t)) else (some false)) : Option (Bool)).bind fun z21x => (if z21x = true then (some (Sum.inl 9)) else (timer_Check.l2 k x_l (IntKind.i64.wrap (z19x + 1))))) else (some (Sum.inr (())))
def timer_Check.l0 : Nat → (List api_Timer) → Int → Option (Int)
  | 0, _, _ => none
  | k + 1, x_l, z2x => if z2x < (x_l.length : Int) then (if 0 ≤ z2x then ((timer_odd.f (rd e_api_Timer x_l z2x)).bind fun z8t => (if z8t = true then (some 4) else (timer_Check.l0 k x_l (IntKind.i64.wrap (z2x + 1))))) else (none)) else ((((timer_Check.l1 k x_l 0 ([] : List (Int × Bool)))) : Option (Sum (Int) (Unit))).bind fun v_ => (match v_ with | (Sum.inl q_) => some q_ | (Sum.inr (_)) => (((timer_Check.l2 k x_l 0)) : Option (Sum (Int) (Unit))).bind fun v_ => (match v_ with | (Sum.inl q_) => some q_ | (Sum.inr (_)) => some 0)))
def timer_Check.f (k : Nat) (x_l : List api_Timer) : Option (Int) := if 1024 < (x_l.length : Int) then (some 3) else ((timer_Check.l0 k x_l 0))
set_option maxRecDepth 100000 in
set_option maxHeartbeats 4000000 in
theorem timer_Check.calls (k : Nat) (A0 : Option Addr) (n0 c0 : Nat) (x_l : List api_Timer) (W0 : World) (X : Heap) (HR0 : Rd e_api_Timer X A0 n0 c0 x_l) (Hq : HS W0 [isH X] W0) (r : Int) (H : timer_Check.f k x_l = some r) :
    Calls Try.prog 22 #[.slice A0 n0 c0] W0 (fun e w => e = .returned (.int .i64 r) ∧ HS W0 [isH X] w) := by
  obtain rfl := HR0.1
  rw [timer_Check.f] at H
  refine calls_in Try.func22 rfl rfl ?_
  intro a0 S0
  refine w_seq ?_
  refine w_region ?_
  refine r_pures [_] S0 rfl ?_
  clear S0; intro a0 S0
  refine wl_nil ?_
  refine nr_then ?_
  refine w_seq ?_
  refine w_block ?_
  refine w_seq ?_
  refine w_region ?_
  refine r_pures [_] S0 rfl ?_
  clear S0; intro a0 S0
  refine r_len S0 rfl sl22 rfl ?_
  clear S0; intro a0 S0
  refine r_pures [_, _] S0 rfl ?_
  clear S0; intro a0 S0
  refine wl_nil ?_
  refine nr_then ?_
  by_cases z1h : 1024 < (x_l.length : Int)
  · replace H := (if_pos z1h).symm.trans H
    refine w_true S0 rfl (decide_eq_true z1h) ?_
    refine w_seq ?_
    refine w_region ?_
    refine r_pures [_] S0 rfl ?_
    clear S0; intro a0 S0
    refine wl_nil ?_
    refine nr_then ?_
    refine w_ret ?_
    refine ret_in ?_
    refine ret_then ?_
    obtain rfl := Option.some.inj H
    refine ret1 S0 rfl rfl ?_
    exact ⟨rfl, Hq⟩
  · replace H := (if_neg z1h).symm.trans H
    refine w_false S0 rfl (decide_eq_false z1h) ?_
    refine w_seq ?_
    refine w_region ?_
    refine r_pures [_] S0 rfl ?_
    clear S0; intro a0 S0
    refine r_call S0 rfl rfl goes38 rfl ?_
    refine calls_in Try.func38 rfl rfl ?_
    intro a1 S1
    refine w_seq ?_
    refine w_region ?_
    refine r_pures [_] S1 rfl ?_
    clear S1; intro a1 S1
    refine wl_nil ?_
    refine nr_then ?_
    refine w_seq ?_
    refine w_region ?_
    refine r_pures [_, _] S1 rfl ?_
    clear S1; intro a1 S1
    refine r_call S1 rfl rfl goes49 rfl ?_
    refine calls_in Try.func49 rfl rfl ?_
    intro a2 S2
    refine w_seq ?_
    refine w_region ?_
    refine r_pures [_] S2 rfl ?_
    clear S2; intro a2 S2
    refine wl_nil ?_
    refine nr_then ?_
    refine w_seq ?_
    refine w_seq ?_
    refine w_region ?_
    refine r_pures [_] S2 rfl ?_
    clear S2; intro a2 S2
    refine r_len S2 rfl sl22 rfl ?_
    clear S2; intro a2 S2
    refine r_pures [_] S2 rfl ?_
    clear S2; intro a2 S2
    refine wl_nil ?_
    refine nr_then ?_
    refine w_block ?_
    refine w_loop (fun kq a w => ∃ z2x, timer_Check.l0 kq x_l z2x = some r ∧ Sl 19 [] [(0, .slice A0 x_l.length c0), (1, .func (.func 31) #[] #[]), (7, .int .i64 (x_l.length : Int)), (8, .int .i64 z2x)] a ∧ HS W0 [isH X] w) _ ⟨0, H, S2.sub ⟨rfl, rfl, rfl, rfl, trivial⟩, Hq⟩ ?_
    clear H Hq S2
    rintro k0 a w ⟨z2x, H, S2, Hq⟩
    cases k0 with
    | zero => simp [timer_Check.l0] at H
    | succ k0 =>
      refine ⟨k0, rfl, ?_⟩
      rw [timer_Check.l0] at H
      refine w_seq ?_
      refine w_region ?_
      refine r_pures [_] S2 rfl ?_
      clear S2; intro a2 S2
      refine wl_nil ?_
      refine nr_then ?_
      refine w_seq ?_
      by_cases z3h : z2x < (x_l.length : Int)
      · replace H := (if_pos z3h).symm.trans H
        refine w_true S2 rfl (decide_eq_true z3h) ?_
        refine w_skip ?_
        refine nr_then ?_
        refine w_seq ?_
        refine w_block ?_
        refine w_seq ?_
        refine w_region ?_
        refine r_pures [_, _] S2 rfl ?_
        clear S2; intro a2 S2
        refine wl_nil ?_
        refine nr_then ?_
        refine w_seq ?_
        refine w_region ?_
        refine r_pures [_, _, _] S2 rfl ?_
        clear S2; intro a2 S2
        by_cases z4h : 0 ≤ z2x
        · replace H := (if_pos z4h).symm.trans H
          obtain ⟨z5b, z6o, rfl⟩ := (isH_rd [] Hq HR0).at (by omega)
          refine r_index S2 rfl rfl sl22 ti32 z4h z3h rfl ?_
          clear S2; intro a2 S2
          refine r_elA (vs := [.int .i64 ((rd e_api_Timer x_l z2x).At), .int .i64 ((rd e_api_Timer x_l z2x).ID)]) S2 (isH_rd [] Hq HR0) z4h z3h rfl ti32 rfl rfl rfl ?_
          clear S2; intro a2 S2
          obtain ⟨Xz7, HXz7, HPz7, HBz7⟩ := call_frame [] Hq
          dsimp only [List.cons_append, List.nil_append] at HXz7 HBz7
          obtain ⟨z8t, Hc, H⟩ := Option.bind_eq_some_iff.mp H
          refine r_call S2 rfl rfl goes31 rfl ?_
          refine (timer_odd.calls (rd e_api_Timer x_l z2x) _ _  HXz7 z8t Hc).mono ?_
          rintro e w ⟨rfl, Hq'⟩
          have Hq : HS W0 [isH X] w := HBz7 [] _ Hq'
          clear HXz7 HPz7 HBz7 Hq'
          refine ⟨.bool z8t, rfl, ?_⟩; clear S2; intro a2 S2
          refine wl_nil ?_
          refine nr_then ?_
          by_cases z9h : z8t = true
          · replace H := (if_pos z9h).symm.trans H
            refine w_true S2 rfl z9h ?_
            refine w_seq ?_
            refine w_region ?_
            refine r_pures [_, _] S2 rfl ?_
            clear S2; intro a2 S2
            refine wl_nil ?_
            refine nr_then ?_
            refine w_ret ?_
            refine ret_in ?_
            refine ret_then ?_
            refine ret_then ?_
            refine ret_in ?_
            refine ret_then ?_
            refine ret1 S2 rfl rfl ?_
            clear S2
            refine ⟨_, rfl, ?_⟩; clear S1; intro a1 S1
            refine r_pures [_, _] S1 rfl ?_
            clear S1; intro a1 S1
            refine wl_nil ?_
            refine nr_then ?_
            refine w_ret ?_
            refine ret1 S1 rfl rfl ?_
            clear S1
            refine ⟨_, rfl, ?_⟩; clear S0; intro a0 S0
            refine r_pures [_] S0 rfl ?_
            clear S0; intro a0 S0
            refine wl_nil ?_
            refine nr_then ?_
            refine w_true S0 rfl (decide_eq_true z4h) ?_
            refine w_seq ?_
            refine w_region ?_
            refine r_pures [_] S0 rfl ?_
            clear S0; intro a0 S0
            refine wl_nil ?_
            refine nr_then ?_
            refine w_ret ?_
            refine ret_in ?_
            refine ret_then ?_
            obtain rfl := Option.some.inj H
            refine ret1 S0 rfl rfl ?_
            exact ⟨rfl, Hq⟩
          · replace H := (if_neg z9h).symm.trans H
            refine w_false S2 rfl (Bool.eq_false_iff.mpr z9h) ?_
            refine w_skip ?_
            refine nr_in ?_
            refine nr_then ?_
            refine w_region ?_
            refine r_pures [_, _] S2 rfl ?_
            clear S2; intro a2 S2
            refine wl_nil ?_
            refine nr_then ?_
            exact ⟨(IntKind.i64.wrap (z2x + 1)), H, S2.sub ⟨rfl, rfl, rfl, rfl, trivial⟩, Hq⟩
        · replace H := (if_neg z4h).symm.trans H
          exact nomatch H
      · replace H := (if_neg z3h).symm.trans H
        refine w_false S2 rfl (decide_eq_false z3h) ?_
        refine w_exit ?_
        refine ex_then ?_
        refine ex_then ?_
        refine ex_in ?_
        refine nr_then ?_
        refine w_seq ?_
        refine w_region ?_
        refine r_pures [_] S2 rfl ?_
        clear S2; intro a2 S2
        refine wl_nil ?_
        refine nr_then ?_
        refine w_ret ?_
        refine ret1 S2 rfl rfl ?_
        clear S2
        refine ⟨_, rfl, ?_⟩; clear S1; intro a1 S1
        refine r_pures [_, _] S1 rfl ?_
        clear S1; intro a1 S1
        refine wl_nil ?_
        refine nr_then ?_
        refine w_ret ?_
        refine ret1 S1 rfl rfl ?_
        clear S1
        refine ⟨_, rfl, ?_⟩; clear S0; intro a0 S0
        refine r_pures [_] S0 rfl ?_
        clear S0; intro a0 S0
        refine wl_nil ?_
        refine nr_then ?_
        refine w_false S0 rfl (by decide) ?_
        refine w_skip ?_
        refine nr_in ?_
        refine nr_then ?_
        refine w_seq ?_
        refine w_region ?_
        refine r_makeMap S0 Hq .i64 m_bool rfl ?_
        clear S0 Hq; intro z10b a0 w S0 Hq
        refine r_pures [_] S0 rfl ?_
        clear S0; intro a0 S0
        refine wl_nil ?_
        refine nr_then ?_
        refine w_seq ?_
        refine w_seq ?_
        refine w_region ?_
        refine r_pures [_] S0 rfl ?_
        clear S0; intro a0 S0
        refine r_len S0 rfl sl22 rfl ?_
        clear S0; intro a0 S0
        refine r_pures [_] S0 rfl ?_
        clear S0; intro a0 S0
        refine wl_nil ?_
        refine nr_then ?_
        obtain ⟨v1, H, HU1⟩ := Option.bind_eq_some_iff.mp H
        refine w_cutT (fun a w => v1 = (Sum.inr (())) ∧ Sl 45 [] [(0, .slice A0 x_l.length c0)] a ∧ HS W0 [isH X] w) ?_ ?_
        · skip
          refine w_block ?_
          refine w_loop (fun kq a w => ∃ z11x z12x, timer_Check.l1 kq x_l z11x z12x = some v1 ∧ Sl 45 [] [(0, .slice A0 x_l.length c0), (3, .map (some z10b)), (15, .slice A0 x_l.length c0), (16, .int .i64 (x_l.length : Int)), (17, .int .i64 z11x)] a ∧ HS W0 [mp .i64 m_bool z10b z12x, isH X] w) _ ⟨0, ([] : List (Int × Bool)), H, S0.sub ⟨rfl, rfl, rfl, rfl, rfl, trivial⟩, Hq⟩ ?_
          clear H Hq S0
          rintro k1 a w ⟨z11x, z12x, H, S0, Hq⟩
          cases k1 with
          | zero => simp [timer_Check.l1] at H
          | succ k1 =>
            refine ⟨k1, rfl, ?_⟩
            rw [timer_Check.l1] at H
            refine w_seq ?_
            refine w_region ?_
            refine r_pures [_] S0 rfl ?_
            clear S0; intro a0 S0
            refine wl_nil ?_
            refine nr_then ?_
            refine w_seq ?_
            by_cases z13h : z11x < (x_l.length : Int)
            · replace H := (if_pos z13h).symm.trans H
              refine w_true S0 rfl (decide_eq_true z13h) ?_
              refine w_skip ?_
              refine nr_then ?_
              refine w_seq ?_
              refine w_block ?_
              refine w_seq ?_
              refine w_region ?_
              by_cases z14h : 0 ≤ z11x
              · replace H := (if_pos z14h).symm.trans H
                obtain ⟨z15b, z16o, rfl⟩ := (isH_rd [_] Hq HR0).at (by omega)
                refine r_index S0 rfl rfl sl22 ti32 z14h z13h rfl ?_
                clear S0; intro a0 S0
                refine r_elA (vs := [.int .i64 ((rd e_api_Timer x_l z11x).At), .int .i64 ((rd e_api_Timer x_l z11x).ID)]) S0 (isH_rd [_] Hq HR0) z14h z13h rfl ti32 rfl rfl rfl ?_
                clear S0; intro a0 S0
                refine r_alloc S0 Hq ti32 rfl ?_
                clear S0 Hq; intro z17b a0 w S0 Hq
                refine r_st [] S0 Hq rfl rfl ti32 [.int .i64 ((rd e_api_Timer x_l z11x).At), .int .i64 ((rd e_api_Timer x_l z11x).ID)] rfl rfl rfl rfl [.int .i64 ((rd e_api_Timer x_l z11x).At), .int .i64 ((rd e_api_Timer x_l z11x).ID)] rfl ?_
                clear Hq; intro w Hq; dsimp only [List.cons_append, List.nil_append] at Hq
                refine wl_nil ?_
                refine nr_then ?_
                refine w_seq ?_
                refine w_seq ?_
                refine w_region ?_
                refine r_pures [_] S0 rfl ?_
                clear S0; intro a0 S0
                refine r_fieldAddr S0 rfl fo32x1 (1) rfl rfl ?_
                clear S0; intro a0 S0
                refine r_ldS [] S0 Hq rfl ti3 _ rfl rfl ?_
                clear S0; intro a0 S0
                refine r_lookup (z := false) [_] S0 Hq rfl rfl mp70 und3 (zv_run zv4) rfl ?_
                clear S0; intro a0 S0
                refine wl_nil ?_
                refine nr_then ?_
                by_cases z18h : (mget z12x ((rd e_api_Timer x_l z11x).ID) false) = true
                · replace H := (if_pos z18h).symm.trans H
                  refine w_true S0 rfl z18h ?_
                  refine w_seq ?_
                  refine w_region ?_
                  refine r_pures [_] S0 rfl ?_
                  clear S0; intro a0 S0
                  refine wl_nil ?_
                  refine nr_then ?_
                  refine w_ret ?_
                  refine ret_then ?_
                  refine ret_in ?_
                  refine ret_then ?_
                  refine ret_then ?_
                  refine ret_in ?_
                  refine ret_then ?_
                  obtain rfl := Option.some.inj H
                  have H := HU1; clear HU1; dsimp only at H
                  refine ret_then ?_
                  obtain rfl := Option.some.inj H
                  refine ret1 S0 rfl rfl ?_
                  replace Hq := HS.pull [_, _] Hq
                  dsimp only [List.cons_append, List.nil_append] at Hq
                  replace Hq := HS.keep [_] Hq
                  exact ⟨rfl, Hq⟩
                · replace H := (if_neg z18h).symm.trans H
                  refine w_false S0 rfl (Bool.eq_false_iff.mpr z18h) ?_
                  refine w_skip ?_
                  refine nr_then ?_
                  refine w_region ?_
                  refine r_pures [_] S0 rfl ?_
                  clear S0; intro a0 S0
                  refine r_fieldAddr S0 rfl fo32x1 (1) rfl rfl ?_
                  clear S0; intro a0 S0
                  refine r_ldS [] S0 Hq rfl ti3 _ rfl rfl ?_
                  clear S0; intro a0 S0
                  refine r_mapUpdate [_] S0 Hq rfl rfl true rfl mp70 und3 ?_
                  clear Hq; intro w Hq; dsimp only [List.cons_append, List.nil_append] at Hq
                  refine wl_nil ?_
                  refine nr_in ?_
                  refine nr_then ?_
                  refine w_region ?_
                  refine r_pures [_, _] S0 rfl ?_
                  clear S0; intro a0 S0
                  refine wl_nil ?_
                  refine nr_then ?_
                  replace Hq := HS.pull [_, _] Hq
                  dsimp only [List.cons_append, List.nil_append] at Hq
                  replace Hq := HS.pull [_, _] Hq
                  dsimp only [List.cons_append, List.nil_append] at Hq
                  replace Hq := HS.keep [_, _] Hq
                  exact ⟨(IntKind.i64.wrap (z11x + 1)), (mput z12x ((rd e_api_Timer x_l z11x).ID) true), H, S0.sub ⟨rfl, rfl, rfl, rfl, rfl, trivial⟩, Hq⟩
              · replace H := (if_neg z14h).symm.trans H
                exact nomatch H
            · replace H := (if_neg z13h).symm.trans H
              refine w_false S0 rfl (decide_eq_false z13h) ?_
              refine w_exit ?_
              refine ex_then ?_
              refine ex_then ?_
              refine ex_in ?_
              refine nr_then ?_
              replace Hq := HS.pull [_] Hq
              dsimp only [List.cons_append, List.nil_append] at Hq
              replace Hq := HS.keep [_] Hq
              obtain rfl := Option.some.inj H
              exact ⟨rfl, S0.sub ⟨rfl, trivial⟩, Hq⟩
        · clear S0; rintro a w ⟨rfl, S0, Hq⟩
          have H := HU1; clear HU1; dsimp only at H
          refine nr_then ?_
          refine w_seq ?_
          refine w_seq ?_
          refine w_region ?_
          refine r_pures [_] S0 rfl ?_
          clear S0; intro a0 S0
          refine r_len S0 rfl sl22 rfl ?_
          clear S0; intro a0 S0
          refine r_pures [_] S0 rfl ?_
          clear S0; intro a0 S0
          refine wl_nil ?_
          refine nr_then ?_
          obtain ⟨v2, H, HU2⟩ := Option.bind_eq_some_iff.mp H
          refine w_cutT (fun a w => v2 = (Sum.inr (())) ∧ Sl 45 [] [] a ∧ HS W0 [isH X] w) ?_ ?_
          · skip
            refine w_block ?_
            refine w_loop (fun kq a w => ∃ z19x, timer_Check.l2 kq x_l z19x = some v2 ∧ Sl 45 [] [(0, .slice A0 x_l.length c0), (30, .int .i64 (x_l.length : Int)), (31, .int .i64 z19x)] a ∧ HS W0 [isH X] w) _ ⟨0, H, S0.sub ⟨rfl, rfl, rfl, trivial⟩, Hq⟩ ?_
            clear H Hq S0
            rintro k2 a w ⟨z19x, H, S0, Hq⟩
            cases k2 with
            | zero => simp [timer_Check.l2] at H
            | succ k2 =>
              refine ⟨k2, rfl, ?_⟩
              rw [timer_Check.l2] at H
              refine w_seq ?_
              refine w_region ?_
              refine r_pures [_] S0 rfl ?_
              clear S0; intro a0 S0
              refine wl_nil ?_
              refine nr_then ?_
              refine w_seq ?_
              by_cases z20h : z19x < (x_l.length : Int)
              · replace H := (if_pos z20h).symm.trans H
                refine w_true S0 rfl (decide_eq_true z20h) ?_
                refine w_skip ?_
                refine nr_then ?_
                refine w_seq ?_
                refine w_block ?_
                refine w_seq ?_
                refine w_region ?_
                refine r_pures [_, _] S0 rfl ?_
                clear S0; intro a0 S0
                refine wl_nil ?_
                refine nr_then ?_
                refine w_seq ?_
                obtain ⟨z21x, H, HU3⟩ := Option.bind_eq_some_iff.mp H
                refine w_cutT (fun a w => Sl 45 [] [(0, .slice A0 x_l.length c0), (30, .int .i64 (x_l.length : Int)), (31, .int .i64 z19x), (43, .bool z21x)] a ∧ HS W0 [isH X] w) ?_ ?_
                · skip
                  refine w_region ?_
                  refine r_pures [_, _, _] S0 rfl ?_
                  clear S0; intro a0 S0
                  by_cases z22h : 0 < z19x
                  · replace H := (if_pos z22h).symm.trans H
                    refine r_on S0 rfl rfl rfl (decide_eq_true z22h) ?_
                    refine r_pures [_] S0 rfl ?_
                    clear S0; intro a0 S0
                    refine r_on S0 rfl rfl rfl (decide_eq_true z22h) ?_
                    refine r_pures [_] S0 rfl ?_
                    clear S0; intro a0 S0
                    refine r_on S0 rfl rfl rfl (decide_eq_true z22h) ?_
                    refine r_pures [_] S0 rfl ?_
                    clear S0; intro a0 S0
                    refine r_on S0 rfl rfl rfl (decide_eq_true z22h) ?_
                    refine r_pures [_] S0 rfl ?_
                    clear S0; intro a0 S0
                    refine r_on S0 rfl rfl rfl (decide_eq_true z22h) ?_
                    refine r_quo S0 rfl rfl (by decide) rfl ?_
                    clear S0; intro a0 S0
                    refine r_on S0 rfl rfl rfl (decide_eq_true z22h) ?_
                    obtain ⟨Xz23, HXz23, HPz23, HBz23⟩ := call_frame [] Hq
                    dsimp only [List.cons_append, List.nil_append] at HXz23 HBz23
                    obtain ⟨z24t, Hc, H⟩ := Option.bind_eq_some_iff.mp H
                    refine r_call S0 rfl rfl goes39 rfl ?_
                    refine (timer_heap_ahead.calls _ _ _ _ x_l z19x (IntKind.i64.wrap ((IntKind.i64.wrap (z19x - 1)).tdiv 2)) _ _ (sl_isH_rd [] HPz23 HR0) HXz23 z24t Hc).mono ?_
                    rintro e w ⟨rfl, Hq'⟩
                    have Hq : HS W0 [isH X] w := HBz23 [] _ Hq'
                    clear HXz23 HPz23 HBz23 Hq'
                    refine ⟨.bool z24t, rfl, ?_⟩; clear S0; intro a0 S0
                    refine r_pick S0 rfl (decide_eq_true z22h) _ rfl rfl ?_
                    clear S0; intro a0 S0
                    refine wl_nil ?_
                    refine nr_then ?_
                    obtain rfl := Option.some.inj H
                    exact ⟨S0.sub ⟨rfl, rfl, rfl, rfl, trivial⟩, Hq⟩
                  · replace H := (if_neg z22h).symm.trans H
                    refine r_off S0 rfl rfl rfl (decide_eq_false z22h) ?_ rfl
                    clear S0; intro a0 S0
                    refine r_off S0 rfl rfl rfl (decide_eq_false z22h) ?_ rfl
                    clear S0; intro a0 S0
                    refine r_off S0 rfl rfl rfl (decide_eq_false z22h) ?_ rfl
                    clear S0; intro a0 S0
                    refine r_off S0 rfl rfl rfl (decide_eq_false z22h) ?_ rfl
                    clear S0; intro a0 S0
                    refine r_off S0 rfl rfl rfl (decide_eq_false z22h) ?_ rfl
                    clear S0; intro a0 S0
                    refine r_off S0 rfl rfl rfl (decide_eq_false z22h) ?_ rfl
                    clear S0; intro a0 S0
                    refine r_pick S0 rfl (decide_eq_false z22h) _ rfl rfl ?_
                    clear S0; intro a0 S0
                    refine wl_nil ?_
                    refine nr_then ?_
                    obtain rfl := Option.some.inj H
                    exact ⟨S0.sub ⟨rfl, rfl, rfl, rfl, trivial⟩, Hq⟩
                · clear S0; rintro a w ⟨S0, Hq⟩
                  have H := HU3; clear HU3
                  refine nr_then ?_
                  by_cases z25h : z21x = true
                  · replace H := (if_pos z25h).symm.trans H
                    refine w_true S0 rfl z25h ?_
                    refine w_seq ?_
                    refine w_region ?_
                    refine r_pures [_] S0 rfl ?_
                    clear S0; intro a0 S0
                    refine wl_nil ?_
                    refine nr_then ?_
                    refine w_ret ?_
                    refine ret_in ?_
                    refine ret_then ?_
                    refine ret_then ?_
                    refine ret_in ?_
                    refine ret_then ?_
                    obtain rfl := Option.some.inj H
                    have H := HU2; clear HU2; dsimp only at H
                    refine ret_then ?_
                    obtain rfl := Option.some.inj H
                    refine ret1 S0 rfl rfl ?_
                    exact ⟨rfl, Hq⟩
                  · replace H := (if_neg z25h).symm.trans H
                    refine w_false S0 rfl (Bool.eq_false_iff.mpr z25h) ?_
                    refine w_skip ?_
                    refine nr_in ?_
                    refine nr_then ?_
                    refine w_region ?_
                    refine r_pures [_, _] S0 rfl ?_
                    clear S0; intro a0 S0
                    refine wl_nil ?_
                    refine nr_then ?_
                    exact ⟨(IntKind.i64.wrap (z19x + 1)), H, S0.sub ⟨rfl, rfl, rfl, trivial⟩, Hq⟩
              · replace H := (if_neg z20h).symm.trans H
                refine w_false S0 rfl (decide_eq_false z20h) ?_
                refine w_exit ?_
                refine ex_then ?_
                refine ex_then ?_
                refine ex_in ?_
                refine nr_then ?_
                obtain rfl := Option.some.inj H
                exact ⟨rfl, S0.sub trivial, Hq⟩
          · clear S0; rintro a w ⟨rfl, S0, Hq⟩
            have H := HU2; clear HU2; dsimp only at H
            refine nr_then ?_
            refine w_seq ?_
            refine w_region ?_
            refine r_pures [_] S0 rfl ?_
            clear S0; intro a0 S0
            refine wl_nil ?_
            refine nr_then ?_
            refine w_ret ?_
            obtain rfl := Option.some.inj H
            refine ret1 S0 rfl rfl ?_
            exact ⟨rfl, Hq⟩

end Go.Proofs.Ytailjeoimlemnaa.M

/- (waybill/timer.heap).swap: a plain function, and that the machine's call comes to it: printed by a program of the session's own. -/
set_option linter.unusedVariables false
set_option linter.unusedSimpArgs false
namespace Go.Proofs.Ytailjeoimlemnaa.M
open Go Go.Proofs.Ytailjeoimlemnaa.Sl
/-! ### (waybill/timer.heap).swap: function 41 -/
def timer_heap_swap.f (x_h : List api_Timer) (x_i : Int) (x_k : Int) : Option (List api_Timer) := if 0 ≤ x_k then (if x_k < (x_h.length : Int) then (if 0 ≤ x_i then (if x_i < (x_h.length : Int) then (some ((x_h.set (Int.toNat x_i) (rd e_api_Timer x_h x_k)).set (Int.toNat x_k) (rd e_api_Timer x_h x_i))) else (none)) else (none)) else (none)) else (none)
set_option maxRecDepth 100000 in
set_option maxHeartbeats 4000000 in
theorem timer_heap_swap.calls (A0 : Option Addr) (n0 c0 : Nat) (x_h : List api_Timer) (x_i : Int) (x_k : Int) (W0 : World) (X : Heap)  (Hq : HS W0 [own e_api_Timer 32 A0 n0 c0 x_h, isH X] W0) (r : List api_Timer) (H : timer_heap_swap.f x_h x_i x_k = some r) :
    Calls Try.prog 41 #[.slice A0 n0 c0, .int .i64 x_i, .int .i64 x_k] W0 (fun e w => e = .returned (.tuple #[]) ∧ HS W0 [own e_api_Timer 32 A0 n0 c0 r, isH X] w) := by
  obtain rfl := own_len [] Hq
  rw [timer_heap_swap.f] at H
  refine calls_in Try.func41 rfl rfl ?_
  intro a0 S0
  refine w_draw TryM.mixed (.pu 0 (.pu 1 (.pu 2 (.pu 3 (.pu 4 (.pu 5 (.pu 6 (.pu 8 (.pu 9 (.pu 10 (.rd 7 (.rd 11 (.pu 12 (.ds 13 (.pu 14 (.ds 15 .done)))))))))))))))) (by kernel_rfl) rfl ?_
  replace Hq := Hq.drew
  refine st_pures [0, 1, 2, 3, 4, 5] S0 rfl ?_
  intro az1q Sz1q
  by_cases z2h : 0 ≤ x_k
  · replace H := (if_pos z2h).symm.trans H
    by_cases z3h : x_k < (x_h.length : Int)
    · replace H := (if_pos z3h).symm.trans H
      obtain ⟨z4g, rfl⟩ := own_at [] Hq (by omega)
      refine st_pu Sz1q rfl (g_none rfl) rfl rfl (fun _ => y_index Sz1q rfl rfl sl56 ti32 z2h z3h) ?_
      intro az5q Sz5q
      refine st_pures [8, 9] Sz5q rfl ?_
      intro az6q Sz6q
      by_cases z7h : 0 ≤ x_i
      · replace H := (if_pos z7h).symm.trans H
        by_cases z8h : x_i < (x_h.length : Int)
        · replace H := (if_pos z8h).symm.trans H
          refine st_pu Sz6q rfl (g_none rfl) rfl rfl (fun _ => y_index Sz6q rfl rfl sl56 ti32 z7h z8h) ?_
          intro az9q Sz9q
          refine st_rd Sz9q rfl (g_none rfl) rfl rfl (y_elA (vs := [.int .i64 ((rd e_api_Timer x_h x_k).At), .int .i64 ((rd e_api_Timer x_h x_k).ID)]) Sz9q (own_rd [] Hq) z2h z3h rfl ti32 rfl rfl) ?_
          intro az10q Sz10q
          refine st_rd Sz10q rfl (g_none rfl) rfl rfl (y_elA (vs := [.int .i64 ((rd e_api_Timer x_h x_i).At), .int .i64 ((rd e_api_Timer x_h x_i).ID)]) Sz10q (own_rd [] Hq) z7h z8h rfl ti32 rfl rfl) ?_
          intro az11q Sz11q
          refine st_pu Sz11q rfl (g_none rfl) rfl rfl (fun _ => y_index Sz11q rfl rfl sl56 ti32 z7h z8h) ?_
          intro az12q Sz12q
          refine st_ds rfl ?_
          have Sz13q := Sz12q
          refine r_elst [] Sz13q Hq z7h z8h rfl rfl ti32 [.int .i64 ((rd e_api_Timer x_h x_k).At), .int .i64 ((rd e_api_Timer x_h x_k).ID)] rfl rfl rfl rfl (rd e_api_Timer x_h x_k) rfl ?_
          clear Hq; intro w Hq; dsimp only [List.cons_append, List.nil_append] at Hq
          refine wl_nil ?_
          refine nr_then ?_
          refine st_pu Sz13q rfl (g_none rfl) rfl rfl (fun _ => y_index Sz13q rfl rfl sl56 ti32 z2h z3h) ?_
          intro az14q Sz14q
          refine st_ds rfl ?_
          have Sz15q := Sz14q
          refine r_elst [] Sz15q Hq z2h z3h rfl rfl ti32 [.int .i64 ((rd e_api_Timer x_h x_i).At), .int .i64 ((rd e_api_Timer x_h x_i).ID)] rfl rfl rfl rfl (rd e_api_Timer x_h x_i) rfl ?_
          clear Hq; intro w Hq; dsimp only [List.cons_append, List.nil_append] at Hq
          refine wl_nil ?_
          refine nr_then ?_
          refine st_nil ?_
          replace S0 := Sz15q
          obtain rfl := Option.some.inj H
          refine end0 S0 rfl ?_
          replace Hq := HS.pull [_] Hq
          dsimp only [List.cons_append, List.nil_append] at Hq
          replace Hq := HS.pull [_] Hq
          dsimp only [List.cons_append, List.nil_append] at Hq
          exact ⟨rfl, Hq⟩
        · replace H := (if_neg z8h).symm.trans H
          exact nomatch H
      · replace H := (if_neg z7h).symm.trans H
        exact nomatch H
    · replace H := (if_neg z3h).symm.trans H
      exact nomatch H
  · replace H := (if_neg z2h).symm.trans H
    exact nomatch H

end Go.Proofs.Ytailjeoimlemnaa.M

/- (*waybill/timer.heap).push: a plain function, and that the machine's call comes to it: printed by a program of the session's own. -/
set_option linter.unusedVariables false
set_option linter.unusedSimpArgs false
namespace Go.Proofs.Ytailjeoimlemnaa.M
open Go Go.Proofs.Ytailjeoimlemnaa.Sl
/-! ### (*waybill/timer.heap).push: function 25 -/
def timer_heap_push.l0 : Nat → Int → (List api_Timer) → Option ((List api_Timer))
  | 0, _, _ => none
  | k + 1, z15x, z16x => ((if 0 < z15x then ((timer_heap_ahead.f k z16x z15x (IntKind.i64.wrap ((IntKind.i64.wrap (z15x - 1)).tdiv 2))).bind fun z20t => (some z20t)) else (some false)) : Option (Bool)).bind fun z17x => (if z17x = true then ((timer_heap_swap.f z16x z15x (IntKind.i64.wrap ((IntKind.i64.wrap (z15x - 1)).tdiv 2))).bind fun z23t => (timer_heap_push.l0 k  (IntKind.i64.wrap ((IntKind.i64.wrap (z15x - 1)).tdiv 2)) z23t)) else (some z16x))
def timer_heap_push.f (k : Nat) (x_h : List api_Timer) (x_t : api_Timer) : Option (List api_Timer) := if x_h.length + ([x_t] : List api_Timer).length < 8796093022208 then ((((timer_heap_push.l0 k  (IntKind.i64.wrap (((x_h ++ ([x_t] : List api_Timer)).length : Int) - 1)) (x_h ++ ([x_t] : List api_Timer)))) : Option ((List api_Timer))).bind fun z14x => (some z14x)) else (none)
set_option maxRecDepth 100000 in
set_option maxHeartbeats 4000000 in
theorem timer_heap_push.calls (k : Nat) (A0x0 : Option Addr) (n0x0 c0x0 : Nat) (b0 : Nat) (x_h : List api_Timer) (x_t : api_Timer) (W0 : World) (X : Heap)  (Hq : HS W0 [own e_api_Timer 32 A0x0 n0x0 c0x0 x_h, bx b0 56 [.slice A0x0 n0x0 c0x0], isH X] W0) (r : List api_Timer) (H : timer_heap_push.f k x_h x_t = some r) :
    Calls Try.prog 25 #[.pointer (some ⟨b0, 0, none⟩), .agg #[.int .i64 x_t.At, .int .i64 x_t.ID]] W0 (fun e w => ∃ As0 ns0 cs0, e = .returned (.tuple #[]) ∧ HS W0 [own e_api_Timer 32 As0 ns0 cs0 r, bx b0 56 [.slice As0 ns0 cs0], isH X] w) := by
  obtain rfl := own_len [] Hq
  rw [timer_heap_push.f] at H
  refine calls_in Try.func25 rfl rfl ?_
  intro a0 S0
  refine w_seq ?_
  refine w_region ?_
  refine r_box (vs := [.int .i64 x_t.At, .int .i64 x_t.ID]) S0 Hq rfl rfl rfl ?_
  clear S0 Hq; intro z1b a0 w S0 Hq
  refine wl_nil ?_
  refine nr_then ?_
  refine w_seq ?_
  refine w_draw TryM.mixed (.pu 0 (.pu 1 (.pu 2 (.rd 3 (.rd 4 (.ef 5 (.ef 6 (.pu 7 (.ds 8 .done))))))))) (by kernel_rfl) rfl ?_
  replace Hq := Hq.drew
  refine st_pures [0, 1, 2] S0 rfl ?_
  intro az2q Sz2q
  refine st_rd Sz2q rfl (g_none rfl) rfl rfl (y_ldS [_, _] Sz2q Hq rfl ti56 _ rfl) ?_
  intro az3q Sz3q
  refine st_rd Sz3q rfl (g_none rfl) rfl rfl (y_ldA [] Sz3q Hq rfl ti32 [.int .i64 x_t.At, .int .i64 x_t.ID] rfl rfl) ?_
  intro az4q Sz4q
  refine st_ef rfl ?_
  have Sz5q := Sz4q
  refine r_lit (e := e_api_Timer) (l := ([x_t] : List api_Timer)) (m := 1) (vs := [.agg #[.int .i64 x_t.At, .int .i64 x_t.ID]]) Sz5q Hq sl56 ti32 rfl rfl rfl rfl rfl rfl ?_
  clear Sz5q Hq; intro z6b az4q w Sz5q Hq
  refine wl_nil ?_
  refine nr_then ?_
  refine ⟨⟨⟨trivial, y_ldS [_, _, _] Sz2q Hq rfl ti56 _ rfl⟩, y_ldA [_] Sz3q Hq rfl ti32 [.int .i64 x_t.At, .int .i64 x_t.ID] rfl rfl⟩, ?_⟩
  refine st_ef rfl ?_
  have Sz8q := Sz5q
  by_cases z9h : x_h.length + ([x_t] : List api_Timer).length < 8796093022208
  · replace H := (if_pos z9h).symm.trans H
    refine r_app [_, _] Sz8q Hq (own_rd [] Hq) rfl rfl sl56 ti32 rfl z9h rfl rfl ?_
    clear Sz8q Hq; intro z10A z11n az4q w Sz8q Hq; dsimp only [List.cons_append, List.nil_append] at Hq
    refine wl_nil ?_
    refine nr_then ?_
    refine ⟨⟨⟨trivial, y_ldS [_, _, _] Sz2q Hq rfl ti56 _ rfl⟩, y_ldA [_] Sz3q Hq rfl ti32 [.int .i64 x_t.At, .int .i64 x_t.ID] rfl rfl⟩, ?_⟩
    refine st_pures [7] Sz8q rfl ?_
    intro az12q Sz12q
    refine st_ds rfl ?_
    have Sz13q := Sz12q
    refine r_st [_, _, _] Sz13q Hq rfl rfl ti56 [.slice z10A ((x_h ++ ([x_t] : List api_Timer)).length) z11n] rfl rfl rfl rfl [.slice z10A ((x_h ++ ([x_t] : List api_Timer)).length) z11n] rfl ?_
    clear Hq; intro w Hq; dsimp only [List.cons_append, List.nil_append] at Hq
    refine wl_nil ?_
    refine nr_then ?_
    refine st_nil ?_
    replace S0 := Sz13q
    refine nr_then ?_
    refine w_seq ?_
    refine w_region ?_
    refine r_pures [_, _] S0 rfl ?_
    clear S0; intro a0 S0
    refine r_ldS [_, _, _] S0 Hq rfl ti56 _ rfl rfl ?_
    clear S0; intro a0 S0
    refine r_len S0 rfl sl56 rfl ?_
    clear S0; intro a0 S0
    refine r_pures [_, _] S0 rfl ?_
    clear S0; intro a0 S0
    refine wl_nil ?_
    refine nr_then ?_
    obtain ⟨z14x, H, HU1⟩ := Option.bind_eq_some_iff.mp H
    refine w_cutT (fun a w => Sl 41 [] [] a ∧ HS W0 [own e_api_Timer 32 z10A ((x_h ++ ([x_t] : List api_Timer)).length) z11n z14x, bx b0 56 [.slice z10A ((x_h ++ ([x_t] : List api_Timer)).length) z11n], isH X] w) ?_ ?_
    · skip
      refine w_block ?_
      replace Hq := HS.pull [_, _, _, _] Hq
      dsimp only [List.cons_append, List.nil_append] at Hq
      replace Hq := HS.pull [_, _, _, _] Hq
      dsimp only [List.cons_append, List.nil_append] at Hq
      replace Hq := HS.pull [_, _, _, _] Hq
      dsimp only [List.cons_append, List.nil_append] at Hq
      replace Hq := HS.keep [_, _, _] Hq
      refine w_loop (fun kq a w => ∃ z15x z16x, timer_heap_push.l0 kq  z15x z16x = some z14x ∧ Sl 41 [] [(0, .pointer (some ⟨b0, 0, none⟩)), (4, .int .i64 z15x)] a ∧ HS W0 [own e_api_Timer 32 z10A ((x_h ++ ([x_t] : List api_Timer)).length) z11n z16x, bx b0 56 [.slice z10A ((x_h ++ ([x_t] : List api_Timer)).length) z11n], isH X] w) _ ⟨(IntKind.i64.wrap (((x_h ++ ([x_t] : List api_Timer)).length : Int) - 1)), (x_h ++ ([x_t] : List api_Timer)), H, S0.sub ⟨rfl, rfl, trivial⟩, Hq⟩ ?_
      clear H Hq S0
      rintro k0 a w ⟨z15x, z16x, H, S0, Hq⟩
      cases k0 with
      | zero => simp [timer_heap_push.l0] at H
      | succ k0 =>
        refine ⟨k0, rfl, ?_⟩
        rw [timer_heap_push.l0] at H
        refine w_seq ?_
        refine w_seq ?_
        obtain ⟨z17x, H, HU2⟩ := Option.bind_eq_some_iff.mp H
        refine w_cutT (fun a w => Sl 41 [] [(0, .pointer (some ⟨b0, 0, none⟩)), (4, .int .i64 z15x), (29, .bool z17x)] a ∧ HS W0 [own e_api_Timer 32 z10A ((x_h ++ ([x_t] : List api_Timer)).length) z11n z16x, bx b0 56 [.slice z10A ((x_h ++ ([x_t] : List api_Timer)).length) z11n], isH X] w) ?_ ?_
        · skip
          refine w_region ?_
          refine r_pures [_, _, _] S0 rfl ?_
          clear S0; intro a0 S0
          by_cases z18h : 0 < z15x
          · replace H := (if_pos z18h).symm.trans H
            refine r_on S0 rfl rfl rfl (decide_eq_true z18h) ?_
            refine r_pures [_] S0 rfl ?_
            clear S0; intro a0 S0
            refine r_on S0 rfl rfl rfl (decide_eq_true z18h) ?_
            refine r_pures [_] S0 rfl ?_
            clear S0; intro a0 S0
            refine r_on S0 rfl rfl rfl (decide_eq_true z18h) ?_
            refine r_ldS [_] S0 Hq rfl ti56 _ rfl rfl ?_
            clear S0; intro a0 S0
            refine r_on S0 rfl rfl rfl (decide_eq_true z18h) ?_
            refine r_pures [_] S0 rfl ?_
            clear S0; intro a0 S0
            refine r_on S0 rfl rfl rfl (decide_eq_true z18h) ?_
            refine r_pures [_] S0 rfl ?_
            clear S0; intro a0 S0
            refine r_on S0 rfl rfl rfl (decide_eq_true z18h) ?_
            refine r_pures [_] S0 rfl ?_
            clear S0; intro a0 S0
            refine r_on S0 rfl rfl rfl (decide_eq_true z18h) ?_
            refine r_quo S0 rfl rfl (by decide) rfl ?_
            clear S0; intro a0 S0
            refine r_on S0 rfl rfl rfl (decide_eq_true z18h) ?_
            obtain ⟨Xz19, HXz19, HPz19, HBz19⟩ := call_frame [] Hq
            dsimp only [List.cons_append, List.nil_append] at HXz19 HBz19
            obtain ⟨z20t, Hc, H⟩ := Option.bind_eq_some_iff.mp H
            refine r_call S0 rfl rfl goes39 rfl ?_
            refine (timer_heap_ahead.calls _ _ _ _ z16x z15x (IntKind.i64.wrap ((IntKind.i64.wrap (z15x - 1)).tdiv 2)) _ _ (sl_own_rd [] HPz19) HXz19 z20t Hc).mono ?_
            rintro e w ⟨rfl, Hq'⟩
            have Hq : HS W0 [own e_api_Timer 32 z10A ((x_h ++ ([x_t] : List api_Timer)).length) z11n z16x, bx b0 56 [.slice z10A ((x_h ++ ([x_t] : List api_Timer)).length) z11n], isH X] w := HBz19 [] _ Hq'
            clear HXz19 HPz19 HBz19 Hq'
            refine ⟨.bool z20t, rfl, ?_⟩; clear S0; intro a0 S0
            refine r_pick S0 rfl (decide_eq_true z18h) _ rfl rfl ?_
            clear S0; intro a0 S0
            refine wl_nil ?_
            refine nr_then ?_
            obtain rfl := Option.some.inj H
            exact ⟨S0.sub ⟨rfl, rfl, rfl, trivial⟩, Hq⟩
          · replace H := (if_neg z18h).symm.trans H
            refine r_off S0 rfl rfl rfl (decide_eq_false z18h) ?_ rfl
            clear S0; intro a0 S0
            refine r_off S0 rfl rfl rfl (decide_eq_false z18h) ?_ rfl
            clear S0; intro a0 S0
            refine r_off S0 rfl rfl rfl (decide_eq_false z18h) ?_ rfl
            clear S0; intro a0 S0
            refine r_off S0 rfl rfl rfl (decide_eq_false z18h) ?_ rfl
            clear S0; intro a0 S0
            refine r_off S0 rfl rfl rfl (decide_eq_false z18h) ?_ rfl
            clear S0; intro a0 S0
            refine r_off S0 rfl rfl rfl (decide_eq_false z18h) ?_ rfl
            clear S0; intro a0 S0
            refine r_off S0 rfl rfl rfl (decide_eq_false z18h) ?_ rfl
            clear S0; intro a0 S0
            refine r_off S0 rfl rfl rfl (decide_eq_false z18h) ?_ rfl
            clear S0; intro a0 S0
            refine r_pick S0 rfl (decide_eq_false z18h) _ rfl rfl ?_
            clear S0; intro a0 S0
            refine wl_nil ?_
            refine nr_then ?_
            obtain rfl := Option.some.inj H
            exact ⟨S0.sub ⟨rfl, rfl, rfl, trivial⟩, Hq⟩
        · clear S0; rintro a w ⟨S0, Hq⟩
          have H := HU2; clear HU2
          refine nr_then ?_
          by_cases z21h : z17x = true
          · replace H := (if_pos z21h).symm.trans H
            refine w_true S0 rfl z21h ?_
            refine w_skip ?_
            refine nr_then ?_
            refine w_seq ?_
            refine w_block ?_
            refine w_region ?_
            refine r_pures [_, _] S0 rfl ?_
            clear S0; intro a0 S0
            refine r_ldS [_] S0 Hq rfl ti56 _ rfl rfl ?_
            clear S0; intro a0 S0
            refine r_pures [_, _, _] S0 rfl ?_
            clear S0; intro a0 S0
            refine r_quo S0 rfl rfl (by decide) rfl ?_
            clear S0; intro a0 S0
            obtain ⟨Xz22, HXz22, HPz22, HBz22⟩ := call_frame [_] Hq
            dsimp only [List.cons_append, List.nil_append] at HXz22 HBz22
            obtain ⟨z23t, Hc, H⟩ := Option.bind_eq_some_iff.mp H
            refine r_call S0 rfl rfl goes41 rfl ?_
            refine (timer_heap_swap.calls _ _ _ z16x z15x (IntKind.i64.wrap ((IntKind.i64.wrap (z15x - 1)).tdiv 2)) _ _  HXz22 z23t Hc).mono ?_
            rintro e w ⟨rfl, Hq'⟩
            have Hq : HS W0 [own e_api_Timer 32 z10A ((x_h ++ ([x_t] : List api_Timer)).length) z11n z23t, bx b0 56 [.slice z10A ((x_h ++ ([x_t] : List api_Timer)).length) z11n], isH X] w := HBz22 [_] _ Hq'
            clear HXz22 HPz22 HBz22 Hq'
            refine ⟨.tuple #[], rfl, ?_⟩; clear S0; intro a0 S0
            refine wl_nil ?_
            refine nr_in ?_
            refine nr_then ?_
            refine w_region ?_
            refine r_pures [_, _] S0 rfl ?_
            clear S0; intro a0 S0
            refine r_quo S0 rfl rfl (by decide) rfl ?_
            clear S0; intro a0 S0
            refine r_pures [_] S0 rfl ?_
            clear S0; intro a0 S0
            refine wl_nil ?_
            refine nr_then ?_
            exact ⟨(IntKind.i64.wrap ((IntKind.i64.wrap (z15x - 1)).tdiv 2)), z23t, H, S0.sub ⟨rfl, rfl, trivial⟩, Hq⟩
          · replace H := (if_neg z21h).symm.trans H
            refine w_false S0 rfl (Bool.eq_false_iff.mpr z21h) ?_
            refine w_exit ?_
            refine ex_then ?_
            refine ex_then ?_
            refine ex_in ?_
            refine nr_then ?_
            obtain rfl := Option.some.inj H
            exact ⟨S0.sub trivial, Hq⟩
    · clear S0; rintro a w ⟨S0, Hq⟩
      have H := HU1; clear HU1
      obtain rfl := Option.some.inj H
      refine end0 S0 rfl ?_
      replace Hq := HS.pull [_, _] Hq
      dsimp only [List.cons_append, List.nil_append] at Hq
      replace Hq := HS.pull [_, _] Hq
      dsimp only [List.cons_append, List.nil_append] at Hq
      replace Hq := HS.pull [_, _] Hq
      dsimp only [List.cons_append, List.nil_append] at Hq
      exact ⟨z10A, ((x_h ++ ([x_t] : List api_Timer)).length), z11n, rfl, Hq⟩
  · replace H := (if_neg z9h).symm.trans H
    exact nomatch H

end Go.Proofs.Ytailjeoimlemnaa.M

/- The library's functions that this seat's code calls, in the words of chunks. -/

set_option linter.unusedVariables false
set_option linter.unusedSimpArgs false
set_option maxRecDepth 100000
namespace Go.Proofs.Ytailjeoimlemnaa.M
open Go Go.Proofs Go.Proofs.Ytailjeoimlemnaa.Sl
def slices_Clone_api_Timer_api_Timer.f (x : List api_Timer) : Option (List api_Timer) := if x.length < 8796093022208 then some x else none
theorem slices_Clone_api_Timer_api_Timer.calls (A : Option Addr) (n c : Nat) (x : List api_Timer) (W0 : World) (X : Heap) (HR : Rd e_api_Timer X A n c x) (Hq : HS W0 [isH X] W0) (r : List api_Timer) (H : slices_Clone_api_Timer_api_Timer.f x = some r) :
    Calls Try.prog 29 #[.slice A n c] W0 (fun e w => ∃ Ar nr cr, e = .returned (.slice Ar nr cr) ∧ HS W0 [own e_api_Timer 32 Ar nr cr r, isH X] w) := by
  rw [slices_Clone_api_Timer_api_Timer.f] at H
  split at H
  · rename_i h; obtain rfl := Option.some.inj H
    obtain rfl := HR.1
    refine calls_in Try.func29 rfl rfl ?_
    intro a0 S0
    refine w_seq ?_
    refine w_region ?_
    refine r_pures [_] S0 rfl ?_
    clear S0; intro a0 S0
    refine wl_nil ?_
    refine nr_then ?_
    refine w_seq ?_
    refine w_seq ?_
    refine w_region ?_
    refine r_pures [_] S0 rfl ?_
    clear S0; intro a0 S0
    refine r_snil S0 rfl rfl sl22 rfl ?_
    clear S0; intro a0 S0
    refine wl_nil ?_
    refine nr_then ?_
    cases A with
    | none =>
      have hx : x = [] := by
        rcases Nat.eq_zero_or_pos x.length with h0 | h0
        · exact List.eq_nil_of_length_eq_zero h0
        · obtain ⟨b, o, hA, _⟩ := HR.2.2.2 h0; cases hA
      subst hx
      refine w_true S0 rfl rfl ?_
      refine w_seq ?_
      refine w_region ?_
      refine r_pures [_] S0 rfl ?_
      clear S0; intro a0 S0
      refine wl_nil ?_
      refine nr_then ?_
      refine w_ret ?_
      refine ret_then ?_
      refine ret1 S0 rfl rfl ?_
      exact ⟨_, _, _, rfl, HS.own_nil _ _ Hq⟩
    | some A =>
      refine w_false S0 rfl rfl ?_
      refine w_skip ?_
      refine nr_then ?_
      refine w_seq ?_
      refine w_region ?_
      refine r_lit (e := e_api_Timer) (l := ([] : List api_Timer)) (m := 0) (vs := []) S0 Hq sl22 ti32 rfl rfl rfl rfl rfl rfl ?_
      clear S0 Hq; intro b1 a0 w S0 Hq
      refine r_pures [_] S0 rfl ?_
      clear S0; intro a0 S0
      refine r_app [] S0 Hq (isH_rd [_] Hq HR) rfl rfl sl22 ti32 rfl (by simpa using h) rfl rfl ?_
      clear S0 Hq; intro A' n' a0 w S0 Hq
      refine r_pures [_] S0 rfl ?_
      clear S0; intro a0 S0
      refine wl_nil ?_
      refine nr_then ?_
      refine w_ret ?_
      refine ret1 S0 rfl rfl ?_
      exact ⟨_, _, _, rfl, Hq⟩
  · cases H
end Go.Proofs.Ytailjeoimlemnaa.M

/- waybill/timer.Add: a plain function, and that the machine's call comes to it: printed by a program of the session's own. -/
set_option linter.unusedVariables false
set_option linter.unusedSimpArgs false
namespace Go.Proofs.Ytailjeoimlemnaa.M
open Go Go.Proofs.Ytailjeoimlemnaa.Sl
/-! ### waybill/timer.Add: function 14 -/
def timer_Add.l1 : Nat → (List api_Timer) → Int → (List api_Timer) → Int → Option (Sum (Int) (Unit))
  | 0, _, _, _, _ => none
  | k + 1, x_more, z10x, z11x, z25x => if z25x < (z11x.length : Int) then (if 0 ≤ z25x then (if ((rd e_api_Timer z11x z25x).ID) = ((rd e_api_Timer x_more z10x).ID) then (some (Sum.inl z25x)) else (timer_Add.l1 k x_more z10x z11x (IntKind.i64.wrap (z25x + 1)))) else (none)) else (some (Sum.inr (())))
def timer_Add.l0 : Nat → (List api_Timer) → Int → (List api_Timer) → Option ((List api_Timer) × Int)
  | 0, _, _, _ => none
  | k + 1, x_more, z10x, z11x => if z10x < (x_more.length : Int) then (if 0 ≤ z10x then (if (z11x.length : Int) = 1024 then (some (([] : List api_Timer), 3)) else ((timer_odd.f (rd e_api_Timer x_more z10x)).bind fun z22t => (((if z22t = true then (some (Sum.inl (([] : List api_Timer), 4))) else ((((timer_Add.l1 k x_more z10x z11x 0)) : Option (Sum (Int) (Unit))).bind fun v_ => (match v_ with | (Sum.inl z24x) => if 0 ≤ z24x then (some (Sum.inl (([] : List api_Timer), 6))) else (some (Sum.inr (()))) | (Sum.inr (_)) => some (Sum.inr (()))))) : Option (Sum ((List api_Timer) × Int) (Unit))).bind fun v_ => (match v_ with | (Sum.inl q_) => some q_ | (Sum.inr (_)) => (timer_heap_push.f k z11x (rd e_api_Timer x_more z10x)).bind fun z33t => (timer_Add.l0 k x_more (IntKind.i64.wrap (z10x + 1)) z33t))))) else (none)) else (some (z11x, 0))
def timer_Add.f (k : Nat) (x_l : List api_Timer) (x_more : List api_Timer) : Option ((List api_Timer) × Int) := (timer_Check.f k x_l).bind fun z2t => (if z2t = 0 then ((slices_Clone_api_Timer_api_Timer.f x_l).bind fun z5t => ((timer_Add.l0 k x_more 0 z5t))) else (some (([] : List api_Timer), z2t)))
set_option maxRecDepth 100000 in
set_option maxHeartbeats 4000000 in
theorem timer_Add.calls (k : Nat) (A0 : Option Addr) (n0 c0 : Nat) (x_l : List api_Timer) (A1 : Option Addr) (n1 c1 : Nat) (x_more : List api_Timer) (W0 : World) (X : Heap) (HR0 : Rd e_api_Timer X A0 n0 c0 x_l) (HR1 : Rd e_api_Timer X A1 n1 c1 x_more) (Hq : HS W0 [isH X] W0) (r : (List api_Timer) × Int) (H : timer_Add.f k x_l x_more = some r) :
    Calls Try.prog 14 #[.slice A0 n0 c0, .slice A1 n1 c1] W0 (fun e w => ∃ Ar0 nr0 cr0, e = .returned (.tuple #[.slice Ar0 nr0 cr0, .int .i64 r.2]) ∧ HS W0 [own e_api_Timer 32 Ar0 nr0 cr0 r.1, isH X] w) := by
  obtain rfl := HR0.1
  obtain rfl := HR1.1
  rw [timer_Add.f] at H
  refine calls_in Try.func14 rfl rfl ?_
  intro a0 S0
  refine w_seq ?_
  refine w_region ?_
  refine r_pures [_, _] S0 rfl ?_
  clear S0; intro a0 S0
  refine wl_nil ?_
  refine nr_then ?_
  refine w_seq ?_
  refine w_seq ?_
  refine w_region ?_
  refine r_pures [_] S0 rfl ?_
  clear S0; intro a0 S0
  obtain ⟨Xz1, HXz1, HPz1, HBz1⟩ := call_frame [] Hq
  dsimp only [List.cons_append, List.nil_append] at HXz1 HBz1
  obtain ⟨z2t, Hc, H⟩ := Option.bind_eq_some_iff.mp H
  refine r_call S0 rfl rfl goes22 rfl ?_
  refine (timer_Check.calls _ _ _ _ x_l _ _ (sl_isH_rd [] HPz1 HR0) HXz1 z2t Hc).mono ?_
  rintro e w ⟨rfl, Hq'⟩
  have Hq : HS W0 [isH X] w := HBz1 [] _ Hq'
  clear HXz1 HPz1 HBz1 Hq'
  refine ⟨.int .i64 z2t, rfl, ?_⟩; clear S0; intro a0 S0
  refine r_pures [_] S0 rfl ?_
  clear S0; intro a0 S0
  refine wl_nil ?_
  refine nr_then ?_
  refine w_seq ?_
  refine w_region ?_
  refine r_pures [_, _] S0 rfl ?_
  clear S0; intro a0 S0
  refine wl_nil ?_
  refine nr_then ?_
  by_cases z3h : z2t = 0
  · replace H := (if_pos z3h).symm.trans H
    refine w_false S0 rfl (congrArg (!·) (decide_eq_true z3h)) ?_
    refine w_skip ?_
    refine nr_then ?_
    refine w_seq ?_
    refine w_region ?_
    refine r_pures [_] S0 rfl ?_
    clear S0; intro a0 S0
    obtain ⟨Xz4, HXz4, HPz4, HBz4⟩ := call_frame [] Hq
    dsimp only [List.cons_append, List.nil_append] at HXz4 HBz4
    obtain ⟨z5t, Hc, H⟩ := Option.bind_eq_some_iff.mp H
    refine r_call S0 rfl rfl goes29 rfl ?_
    refine (slices_Clone_api_Timer_api_Timer.calls _ _ _ x_l _ _ (sl_isH_rd [] HPz4 HR0) HXz4 z5t Hc).mono ?_
    rintro e w ⟨z6A, z7m, z8n, rfl, Hq'⟩
    have Hq : HS W0 [own e_api_Timer 32 z6A z7m z8n z5t, isH X] w := HBz4 [_] _ Hq'
    clear HXz4 HPz4 HBz4 Hq'
    obtain rfl := own_len [] Hq
    refine ⟨.slice z6A z5t.length z8n, rfl, ?_⟩; clear S0; intro a0 S0
    refine r_alloc S0 Hq ti56 rfl ?_
    clear S0 Hq; intro z9b a0 w S0 Hq
    refine r_st [] S0 Hq rfl rfl ti56 [.slice z6A z5t.length z8n] rfl rfl rfl rfl [.slice z6A z5t.length z8n] rfl ?_
    clear Hq; intro w Hq; dsimp only [List.cons_append, List.nil_append] at Hq
    refine wl_nil ?_
    refine nr_then ?_
    refine w_seq ?_
    refine w_seq ?_
    refine w_region ?_
    refine r_pures [_] S0 rfl ?_
    clear S0; intro a0 S0
    refine r_len S0 rfl sl22 rfl ?_
    clear S0; intro a0 S0
    refine r_pures [_] S0 rfl ?_
    clear S0; intro a0 S0
    refine wl_nil ?_
    refine nr_then ?_
    refine w_block ?_
    refine w_loop (fun kq a w => ∃ z10x z11x z12A z13m z14n, timer_Add.l0 kq x_more z10x z11x = some r ∧ Sl 38 [] [(7, .pointer (some ⟨z9b, 0, none⟩)), (17, .slice A1 x_more.length c1), (18, .int .i64 (x_more.length : Int)), (19, .int .i64 z10x)] a ∧ HS W0 [bx z9b 56 [.slice z12A z13m z14n], own e_api_Timer 32 z12A z13m z14n z11x, isH X] w) _ ⟨0, z5t, z6A, z5t.length, z8n, H, S0.sub ⟨rfl, rfl, rfl, rfl, trivial⟩, Hq⟩ ?_
    clear H Hq S0
    rintro k0 a w ⟨z10x, z11x, z12A, z13m, z14n, H, S0, Hq⟩
    cases k0 with
    | zero => simp [timer_Add.l0] at H
    | succ k0 =>
      refine ⟨k0, rfl, ?_⟩
      rw [timer_Add.l0] at H
      obtain rfl := own_len [_] Hq
      refine w_seq ?_
      refine w_region ?_
      refine r_pures [_] S0 rfl ?_
      clear S0; intro a0 S0
      refine wl_nil ?_
      refine nr_then ?_
      refine w_seq ?_
      by_cases z15h : z10x < (x_more.length : Int)
      · replace H := (if_pos z15h).symm.trans H
        refine w_true S0 rfl (decide_eq_true z15h) ?_
        refine w_skip ?_
        refine nr_then ?_
        refine w_seq ?_
        refine w_block ?_
        refine w_seq ?_
        refine w_region ?_
        by_cases z16h : 0 ≤ z10x
        · replace H := (if_pos z16h).symm.trans H
          obtain ⟨z17b, z18o, rfl⟩ := (isH_rd [_, _] Hq HR1).at (by omega)
          refine r_index S0 rfl rfl sl22 ti32 z16h z15h rfl ?_
          clear S0; intro a0 S0
          refine r_elA (vs := [.int .i64 ((rd e_api_Timer x_more z10x).At), .int .i64 ((rd e_api_Timer x_more z10x).ID)]) S0 (isH_rd [_, _] Hq HR1) z16h z15h rfl ti32 rfl rfl rfl ?_
          clear S0; intro a0 S0
          refine r_alloc S0 Hq ti32 rfl ?_
          clear S0 Hq; intro z19b a0 w S0 Hq
          refine r_st [] S0 Hq rfl rfl ti32 [.int .i64 ((rd e_api_Timer x_more z10x).At), .int .i64 ((rd e_api_Timer x_more z10x).ID)] rfl rfl rfl rfl [.int .i64 ((rd e_api_Timer x_more z10x).At), .int .i64 ((rd e_api_Timer x_more z10x).ID)] rfl ?_
          clear Hq; intro w Hq; dsimp only [List.cons_append, List.nil_append] at Hq
          refine wl_nil ?_
          refine nr_then ?_
          refine w_seq ?_
          refine w_block ?_
          refine w_seq ?_
          refine w_region ?_
          refine r_ldS [_] S0 Hq rfl ti56 _ rfl rfl ?_
          clear S0; intro a0 S0
          refine r_len S0 rfl sl56 rfl ?_
          clear S0; intro a0 S0
          refine r_pures [_, _] S0 rfl ?_
          clear S0; intro a0 S0
          refine wl_nil ?_
          refine nr_then ?_
          by_cases z20h : (z11x.length : Int) = 1024
          · replace H := (if_pos z20h).symm.trans H
            refine w_true S0 rfl (decide_eq_true z20h) ?_
            refine w_seq ?_
            refine w_region ?_
            refine r_pures [_, _] S0 rfl ?_
            clear S0; intro a0 S0
            refine wl_nil ?_
            refine nr_then ?_
            refine w_ret ?_
            refine ret_in ?_
            refine ret_then ?_
            refine ret_in ?_
            refine ret_then ?_
            refine ret_then ?_
            refine ret_in ?_
            refine ret_then ?_
            obtain rfl := Option.some.inj H
            replace Hq := HS.own_nil e_api_Timer 32 Hq
            refine ret2 S0 rfl rfl rfl ?_
            replace Hq := HS.pull [_, _, _, _] Hq
            dsimp only [List.cons_append, List.nil_append] at Hq
            replace Hq := HS.pull [_] Hq
            dsimp only [List.cons_append, List.nil_append] at Hq
            replace Hq := HS.keep [_, _] Hq
            exact ⟨none, 0, 0, rfl, Hq⟩
          · replace H := (if_neg z20h).symm.trans H
            refine w_false S0 rfl (decide_eq_false z20h) ?_
            refine w_seq ?_
            refine w_region ?_
            refine r_ldA [] S0 Hq rfl ti32 [.int .i64 ((rd e_api_Timer x_more z10x).At), .int .i64 ((rd e_api_Timer x_more z10x).ID)] rfl rfl rfl ?_
            clear S0; intro a0 S0
            obtain ⟨Xz21, HXz21, HPz21, HBz21⟩ := call_frame [] Hq
            dsimp only [List.cons_append, List.nil_append] at HXz21 HBz21
            obtain ⟨z22t, Hc, H⟩ := Option.bind_eq_some_iff.mp H
            refine r_call S0 rfl rfl goes31 rfl ?_
            refine (timer_odd.calls (rd e_api_Timer x_more z10x) _ _  HXz21 z22t Hc).mono ?_
            rintro e w ⟨rfl, Hq'⟩
            have Hq : HS W0 [bx z19b 32 [.int .i64 ((rd e_api_Timer x_more z10x).At), .int .i64 ((rd e_api_Timer x_more z10x).ID)], bx z9b 56 [.slice z12A z11x.length z14n], own e_api_Timer 32 z12A z11x.length z14n z11x, isH X] w := HBz21 [] _ Hq'
            clear HXz21 HPz21 HBz21 Hq'
            refine ⟨.bool z22t, rfl, ?_⟩; clear S0; intro a0 S0
            refine r_pures [_] S0 rfl ?_
            clear S0; intro a0 S0
            refine wl_nil ?_
            refine nr_then ?_
            obtain ⟨v1, H, HU1⟩ := Option.bind_eq_some_iff.mp H
            refine w_cutT (fun a w => v1 = (Sum.inr (())) ∧ Sl 38 [] [(7, .pointer (some ⟨z9b, 0, none⟩)), (9, .pointer (some ⟨z19b, 0, none⟩)), (17, .slice (some ⟨z17b, z18o, none⟩) x_more.length c1), (18, .int .i64 (x_more.length : Int)), (19, .int .i64 z10x)] a ∧ HS W0 [bx z19b 32 [.int .i64 ((rd e_api_Timer x_more z10x).At), .int .i64 ((rd e_api_Timer x_more z10x).ID)], bx z9b 56 [.slice z12A z11x.length z14n], own e_api_Timer 32 z12A z11x.length z14n z11x, isH X] w) ?_ ?_
            · skip
              by_cases z23h : z22t = true
              · replace H := (if_pos z23h).symm.trans H
                refine w_true S0 rfl z23h ?_
                refine w_seq ?_
                refine w_region ?_
                refine r_pures [_, _] S0 rfl ?_
                clear S0; intro a0 S0
                refine wl_nil ?_
                refine nr_then ?_
                refine w_ret ?_
                refine ret_then ?_
                obtain rfl := Option.some.inj H
                have H := HU1; clear HU1; dsimp only at H
                refine ret_in ?_
                refine ret_then ?_
                refine ret_in ?_
                refine ret_then ?_
                refine ret_then ?_
                refine ret_in ?_
                refine ret_then ?_
                obtain rfl := Option.some.inj H
                replace Hq := HS.own_nil e_api_Timer 32 Hq
                refine ret2 S0 rfl rfl rfl ?_
                replace Hq := HS.pull [_, _, _, _] Hq
                dsimp only [List.cons_append, List.nil_append] at Hq
                replace Hq := HS.pull [_] Hq
                dsimp only [List.cons_append, List.nil_append] at Hq
                replace Hq := HS.keep [_, _] Hq
                exact ⟨none, 0, 0, rfl, Hq⟩
              · replace H := (if_neg z23h).symm.trans H
                refine w_false S0 rfl (Bool.eq_false_iff.mpr z23h) ?_
                refine w_seq ?_
                refine w_region ?_
                refine r_ldS [_] S0 Hq rfl ti56 _ rfl rfl ?_
                clear S0; intro a0 S0
                refine r_pures [_] S0 rfl ?_
                clear S0; intro a0 S0
                refine r_call S0 rfl rfl goes32 rfl ?_
                refine calls_in Try.func32 rfl rfl ?_
                intro a1 S1
                refine w_seq ?_
                refine w_region ?_
                refine r_pures [_] S1 rfl ?_
                clear S1; intro a1 S1
                refine wl_nil ?_
                refine nr_then ?_
                refine w_seq ?_
                refine w_region ?_
                refine r_pures [_, _] S1 rfl ?_
                clear S1; intro a1 S1
                refine r_call S1 rfl rfl goes48 rfl ?_
                refine calls_in Try.func48 rfl rfl ?_
                intro a2 S2
                refine w_seq ?_
                refine w_region ?_
                refine r_pures [_] S2 rfl ?_
                clear S2; intro a2 S2
                refine wl_nil ?_
                refine nr_then ?_
                refine w_seq ?_
                refine w_seq ?_
                refine w_region ?_
                refine r_pures [_] S2 rfl ?_
                clear S2; intro a2 S2
                refine r_len S2 rfl sl56 rfl ?_
                clear S2; intro a2 S2
                refine r_pures [_] S2 rfl ?_
                clear S2; intro a2 S2
                refine wl_nil ?_
                refine nr_then ?_
                obtain ⟨v2, H, HU2⟩ := Option.bind_eq_some_iff.mp H
                refine w_cutT (fun a w => v2 = (Sum.inr (())) ∧ Sl 19 [] [] a ∧ HS W0 [bx z19b 32 [.int .i64 ((rd e_api_Timer x_more z10x).At), .int .i64 ((rd e_api_Timer x_more z10x).ID)], bx z9b 56 [.slice z12A z11x.length z14n], own e_api_Timer 32 z12A z11x.length z14n z11x, isH X] w) ?_ ?_
                · skip
                  refine w_block ?_
                  refine w_loop (fun kq a w => ∃ z25x, timer_Add.l1 kq x_more z10x z11x z25x = some v2 ∧ Sl 19 [] [(0, .slice z12A z11x.length z14n), (1, .func (.func 33) #[] #[.pointer (some ⟨z19b, 0, none⟩)]), (7, .int .i64 (z11x.length : Int)), (8, .int .i64 z25x)] a ∧ HS W0 [bx z19b 32 [.int .i64 ((rd e_api_Timer x_more z10x).At), .int .i64 ((rd e_api_Timer x_more z10x).ID)], bx z9b 56 [.slice z12A z11x.length z14n], own e_api_Timer 32 z12A z11x.length z14n z11x, isH X] w) _ ⟨0, H, S2.sub ⟨rfl, rfl, rfl, rfl, trivial⟩, Hq⟩ ?_
                  clear H Hq S2
                  rintro k1 a w ⟨z25x, H, S2, Hq⟩
                  cases k1 with
                  | zero => simp [timer_Add.l1] at H
                  | succ k1 =>
                    refine ⟨k1, rfl, ?_⟩
                    rw [timer_Add.l1] at H
                    refine w_seq ?_
                    refine w_region ?_
                    refine r_pures [_] S2 rfl ?_
                    clear S2; intro a2 S2
                    refine wl_nil ?_
                    refine nr_then ?_
                    refine w_seq ?_
                    by_cases z26h : z25x < (z11x.length : Int)
                    · replace H := (if_pos z26h).symm.trans H
                      refine w_true S2 rfl (decide_eq_true z26h) ?_
                      refine w_skip ?_
                      refine nr_then ?_
                      refine w_seq ?_
                      refine w_block ?_
                      refine w_seq ?_
                      refine w_region ?_
                      refine r_pures [_, _] S2 rfl ?_
                      clear S2; intro a2 S2
                      refine wl_nil ?_
                      refine nr_then ?_
                      refine w_seq ?_
                      refine w_region ?_
                      refine r_pures [_, _, _] S2 rfl ?_
                      clear S2; intro a2 S2
                      by_cases z27h : 0 ≤ z25x
                      · replace H := (if_pos z27h).symm.trans H
                        obtain ⟨z28g, rfl⟩ := own_at [_, _] Hq (by omega)
                        refine r_index S2 rfl rfl sl56 ti32 z27h z26h rfl ?_
                        clear S2; intro a2 S2
                        refine r_elA (vs := [.int .i64 ((rd e_api_Timer z11x z25x).At), .int .i64 ((rd e_api_Timer z11x z25x).ID)]) S2 (own_rd [_, _] Hq) z27h z26h rfl ti32 rfl rfl rfl ?_
                        clear S2; intro a2 S2
                        refine r_call S2 rfl rfl goes33 rfl ?_
                        refine calls_in Try.func33 rfl rfl ?_
                        intro a3 S3
                        refine w_seq ?_
                        refine w_region ?_
                        refine r_box (vs := [.int .i64 ((rd e_api_Timer z11x z25x).At), .int .i64 ((rd e_api_Timer z11x z25x).ID)]) S3 Hq rfl rfl rfl ?_
                        clear S3 Hq; intro z29b a3 w S3 Hq
                        refine r_pures [_] S3 rfl ?_
                        clear S3; intro a3 S3
                        refine wl_nil ?_
                        refine nr_then ?_
                        refine w_seq ?_
                        refine w_region ?_
                        refine r_fieldAddr S3 rfl fo32x1 (1) rfl rfl ?_
                        clear S3; intro a3 S3
                        refine r_ldS [] S3 Hq rfl ti3 _ rfl rfl ?_
                        clear S3; intro a3 S3
                        refine r_fieldAddr S3 rfl fo32x1 (1) rfl rfl ?_
                        clear S3; intro a3 S3
                        refine r_ldS [_] S3 Hq rfl ti3 _ rfl rfl ?_
                        clear S3; intro a3 S3
                        refine r_pures [_, _] S3 rfl ?_
                        clear S3; intro a3 S3
                        refine wl_nil ?_
                        refine nr_then ?_
                        refine w_ret ?_
                        refine ret1 S3 rfl rfl ?_
                        clear S3
                        refine ⟨_, rfl, ?_⟩; clear S2; intro a2 S2
                        refine wl_nil ?_
                        refine nr_then ?_
                        by_cases z30h : ((rd e_api_Timer z11x z25x).ID) = ((rd e_api_Timer x_more z10x).ID)
                        · replace H := (if_pos z30h).symm.trans H
                          refine w_true S2 rfl (decide_eq_true z30h) ?_
                          refine w_seq ?_
                          refine w_region ?_
                          refine r_pures [_, _] S2 rfl ?_
                          clear S2; intro a2 S2
                          refine wl_nil ?_
                          refine nr_then ?_
                          refine w_ret ?_
                          refine ret_in ?_
                          refine ret_then ?_
                          refine ret_then ?_
                          refine ret_in ?_
                          refine ret_then ?_
                          obtain rfl := Option.some.inj H
                          have H := HU2; clear HU2; dsimp only at H
                          refine ret_then ?_
                          refine ret1 S2 rfl rfl ?_
                          clear S2
                          refine ⟨_, rfl, ?_⟩; clear S1; intro a1 S1
                          refine r_pures [_, _] S1 rfl ?_
                          clear S1; intro a1 S1
                          refine wl_nil ?_
                          refine nr_then ?_
                          refine w_ret ?_
                          refine ret1 S1 rfl rfl ?_
                          clear S1
                          refine ⟨_, rfl, ?_⟩; clear S0; intro a0 S0
                          refine r_pures [_] S0 rfl ?_
                          clear S0; intro a0 S0
                          refine wl_nil ?_
                          refine nr_then ?_
                          by_cases z31h : 0 ≤ z25x
                          · replace H := (if_pos z31h).symm.trans H
                            refine w_true S0 rfl (decide_eq_true z31h) ?_
                            refine w_seq ?_
                            refine w_region ?_
                            refine r_pures [_, _] S0 rfl ?_
                            clear S0; intro a0 S0
                            refine wl_nil ?_
                            refine nr_then ?_
                            refine w_ret ?_
                            refine ret_then ?_
                            obtain rfl := Option.some.inj H
                            have H := HU1; clear HU1; dsimp only at H
                            refine ret_in ?_
                            refine ret_then ?_
                            refine ret_in ?_
                            refine ret_then ?_
                            refine ret_then ?_
                            refine ret_in ?_
                            refine ret_then ?_
                            obtain rfl := Option.some.inj H
                            replace Hq := HS.own_nil e_api_Timer 32 Hq
                            refine ret2 S0 rfl rfl rfl ?_
                            replace Hq := HS.pull [_, _, _, _, _] Hq
                            dsimp only [List.cons_append, List.nil_append] at Hq
                            replace Hq := HS.pull [_] Hq
                            dsimp only [List.cons_append, List.nil_append] at Hq
                            replace Hq := HS.keep [_, _] Hq
                            exact ⟨none, 0, 0, rfl, Hq⟩
                          · replace H := (if_neg z31h).symm.trans H
                            refine w_false S0 rfl (decide_eq_false z31h) ?_
                            refine w_skip ?_
                            refine nr_then ?_
                            replace Hq := HS.pull [_, _, _, _] Hq
                            dsimp only [List.cons_append, List.nil_append] at Hq
                            replace Hq := HS.pull [_, _, _, _] Hq
                            dsimp only [List.cons_append, List.nil_append] at Hq
                            replace Hq := HS.pull [_, _, _, _] Hq
                            dsimp only [List.cons_append, List.nil_append] at Hq
                            replace Hq := HS.pull [_, _, _, _] Hq
                            dsimp only [List.cons_append, List.nil_append] at Hq
                            replace Hq := HS.keep [_, _, _, _] Hq
                            obtain rfl := Option.some.inj H
                            exact ⟨rfl, S0.sub ⟨rfl, rfl, rfl, rfl, rfl, trivial⟩, Hq⟩
                        · replace H := (if_neg z30h).symm.trans H
                          refine w_false S2 rfl (decide_eq_false z30h) ?_
                          refine w_skip ?_
                          refine nr_in ?_
                          refine nr_then ?_
                          refine w_region ?_
                          refine r_pures [_, _] S2 rfl ?_
                          clear S2; intro a2 S2
                          refine wl_nil ?_
                          refine nr_then ?_
                          replace Hq := HS.pull [_, _, _, _] Hq
                          dsimp only [List.cons_append, List.nil_append] at Hq
                          replace Hq := HS.pull [_, _, _, _] Hq
                          dsimp only [List.cons_append, List.nil_append] at Hq
                          replace Hq := HS.pull [_, _, _, _] Hq
                          dsimp only [List.cons_append, List.nil_append] at Hq
                          replace Hq := HS.pull [_, _, _, _] Hq
                          dsimp only [List.cons_append, List.nil_append] at Hq
                          replace Hq := HS.keep [_, _, _, _] Hq
                          exact ⟨(IntKind.i64.wrap (z25x + 1)), H, S2.sub ⟨rfl, rfl, rfl, rfl, trivial⟩, Hq⟩
                      · replace H := (if_neg z27h).symm.trans H
                        exact nomatch H
                    · replace H := (if_neg z26h).symm.trans H
                      refine w_false S2 rfl (decide_eq_false z26h) ?_
                      refine w_exit ?_
                      refine ex_then ?_
                      refine ex_then ?_
                      refine ex_in ?_
                      refine nr_then ?_
                      obtain rfl := Option.some.inj H
                      exact ⟨rfl, S2.sub trivial, Hq⟩
                · clear S2; rintro a w ⟨rfl, S2, Hq⟩
                  have H := HU2; clear HU2; dsimp only at H
                  refine nr_then ?_
                  refine w_seq ?_
                  refine w_region ?_
                  refine r_pures [_] S2 rfl ?_
                  clear S2; intro a2 S2
                  refine wl_nil ?_
                  refine nr_then ?_
                  refine w_ret ?_
                  refine ret1 S2 rfl rfl ?_
                  clear S2
                  refine ⟨_, rfl, ?_⟩; clear S1; intro a1 S1
                  refine r_pures [_, _] S1 rfl ?_
                  clear S1; intro a1 S1
                  refine wl_nil ?_
                  refine nr_then ?_
                  refine w_ret ?_
                  refine ret1 S1 rfl rfl ?_
                  clear S1
                  refine ⟨_, rfl, ?_⟩; clear S0; intro a0 S0
                  refine r_pures [_] S0 rfl ?_
                  clear S0; intro a0 S0
                  refine wl_nil ?_
                  refine nr_then ?_
                  refine w_false S0 rfl (by decide) ?_
                  refine w_skip ?_
                  refine nr_then ?_
                  obtain rfl := Option.some.inj H
                  exact ⟨rfl, S0.sub ⟨rfl, rfl, rfl, rfl, rfl, trivial⟩, Hq⟩
            · clear S0; rintro a w ⟨rfl, S0, Hq⟩
              have H := HU1; clear HU1; dsimp only at H
              refine nr_in ?_
              refine nr_then ?_
              refine w_region ?_
              refine r_ldA [] S0 Hq rfl ti32 [.int .i64 ((rd e_api_Timer x_more z10x).At), .int .i64 ((rd e_api_Timer x_more z10x).ID)] rfl rfl rfl ?_
              clear S0; intro a0 S0
              replace Hq := HS.pull [_] Hq
              dsimp only [List.cons_append, List.nil_append] at Hq
              replace Hq := HS.pull [_, _] Hq
              dsimp only [List.cons_append, List.nil_append] at Hq
              obtain ⟨Xz32, HXz32, HPz32, HBz32⟩ := call_frame [_, _] Hq
              dsimp only [List.cons_append, List.nil_append] at HXz32 HBz32
              obtain ⟨z33t, Hc, H⟩ := Option.bind_eq_some_iff.mp H
              refine r_call S0 rfl rfl goes25 rfl ?_
              refine (timer_heap_push.calls _ _ _ _ _ z11x (rd e_api_Timer x_more z10x) _ _  HXz32 z33t Hc).mono ?_
              rintro e w ⟨z34A, z35m, z36n, rfl, Hq'⟩
              have Hq : HS W0 [own e_api_Timer 32 z34A z35m z36n z33t, bx z9b 56 [.slice z34A z35m z36n], bx z19b 32 [.int .i64 ((rd e_api_Timer x_more z10x).At), .int .i64 ((rd e_api_Timer x_more z10x).ID)], isH X] w := HBz32 [_, _] _ Hq'
              clear HXz32 HPz32 HBz32 Hq'
              obtain rfl := own_len [] Hq
              refine ⟨.tuple #[], rfl, ?_⟩; clear S0; intro a0 S0
              refine wl_nil ?_
              refine nr_in ?_
              refine nr_then ?_
              refine w_region ?_
              refine r_pures [_, _] S0 rfl ?_
              clear S0; intro a0 S0
              refine wl_nil ?_
              refine nr_then ?_
              replace Hq := HS.pull [_, _, _] Hq
              dsimp only [List.cons_append, List.nil_append] at Hq
              replace Hq := HS.pull [_] Hq
              dsimp only [List.cons_append, List.nil_append] at Hq
              replace Hq := HS.pull [_, _] Hq
              dsimp only [List.cons_append, List.nil_append] at Hq
              replace Hq := HS.keep [_, _, _] Hq
              exact ⟨(IntKind.i64.wrap (z10x + 1)), z33t, z34A, z33t.length, z36n, H, S0.sub ⟨rfl, rfl, rfl, rfl, trivial⟩, Hq⟩
        · replace H := (if_neg z16h).symm.trans H
          exact nomatch H
      · replace H := (if_neg z15h).symm.trans H
        refine w_false S0 rfl (decide_eq_false z15h) ?_
        refine w_exit ?_
        refine ex_then ?_
        refine ex_then ?_
        refine ex_in ?_
        refine nr_then ?_
        refine w_seq ?_
        refine w_region ?_
        refine r_ldS [] S0 Hq rfl ti56 _ rfl rfl ?_
        clear S0; intro a0 S0
        refine r_pures [_, _] S0 rfl ?_
        clear S0; intro a0 S0
        refine wl_nil ?_
        refine nr_then ?_
        refine w_ret ?_
        obtain rfl := Option.some.inj H
        refine ret2 S0 rfl rfl rfl ?_
        replace Hq := HS.pull [_, _] Hq
        dsimp only [List.cons_append, List.nil_append] at Hq
        replace Hq := HS.pull [_, _] Hq
        dsimp only [List.cons_append, List.nil_append] at Hq
        replace Hq := HS.keep [_, _] Hq
        exact ⟨z12A, z11x.length, z14n, rfl, Hq⟩
  · replace H := (if_neg z3h).symm.trans H
    refine w_true S0 rfl (congrArg (!·) (decide_eq_false z3h)) ?_
    refine w_seq ?_
    refine w_region ?_
    refine r_pures [_, _, _] S0 rfl ?_
    clear S0; intro a0 S0
    refine wl_nil ?_
    refine nr_then ?_
    refine w_ret ?_
    refine ret_then ?_
    obtain rfl := Option.some.inj H
    replace Hq := HS.own_nil e_api_Timer 32 Hq
    refine ret2 S0 rfl rfl rfl ?_
    replace Hq := HS.pull [_] Hq
    dsimp only [List.cons_append, List.nil_append] at Hq
    replace Hq := HS.pull [_] Hq
    dsimp only [List.cons_append, List.nil_append] at Hq
    exact ⟨none, 0, 0, rfl, Hq⟩

end Go.Proofs.Ytailjeoimlemnaa.M

/- waybill/timer.First: a plain function, and that the machine's call comes to it: printed by a program of the session's own. -/
set_option linter.unusedVariables false
set_option linter.unusedSimpArgs false
namespace Go.Proofs.Ytailjeoimlemnaa.M
open Go Go.Proofs.Ytailjeoimlemnaa.Sl
/-! ### waybill/timer.First: function 18 -/
def timer_First.f (k : Nat) (x_l : List api_Timer) : Option (api_Timer × Int) := (timer_Check.f k x_l).bind fun z3t => (if z3t = 0 then (if (x_l.length : Int) = 0 then (some ((⟨0, 0⟩ : api_Timer), 71)) else (if 0 < (x_l.length : Int) then (some ((rd e_api_Timer x_l 0), 0)) else (none))) else (some ((⟨0, 0⟩ : api_Timer), z3t)))
set_option maxRecDepth 100000 in
set_option maxHeartbeats 4000000 in
theorem timer_First.calls (k : Nat) (A0 : Option Addr) (n0 c0 : Nat) (x_l : List api_Timer) (W0 : World) (X : Heap) (HR0 : Rd e_api_Timer X A0 n0 c0 x_l) (Hq : HS W0 [isH X] W0) (r : api_Timer × Int) (H : timer_First.f k x_l = some r) :
    Calls Try.prog 18 #[.slice A0 n0 c0] W0 (fun e w => e = .returned (.tuple #[.agg #[.int .i64 r.1.At, .int .i64 r.1.ID], .int .i64 r.2]) ∧ HS W0 [isH X] w) := by
  obtain rfl := HR0.1
  rw [timer_First.f] at H
  refine calls_in Try.func18 rfl rfl ?_
  intro a0 S0
  refine w_seq ?_
  refine w_region ?_
  refine r_alloc S0 Hq ti32 rfl ?_
  clear S0 Hq; intro z1b a0 w S0 Hq
  refine r_pures [_] S0 rfl ?_
  clear S0; intro a0 S0
  refine wl_nil ?_
  refine nr_then ?_
  refine w_seq ?_
  refine w_seq ?_
  refine w_region ?_
  refine r_pures [_] S0 rfl ?_
  clear S0; intro a0 S0
  obtain ⟨Xz2, HXz2, HPz2, HBz2⟩ := call_frame [] Hq
  dsimp only [List.cons_append, List.nil_append] at HXz2 HBz2
  obtain ⟨z3t, Hc, H⟩ := Option.bind_eq_some_iff.mp H
  refine r_call S0 rfl rfl goes22 rfl ?_
  refine (timer_Check.calls _ _ _ _ x_l _ _ (sl_isH_rd [_] HPz2 HR0) HXz2 z3t Hc).mono ?_
  rintro e w ⟨rfl, Hq'⟩
  have Hq : HS W0 [bx z1b 32 [.int .i64 0, .int .i64 0], isH X] w := HBz2 [] _ Hq'
  clear HXz2 HPz2 HBz2 Hq'
  refine ⟨.int .i64 z3t, rfl, ?_⟩; clear S0; intro a0 S0
  refine r_pures [_] S0 rfl ?_
  clear S0; intro a0 S0
  refine wl_nil ?_
  refine nr_then ?_
  refine w_seq ?_
  refine w_region ?_
  refine r_pures [_, _] S0 rfl ?_
  clear S0; intro a0 S0
  refine wl_nil ?_
  refine nr_then ?_
  by_cases z4h : z3t = 0
  · replace H := (if_pos z4h).symm.trans H
    refine w_false S0 rfl (congrArg (!·) (decide_eq_true z4h)) ?_
    refine w_skip ?_
    refine nr_then ?_
    refine w_seq ?_
    refine w_seq ?_
    refine w_region ?_
    refine r_pures [_] S0 rfl ?_
    clear S0; intro a0 S0
    refine r_len S0 rfl sl22 rfl ?_
    clear S0; intro a0 S0
    refine r_pures [_] S0 rfl ?_
    clear S0; intro a0 S0
    refine wl_nil ?_
    refine nr_then ?_
    by_cases z5h : (x_l.length : Int) = 0
    · replace H := (if_pos z5h).symm.trans H
      refine w_true S0 rfl (decide_eq_true z5h) ?_
      refine w_seq ?_
      refine w_region ?_
      refine r_build S0 ti32 pl32 rfl [.int .i64 0, .int .i64 0] rfl rfl ?_
      clear S0; intro a0 S0
      refine r_st [] S0 Hq rfl rfl ti32 [.int .i64 0, .int .i64 0] rfl rfl rfl rfl [.int .i64 0, .int .i64 0] rfl ?_
      clear Hq; intro w Hq; dsimp only [List.cons_append, List.nil_append] at Hq
      refine r_pures [_] S0 rfl ?_
      clear S0; intro a0 S0
      refine wl_nil ?_
      refine nr_then ?_
      refine w_ret ?_
      refine ret_then ?_
      obtain rfl := Option.some.inj H
      refine retL [.cell 2 32, .tmp 3] [.agg #[.int .i64 0, .int .i64 0], .int .i64 71] S0 rfl ⟨rv_cell [] Hq rfl ti32 rfl rfl, rfl, trivial⟩ (.tuple #[.agg #[.int .i64 0, .int .i64 0], .int .i64 71]) rfl ?_
      replace Hq := HS.pull [_] Hq
      dsimp only [List.cons_append, List.nil_append] at Hq
      replace Hq := HS.keep [_] Hq
      exact ⟨rfl, Hq⟩
    · replace H := (if_neg z5h).symm.trans H
      refine w_false S0 rfl (decide_eq_false z5h) ?_
      refine w_skip ?_
      refine nr_then ?_
      refine w_seq ?_
      refine w_region ?_
      refine r_pures [_] S0 rfl ?_
      clear S0; intro a0 S0
      by_cases z6h : 0 < (x_l.length : Int)
      · replace H := (if_pos z6h).symm.trans H
        obtain ⟨z7b, z8o, rfl⟩ := (isH_rd [_] Hq HR0).at (by omega)
        refine r_index S0 rfl rfl sl22 ti32 (by decide : (0:Int) ≤ 0) z6h rfl ?_
        clear S0; intro a0 S0
        refine r_elA (vs := [.int .i64 ((rd e_api_Timer x_l 0).At), .int .i64 ((rd e_api_Timer x_l 0).ID)]) S0 (isH_rd [_] Hq HR0) (by decide : (0:Int) ≤ 0) z6h rfl ti32 rfl rfl rfl ?_
        clear S0; intro a0 S0
        refine r_st [] S0 Hq rfl rfl ti32 [.int .i64 ((rd e_api_Timer x_l 0).At), .int .i64 ((rd e_api_Timer x_l 0).ID)] rfl rfl rfl rfl [.int .i64 ((rd e_api_Timer x_l 0).At), .int .i64 ((rd e_api_Timer x_l 0).ID)] rfl ?_
        clear Hq; intro w Hq; dsimp only [List.cons_append, List.nil_append] at Hq
        refine r_pures [_] S0 rfl ?_
        clear S0; intro a0 S0
        refine wl_nil ?_
        refine nr_then ?_
        refine w_ret ?_
        obtain rfl := Option.some.inj H
        refine retL [.cell 2 32, .tmp 3] [.agg #[.int .i64 ((rd e_api_Timer x_l 0).At), .int .i64 ((rd e_api_Timer x_l 0).ID)], .int .i64 0] S0 rfl ⟨rv_cell [] Hq rfl ti32 rfl rfl, rfl, trivial⟩ (.tuple #[.agg #[.int .i64 ((rd e_api_Timer x_l 0).At), .int .i64 ((rd e_api_Timer x_l 0).ID)], .int .i64 0]) rfl ?_
        replace Hq := HS.pull [_] Hq
        dsimp only [List.cons_append, List.nil_append] at Hq
        replace Hq := HS.keep [_] Hq
        exact ⟨rfl, Hq⟩
      · replace H := (if_neg z6h).symm.trans H
        exact nomatch H
  · replace H := (if_neg z4h).symm.trans H
    refine w_true S0 rfl (congrArg (!·) (decide_eq_false z4h)) ?_
    refine w_seq ?_
    refine w_region ?_
    refine r_build S0 ti32 pl32 rfl [.int .i64 0, .int .i64 0] rfl rfl ?_
    clear S0; intro a0 S0
    refine r_pures [_] S0 rfl ?_
    clear S0; intro a0 S0
    refine r_st [] S0 Hq rfl rfl ti32 [.int .i64 0, .int .i64 0] rfl rfl rfl rfl [.int .i64 0, .int .i64 0] rfl ?_
    clear Hq; intro w Hq; dsimp only [List.cons_append, List.nil_append] at Hq
    refine r_pures [_] S0 rfl ?_
    clear S0; intro a0 S0
    refine wl_nil ?_
    refine nr_then ?_
    refine w_ret ?_
    refine ret_then ?_
    obtain rfl := Option.some.inj H
    refine retL [.cell 2 32, .tmp 3] [.agg #[.int .i64 0, .int .i64 0], .int .i64 z3t] S0 rfl ⟨rv_cell [] Hq rfl ti32 rfl rfl, rfl, trivial⟩ (.tuple #[.agg #[.int .i64 0, .int .i64 0], .int .i64 z3t]) rfl ?_
    replace Hq := HS.pull [_] Hq
    dsimp only [List.cons_append, List.nil_append] at Hq
    replace Hq := HS.keep [_] Hq
    exact ⟨rfl, Hq⟩

end Go.Proofs.Ytailjeoimlemnaa.M

/- waybill/waybilllaw20.alive: a plain function, and that the machine's call comes to it: printed by a program of the session's own. -/
set_option linter.unusedVariables false
set_option linter.unusedSimpArgs false
namespace Go.Proofs.Ytailjeoimlemnaa.M
open Go Go.Proofs.Ytailjeoimlemnaa.Sl
/-! ### waybill/waybilllaw20.alive: function 7 -/
def waybilllaw20_alive.f (k : Nat) : Option (Bool) := (timer_Add.f k ([] : List api_Timer) ([(⟨5, 1⟩ : api_Timer), (⟨3, 2⟩ : api_Timer)] : List api_Timer)).bind fun (z4t, z5t) => ((timer_First.f k z4t).bind fun (z10t, z11t) => ((((waybilllaw20_num.f z5t).bind fun z15t => ((waybilllaw20_num.f z11t).bind fun z17t => (if (IntKind.i64.wrap (z15t + z17t)) = 0 then (some (decide (z10t = (⟨3, 2⟩ : api_Timer)))) else (some false)))) : Option (Bool)).bind fun z13x => (some z13x)))
set_option maxRecDepth 100000 in
set_option maxHeartbeats 4000000 in
theorem waybilllaw20_alive.calls (k : Nat)  (W0 : World) (X : Heap)  (Hq : HS W0 [isH X] W0) (r : Bool) (H : waybilllaw20_alive.f k  = some r) :
    Calls Try.prog 7 #[] W0 (fun e w => e = .returned (.bool r) ∧ HS W0 [isH X] w) := by
  rw [waybilllaw20_alive.f] at H
  refine calls_in Try.func7 rfl rfl ?_
  intro a0 S0
  refine w_seq ?_
  refine w_region ?_
  refine r_pures [_] S0 rfl ?_
  clear S0; intro a0 S0
  refine wl_nil ?_
  refine nr_then ?_
  refine w_seq ?_
  refine w_region ?_
  refine r_build S0 ti32 pl32 rfl [.int .i64 5, .int .i64 1] rfl rfl ?_
  clear S0; intro a0 S0
  refine r_build S0 ti32 pl32 rfl [.int .i64 3, .int .i64 2] rfl rfl ?_
  clear S0; intro a0 S0
  refine r_lit (e := e_api_Timer) (l := ([(⟨5, 1⟩ : api_Timer), (⟨3, 2⟩ : api_Timer)] : List api_Timer)) (m := 2) (vs := [.agg #[.int .i64 5, .int .i64 1], .agg #[.int .i64 3, .int .i64 2]]) S0 Hq sl22 ti32 rfl rfl rfl rfl rfl rfl ?_
  clear S0 Hq; intro z1b a0 w S0 Hq
  obtain ⟨Xz3, HXz3, HPz3, HBz3⟩ := call_frame [] Hq
  dsimp only [List.cons_append, List.nil_append] at HXz3 HBz3
  obtain ⟨⟨z4t, z5t⟩, Hc, H⟩ := Option.bind_eq_some_iff.mp H
  dsimp only at H
  refine r_call S0 rfl rfl goes14 rfl ?_
  refine (timer_Add.calls _ _ _ _ ([] : List api_Timer) _ _ _ ([(⟨5, 1⟩ : api_Timer), (⟨3, 2⟩ : api_Timer)] : List api_Timer) _ _ (rd_nil e_api_Timer _) (sl_own_rd [] HPz3) HXz3 (z4t, z5t) Hc).mono ?_
  rintro e w ⟨z6A, z7m, z8n, rfl, Hq'⟩
  have Hq : HS W0 [own e_api_Timer 32 z6A z7m z8n z4t, own e_api_Timer 32 (some ⟨z1b, 0, none⟩) 2 2 ([(⟨5, 1⟩ : api_Timer), (⟨3, 2⟩ : api_Timer)] : List api_Timer), isH X] w := HBz3 [_] _ Hq'
  clear HXz3 HPz3 HBz3 Hq'
  obtain rfl := own_len [] Hq
  refine ⟨.tuple #[.slice z6A z4t.length z8n, .int .i64 z5t], rfl, ?_⟩; clear S0; intro a0 S0
  refine r_pures [_, _, _, _, _] S0 rfl ?_
  clear S0; intro a0 S0
  refine wl_nil ?_
  refine nr_then ?_
  refine w_seq ?_
  refine w_region ?_
  refine r_pures [_] S0 rfl ?_
  clear S0; intro a0 S0
  obtain ⟨Xz9, HXz9, HPz9, HBz9⟩ := call_frame [] Hq
  dsimp only [List.cons_append, List.nil_append] at HXz9 HBz9
  obtain ⟨⟨z10t, z11t⟩, Hc, H⟩ := Option.bind_eq_some_iff.mp H
  dsimp only at H
  refine r_call S0 rfl rfl goes18 rfl ?_
  refine (timer_First.calls _ _ _ _ z4t _ _ (sl_own_rd [] HPz9) HXz9 (z10t, z11t) Hc).mono ?_
  rintro e w ⟨rfl, Hq'⟩
  have Hq : HS W0 [own e_api_Timer 32 z6A z4t.length z8n z4t, own e_api_Timer 32 (some ⟨z1b, 0, none⟩) 2 2 ([(⟨5, 1⟩ : api_Timer), (⟨3, 2⟩ : api_Timer)] : List api_Timer), isH X] w := HBz9 [] _ Hq'
  clear HXz9 HPz9 HBz9 Hq'
  refine ⟨.tuple #[.agg #[.int .i64 z10t.At, .int .i64 z10t.ID], .int .i64 z11t], rfl, ?_⟩; clear S0; intro a0 S0
  refine r_pures [_, _, _] S0 rfl ?_
  clear S0; intro a0 S0
  refine r_alloc S0 Hq ti32 rfl ?_
  clear S0 Hq; intro z12b a0 w S0 Hq
  refine r_st [] S0 Hq rfl rfl ti32 [.int .i64 z10t.At, .int .i64 z10t.ID] rfl rfl rfl rfl [.int .i64 z10t.At, .int .i64 z10t.ID] rfl ?_
  clear Hq; intro w Hq; dsimp only [List.cons_append, List.nil_append] at Hq
  refine r_pures [_] S0 rfl ?_
  clear S0; intro a0 S0
  refine wl_nil ?_
  refine nr_then ?_
  refine w_seq ?_
  obtain ⟨z13x, H, HU1⟩ := Option.bind_eq_some_iff.mp H
  refine w_cutT (fun a w => Sl 28 [] [(0, .bool z13x)] a ∧ HS W0 [isH X] w) ?_ ?_
  · skip
    refine w_region ?_
    refine r_pures [_] S0 rfl ?_
    clear S0; intro a0 S0
    obtain ⟨Xz14, HXz14, HPz14, HBz14⟩ := call_frame [] Hq
    dsimp only [List.cons_append, List.nil_append] at HXz14 HBz14
    obtain ⟨z15t, Hc, H⟩ := Option.bind_eq_some_iff.mp H
    refine r_call S0 rfl rfl goes10 rfl ?_
    refine (waybilllaw20_num.calls z5t _ _  HXz14 z15t Hc).mono ?_
    rintro e w ⟨rfl, Hq'⟩
    have Hq : HS W0 [bx z12b 32 [.int .i64 z10t.At, .int .i64 z10t.ID], own e_api_Timer 32 z6A z4t.length z8n z4t, own e_api_Timer 32 (some ⟨z1b, 0, none⟩) 2 2 ([(⟨5, 1⟩ : api_Timer), (⟨3, 2⟩ : api_Timer)] : List api_Timer), isH X] w := HBz14 [] _ Hq'
    clear HXz14 HPz14 HBz14 Hq'
    refine ⟨.int .i64 z15t, rfl, ?_⟩; clear S0; intro a0 S0
    refine r_pures [_] S0 rfl ?_
    clear S0; intro a0 S0
    obtain ⟨Xz16, HXz16, HPz16, HBz16⟩ := call_frame [] Hq
    dsimp only [List.cons_append, List.nil_append] at HXz16 HBz16
    obtain ⟨z17t, Hc, H⟩ := Option.bind_eq_some_iff.mp H
    refine r_call S0 rfl rfl goes10 rfl ?_
    refine (waybilllaw20_num.calls z11t _ _  HXz16 z17t Hc).mono ?_
    rintro e w ⟨rfl, Hq'⟩
    have Hq : HS W0 [bx z12b 32 [.int .i64 z10t.At, .int .i64 z10t.ID], own e_api_Timer 32 z6A z4t.length z8n z4t, own e_api_Timer 32 (some ⟨z1b, 0, none⟩) 2 2 ([(⟨5, 1⟩ : api_Timer), (⟨3, 2⟩ : api_Timer)] : List api_Timer), isH X] w := HBz16 [] _ Hq'
    clear HXz16 HPz16 HBz16 Hq'
    refine ⟨.int .i64 z17t, rfl, ?_⟩; clear S0; intro a0 S0
    refine r_pures [_, _, _] S0 rfl ?_
    clear S0; intro a0 S0
    by_cases z18h : (IntKind.i64.wrap (z15t + z17t)) = 0
    · replace H := (if_pos z18h).symm.trans H
      refine r_on S0 rfl rfl rfl (decide_eq_true z18h) ?_
      refine r_ldA [] S0 Hq rfl ti32 [.int .i64 z10t.At, .int .i64 z10t.ID] rfl rfl rfl ?_
      clear S0; intro a0 S0
      refine r_on S0 rfl rfl rfl (decide_eq_true z18h) ?_
      refine r_build S0 ti32 pl32 rfl [.int .i64 3, .int .i64 2] rfl rfl ?_
      clear S0; intro a0 S0
      refine r_on S0 rfl rfl rfl (decide_eq_true z18h) ?_
      refine r_seq (us := [.int .i64 z10t.At, .int .i64 z10t.ID]) (vs := [.int .i64 3, .int .i64 2]) S0 rfl rfl (seq32 z10t (⟨3, 2⟩ : api_Timer)) rfl ?_
      clear S0; intro a0 S0
      refine r_pick S0 rfl (decide_eq_true z18h) _ rfl rfl ?_
      clear S0; intro a0 S0
      refine r_pures [_] S0 rfl ?_
      clear S0; intro a0 S0
      refine wl_nil ?_
      refine nr_then ?_
      replace Hq := HS.pull [_, _, _] Hq
      dsimp only [List.cons_append, List.nil_append] at Hq
      replace Hq := HS.keep [_] Hq
      obtain rfl := Option.some.inj H
      exact ⟨S0.sub ⟨rfl, trivial⟩, Hq⟩
    · replace H := (if_neg z18h).symm.trans H
      refine r_off S0 rfl rfl rfl (decide_eq_false z18h) ?_ rfl
      clear S0; intro a0 S0
      refine r_off S0 rfl rfl rfl (decide_eq_false z18h) ?_ rfl
      clear S0; intro a0 S0
      refine r_off S0 rfl rfl rfl (decide_eq_false z18h) ?_ rfl
      clear S0; intro a0 S0
      refine r_pick S0 rfl (decide_eq_false z18h) _ rfl rfl ?_
      clear S0; intro a0 S0
      refine r_pures [_] S0 rfl ?_
      clear S0; intro a0 S0
      refine wl_nil ?_
      refine nr_then ?_
      replace Hq := HS.pull [_, _, _] Hq
      dsimp only [List.cons_append, List.nil_append] at Hq
      replace Hq := HS.keep [_] Hq
      obtain rfl := Option.some.inj H
      exact ⟨S0.sub ⟨rfl, trivial⟩, Hq⟩
  · clear S0; rintro a w ⟨S0, Hq⟩
    have H := HU1; clear HU1
    refine nr_then ?_
    refine w_ret ?_
    obtain rfl := Option.some.inj H
    refine ret1 S0 rfl rfl ?_
    exact ⟨rfl, Hq⟩

end Go.Proofs.Ytailjeoimlemnaa.M

/- slices.Index[[]int,int]: a plain function, and that the machine's call comes to it: printed by a program of the session's own. -/
set_option linter.unusedVariables false
set_option linter.unusedSimpArgs false
namespace Go.Proofs.Ytailjeoimlemnaa.M
open Go Go.Proofs.Ytailjeoimlemnaa.Sl
/-! ### slices.Index[[]int,int]: function 40 -/
def slices_Index_int_int.l0 : Nat → (List Int) → Int → Int → Option (Int)
  | 0, _, _, _ => none
  | k + 1, x_s, x_v, z1x => if z1x < (x_s.length : Int) then (if 0 ≤ z1x then (if x_v = (rd e_i64 x_s z1x) then (some z1x) else (slices_Index_int_int.l0 k x_s x_v (IntKind.i64.wrap (z1x + 1)))) else (none)) else (some (-1))
def slices_Index_int_int.f (k : Nat) (x_s : List Int) (x_v : Int) : Option (Int) := (slices_Index_int_int.l0 k x_s x_v 0)
set_option maxRecDepth 100000 in
set_option maxHeartbeats 4000000 in
theorem slices_Index_int_int.calls (k : Nat) (A0 : Option Addr) (n0 c0 : Nat) (x_s : List Int) (x_v : Int) (W0 : World) (X : Heap) (HR0 : Rd e_i64 X A0 n0 c0 x_s) (Hq : HS W0 [isH X] W0) (r : Int) (H : slices_Index_int_int.f k x_s x_v = some r) :
    Calls Try.prog 40 #[.slice A0 n0 c0, .int .i64 x_v] W0 (fun e w => e = .returned (.int .i64 r) ∧ HS W0 [isH X] w) := by
  obtain rfl := HR0.1
  rw [slices_Index_int_int.f] at H
  refine calls_in Try.func40 rfl rfl ?_
  intro a0 S0
  refine w_seq ?_
  refine w_region ?_
  refine r_pures [_] S0 rfl ?_
  clear S0; intro a0 S0
  refine wl_nil ?_
  refine nr_then ?_
  refine w_seq ?_
  refine w_seq ?_
  refine w_region ?_
  refine r_pures [_] S0 rfl ?_
  clear S0; intro a0 S0
  refine r_len S0 rfl sl23 rfl ?_
  clear S0; intro a0 S0
  refine r_pures [_] S0 rfl ?_
  clear S0; intro a0 S0
  refine wl_nil ?_
  refine nr_then ?_
  refine w_block ?_
  refine w_loop (fun kq a w => ∃ z1x, slices_Index_int_int.l0 kq x_s x_v z1x = some r ∧ Sl 19 [] [(0, .slice A0 x_s.length c0), (1, .int .i64 x_v), (7, .int .i64 (x_s.length : Int)), (8, .int .i64 z1x)] a ∧ HS W0 [isH X] w) _ ⟨0, H, S0.sub ⟨rfl, rfl, rfl, rfl, trivial⟩, Hq⟩ ?_
  clear H Hq S0
  rintro k0 a w ⟨z1x, H, S0, Hq⟩
  cases k0 with
  | zero => simp [slices_Index_int_int.l0] at H
  | succ k0 =>
    refine ⟨k0, rfl, ?_⟩
    rw [slices_Index_int_int.l0] at H
    refine w_seq ?_
    refine w_region ?_
    refine r_pures [_] S0 rfl ?_
    clear S0; intro a0 S0
    refine wl_nil ?_
    refine nr_then ?_
    refine w_seq ?_
    by_cases z2h : z1x < (x_s.length : Int)
    · replace H := (if_pos z2h).symm.trans H
      refine w_true S0 rfl (decide_eq_true z2h) ?_
      refine w_skip ?_
      refine nr_then ?_
      refine w_seq ?_
      refine w_block ?_
      refine w_seq ?_
      refine w_region ?_
      refine r_pures [_, _] S0 rfl ?_
      clear S0; intro a0 S0
      refine wl_nil ?_
      refine nr_then ?_
      refine w_seq ?_
      refine w_region ?_
      refine r_pures [_, _, _] S0 rfl ?_
      clear S0; intro a0 S0
      by_cases z3h : 0 ≤ z1x
      · replace H := (if_pos z3h).symm.trans H
        obtain ⟨z4b, z5o, rfl⟩ := (isH_rd [] Hq HR0).at (by omega)
        refine r_index S0 rfl rfl sl23 ti3 z3h z2h rfl ?_
        clear S0; intro a0 S0
        refine r_elS S0 (isH_rd [] Hq HR0) z3h z2h rfl ti3 _ rfl rfl ?_
        clear S0; intro a0 S0
        refine r_pures [_] S0 rfl ?_
        clear S0; intro a0 S0
        refine wl_nil ?_
        refine nr_then ?_
        by_cases z6h : x_v = (rd e_i64 x_s z1x)
        · replace H := (if_pos z6h).symm.trans H
          refine w_true S0 rfl (decide_eq_true z6h) ?_
          refine w_seq ?_
          refine w_region ?_
          refine r_pures [_, _] S0 rfl ?_
          clear S0; intro a0 S0
          refine wl_nil ?_
          refine nr_then ?_
          refine w_ret ?_
          refine ret_in ?_
          refine ret_then ?_
          refine ret_then ?_
          refine ret_in ?_
          refine ret_then ?_
          obtain rfl := Option.some.inj H
          refine ret1 S0 rfl rfl ?_
          exact ⟨rfl, Hq⟩
        · replace H := (if_neg z6h).symm.trans H
          refine w_false S0 rfl (decide_eq_false z6h) ?_
          refine w_skip ?_
          refine nr_in ?_
          refine nr_then ?_
          refine w_region ?_
          refine r_pures [_, _] S0 rfl ?_
          clear S0; intro a0 S0
          refine wl_nil ?_
          refine nr_then ?_
          exact ⟨(IntKind.i64.wrap (z1x + 1)), H, S0.sub ⟨rfl, rfl, rfl, rfl, trivial⟩, Hq⟩
      · replace H := (if_neg z3h).symm.trans H
        exact nomatch H
    · replace H := (if_neg z2h).symm.trans H
      refine w_false S0 rfl (decide_eq_false z2h) ?_
      refine w_exit ?_
      refine ex_then ?_
      refine ex_then ?_
      refine ex_in ?_
      refine nr_then ?_
      refine w_seq ?_
      refine w_region ?_
      refine r_pures [_] S0 rfl ?_
      clear S0; intro a0 S0
      refine wl_nil ?_
      refine nr_then ?_
      refine w_ret ?_
      obtain rfl := Option.some.inj H
      refine ret1 S0 rfl rfl ?_
      exact ⟨rfl, Hq⟩

end Go.Proofs.Ytailjeoimlemnaa.M

/- slices.Contains[[]int,int]: a plain function, and that the machine's call comes to it: printed by a program of the session's own. -/
set_option linter.unusedVariables false
set_option linter.unusedSimpArgs false
namespace Go.Proofs.Ytailjeoimlemnaa.M
open Go Go.Proofs.Ytailjeoimlemnaa.Sl
/-! ### slices.Contains[[]int,int]: function 24 -/
def slices_Contains_int_int.f (k : Nat) (x_s : List Int) (x_v : Int) : Option (Bool) := (slices_Index_int_int.f k x_s x_v).bind fun z2t => (some (decide (0 ≤ z2t)))
set_option maxRecDepth 100000 in
set_option maxHeartbeats 4000000 in
theorem slices_Contains_int_int.calls (k : Nat) (A0 : Option Addr) (n0 c0 : Nat) (x_s : List Int) (x_v : Int) (W0 : World) (X : Heap) (HR0 : Rd e_i64 X A0 n0 c0 x_s) (Hq : HS W0 [isH X] W0) (r : Bool) (H : slices_Contains_int_int.f k x_s x_v = some r) :
    Calls Try.prog 24 #[.slice A0 n0 c0, .int .i64 x_v] W0 (fun e w => e = .returned (.bool r) ∧ HS W0 [isH X] w) := by
  obtain rfl := HR0.1
  rw [slices_Contains_int_int.f] at H
  refine calls_in Try.func24 rfl rfl ?_
  intro a0 S0
  refine w_seq ?_
  refine w_region ?_
  refine r_pures [_] S0 rfl ?_
  clear S0; intro a0 S0
  refine wl_nil ?_
  refine nr_then ?_
  refine w_seq ?_
  refine w_region ?_
  refine r_pures [_, _] S0 rfl ?_
  clear S0; intro a0 S0
  obtain ⟨Xz1, HXz1, HPz1, HBz1⟩ := call_frame [] Hq
  dsimp only [List.cons_append, List.nil_append] at HXz1 HBz1
  obtain ⟨z2t, Hc, H⟩ := Option.bind_eq_some_iff.mp H
  refine r_call S0 rfl rfl goes40 rfl ?_
  refine (slices_Index_int_int.calls _ _ _ _ x_s x_v _ _ (sl_isH_rd [] HPz1 HR0) HXz1 z2t Hc).mono ?_
  rintro e w ⟨rfl, Hq'⟩
  have Hq : HS W0 [isH X] w := HBz1 [] _ Hq'
  clear HXz1 HPz1 HBz1 Hq'
  refine ⟨.int .i64 z2t, rfl, ?_⟩; clear S0; intro a0 S0
  refine r_pures [_, _] S0 rfl ?_
  clear S0; intro a0 S0
  refine wl_nil ?_
  refine nr_then ?_
  refine w_ret ?_
  obtain rfl := Option.some.inj H
  refine ret1 S0 rfl rfl ?_
  exact ⟨rfl, Hq⟩

end Go.Proofs.Ytailjeoimlemnaa.M

/- waybill/timer.Cancel: a plain function, and that the machine's call comes to it: printed by a program of the session's own. -/
set_option linter.unusedVariables false
set_option linter.unusedSimpArgs false
namespace Go.Proofs.Ytailjeoimlemnaa.M
open Go Go.Proofs.Ytailjeoimlemnaa.Sl
/-! ### waybill/timer.Cancel: function 8 -/
def timer_Cancel.l0 : Nat → (List api_Timer) → (List Int) → Int → (List api_Timer) → Option ((List api_Timer))
  | 0, _, _, _, _ => none
  | k + 1, x_l, x_ids, z9x, z10x => if z9x < (x_l.length : Int) then (if 0 ≤ z9x then ((slices_Contains_int_int.f k x_ids ((rd e_api_Timer x_l z9x).ID)).bind fun z20t => (((if z20t = true then (some z10x) else ((timer_heap_push.f k z10x (rd e_api_Timer x_l z9x)).bind fun z27t => (some z27t))) : Option ((List api_Timer))).bind fun z21x => (timer_Cancel.l0 k x_l x_ids (IntKind.i64.wrap (z9x + 1)) z21x))) else (none)) else (some z10x)
def timer_Cancel.f (k : Nat) (x_l : List api_Timer) (x_ids : List Int) : Option ((List api_Timer) × Int × Int) := (timer_Check.f k x_l).bind fun z2t => (if z2t = 0 then ((((timer_Cancel.l0 k x_l x_ids 0 ([] : List api_Timer))) : Option ((List api_Timer))).bind fun z5x => (some (z5x, IntKind.i64.wrap ((x_l.length : Int) - (z5x.length : Int)), 0))) else (some (([] : List api_Timer), 0, z2t)))
set_option maxRecDepth 100000 in
set_option maxHeartbeats 4000000 in
theorem timer_Cancel.calls (k : Nat) (A0 : Option Addr) (n0 c0 : Nat) (x_l : List api_Timer) (A1 : Option Addr) (n1 c1 : Nat) (x_ids : List Int) (W0 : World) (X : Heap) (HR0 : Rd e_api_Timer X A0 n0 c0 x_l) (HR1 : Rd e_i64 X A1 n1 c1 x_ids) (Hq : HS W0 [isH X] W0) (r : (List api_Timer) × Int × Int) (H : timer_Cancel.f k x_l x_ids = some r) :
    Calls Try.prog 8 #[.slice A0 n0 c0, .slice A1 n1 c1] W0 (fun e w => ∃ Ar0 nr0 cr0, e = .returned (.tuple #[.slice Ar0 nr0 cr0, .int .i64 r.2.1, .int .i64 r.2.2]) ∧ HS W0 [own e_api_Timer 32 Ar0 nr0 cr0 r.1, isH X] w) := by
  obtain rfl := HR0.1
  obtain rfl := HR1.1
  rw [timer_Cancel.f] at H
  refine calls_in Try.func8 rfl rfl ?_
  intro a0 S0
  refine w_seq ?_
  refine w_region ?_
  refine r_pures [_, _, _] S0 rfl ?_
  clear S0; intro a0 S0
  refine wl_nil ?_
  refine nr_then ?_
  refine w_seq ?_
  refine w_seq ?_
  refine w_region ?_
  refine r_pures [_] S0 rfl ?_
  clear S0; intro a0 S0
  obtain ⟨Xz1, HXz1, HPz1, HBz1⟩ := call_frame [] Hq
  dsimp only [List.cons_append, List.nil_append] at HXz1 HBz1
  obtain ⟨z2t, Hc, H⟩ := Option.bind_eq_some_iff.mp H
  refine r_call S0 rfl rfl goes22 rfl ?_
  refine (timer_Check.calls _ _ _ _ x_l _ _ (sl_isH_rd [] HPz1 HR0) HXz1 z2t Hc).mono ?_
  rintro e w ⟨rfl, Hq'⟩
  have Hq : HS W0 [isH X] w := HBz1 [] _ Hq'
  clear HXz1 HPz1 HBz1 Hq'
  refine ⟨.int .i64 z2t, rfl, ?_⟩; clear S0; intro a0 S0
  refine r_pures [_] S0 rfl ?_
  clear S0; intro a0 S0
  refine wl_nil ?_
  refine nr_then ?_
  refine w_seq ?_
  refine w_region ?_
  refine r_pures [_, _] S0 rfl ?_
  clear S0; intro a0 S0
  refine wl_nil ?_
  refine nr_then ?_
  by_cases z3h : z2t = 0
  · replace H := (if_pos z3h).symm.trans H
    refine w_false S0 rfl (congrArg (!·) (decide_eq_true z3h)) ?_
    refine w_skip ?_
    refine nr_then ?_
    refine w_seq ?_
    refine w_region ?_
    refine r_alloc S0 Hq ti56 rfl ?_
    clear S0 Hq; intro z4b a0 w S0 Hq
    refine wl_nil ?_
    refine nr_then ?_
    refine w_seq ?_
    refine w_seq ?_
    refine w_region ?_
    refine r_pures [_] S0 rfl ?_
    clear S0; intro a0 S0
    refine r_len S0 rfl sl22 rfl ?_
    clear S0; intro a0 S0
    refine r_pures [_] S0 rfl ?_
    clear S0; intro a0 S0
    refine wl_nil ?_
    refine nr_then ?_
    replace Hq := HS.own_nil e_api_Timer 32 Hq
    obtain ⟨z5x, H, HU1⟩ := Option.bind_eq_some_iff.mp H
    refine w_cutT (fun a w => ∃ z6A z7m z8n, Sl 36 [] [(0, .slice A0 x_l.length c0), (8, .pointer (some ⟨z4b, 0, none⟩))] a ∧ HS W0 [own e_api_Timer 32 z6A z7m z8n z5x, bx z4b 56 [.slice z6A z7m z8n], isH X] w) ?_ ?_
    · skip
      refine w_block ?_
      refine w_loop (fun kq a w => ∃ z9x z10x z11A z12m z13n, timer_Cancel.l0 kq x_l x_ids z9x z10x = some z5x ∧ Sl 36 [] [(0, .slice A0 x_l.length c0), (1, .slice A1 x_ids.length c1), (8, .pointer (some ⟨z4b, 0, none⟩)), (16, .slice A0 x_l.length c0), (17, .int .i64 (x_l.length : Int)), (18, .int .i64 z9x)] a ∧ HS W0 [own e_api_Timer 32 z11A z12m z13n z10x, bx z4b 56 [.slice z11A z12m z13n], isH X] w) _ ⟨0, ([] : List api_Timer), none, 0, 0, H, S0.sub ⟨rfl, rfl, rfl, rfl, rfl, rfl, trivial⟩, Hq⟩ ?_
      clear H Hq S0
      rintro k0 a w ⟨z9x, z10x, z11A, z12m, z13n, H, S0, Hq⟩
      cases k0 with
      | zero => simp [timer_Cancel.l0] at H
      | succ k0 =>
        refine ⟨k0, rfl, ?_⟩
        rw [timer_Cancel.l0] at H
        obtain rfl := own_len [] Hq
        refine w_seq ?_
        refine w_region ?_
        refine r_pures [_] S0 rfl ?_
        clear S0; intro a0 S0
        refine wl_nil ?_
        refine nr_then ?_
        refine w_seq ?_
        by_cases z14h : z9x < (x_l.length : Int)
        · replace H := (if_pos z14h).symm.trans H
          refine w_true S0 rfl (decide_eq_true z14h) ?_
          refine w_skip ?_
          refine nr_then ?_
          refine w_seq ?_
          refine w_block ?_
          refine w_seq ?_
          refine w_region ?_
          by_cases z15h : 0 ≤ z9x
          · replace H := (if_pos z15h).symm.trans H
            obtain ⟨z16b, z17o, rfl⟩ := (isH_rd [_, _] Hq HR0).at (by omega)
            refine r_index S0 rfl rfl sl22 ti32 z15h z14h rfl ?_
            clear S0; intro a0 S0
            refine r_elA (vs := [.int .i64 ((rd e_api_Timer x_l z9x).At), .int .i64 ((rd e_api_Timer x_l z9x).ID)]) S0 (isH_rd [_, _] Hq HR0) z15h z14h rfl ti32 rfl rfl rfl ?_
            clear S0; intro a0 S0
            refine r_alloc S0 Hq ti32 rfl ?_
            clear S0 Hq; intro z18b a0 w S0 Hq
            refine r_st [] S0 Hq rfl rfl ti32 [.int .i64 ((rd e_api_Timer x_l z9x).At), .int .i64 ((rd e_api_Timer x_l z9x).ID)] rfl rfl rfl rfl [.int .i64 ((rd e_api_Timer x_l z9x).At), .int .i64 ((rd e_api_Timer x_l z9x).ID)] rfl ?_
            clear Hq; intro w Hq; dsimp only [List.cons_append, List.nil_append] at Hq
            refine wl_nil ?_
            refine nr_then ?_
            refine w_seq ?_
            refine w_region ?_
            refine r_pures [_] S0 rfl ?_
            clear S0; intro a0 S0
            refine r_fieldAddr S0 rfl fo32x1 (1) rfl rfl ?_
            clear S0; intro a0 S0
            refine r_ldS [] S0 Hq rfl ti3 _ rfl rfl ?_
            clear S0; intro a0 S0
            obtain ⟨Xz19, HXz19, HPz19, HBz19⟩ := call_frame [] Hq
            dsimp only [List.cons_append, List.nil_append] at HXz19 HBz19
            obtain ⟨z20t, Hc, H⟩ := Option.bind_eq_some_iff.mp H
            refine r_call S0 rfl rfl goes24 rfl ?_
            refine (slices_Contains_int_int.calls _ _ _ _ x_ids ((rd e_api_Timer x_l z9x).ID) _ _ (sl_isH_rd [_, _, _] HPz19 HR1) HXz19 z20t Hc).mono ?_
            rintro e w ⟨rfl, Hq'⟩
            have Hq : HS W0 [bx z18b 32 [.int .i64 ((rd e_api_Timer x_l z9x).At), .int .i64 ((rd e_api_Timer x_l z9x).ID)], own e_api_Timer 32 z11A z10x.length z13n z10x, bx z4b 56 [.slice z11A z10x.length z13n], isH X] w := HBz19 [] _ Hq'
            clear HXz19 HPz19 HBz19 Hq'
            refine ⟨.bool z20t, rfl, ?_⟩; clear S0; intro a0 S0
            refine r_pures [_] S0 rfl ?_
            clear S0; intro a0 S0
            refine wl_nil ?_
            refine nr_then ?_
            obtain ⟨z21x, H, HU2⟩ := Option.bind_eq_some_iff.mp H
            refine w_cutT (fun a w => ∃ z22A z23m z24n, Sl 36 [] [(0, .slice (some ⟨z16b, z17o, none⟩) x_l.length c0), (1, .slice A1 x_ids.length c1), (8, .pointer (some ⟨z4b, 0, none⟩)), (16, .slice (some ⟨z16b, z17o, none⟩) x_l.length c0), (17, .int .i64 (x_l.length : Int)), (18, .int .i64 z9x)] a ∧ HS W0 [own e_api_Timer 32 z22A z23m z24n z21x, bx z4b 56 [.slice z22A z23m z24n], isH X] w) ?_ ?_
            · skip
              by_cases z25h : z20t = true
              · replace H := (if_pos z25h).symm.trans H
                refine w_false S0 rfl (congrArg (!·) z25h) ?_
                refine w_skip ?_
                refine nr_then ?_
                replace Hq := HS.pull [_, _, _] Hq
                dsimp only [List.cons_append, List.nil_append] at Hq
                replace Hq := HS.pull [_, _, _] Hq
                dsimp only [List.cons_append, List.nil_append] at Hq
                replace Hq := HS.pull [_, _, _] Hq
                dsimp only [List.cons_append, List.nil_append] at Hq
                replace Hq := HS.keep [_, _, _] Hq
                obtain rfl := Option.some.inj H
                exact ⟨z11A, z10x.length, z13n, S0.sub ⟨rfl, rfl, rfl, rfl, rfl, rfl, trivial⟩, Hq⟩
              · replace H := (if_neg z25h).symm.trans H
                refine w_true S0 rfl (congrArg (!·) (Bool.eq_false_iff.mpr z25h)) ?_
                refine w_region ?_
                refine r_ldA [] S0 Hq rfl ti32 [.int .i64 ((rd e_api_Timer x_l z9x).At), .int .i64 ((rd e_api_Timer x_l z9x).ID)] rfl rfl rfl ?_
                clear S0; intro a0 S0
                replace Hq := HS.pull [_, _] Hq
                dsimp only [List.cons_append, List.nil_append] at Hq
                replace Hq := HS.pull [_, _] Hq
                dsimp only [List.cons_append, List.nil_append] at Hq
                obtain ⟨Xz26, HXz26, HPz26, HBz26⟩ := call_frame [_, _] Hq
                dsimp only [List.cons_append, List.nil_append] at HXz26 HBz26
                obtain ⟨z27t, Hc, H⟩ := Option.bind_eq_some_iff.mp H
                refine r_call S0 rfl rfl goes25 rfl ?_
                refine (timer_heap_push.calls _ _ _ _ _ z10x (rd e_api_Timer x_l z9x) _ _  HXz26 z27t Hc).mono ?_
                rintro e w ⟨z28A, z29m, z30n, rfl, Hq'⟩
                have Hq : HS W0 [own e_api_Timer 32 z28A z29m z30n z27t, bx z4b 56 [.slice z28A z29m z30n], bx z18b 32 [.int .i64 ((rd e_api_Timer x_l z9x).At), .int .i64 ((rd e_api_Timer x_l z9x).ID)], isH X] w := HBz26 [_, _] _ Hq'
                clear HXz26 HPz26 HBz26 Hq'
                obtain rfl := own_len [] Hq
                refine ⟨.tuple #[], rfl, ?_⟩; clear S0; intro a0 S0
                refine wl_nil ?_
                refine nr_then ?_
                replace Hq := HS.pull [_, _, _] Hq
                dsimp only [List.cons_append, List.nil_append] at Hq
                replace Hq := HS.pull [_, _] Hq
                dsimp only [List.cons_append, List.nil_append] at Hq
                replace Hq := HS.pull [_, _] Hq
                dsimp only [List.cons_append, List.nil_append] at Hq
                replace Hq := HS.keep [_, _, _] Hq
                obtain rfl := Option.some.inj H
                exact ⟨z28A, z27t.length, z30n, S0.sub ⟨rfl, rfl, rfl, rfl, rfl, rfl, trivial⟩, Hq⟩
            · clear S0; rintro a w ⟨z22A, z23m, z24n, S0, Hq⟩
              have H := HU2; clear HU2
              obtain rfl := own_len [] Hq
              refine nr_in ?_
              refine nr_then ?_
              refine w_region ?_
              refine r_pures [_, _] S0 rfl ?_
              clear S0; intro a0 S0
              refine wl_nil ?_
              refine nr_then ?_
              exact ⟨(IntKind.i64.wrap (z9x + 1)), z21x, z22A, z21x.length, z24n, H, S0.sub ⟨rfl, rfl, rfl, rfl, rfl, rfl, trivial⟩, Hq⟩
          · replace H := (if_neg z15h).symm.trans H
            exact nomatch H
        · replace H := (if_neg z14h).symm.trans H
          refine w_false S0 rfl (decide_eq_false z14h) ?_
          refine w_exit ?_
          refine ex_then ?_
          refine ex_then ?_
          refine ex_in ?_
          refine nr_then ?_
          obtain rfl := Option.some.inj H
          exact ⟨z11A, z10x.length, z13n, S0.sub ⟨rfl, rfl, trivial⟩, Hq⟩
    · clear S0; rintro a w ⟨z6A, z7m, z8n, S0, Hq⟩
      have H := HU1; clear HU1
      obtain rfl := own_len [] Hq
      refine nr_then ?_
      refine w_seq ?_
      refine w_draw TryM.mixed (.pu 1 (.pu 2 (.rd 0 (.pu 6 (.rd 3 (.pu 4 (.pu 5 (.pu 7 (.pu 8 .done))))))))) (by kernel_rfl) rfl ?_
      replace Hq := Hq.drew
      refine st_pures [1] S0 rfl ?_
      intro az31q Sz31q
      refine st_pu Sz31q rfl (g_none rfl) rfl rfl (fun _ => y_len Sz31q rfl sl22) ?_
      intro az32q Sz32q
      refine st_rd Sz32q rfl (g_none rfl) rfl rfl (y_ldS [_] Sz32q Hq rfl ti56 _ rfl) ?_
      intro az33q Sz33q
      refine st_pures [6] Sz33q rfl ?_
      intro az34q Sz34q
      refine st_rd Sz34q rfl (g_none rfl) rfl rfl (y_ldS [_] Sz34q Hq rfl ti56 _ rfl) ?_
      intro az35q Sz35q
      refine st_pu Sz35q rfl (g_none rfl) rfl rfl (fun _ => y_len Sz35q rfl sl56) ?_
      intro az36q Sz36q
      refine st_pures [5, 7, 8] Sz36q rfl ?_
      intro az37q Sz37q
      refine st_nil ?_
      replace S0 := Sz37q
      refine nr_then ?_
      refine w_ret ?_
      obtain rfl := Option.some.inj H
      refine ret3 S0 rfl rfl rfl rfl ?_
      replace Hq := HS.pull [_, _] Hq
      dsimp only [List.cons_append, List.nil_append] at Hq
      replace Hq := HS.pull [_] Hq
      dsimp only [List.cons_append, List.nil_append] at Hq
      replace Hq := HS.keep [_, _] Hq
      exact ⟨z6A, z5x.length, z8n, rfl, Hq⟩
  · replace H := (if_neg z3h).symm.trans H
    refine w_true S0 rfl (congrArg (!·) (decide_eq_false z3h)) ?_
    refine w_seq ?_
    refine w_region ?_
    refine r_pures [_, _, _, _] S0 rfl ?_
    clear S0; intro a0 S0
    refine wl_nil ?_
    refine nr_then ?_
    refine w_ret ?_
    refine ret_then ?_
    obtain rfl := Option.some.inj H
    replace Hq := HS.own_nil e_api_Timer 32 Hq
    refine ret3 S0 rfl rfl rfl rfl ?_
    replace Hq := HS.pull [_] Hq
    dsimp only [List.cons_append, List.nil_append] at Hq
    replace Hq := HS.pull [_] Hq
    dsimp only [List.cons_append, List.nil_append] at Hq
    exact ⟨none, 0, 0, rfl, Hq⟩

end Go.Proofs.Ytailjeoimlemnaa.M

/- The shelf's contracts that this seat's code needs, laid at its translation. -/
namespace Go.Proofs
open Go.Shelf
def YtailjeoimlemnaaLSf43_ren : Go.Shelf.Ren := ⟨fun | 6 => 43 | 15 => 52 | 14 => 51 | 28 => 62 | 29 => 63 | 20 => 54 | 21 => 55 | 22 => 56 | 23 => 57 | 24 => 58 | 25 => 59 | 26 => 60 | 27 => 61 | 46 => 64 | 47 => 65 | 48 => 66 | 49 => 67 | 50 => 68 | 57 => 69 | n => n, fun | 22 => 22 | 24 => 32 | 25 => 63 | 3 => 3 | 39 => 85 | 0 => 0 | 53 => 96 | 55 => 98 | 4 => 4 | 46 => 89 | 45 => 88 | 50 => 93 | 5 => 5 | 9 => 9 | 66 => 99 | 70 => 103 | 76 => 105 | 77 => 106 | n => n, fun | n => n⟩
theorem YtailjeoimlemnaaLSf43 : Go.Proofs.SlLaysF0.n6 Try.prog YtailjeoimlemnaaLSf43_ren := {
  mixed := by kernel_rfl
  f6 := ⟨Try.f43.name, by decide, Try.func43.trans (congrArg some (by kernel_rfl))⟩
  f14 := ⟨Try.f51.name, by decide, Try.func51.trans (congrArg some (by kernel_rfl))⟩
  f15 := Try.func52.trans (congrArg some (by kernel_rfl))
  f20 := ⟨Try.f54.name, by decide, Try.func54.trans (congrArg some (by kernel_rfl))⟩
  f21 := ⟨Try.f55.name, by decide, Try.func55.trans (congrArg some (by kernel_rfl))⟩
  f22 := ⟨Try.f56.name, by decide, Try.func56.trans (congrArg some (by kernel_rfl))⟩
  f23 := ⟨Try.f57.name, by decide, Try.func57.trans (congrArg some (by kernel_rfl))⟩
  f24 := ⟨Try.f58.name, by decide, Try.func58.trans (congrArg some (by kernel_rfl))⟩
  f25 := ⟨Try.f59.name, by decide, Try.func59.trans (congrArg some (by kernel_rfl))⟩
  f26 := ⟨Try.f60.name, by decide, Try.func60.trans (congrArg some (by kernel_rfl))⟩
  f27 := ⟨Try.f61.name, by decide, Try.func61.trans (congrArg some (by kernel_rfl))⟩
  f28 := Try.func62.trans (congrArg some (by kernel_rfl))
  f29 := Try.func63.trans (congrArg some (by kernel_rfl))
  f46 := ⟨Try.f64.name, by decide, Try.func64.trans (congrArg some (by kernel_rfl))⟩
  f47 := Try.func65.trans (congrArg some (by kernel_rfl))
  f48 := Try.func66.trans (congrArg some (by kernel_rfl))
  f49 := ⟨Try.f67.name, by decide, Try.func67.trans (congrArg some (by kernel_rfl))⟩
  f50 := ⟨Try.f68.name, by decide, Try.func68.trans (congrArg some (by kernel_rfl))⟩
  f57 := ⟨Try.f69.name, by decide, Try.func69.trans (congrArg some (by kernel_rfl))⟩
  t0 := Try.underlying0
  a0 := Try.isAgg0
  z0 := Try.sizeOf0
  v0 := Try.zeroValue0
  t3 := Try.underlying3
  a3 := Try.isAgg3
  z3 := Try.sizeOf3
  v3 := Try.zeroValue3
  t4 := Try.underlying4
  a4 := Try.isAgg4
  z4 := Try.sizeOf4
  v4 := Try.zeroValue4
  t5 := Try.underlying5
  a5 := Try.isAgg5
  z5 := Try.sizeOf5
  v5 := Try.zeroValue5
  t9 := Try.underlying9
  a9 := Try.isAgg9
  z9 := Try.sizeOf9
  v9 := Try.zeroValue9
  t22 := Try.underlying22
  a22 := Try.isAgg22
  z22 := Try.sizeOf22
  v22 := Try.zeroValue22
  t25 := Try.underlying63
  a25 := Try.isAgg63
  z25 := Try.sizeOf63
  v25 := Try.zeroValue63
  t39 := Try.underlying85
  a39 := Try.isAgg85
  z39 := Try.sizeOf85
  v39 := Try.zeroValue85
  t45 := Try.underlying88
  a45 := Try.isAgg88
  z45 := Try.sizeOf88
  v45 := Try.zeroValue88
  t46 := Try.underlying89
  a46 := Try.isAgg89
  z46 := Try.sizeOf89
  v46 := Try.zeroValue89
  t50 := Try.underlying93
  a50 := Try.isAgg93
  z50 := Try.sizeOf93
  v50 := Try.zeroValue93
  t53 := Try.underlying96
  a53 := Try.isAgg96
  z53 := Try.sizeOf96
  v53 := Try.zeroValue96
  t55 := Try.underlying98
  a55 := Try.isAgg98
  z55 := Try.sizeOf98
  v55 := Try.zeroValue98
  t66 := Try.underlying99
  a66 := Try.isAgg99
  z66 := Try.sizeOf99
  v66 := Try.zeroValue99
  t70 := Try.underlying103
  a70 := Try.isAgg103
  z70 := Try.sizeOf103
  v70 := Try.zeroValue103
  t76 := Try.underlying105
  a76 := Try.isAgg105
  z76 := Try.sizeOf105
  v76 := Try.zeroValue105
  t77 := Try.underlying106
  a77 := Try.isAgg106
  z77 := Try.sizeOf106
  v77 := Try.zeroValue106 }
end Go.Proofs

/- slices.SortFunc over a row of one's own, of structs: the shelf's contract in the words of chunks. -/
set_option linter.unusedVariables false
set_option linter.unusedSimpArgs false
namespace Go.Proofs.Ytailjeoimlemnaa.Sl
open Go Go.Shelf Go.Sort Go.RowKit Go.Lib

variable {P : Program} {ρ : Ren} {w w0 w' : World} {cs : List Hp} {pre post : List Hp} {α : Type} {e : En α} {E : TypeId} {A B : Option Addr} {m c : Nat} {l l2 : List α}

theorem HS.grown {W w' : World} (H : HS W [isH (hpOf W)] w') : ∃ q os, w' = grow (W.drewN q) os := by
  have hb := HS.below (pre := []) H
  refine ⟨w'.drawn - W.drawn, w'.heap.extract W.heap.size w'.heap.size, ?_⟩
  have hh : w'.heap = W.heap ++ w'.heap.extract W.heap.size w'.heap.size := by
    apply Array.ext_getElem?
    intro k
    have hs := H.size
    by_cases hk : k < W.heap.size
    · rw [Array.getElem?_append_left hk]
      exact hb.block k hk
    · rw [Array.getElem?_append_right (by omega), Array.getElem?_extract]
      by_cases h2 : k < w'.heap.size
      · rw [if_pos (by omega)]; congr 1; omega
      · rw [if_neg (by omega), Array.getElem?_eq_none (by omega)]
  have hd : W.drawn + (w'.drawn - W.drawn) = w'.drawn := by have := H.dr; omega
  have h1 := H.os; have h2 := H.tape; have h3 := H.out
  cases w' with
  | mk hp' tp' dr' os' out' =>
    cases W with
    | mk hp tp dr os out =>
      dsimp only at h1 h2 h3 hd hh
      subst h1; subst h2; subst h3
      show World.mk _ _ _ _ _ = World.mk _ _ _ _ _
      congr 1
      exact hd.symm

theorem flatK_list (e : En α) (l : List α) : letI : Inhabited α := ⟨e.z⟩; (flatK e.enc e.sz l.toArray).toList = l.flatMap e.enc := by
  letI : Inhabited α := ⟨e.z⟩
  apply List.ext_getElem?
  intro t
  by_cases ht : t < l.length * e.sz
  · have hp := e.pos
    have h1 : t / e.sz < l.length := Nat.div_lt_of_lt_mul (by rw [Nat.mul_comm]; exact ht)
    have h2 : t % e.sz < e.sz := Nat.mod_lt _ hp
    have h3 := flat_get e l (t / e.sz) (t % e.sz) h1 h2
    rw [show t / e.sz * e.sz + t % e.sz = t by rw [Nat.mul_comm]; exact Nat.div_add_mod _ _] at h3
    rw [h3]
    have hlt : t < (flatK e.enc e.sz l.toArray).size := by simpa using ht
    rw [Array.getElem?_toList, Array.getElem?_eq_getElem hlt]
    have h4 := get_flatK e.enc e.sz l.toArray t (by simpa using ht)
    rw [getElem!_pos _ t hlt] at h4
    rw [h4]
    have h5 : l.toArray[t / e.sz]! = l.getD (t / e.sz) e.z := by
      rw [getElem!_pos l.toArray (t / e.sz) (by simpa using h1)]
      simp [h1]
    rw [h5]
    have h6 : t % e.sz < (e.enc (l.getD (t / e.sz) e.z)).length := by rw [e.len]; exact h2
    rw [getElem!_pos (e.enc (l.getD (t / e.sz) e.z)) (t % e.sz) h6, List.getElem?_eq_getElem h6]
  · rw [List.getElem?_eq_none (by simp; omega), List.getElem?_eq_none (by rw [flat_len]; omega)]

theorem holds_of_blockV {w : World} {g : Nat} {cur : Array Value} {E : TypeId} {vs : List Value} (hb : w.heap[g]? = some (.cells cur E (0, 0))) (ht : cur.toList.take vs.length = vs) : Holds id w g 0 vs.toArray := by
  intro j hj
  have hj' : j < vs.length := by simpa using hj
  refine ⟨?_, by simp [World.frozen?, hb]⟩
  have h1 : (cur.toList.take vs.length)[j]? = vs[j]? := by rw [ht]
  rw [List.getElem?_take_of_lt hj'] at h1
  simp only [World.cell?, hb, Nat.zero_add]
  simp only [Option.isSome_none, Bool.false_eq_true, if_false]
  rw [← Array.getElem?_toList, h1]
  simp [hj']
theorem heap_sortedV {w : World} {g n : Nat} {os : Array Obj} {cur : Array Value} {E : TypeId} {fr : Nat × Nat} (d : Array Value) (hb : w.heap[g]? = some (.cells cur E fr)) :
    (grow (putRow id (Sort.ahead w n) g 0 d) os).heap[g]? = some (.cells (putCells id 0 d cur) E fr) := by
  have hg : g < w.heap.size := (Array.getElem?_eq_some_iff.1 hb).1
  rw [heap_grow_old _ _ (by simpa using hg)]
  simp [putRow, mapBlock, Sort.ahead, Array.getElem?_modify, hb, onCells]
theorem grownBy_sortedV {w : World} {g n : Nat} {os : Array Obj} (d : Array Value) : w.grownBy (grow (putRow id (Sort.ahead w n) g 0 d) os) (some g) := by
  refine ⟨rfl, rfl, rfl, by simp, fun k hk hne => ?_⟩
  rw [heap_grow_old _ _ (by simpa using hk)]
  have : g ≠ k := fun e => hne (by rw [e])
  simp [putRow, mapBlock, Sort.ahead, Array.getElem?_modify, this]
theorem take_putCellsV (cur : Array Value) (ts : List Value) (h : ts.length ≤ cur.size) : (putCells id 0 ts.toArray cur).toList.take ts.length = ts := by
  apply List.ext_getElem?
  intro j
  by_cases hj : j < ts.length
  · rw [List.getElem?_take_of_lt hj, Array.getElem?_toList]
    simp [putCells, hj, show j < cur.size by omega]
  · rw [List.getElem?_take_eq_none (by omega), List.getElem?_eq_none (by omega)]

theorem agg_of {T m y : Nat} {z : List Value} (h : tyI P T = some (true, m, y, z)) : (∀ w, (isAgg T).run P w = .ok true w) ∧ (∀ w, (Go.sizeOf T).run P w = .ok m w) := by
  obtain ⟨d, i, zv, g1, g2, g3, g4, g5, g6, g7⟩ := tyI_open h
  refine ⟨fun w => ?_, fun w => ?_⟩
  · unfold isAgg
    rw [Sem.run_bind, run_underlying g1 w]
    cases d <;> simp_all [TypeDesc.isRow, Sem.run, Result.andThen]
  · simp [Go.sizeOf, typeInfo, program, Sem.run_bind, Sem.run, Result.andThen, g3, g4]
/-- slices.SortFunc, of structs, by an order that parts whatever two that are not one -/
theorem sort_own (L : SlLaysF0.n6 P ρ) (aE : ∀ w, (isAgg (ρ.t 24)).run P w = .ok true w) (zE : ∀ w, (Go.sizeOf (ρ.t 24)).run P w = .ok e.sz w) (cf : α → α → Int) (hO : SWO (ltOf cf)) (hT : ∀ x y, (ltOf cf) x y = false → (ltOf cf) y x = false → x = y)
    (g : Nat) (hG : Goes P g) (hc : ∀ (W : World) (x y : α), Calls P g #[.agg (e.enc x).toArray, .agg (e.enc y).toArray] W fun r w' => r = .returned (.int .i64 (cf x y)) ∧ HS W [isH (hpOf W)] w')
    (pre : List Hp) (H : HS w0 (pre ++ own e E A m c l :: post) w) (hsz : l.length < 4611686018427387904) :
    Calls P (ρ.f 6) #[.slice A m c, .func (.func g) #[] #[]] w fun r w' => r = .returned (.tuple #[]) ∧ HS w0 (pre ++ own e E A m c (l.mergeSort fun x y => !(ltOf cf) y x) :: post) w' := by
  letI : Inhabited α := ⟨e.z⟩
  have hlm := own_len pre H
  rcases Nat.eq_zero_or_pos m with h0 | hpos
  · subst h0
    have : l = [] := List.eq_nil_of_length_eq_zero hlm
    subst this
    refine (AnyF.slices_SortFunc_none L A c _ w).mono ?_
    rintro x w' ⟨rfl, rfl⟩
    exact ⟨rfl, by simpa using H⟩
  · obtain ⟨b, cur, rfl, hb, h1, h2, h3, h4, h5⟩ := own_blk pre H hpos
    have hblk : b < w.heap.size := (Array.getElem?_eq_some_iff.1 hb).1
    obtain ⟨fn1, cc, hf, hbd, hnn⟩ := hG
    have hH : HoldsK e.enc e.sz w b 0 l.toArray := by
      unfold HoldsK
      have : flatK e.enc e.sz l.toArray = (l.flatMap e.enc).toArray := by rw [← flatK_list e l]
      rw [this]
      exact holds_of_blockV hb (by rw [flat_len, h5]; exact h4)
    have hcmp : CmpLays P g #[] e.enc e.sz cf b 0 l.toArray.size w := fun q os dk hq x y => by
      refine (hc _ x y).mono ?_
      rintro r w' ⟨rfl, h⟩
      obtain ⟨q', os', rfl⟩ := HS.grown h
      exact ⟨rfl, q', os', rfl⟩
    have := AnyQ.slices_SortFunc_total L e.sz aE zE e.enc e.len (fun x v hv => by have := e.one x; rw [List.all_eq_true] at this; exact this v hv) cf hO g #[] b 0 c l.toArray w (fun args w => callFunc_enter hf hbd hnn args) hcmp hH hblk (by simpa using hsz) hT
    rw [show l.toArray.size = m from by simpa using h5] at this
    refine this.mono ?_
    rintro x w' ⟨rfl, n, os, rfl⟩
    have hlen : (l.mergeSort fun x y => !(ltOf cf) y x).length = m := by rw [List.length_mergeSort, h5]
    generalize (l.mergeSort fun x y => !(ltOf cf) y x) = l' at hlen
    refine ⟨rfl, ?_⟩
    unfold sortWorldK putRowK
    refine HS.rowed pre H hpos (grownBy_sortedV _) (Nat.le_add_right _ _) (heap_sortedV _ hb) ?_ ?_ hlen
    · simp [putCells, h3]
    · have : flatK e.enc e.sz l'.toArray = (l'.flatMap e.enc).toArray := by rw [← flatK_list e l']
      rw [this]
      have hT := take_putCellsV cur (l'.flatMap e.enc) (by rw [flat_len, hlen, h3]; exact Nat.mul_le_mul_right _ h1)
      rw [flat_len, hlen] at hT
      exact hT
end Go.Proofs.Ytailjeoimlemnaa.Sl

/- slices.SortFunc[[]waybill/api.Timer,waybill/api.Timer]: a plain function, and that the machine's call comes to it: printed by a program of the session's own. -/
set_option linter.unusedVariables false
set_option linter.unusedSimpArgs false
namespace Go.Proofs.Ytailjeoimlemnaa.M
open Go Go.Proofs.Ytailjeoimlemnaa.Sl
/-! ### slices_SortFunc_api_Timer_api_Timer -/
def slices_SortFunc_api_Timer_api_Timer.cf (a b : api_Timer) : Int := if a.At < b.At then -1 else if b.At < a.At then 1 else if a.ID < b.ID then -1 else if b.ID < a.ID then 1 else 0
theorem slices_SortFunc_api_Timer_api_Timer.cf_ok (k : Nat) (a b : api_Timer) : timer_order.f (k + 3) a b = some (slices_SortFunc_api_Timer_api_Timer.cf a b) := by
  unfold slices_SortFunc_api_Timer_api_Timer.cf timer_order.f cmp_Compare_int.f cmp_isNaN_int.f cmp_Or_int.f
  split <;> (try split) <;> (try split) <;> (try split) <;> simp_all (config := { decide := true }) [cmp_Or_int.l0, Sl.rd, IntKind.wrap, IntKind.bits, IntKind.signed] <;> (try omega)
theorem slices_SortFunc_api_Timer_api_Timer.lt_iff (a b : api_Timer) : ltOf slices_SortFunc_api_Timer_api_Timer.cf a b = true ↔ a.At < b.At ∨ a.At = b.At ∧ a.ID < b.ID := by
  unfold ltOf slices_SortFunc_api_Timer_api_Timer.cf
  rw [decide_eq_true_iff]
  split <;> (try split) <;> (try split) <;> (try split) <;> omega
theorem slices_SortFunc_api_Timer_api_Timer.lt_iff' (a b : api_Timer) : ltOf slices_SortFunc_api_Timer_api_Timer.cf a b = false ↔ ¬ (a.At < b.At ∨ a.At = b.At ∧ a.ID < b.ID) := by rw [← slices_SortFunc_api_Timer_api_Timer.lt_iff]; simp
theorem slices_SortFunc_api_Timer_api_Timer.swo : Go.Sort.SWO (ltOf slices_SortFunc_api_Timer_api_Timer.cf) where
  irrefl x := by rw [slices_SortFunc_api_Timer_api_Timer.lt_iff']; omega
  trans x y z h1 h2 := by rw [slices_SortFunc_api_Timer_api_Timer.lt_iff] at *; omega
  ntrans x y z h1 h2 := by rw [slices_SortFunc_api_Timer_api_Timer.lt_iff'] at *; omega
theorem slices_SortFunc_api_Timer_api_Timer.tot (x y : api_Timer) (h1 : ltOf slices_SortFunc_api_Timer_api_Timer.cf x y = false) (h2 : ltOf slices_SortFunc_api_Timer_api_Timer.cf y x = false) : x = y := by
  rw [slices_SortFunc_api_Timer_api_Timer.lt_iff'] at *
  cases x; cases y
  simp only [api_Timer.mk.injEq] at *
  omega
def slices_SortFunc_api_Timer_api_Timer.f (x : List api_Timer) : Option (List api_Timer) := if x.length < 4611686018427387904 then some (x.mergeSort fun x y => !(ltOf slices_SortFunc_api_Timer_api_Timer.cf) y x) else none
theorem slices_SortFunc_api_Timer_api_Timer.calls (A : Option Addr) (n c : Nat) (x : List api_Timer) (W0 : World) (X : Heap) (Hq : HS W0 [own e_api_Timer 32 A n c x, isH X] W0) (r : List api_Timer) (H : slices_SortFunc_api_Timer_api_Timer.f x = some r) :
    Calls Try.prog 43 #[.slice A n c, .func (.func 28) #[] #[]] W0 (fun e w => e = .returned (.tuple #[]) ∧ HS W0 [own e_api_Timer 32 A n c r, isH X] w) := by
  rw [slices_SortFunc_api_Timer_api_Timer.f] at H
  split at H
  · rename_i h; obtain rfl := Option.some.inj H
    exact sort_own (e := e_api_Timer) YtailjeoimlemnaaLSf43 (agg_of ti32).1 (agg_of ti32).2 slices_SortFunc_api_Timer_api_Timer.cf slices_SortFunc_api_Timer_api_Timer.swo slices_SortFunc_api_Timer_api_Timer.tot 28 goes28 (fun W a b => timer_order.calls (0 + 3) a b W (hpOf W) (HS.start W) _ (slices_SortFunc_api_Timer_api_Timer.cf_ok 0 a b)) [] Hq h
  · cases H

end Go.Proofs.Ytailjeoimlemnaa.M

/- waybill/timer.Order: a plain function, and that the machine's call comes to it: printed by a program of the session's own. -/
set_option linter.unusedVariables false
set_option linter.unusedSimpArgs false
namespace Go.Proofs.Ytailjeoimlemnaa.M
open Go Go.Proofs.Ytailjeoimlemnaa.Sl
/-! ### waybill/timer.Order: function 9 -/
def timer_Order.l0 : Nat → (List api_Timer) → Int → (List api_Timer) → Option ((List api_Timer))
  | 0, _, _, _ => none
  | k + 1, x_l, z15x, z16x => if z15x < (x_l.length : Int) then (if 0 ≤ z15x then (if z16x.length + ([(rd e_api_Timer x_l z15x)] : List api_Timer).length < 8796093022208 then (timer_Order.l0 k x_l (IntKind.i64.wrap (z15x + 1)) (z16x ++ ([(rd e_api_Timer x_l z15x)] : List api_Timer))) else (none)) else (none)) else (some z16x)
def timer_Order.f (k : Nat) (x_l : List api_Timer) : Option ((List api_Timer) × Int) := (timer_Check.f k x_l).bind fun z2t => (if z2t = 0 then ((((timer_Order.l0 k x_l 0 ([] : List api_Timer))) : Option ((List api_Timer))).bind fun z11x => ((slices_SortFunc_api_Timer_api_Timer.f z11x).bind fun z32t => (some (z32t, 0)))) else (some (([] : List api_Timer), z2t)))
set_option maxRecDepth 100000 in
set_option maxHeartbeats 4000000 in
theorem timer_Order.calls (k : Nat) (A0 : Option Addr) (n0 c0 : Nat) (x_l : List api_Timer) (W0 : World) (X : Heap) (HR0 : Rd e_api_Timer X A0 n0 c0 x_l) (Hq : HS W0 [isH X] W0) (r : (List api_Timer) × Int) (H : timer_Order.f k x_l = some r) :
    Calls Try.prog 9 #[.slice A0 n0 c0] W0 (fun e w => ∃ Ar0 nr0 cr0, e = .returned (.tuple #[.slice Ar0 nr0 cr0, .int .i64 r.2]) ∧ HS W0 [own e_api_Timer 32 Ar0 nr0 cr0 r.1, isH X] w) := by
  obtain rfl := HR0.1
  rw [timer_Order.f] at H
  refine calls_in Try.func9 rfl rfl ?_
  intro a0 S0
  refine w_seq ?_
  refine w_region ?_
  refine r_pures [_, _] S0 rfl ?_
  clear S0; intro a0 S0
  refine wl_nil ?_
  refine nr_then ?_
  refine w_seq ?_
  refine w_seq ?_
  refine w_region ?_
  refine r_pures [_] S0 rfl ?_
  clear S0; intro a0 S0
  obtain ⟨Xz1, HXz1, HPz1, HBz1⟩ := call_frame [] Hq
  dsimp only [List.cons_append, List.nil_append] at HXz1 HBz1
  obtain ⟨z2t, Hc, H⟩ := Option.bind_eq_some_iff.mp H
  refine r_call S0 rfl rfl goes22 rfl ?_
  refine (timer_Check.calls _ _ _ _ x_l _ _ (sl_isH_rd [] HPz1 HR0) HXz1 z2t Hc).mono ?_
  rintro e w ⟨rfl, Hq'⟩
  have Hq : HS W0 [isH X] w := HBz1 [] _ Hq'
  clear HXz1 HPz1 HBz1 Hq'
  refine ⟨.int .i64 z2t, rfl, ?_⟩; clear S0; intro a0 S0
  refine r_pures [_] S0 rfl ?_
  clear S0; intro a0 S0
  refine wl_nil ?_
  refine nr_then ?_
  refine w_seq ?_
  refine w_region ?_
  refine r_pures [_, _] S0 rfl ?_
  clear S0; intro a0 S0
  refine wl_nil ?_
  refine nr_then ?_
  by_cases z3h : z2t = 0
  · replace H := (if_pos z3h).symm.trans H
    refine w_false S0 rfl (congrArg (!·) (decide_eq_true z3h)) ?_
    refine w_skip ?_
    refine nr_then ?_
    refine w_seq ?_
    refine w_region ?_
    refine r_pures [_] S0 rfl ?_
    clear S0; intro a0 S0
    refine r_call S0 rfl rfl goes27 rfl ?_
    refine calls_in Try.func27 rfl rfl ?_
    intro a1 S1
    refine w_seq ?_
    refine w_region ?_
    refine r_box (vs := [.slice A0 x_l.length c0]) S1 Hq rfl rfl rfl ?_
    clear S1 Hq; intro z4b a1 w S1 Hq
    refine r_pures [_] S1 rfl ?_
    clear S1; intro a1 S1
    refine wl_nil ?_
    refine nr_then ?_
    refine w_seq ?_
    refine w_region ?_
    refine r_pures [_, _] S1 rfl ?_
    clear S1; intro a1 S1
    refine wl_nil ?_
    refine nr_then ?_
    refine w_ret ?_
    refine ret1 S1 rfl rfl ?_
    clear S1
    refine ⟨_, rfl, ?_⟩; clear S0; intro a0 S0
    refine r_call S0 rfl rfl goes26 rfl ?_
    refine calls_in Try.func26 rfl rfl ?_
    intro a1 S1
    refine w_seq ?_
    refine w_region ?_
    refine r_pures [_] S1 rfl ?_
    clear S1; intro a1 S1
    refine wl_nil ?_
    refine nr_then ?_
    refine w_seq ?_
    refine w_region ?_
    refine r_pures [_] S1 rfl ?_
    clear S1; intro a1 S1
    refine r_call S1 rfl rfl goes42 rfl ?_
    refine calls_in Try.func42 rfl rfl ?_
    intro a2 S2
    refine w_seq ?_
    refine w_region ?_
    refine r_pures [_] S2 rfl ?_
    clear S2; intro a2 S2
    refine wl_nil ?_
    refine nr_then ?_
    refine w_seq ?_
    refine w_region ?_
    refine r_pures [_] S2 rfl ?_
    clear S2; intro a2 S2
    refine r_call S2 rfl rfl goes50 rfl ?_
    refine calls_inM Try.func50 rfl rfl ?_
    intro a3 S3
    refine w_seq ?_
    refine w_region ?_
    refine r_box (vs := [.slice none 0 0]) S3 Hq rfl rfl rfl ?_
    clear S3 Hq; intro z5b a3 w S3 Hq
    refine r_pures [_] S3 rfl ?_
    clear S3; intro a3 S3
    refine wl_nil ?_
    refine nr_then ?_
    refine w_seq ?_
    refine w_seq ?_
    refine w_region ?_
    refine r_pures [_] S3 rfl ?_
    clear S3; intro a3 S3
    refine wl_nil ?_
    refine nr_then ?_
    refine w_block ?_
    refine w_range S3 Hq rfl goes44 ?_
    clear Hq; intro z6l z7d z8f z9rc w z10hr Hq
    refine calls_in Try.func44 rfl rfl ?_
    intro a4 S4
    refine w_seq ?_
    refine w_region ?_
    refine r_ldS [_, _, _] S4 Hq rfl ti22 _ rfl rfl ?_
    clear S4; intro a4 S4
    refine r_len S4 rfl sl22 rfl ?_
    clear S4; intro a4 S4
    refine r_pures [_] S4 rfl ?_
    clear S4; intro a4 S4
    refine wl_nil ?_
    refine nr_then ?_
    replace Hq := HS.own_nil e_api_Timer 32 Hq
    obtain ⟨z11x, H, HU1⟩ := Option.bind_eq_some_iff.mp H
    refine w_cutT (fun a w => ∃ z12A z13m z14n, Sl 16 [] [] a ∧ HS W0 [own e_api_Timer 32 z12A z13m z14n z11x, lpx z6l z9rc .ready none, dfc z7d, bx z5b 22 [.slice z12A z13m z14n], bx z4b 22 [.slice A0 x_l.length c0], isH X] w) ?_ ?_
    · skip
      refine w_block ?_
      refine w_loop (fun kq a w => ∃ z15x z16x z17A z18m z19n, timer_Order.l0 kq x_l z15x z16x = some z11x ∧ Sl 16 [] [(0, .func (.yield z6l) #[] #[]), (5, .slice A0 x_l.length c0), (6, .int .i64 (x_l.length : Int)), (7, .int .i64 z15x)] a ∧ HS W0 [own e_api_Timer 32 z17A z18m z19n z16x, lpx z6l z9rc .ready none, dfc z7d, bx z5b 22 [.slice z17A z18m z19n], bx z4b 22 [.slice A0 x_l.length c0], isH X] w) _ ⟨0, ([] : List api_Timer), none, 0, 0, H, S4.sub ⟨rfl, rfl, rfl, rfl, trivial⟩, Hq⟩ ?_
      clear H Hq S4
      rintro k0 a w ⟨z15x, z16x, z17A, z18m, z19n, H, S4, Hq⟩
      cases k0 with
      | zero => simp [timer_Order.l0] at H
      | succ k0 =>
        refine ⟨k0, rfl, ?_⟩
        rw [timer_Order.l0] at H
        obtain rfl := own_len [] Hq
        refine w_seq ?_
        refine w_region ?_
        refine r_pures [_] S4 rfl ?_
        clear S4; intro a4 S4
        refine wl_nil ?_
        refine nr_then ?_
        refine w_seq ?_
        by_cases z20h : z15x < (x_l.length : Int)
        · replace H := (if_pos z20h).symm.trans H
          refine w_true S4 rfl (decide_eq_true z20h) ?_
          refine w_skip ?_
          refine nr_then ?_
          refine w_seq ?_
          refine w_block ?_
          refine w_seq ?_
          refine w_region ?_
          by_cases z21h : 0 ≤ z15x
          · replace H := (if_pos z21h).symm.trans H
            obtain ⟨z22b, z23o, rfl⟩ := (isH_rd [_, _, _, _, _] Hq HR0).at (by omega)
            refine r_index S4 rfl rfl sl22 ti32 z21h z20h rfl ?_
            clear S4; intro a4 S4
            refine r_elA (vs := [.int .i64 ((rd e_api_Timer x_l z15x).At), .int .i64 ((rd e_api_Timer x_l z15x).ID)]) S4 (isH_rd [_, _, _, _, _] Hq HR0) z21h z20h rfl ti32 rfl rfl rfl ?_
            clear S4; intro a4 S4
            refine r_alloc S4 Hq ti32 rfl ?_
            clear S4 Hq; intro z24b a4 w S4 Hq
            refine r_st [] S4 Hq rfl rfl ti32 [.int .i64 ((rd e_api_Timer x_l z15x).At), .int .i64 ((rd e_api_Timer x_l z15x).ID)] rfl rfl rfl rfl [.int .i64 ((rd e_api_Timer x_l z15x).At), .int .i64 ((rd e_api_Timer x_l z15x).ID)] rfl ?_
            clear Hq; intro w Hq; dsimp only [List.cons_append, List.nil_append] at Hq
            refine wl_nil ?_
            refine nr_then ?_
            refine w_seq ?_
            refine w_region ?_
            refine r_pures [_] S4 rfl ?_
            clear S4; intro a4 S4
            refine r_ldA [] S4 Hq rfl ti32 [.int .i64 ((rd e_api_Timer x_l z15x).At), .int .i64 ((rd e_api_Timer x_l z15x).ID)] rfl rfl rfl ?_
            clear S4; intro a4 S4
            refine r_yield [_, _] S4 S3 z10hr Hq rfl rfl rfl rfl rfl ?_
            intro a5 S5
            refine w_region ?_
            refine r_alloc S5 Hq ti32 rfl ?_
            clear S5 Hq; intro z25b a5 w S5 Hq
            refine r_st [] S5 Hq rfl rfl ti32 [.int .i64 ((rd e_api_Timer x_l z15x).At), .int .i64 ((rd e_api_Timer x_l z15x).ID)] rfl rfl rfl rfl [.int .i64 ((rd e_api_Timer x_l z15x).At), .int .i64 ((rd e_api_Timer x_l z15x).ID)] rfl ?_
            clear Hq; intro w Hq; dsimp only [List.cons_append, List.nil_append] at Hq
            refine wl_nil ?_
            refine nr_then ?_
            refine rd_begin z10hr [_, _, _] Hq ?_
            clear Hq; intro w Hq; dsimp only [List.cons_append, List.nil_append] at Hq
            refine w_block ?_
            refine w_region ?_
            refine r_ldS [_, _, _, _, _] S5 Hq rfl ti22 _ rfl rfl ?_
            clear S5; intro a5 S5
            refine r_ldA [] S5 Hq rfl ti32 [.int .i64 ((rd e_api_Timer x_l z15x).At), .int .i64 ((rd e_api_Timer x_l z15x).ID)] rfl rfl rfl ?_
            clear S5; intro a5 S5
            refine r_lit (e := e_api_Timer) (l := ([(rd e_api_Timer x_l z15x)] : List api_Timer)) (m := 1) (vs := [.agg #[.int .i64 ((rd e_api_Timer x_l z15x).At), .int .i64 ((rd e_api_Timer x_l z15x).ID)]]) S5 Hq sl22 ti32 rfl rfl rfl rfl rfl rfl ?_
            clear S5 Hq; intro z26b a5 w S5 Hq
            by_cases z28h : z16x.length + ([(rd e_api_Timer x_l z15x)] : List api_Timer).length < 8796093022208
            · replace H := (if_pos z28h).symm.trans H
              refine r_app [_, _, _] S5 Hq (own_rd [] Hq) rfl rfl sl22 ti32 rfl z28h rfl rfl ?_
              clear S5 Hq; intro z29A z30n a5 w S5 Hq; dsimp only [List.cons_append, List.nil_append] at Hq
              refine r_st [_, _, _, _, _, _] S5 Hq rfl rfl ti22 [.slice z29A ((z16x ++ ([(rd e_api_Timer x_l z15x)] : List api_Timer)).length) z30n] rfl rfl rfl rfl [.slice z29A ((z16x ++ ([(rd e_api_Timer x_l z15x)] : List api_Timer)).length) z30n] rfl ?_
              clear Hq; intro w Hq; dsimp only [List.cons_append, List.nil_append] at Hq
              refine wl_nil ?_
              refine nr_in ?_
              refine rd_end z10hr [_, _, _, _] Hq ?_
              clear Hq S5; intro w Hq; dsimp only [List.cons_append, List.nil_append] at Hq
              refine ⟨_, rfl, ?_⟩; clear S4; intro a4 S4
              refine r_pures [_] S4 rfl ?_
              clear S4; intro a4 S4
              refine wl_nil ?_
              refine nr_then ?_
              refine w_false S4 rfl rfl ?_
              refine w_skip ?_
              refine nr_in ?_
              refine nr_then ?_
              refine w_region ?_
              refine r_pures [_, _] S4 rfl ?_
              clear S4; intro a4 S4
              refine wl_nil ?_
              refine nr_then ?_
              replace Hq := HS.pull [_, _, _, _, _, _, _, _] Hq
              dsimp only [List.cons_append, List.nil_append] at Hq
              replace Hq := HS.pull [_, _, _, _, _, _, _, _] Hq
              dsimp only [List.cons_append, List.nil_append] at Hq
              replace Hq := HS.pull [_, _, _, _, _, _, _, _] Hq
              dsimp only [List.cons_append, List.nil_append] at Hq
              replace Hq := HS.pull [_, _, _, _, _, _, _, _] Hq
              dsimp only [List.cons_append, List.nil_append] at Hq
              replace Hq := HS.pull [_, _, _, _, _, _, _, _] Hq
              dsimp only [List.cons_append, List.nil_append] at Hq
              replace Hq := HS.pull [_, _, _, _, _, _, _, _] Hq
              dsimp only [List.cons_append, List.nil_append] at Hq
              replace Hq := HS.keep [_, _, _, _, _, _] Hq
              exact ⟨(IntKind.i64.wrap (z15x + 1)), (z16x ++ ([(rd e_api_Timer x_l z15x)] : List api_Timer)), z29A, ((z16x ++ ([(rd e_api_Timer x_l z15x)] : List api_Timer)).length), z30n, H, S4.sub ⟨rfl, rfl, rfl, rfl, trivial⟩, Hq⟩
            · replace H := (if_neg z28h).symm.trans H
              exact nomatch H
          · replace H := (if_neg z21h).symm.trans H
            exact nomatch H
        · replace H := (if_neg z20h).symm.trans H
          refine w_false S4 rfl (decide_eq_false z20h) ?_
          refine w_exit ?_
          refine ex_then ?_
          refine ex_then ?_
          refine ex_in ?_
          refine nr_then ?_
          obtain rfl := Option.some.inj H
          exact ⟨z17A, z16x.length, z19n, S4.sub trivial, Hq⟩
    · clear S4; rintro a w ⟨z12A, z13m, z14n, S4, Hq⟩
      have H := HU1; clear HU1
      obtain rfl := own_len [] Hq
      refine end0 S4 rfl ?_
      clear S4
      refine ⟨_, rfl, ?_⟩
      refine lp_end z10hr [_] Hq (by decide) ?_
      clear Hq z10hr; intro w Hq; dsimp only [List.cons_append, List.nil_append] at Hq
      clear S3; intro a3 S3
      refine nr_in ?_
      refine nr_then ?_
      refine w_seq ?_
      refine w_region ?_
      refine r_ldS [_, _] S3 Hq rfl ti22 _ rfl rfl ?_
      clear S3; intro a3 S3
      refine r_pures [_] S3 rfl ?_
      clear S3; intro a3 S3
      refine wl_nil ?_
      refine nr_then ?_
      refine w_ret ?_
      refine pop_ret [_] S3 Hq ?_
      clear S3 Hq; intro a3 w S3 Hq; dsimp only [List.cons_append, List.nil_append] at Hq
      refine leave_ret S3 ?_
      refine ret1 S3 rfl rfl ?_
      clear S3
      refine ⟨_, rfl, ?_⟩; clear S2; intro a2 S2
      refine r_pures [_] S2 rfl ?_
      clear S2; intro a2 S2
      refine wl_nil ?_
      refine nr_then ?_
      refine w_ret ?_
      refine ret1 S2 rfl rfl ?_
      clear S2
      refine ⟨_, rfl, ?_⟩; clear S1; intro a1 S1
      refine r_pures [_] S1 rfl ?_
      clear S1; intro a1 S1
      refine wl_nil ?_
      refine nr_then ?_
      refine w_seq ?_
      refine w_region ?_
      refine r_pures [_, _] S1 rfl ?_
      clear S1; intro a1 S1
      obtain ⟨Xz31, HXz31, HPz31, HBz31⟩ := call_frame [_] Hq
      dsimp only [List.cons_append, List.nil_append] at HXz31 HBz31
      obtain ⟨z32t, Hc, H⟩ := Option.bind_eq_some_iff.mp H
      refine r_call S1 rfl rfl goes43 rfl ?_
      refine (slices_SortFunc_api_Timer_api_Timer.calls _ _ _ z11x _ _  HXz31 z32t Hc).mono ?_
      rintro e w ⟨rfl, Hq'⟩
      have Hq : HS W0 [own e_api_Timer 32 z12A z11x.length z14n z32t, bx z5b 22 [.slice z12A z11x.length z14n], bx z4b 22 [.slice A0 x_l.length c0], isH X] w := HBz31 [_] _ Hq'
      clear HXz31 HPz31 HBz31 Hq'
      refine ⟨.tuple #[], rfl, ?_⟩; clear S1; intro a1 S1
      refine wl_nil ?_
      refine nr_then ?_
      refine w_seq ?_
      refine w_region ?_
      refine r_pures [_, _] S1 rfl ?_
      clear S1; intro a1 S1
      refine wl_nil ?_
      refine nr_then ?_
      refine w_ret ?_
      refine ret1 S1 rfl rfl ?_
      clear S1
      refine ⟨_, rfl, ?_⟩; clear S0; intro a0 S0
      refine r_pures [_, _] S0 rfl ?_
      clear S0; intro a0 S0
      refine wl_nil ?_
      refine nr_then ?_
      refine w_ret ?_
      obtain rfl := Option.some.inj H
      refine ret2 S0 rfl rfl rfl ?_
      replace Hq := HS.pull [_, _, _] Hq
      dsimp only [List.cons_append, List.nil_append] at Hq
      replace Hq := HS.pull [_] Hq
      dsimp only [List.cons_append, List.nil_append] at Hq
      replace Hq := HS.keep [_, _] Hq
      exact ⟨z12A, z11x.length, z14n, rfl, Hq⟩
  · replace H := (if_neg z3h).symm.trans H
    refine w_true S0 rfl (congrArg (!·) (decide_eq_false z3h)) ?_
    refine w_seq ?_
    refine w_region ?_
    refine r_pures [_, _, _] S0 rfl ?_
    clear S0; intro a0 S0
    refine wl_nil ?_
    refine nr_then ?_
    refine w_ret ?_
    refine ret_then ?_
    obtain rfl := Option.some.inj H
    replace Hq := HS.own_nil e_api_Timer 32 Hq
    refine ret2 S0 rfl rfl rfl ?_
    replace Hq := HS.pull [_] Hq
    dsimp only [List.cons_append, List.nil_append] at Hq
    replace Hq := HS.pull [_] Hq
    dsimp only [List.cons_append, List.nil_append] at Hq
    exact ⟨none, 0, 0, rfl, Hq⟩

end Go.Proofs.Ytailjeoimlemnaa.M

/- waybill/waybillplain.SameTimers: a plain function, and that the machine's call comes to it: printed by a program of the session's own. -/
set_option linter.unusedVariables false
set_option linter.unusedSimpArgs false
namespace Go.Proofs.Ytailjeoimlemnaa.M
open Go Go.Proofs.Ytailjeoimlemnaa.Sl
/-! ### waybill/waybillplain.SameTimers: function 11 -/
def waybillplain_SameTimers.l0 : Nat → (List api_Timer) → (List api_Timer) → Int → Option (Bool)
  | 0, _, _, _ => none
  | k + 1, x_a, x_b, z2x => if z2x < (x_a.length : Int) then (if 0 ≤ z2x then (if z2x < (x_b.length : Int) then (if (rd e_api_Timer x_a z2x) = (rd e_api_Timer x_b z2x) then (waybillplain_SameTimers.l0 k x_a x_b (IntKind.i64.wrap (z2x + 1))) else (some false)) else (none)) else (none)) else (some true)
def waybillplain_SameTimers.f (k : Nat) (x_a : List api_Timer) (x_b : List api_Timer) : Option (Bool) := if (x_a.length : Int) = (x_b.length : Int) then ((waybillplain_SameTimers.l0 k x_a x_b 0)) else (some false)
set_option maxRecDepth 100000 in
set_option maxHeartbeats 4000000 in
theorem waybillplain_SameTimers.calls (k : Nat) (A0 : Option Addr) (n0 c0 : Nat) (x_a : List api_Timer) (A1 : Option Addr) (n1 c1 : Nat) (x_b : List api_Timer) (W0 : World) (X : Heap) (HR0 : Rd e_api_Timer X A0 n0 c0 x_a) (HR1 : Rd e_api_Timer X A1 n1 c1 x_b) (Hq : HS W0 [isH X] W0) (r : Bool) (H : waybillplain_SameTimers.f k x_a x_b = some r) :
    Calls Try.prog 11 #[.slice A0 n0 c0, .slice A1 n1 c1] W0 (fun e w => e = .returned (.bool r) ∧ HS W0 [isH X] w) := by
  obtain rfl := HR0.1
  obtain rfl := HR1.1
  rw [waybillplain_SameTimers.f] at H
  refine calls_in Try.func11 rfl rfl ?_
  intro a0 S0
  refine w_seq ?_
  refine w_region ?_
  refine r_pures [_] S0 rfl ?_
  clear S0; intro a0 S0
  refine wl_nil ?_
  refine nr_then ?_
  refine w_seq ?_
  refine w_seq ?_
  refine w_region ?_
  refine r_pures [_] S0 rfl ?_
  clear S0; intro a0 S0
  refine r_len S0 rfl sl22 rfl ?_
  clear S0; intro a0 S0
  refine r_pures [_] S0 rfl ?_
  clear S0; intro a0 S0
  refine r_len S0 rfl sl22 rfl ?_
  clear S0; intro a0 S0
  refine r_pures [_] S0 rfl ?_
  clear S0; intro a0 S0
  refine wl_nil ?_
  refine nr_then ?_
  by_cases z1h : (x_a.length : Int) = (x_b.length : Int)
  · replace H := (if_pos z1h).symm.trans H
    refine w_false S0 rfl (congrArg (!·) (decide_eq_true z1h)) ?_
    refine w_skip ?_
    refine nr_then ?_
    refine w_seq ?_
    refine w_seq ?_
    refine w_region ?_
    refine r_pures [_] S0 rfl ?_
    clear S0; intro a0 S0
    refine wl_nil ?_
    refine nr_then ?_
    refine w_block ?_
    refine w_loop (fun kq a w => ∃ z2x, waybillplain_SameTimers.l0 kq x_a x_b z2x = some r ∧ Sl 26 [] [(0, .slice A0 x_a.length c0), (1, .slice A1 x_b.length c1), (5, .int .i64 z2x)] a ∧ HS W0 [isH X] w) _ ⟨0, H, S0.sub ⟨rfl, rfl, rfl, trivial⟩, Hq⟩ ?_
    clear H Hq S0
    rintro k0 a w ⟨z2x, H, S0, Hq⟩
    cases k0 with
    | zero => simp [waybillplain_SameTimers.l0] at H
    | succ k0 =>
      refine ⟨k0, rfl, ?_⟩
      rw [waybillplain_SameTimers.l0] at H
      refine w_seq ?_
      refine w_seq ?_
      refine w_region ?_
      refine r_pures [_, _] S0 rfl ?_
      clear S0; intro a0 S0
      refine r_len S0 rfl sl22 rfl ?_
      clear S0; intro a0 S0
      refine r_pures [_] S0 rfl ?_
      clear S0; intro a0 S0
      refine wl_nil ?_
      refine nr_then ?_
      by_cases z3h : z2x < (x_a.length : Int)
      · replace H := (if_pos z3h).symm.trans H
        refine w_true S0 rfl (decide_eq_true z3h) ?_
        refine w_skip ?_
        refine nr_then ?_
        refine w_seq ?_
        refine w_block ?_
        refine w_seq ?_
        refine w_draw TryM.mixed (.pu 0 (.pu 1 (.pu 2 (.pu 4 (.pu 5 (.pu 6 (.rd 3 (.rd 7 (.pu 8 .done))))))))) (by kernel_rfl) rfl ?_
        replace Hq := Hq.drew
        refine st_pures [0, 1] S0 rfl ?_
        intro az4q Sz4q
        by_cases z5h : 0 ≤ z2x
        · replace H := (if_pos z5h).symm.trans H
          obtain ⟨z6b, z7o, rfl⟩ := (isH_rd [] Hq HR0).at (by omega)
          refine st_pu Sz4q rfl (g_none rfl) rfl rfl (fun _ => y_index Sz4q rfl rfl sl22 ti32 z5h z3h) ?_
          intro az8q Sz8q
          refine st_pures [4, 5] Sz8q rfl ?_
          intro az9q Sz9q
          by_cases z10h : z2x < (x_b.length : Int)
          · replace H := (if_pos z10h).symm.trans H
            obtain ⟨z11b, z12o, rfl⟩ := (isH_rd [] Hq HR1).at (by omega)
            refine st_pu Sz9q rfl (g_none rfl) rfl rfl (fun _ => y_index Sz9q rfl rfl sl22 ti32 z5h z10h) ?_
            intro az13q Sz13q
            refine st_rd Sz13q rfl (g_none rfl) rfl rfl (y_elA (vs := [.int .i64 ((rd e_api_Timer x_a z2x).At), .int .i64 ((rd e_api_Timer x_a z2x).ID)]) Sz13q (isH_rd [] Hq HR0) z5h z3h rfl ti32 rfl rfl) ?_
            intro az14q Sz14q
            refine st_rd Sz14q rfl (g_none rfl) rfl rfl (y_elA (vs := [.int .i64 ((rd e_api_Timer x_b z2x).At), .int .i64 ((rd e_api_Timer x_b z2x).ID)]) Sz14q (isH_rd [] Hq HR1) z5h z10h rfl ti32 rfl rfl) ?_
            intro az15q Sz15q
            refine st_pu Sz15q rfl (g_none rfl) rfl rfl (fun _ => y_sne (us := [.int .i64 ((rd e_api_Timer x_a z2x).At), .int .i64 ((rd e_api_Timer x_a z2x).ID)]) (vs := [.int .i64 ((rd e_api_Timer x_b z2x).At), .int .i64 ((rd e_api_Timer x_b z2x).ID)]) Sz15q rfl rfl (seq32 (rd e_api_Timer x_a z2x) (rd e_api_Timer x_b z2x))) ?_
            intro az16q Sz16q
            refine st_nil ?_
            replace S0 := Sz16q
            refine nr_then ?_
            by_cases z17h : (rd e_api_Timer x_a z2x) = (rd e_api_Timer x_b z2x)
            · replace H := (if_pos z17h).symm.trans H
              refine w_false S0 rfl (congrArg (!·) (decide_eq_true z17h)) ?_
              refine w_skip ?_
              refine nr_in ?_
              refine nr_then ?_
              refine w_region ?_
              refine r_pures [_, _, _] S0 rfl ?_
              clear S0; intro a0 S0
              refine wl_nil ?_
              refine nr_then ?_
              exact ⟨(IntKind.i64.wrap (z2x + 1)), H, S0.sub ⟨rfl, rfl, rfl, trivial⟩, Hq⟩
            · replace H := (if_neg z17h).symm.trans H
              refine w_true S0 rfl (congrArg (!·) (decide_eq_false z17h)) ?_
              refine w_seq ?_
              refine w_region ?_
              refine r_pures [_] S0 rfl ?_
              clear S0; intro a0 S0
              refine wl_nil ?_
              refine nr_then ?_
              refine w_ret ?_
              refine ret_in ?_
              refine ret_then ?_
              refine ret_then ?_
              refine ret_in ?_
              refine ret_then ?_
              obtain rfl := Option.some.inj H
              refine ret1 S0 rfl rfl ?_
              exact ⟨rfl, Hq⟩
          · replace H := (if_neg z10h).symm.trans H
            exact nomatch H
        · replace H := (if_neg z5h).symm.trans H
          exact nomatch H
      · replace H := (if_neg z3h).symm.trans H
        refine w_false S0 rfl (decide_eq_false z3h) ?_
        refine w_exit ?_
        refine ex_then ?_
        refine ex_then ?_
        refine ex_in ?_
        refine nr_then ?_
        refine w_seq ?_
        refine w_region ?_
        refine r_pures [_] S0 rfl ?_
        clear S0; intro a0 S0
        refine wl_nil ?_
        refine nr_then ?_
        refine w_ret ?_
        obtain rfl := Option.some.inj H
        refine ret1 S0 rfl rfl ?_
        exact ⟨rfl, Hq⟩
  · replace H := (if_neg z1h).symm.trans H
    refine w_true S0 rfl (congrArg (!·) (decide_eq_false z1h)) ?_
    refine w_seq ?_
    refine w_region ?_
    refine r_pures [_] S0 rfl ?_
    clear S0; intro a0 S0
    refine wl_nil ?_
    refine nr_then ?_
    refine w_ret ?_
    refine ret_then ?_
    obtain rfl := Option.some.inj H
    refine ret1 S0 rfl rfl ?_
    exact ⟨rfl, Hq⟩

end Go.Proofs.Ytailjeoimlemnaa.M

/- (*waybill/timer.heap).sink: a plain function, and that the machine's call comes to it: printed by a program of the session's own. -/
set_option linter.unusedVariables false
set_option linter.unusedSimpArgs false
namespace Go.Proofs.Ytailjeoimlemnaa.M
open Go Go.Proofs.Ytailjeoimlemnaa.Sl
/-! ### (*waybill/timer.heap).sink: function 47 -/
def timer_heap_sink.l0 : Nat → (List api_Timer) → Int → (List api_Timer) → Option (List api_Timer)
  | 0, _, _, _ => none
  | k + 1, x_h, z1x, z2x => if (x_h.length : Int) ≤ (IntKind.i64.wrap ((IntKind.i64.wrap (2 * z1x)) + 1)) then (some z2x) else (((if (IntKind.i64.wrap ((IntKind.i64.wrap ((IntKind.i64.wrap (2 * z1x)) + 1)) + 1)) < (x_h.length : Int) then ((timer_heap_ahead.f k z2x (IntKind.i64.wrap ((IntKind.i64.wrap ((IntKind.i64.wrap (2 * z1x)) + 1)) + 1)) (IntKind.i64.wrap ((IntKind.i64.wrap (2 * z1x)) + 1))).bind fun z7t => (some z7t)) else (some false)) : Option (Bool)).bind fun z4x => (((if z4x = true then (some (IntKind.i64.wrap ((IntKind.i64.wrap ((IntKind.i64.wrap (2 * z1x)) + 1)) + 1))) else (some (IntKind.i64.wrap ((IntKind.i64.wrap (2 * z1x)) + 1)))) : Option (Int)).bind fun z8x => ((timer_heap_ahead.f k z2x z8x z1x).bind fun z11t => (if z11t = true then ((timer_heap_swap.f z2x z1x z8x).bind fun z14t => (timer_heap_sink.l0 k x_h z8x z14t)) else (some z2x)))))
def timer_heap_sink.f (k : Nat) (x_h : List api_Timer) (x_i : Int) : Option (List api_Timer) := (timer_heap_sink.l0 k x_h x_i x_h)
set_option maxRecDepth 100000 in
set_option maxHeartbeats 4000000 in
theorem timer_heap_sink.calls (k : Nat) (A0x0 : Option Addr) (n0x0 c0x0 : Nat) (b0 : Nat) (x_h : List api_Timer) (x_i : Int) (W0 : World) (X : Heap)  (Hq : HS W0 [own e_api_Timer 32 A0x0 n0x0 c0x0 x_h, bx b0 56 [.slice A0x0 n0x0 c0x0], isH X] W0) (r : List api_Timer) (H : timer_heap_sink.f k x_h x_i = some r) :
    Calls Try.prog 47 #[.pointer (some ⟨b0, 0, none⟩), .int .i64 x_i] W0 (fun e w => ∃ As0 ns0 cs0, e = .returned (.tuple #[]) ∧ HS W0 [own e_api_Timer 32 As0 ns0 cs0 r, bx b0 56 [.slice As0 ns0 cs0], isH X] w) := by
  obtain rfl := own_len [] Hq
  rw [timer_heap_sink.f] at H
  refine calls_in Try.func47 rfl rfl ?_
  intro a0 S0
  refine w_block ?_
  refine w_loop (fun kq a w => ∃ z1x z2x, timer_heap_sink.l0 kq x_h z1x z2x = some r ∧ Sl 46 [] [(0, .pointer (some ⟨b0, 0, none⟩)), (1, .int .i64 z1x)] a ∧ HS W0 [own e_api_Timer 32 A0x0 x_h.length c0x0 z2x, bx b0 56 [.slice A0x0 x_h.length c0x0], isH X] w) _ ⟨x_i, x_h, H, S0.sub ⟨rfl, rfl, trivial⟩, Hq⟩ ?_
  clear H Hq S0
  rintro k0 a w ⟨z1x, z2x, H, S0, Hq⟩
  cases k0 with
  | zero => simp [timer_heap_sink.l0] at H
  | succ k0 =>
    refine ⟨k0, rfl, ?_⟩
    rw [timer_heap_sink.l0] at H
    refine w_block ?_
    refine w_seq ?_
    refine w_region ?_
    refine r_pures [_, _, _, _] S0 rfl ?_
    clear S0; intro a0 S0
    refine wl_nil ?_
    refine nr_then ?_
    refine w_seq ?_
    refine w_seq ?_
    refine w_region ?_
    refine r_pures [_, _, _] S0 rfl ?_
    clear S0; intro a0 S0
    refine r_ldS [_] S0 Hq rfl ti56 _ rfl rfl ?_
    clear S0; intro a0 S0
    refine r_len S0 rfl sl56 rfl ?_
    clear S0; intro a0 S0
    refine r_pures [_] S0 rfl ?_
    clear S0; intro a0 S0
    refine wl_nil ?_
    refine nr_then ?_
    by_cases z3h : (x_h.length : Int) ≤ (IntKind.i64.wrap ((IntKind.i64.wrap (2 * z1x)) + 1))
    · replace H := (if_pos z3h).symm.trans H
      refine w_true S0 rfl (decide_eq_true z3h) ?_
      refine w_ret ?_
      refine ret_then ?_
      refine ret_in ?_
      refine ret_then ?_
      refine ret_in ?_
      obtain rfl := Option.some.inj H
      refine ret0 S0 rfl ?_
      replace Hq := HS.pull [_, _] Hq
      dsimp only [List.cons_append, List.nil_append] at Hq
      replace Hq := HS.pull [_, _] Hq
      dsimp only [List.cons_append, List.nil_append] at Hq
      replace Hq := HS.pull [_, _] Hq
      dsimp only [List.cons_append, List.nil_append] at Hq
      exact ⟨A0x0, x_h.length, c0x0, rfl, Hq⟩
    · replace H := (if_neg z3h).symm.trans H
      refine w_false S0 rfl (decide_eq_false z3h) ?_
      refine w_skip ?_
      refine nr_then ?_
      refine w_seq ?_
      refine w_seq ?_
      obtain ⟨z4x, H, HU1⟩ := Option.bind_eq_some_iff.mp H
      refine w_cutT (fun a w => Sl 46 [] [(0, .pointer (some ⟨b0, 0, none⟩)), (1, .int .i64 z1x), (4, .int .i64 (IntKind.i64.wrap ((IntKind.i64.wrap (2 * z1x)) + 1))), (29, .bool z4x)] a ∧ HS W0 [own e_api_Timer 32 A0x0 x_h.length c0x0 z2x, bx b0 56 [.slice A0x0 x_h.length c0x0], isH X] w) ?_ ?_
      · skip
        refine w_region ?_
        refine r_pures [_, _, _, _] S0 rfl ?_
        clear S0; intro a0 S0
        refine r_ldS [_] S0 Hq rfl ti56 _ rfl rfl ?_
        clear S0; intro a0 S0
        refine r_len S0 rfl sl56 rfl ?_
        clear S0; intro a0 S0
        refine r_pures [_, _] S0 rfl ?_
        clear S0; intro a0 S0
        by_cases z5h : (IntKind.i64.wrap ((IntKind.i64.wrap ((IntKind.i64.wrap (2 * z1x)) + 1)) + 1)) < (x_h.length : Int)
        · replace H := (if_pos z5h).symm.trans H
          refine r_on S0 rfl rfl rfl (decide_eq_true z5h) ?_
          refine r_pures [_] S0 rfl ?_
          clear S0; intro a0 S0
          refine r_on S0 rfl rfl rfl (decide_eq_true z5h) ?_
          refine r_pures [_] S0 rfl ?_
          clear S0; intro a0 S0
          refine r_on S0 rfl rfl rfl (decide_eq_true z5h) ?_
          refine r_ldS [_] S0 Hq rfl ti56 _ rfl rfl ?_
          clear S0; intro a0 S0
          refine r_on S0 rfl rfl rfl (decide_eq_true z5h) ?_
          refine r_pures [_] S0 rfl ?_
          clear S0; intro a0 S0
          refine r_on S0 rfl rfl rfl (decide_eq_true z5h) ?_
          refine r_pures [_] S0 rfl ?_
          clear S0; intro a0 S0
          refine r_on S0 rfl rfl rfl (decide_eq_true z5h) ?_
          refine r_pures [_] S0 rfl ?_
          clear S0; intro a0 S0
          refine r_on S0 rfl rfl rfl (decide_eq_true z5h) ?_
          obtain ⟨Xz6, HXz6, HPz6, HBz6⟩ := call_frame [] Hq
          dsimp only [List.cons_append, List.nil_append] at HXz6 HBz6
          obtain ⟨z7t, Hc, H⟩ := Option.bind_eq_some_iff.mp H
          refine r_call S0 rfl rfl goes39 rfl ?_
          refine (timer_heap_ahead.calls _ _ _ _ z2x (IntKind.i64.wrap ((IntKind.i64.wrap ((IntKind.i64.wrap (2 * z1x)) + 1)) + 1)) (IntKind.i64.wrap ((IntKind.i64.wrap (2 * z1x)) + 1)) _ _ (sl_own_rd [] HPz6) HXz6 z7t Hc).mono ?_
          rintro e w ⟨rfl, Hq'⟩
          have Hq : HS W0 [own e_api_Timer 32 A0x0 x_h.length c0x0 z2x, bx b0 56 [.slice A0x0 x_h.length c0x0], isH X] w := HBz6 [] _ Hq'
          clear HXz6 HPz6 HBz6 Hq'
          refine ⟨.bool z7t, rfl, ?_⟩; clear S0; intro a0 S0
          refine r_pick S0 rfl (decide_eq_true z5h) _ rfl rfl ?_
          clear S0; intro a0 S0
          refine wl_nil ?_
          refine nr_then ?_
          obtain rfl := Option.some.inj H
          exact ⟨S0.sub ⟨rfl, rfl, rfl, rfl, trivial⟩, Hq⟩
        · replace H := (if_neg z5h).symm.trans H
          refine r_off S0 rfl rfl rfl (decide_eq_false z5h) ?_ rfl
          clear S0; intro a0 S0
          refine r_off S0 rfl rfl rfl (decide_eq_false z5h) ?_ rfl
          clear S0; intro a0 S0
          refine r_off S0 rfl rfl rfl (decide_eq_false z5h) ?_ rfl
          clear S0; intro a0 S0
          refine r_off S0 rfl rfl rfl (decide_eq_false z5h) ?_ rfl
          clear S0; intro a0 S0
          refine r_off S0 rfl rfl rfl (decide_eq_false z5h) ?_ rfl
          clear S0; intro a0 S0
          refine r_off S0 rfl rfl rfl (decide_eq_false z5h) ?_ rfl
          clear S0; intro a0 S0
          refine r_off S0 rfl rfl rfl (decide_eq_false z5h) ?_ rfl
          clear S0; intro a0 S0
          refine r_pick S0 rfl (decide_eq_false z5h) _ rfl rfl ?_
          clear S0; intro a0 S0
          refine wl_nil ?_
          refine nr_then ?_
          obtain rfl := Option.some.inj H
          exact ⟨S0.sub ⟨rfl, rfl, rfl, rfl, trivial⟩, Hq⟩
      · clear S0; rintro a w ⟨S0, Hq⟩
        have H := HU1; clear HU1
        refine nr_then ?_
        obtain ⟨z8x, H, HU2⟩ := Option.bind_eq_some_iff.mp H
        refine w_cutT (fun a w => Sl 46 [] [(0, .pointer (some ⟨b0, 0, none⟩)), (1, .int .i64 z1x), (4, .int .i64 z8x)] a ∧ HS W0 [own e_api_Timer 32 A0x0 x_h.length c0x0 z2x, bx b0 56 [.slice A0x0 x_h.length c0x0], isH X] w) ?_ ?_
        · skip
          by_cases z9h : z4x = true
          · replace H := (if_pos z9h).symm.trans H
            refine w_true S0 rfl z9h ?_
            refine w_region ?_
            refine r_pures [_, _, _] S0 rfl ?_
            clear S0; intro a0 S0
            refine wl_nil ?_
            refine nr_then ?_
            obtain rfl := Option.some.inj H
            exact ⟨S0.sub ⟨rfl, rfl, rfl, trivial⟩, Hq⟩
          · replace H := (if_neg z9h).symm.trans H
            refine w_false S0 rfl (Bool.eq_false_iff.mpr z9h) ?_
            refine w_skip ?_
            refine nr_then ?_
            obtain rfl := Option.some.inj H
            exact ⟨S0.sub ⟨rfl, rfl, rfl, trivial⟩, Hq⟩
        · clear S0; rintro a w ⟨S0, Hq⟩
          have H := HU2; clear HU2
          refine nr_then ?_
          refine w_seq ?_
          refine w_seq ?_
          refine w_region ?_
          refine r_pures [_, _] S0 rfl ?_
          clear S0; intro a0 S0
          refine r_ldS [_] S0 Hq rfl ti56 _ rfl rfl ?_
          clear S0; intro a0 S0
          refine r_pures [_, _] S0 rfl ?_
          clear S0; intro a0 S0
          obtain ⟨Xz10, HXz10, HPz10, HBz10⟩ := call_frame [] Hq
          dsimp only [List.cons_append, List.nil_append] at HXz10 HBz10
          obtain ⟨z11t, Hc, H⟩ := Option.bind_eq_some_iff.mp H
          refine r_call S0 rfl rfl goes39 rfl ?_
          refine (timer_heap_ahead.calls _ _ _ _ z2x z8x z1x _ _ (sl_own_rd [] HPz10) HXz10 z11t Hc).mono ?_
          rintro e w ⟨rfl, Hq'⟩
          have Hq : HS W0 [own e_api_Timer 32 A0x0 x_h.length c0x0 z2x, bx b0 56 [.slice A0x0 x_h.length c0x0], isH X] w := HBz10 [] _ Hq'
          clear HXz10 HPz10 HBz10 Hq'
          refine ⟨.bool z11t, rfl, ?_⟩; clear S0; intro a0 S0
          refine r_pures [_] S0 rfl ?_
          clear S0; intro a0 S0
          refine wl_nil ?_
          refine nr_then ?_
          by_cases z12h : z11t = true
          · replace H := (if_pos z12h).symm.trans H
            refine w_false S0 rfl (congrArg (!·) z12h) ?_
            refine w_skip ?_
            refine nr_then ?_
            refine w_seq ?_
            refine w_region ?_
            refine r_pures [_, _] S0 rfl ?_
            clear S0; intro a0 S0
            refine r_ldS [_] S0 Hq rfl ti56 _ rfl rfl ?_
            clear S0; intro a0 S0
            refine r_pures [_, _] S0 rfl ?_
            clear S0; intro a0 S0
            obtain ⟨Xz13, HXz13, HPz13, HBz13⟩ := call_frame [_] Hq
            dsimp only [List.cons_append, List.nil_append] at HXz13 HBz13
            obtain ⟨z14t, Hc, H⟩ := Option.bind_eq_some_iff.mp H
            refine r_call S0 rfl rfl goes41 rfl ?_
            refine (timer_heap_swap.calls _ _ _ z2x z1x z8x _ _  HXz13 z14t Hc).mono ?_
            rintro e w ⟨rfl, Hq'⟩
            have Hq : HS W0 [own e_api_Timer 32 A0x0 x_h.length c0x0 z14t, bx b0 56 [.slice A0x0 x_h.length c0x0], isH X] w := HBz13 [_] _ Hq'
            clear HXz13 HPz13 HBz13 Hq'
            refine ⟨.tuple #[], rfl, ?_⟩; clear S0; intro a0 S0
            refine wl_nil ?_
            refine nr_then ?_
            refine w_region ?_
            refine r_pures [_, _] S0 rfl ?_
            clear S0; intro a0 S0
            refine wl_nil ?_
            refine nr_in ?_
            refine nr_then ?_
            exact ⟨z8x, z14t, H, S0.sub ⟨rfl, rfl, trivial⟩, Hq⟩
          · replace H := (if_neg z12h).symm.trans H
            refine w_true S0 rfl (congrArg (!·) (Bool.eq_false_iff.mpr z12h)) ?_
            refine w_ret ?_
            refine ret_then ?_
            refine ret_in ?_
            refine ret_then ?_
            refine ret_in ?_
            obtain rfl := Option.some.inj H
            refine ret0 S0 rfl ?_
            replace Hq := HS.pull [_, _] Hq
            dsimp only [List.cons_append, List.nil_append] at Hq
            replace Hq := HS.pull [_, _] Hq
            dsimp only [List.cons_append, List.nil_append] at Hq
            replace Hq := HS.pull [_, _] Hq
            dsimp only [List.cons_append, List.nil_append] at Hq
            exact ⟨A0x0, x_h.length, c0x0, rfl, Hq⟩

end Go.Proofs.Ytailjeoimlemnaa.M

/- (*waybill/timer.heap).pop: a plain function, and that the machine's call comes to it: printed by a program of the session's own. -/
set_option linter.unusedVariables false
set_option linter.unusedSimpArgs false
namespace Go.Proofs.Ytailjeoimlemnaa.M
open Go Go.Proofs.Ytailjeoimlemnaa.Sl
/-! ### (*waybill/timer.heap).pop: function 30 -/
def timer_heap_pop.f (k : Nat) (x_h : List api_Timer) : Option (api_Timer × (List api_Timer)) := if 0 < (x_h.length : Int) then (if 0 ≤ (IntKind.i64.wrap ((x_h.length : Int) - 1)) then (if (IntKind.i64.wrap ((x_h.length : Int) - 1)) < (x_h.length : Int) then (if (IntKind.i64.wrap ((x_h.length : Int) - 1)) ≤ (x_h.length : Int) then (if (Int.toNat (IntKind.i64.wrap ((x_h.length : Int) - 1))) ≤ x_h.length then ((timer_heap_sink.f k ((x_h.set (Int.toNat 0) (rd e_api_Timer x_h (IntKind.i64.wrap ((x_h.length : Int) - 1)))).take (Int.toNat (IntKind.i64.wrap ((x_h.length : Int) - 1)))) 0).bind fun z10t => (some ((rd e_api_Timer x_h 0), z10t))) else (none)) else (none)) else (none)) else (none)) else (none)
set_option maxRecDepth 100000 in
set_option maxHeartbeats 4000000 in
theorem timer_heap_pop.calls (k : Nat) (A0x0 : Option Addr) (n0x0 c0x0 : Nat) (b0 : Nat) (x_h : List api_Timer) (W0 : World) (X : Heap)  (Hq : HS W0 [own e_api_Timer 32 A0x0 n0x0 c0x0 x_h, bx b0 56 [.slice A0x0 n0x0 c0x0], isH X] W0) (r : api_Timer × (List api_Timer)) (H : timer_heap_pop.f k x_h = some r) :
    Calls Try.prog 30 #[.pointer (some ⟨b0, 0, none⟩)] W0 (fun e w => ∃ As0 ns0 cs0, e = .returned (.agg #[.int .i64 r.1.At, .int .i64 r.1.ID]) ∧ HS W0 [own e_api_Timer 32 As0 ns0 cs0 r.2, bx b0 56 [.slice As0 ns0 cs0], isH X] w) := by
  obtain rfl := own_len [] Hq
  rw [timer_heap_pop.f] at H
  refine calls_in Try.func30 rfl rfl ?_
  intro a0 S0
  refine w_seq ?_
  refine w_region ?_
  refine r_alloc S0 Hq ti32 rfl ?_
  clear S0 Hq; intro z1b a0 w S0 Hq
  refine wl_nil ?_
  refine nr_then ?_
  refine w_seq ?_
  refine w_region ?_
  refine r_pures [_, _] S0 rfl ?_
  clear S0; intro a0 S0
  refine r_ldS [_, _] S0 Hq rfl ti56 _ rfl rfl ?_
  clear S0; intro a0 S0
  refine r_pures [_] S0 rfl ?_
  clear S0; intro a0 S0
  refine wl_nil ?_
  refine nr_then ?_
  refine w_seq ?_
  refine w_region ?_
  refine r_pures [_] S0 rfl ?_
  clear S0; intro a0 S0
  by_cases z2h : 0 < (x_h.length : Int)
  · replace H := (if_pos z2h).symm.trans H
    obtain ⟨z3g, rfl⟩ := own_at [_] Hq (by omega)
    refine r_index S0 rfl rfl sl56 ti32 (by decide : (0:Int) ≤ 0) z2h rfl ?_
    clear S0; intro a0 S0
    refine r_elA (vs := [.int .i64 ((rd e_api_Timer x_h 0).At), .int .i64 ((rd e_api_Timer x_h 0).ID)]) S0 (own_rd [_] Hq) (by decide : (0:Int) ≤ 0) z2h rfl ti32 rfl rfl rfl ?_
    clear S0; intro a0 S0
    refine r_pures [_] S0 rfl ?_
    clear S0; intro a0 S0
    refine r_len S0 rfl sl56 rfl ?_
    clear S0; intro a0 S0
    refine r_pures [_] S0 rfl ?_
    clear S0; intro a0 S0
    refine r_alloc S0 Hq ti32 rfl ?_
    clear S0 Hq; intro z4b a0 w S0 Hq
    refine r_st [] S0 Hq rfl rfl ti32 [.int .i64 ((rd e_api_Timer x_h 0).At), .int .i64 ((rd e_api_Timer x_h 0).ID)] rfl rfl rfl rfl [.int .i64 ((rd e_api_Timer x_h 0).At), .int .i64 ((rd e_api_Timer x_h 0).ID)] rfl ?_
    clear Hq; intro w Hq; dsimp only [List.cons_append, List.nil_append] at Hq
    refine r_pures [_] S0 rfl ?_
    clear S0; intro a0 S0
    refine wl_nil ?_
    refine nr_then ?_
    refine w_seq ?_
    refine w_region ?_
    refine r_pures [_, _, _] S0 rfl ?_
    clear S0; intro a0 S0
    by_cases z5h : 0 ≤ (IntKind.i64.wrap ((x_h.length : Int) - 1))
    · replace H := (if_pos z5h).symm.trans H
      by_cases z6h : (IntKind.i64.wrap ((x_h.length : Int) - 1)) < (x_h.length : Int)
      · replace H := (if_pos z6h).symm.trans H
        refine r_index S0 rfl rfl sl56 ti32 z5h z6h rfl ?_
        clear S0; intro a0 S0
        refine r_elA (vs := [.int .i64 ((rd e_api_Timer x_h (IntKind.i64.wrap ((x_h.length : Int) - 1))).At), .int .i64 ((rd e_api_Timer x_h (IntKind.i64.wrap ((x_h.length : Int) - 1))).ID)]) S0 (own_rd [_, _] Hq) z5h z6h rfl ti32 rfl rfl rfl ?_
        clear S0; intro a0 S0
        refine r_index S0 rfl rfl sl56 ti32 (by decide : (0:Int) ≤ 0) z2h rfl ?_
        clear S0; intro a0 S0
        refine r_elst [_, _] S0 Hq (by decide : (0:Int) ≤ 0) z2h rfl rfl ti32 [.int .i64 ((rd e_api_Timer x_h (IntKind.i64.wrap ((x_h.length : Int) - 1))).At), .int .i64 ((rd e_api_Timer x_h (IntKind.i64.wrap ((x_h.length : Int) - 1))).ID)] rfl rfl rfl rfl (rd e_api_Timer x_h (IntKind.i64.wrap ((x_h.length : Int) - 1))) rfl ?_
        clear Hq; intro w Hq; dsimp only [List.cons_append, List.nil_append] at Hq
        refine wl_nil ?_
        refine nr_then ?_
        refine w_seq ?_
        refine w_region ?_
        refine r_pures [_, _, _] S0 rfl ?_
        clear S0; intro a0 S0
        by_cases z7h : (IntKind.i64.wrap ((x_h.length : Int) - 1)) ≤ (x_h.length : Int)
        · replace H := (if_pos z7h).symm.trans H
          refine r_cutV [_, _] S0 Hq rfl sl56 ti32 _ rfl z5h z7h rfl ?_
          clear S0; intro a0 S0
          refine r_pures [_] S0 rfl ?_
          clear S0; intro a0 S0
          refine r_st [_, _, _] S0 Hq rfl rfl ti56 [.slice (some ⟨z3g, 0, none⟩) (Int.toNat (IntKind.i64.wrap ((x_h.length : Int) - 1))) c0x0] rfl rfl rfl rfl [.slice (some ⟨z3g, 0, none⟩) (Int.toNat (IntKind.i64.wrap ((x_h.length : Int) - 1))) c0x0] rfl ?_
          clear Hq; intro w Hq; dsimp only [List.cons_append, List.nil_append] at Hq
          refine wl_nil ?_
          refine nr_then ?_
          refine w_seq ?_
          refine w_region ?_
          refine r_pures [_] S0 rfl ?_
          clear S0; intro a0 S0
          by_cases z8h : (Int.toNat (IntKind.i64.wrap ((x_h.length : Int) - 1))) ≤ x_h.length
          · replace H := (if_pos z8h).symm.trans H
            replace Hq := HS.shrink [_, _] Hq z8h
            dsimp only [List.cons_append, List.nil_append] at Hq
            replace Hq := HS.pull [_, _, _] Hq
            dsimp only [List.cons_append, List.nil_append] at Hq
            replace Hq := HS.pull [_, _, _] Hq
            dsimp only [List.cons_append, List.nil_append] at Hq
            obtain ⟨Xz9, HXz9, HPz9, HBz9⟩ := call_frame [_, _] Hq
            dsimp only [List.cons_append, List.nil_append] at HXz9 HBz9
            obtain ⟨z10t, Hc, H⟩ := Option.bind_eq_some_iff.mp H
            refine r_call S0 rfl rfl goes47 rfl ?_
            refine (timer_heap_sink.calls _ _ _ _ _ ((x_h.set (Int.toNat 0) (rd e_api_Timer x_h (IntKind.i64.wrap ((x_h.length : Int) - 1)))).take (Int.toNat (IntKind.i64.wrap ((x_h.length : Int) - 1)))) 0 _ _  HXz9 z10t Hc).mono ?_
            rintro e w ⟨z11A, z12m, z13n, rfl, Hq'⟩
            have Hq : HS W0 [own e_api_Timer 32 z11A z12m z13n z10t, bx b0 56 [.slice z11A z12m z13n], bx z4b 32 [.int .i64 ((rd e_api_Timer x_h 0).At), .int .i64 ((rd e_api_Timer x_h 0).ID)], bx z1b 32 [.int .i64 0, .int .i64 0], isH X] w := HBz9 [_, _] _ Hq'
            clear HXz9 HPz9 HBz9 Hq'
            obtain rfl := own_len [] Hq
            refine ⟨.tuple #[], rfl, ?_⟩; clear S0; intro a0 S0
            refine wl_nil ?_
            refine nr_then ?_
            refine w_seq ?_
            refine w_region ?_
            refine r_ldA [_, _] S0 Hq rfl ti32 [.int .i64 ((rd e_api_Timer x_h 0).At), .int .i64 ((rd e_api_Timer x_h 0).ID)] rfl rfl rfl ?_
            clear S0; intro a0 S0
            refine r_st [_, _, _] S0 Hq rfl rfl ti32 [.int .i64 ((rd e_api_Timer x_h 0).At), .int .i64 ((rd e_api_Timer x_h 0).ID)] rfl rfl rfl rfl [.int .i64 ((rd e_api_Timer x_h 0).At), .int .i64 ((rd e_api_Timer x_h 0).ID)] rfl ?_
            clear Hq; intro w Hq; dsimp only [List.cons_append, List.nil_append] at Hq
            refine wl_nil ?_
            refine nr_then ?_
            refine w_ret ?_
            obtain rfl := Option.some.inj H
            refine retL [.cell 2 32] [.agg #[.int .i64 ((rd e_api_Timer x_h 0).At), .int .i64 ((rd e_api_Timer x_h 0).ID)]] S0 rfl ⟨rv_cell [_, _, _] Hq rfl ti32 rfl rfl, trivial⟩ (.agg #[.int .i64 ((rd e_api_Timer x_h 0).At), .int .i64 ((rd e_api_Timer x_h 0).ID)]) rfl ?_
            replace Hq := HS.pull [_, _, _, _] Hq
            dsimp only [List.cons_append, List.nil_append] at Hq
            replace Hq := HS.pull [_, _] Hq
            dsimp only [List.cons_append, List.nil_append] at Hq
            replace Hq := HS.pull [_, _] Hq
            dsimp only [List.cons_append, List.nil_append] at Hq
            replace Hq := HS.keep [_, _, _] Hq
            exact ⟨z11A, z10t.length, z13n, rfl, Hq⟩
          · replace H := (if_neg z8h).symm.trans H
            exact nomatch H
        · replace H := (if_neg z7h).symm.trans H
          exact nomatch H
      · replace H := (if_neg z6h).symm.trans H
        exact nomatch H
    · replace H := (if_neg z5h).symm.trans H
      exact nomatch H
  · replace H := (if_neg z2h).symm.trans H
    exact nomatch H

end Go.Proofs.Ytailjeoimlemnaa.M

/- waybill/timer.Due: a plain function, and that the machine's call comes to it: printed by a program of the session's own. -/
set_option linter.unusedVariables false
set_option linter.unusedSimpArgs false
namespace Go.Proofs.Ytailjeoimlemnaa.M
open Go Go.Proofs.Ytailjeoimlemnaa.Sl
/-! ### waybill/timer.Due: function 12 -/
def timer_Due.l0 : Nat → Int → (List Int) → (List api_Timer) → Option ((List Int) × (List api_Timer))
  | 0, _, _, _ => none
  | k + 1, x_tick, z18x, z22x => ((if 0 < (z22x.length : Int) then (some (decide (((rd e_api_Timer z22x 0).At) ≤ x_tick))) else (some false)) : Option (Bool)).bind fun z26x => (if z26x = true then ((timer_heap_pop.f k z22x).bind fun (z31t, z32t) => (if z18x.length + ([z31t.ID] : List Int).length < 17592186044416 then (timer_Due.l0 k x_tick (z18x ++ ([z31t.ID] : List Int)) z32t) else (none))) else (some (z18x, z22x)))
def timer_Due.f (k : Nat) (x_l : List api_Timer) (x_tick : Int) : Option ((List api_Timer) × (List Int) × Int) := (timer_Check.f k x_l).bind fun z2t => (if z2t = 0 then ((slices_Clone_api_Timer_api_Timer.f x_l).bind fun z5t => ((((timer_Due.l0 k x_tick ([] : List Int) z5t)) : Option ((List Int) × (List api_Timer))).bind fun (z10x, z14x) => (some (z14x, z10x, 0)))) else (some (([] : List api_Timer), ([] : List Int), z2t)))
set_option maxRecDepth 100000 in
set_option maxHeartbeats 4000000 in
theorem timer_Due.calls (k : Nat) (A0 : Option Addr) (n0 c0 : Nat) (x_l : List api_Timer) (x_tick : Int) (W0 : World) (X : Heap) (HR0 : Rd e_api_Timer X A0 n0 c0 x_l) (Hq : HS W0 [isH X] W0) (r : (List api_Timer) × (List Int) × Int) (H : timer_Due.f k x_l x_tick = some r) :
    Calls Try.prog 12 #[.slice A0 n0 c0, .int .i64 x_tick] W0 (fun e w => ∃ Ar0 nr0 cr0 Ar1 nr1 cr1, e = .returned (.tuple #[.slice Ar0 nr0 cr0, .slice Ar1 nr1 cr1, .int .i64 r.2.2]) ∧ HS W0 [own e_api_Timer 32 Ar0 nr0 cr0 r.1, own e_i64 3 Ar1 nr1 cr1 r.2.1, isH X] w) := by
  obtain rfl := HR0.1
  rw [timer_Due.f] at H
  refine calls_in Try.func12 rfl rfl ?_
  intro a0 S0
  refine w_seq ?_
  refine w_region ?_
  refine r_pures [_, _, _] S0 rfl ?_
  clear S0; intro a0 S0
  refine wl_nil ?_
  refine nr_then ?_
  refine w_seq ?_
  refine w_seq ?_
  refine w_region ?_
  refine r_pures [_] S0 rfl ?_
  clear S0; intro a0 S0
  obtain ⟨Xz1, HXz1, HPz1, HBz1⟩ := call_frame [] Hq
  dsimp only [List.cons_append, List.nil_append] at HXz1 HBz1
  obtain ⟨z2t, Hc, H⟩ := Option.bind_eq_some_iff.mp H
  refine r_call S0 rfl rfl goes22 rfl ?_
  refine (timer_Check.calls _ _ _ _ x_l _ _ (sl_isH_rd [] HPz1 HR0) HXz1 z2t Hc).mono ?_
  rintro e w ⟨rfl, Hq'⟩
  have Hq : HS W0 [isH X] w := HBz1 [] _ Hq'
  clear HXz1 HPz1 HBz1 Hq'
  refine ⟨.int .i64 z2t, rfl, ?_⟩; clear S0; intro a0 S0
  refine r_pures [_] S0 rfl ?_
  clear S0; intro a0 S0
  refine wl_nil ?_
  refine nr_then ?_
  refine w_seq ?_
  refine w_region ?_
  refine r_pures [_, _] S0 rfl ?_
  clear S0; intro a0 S0
  refine wl_nil ?_
  refine nr_then ?_
  by_cases z3h : z2t = 0
  · replace H := (if_pos z3h).symm.trans H
    refine w_false S0 rfl (congrArg (!·) (decide_eq_true z3h)) ?_
    refine w_skip ?_
    refine nr_then ?_
    refine w_seq ?_
    refine w_region ?_
    refine r_pures [_] S0 rfl ?_
    clear S0; intro a0 S0
    obtain ⟨Xz4, HXz4, HPz4, HBz4⟩ := call_frame [] Hq
    dsimp only [List.cons_append, List.nil_append] at HXz4 HBz4
    obtain ⟨z5t, Hc, H⟩ := Option.bind_eq_some_iff.mp H
    refine r_call S0 rfl rfl goes29 rfl ?_
    refine (slices_Clone_api_Timer_api_Timer.calls _ _ _ x_l _ _ (sl_isH_rd [] HPz4 HR0) HXz4 z5t Hc).mono ?_
    rintro e w ⟨z6A, z7m, z8n, rfl, Hq'⟩
    have Hq : HS W0 [own e_api_Timer 32 z6A z7m z8n z5t, isH X] w := HBz4 [_] _ Hq'
    clear HXz4 HPz4 HBz4 Hq'
    obtain rfl := own_len [] Hq
    refine ⟨.slice z6A z5t.length z8n, rfl, ?_⟩; clear S0; intro a0 S0
    refine r_alloc S0 Hq ti56 rfl ?_
    clear S0 Hq; intro z9b a0 w S0 Hq
    refine r_st [] S0 Hq rfl rfl ti56 [.slice z6A z5t.length z8n] rfl rfl rfl rfl [.slice z6A z5t.length z8n] rfl ?_
    clear Hq; intro w Hq; dsimp only [List.cons_append, List.nil_append] at Hq
    refine wl_nil ?_
    refine nr_then ?_
    refine w_seq ?_
    refine w_region ?_
    refine r_pures [_] S0 rfl ?_
    clear S0; intro a0 S0
    refine wl_nil ?_
    refine nr_then ?_
    refine w_seq ?_
    replace Hq := HS.own_nil e_i64 3 Hq
    obtain ⟨⟨z10x, z14x⟩, H, HU1⟩ := Option.bind_eq_some_iff.mp H
    dsimp only at HU1
    refine w_cutT (fun a w => ∃ z11A z12m z13n z15A z16m z17n, Sl 35 [] [(8, .pointer (some ⟨z9b, 0, none⟩)), (9, .slice z11A z12m z13n)] a ∧ HS W0 [own e_i64 3 z11A z12m z13n z10x, bx z9b 56 [.slice z15A z16m z17n], own e_api_Timer 32 z15A z16m z17n z14x, isH X] w) ?_ ?_
    · skip
      refine w_block ?_
      refine w_loop (fun kq a w => ∃ z18x z22x z19A z20m z21n z23A z24m z25n, timer_Due.l0 kq x_tick z18x z22x = some (z10x, z14x) ∧ Sl 35 [] [(1, .int .i64 x_tick), (8, .pointer (some ⟨z9b, 0, none⟩)), (9, .slice z19A z20m z21n)] a ∧ HS W0 [own e_i64 3 z19A z20m z21n z18x, bx z9b 56 [.slice z23A z24m z25n], own e_api_Timer 32 z23A z24m z25n z22x, isH X] w) _ ⟨([] : List Int), z5t, none, 0, 0, z6A, z5t.length, z8n, H, S0.sub ⟨rfl, rfl, rfl, trivial⟩, Hq⟩ ?_
      clear H Hq S0
      rintro k0 a w ⟨z18x, z22x, z19A, z20m, z21n, z23A, z24m, z25n, H, S0, Hq⟩
      cases k0 with
      | zero => simp [timer_Due.l0] at H
      | succ k0 =>
        refine ⟨k0, rfl, ?_⟩
        rw [timer_Due.l0] at H
        obtain rfl := own_len [] Hq
        obtain rfl := own_len [_, _] Hq
        refine w_seq ?_
        refine w_seq ?_
        obtain ⟨z26x, H, HU2⟩ := Option.bind_eq_some_iff.mp H
        refine w_cutT (fun a w => Sl 35 [] [(1, .int .i64 x_tick), (8, .pointer (some ⟨z9b, 0, none⟩)), (9, .slice z19A z18x.length z21n), (27, .bool z26x)] a ∧ HS W0 [own e_i64 3 z19A z18x.length z21n z18x, bx z9b 56 [.slice z23A z22x.length z25n], own e_api_Timer 32 z23A z22x.length z25n z22x, isH X] w) ?_ ?_
        · skip
          refine w_region ?_
          refine r_ldS [_] S0 Hq rfl ti56 _ rfl rfl ?_
          clear S0; intro a0 S0
          refine r_len S0 rfl sl56 rfl ?_
          clear S0; intro a0 S0
          refine r_pures [_, _] S0 rfl ?_
          clear S0; intro a0 S0
          by_cases z27h : 0 < (z22x.length : Int)
          · replace H := (if_pos z27h).symm.trans H
            refine r_on S0 rfl rfl rfl (decide_eq_true z27h) ?_
            refine r_ldS [_] S0 Hq rfl ti56 _ rfl rfl ?_
            clear S0; intro a0 S0
            refine r_on S0 rfl rfl rfl (decide_eq_true z27h) ?_
            obtain ⟨z28g, rfl⟩ := own_at [_, _] Hq (by omega)
            refine r_index S0 rfl rfl sl56 ti32 (by decide : (0:Int) ≤ 0) z27h rfl ?_
            clear S0; intro a0 S0
            refine r_on S0 rfl rfl rfl (decide_eq_true z27h) ?_
            refine r_fieldAddr S0 rfl fo32x0 (0 + Int.toNat 0 * 2 + 0) rfl rfl ?_
            clear S0; intro a0 S0
            refine r_on S0 rfl rfl rfl (decide_eq_true z27h) ?_
            refine r_elS S0 (own_rd [_, _] Hq) (by decide : (0:Int) ≤ 0) z27h rfl ti3 _ rfl rfl ?_
            clear S0; intro a0 S0
            refine r_on S0 rfl rfl rfl (decide_eq_true z27h) ?_
            refine r_pures [_] S0 rfl ?_
            clear S0; intro a0 S0
            refine r_on S0 rfl rfl rfl (decide_eq_true z27h) ?_
            refine r_pures [_] S0 rfl ?_
            clear S0; intro a0 S0
            refine r_pick S0 rfl (decide_eq_true z27h) _ rfl rfl ?_
            clear S0; intro a0 S0
            refine wl_nil ?_
            refine nr_then ?_
            obtain rfl := Option.some.inj H
            exact ⟨S0.sub ⟨rfl, rfl, rfl, rfl, trivial⟩, Hq⟩
          · replace H := (if_neg z27h).symm.trans H
            refine r_off S0 rfl rfl rfl (decide_eq_false z27h) ?_ rfl
            clear S0; intro a0 S0
            refine r_off S0 rfl rfl rfl (decide_eq_false z27h) ?_ rfl
            clear S0; intro a0 S0
            refine r_off S0 rfl rfl rfl (decide_eq_false z27h) ?_ rfl
            clear S0; intro a0 S0
            refine r_off S0 rfl rfl rfl (decide_eq_false z27h) ?_ rfl
            clear S0; intro a0 S0
            refine r_off S0 rfl rfl rfl (decide_eq_false z27h) ?_ rfl
            clear S0; intro a0 S0
            refine r_off S0 rfl rfl rfl (decide_eq_false z27h) ?_ rfl
            clear S0; intro a0 S0
            refine r_pick S0 rfl (decide_eq_false z27h) _ rfl rfl ?_
            clear S0; intro a0 S0
            refine wl_nil ?_
            refine nr_then ?_
            obtain rfl := Option.some.inj H
            exact ⟨S0.sub ⟨rfl, rfl, rfl, rfl, trivial⟩, Hq⟩
        · clear S0; rintro a w ⟨S0, Hq⟩
          have H := HU2; clear HU2
          refine nr_then ?_
          by_cases z29h : z26x = true
          · replace H := (if_pos z29h).symm.trans H
            refine w_true S0 rfl z29h ?_
            refine w_skip ?_
            refine nr_then ?_
            refine w_block ?_
            refine w_region ?_
            refine r_pures [_] S0 rfl ?_
            clear S0; intro a0 S0
            replace Hq := HS.pull [_] Hq
            dsimp only [List.cons_append, List.nil_append] at Hq
            replace Hq := HS.pull [_, _] Hq
            dsimp only [List.cons_append, List.nil_append] at Hq
            obtain ⟨Xz30, HXz30, HPz30, HBz30⟩ := call_frame [_, _] Hq
            dsimp only [List.cons_append, List.nil_append] at HXz30 HBz30
            obtain ⟨⟨z31t, z32t⟩, Hc, H⟩ := Option.bind_eq_some_iff.mp H
            dsimp only at H
            refine r_call S0 rfl rfl goes30 rfl ?_
            refine (timer_heap_pop.calls _ _ _ _ _ z22x _ _  HXz30 (z31t, z32t) Hc).mono ?_
            rintro e w ⟨z33A, z34m, z35n, rfl, Hq'⟩
            have Hq : HS W0 [own e_api_Timer 32 z33A z34m z35n z32t, bx z9b 56 [.slice z33A z34m z35n], own e_i64 3 z19A z18x.length z21n z18x, isH X] w := HBz30 [_, _] _ Hq'
            clear HXz30 HPz30 HBz30 Hq'
            obtain rfl := own_len [] Hq
            refine ⟨.agg #[.int .i64 z31t.At, .int .i64 z31t.ID], rfl, ?_⟩; clear S0; intro a0 S0
            refine r_field S0 rfl fp32x1 (.int .i64 z31t.ID) rfl rfl rfl ?_
            clear S0; intro a0 S0
            refine r_lit (e := e_i64) (l := ([z31t.ID] : List Int)) (m := 1) (vs := [.int .i64 z31t.ID]) S0 Hq sl23 ti3 rfl rfl rfl rfl rfl rfl ?_
            clear S0 Hq; intro z36b a0 w S0 Hq
            by_cases z38h : z18x.length + ([z31t.ID] : List Int).length < 17592186044416
            · replace H := (if_pos z38h).symm.trans H
              refine r_app [_, _, _] S0 Hq (own_rd [] Hq) rfl rfl sl23 ti3 rfl z38h rfl rfl ?_
              clear S0 Hq; intro z39A z40n a0 w S0 Hq; dsimp only [List.cons_append, List.nil_append] at Hq
              refine r_pures [_] S0 rfl ?_
              clear S0; intro a0 S0
              refine wl_nil ?_
              refine nr_in ?_
              refine nr_then ?_
              replace Hq := HS.pull [_, _, _, _] Hq
              dsimp only [List.cons_append, List.nil_append] at Hq
              replace Hq := HS.pull [_, _] Hq
              dsimp only [List.cons_append, List.nil_append] at Hq
              replace Hq := HS.pull [_, _, _] Hq
              dsimp only [List.cons_append, List.nil_append] at Hq
              replace Hq := HS.pull [_, _, _, _] Hq
              dsimp only [List.cons_append, List.nil_append] at Hq
              replace Hq := HS.keep [_, _, _, _] Hq
              exact ⟨(z18x ++ ([z31t.ID] : List Int)), z32t, z39A, ((z18x ++ ([z31t.ID] : List Int)).length), z40n, z33A, z32t.length, z35n, H, S0.sub ⟨rfl, rfl, rfl, trivial⟩, Hq⟩
            · replace H := (if_neg z38h).symm.trans H
              exact nomatch H
          · replace H := (if_neg z29h).symm.trans H
            refine w_false S0 rfl (Bool.eq_false_iff.mpr z29h) ?_
            refine w_exit ?_
            refine ex_then ?_
            refine ex_then ?_
            refine ex_in ?_
            refine nr_then ?_
            simp only [Option.some.injEq, Prod.mk.injEq] at H; obtain ⟨rfl, rfl⟩ := H
            exact ⟨z19A, z18x.length, z21n, z23A, z22x.length, z25n, S0.sub ⟨rfl, rfl, trivial⟩, Hq⟩
    · clear S0; rintro a w ⟨z11A, z12m, z13n, z15A, z16m, z17n, S0, Hq⟩
      have H := HU1; clear HU1
      obtain rfl := own_len [] Hq
      obtain rfl := own_len [_, _] Hq
      refine nr_then ?_
      refine w_seq ?_
      refine w_region ?_
      refine r_ldS [_] S0 Hq rfl ti56 _ rfl rfl ?_
      clear S0; intro a0 S0
      refine r_pures [_, _, _, _] S0 rfl ?_
      clear S0; intro a0 S0
      refine wl_nil ?_
      refine nr_then ?_
      refine w_ret ?_
      obtain rfl := Option.some.inj H
      refine ret3 S0 rfl rfl rfl rfl ?_
      replace Hq := HS.pull [_, _, _] Hq
      dsimp only [List.cons_append, List.nil_append] at Hq
      replace Hq := HS.pull [_] Hq
      dsimp only [List.cons_append, List.nil_append] at Hq
      replace Hq := HS.pull [_, _, _] Hq
      dsimp only [List.cons_append, List.nil_append] at Hq
      replace Hq := HS.keep [_, _, _] Hq
      exact ⟨z15A, z14x.length, z17n, z11A, z10x.length, z13n, rfl, Hq⟩
  · replace H := (if_neg z3h).symm.trans H
    refine w_true S0 rfl (congrArg (!·) (decide_eq_false z3h)) ?_
    refine w_seq ?_
    refine w_region ?_
    refine r_pures [_, _, _, _] S0 rfl ?_
    clear S0; intro a0 S0
    refine wl_nil ?_
    refine nr_then ?_
    refine w_ret ?_
    refine ret_then ?_
    obtain rfl := Option.some.inj H
    replace Hq := HS.own_nil e_api_Timer 32 Hq
    replace Hq := HS.own_nil e_i64 3 Hq
    refine ret3 S0 rfl rfl rfl rfl ?_
    replace Hq := HS.pull [_, _] Hq
    dsimp only [List.cons_append, List.nil_append] at Hq
    replace Hq := HS.pull [_] Hq
    dsimp only [List.cons_append, List.nil_append] at Hq
    replace Hq := HS.pull [_, _] Hq
    dsimp only [List.cons_append, List.nil_append] at Hq
    exact ⟨none, 0, 0, none, 0, 0, rfl, Hq⟩

end Go.Proofs.Ytailjeoimlemnaa.M

/- waybill/waybillref20.Own: a plain function, and that the machine's call comes to it: printed by a program of the session's own. -/
set_option linter.unusedVariables false
set_option linter.unusedSimpArgs false
namespace Go.Proofs.Ytailjeoimlemnaa.M
open Go Go.Proofs.Ytailjeoimlemnaa.Sl
/-! ### waybill/waybillref20.Own: function 13 -/
def waybillref20_Own.f (x_l : List api_Timer) : Option (List api_Timer) := if ([] : List api_Timer).length + x_l.length < 8796093022208 then (some (([] : List api_Timer) ++ x_l)) else (none)
set_option maxRecDepth 100000 in
set_option maxHeartbeats 4000000 in
theorem waybillref20_Own.calls (A0 : Option Addr) (n0 c0 : Nat) (x_l : List api_Timer) (W0 : World) (X : Heap) (HR0 : Rd e_api_Timer X A0 n0 c0 x_l) (Hq : HS W0 [isH X] W0) (r : List api_Timer) (H : waybillref20_Own.f x_l = some r) :
    Calls Try.prog 13 #[.slice A0 n0 c0] W0 (fun e w => ∃ Ar0 nr0 cr0, e = .returned (.slice Ar0 nr0 cr0) ∧ HS W0 [own e_api_Timer 32 Ar0 nr0 cr0 r, isH X] w) := by
  obtain rfl := HR0.1
  rw [waybillref20_Own.f] at H
  refine calls_in Try.func13 rfl rfl ?_
  intro a0 S0
  refine w_seq ?_
  refine w_region ?_
  refine r_pures [_] S0 rfl ?_
  clear S0; intro a0 S0
  refine wl_nil ?_
  refine nr_then ?_
  refine w_seq ?_
  refine w_region ?_
  refine r_pures [_] S0 rfl ?_
  clear S0; intro a0 S0
  refine wl_nil ?_
  refine nr_then ?_
  refine w_seq ?_
  refine w_region ?_
  refine r_pures [_, _] S0 rfl ?_
  clear S0; intro a0 S0
  replace Hq := HS.own_nil e_api_Timer 32 Hq
  by_cases z1h : ([] : List api_Timer).length + x_l.length < 8796093022208
  · replace H := (if_pos z1h).symm.trans H
    refine r_app [] S0 Hq (isH_rd [_] Hq HR0) rfl rfl sl22 ti32 rfl z1h rfl rfl ?_
    clear S0 Hq; intro z2A z3n a0 w S0 Hq; dsimp only [List.cons_append, List.nil_append] at Hq
    refine r_pures [_] S0 rfl ?_
    clear S0; intro a0 S0
    refine wl_nil ?_
    refine nr_then ?_
    refine w_ret ?_
    obtain rfl := Option.some.inj H
    refine ret1 S0 rfl rfl ?_
    replace Hq := HS.pull [_] Hq
    dsimp only [List.cons_append, List.nil_append] at Hq
    replace Hq := HS.pull [_] Hq
    dsimp only [List.cons_append, List.nil_append] at Hq
    exact ⟨z2A, ((([] : List api_Timer) ++ x_l).length), z3n, rfl, Hq⟩
  · replace H := (if_neg z1h).symm.trans H
    exact nomatch H

end Go.Proofs.Ytailjeoimlemnaa.M

/- waybill/waybillref20.may: a plain function, and that the machine's call comes to it: printed by a program of the session's own. -/
set_option linter.unusedVariables false
set_option linter.unusedSimpArgs false
namespace Go.Proofs.Ytailjeoimlemnaa.M
open Go Go.Proofs.Ytailjeoimlemnaa.Sl
/-! ### waybill/waybillref20.may: function 34 -/
def waybillref20_may.f (x_t : api_Timer) : Option (Bool) := ((if 0 ≤ x_t.At then (if x_t.At ≤ 1073741824 then (if 0 ≤ x_t.ID then (some (decide (x_t.ID ≤ 1073741824))) else (some false)) else (some false)) else (some false)) : Option (Bool)).bind fun z2x => (some z2x)
set_option maxRecDepth 100000 in
set_option maxHeartbeats 4000000 in
theorem waybillref20_may.calls (x_t : api_Timer) (W0 : World) (X : Heap)  (Hq : HS W0 [isH X] W0) (r : Bool) (H : waybillref20_may.f x_t = some r) :
    Calls Try.prog 34 #[.agg #[.int .i64 x_t.At, .int .i64 x_t.ID]] W0 (fun e w => e = .returned (.bool r) ∧ HS W0 [isH X] w) := by
  rw [waybillref20_may.f] at H
  refine calls_in Try.func34 rfl rfl ?_
  intro a0 S0
  refine w_seq ?_
  refine w_region ?_
  refine r_box (vs := [.int .i64 x_t.At, .int .i64 x_t.ID]) S0 Hq rfl rfl rfl ?_
  clear S0 Hq; intro z1b a0 w S0 Hq
  refine r_pures [_] S0 rfl ?_
  clear S0; intro a0 S0
  refine wl_nil ?_
  refine nr_then ?_
  refine w_seq ?_
  obtain ⟨z2x, H, HU1⟩ := Option.bind_eq_some_iff.mp H
  refine w_cutT (fun a w => Sl 21 [] [(2, .bool z2x)] a ∧ HS W0 [isH X] w) ?_ ?_
  · skip
    refine w_region ?_
    refine r_fieldAddr S0 rfl fo32x0 (0) rfl rfl ?_
    clear S0; intro a0 S0
    refine r_ldS [] S0 Hq rfl ti3 _ rfl rfl ?_
    clear S0; intro a0 S0
    refine r_pures [_, _] S0 rfl ?_
    clear S0; intro a0 S0
    by_cases z3h : 0 ≤ x_t.At
    · replace H := (if_pos z3h).symm.trans H
      refine r_on S0 rfl rfl rfl (decide_eq_true z3h) ?_
      refine r_fieldAddr S0 rfl fo32x0 (0) rfl rfl ?_
      clear S0; intro a0 S0
      refine r_on S0 rfl rfl rfl (decide_eq_true z3h) ?_
      refine r_ldS [] S0 Hq rfl ti3 _ rfl rfl ?_
      clear S0; intro a0 S0
      refine r_on S0 rfl rfl rfl (decide_eq_true z3h) ?_
      refine r_pures [_] S0 rfl ?_
      clear S0; intro a0 S0
      refine r_pick S0 rfl (decide_eq_true z3h) _ rfl rfl ?_
      clear S0; intro a0 S0
      refine r_pures [_] S0 rfl ?_
      clear S0; intro a0 S0
      by_cases z4h : x_t.At ≤ 1073741824
      · replace H := (if_pos z4h).symm.trans H
        refine r_on S0 rfl rfl rfl (decide_eq_true z4h) ?_
        refine r_fieldAddr S0 rfl fo32x1 (1) rfl rfl ?_
        clear S0; intro a0 S0
        refine r_on S0 rfl rfl rfl (decide_eq_true z4h) ?_
        refine r_ldS [] S0 Hq rfl ti3 _ rfl rfl ?_
        clear S0; intro a0 S0
        refine r_on S0 rfl rfl rfl (decide_eq_true z4h) ?_
        refine r_pures [_] S0 rfl ?_
        clear S0; intro a0 S0
        refine r_pick S0 rfl (decide_eq_true z4h) _ rfl rfl ?_
        clear S0; intro a0 S0
        refine r_pures [_] S0 rfl ?_
        clear S0; intro a0 S0
        by_cases z5h : 0 ≤ x_t.ID
        · replace H := (if_pos z5h).symm.trans H
          refine r_on S0 rfl rfl rfl (decide_eq_true z5h) ?_
          refine r_fieldAddr S0 rfl fo32x1 (1) rfl rfl ?_
          clear S0; intro a0 S0
          refine r_on S0 rfl rfl rfl (decide_eq_true z5h) ?_
          refine r_ldS [] S0 Hq rfl ti3 _ rfl rfl ?_
          clear S0; intro a0 S0
          refine r_on S0 rfl rfl rfl (decide_eq_true z5h) ?_
          refine r_pures [_] S0 rfl ?_
          clear S0; intro a0 S0
          refine r_pick S0 rfl (decide_eq_true z5h) _ rfl rfl ?_
          clear S0; intro a0 S0
          refine r_pures [_] S0 rfl ?_
          clear S0; intro a0 S0
          refine wl_nil ?_
          refine nr_then ?_
          replace Hq := HS.pull [_] Hq
          dsimp only [List.cons_append, List.nil_append] at Hq
          replace Hq := HS.keep [_] Hq
          obtain rfl := Option.some.inj H
          exact ⟨S0.sub ⟨rfl, trivial⟩, Hq⟩
        · replace H := (if_neg z5h).symm.trans H
          refine r_off S0 rfl rfl rfl (decide_eq_false z5h) ?_ rfl
          clear S0; intro a0 S0
          refine r_off S0 rfl rfl rfl (decide_eq_false z5h) ?_ rfl
          clear S0; intro a0 S0
          refine r_off S0 rfl rfl rfl (decide_eq_false z5h) ?_ rfl
          clear S0; intro a0 S0
          refine r_pick S0 rfl (decide_eq_false z5h) _ rfl rfl ?_
          clear S0; intro a0 S0
          refine r_pures [_] S0 rfl ?_
          clear S0; intro a0 S0
          refine wl_nil ?_
          refine nr_then ?_
          replace Hq := HS.pull [_] Hq
          dsimp only [List.cons_append, List.nil_append] at Hq
          replace Hq := HS.keep [_] Hq
          obtain rfl := Option.some.inj H
          exact ⟨S0.sub ⟨rfl, trivial⟩, Hq⟩
      · replace H := (if_neg z4h).symm.trans H
        refine r_off S0 rfl rfl rfl (decide_eq_false z4h) ?_ rfl
        clear S0; intro a0 S0
        refine r_off S0 rfl rfl rfl (decide_eq_false z4h) ?_ rfl
        clear S0; intro a0 S0
        refine r_off S0 rfl rfl rfl (decide_eq_false z4h) ?_ rfl
        clear S0; intro a0 S0
        refine r_pick S0 rfl (decide_eq_false z4h) _ rfl rfl ?_
        clear S0; intro a0 S0
        refine r_pures [_] S0 rfl ?_
        clear S0; intro a0 S0
        refine r_off S0 rfl rfl rfl rfl ?_ rfl
        clear S0; intro a0 S0
        refine r_off S0 rfl rfl rfl rfl ?_ rfl
        clear S0; intro a0 S0
        refine r_off S0 rfl rfl rfl rfl ?_ rfl
        clear S0; intro a0 S0
        refine r_pick S0 rfl rfl _ rfl rfl ?_
        clear S0; intro a0 S0
        refine r_pures [_] S0 rfl ?_
        clear S0; intro a0 S0
        refine wl_nil ?_
        refine nr_then ?_
        replace Hq := HS.pull [_] Hq
        dsimp only [List.cons_append, List.nil_append] at Hq
        replace Hq := HS.keep [_] Hq
        obtain rfl := Option.some.inj H
        exact ⟨S0.sub ⟨rfl, trivial⟩, Hq⟩
    · replace H := (if_neg z3h).symm.trans H
      refine r_off S0 rfl rfl rfl (decide_eq_false z3h) ?_ rfl
      clear S0; intro a0 S0
      refine r_off S0 rfl rfl rfl (decide_eq_false z3h) ?_ rfl
      clear S0; intro a0 S0
      refine r_off S0 rfl rfl rfl (decide_eq_false z3h) ?_ rfl
      clear S0; intro a0 S0
      refine r_pick S0 rfl (decide_eq_false z3h) _ rfl rfl ?_
      clear S0; intro a0 S0
      refine r_pures [_] S0 rfl ?_
      clear S0; intro a0 S0
      refine r_off S0 rfl rfl rfl rfl ?_ rfl
      clear S0; intro a0 S0
      refine r_off S0 rfl rfl rfl rfl ?_ rfl
      clear S0; intro a0 S0
      refine r_off S0 rfl rfl rfl rfl ?_ rfl
      clear S0; intro a0 S0
      refine r_pick S0 rfl rfl _ rfl rfl ?_
      clear S0; intro a0 S0
      refine r_pures [_] S0 rfl ?_
      clear S0; intro a0 S0
      refine r_off S0 rfl rfl rfl rfl ?_ rfl
      clear S0; intro a0 S0
      refine r_off S0 rfl rfl rfl rfl ?_ rfl
      clear S0; intro a0 S0
      refine r_off S0 rfl rfl rfl rfl ?_ rfl
      clear S0; intro a0 S0
      refine r_pick S0 rfl rfl _ rfl rfl ?_
      clear S0; intro a0 S0
      refine r_pures [_] S0 rfl ?_
      clear S0; intro a0 S0
      refine wl_nil ?_
      refine nr_then ?_
      replace Hq := HS.pull [_] Hq
      dsimp only [List.cons_append, List.nil_append] at Hq
      replace Hq := HS.keep [_] Hq
      obtain rfl := Option.some.inj H
      exact ⟨S0.sub ⟨rfl, trivial⟩, Hq⟩
  · clear S0; rintro a w ⟨S0, Hq⟩
    have H := HU1; clear HU1
    refine nr_then ?_
    refine w_ret ?_
    obtain rfl := Option.some.inj H
    refine ret1 S0 rfl rfl ?_
    exact ⟨rfl, Hq⟩

end Go.Proofs.Ytailjeoimlemnaa.M

/- waybill/waybillref20.Ahead: a plain function, and that the machine's call comes to it: printed by a program of the session's own. -/
set_option linter.unusedVariables false
set_option linter.unusedSimpArgs false
namespace Go.Proofs.Ytailjeoimlemnaa.M
open Go Go.Proofs.Ytailjeoimlemnaa.Sl
/-! ### waybill/waybillref20.Ahead: function 37 -/
def waybillref20_Ahead.f (x_a : api_Timer) (x_b : api_Timer) : Option (Bool) := ((if x_a.At < x_b.At then (some true) else (if x_a.At = x_b.At then (some (decide (x_a.ID < x_b.ID))) else (some false))) : Option (Bool)).bind fun z3x => (some z3x)
set_option maxRecDepth 100000 in
set_option maxHeartbeats 4000000 in
theorem waybillref20_Ahead.calls (x_a : api_Timer) (x_b : api_Timer) (W0 : World) (X : Heap)  (Hq : HS W0 [isH X] W0) (r : Bool) (H : waybillref20_Ahead.f x_a x_b = some r) :
    Calls Try.prog 37 #[.agg #[.int .i64 x_a.At, .int .i64 x_a.ID], .agg #[.int .i64 x_b.At, .int .i64 x_b.ID]] W0 (fun e w => e = .returned (.bool r) ∧ HS W0 [isH X] w) := by
  rw [waybillref20_Ahead.f] at H
  refine calls_in Try.func37 rfl rfl ?_
  intro a0 S0
  refine w_seq ?_
  refine w_region ?_
  refine r_box (vs := [.int .i64 x_a.At, .int .i64 x_a.ID]) S0 Hq rfl rfl rfl ?_
  clear S0 Hq; intro z1b a0 w S0 Hq
  refine r_box (vs := [.int .i64 x_b.At, .int .i64 x_b.ID]) S0 Hq rfl rfl rfl ?_
  clear S0 Hq; intro z2b a0 w S0 Hq
  refine r_pures [_] S0 rfl ?_
  clear S0; intro a0 S0
  refine wl_nil ?_
  refine nr_then ?_
  refine w_seq ?_
  obtain ⟨z3x, H, HU1⟩ := Option.bind_eq_some_iff.mp H
  refine w_cutT (fun a w => Sl 24 [] [(4, .bool z3x)] a ∧ HS W0 [isH X] w) ?_ ?_
  · skip
    refine w_region ?_
    refine r_fieldAddr S0 rfl fo32x0 (0) rfl rfl ?_
    clear S0; intro a0 S0
    refine r_ldS [_] S0 Hq rfl ti3 _ rfl rfl ?_
    clear S0; intro a0 S0
    refine r_fieldAddr S0 rfl fo32x0 (0) rfl rfl ?_
    clear S0; intro a0 S0
    refine r_ldS [] S0 Hq rfl ti3 _ rfl rfl ?_
    clear S0; intro a0 S0
    refine r_pures [_, _] S0 rfl ?_
    clear S0; intro a0 S0
    by_cases z4h : x_a.At < x_b.At
    · replace H := (if_pos z4h).symm.trans H
      refine r_off S0 rfl rfl rfl (decide_eq_true z4h) ?_ rfl
      clear S0; intro a0 S0
      refine r_off S0 rfl rfl rfl (decide_eq_true z4h) ?_ rfl
      clear S0; intro a0 S0
      refine r_off S0 rfl rfl rfl (decide_eq_true z4h) ?_ rfl
      clear S0; intro a0 S0
      refine r_off S0 rfl rfl rfl (decide_eq_true z4h) ?_ rfl
      clear S0; intro a0 S0
      refine r_off S0 rfl rfl rfl (decide_eq_true z4h) ?_ rfl
      clear S0; intro a0 S0
      refine r_off S0 rfl rfl rfl (decide_eq_true z4h) ?_ rfl
      clear S0; intro a0 S0
      refine r_offU S0 rfl rfl rfl ?_ rfl
      clear S0; intro a0 S0
      refine r_offU S0 rfl rfl rfl ?_ rfl
      clear S0; intro a0 S0
      refine r_offU S0 rfl rfl rfl ?_ rfl
      clear S0; intro a0 S0
      refine r_offU S0 rfl rfl rfl ?_ rfl
      clear S0; intro a0 S0
      refine r_offU S0 rfl rfl rfl ?_ rfl
      clear S0; intro a0 S0
      refine r_off S0 rfl rfl rfl (decide_eq_true z4h) ?_ rfl
      clear S0; intro a0 S0
      refine r_pick S0 rfl (decide_eq_true z4h) _ rfl rfl ?_
      clear S0; intro a0 S0
      refine r_pures [_] S0 rfl ?_
      clear S0; intro a0 S0
      refine wl_nil ?_
      refine nr_then ?_
      replace Hq := HS.pull [_, _] Hq
      dsimp only [List.cons_append, List.nil_append] at Hq
      replace Hq := HS.keep [_] Hq
      obtain rfl := Option.some.inj H
      exact ⟨S0.sub ⟨rfl, trivial⟩, Hq⟩
    · replace H := (if_neg z4h).symm.trans H
      refine r_on S0 rfl rfl rfl (decide_eq_false z4h) ?_
      refine r_fieldAddr S0 rfl fo32x0 (0) rfl rfl ?_
      clear S0; intro a0 S0
      refine r_on S0 rfl rfl rfl (decide_eq_false z4h) ?_
      refine r_ldS [_] S0 Hq rfl ti3 _ rfl rfl ?_
      clear S0; intro a0 S0
      refine r_on S0 rfl rfl rfl (decide_eq_false z4h) ?_
      refine r_fieldAddr S0 rfl fo32x0 (0) rfl rfl ?_
      clear S0; intro a0 S0
      refine r_on S0 rfl rfl rfl (decide_eq_false z4h) ?_
      refine r_ldS [] S0 Hq rfl ti3 _ rfl rfl ?_
      clear S0; intro a0 S0
      refine r_on S0 rfl rfl rfl (decide_eq_false z4h) ?_
      refine r_pures [_] S0 rfl ?_
      clear S0; intro a0 S0
      refine r_on S0 rfl rfl rfl (decide_eq_false z4h) ?_
      refine r_pures [_] S0 rfl ?_
      clear S0; intro a0 S0
      by_cases z5h : x_a.At = x_b.At
      · replace H := (if_pos z5h).symm.trans H
        refine r_on S0 rfl rfl rfl (decide_eq_true z5h) ?_
        refine r_fieldAddr S0 rfl fo32x1 (1) rfl rfl ?_
        clear S0; intro a0 S0
        refine r_on S0 rfl rfl rfl (decide_eq_true z5h) ?_
        refine r_ldS [_] S0 Hq rfl ti3 _ rfl rfl ?_
        clear S0; intro a0 S0
        refine r_on S0 rfl rfl rfl (decide_eq_true z5h) ?_
        refine r_fieldAddr S0 rfl fo32x1 (1) rfl rfl ?_
        clear S0; intro a0 S0
        refine r_on S0 rfl rfl rfl (decide_eq_true z5h) ?_
        refine r_ldS [] S0 Hq rfl ti3 _ rfl rfl ?_
        clear S0; intro a0 S0
        refine r_on S0 rfl rfl rfl (decide_eq_true z5h) ?_
        refine r_pures [_] S0 rfl ?_
        clear S0; intro a0 S0
        refine r_on S0 rfl rfl rfl (decide_eq_false z4h) ?_
        refine r_pick S0 rfl (decide_eq_true z5h) _ rfl rfl ?_
        clear S0; intro a0 S0
        refine r_pick S0 rfl (decide_eq_false z4h) _ rfl rfl ?_
        clear S0; intro a0 S0
        refine r_pures [_] S0 rfl ?_
        clear S0; intro a0 S0
        refine wl_nil ?_
        refine nr_then ?_
        replace Hq := HS.pull [_, _] Hq
        dsimp only [List.cons_append, List.nil_append] at Hq
        replace Hq := HS.keep [_] Hq
        obtain rfl := Option.some.inj H
        exact ⟨S0.sub ⟨rfl, trivial⟩, Hq⟩
      · replace H := (if_neg z5h).symm.trans H
        refine r_off S0 rfl rfl rfl (decide_eq_false z5h) ?_ rfl
        clear S0; intro a0 S0
        refine r_off S0 rfl rfl rfl (decide_eq_false z5h) ?_ rfl
        clear S0; intro a0 S0
        refine r_off S0 rfl rfl rfl (decide_eq_false z5h) ?_ rfl
        clear S0; intro a0 S0
        refine r_off S0 rfl rfl rfl (decide_eq_false z5h) ?_ rfl
        clear S0; intro a0 S0
        refine r_off S0 rfl rfl rfl (decide_eq_false z5h) ?_ rfl
        clear S0; intro a0 S0
        refine r_on S0 rfl rfl rfl (decide_eq_false z4h) ?_
        refine r_pick S0 rfl (decide_eq_false z5h) _ rfl rfl ?_
        clear S0; intro a0 S0
        refine r_pick S0 rfl (decide_eq_false z4h) _ rfl rfl ?_
        clear S0; intro a0 S0
        refine r_pures [_] S0 rfl ?_
        clear S0; intro a0 S0
        refine wl_nil ?_
        refine nr_then ?_
        replace Hq := HS.pull [_, _] Hq
        dsimp only [List.cons_append, List.nil_append] at Hq
        replace Hq := HS.keep [_] Hq
        obtain rfl := Option.some.inj H
        exact ⟨S0.sub ⟨rfl, trivial⟩, Hq⟩
  · clear S0; rintro a w ⟨S0, Hq⟩
    have H := HU1; clear HU1
    refine nr_then ?_
    refine w_ret ?_
    obtain rfl := Option.some.inj H
    refine ret1 S0 rfl rfl ?_
    exact ⟨rfl, Hq⟩

end Go.Proofs.Ytailjeoimlemnaa.M

/- waybill/waybillref20.Check: a plain function, and that the machine's call comes to it: printed by a program of the session's own. -/
set_option linter.unusedVariables false
set_option linter.unusedSimpArgs false
namespace Go.Proofs.Ytailjeoimlemnaa.M
open Go Go.Proofs.Ytailjeoimlemnaa.Sl
/-! ### waybill/waybillref20.Check: function 23 -/
def waybillref20_Check.l2 : Nat → (List api_Timer) → Int → Int → Option (Sum (Int) (Unit))
  | 0, _, _, _ => none
  | k + 1, x_l, z10x, z12x => if z12x < z10x then (if 0 ≤ z10x then (if z10x < (x_l.length : Int) then (if 0 ≤ z12x then (if z12x < (x_l.length : Int) then (if ((rd e_api_Timer x_l z10x).ID) = ((rd e_api_Timer x_l z12x).ID) then (some (Sum.inl 6)) else (waybillref20_Check.l2 k x_l z10x (IntKind.i64.wrap (z12x + 1)))) else (none)) else (none)) else (none)) else (none)) else (some (Sum.inr (())))
def waybillref20_Check.l1 : Nat → (List api_Timer) → Int → Option (Sum (Int) (Unit))
  | 0, _, _ => none
  | k + 1, x_l, z10x => if z10x < (x_l.length : Int) then ((((((waybillref20_Check.l2 k x_l z10x 0)) : Option (Sum (Int) (Unit))).bind fun v_ => (match v_ with | (Sum.inl q_) => some (Sum.inl q_) | (Sum.inr (_)) => some (Sum.inr (())))) : Option (Sum (Int) (Unit))).bind fun v_ => (match v_ with | (Sum.inl q_) => some (Sum.inl q_) | (Sum.inr (_)) => waybillref20_Check.l1 k x_l (IntKind.i64.wrap (z10x + 1)))) else (some (Sum.inr (())))
def waybillref20_Check.l3 : Nat → (List api_Timer) → Int → Option (Sum (Int) (Unit))
  | 0, _, _ => none
  | k + 1, x_l, z30x => if z30x < (x_l.length : Int) then (if 0 ≤ z30x then (if 0 ≤ (IntKind.i64.wrap ((IntKind.i64.wrap (z30x - 1)).tdiv 2)) then (if (IntKind.i64.wrap ((IntKind.i64.wrap (z30x - 1)).tdiv 2)) < (x_l.length : Int) then ((waybillref20_Ahead.f (rd e_api_Timer x_l z30x) (rd e_api_Timer x_l (IntKind.i64.wrap ((IntKind.i64.wrap (z30x - 1)).tdiv 2)))).bind fun z46t => (if z46t = true then (some (Sum.inl 9)) else (waybillref20_Check.l3 k x_l (IntKind.i64.wrap (z30x + 1))))) else (none)) else (none)) else (none)) else (some (Sum.inr (())))
def waybillref20_Check.l0 : Nat → (List api_Timer) → Int → Option (Int)
  | 0, _, _ => none
  | k + 1, x_l, z2x => if z2x < (x_l.length : Int) then (if 0 ≤ z2x then ((waybillref20_may.f (rd e_api_Timer x_l z2x)).bind fun z8t => (if z8t = true then (waybillref20_Check.l0 k x_l (IntKind.i64.wrap (z2x + 1))) else (some 4))) else (none)) else ((((waybillref20_Check.l1 k x_l 0)) : Option (Sum (Int) (Unit))).bind fun v_ => (match v_ with | (Sum.inl q_) => some q_ | (Sum.inr (_)) => (((waybillref20_Check.l3 k x_l 1)) : Option (Sum (Int) (Unit))).bind fun v_ => (match v_ with | (Sum.inl q_) => some q_ | (Sum.inr (_)) => some 0)))
def waybillref20_Check.f (k : Nat) (x_l : List api_Timer) : Option (Int) := if 1024 < (x_l.length : Int) then (some 3) else ((waybillref20_Check.l0 k x_l 0))
set_option maxRecDepth 100000 in
set_option maxHeartbeats 4000000 in
theorem waybillref20_Check.calls (k : Nat) (A0 : Option Addr) (n0 c0 : Nat) (x_l : List api_Timer) (W0 : World) (X : Heap) (HR0 : Rd e_api_Timer X A0 n0 c0 x_l) (Hq : HS W0 [isH X] W0) (r : Int) (H : waybillref20_Check.f k x_l = some r) :
    Calls Try.prog 23 #[.slice A0 n0 c0] W0 (fun e w => e = .returned (.int .i64 r) ∧ HS W0 [isH X] w) := by
  obtain rfl := HR0.1
  rw [waybillref20_Check.f] at H
  refine calls_in Try.func23 rfl rfl ?_
  intro a0 S0
  refine w_seq ?_
  refine w_region ?_
  refine r_pures [_] S0 rfl ?_
  clear S0; intro a0 S0
  refine wl_nil ?_
  refine nr_then ?_
  refine w_seq ?_
  refine w_seq ?_
  refine w_region ?_
  refine r_pures [_] S0 rfl ?_
  clear S0; intro a0 S0
  refine r_len S0 rfl sl22 rfl ?_
  clear S0; intro a0 S0
  refine r_pures [_] S0 rfl ?_
  clear S0; intro a0 S0
  refine wl_nil ?_
  refine nr_then ?_
  by_cases z1h : 1024 < (x_l.length : Int)
  · replace H := (if_pos z1h).symm.trans H
    refine w_true S0 rfl (decide_eq_true z1h) ?_
    refine w_seq ?_
    refine w_region ?_
    refine r_pures [_] S0 rfl ?_
    clear S0; intro a0 S0
    refine wl_nil ?_
    refine nr_then ?_
    refine w_ret ?_
    refine ret_then ?_
    obtain rfl := Option.some.inj H
    refine ret1 S0 rfl rfl ?_
    exact ⟨rfl, Hq⟩
  · replace H := (if_neg z1h).symm.trans H
    refine w_false S0 rfl (decide_eq_false z1h) ?_
    refine w_skip ?_
    refine nr_then ?_
    refine w_seq ?_
    refine w_seq ?_
    refine w_region ?_
    refine r_pures [_] S0 rfl ?_
    clear S0; intro a0 S0
    refine wl_nil ?_
    refine nr_then ?_
    refine w_block ?_
    refine w_loop (fun kq a w => ∃ z2x, waybillref20_Check.l0 kq x_l z2x = some r ∧ Sl 61 [] [(0, .slice A0 x_l.length c0), (3, .int .i64 z2x)] a ∧ HS W0 [isH X] w) _ ⟨0, H, S0.sub ⟨rfl, rfl, trivial⟩, Hq⟩ ?_
    clear H Hq S0
    rintro k0 a w ⟨z2x, H, S0, Hq⟩
    cases k0 with
    | zero => simp [waybillref20_Check.l0] at H
    | succ k0 =>
      refine ⟨k0, rfl, ?_⟩
      rw [waybillref20_Check.l0] at H
      refine w_seq ?_
      refine w_seq ?_
      refine w_region ?_
      refine r_pures [_, _] S0 rfl ?_
      clear S0; intro a0 S0
      refine r_len S0 rfl sl22 rfl ?_
      clear S0; intro a0 S0
      refine r_pures [_] S0 rfl ?_
      clear S0; intro a0 S0
      refine wl_nil ?_
      refine nr_then ?_
      by_cases z3h : z2x < (x_l.length : Int)
      · replace H := (if_pos z3h).symm.trans H
        refine w_true S0 rfl (decide_eq_true z3h) ?_
        refine w_skip ?_
        refine nr_then ?_
        refine w_seq ?_
        refine w_block ?_
        refine w_seq ?_
        refine w_region ?_
        refine r_pures [_, _] S0 rfl ?_
        clear S0; intro a0 S0
        by_cases z4h : 0 ≤ z2x
        · replace H := (if_pos z4h).symm.trans H
          obtain ⟨z5b, z6o, rfl⟩ := (isH_rd [] Hq HR0).at (by omega)
          refine r_index S0 rfl rfl sl22 ti32 z4h z3h rfl ?_
          clear S0; intro a0 S0
          refine r_elA (vs := [.int .i64 ((rd e_api_Timer x_l z2x).At), .int .i64 ((rd e_api_Timer x_l z2x).ID)]) S0 (isH_rd [] Hq HR0) z4h z3h rfl ti32 rfl rfl rfl ?_
          clear S0; intro a0 S0
          obtain ⟨Xz7, HXz7, HPz7, HBz7⟩ := call_frame [] Hq
          dsimp only [List.cons_append, List.nil_append] at HXz7 HBz7
          obtain ⟨z8t, Hc, H⟩ := Option.bind_eq_some_iff.mp H
          refine r_call S0 rfl rfl goes34 rfl ?_
          refine (waybillref20_may.calls (rd e_api_Timer x_l z2x) _ _  HXz7 z8t Hc).mono ?_
          rintro e w ⟨rfl, Hq'⟩
          have Hq : HS W0 [isH X] w := HBz7 [] _ Hq'
          clear HXz7 HPz7 HBz7 Hq'
          refine ⟨.bool z8t, rfl, ?_⟩; clear S0; intro a0 S0
          refine r_pures [_] S0 rfl ?_
          clear S0; intro a0 S0
          refine wl_nil ?_
          refine nr_then ?_
          by_cases z9h : z8t = true
          · replace H := (if_pos z9h).symm.trans H
            refine w_false S0 rfl (congrArg (!·) z9h) ?_
            refine w_skip ?_
            refine nr_in ?_
            refine nr_then ?_
            refine w_region ?_
            refine r_pures [_, _, _] S0 rfl ?_
            clear S0; intro a0 S0
            refine wl_nil ?_
            refine nr_then ?_
            exact ⟨(IntKind.i64.wrap (z2x + 1)), H, S0.sub ⟨rfl, rfl, trivial⟩, Hq⟩
          · replace H := (if_neg z9h).symm.trans H
            refine w_true S0 rfl (congrArg (!·) (Bool.eq_false_iff.mpr z9h)) ?_
            refine w_seq ?_
            refine w_region ?_
            refine r_pures [_] S0 rfl ?_
            clear S0; intro a0 S0
            refine wl_nil ?_
            refine nr_then ?_
            refine w_ret ?_
            refine ret_in ?_
            refine ret_then ?_
            refine ret_then ?_
            refine ret_in ?_
            refine ret_then ?_
            obtain rfl := Option.some.inj H
            refine ret1 S0 rfl rfl ?_
            exact ⟨rfl, Hq⟩
        · replace H := (if_neg z4h).symm.trans H
          exact nomatch H
      · replace H := (if_neg z3h).symm.trans H
        refine w_false S0 rfl (decide_eq_false z3h) ?_
        refine w_exit ?_
        refine ex_then ?_
        refine ex_then ?_
        refine ex_in ?_
        refine nr_then ?_
        refine w_seq ?_
        refine w_seq ?_
        refine w_region ?_
        refine r_pures [_] S0 rfl ?_
        clear S0; intro a0 S0
        refine wl_nil ?_
        refine nr_then ?_
        obtain ⟨v1, H, HU1⟩ := Option.bind_eq_some_iff.mp H
        refine w_cutT (fun a w => v1 = (Sum.inr (())) ∧ Sl 61 [] [(0, .slice A0 x_l.length c0)] a ∧ HS W0 [isH X] w) ?_ ?_
        · skip
          refine w_block ?_
          refine w_loop (fun kq a w => ∃ z10x, waybillref20_Check.l1 kq x_l z10x = some v1 ∧ Sl 61 [] [(0, .slice A0 x_l.length c0), (4, .int .i64 z10x)] a ∧ HS W0 [isH X] w) _ ⟨0, H, S0.sub ⟨rfl, rfl, trivial⟩, Hq⟩ ?_
          clear H Hq S0
          rintro k1 a w ⟨z10x, H, S0, Hq⟩
          cases k1 with
          | zero => simp [waybillref20_Check.l1] at H
          | succ k1 =>
            refine ⟨k1, rfl, ?_⟩
            rw [waybillref20_Check.l1] at H
            refine w_seq ?_
            refine w_seq ?_
            refine w_region ?_
            refine r_pures [_, _] S0 rfl ?_
            clear S0; intro a0 S0
            refine r_len S0 rfl sl22 rfl ?_
            clear S0; intro a0 S0
            refine r_pures [_] S0 rfl ?_
            clear S0; intro a0 S0
            refine wl_nil ?_
            refine nr_then ?_
            by_cases z11h : z10x < (x_l.length : Int)
            · replace H := (if_pos z11h).symm.trans H
              refine w_true S0 rfl (decide_eq_true z11h) ?_
              refine w_skip ?_
              refine nr_then ?_
              refine w_seq ?_
              obtain ⟨v2, H, HU2⟩ := Option.bind_eq_some_iff.mp H
              refine w_cutT (fun a w => v2 = (Sum.inr (())) ∧ Sl 61 [] [(0, .slice A0 x_l.length c0), (4, .int .i64 z10x)] a ∧ HS W0 [isH X] w) ?_ ?_
              · skip
                refine w_block ?_
                refine w_seq ?_
                refine w_region ?_
                refine r_pures [_] S0 rfl ?_
                clear S0; intro a0 S0
                refine wl_nil ?_
                refine nr_then ?_
                obtain ⟨v3, H, HU3⟩ := Option.bind_eq_some_iff.mp H
                refine w_cutT (fun a w => v3 = (Sum.inr (())) ∧ Sl 61 [] [(0, .slice A0 x_l.length c0), (4, .int .i64 z10x)] a ∧ HS W0 [isH X] w) ?_ ?_
                · skip
                  refine w_block ?_
                  refine w_loop (fun kq a w => ∃ z12x, waybillref20_Check.l2 kq x_l z10x z12x = some v3 ∧ Sl 61 [] [(0, .slice A0 x_l.length c0), (4, .int .i64 z10x), (5, .int .i64 z12x)] a ∧ HS W0 [isH X] w) _ ⟨0, H, S0.sub ⟨rfl, rfl, rfl, trivial⟩, Hq⟩ ?_
                  clear H Hq S0
                  rintro k2 a w ⟨z12x, H, S0, Hq⟩
                  cases k2 with
                  | zero => simp [waybillref20_Check.l2] at H
                  | succ k2 =>
                    refine ⟨k2, rfl, ?_⟩
                    rw [waybillref20_Check.l2] at H
                    refine w_seq ?_
                    refine w_seq ?_
                    refine w_region ?_
                    refine r_pures [_, _, _] S0 rfl ?_
                    clear S0; intro a0 S0
                    refine wl_nil ?_
                    refine nr_then ?_
                    by_cases z13h : z12x < z10x
                    · replace H := (if_pos z13h).symm.trans H
                      refine w_true S0 rfl (decide_eq_true z13h) ?_
                      refine w_skip ?_
                      refine nr_then ?_
                      refine w_seq ?_
                      refine w_block ?_
                      refine w_seq ?_
                      refine w_draw TryM.mixed (.pu 0 (.pu 1 (.pu 2 (.pu 3 (.pu 5 (.pu 6 (.pu 7 (.pu 8 (.rd 4 (.rd 9 (.pu 10 .done))))))))))) (by kernel_rfl) rfl ?_
                      replace Hq := Hq.drew
                      refine st_pures [0, 1] S0 rfl ?_
                      intro az14q Sz14q
                      by_cases z15h : 0 ≤ z10x
                      · replace H := (if_pos z15h).symm.trans H
                        by_cases z16h : z10x < (x_l.length : Int)
                        · replace H := (if_pos z16h).symm.trans H
                          obtain ⟨z17b, z18o, rfl⟩ := (isH_rd [] Hq HR0).at (by omega)
                          refine st_pu Sz14q rfl (g_none rfl) rfl rfl (fun _ => y_index Sz14q rfl rfl sl22 ti32 z15h z16h) ?_
                          intro az19q Sz19q
                          refine st_pu Sz19q rfl (g_none rfl) rfl rfl (fun _ => y_fieldAddr Sz19q rfl fo32x1 (z18o + Int.toNat z10x * 2 + 1) rfl) ?_
                          intro az20q Sz20q
                          refine st_pures [5, 6] Sz20q rfl ?_
                          intro az21q Sz21q
                          by_cases z22h : 0 ≤ z12x
                          · replace H := (if_pos z22h).symm.trans H
                            by_cases z23h : z12x < (x_l.length : Int)
                            · replace H := (if_pos z23h).symm.trans H
                              refine st_pu Sz21q rfl (g_none rfl) rfl rfl (fun _ => y_index Sz21q rfl rfl sl22 ti32 z22h z23h) ?_
                              intro az24q Sz24q
                              refine st_pu Sz24q rfl (g_none rfl) rfl rfl (fun _ => y_fieldAddr Sz24q rfl fo32x1 (z18o + Int.toNat z12x * 2 + 1) rfl) ?_
                              intro az25q Sz25q
                              refine st_rd Sz25q rfl (g_none rfl) rfl rfl (y_elS Sz25q (isH_rd [] Hq HR0) z15h z16h rfl ti3 _ rfl) ?_
                              intro az26q Sz26q
                              refine st_rd Sz26q rfl (g_none rfl) rfl rfl (y_elS Sz26q (isH_rd [] Hq HR0) z22h z23h rfl ti3 _ rfl) ?_
                              intro az27q Sz27q
                              refine st_pures [10] Sz27q rfl ?_
                              intro az28q Sz28q
                              refine st_nil ?_
                              replace S0 := Sz28q
                              refine nr_then ?_
                              by_cases z29h : ((rd e_api_Timer x_l z10x).ID) = ((rd e_api_Timer x_l z12x).ID)
                              · replace H := (if_pos z29h).symm.trans H
                                refine w_true S0 rfl (decide_eq_true z29h) ?_
                                refine w_seq ?_
                                refine w_region ?_
                                refine r_pures [_] S0 rfl ?_
                                clear S0; intro a0 S0
                                refine wl_nil ?_
                                refine nr_then ?_
                                refine w_ret ?_
                                refine ret_in ?_
                                refine ret_then ?_
                                refine ret_then ?_
                                refine ret_in ?_
                                refine ret_then ?_
                                obtain rfl := Option.some.inj H
                                have H := HU3; clear HU3; dsimp only at H
                                refine ret_in ?_
                                refine ret_then ?_
                                obtain rfl := Option.some.inj H
                                have H := HU2; clear HU2; dsimp only at H
                                refine ret_then ?_
                                refine ret_then ?_
                                refine ret_in ?_
                                refine ret_then ?_
                                obtain rfl := Option.some.inj H
                                have H := HU1; clear HU1; dsimp only at H
                                refine ret_then ?_
                                obtain rfl := Option.some.inj H
                                refine ret1 S0 rfl rfl ?_
                                exact ⟨rfl, Hq⟩
                              · replace H := (if_neg z29h).symm.trans H
                                refine w_false S0 rfl (decide_eq_false z29h) ?_
                                refine w_skip ?_
                                refine nr_in ?_
                                refine nr_then ?_
                                refine w_region ?_
                                refine r_pures [_, _, _] S0 rfl ?_
                                clear S0; intro a0 S0
                                refine wl_nil ?_
                                refine nr_then ?_
                                exact ⟨(IntKind.i64.wrap (z12x + 1)), H, S0.sub ⟨rfl, rfl, rfl, trivial⟩, Hq⟩
                            · replace H := (if_neg z23h).symm.trans H
                              exact nomatch H
                          · replace H := (if_neg z22h).symm.trans H
                            exact nomatch H
                        · replace H := (if_neg z16h).symm.trans H
                          exact nomatch H
                      · replace H := (if_neg z15h).symm.trans H
                        exact nomatch H
                    · replace H := (if_neg z13h).symm.trans H
                      refine w_false S0 rfl (decide_eq_false z13h) ?_
                      refine w_exit ?_
                      refine ex_then ?_
                      refine ex_then ?_
                      refine ex_in ?_
                      refine nr_then ?_
                      obtain rfl := Option.some.inj H
                      exact ⟨rfl, S0.sub ⟨rfl, rfl, trivial⟩, Hq⟩
                · clear S0; rintro a w ⟨rfl, S0, Hq⟩
                  have H := HU3; clear HU3; dsimp only at H
                  refine nr_in ?_
                  refine nr_then ?_
                  obtain rfl := Option.some.inj H
                  exact ⟨rfl, S0.sub ⟨rfl, rfl, trivial⟩, Hq⟩
              · clear S0; rintro a w ⟨rfl, S0, Hq⟩
                have H := HU2; clear HU2; dsimp only at H
                refine nr_then ?_
                refine w_region ?_
                refine r_pures [_, _, _] S0 rfl ?_
                clear S0; intro a0 S0
                refine wl_nil ?_
                refine nr_then ?_
                exact ⟨(IntKind.i64.wrap (z10x + 1)), H, S0.sub ⟨rfl, rfl, trivial⟩, Hq⟩
            · replace H := (if_neg z11h).symm.trans H
              refine w_false S0 rfl (decide_eq_false z11h) ?_
              refine w_exit ?_
              refine ex_then ?_
              refine ex_then ?_
              refine ex_in ?_
              refine nr_then ?_
              obtain rfl := Option.some.inj H
              exact ⟨rfl, S0.sub ⟨rfl, trivial⟩, Hq⟩
        · clear S0; rintro a w ⟨rfl, S0, Hq⟩
          have H := HU1; clear HU1; dsimp only at H
          refine nr_then ?_
          refine w_seq ?_
          refine w_seq ?_
          refine w_region ?_
          refine r_pures [_] S0 rfl ?_
          clear S0; intro a0 S0
          refine wl_nil ?_
          refine nr_then ?_
          obtain ⟨v4, H, HU4⟩ := Option.bind_eq_some_iff.mp H
          refine w_cutT (fun a w => v4 = (Sum.inr (())) ∧ Sl 61 [] [] a ∧ HS W0 [isH X] w) ?_ ?_
          · skip
            refine w_block ?_
            refine w_loop (fun kq a w => ∃ z30x, waybillref20_Check.l3 kq x_l z30x = some v4 ∧ Sl 61 [] [(0, .slice A0 x_l.length c0), (6, .int .i64 z30x)] a ∧ HS W0 [isH X] w) _ ⟨1, H, S0.sub ⟨rfl, rfl, trivial⟩, Hq⟩ ?_
            clear H Hq S0
            rintro k3 a w ⟨z30x, H, S0, Hq⟩
            cases k3 with
            | zero => simp [waybillref20_Check.l3] at H
            | succ k3 =>
              refine ⟨k3, rfl, ?_⟩
              rw [waybillref20_Check.l3] at H
              refine w_seq ?_
              refine w_seq ?_
              refine w_region ?_
              refine r_pures [_, _] S0 rfl ?_
              clear S0; intro a0 S0
              refine r_len S0 rfl sl22 rfl ?_
              clear S0; intro a0 S0
              refine r_pures [_] S0 rfl ?_
              clear S0; intro a0 S0
              refine wl_nil ?_
              refine nr_then ?_
              by_cases z31h : z30x < (x_l.length : Int)
              · replace H := (if_pos z31h).symm.trans H
                refine w_true S0 rfl (decide_eq_true z31h) ?_
                refine w_skip ?_
                refine nr_then ?_
                refine w_seq ?_
                refine w_block ?_
                refine w_seq ?_
                refine w_draw TryM.mixed (.pu 0 (.pu 1 (.pu 2 (.pu 4 (.pu 5 (.pu 6 (.pu 7 (.pu 8 (.rd 3 (.rd 9 (.ds 10 .done))))))))))) (by kernel_rfl) rfl ?_
                replace Hq := Hq.drew
                refine st_pures [0, 1] S0 rfl ?_
                intro az32q Sz32q
                by_cases z33h : 0 ≤ z30x
                · replace H := (if_pos z33h).symm.trans H
                  obtain ⟨z34b, z35o, rfl⟩ := (isH_rd [] Hq HR0).at (by omega)
                  refine st_pu Sz32q rfl (g_none rfl) rfl rfl (fun _ => y_index Sz32q rfl rfl sl22 ti32 z33h z31h) ?_
                  intro az36q Sz36q
                  refine st_pures [4, 5, 6] Sz36q rfl ?_
                  intro az37q Sz37q
                  refine st_pu Sz37q rfl (g_none rfl) rfl rfl (fun _ => y_quo Sz37q rfl rfl (by decide)) ?_
                  intro az38q Sz38q
                  by_cases z39h : 0 ≤ (IntKind.i64.wrap ((IntKind.i64.wrap (z30x - 1)).tdiv 2))
                  · replace H := (if_pos z39h).symm.trans H
                    by_cases z40h : (IntKind.i64.wrap ((IntKind.i64.wrap (z30x - 1)).tdiv 2)) < (x_l.length : Int)
                    · replace H := (if_pos z40h).symm.trans H
                      refine st_pu Sz38q rfl (g_none rfl) rfl rfl (fun _ => y_index Sz38q rfl rfl sl22 ti32 z39h z40h) ?_
                      intro az41q Sz41q
                      refine st_rd Sz41q rfl (g_none rfl) rfl rfl (y_elA (vs := [.int .i64 ((rd e_api_Timer x_l z30x).At), .int .i64 ((rd e_api_Timer x_l z30x).ID)]) Sz41q (isH_rd [] Hq HR0) z33h z31h rfl ti32 rfl rfl) ?_
                      intro az42q Sz42q
                      refine st_rd Sz42q rfl (g_none rfl) rfl rfl (y_elA (vs := [.int .i64 ((rd e_api_Timer x_l (IntKind.i64.wrap ((IntKind.i64.wrap (z30x - 1)).tdiv 2))).At), .int .i64 ((rd e_api_Timer x_l (IntKind.i64.wrap ((IntKind.i64.wrap (z30x - 1)).tdiv 2))).ID)]) Sz42q (isH_rd [] Hq HR0) z39h z40h rfl ti32 rfl rfl) ?_
                      intro az43q Sz43q
                      refine st_ds rfl ?_
                      have Sz44q := Sz43q
                      obtain ⟨Xz45, HXz45, HPz45, HBz45⟩ := call_frame [] Hq
                      dsimp only [List.cons_append, List.nil_append] at HXz45 HBz45
                      obtain ⟨z46t, Hc, H⟩ := Option.bind_eq_some_iff.mp H
                      refine r_call Sz44q rfl rfl goes37 rfl ?_
                      refine (waybillref20_Ahead.calls (rd e_api_Timer x_l z30x) (rd e_api_Timer x_l (IntKind.i64.wrap ((IntKind.i64.wrap (z30x - 1)).tdiv 2))) _ _  HXz45 z46t Hc).mono ?_
                      rintro e w ⟨rfl, Hq'⟩
                      have Hq : HS W0 [isH X] w := HBz45 [] _ Hq'
                      clear HXz45 HPz45 HBz45 Hq'
                      refine ⟨.bool z46t, rfl, ?_⟩; clear Sz44q; intro az43q Sz44q
                      refine wl_nil ?_
                      refine nr_then ?_
                      refine st_nil ?_
                      replace S0 := Sz44q
                      refine nr_then ?_
                      by_cases z47h : z46t = true
                      · replace H := (if_pos z47h).symm.trans H
                        refine w_true S0 rfl z47h ?_
                        refine w_seq ?_
                        refine w_region ?_
                        refine r_pures [_] S0 rfl ?_
                        clear S0; intro a0 S0
                        refine wl_nil ?_
                        refine nr_then ?_
                        refine w_ret ?_
                        refine ret_in ?_
                        refine ret_then ?_
                        refine ret_then ?_
                        refine ret_in ?_
                        refine ret_then ?_
                        obtain rfl := Option.some.inj H
                        have H := HU4; clear HU4; dsimp only at H
                        refine ret_then ?_
                        obtain rfl := Option.some.inj H
                        refine ret1 S0 rfl rfl ?_
                        exact ⟨rfl, Hq⟩
                      · replace H := (if_neg z47h).symm.trans H
                        refine w_false S0 rfl (Bool.eq_false_iff.mpr z47h) ?_
                        refine w_skip ?_
                        refine nr_in ?_
                        refine nr_then ?_
                        refine w_region ?_
                        refine r_pures [_, _, _] S0 rfl ?_
                        clear S0; intro a0 S0
                        refine wl_nil ?_
                        refine nr_then ?_
                        exact ⟨(IntKind.i64.wrap (z30x + 1)), H, S0.sub ⟨rfl, rfl, trivial⟩, Hq⟩
                    · replace H := (if_neg z40h).symm.trans H
                      exact nomatch H
                  · replace H := (if_neg z39h).symm.trans H
                    exact nomatch H
                · replace H := (if_neg z33h).symm.trans H
                  exact nomatch H
              · replace H := (if_neg z31h).symm.trans H
                refine w_false S0 rfl (decide_eq_false z31h) ?_
                refine w_exit ?_
                refine ex_then ?_
                refine ex_then ?_
                refine ex_in ?_
                refine nr_then ?_
                obtain rfl := Option.some.inj H
                exact ⟨rfl, S0.sub trivial, Hq⟩
          · clear S0; rintro a w ⟨rfl, S0, Hq⟩
            have H := HU4; clear HU4; dsimp only at H
            refine nr_then ?_
            refine w_seq ?_
            refine w_region ?_
            refine r_pures [_] S0 rfl ?_
            clear S0; intro a0 S0
            refine wl_nil ?_
            refine nr_then ?_
            refine w_ret ?_
            obtain rfl := Option.some.inj H
            refine ret1 S0 rfl rfl ?_
            exact ⟨rfl, Hq⟩

end Go.Proofs.Ytailjeoimlemnaa.M

/- waybill/waybillref20.put: a plain function, and that the machine's call comes to it: printed by a program of the session's own. -/
set_option linter.unusedVariables false
set_option linter.unusedSimpArgs false
namespace Go.Proofs.Ytailjeoimlemnaa.M
open Go Go.Proofs.Ytailjeoimlemnaa.Sl
/-! ### waybill/waybillref20.put: function 35 -/
def waybillref20_put.l0 : Nat → (List api_Timer) → api_Timer → Int → (List api_Timer) → Option ((List api_Timer))
  | 0, _, _, _, _ => none
  | k + 1, x_l, x_t, z8x, z9x => ((if 0 < z8x then (if 0 ≤ z8x then (if z8x < ((x_l ++ ([x_t] : List api_Timer)).length : Int) then (if 0 ≤ (IntKind.i64.wrap ((IntKind.i64.wrap (z8x - 1)).tdiv 2)) then (if (IntKind.i64.wrap ((IntKind.i64.wrap (z8x - 1)).tdiv 2)) < ((x_l ++ ([x_t] : List api_Timer)).length : Int) then ((waybillref20_Ahead.f (rd e_api_Timer z9x z8x) (rd e_api_Timer z9x (IntKind.i64.wrap ((IntKind.i64.wrap (z8x - 1)).tdiv 2)))).bind fun z30t => (some z30t)) else (none)) else (none)) else (none)) else (none)) else (some false)) : Option (Bool)).bind fun z10x => (if z10x = true then (if 0 ≤ (IntKind.i64.wrap ((IntKind.i64.wrap (z8x - 1)).tdiv 2)) then (if (IntKind.i64.wrap ((IntKind.i64.wrap (z8x - 1)).tdiv 2)) < ((x_l ++ ([x_t] : List api_Timer)).length : Int) then (if 0 ≤ z8x then (if z8x < ((x_l ++ ([x_t] : List api_Timer)).length : Int) then (waybillref20_put.l0 k x_l x_t (IntKind.i64.wrap ((IntKind.i64.wrap (z8x - 1)).tdiv 2)) ((z9x.set (Int.toNat z8x) (rd e_api_Timer z9x (IntKind.i64.wrap ((IntKind.i64.wrap (z8x - 1)).tdiv 2)))).set (Int.toNat (IntKind.i64.wrap ((IntKind.i64.wrap (z8x - 1)).tdiv 2))) (rd e_api_Timer z9x z8x))) else (none)) else (none)) else (none)) else (none)) else (some z9x))
def waybillref20_put.f (k : Nat) (x_l : List api_Timer) (x_t : api_Timer) : Option (List api_Timer) := if x_l.length + ([x_t] : List api_Timer).length < 8796093022208 then ((((waybillref20_put.l0 k x_l x_t (IntKind.i64.wrap (((x_l ++ ([x_t] : List api_Timer)).length : Int) - 1)) (x_l ++ ([x_t] : List api_Timer)))) : Option ((List api_Timer))).bind fun z7x => (some z7x)) else (none)
set_option maxRecDepth 100000 in
set_option maxHeartbeats 4000000 in
theorem waybillref20_put.calls (k : Nat) (A0 : Option Addr) (n0 c0 : Nat) (x_l : List api_Timer) (x_t : api_Timer) (W0 : World) (X : Heap)  (Hq : HS W0 [own e_api_Timer 32 A0 n0 c0 x_l, isH X] W0) (r : List api_Timer) (H : waybillref20_put.f k x_l x_t = some r) :
    Calls Try.prog 35 #[.slice A0 n0 c0, .agg #[.int .i64 x_t.At, .int .i64 x_t.ID]] W0 (fun e w => ∃ Ar0 nr0 cr0, e = .returned (.slice Ar0 nr0 cr0) ∧ HS W0 [own e_api_Timer 32 Ar0 nr0 cr0 r, isH X] w) := by
  obtain rfl := own_len [] Hq
  rw [waybillref20_put.f] at H
  refine calls_in Try.func35 rfl rfl ?_
  intro a0 S0
  refine w_seq ?_
  refine w_region ?_
  refine r_box (vs := [.int .i64 x_t.At, .int .i64 x_t.ID]) S0 Hq rfl rfl rfl ?_
  clear S0 Hq; intro z1b a0 w S0 Hq
  refine r_pures [_] S0 rfl ?_
  clear S0; intro a0 S0
  refine wl_nil ?_
  refine nr_then ?_
  refine w_seq ?_
  refine w_region ?_
  refine r_pures [_] S0 rfl ?_
  clear S0; intro a0 S0
  refine r_ldA [] S0 Hq rfl ti32 [.int .i64 x_t.At, .int .i64 x_t.ID] rfl rfl rfl ?_
  clear S0; intro a0 S0
  refine r_lit (e := e_api_Timer) (l := ([x_t] : List api_Timer)) (m := 1) (vs := [.agg #[.int .i64 x_t.At, .int .i64 x_t.ID]]) S0 Hq sl22 ti32 rfl rfl rfl rfl rfl rfl ?_
  clear S0 Hq; intro z2b a0 w S0 Hq
  by_cases z4h : x_l.length + ([x_t] : List api_Timer).length < 8796093022208
  · replace H := (if_pos z4h).symm.trans H
    refine r_app [_, _] S0 Hq (own_rd [] Hq) rfl rfl sl22 ti32 rfl z4h rfl rfl ?_
    clear S0 Hq; intro z5A z6n a0 w S0 Hq; dsimp only [List.cons_append, List.nil_append] at Hq
    refine r_pures [_] S0 rfl ?_
    clear S0; intro a0 S0
    refine wl_nil ?_
    refine nr_then ?_
    refine w_seq ?_
    refine w_seq ?_
    refine w_region ?_
    refine r_pures [_] S0 rfl ?_
    clear S0; intro a0 S0
    refine r_len S0 rfl sl22 rfl ?_
    clear S0; intro a0 S0
    refine r_pures [_, _] S0 rfl ?_
    clear S0; intro a0 S0
    refine wl_nil ?_
    refine nr_then ?_
    obtain ⟨z7x, H, HU1⟩ := Option.bind_eq_some_iff.mp H
    refine w_cutT (fun a w => Sl 50 [] [(0, .slice z5A ((x_l ++ ([x_t] : List api_Timer)).length) z6n)] a ∧ HS W0 [own e_api_Timer 32 z5A ((x_l ++ ([x_t] : List api_Timer)).length) z6n z7x, isH X] w) ?_ ?_
    · skip
      refine w_block ?_
      replace Hq := HS.pull [_, _, _] Hq
      dsimp only [List.cons_append, List.nil_append] at Hq
      replace Hq := HS.pull [_, _, _] Hq
      dsimp only [List.cons_append, List.nil_append] at Hq
      replace Hq := HS.keep [_, _] Hq
      refine w_loop (fun kq a w => ∃ z8x z9x, waybillref20_put.l0 kq x_l x_t z8x z9x = some z7x ∧ Sl 50 [] [(0, .slice z5A ((x_l ++ ([x_t] : List api_Timer)).length) z6n), (5, .int .i64 z8x)] a ∧ HS W0 [own e_api_Timer 32 z5A ((x_l ++ ([x_t] : List api_Timer)).length) z6n z9x, isH X] w) _ ⟨(IntKind.i64.wrap (((x_l ++ ([x_t] : List api_Timer)).length : Int) - 1)), (x_l ++ ([x_t] : List api_Timer)), H, S0.sub ⟨rfl, rfl, trivial⟩, Hq⟩ ?_
      clear H Hq S0
      rintro k0 a w ⟨z8x, z9x, H, S0, Hq⟩
      cases k0 with
      | zero => simp [waybillref20_put.l0] at H
      | succ k0 =>
        refine ⟨k0, rfl, ?_⟩
        rw [waybillref20_put.l0] at H
        refine w_seq ?_
        refine w_seq ?_
        obtain ⟨z10x, H, HU2⟩ := Option.bind_eq_some_iff.mp H
        refine w_cutT (fun a w => Sl 50 [] [(0, .slice z5A ((x_l ++ ([x_t] : List api_Timer)).length) z6n), (5, .int .i64 z8x), (27, .bool z10x)] a ∧ HS W0 [own e_api_Timer 32 z5A ((x_l ++ ([x_t] : List api_Timer)).length) z6n z9x, isH X] w) ?_ ?_
        · skip
          refine w_draw TryM.mixed (.pu 0 (.pu 1 (.pu 2 (.pu 3 (.pu 4 (.pu 5 (.pu 7 (.pu 8 (.pu 9 (.pu 10 (.pu 11 (.rd 6 (.rd 12 (.ds 13 (.pu 14 .done))))))))))))))) (by kernel_rfl) rfl ?_
          replace Hq := Hq.drew
          refine st_pures [0, 1, 2] S0 rfl ?_
          intro az11q Sz11q
          by_cases z12h : 0 < z8x
          · replace H := (if_pos z12h).symm.trans H
            refine st_pu Sz11q rfl (g_on Sz11q rfl rfl rfl rfl (decide_eq_true z12h)) rfl rfl (fun _ => y_of Sz11q _ rfl) ?_
            intro az13q Sz13q
            refine st_pu Sz13q rfl (g_on Sz13q rfl rfl rfl rfl (decide_eq_true z12h)) rfl rfl (fun _ => y_of Sz13q _ rfl) ?_
            intro az14q Sz14q
            by_cases z15h : 0 ≤ z8x
            · replace H := (if_pos z15h).symm.trans H
              by_cases z16h : z8x < ((x_l ++ ([x_t] : List api_Timer)).length : Int)
              · replace H := (if_pos z16h).symm.trans H
                obtain ⟨z17g, rfl⟩ := own_at [] Hq (by omega)
                refine st_pu Sz14q rfl (g_on Sz14q rfl rfl rfl rfl (decide_eq_true z12h)) rfl rfl (fun _ => y_index Sz14q rfl rfl sl22 ti32 z15h z16h) ?_
                intro az18q Sz18q
                refine st_pu Sz18q rfl (g_on Sz18q rfl rfl rfl rfl (decide_eq_true z12h)) rfl rfl (fun _ => y_of Sz18q _ rfl) ?_
                intro az19q Sz19q
                refine st_pu Sz19q rfl (g_on Sz19q rfl rfl rfl rfl (decide_eq_true z12h)) rfl rfl (fun _ => y_of Sz19q _ rfl) ?_
                intro az20q Sz20q
                refine st_pu Sz20q rfl (g_on Sz20q rfl rfl rfl rfl (decide_eq_true z12h)) rfl rfl (fun _ => y_of Sz20q _ rfl) ?_
                intro az21q Sz21q
                refine st_pu Sz21q rfl (g_on Sz21q rfl rfl rfl rfl (decide_eq_true z12h)) rfl rfl (fun _ => y_quo Sz21q rfl rfl (by decide)) ?_
                intro az22q Sz22q
                by_cases z23h : 0 ≤ (IntKind.i64.wrap ((IntKind.i64.wrap (z8x - 1)).tdiv 2))
                · replace H := (if_pos z23h).symm.trans H
                  by_cases z24h : (IntKind.i64.wrap ((IntKind.i64.wrap (z8x - 1)).tdiv 2)) < ((x_l ++ ([x_t] : List api_Timer)).length : Int)
                  · replace H := (if_pos z24h).symm.trans H
                    refine st_pu Sz22q rfl (g_on Sz22q rfl rfl rfl rfl (decide_eq_true z12h)) rfl rfl (fun _ => y_index Sz22q rfl rfl sl22 ti32 z23h z24h) ?_
                    intro az25q Sz25q
                    refine st_rd Sz25q rfl (g_on Sz25q rfl rfl rfl rfl (decide_eq_true z12h)) rfl rfl (y_elA (vs := [.int .i64 ((rd e_api_Timer z9x z8x).At), .int .i64 ((rd e_api_Timer z9x z8x).ID)]) Sz25q (own_rd [] Hq) z15h z16h rfl ti32 rfl rfl) ?_
                    intro az26q Sz26q
                    refine st_rd Sz26q rfl (g_on Sz26q rfl rfl rfl rfl (decide_eq_true z12h)) rfl rfl (y_elA (vs := [.int .i64 ((rd e_api_Timer z9x (IntKind.i64.wrap ((IntKind.i64.wrap (z8x - 1)).tdiv 2))).At), .int .i64 ((rd e_api_Timer z9x (IntKind.i64.wrap ((IntKind.i64.wrap (z8x - 1)).tdiv 2))).ID)]) Sz26q (own_rd [] Hq) z23h z24h rfl ti32 rfl rfl) ?_
                    intro az27q Sz27q
                    refine st_ds rfl ?_
                    refine r_on Sz27q rfl rfl rfl (decide_eq_true z12h) ?_
                    have Sz28q := Sz27q
                    obtain ⟨Xz29, HXz29, HPz29, HBz29⟩ := call_frame [] Hq
                    dsimp only [List.cons_append, List.nil_append] at HXz29 HBz29
                    obtain ⟨z30t, Hc, H⟩ := Option.bind_eq_some_iff.mp H
                    refine r_call Sz28q rfl rfl goes37 rfl ?_
                    refine (waybillref20_Ahead.calls (rd e_api_Timer z9x z8x) (rd e_api_Timer z9x (IntKind.i64.wrap ((IntKind.i64.wrap (z8x - 1)).tdiv 2))) _ _  HXz29 z30t Hc).mono ?_
                    rintro e w ⟨rfl, Hq'⟩
                    have Hq : HS W0 [own e_api_Timer 32 (some ⟨z17g, 0, none⟩) ((x_l ++ ([x_t] : List api_Timer)).length) z6n z9x, isH X] w := HBz29 [] _ Hq'
                    clear HXz29 HPz29 HBz29 Hq'
                    refine ⟨.bool z30t, rfl, ?_⟩; clear Sz28q; intro az27q Sz28q
                    refine wl_nil ?_
                    refine nr_then ?_
                    refine st_pu Sz28q rfl (g_none rfl) rfl rfl (fun _ => y_pick Sz28q rfl (decide_eq_true z12h) _ rfl) ?_
                    intro az31q Sz31q
                    refine st_nil ?_
                    replace S0 := Sz31q
                    refine nr_then ?_
                    obtain rfl := Option.some.inj H
                    exact ⟨S0.sub ⟨rfl, rfl, rfl, trivial⟩, Hq⟩
                  · replace H := (if_neg z24h).symm.trans H
                    exact nomatch H
                · replace H := (if_neg z23h).symm.trans H
                  exact nomatch H
              · replace H := (if_neg z16h).symm.trans H
                exact nomatch H
            · replace H := (if_neg z15h).symm.trans H
              exact nomatch H
          · replace H := (if_neg z12h).symm.trans H
            refine st_puOff Sz11q rfl (g_off Sz11q rfl rfl rfl rfl (decide_eq_false z12h)) rfl rfl ?_
            intro az32q Sz32q
            refine st_puOff Sz32q rfl (g_off Sz32q rfl rfl rfl rfl (decide_eq_false z12h)) rfl rfl ?_
            intro az33q Sz33q
            refine st_puOff Sz33q rfl (g_off Sz33q rfl rfl rfl rfl (decide_eq_false z12h)) rfl rfl ?_
            intro az34q Sz34q
            refine st_puOff Sz34q rfl (g_off Sz34q rfl rfl rfl rfl (decide_eq_false z12h)) rfl rfl ?_
            intro az35q Sz35q
            refine st_puOff Sz35q rfl (g_off Sz35q rfl rfl rfl rfl (decide_eq_false z12h)) rfl rfl ?_
            intro az36q Sz36q
            refine st_puOff Sz36q rfl (g_off Sz36q rfl rfl rfl rfl (decide_eq_false z12h)) rfl rfl ?_
            intro az37q Sz37q
            refine st_puOff Sz37q rfl (g_off Sz37q rfl rfl rfl rfl (decide_eq_false z12h)) rfl rfl ?_
            intro az38q Sz38q
            refine st_puOff Sz38q rfl (g_off Sz38q rfl rfl rfl rfl (decide_eq_false z12h)) rfl rfl ?_
            intro az39q Sz39q
            refine st_rdOff Sz39q rfl (g_off Sz39q rfl rfl rfl rfl (decide_eq_false z12h)) rfl rfl ?_
            intro az40q Sz40q
            refine st_rdOff Sz40q rfl (g_off Sz40q rfl rfl rfl rfl (decide_eq_false z12h)) rfl rfl ?_
            intro az41q Sz41q
            refine st_ds rfl ?_
            refine r_off Sz41q rfl rfl rfl (decide_eq_false z12h) ?_ rfl
            intro az42q Sz42q
            refine wl_nil ?_
            refine nr_then ?_
            refine st_pu Sz42q rfl (g_none rfl) rfl rfl (fun _ => y_pick Sz42q rfl (decide_eq_false z12h) _ rfl) ?_
            intro az43q Sz43q
            refine st_nil ?_
            replace S0 := Sz43q
            refine nr_then ?_
            obtain rfl := Option.some.inj H
            exact ⟨S0.sub ⟨rfl, rfl, rfl, trivial⟩, Hq⟩
        · clear S0; rintro a w ⟨S0, Hq⟩
          have H := HU2; clear HU2
          refine nr_then ?_
          by_cases z44h : z10x = true
          · replace H := (if_pos z44h).symm.trans H
            refine w_true S0 rfl z44h ?_
            refine w_skip ?_
            refine nr_then ?_
            refine w_seq ?_
            refine w_block ?_
            refine w_draw TryM.mixed (.pu 0 (.pu 1 (.pu 2 (.pu 3 (.pu 4 (.pu 5 (.pu 6 (.pu 7 (.pu 8 (.pu 9 (.pu 10 (.pu 12 (.pu 13 (.pu 14 (.rd 11 (.rd 15 (.pu 16 (.ds 17 (.pu 18 (.ds 19 .done)))))))))))))))))))) (by kernel_rfl) rfl ?_
            replace Hq := Hq.drew
            refine st_pures [0, 1, 2, 3, 4] S0 rfl ?_
            intro az45q Sz45q
            refine st_pu Sz45q rfl (g_none rfl) rfl rfl (fun _ => y_quo Sz45q rfl rfl (by decide)) ?_
            intro az46q Sz46q
            refine st_pures [6, 7, 8] Sz46q rfl ?_
            intro az47q Sz47q
            refine st_pu Sz47q rfl (g_none rfl) rfl rfl (fun _ => y_quo Sz47q rfl rfl (by decide)) ?_
            intro az48q Sz48q
            by_cases z49h : 0 ≤ (IntKind.i64.wrap ((IntKind.i64.wrap (z8x - 1)).tdiv 2))
            · replace H := (if_pos z49h).symm.trans H
              by_cases z50h : (IntKind.i64.wrap ((IntKind.i64.wrap (z8x - 1)).tdiv 2)) < ((x_l ++ ([x_t] : List api_Timer)).length : Int)
              · replace H := (if_pos z50h).symm.trans H
                obtain ⟨z51g, rfl⟩ := own_at [] Hq (by omega)
                refine st_pu Sz48q rfl (g_none rfl) rfl rfl (fun _ => y_index Sz48q rfl rfl sl22 ti32 z49h z50h) ?_
                intro az52q Sz52q
                refine st_pures [12, 13] Sz52q rfl ?_
                intro az53q Sz53q
                by_cases z54h : 0 ≤ z8x
                · replace H := (if_pos z54h).symm.trans H
                  by_cases z55h : z8x < ((x_l ++ ([x_t] : List api_Timer)).length : Int)
                  · replace H := (if_pos z55h).symm.trans H
                    refine st_pu Sz53q rfl (g_none rfl) rfl rfl (fun _ => y_index Sz53q rfl rfl sl22 ti32 z54h z55h) ?_
                    intro az56q Sz56q
                    refine st_rd Sz56q rfl (g_none rfl) rfl rfl (y_elA (vs := [.int .i64 ((rd e_api_Timer z9x (IntKind.i64.wrap ((IntKind.i64.wrap (z8x - 1)).tdiv 2))).At), .int .i64 ((rd e_api_Timer z9x (IntKind.i64.wrap ((IntKind.i64.wrap (z8x - 1)).tdiv 2))).ID)]) Sz56q (own_rd [] Hq) z49h z50h rfl ti32 rfl rfl) ?_
                    intro az57q Sz57q
                    refine st_rd Sz57q rfl (g_none rfl) rfl rfl (y_elA (vs := [.int .i64 ((rd e_api_Timer z9x z8x).At), .int .i64 ((rd e_api_Timer z9x z8x).ID)]) Sz57q (own_rd [] Hq) z54h z55h rfl ti32 rfl rfl) ?_
                    intro az58q Sz58q
                    refine st_pu Sz58q rfl (g_none rfl) rfl rfl (fun _ => y_index Sz58q rfl rfl sl22 ti32 z54h z55h) ?_
                    intro az59q Sz59q
                    refine st_ds rfl ?_
                    have Sz60q := Sz59q
                    refine r_elst [] Sz60q Hq z54h z55h rfl rfl ti32 [.int .i64 ((rd e_api_Timer z9x (IntKind.i64.wrap ((IntKind.i64.wrap (z8x - 1)).tdiv 2))).At), .int .i64 ((rd e_api_Timer z9x (IntKind.i64.wrap ((IntKind.i64.wrap (z8x - 1)).tdiv 2))).ID)] rfl rfl rfl rfl (rd e_api_Timer z9x (IntKind.i64.wrap ((IntKind.i64.wrap (z8x - 1)).tdiv 2))) rfl ?_
                    clear Hq; intro w Hq; dsimp only [List.cons_append, List.nil_append] at Hq
                    refine wl_nil ?_
                    refine nr_then ?_
                    refine st_pu Sz60q rfl (g_none rfl) rfl rfl (fun _ => y_index Sz60q rfl rfl sl22 ti32 z49h z50h) ?_
                    intro az61q Sz61q
                    refine st_ds rfl ?_
                    have Sz62q := Sz61q
                    refine r_elst [] Sz62q Hq z49h z50h rfl rfl ti32 [.int .i64 ((rd e_api_Timer z9x z8x).At), .int .i64 ((rd e_api_Timer z9x z8x).ID)] rfl rfl rfl rfl (rd e_api_Timer z9x z8x) rfl ?_
                    clear Hq; intro w Hq; dsimp only [List.cons_append, List.nil_append] at Hq
                    refine wl_nil ?_
                    refine nr_then ?_
                    refine st_nil ?_
                    replace S0 := Sz62q
                    refine nr_in ?_
                    refine nr_then ?_
                    refine w_region ?_
                    refine r_pures [_, _] S0 rfl ?_
                    clear S0; intro a0 S0
                    refine r_quo S0 rfl rfl (by decide) rfl ?_
                    clear S0; intro a0 S0
                    refine r_pures [_] S0 rfl ?_
                    clear S0; intro a0 S0
                    refine wl_nil ?_
                    refine nr_then ?_
                    exact ⟨(IntKind.i64.wrap ((IntKind.i64.wrap (z8x - 1)).tdiv 2)), ((z9x.set (Int.toNat z8x) (rd e_api_Timer z9x (IntKind.i64.wrap ((IntKind.i64.wrap (z8x - 1)).tdiv 2)))).set (Int.toNat (IntKind.i64.wrap ((IntKind.i64.wrap (z8x - 1)).tdiv 2))) (rd e_api_Timer z9x z8x)), H, S0.sub ⟨rfl, rfl, trivial⟩, Hq⟩
                  · replace H := (if_neg z55h).symm.trans H
                    exact nomatch H
                · replace H := (if_neg z54h).symm.trans H
                  exact nomatch H
              · replace H := (if_neg z50h).symm.trans H
                exact nomatch H
            · replace H := (if_neg z49h).symm.trans H
              exact nomatch H
          · replace H := (if_neg z44h).symm.trans H
            refine w_false S0 rfl (Bool.eq_false_iff.mpr z44h) ?_
            refine w_exit ?_
            refine ex_then ?_
            refine ex_then ?_
            refine ex_in ?_
            refine nr_then ?_
            obtain rfl := Option.some.inj H
            exact ⟨S0.sub ⟨rfl, trivial⟩, Hq⟩
    · clear S0; rintro a w ⟨S0, Hq⟩
      have H := HU1; clear HU1
      refine nr_then ?_
      refine w_seq ?_
      refine w_region ?_
      refine r_pures [_, _] S0 rfl ?_
      clear S0; intro a0 S0
      refine wl_nil ?_
      refine nr_then ?_
      refine w_ret ?_
      obtain rfl := Option.some.inj H
      refine ret1 S0 rfl rfl ?_
      replace Hq := HS.pull [_] Hq
      dsimp only [List.cons_append, List.nil_append] at Hq
      replace Hq := HS.pull [_] Hq
      dsimp only [List.cons_append, List.nil_append] at Hq
      exact ⟨z5A, ((x_l ++ ([x_t] : List api_Timer)).length), z6n, rfl, Hq⟩
  · replace H := (if_neg z4h).symm.trans H
    exact nomatch H

end Go.Proofs.Ytailjeoimlemnaa.M

