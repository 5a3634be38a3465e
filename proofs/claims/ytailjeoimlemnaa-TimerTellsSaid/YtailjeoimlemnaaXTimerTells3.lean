/- The law TimerTells of the seat Ytailjeoimlemnaa: whatever the input, the call ends, answers true, and what came in reads as it did. This text is part 3 of 4, joined out of the session's texts. -/
import Derived.Test.YtailjeoimlemnaaXTimerTells2
/- waybill/waybillref20.Add: a plain function, and that the machine's call comes to it: printed by a program of the session's own. -/
set_option linter.unusedVariables false
set_option linter.unusedSimpArgs false
namespace Go.Proofs.Ytailjeoimlemnaa.M
open Go Go.Proofs.Ytailjeoimlemnaa.Sl
/-! ### waybill/waybillref20.Add: function 15 -/
def waybillref20_Add.l1 : Nat → (List api_Timer) → Int → (List api_Timer) → Int → Option (Sum ((List api_Timer) × Int) (Unit))
  | 0, _, _, _, _ => none
  | k + 1, x_more, z9x, z10x, z26x => if z26x < (z10x.length : Int) then (if 0 ≤ z26x then (if 0 ≤ z9x then (if z9x < (x_more.length : Int) then (if ((rd e_api_Timer z10x z26x).ID) = ((rd e_api_Timer x_more z9x).ID) then (some (Sum.inl (([] : List api_Timer), 6))) else (waybillref20_Add.l1 k x_more z9x z10x (IntKind.i64.wrap (z26x + 1)))) else (none)) else (none)) else (none)) else (some (Sum.inr (())))
def waybillref20_Add.l0 : Nat → (List api_Timer) → Int → (List api_Timer) → Option ((List api_Timer) × Int)
  | 0, _, _, _ => none
  | k + 1, x_more, z9x, z10x => if z9x < (x_more.length : Int) then (((if (z10x.length : Int) = 1024 then (some (Sum.inl (([] : List api_Timer), 3))) else (if 0 ≤ z9x then ((waybillref20_may.f (rd e_api_Timer x_more z9x)).bind fun z24t => (if z24t = true then ((((waybillref20_Add.l1 k x_more z9x z10x 0)) : Option (Sum ((List api_Timer) × Int) (Unit))).bind fun v_ => (match v_ with | (Sum.inl q_) => some (Sum.inl q_) | (Sum.inr (_)) => (waybillref20_put.f k z10x (rd e_api_Timer x_more z9x)).bind fun z43t => (some (Sum.inr (z43t))))) else (some (Sum.inl (([] : List api_Timer), 4))))) else (none))) : Option (Sum ((List api_Timer) × Int) ((List api_Timer)))).bind fun v_ => (match v_ with | (Sum.inl q_) => some q_ | (Sum.inr (z15x)) => waybillref20_Add.l0 k x_more (IntKind.i64.wrap (z9x + 1)) z15x)) else (some (z10x, 0))
def waybillref20_Add.f (k : Nat) (x_l : List api_Timer) (x_more : List api_Timer) : Option ((List api_Timer) × Int) := (waybillref20_Check.f k x_l).bind fun z2t => (if z2t = 0 then ((waybillref20_Own.f x_l).bind fun z5t => ((waybillref20_Add.l0 k x_more 0 z5t))) else (some (([] : List api_Timer), z2t)))
set_option maxRecDepth 100000 in
set_option maxHeartbeats 4000000 in
theorem waybillref20_Add.calls (k : Nat) (A0 : Option Addr) (n0 c0 : Nat) (x_l : List api_Timer) (A1 : Option Addr) (n1 c1 : Nat) (x_more : List api_Timer) (W0 : World) (X : Heap) (HR0 : Rd e_api_Timer X A0 n0 c0 x_l) (HR1 : Rd e_api_Timer X A1 n1 c1 x_more) (Hq : HS W0 [isH X] W0) (r : (List api_Timer) × Int) (H : waybillref20_Add.f k x_l x_more = some r) :
    Calls Try.prog 15 #[.slice A0 n0 c0, .slice A1 n1 c1] W0 (fun e w => ∃ Ar0 nr0 cr0, e = .returned (.tuple #[.slice Ar0 nr0 cr0, .int .i64 r.2]) ∧ HS W0 [own e_api_Timer 32 Ar0 nr0 cr0 r.1, isH X] w) := by
  obtain rfl := HR0.1
  obtain rfl := HR1.1
  rw [waybillref20_Add.f] at H
  refine calls_in Try.func15 rfl rfl ?_
  intro a0 S0
  refine w_seq ?_
  refine w_region ?_
  refine r_pures [_, _] S0 rfl ?_
  clear S0; intro a0 S0
  refine wl_nil ?_
  refine nr_then ?_
  refine w_seq ?_
  refine w_region ?_
  refine r_pures [_] S0 rfl ?_
  clear S0; intro a0 S0
  obtain ⟨Xz1, HXz1, HPz1, HBz1⟩ := call_frame [] Hq
  dsimp only [List.cons_append, List.nil_append] at HXz1 HBz1
  obtain ⟨z2t, Hc, H⟩ := Option.bind_eq_some_iff.mp H
  refine r_call S0 rfl rfl goes23 rfl ?_
  refine (waybillref20_Check.calls _ _ _ _ x_l _ _ (sl_isH_rd [] HPz1 HR0) HXz1 z2t Hc).mono ?_
  rintro e w ⟨rfl, Hq'⟩
  have Hq : HS W0 [isH X] w := HBz1 [] _ Hq'
  clear HXz1 HPz1 HBz1 Hq'
  refine ⟨.int .i64 z2t, rfl, ?_⟩; clear S0; intro a0 S0
  refine r_pures [_] S0 rfl ?_
  clear S0; intro a0 S0
  refine wl_nil ?_
  refine nr_then ?_
  refine w_seq ?_
  refine w_seq ?_
  refine w_region ?_
  refine r_pures [_, _] S0 rfl ?_
  clear S0; intro a0 S0
  refine wl_nil ?_
  refine nr_then ?_
  by_cases z3h : z2t = 0
  · replace H := (if_pos z3h).symm.trans H
    refine w_false S0 rfl (congrArg (!·) (decide_eq_true z3h)) ?_
    refine w_skip ?_
    refine nr_then ?_
    refine w_seq ?_
    refine w_region ?_
    refine r_pures [_] S0 rfl ?_
    clear S0; intro a0 S0
    obtain ⟨Xz4, HXz4, HPz4, HBz4⟩ := call_frame [] Hq
    dsimp only [List.cons_append, List.nil_append] at HXz4 HBz4
    obtain ⟨z5t, Hc, H⟩ := Option.bind_eq_some_iff.mp H
    refine r_call S0 rfl rfl goes13 rfl ?_
    refine (waybillref20_Own.calls _ _ _ x_l _ _ (sl_isH_rd [] HPz4 HR0) HXz4 z5t Hc).mono ?_
    rintro e w ⟨z6A, z7m, z8n, rfl, Hq'⟩
    have Hq : HS W0 [own e_api_Timer 32 z6A z7m z8n z5t, isH X] w := HBz4 [_] _ Hq'
    clear HXz4 HPz4 HBz4 Hq'
    obtain rfl := own_len [] Hq
    refine ⟨.slice z6A z5t.length z8n, rfl, ?_⟩; clear S0; intro a0 S0
    refine r_pures [_] S0 rfl ?_
    clear S0; intro a0 S0
    refine wl_nil ?_
    refine nr_then ?_
    refine w_seq ?_
    refine w_seq ?_
    refine w_region ?_
    refine r_pures [_] S0 rfl ?_
    clear S0; intro a0 S0
    refine wl_nil ?_
    refine nr_then ?_
    refine w_block ?_
    refine w_loop (fun kq a w => ∃ z9x z10x z11A z12m z13n, waybillref20_Add.l0 kq x_more z9x z10x = some r ∧ Sl 58 [] [(1, .slice A1 x_more.length c1), (7, .slice z11A z12m z13n), (8, .int .i64 z9x)] a ∧ HS W0 [own e_api_Timer 32 z11A z12m z13n z10x, isH X] w) _ ⟨0, z5t, z6A, z5t.length, z8n, H, S0.sub ⟨rfl, rfl, rfl, trivial⟩, Hq⟩ ?_
    clear H Hq S0
    rintro k0 a w ⟨z9x, z10x, z11A, z12m, z13n, H, S0, Hq⟩
    cases k0 with
    | zero => simp [waybillref20_Add.l0] at H
    | succ k0 =>
      refine ⟨k0, rfl, ?_⟩
      rw [waybillref20_Add.l0] at H
      obtain rfl := own_len [] Hq
      refine w_seq ?_
      refine w_seq ?_
      refine w_region ?_
      refine r_pures [_, _] S0 rfl ?_
      clear S0; intro a0 S0
      refine r_len S0 rfl sl22 rfl ?_
      clear S0; intro a0 S0
      refine r_pures [_] S0 rfl ?_
      clear S0; intro a0 S0
      refine wl_nil ?_
      refine nr_then ?_
      by_cases z14h : z9x < (x_more.length : Int)
      · replace H := (if_pos z14h).symm.trans H
        refine w_true S0 rfl (decide_eq_true z14h) ?_
        refine w_skip ?_
        refine nr_then ?_
        refine w_seq ?_
        obtain ⟨v1, H, HU1⟩ := Option.bind_eq_some_iff.mp H
        refine w_cutT (fun a w => ∃ z15x z16A z17m z18n, v1 = (Sum.inr (z15x)) ∧ Sl 58 [] [(1, .slice A1 x_more.length c1), (7, .slice z16A z17m z18n), (8, .int .i64 z9x)] a ∧ HS W0 [own e_api_Timer 32 z16A z17m z18n z15x, isH X] w) ?_ ?_
        · skip
          refine w_block ?_
          refine w_seq ?_
          refine w_block ?_
          refine w_seq ?_
          refine w_region ?_
          refine r_pures [_] S0 rfl ?_
          clear S0; intro a0 S0
          refine r_len S0 rfl sl22 rfl ?_
          clear S0; intro a0 S0
          refine r_pures [_, _] S0 rfl ?_
          clear S0; intro a0 S0
          refine wl_nil ?_
          refine nr_then ?_
          by_cases z19h : (z10x.length : Int) = 1024
          · replace H := (if_pos z19h).symm.trans H
            refine w_true S0 rfl (decide_eq_true z19h) ?_
            refine w_seq ?_
            refine w_region ?_
            refine r_pures [_, _] S0 rfl ?_
            clear S0; intro a0 S0
            refine wl_nil ?_
            refine nr_then ?_
            refine w_ret ?_
            refine ret_in ?_
            refine ret_then ?_
            refine ret_in ?_
            refine ret_then ?_
            obtain rfl := Option.some.inj H
            have H := HU1; clear HU1; dsimp only at H
            refine ret_then ?_
            refine ret_then ?_
            refine ret_in ?_
            refine ret_then ?_
            obtain rfl := Option.some.inj H
            replace Hq := HS.own_nil e_api_Timer 32 Hq
            refine ret2 S0 rfl rfl rfl ?_
            replace Hq := HS.pull [_, _] Hq
            dsimp only [List.cons_append, List.nil_append] at Hq
            replace Hq := HS.pull [_] Hq
            dsimp only [List.cons_append, List.nil_append] at Hq
            replace Hq := HS.keep [_, _] Hq
            exact ⟨none, 0, 0, rfl, Hq⟩
          · replace H := (if_neg z19h).symm.trans H
            refine w_false S0 rfl (decide_eq_false z19h) ?_
            refine w_seq ?_
            refine w_region ?_
            refine r_pures [_, _] S0 rfl ?_
            clear S0; intro a0 S0
            by_cases z20h : 0 ≤ z9x
            · replace H := (if_pos z20h).symm.trans H
              obtain ⟨z21b, z22o, rfl⟩ := (isH_rd [_] Hq HR1).at (by omega)
              refine r_index S0 rfl rfl sl22 ti32 z20h z14h rfl ?_
              clear S0; intro a0 S0
              refine r_elA (vs := [.int .i64 ((rd e_api_Timer x_more z9x).At), .int .i64 ((rd e_api_Timer x_more z9x).ID)]) S0 (isH_rd [_] Hq HR1) z20h z14h rfl ti32 rfl rfl rfl ?_
              clear S0; intro a0 S0
              obtain ⟨Xz23, HXz23, HPz23, HBz23⟩ := call_frame [] Hq
              dsimp only [List.cons_append, List.nil_append] at HXz23 HBz23
              obtain ⟨z24t, Hc, H⟩ := Option.bind_eq_some_iff.mp H
              refine r_call S0 rfl rfl goes34 rfl ?_
              refine (waybillref20_may.calls (rd e_api_Timer x_more z9x) _ _  HXz23 z24t Hc).mono ?_
              rintro e w ⟨rfl, Hq'⟩
              have Hq : HS W0 [own e_api_Timer 32 z11A z10x.length z13n z10x, isH X] w := HBz23 [] _ Hq'
              clear HXz23 HPz23 HBz23 Hq'
              refine ⟨.bool z24t, rfl, ?_⟩; clear S0; intro a0 S0
              refine r_pures [_, _] S0 rfl ?_
              clear S0; intro a0 S0
              refine wl_nil ?_
              refine nr_then ?_
              by_cases z25h : z24t = true
              · replace H := (if_pos z25h).symm.trans H
                refine w_false S0 rfl (congrArg (!·) z25h) ?_
                refine w_skip ?_
                refine nr_in ?_
                refine nr_then ?_
                refine w_seq ?_
                refine w_seq ?_
                refine w_region ?_
                refine r_pures [_] S0 rfl ?_
                clear S0; intro a0 S0
                refine wl_nil ?_
                refine nr_then ?_
                obtain ⟨v2, H, HU2⟩ := Option.bind_eq_some_iff.mp H
                refine w_cutT (fun a w => v2 = (Sum.inr (())) ∧ Sl 58 [] [(1, .slice (some ⟨z21b, z22o, none⟩) x_more.length c1), (7, .slice z11A z10x.length z13n), (8, .int .i64 z9x)] a ∧ HS W0 [own e_api_Timer 32 z11A z10x.length z13n z10x, isH X] w) ?_ ?_
                · skip
                  refine w_block ?_
                  refine w_loop (fun kq a w => ∃ z26x, waybillref20_Add.l1 kq x_more z9x z10x z26x = some v2 ∧ Sl 58 [] [(1, .slice (some ⟨z21b, z22o, none⟩) x_more.length c1), (7, .slice z11A z10x.length z13n), (8, .int .i64 z9x), (9, .int .i64 z26x)] a ∧ HS W0 [own e_api_Timer 32 z11A z10x.length z13n z10x, isH X] w) _ ⟨0, H, S0.sub ⟨rfl, rfl, rfl, rfl, trivial⟩, Hq⟩ ?_
                  clear H Hq S0
                  rintro k1 a w ⟨z26x, H, S0, Hq⟩
                  cases k1 with
                  | zero => simp [waybillref20_Add.l1] at H
                  | succ k1 =>
                    refine ⟨k1, rfl, ?_⟩
                    rw [waybillref20_Add.l1] at H
                    refine w_seq ?_
                    refine w_seq ?_
                    refine w_region ?_
                    refine r_pures [_, _] S0 rfl ?_
                    clear S0; intro a0 S0
                    refine r_len S0 rfl sl22 rfl ?_
                    clear S0; intro a0 S0
                    refine r_pures [_] S0 rfl ?_
                    clear S0; intro a0 S0
                    refine wl_nil ?_
                    refine nr_then ?_
                    by_cases z27h : z26x < (z10x.length : Int)
                    · replace H := (if_pos z27h).symm.trans H
                      refine w_true S0 rfl (decide_eq_true z27h) ?_
                      refine w_skip ?_
                      refine nr_then ?_
                      refine w_seq ?_
                      refine w_block ?_
                      refine w_seq ?_
                      refine w_draw TryM.mixed (.pu 0 (.pu 1 (.pu 2 (.pu 3 (.pu 5 (.pu 6 (.pu 7 (.pu 8 (.rd 4 (.rd 9 (.pu 10 .done))))))))))) (by kernel_rfl) rfl ?_
                      replace Hq := Hq.drew
                      refine st_pures [0, 1] S0 rfl ?_
                      intro az28q Sz28q
                      by_cases z29h : 0 ≤ z26x
                      · replace H := (if_pos z29h).symm.trans H
                        obtain ⟨z30g, rfl⟩ := own_at [] Hq (by omega)
                        refine st_pu Sz28q rfl (g_none rfl) rfl rfl (fun _ => y_index Sz28q rfl rfl sl22 ti32 z29h z27h) ?_
                        intro az31q Sz31q
                        refine st_pu Sz31q rfl (g_none rfl) rfl rfl (fun _ => y_fieldAddr Sz31q rfl fo32x1 (0 + Int.toNat z26x * 2 + 1) rfl) ?_
                        intro az32q Sz32q
                        refine st_pures [5, 6] Sz32q rfl ?_
                        intro az33q Sz33q
                        by_cases z34h : 0 ≤ z9x
                        · replace H := (if_pos z34h).symm.trans H
                          by_cases z35h : z9x < (x_more.length : Int)
                          · replace H := (if_pos z35h).symm.trans H
                            refine st_pu Sz33q rfl (g_none rfl) rfl rfl (fun _ => y_index Sz33q rfl rfl sl22 ti32 z34h z35h) ?_
                            intro az36q Sz36q
                            refine st_pu Sz36q rfl (g_none rfl) rfl rfl (fun _ => y_fieldAddr Sz36q rfl fo32x1 (z22o + Int.toNat z9x * 2 + 1) rfl) ?_
                            intro az37q Sz37q
                            refine st_rd Sz37q rfl (g_none rfl) rfl rfl (y_elS Sz37q (own_rd [] Hq) z29h z27h rfl ti3 _ rfl) ?_
                            intro az38q Sz38q
                            refine st_rd Sz38q rfl (g_none rfl) rfl rfl (y_elS Sz38q (isH_rd [_] Hq HR1) z34h z35h rfl ti3 _ rfl) ?_
                            intro az39q Sz39q
                            refine st_pures [10] Sz39q rfl ?_
                            intro az40q Sz40q
                            refine st_nil ?_
                            replace S0 := Sz40q
                            refine nr_then ?_
                            by_cases z41h : ((rd e_api_Timer z10x z26x).ID) = ((rd e_api_Timer x_more z9x).ID)
                            · replace H := (if_pos z41h).symm.trans H
                              refine w_true S0 rfl (decide_eq_true z41h) ?_
                              refine w_seq ?_
                              refine w_region ?_
                              refine r_pures [_, _] S0 rfl ?_
                              clear S0; intro a0 S0
                              refine wl_nil ?_
                              refine nr_then ?_
                              refine w_ret ?_
                              refine ret_in ?_
                              refine ret_then ?_
                              refine ret_then ?_
                              refine ret_in ?_
                              refine ret_then ?_
                              obtain rfl := Option.some.inj H
                              have H := HU2; clear HU2; dsimp only at H
                              refine ret_then ?_
                              refine ret_in ?_
                              refine ret_then ?_
                              obtain rfl := Option.some.inj H
                              have H := HU1; clear HU1; dsimp only at H
                              refine ret_then ?_
                              refine ret_then ?_
                              refine ret_in ?_
                              refine ret_then ?_
                              obtain rfl := Option.some.inj H
                              replace Hq := HS.own_nil e_api_Timer 32 Hq
                              refine ret2 S0 rfl rfl rfl ?_
                              replace Hq := HS.pull [_, _] Hq
                              dsimp only [List.cons_append, List.nil_append] at Hq
                              replace Hq := HS.pull [_] Hq
                              dsimp only [List.cons_append, List.nil_append] at Hq
                              replace Hq := HS.keep [_, _] Hq
                              exact ⟨none, 0, 0, rfl, Hq⟩
                            · replace H := (if_neg z41h).symm.trans H
                              refine w_false S0 rfl (decide_eq_false z41h) ?_
                              refine w_skip ?_
                              refine nr_in ?_
                              refine nr_then ?_
                              refine w_region ?_
                              refine r_pures [_, _, _] S0 rfl ?_
                              clear S0; intro a0 S0
                              refine wl_nil ?_
                              refine nr_then ?_
                              exact ⟨(IntKind.i64.wrap (z26x + 1)), H, S0.sub ⟨rfl, rfl, rfl, rfl, trivial⟩, Hq⟩
                          · replace H := (if_neg z35h).symm.trans H
                            exact nomatch H
                        · replace H := (if_neg z34h).symm.trans H
                          exact nomatch H
                      · replace H := (if_neg z29h).symm.trans H
                        exact nomatch H
                    · replace H := (if_neg z27h).symm.trans H
                      refine w_false S0 rfl (decide_eq_false z27h) ?_
                      refine w_exit ?_
                      refine ex_then ?_
                      refine ex_then ?_
                      refine ex_in ?_
                      refine nr_then ?_
                      obtain rfl := Option.some.inj H
                      exact ⟨rfl, S0.sub ⟨rfl, rfl, rfl, trivial⟩, Hq⟩
                · clear S0; rintro a w ⟨rfl, S0, Hq⟩
                  have H := HU2; clear HU2; dsimp only at H
                  refine nr_then ?_
                  refine w_region ?_
                  refine r_pures [_, _, _] S0 rfl ?_
                  clear S0; intro a0 S0
                  refine r_index S0 rfl rfl sl22 ti32 z20h z14h rfl ?_
                  clear S0; intro a0 S0
                  refine r_elA (vs := [.int .i64 ((rd e_api_Timer x_more z9x).At), .int .i64 ((rd e_api_Timer x_more z9x).ID)]) S0 (isH_rd [_] Hq HR1) z20h z14h rfl ti32 rfl rfl rfl ?_
                  clear S0; intro a0 S0
                  obtain ⟨Xz42, HXz42, HPz42, HBz42⟩ := call_frame [_] Hq
                  dsimp only [List.cons_append, List.nil_append] at HXz42 HBz42
                  obtain ⟨z43t, Hc, H⟩ := Option.bind_eq_some_iff.mp H
                  refine r_call S0 rfl rfl goes35 rfl ?_
                  refine (waybillref20_put.calls _ _ _ _ z10x (rd e_api_Timer x_more z9x) _ _  HXz42 z43t Hc).mono ?_
                  rintro e w ⟨z44A, z45m, z46n, rfl, Hq'⟩
                  have Hq : HS W0 [own e_api_Timer 32 z44A z45m z46n z43t, isH X] w := HBz42 [_] _ Hq'
                  clear HXz42 HPz42 HBz42 Hq'
                  obtain rfl := own_len [] Hq
                  refine ⟨.slice z44A z43t.length z46n, rfl, ?_⟩; clear S0; intro a0 S0
                  refine r_pures [_] S0 rfl ?_
                  clear S0; intro a0 S0
                  refine wl_nil ?_
                  refine nr_in ?_
                  refine nr_then ?_
                  obtain rfl := Option.some.inj H
                  exact ⟨z43t, z44A, z43t.length, z46n, rfl, S0.sub ⟨rfl, rfl, rfl, trivial⟩, Hq⟩
              · replace H := (if_neg z25h).symm.trans H
                refine w_true S0 rfl (congrArg (!·) (Bool.eq_false_iff.mpr z25h)) ?_
                refine w_seq ?_
                refine w_region ?_
                refine r_pures [_, _] S0 rfl ?_
                clear S0; intro a0 S0
                refine wl_nil ?_
                refine nr_then ?_
                refine w_ret ?_
                refine ret_in ?_
                refine ret_then ?_
                refine ret_in ?_
                refine ret_then ?_
                obtain rfl := Option.some.inj H
                have H := HU1; clear HU1; dsimp only at H
                refine ret_then ?_
                refine ret_then ?_
                refine ret_in ?_
                refine ret_then ?_
                obtain rfl := Option.some.inj H
                replace Hq := HS.own_nil e_api_Timer 32 Hq
                refine ret2 S0 rfl rfl rfl ?_
                replace Hq := HS.pull [_, _] Hq
                dsimp only [List.cons_append, List.nil_append] at Hq
                replace Hq := HS.pull [_] Hq
                dsimp only [List.cons_append, List.nil_append] at Hq
                replace Hq := HS.keep [_, _] Hq
                exact ⟨none, 0, 0, rfl, Hq⟩
            · replace H := (if_neg z20h).symm.trans H
              exact nomatch H
        · clear S0; rintro a w ⟨z15x, z16A, z17m, z18n, rfl, S0, Hq⟩
          have H := HU1; clear HU1; dsimp only at H
          obtain rfl := own_len [] Hq
          refine nr_then ?_
          refine w_region ?_
          refine r_pures [_, _, _] S0 rfl ?_
          clear S0; intro a0 S0
          refine wl_nil ?_
          refine nr_then ?_
          exact ⟨(IntKind.i64.wrap (z9x + 1)), z15x, z16A, z15x.length, z18n, H, S0.sub ⟨rfl, rfl, rfl, trivial⟩, Hq⟩
      · replace H := (if_neg z14h).symm.trans H
        refine w_false S0 rfl (decide_eq_false z14h) ?_
        refine w_exit ?_
        refine ex_then ?_
        refine ex_then ?_
        refine ex_in ?_
        refine nr_then ?_
        refine w_seq ?_
        refine w_region ?_
        refine r_pures [_, _, _] S0 rfl ?_
        clear S0; intro a0 S0
        refine wl_nil ?_
        refine nr_then ?_
        refine w_ret ?_
        obtain rfl := Option.some.inj H
        refine ret2 S0 rfl rfl rfl ?_
        replace Hq := HS.pull [_] Hq
        dsimp only [List.cons_append, List.nil_append] at Hq
        replace Hq := HS.pull [_] Hq
        dsimp only [List.cons_append, List.nil_append] at Hq
        exact ⟨z11A, z10x.length, z13n, rfl, Hq⟩
  · replace H := (if_neg z3h).symm.trans H
    refine w_true S0 rfl (congrArg (!·) (decide_eq_false z3h)) ?_
    refine w_seq ?_
    refine w_region ?_
    refine r_pures [_, _, _] S0 rfl ?_
    clear S0; intro a0 S0
    refine wl_nil ?_
    refine nr_then ?_
    refine w_ret ?_
    refine ret_then ?_
    obtain rfl := Option.some.inj H
    replace Hq := HS.own_nil e_api_Timer 32 Hq
    refine ret2 S0 rfl rfl rfl ?_
    replace Hq := HS.pull [_] Hq
    dsimp only [List.cons_append, List.nil_append] at Hq
    replace Hq := HS.pull [_] Hq
    dsimp only [List.cons_append, List.nil_append] at Hq
    exact ⟨none, 0, 0, rfl, Hq⟩

end Go.Proofs.Ytailjeoimlemnaa.M

/- waybill/waybillref20.take: a plain function, and that the machine's call comes to it: printed by a program of the session's own. -/
set_option linter.unusedVariables false
set_option linter.unusedSimpArgs false
namespace Go.Proofs.Ytailjeoimlemnaa.M
open Go Go.Proofs.Ytailjeoimlemnaa.Sl
/-! ### waybill/waybillref20.take: function 36 -/
def waybillref20_take.l0 : Nat → (List api_Timer) → Int → (List api_Timer) → Option (List api_Timer)
  | 0, _, _, _ => none
  | k + 1, x_l, z6x, z7x => if (IntKind.i64.wrap ((x_l.length : Int) - 1)) ≤ (IntKind.i64.wrap ((IntKind.i64.wrap (2 * z6x)) + 1)) then (if (Int.toNat (IntKind.i64.wrap ((x_l.length : Int) - 1))) ≤ x_l.length then (some (z7x.take (Int.toNat (IntKind.i64.wrap ((x_l.length : Int) - 1))))) else (none)) else (((if (IntKind.i64.wrap ((IntKind.i64.wrap ((IntKind.i64.wrap (2 * z6x)) + 1)) + 1)) < (IntKind.i64.wrap ((x_l.length : Int) - 1)) then (if 0 ≤ (IntKind.i64.wrap ((IntKind.i64.wrap ((IntKind.i64.wrap (2 * z6x)) + 1)) + 1)) then (if (IntKind.i64.wrap ((IntKind.i64.wrap ((IntKind.i64.wrap (2 * z6x)) + 1)) + 1)) < (Int.toNat (IntKind.i64.wrap ((x_l.length : Int) - 1)) : Int) then (if (IntKind.i64.wrap ((IntKind.i64.wrap ((IntKind.i64.wrap (2 * z6x)) + 1)) + 1)) < (x_l.length : Int) then (if 0 ≤ (IntKind.i64.wrap ((IntKind.i64.wrap (2 * z6x)) + 1)) then (if (IntKind.i64.wrap ((IntKind.i64.wrap (2 * z6x)) + 1)) < (Int.toNat (IntKind.i64.wrap ((x_l.length : Int) - 1)) : Int) then (if (IntKind.i64.wrap ((IntKind.i64.wrap (2 * z6x)) + 1)) < (x_l.length : Int) then ((waybillref20_Ahead.f (rd e_api_Timer z7x (IntKind.i64.wrap ((IntKind.i64.wrap ((IntKind.i64.wrap (2 * z6x)) + 1)) + 1))) (rd e_api_Timer z7x (IntKind.i64.wrap ((IntKind.i64.wrap (2 * z6x)) + 1)))).bind fun z30t => (some z30t)) else (none)) else (none)) else (none)) else (none)) else (none)) else (none)) else (some false)) : Option (Bool)).bind fun z10x => (((if z10x = true then (some (IntKind.i64.wrap ((IntKind.i64.wrap ((IntKind.i64.wrap (2 * z6x)) + 1)) + 1))) else (some (IntKind.i64.wrap ((IntKind.i64.wrap (2 * z6x)) + 1)))) : Option (Int)).bind fun z43x => (if 0 ≤ z43x then (if z43x < (Int.toNat (IntKind.i64.wrap ((x_l.length : Int) - 1)) : Int) then (if z43x < (x_l.length : Int) then (if 0 ≤ z6x then (if z6x < (Int.toNat (IntKind.i64.wrap ((x_l.length : Int) - 1)) : Int) then (if z6x < (x_l.length : Int) then ((waybillref20_Ahead.f (rd e_api_Timer z7x z43x) (rd e_api_Timer z7x z6x)).bind fun z59t => (if z59t = true then (waybillref20_take.l0 k x_l z43x ((z7x.set (Int.toNat z6x) (rd e_api_Timer z7x z43x)).set (Int.toNat z43x) (rd e_api_Timer z7x z6x))) else (if (Int.toNat (IntKind.i64.wrap ((x_l.length : Int) - 1))) ≤ x_l.length then (some (z7x.take (Int.toNat (IntKind.i64.wrap ((x_l.length : Int) - 1))))) else (none)))) else (none)) else (none)) else (none)) else (none)) else (none)) else (none))))
def waybillref20_take.f (k : Nat) (x_l : List api_Timer) : Option (List api_Timer) := if 0 ≤ (IntKind.i64.wrap ((x_l.length : Int) - 1)) then (if (IntKind.i64.wrap ((x_l.length : Int) - 1)) < (x_l.length : Int) then (if 0 < (x_l.length : Int) then (if (IntKind.i64.wrap ((x_l.length : Int) - 1)) ≤ (x_l.length : Int) then ((waybillref20_take.l0 k x_l 0 (x_l.set (Int.toNat 0) (rd e_api_Timer x_l (IntKind.i64.wrap ((x_l.length : Int) - 1)))))) else (none)) else (none)) else (none)) else (none)
set_option maxRecDepth 100000 in
set_option maxHeartbeats 4000000 in
theorem waybillref20_take.calls (k : Nat) (A0 : Option Addr) (n0 c0 : Nat) (x_l : List api_Timer) (W0 : World) (X : Heap)  (Hq : HS W0 [own e_api_Timer 32 A0 n0 c0 x_l, isH X] W0) (r : List api_Timer) (H : waybillref20_take.f k x_l = some r) :
    Calls Try.prog 36 #[.slice A0 n0 c0] W0 (fun e w => ∃ Ar0 nr0 cr0, e = .returned (.slice Ar0 nr0 cr0) ∧ HS W0 [own e_api_Timer 32 Ar0 nr0 cr0 r, isH X] w) := by
  obtain rfl := own_len [] Hq
  rw [waybillref20_take.f] at H
  refine calls_in Try.func36 rfl rfl ?_
  intro a0 S0
  refine w_seq ?_
  refine w_region ?_
  refine r_pures [_] S0 rfl ?_
  clear S0; intro a0 S0
  refine wl_nil ?_
  refine nr_then ?_
  refine w_seq ?_
  refine w_region ?_
  refine r_pures [_] S0 rfl ?_
  clear S0; intro a0 S0
  refine r_len S0 rfl sl22 rfl ?_
  clear S0; intro a0 S0
  refine r_pures [_, _] S0 rfl ?_
  clear S0; intro a0 S0
  refine wl_nil ?_
  refine nr_then ?_
  refine w_seq ?_
  refine w_region ?_
  refine r_pures [_, _, _] S0 rfl ?_
  clear S0; intro a0 S0
  by_cases z1h : 0 ≤ (IntKind.i64.wrap ((x_l.length : Int) - 1))
  · replace H := (if_pos z1h).symm.trans H
    by_cases z2h : (IntKind.i64.wrap ((x_l.length : Int) - 1)) < (x_l.length : Int)
    · replace H := (if_pos z2h).symm.trans H
      obtain ⟨z3g, rfl⟩ := own_at [] Hq (by omega)
      refine r_index S0 rfl rfl sl22 ti32 z1h z2h rfl ?_
      clear S0; intro a0 S0
      refine r_elA (vs := [.int .i64 ((rd e_api_Timer x_l (IntKind.i64.wrap ((x_l.length : Int) - 1))).At), .int .i64 ((rd e_api_Timer x_l (IntKind.i64.wrap ((x_l.length : Int) - 1))).ID)]) S0 (own_rd [] Hq) z1h z2h rfl ti32 rfl rfl rfl ?_
      clear S0; intro a0 S0
      by_cases z4h : 0 < (x_l.length : Int)
      · replace H := (if_pos z4h).symm.trans H
        refine r_index S0 rfl rfl sl22 ti32 (by decide : (0:Int) ≤ 0) z4h rfl ?_
        clear S0; intro a0 S0
        refine r_elst [] S0 Hq (by decide : (0:Int) ≤ 0) z4h rfl rfl ti32 [.int .i64 ((rd e_api_Timer x_l (IntKind.i64.wrap ((x_l.length : Int) - 1))).At), .int .i64 ((rd e_api_Timer x_l (IntKind.i64.wrap ((x_l.length : Int) - 1))).ID)] rfl rfl rfl rfl (rd e_api_Timer x_l (IntKind.i64.wrap ((x_l.length : Int) - 1))) rfl ?_
        clear Hq; intro w Hq; dsimp only [List.cons_append, List.nil_append] at Hq
        refine wl_nil ?_
        refine nr_then ?_
        refine w_seq ?_
        refine w_region ?_
        refine r_pures [_, _] S0 rfl ?_
        clear S0; intro a0 S0
        by_cases z5h : (IntKind.i64.wrap ((x_l.length : Int) - 1)) ≤ (x_l.length : Int)
        · replace H := (if_pos z5h).symm.trans H
          refine r_cutV [] S0 Hq rfl sl22 ti32 _ rfl z1h z5h rfl ?_
          clear S0; intro a0 S0
          refine r_pures [_] S0 rfl ?_
          clear S0; intro a0 S0
          refine wl_nil ?_
          refine nr_then ?_
          refine w_seq ?_
          refine w_region ?_
          refine r_pures [_] S0 rfl ?_
          clear S0; intro a0 S0
          refine wl_nil ?_
          refine nr_then ?_
          refine w_block ?_
          refine w_loop (fun kq a w => ∃ z6x z7x, waybillref20_take.l0 kq x_l z6x z7x = some r ∧ Sl 69 [] [(0, .slice (some ⟨z3g, 0, none⟩) (Int.toNat (IntKind.i64.wrap ((x_l.length : Int) - 1))) c0), (3, .int .i64 (IntKind.i64.wrap ((x_l.length : Int) - 1))), (4, .int .i64 z6x)] a ∧ HS W0 [own e_api_Timer 32 (some ⟨z3g, 0, none⟩) x_l.length c0 z7x, isH X] w) _ ⟨0, (x_l.set (Int.toNat 0) (rd e_api_Timer x_l (IntKind.i64.wrap ((x_l.length : Int) - 1)))), H, S0.sub ⟨rfl, rfl, rfl, trivial⟩, Hq⟩ ?_
          clear H Hq S0
          rintro k0 a w ⟨z6x, z7x, H, S0, Hq⟩
          cases k0 with
          | zero => simp [waybillref20_take.l0] at H
          | succ k0 =>
            refine ⟨k0, rfl, ?_⟩
            rw [waybillref20_take.l0] at H
            refine w_block ?_
            refine w_seq ?_
            refine w_region ?_
            refine r_pures [_, _, _, _] S0 rfl ?_
            clear S0; intro a0 S0
            refine wl_nil ?_
            refine nr_then ?_
            refine w_seq ?_
            refine w_seq ?_
            refine w_region ?_
            refine r_pures [_, _, _] S0 rfl ?_
            clear S0; intro a0 S0
            refine wl_nil ?_
            refine nr_then ?_
            by_cases z8h : (IntKind.i64.wrap ((x_l.length : Int) - 1)) ≤ (IntKind.i64.wrap ((IntKind.i64.wrap (2 * z6x)) + 1))
            · replace H := (if_pos z8h).symm.trans H
              refine w_true S0 rfl (decide_eq_true z8h) ?_
              refine w_seq ?_
              refine w_region ?_
              refine r_pures [_, _] S0 rfl ?_
              clear S0; intro a0 S0
              refine wl_nil ?_
              refine nr_then ?_
              refine w_ret ?_
              refine ret_then ?_
              refine ret_in ?_
              refine ret_then ?_
              refine ret_in ?_
              by_cases z9h : (Int.toNat (IntKind.i64.wrap ((x_l.length : Int) - 1))) ≤ x_l.length
              · replace H := (if_pos z9h).symm.trans H
                replace Hq := HS.shrink [] Hq z9h
                dsimp only [List.cons_append, List.nil_append] at Hq
                obtain rfl := Option.some.inj H
                refine ret1 S0 rfl rfl ?_
                replace Hq := HS.pull [_] Hq
                dsimp only [List.cons_append, List.nil_append] at Hq
                replace Hq := HS.pull [_] Hq
                dsimp only [List.cons_append, List.nil_append] at Hq
                exact ⟨(some ⟨z3g, 0, none⟩), (Int.toNat (IntKind.i64.wrap ((x_l.length : Int) - 1))), c0, rfl, Hq⟩
              · replace H := (if_neg z9h).symm.trans H
                exact nomatch H
            · replace H := (if_neg z8h).symm.trans H
              refine w_false S0 rfl (decide_eq_false z8h) ?_
              refine w_skip ?_
              refine nr_then ?_
              refine w_seq ?_
              refine w_seq ?_
              obtain ⟨z10x, H, HU1⟩ := Option.bind_eq_some_iff.mp H
              refine w_cutT (fun a w => Sl 69 [] [(0, .slice (some ⟨z3g, 0, none⟩) (Int.toNat (IntKind.i64.wrap ((x_l.length : Int) - 1))) c0), (3, .int .i64 (IntKind.i64.wrap ((x_l.length : Int) - 1))), (4, .int .i64 z6x), (5, .int .i64 (IntKind.i64.wrap ((IntKind.i64.wrap (2 * z6x)) + 1))), (40, .bool z10x)] a ∧ HS W0 [own e_api_Timer 32 (some ⟨z3g, 0, none⟩) x_l.length c0 z7x, isH X] w) ?_ ?_
              · skip
                refine w_draw TryM.mixed (.pu 0 (.pu 1 (.pu 2 (.pu 3 (.pu 4 (.pu 5 (.pu 6 (.pu 7 (.pu 8 (.pu 10 (.pu 11 (.pu 12 (.rd 9 (.rd 13 (.ds 14 (.pu 15 .done)))))))))))))))) (by kernel_rfl) rfl ?_
                replace Hq := Hq.drew
                refine st_pures [0, 1, 2, 3, 4] S0 rfl ?_
                intro az11q Sz11q
                by_cases z12h : (IntKind.i64.wrap ((IntKind.i64.wrap ((IntKind.i64.wrap (2 * z6x)) + 1)) + 1)) < (IntKind.i64.wrap ((x_l.length : Int) - 1))
                · replace H := (if_pos z12h).symm.trans H
                  refine st_pu Sz11q rfl (g_on Sz11q rfl rfl rfl rfl (decide_eq_true z12h)) rfl rfl (fun _ => y_of Sz11q _ rfl) ?_
                  intro az13q Sz13q
                  refine st_pu Sz13q rfl (g_on Sz13q rfl rfl rfl rfl (decide_eq_true z12h)) rfl rfl (fun _ => y_of Sz13q _ rfl) ?_
                  intro az14q Sz14q
                  refine st_pu Sz14q rfl (g_on Sz14q rfl rfl rfl rfl (decide_eq_true z12h)) rfl rfl (fun _ => y_of Sz14q _ rfl) ?_
                  intro az15q Sz15q
                  by_cases z16h : 0 ≤ (IntKind.i64.wrap ((IntKind.i64.wrap ((IntKind.i64.wrap (2 * z6x)) + 1)) + 1))
                  · replace H := (if_pos z16h).symm.trans H
                    by_cases z17h : (IntKind.i64.wrap ((IntKind.i64.wrap ((IntKind.i64.wrap (2 * z6x)) + 1)) + 1)) < (Int.toNat (IntKind.i64.wrap ((x_l.length : Int) - 1)) : Int)
                    · replace H := (if_pos z17h).symm.trans H
                      by_cases z18h : (IntKind.i64.wrap ((IntKind.i64.wrap ((IntKind.i64.wrap (2 * z6x)) + 1)) + 1)) < (x_l.length : Int)
                      · replace H := (if_pos z18h).symm.trans H
                        refine st_pu Sz15q rfl (g_on Sz15q rfl rfl rfl rfl (decide_eq_true z12h)) rfl rfl (fun _ => y_index Sz15q rfl rfl sl22 ti32 z16h z17h) ?_
                        intro az19q Sz19q
                        refine st_pu Sz19q rfl (g_on Sz19q rfl rfl rfl rfl (decide_eq_true z12h)) rfl rfl (fun _ => y_of Sz19q _ rfl) ?_
                        intro az20q Sz20q
                        refine st_pu Sz20q rfl (g_on Sz20q rfl rfl rfl rfl (decide_eq_true z12h)) rfl rfl (fun _ => y_of Sz20q _ rfl) ?_
                        intro az21q Sz21q
                        by_cases z22h : 0 ≤ (IntKind.i64.wrap ((IntKind.i64.wrap (2 * z6x)) + 1))
                        · replace H := (if_pos z22h).symm.trans H
                          by_cases z23h : (IntKind.i64.wrap ((IntKind.i64.wrap (2 * z6x)) + 1)) < (Int.toNat (IntKind.i64.wrap ((x_l.length : Int) - 1)) : Int)
                          · replace H := (if_pos z23h).symm.trans H
                            by_cases z24h : (IntKind.i64.wrap ((IntKind.i64.wrap (2 * z6x)) + 1)) < (x_l.length : Int)
                            · replace H := (if_pos z24h).symm.trans H
                              refine st_pu Sz21q rfl (g_on Sz21q rfl rfl rfl rfl (decide_eq_true z12h)) rfl rfl (fun _ => y_index Sz21q rfl rfl sl22 ti32 z22h z23h) ?_
                              intro az25q Sz25q
                              refine st_rd Sz25q rfl (g_on Sz25q rfl rfl rfl rfl (decide_eq_true z12h)) rfl rfl (y_elA (vs := [.int .i64 ((rd e_api_Timer z7x (IntKind.i64.wrap ((IntKind.i64.wrap ((IntKind.i64.wrap (2 * z6x)) + 1)) + 1))).At), .int .i64 ((rd e_api_Timer z7x (IntKind.i64.wrap ((IntKind.i64.wrap ((IntKind.i64.wrap (2 * z6x)) + 1)) + 1))).ID)]) Sz25q (own_rd [] Hq) z16h z18h rfl ti32 rfl rfl) ?_
                              intro az26q Sz26q
                              refine st_rd Sz26q rfl (g_on Sz26q rfl rfl rfl rfl (decide_eq_true z12h)) rfl rfl (y_elA (vs := [.int .i64 ((rd e_api_Timer z7x (IntKind.i64.wrap ((IntKind.i64.wrap (2 * z6x)) + 1))).At), .int .i64 ((rd e_api_Timer z7x (IntKind.i64.wrap ((IntKind.i64.wrap (2 * z6x)) + 1))).ID)]) Sz26q (own_rd [] Hq) z22h z24h rfl ti32 rfl rfl) ?_
                              intro az27q Sz27q
                              refine st_ds rfl ?_
                              refine r_on Sz27q rfl rfl rfl (decide_eq_true z12h) ?_
                              have Sz28q := Sz27q
                              obtain ⟨Xz29, HXz29, HPz29, HBz29⟩ := call_frame [] Hq
                              dsimp only [List.cons_append, List.nil_append] at HXz29 HBz29
                              obtain ⟨z30t, Hc, H⟩ := Option.bind_eq_some_iff.mp H
                              refine r_call Sz28q rfl rfl goes37 rfl ?_
                              refine (waybillref20_Ahead.calls (rd e_api_Timer z7x (IntKind.i64.wrap ((IntKind.i64.wrap ((IntKind.i64.wrap (2 * z6x)) + 1)) + 1))) (rd e_api_Timer z7x (IntKind.i64.wrap ((IntKind.i64.wrap (2 * z6x)) + 1))) _ _  HXz29 z30t Hc).mono ?_
                              rintro e w ⟨rfl, Hq'⟩
                              have Hq : HS W0 [own e_api_Timer 32 (some ⟨z3g, 0, none⟩) x_l.length c0 z7x, isH X] w := HBz29 [] _ Hq'
                              clear HXz29 HPz29 HBz29 Hq'
                              refine ⟨.bool z30t, rfl, ?_⟩; clear Sz28q; intro az27q Sz28q
                              refine wl_nil ?_
                              refine nr_then ?_
                              refine st_pu Sz28q rfl (g_none rfl) rfl rfl (fun _ => y_pick Sz28q rfl (decide_eq_true z12h) _ rfl) ?_
                              intro az31q Sz31q
                              refine st_nil ?_
                              replace S0 := Sz31q
                              refine nr_then ?_
                              obtain rfl := Option.some.inj H
                              exact ⟨S0.sub ⟨rfl, rfl, rfl, rfl, rfl, trivial⟩, Hq⟩
                            · replace H := (if_neg z24h).symm.trans H
                              exact nomatch H
                          · replace H := (if_neg z23h).symm.trans H
                            exact nomatch H
                        · replace H := (if_neg z22h).symm.trans H
                          exact nomatch H
                      · replace H := (if_neg z18h).symm.trans H
                        exact nomatch H
                    · replace H := (if_neg z17h).symm.trans H
                      exact nomatch H
                  · replace H := (if_neg z16h).symm.trans H
                    exact nomatch H
                · replace H := (if_neg z12h).symm.trans H
                  refine st_puOff Sz11q rfl (g_off Sz11q rfl rfl rfl rfl (decide_eq_false z12h)) rfl rfl ?_
                  intro az32q Sz32q
                  refine st_puOff Sz32q rfl (g_off Sz32q rfl rfl rfl rfl (decide_eq_false z12h)) rfl rfl ?_
                  intro az33q Sz33q
                  refine st_puOff Sz33q rfl (g_off Sz33q rfl rfl rfl rfl (decide_eq_false z12h)) rfl rfl ?_
                  intro az34q Sz34q
                  refine st_puOff Sz34q rfl (g_off Sz34q rfl rfl rfl rfl (decide_eq_false z12h)) rfl rfl ?_
                  intro az35q Sz35q
                  refine st_puOff Sz35q rfl (g_off Sz35q rfl rfl rfl rfl (decide_eq_false z12h)) rfl rfl ?_
                  intro az36q Sz36q
                  refine st_puOff Sz36q rfl (g_off Sz36q rfl rfl rfl rfl (decide_eq_false z12h)) rfl rfl ?_
                  intro az37q Sz37q
                  refine st_puOff Sz37q rfl (g_off Sz37q rfl rfl rfl rfl (decide_eq_false z12h)) rfl rfl ?_
                  intro az38q Sz38q
                  refine st_rdOff Sz38q rfl (g_off Sz38q rfl rfl rfl rfl (decide_eq_false z12h)) rfl rfl ?_
                  intro az39q Sz39q
                  refine st_rdOff Sz39q rfl (g_off Sz39q rfl rfl rfl rfl (decide_eq_false z12h)) rfl rfl ?_
                  intro az40q Sz40q
                  refine st_ds rfl ?_
                  refine r_off Sz40q rfl rfl rfl (decide_eq_false z12h) ?_ rfl
                  intro az41q Sz41q
                  refine wl_nil ?_
                  refine nr_then ?_
                  refine st_pu Sz41q rfl (g_none rfl) rfl rfl (fun _ => y_pick Sz41q rfl (decide_eq_false z12h) _ rfl) ?_
                  intro az42q Sz42q
                  refine st_nil ?_
                  replace S0 := Sz42q
                  refine nr_then ?_
                  obtain rfl := Option.some.inj H
                  exact ⟨S0.sub ⟨rfl, rfl, rfl, rfl, rfl, trivial⟩, Hq⟩
              · clear S0; rintro a w ⟨S0, Hq⟩
                have H := HU1; clear HU1
                refine nr_then ?_
                obtain ⟨z43x, H, HU2⟩ := Option.bind_eq_some_iff.mp H
                refine w_cutT (fun a w => Sl 69 [] [(0, .slice (some ⟨z3g, 0, none⟩) (Int.toNat (IntKind.i64.wrap ((x_l.length : Int) - 1))) c0), (3, .int .i64 (IntKind.i64.wrap ((x_l.length : Int) - 1))), (4, .int .i64 z6x), (5, .int .i64 z43x)] a ∧ HS W0 [own e_api_Timer 32 (some ⟨z3g, 0, none⟩) x_l.length c0 z7x, isH X] w) ?_ ?_
                · skip
                  by_cases z44h : z10x = true
                  · replace H := (if_pos z44h).symm.trans H
                    refine w_true S0 rfl z44h ?_
                    refine w_region ?_
                    refine r_pures [_, _, _] S0 rfl ?_
                    clear S0; intro a0 S0
                    refine wl_nil ?_
                    refine nr_then ?_
                    obtain rfl := Option.some.inj H
                    exact ⟨S0.sub ⟨rfl, rfl, rfl, rfl, trivial⟩, Hq⟩
                  · replace H := (if_neg z44h).symm.trans H
                    refine w_false S0 rfl (Bool.eq_false_iff.mpr z44h) ?_
                    refine w_skip ?_
                    refine nr_then ?_
                    obtain rfl := Option.some.inj H
                    exact ⟨S0.sub ⟨rfl, rfl, rfl, rfl, trivial⟩, Hq⟩
                · clear S0; rintro a w ⟨S0, Hq⟩
                  have H := HU2; clear HU2
                  refine nr_then ?_
                  refine w_seq ?_
                  refine w_seq ?_
                  refine w_draw TryM.mixed (.pu 0 (.pu 1 (.pu 2 (.pu 4 (.pu 5 (.pu 6 (.rd 3 (.rd 7 (.ds 8 (.pu 9 .done)))))))))) (by kernel_rfl) rfl ?_
                  replace Hq := Hq.drew
                  refine st_pures [0, 1] S0 rfl ?_
                  intro az45q Sz45q
                  by_cases z46h : 0 ≤ z43x
                  · replace H := (if_pos z46h).symm.trans H
                    by_cases z47h : z43x < (Int.toNat (IntKind.i64.wrap ((x_l.length : Int) - 1)) : Int)
                    · replace H := (if_pos z47h).symm.trans H
                      by_cases z48h : z43x < (x_l.length : Int)
                      · replace H := (if_pos z48h).symm.trans H
                        refine st_pu Sz45q rfl (g_none rfl) rfl rfl (fun _ => y_index Sz45q rfl rfl sl22 ti32 z46h z47h) ?_
                        intro az49q Sz49q
                        refine st_pures [4, 5] Sz49q rfl ?_
                        intro az50q Sz50q
                        by_cases z51h : 0 ≤ z6x
                        · replace H := (if_pos z51h).symm.trans H
                          by_cases z52h : z6x < (Int.toNat (IntKind.i64.wrap ((x_l.length : Int) - 1)) : Int)
                          · replace H := (if_pos z52h).symm.trans H
                            by_cases z53h : z6x < (x_l.length : Int)
                            · replace H := (if_pos z53h).symm.trans H
                              refine st_pu Sz50q rfl (g_none rfl) rfl rfl (fun _ => y_index Sz50q rfl rfl sl22 ti32 z51h z52h) ?_
                              intro az54q Sz54q
                              refine st_rd Sz54q rfl (g_none rfl) rfl rfl (y_elA (vs := [.int .i64 ((rd e_api_Timer z7x z43x).At), .int .i64 ((rd e_api_Timer z7x z43x).ID)]) Sz54q (own_rd [] Hq) z46h z48h rfl ti32 rfl rfl) ?_
                              intro az55q Sz55q
                              refine st_rd Sz55q rfl (g_none rfl) rfl rfl (y_elA (vs := [.int .i64 ((rd e_api_Timer z7x z6x).At), .int .i64 ((rd e_api_Timer z7x z6x).ID)]) Sz55q (own_rd [] Hq) z51h z53h rfl ti32 rfl rfl) ?_
                              intro az56q Sz56q
                              refine st_ds rfl ?_
                              have Sz57q := Sz56q
                              obtain ⟨Xz58, HXz58, HPz58, HBz58⟩ := call_frame [] Hq
                              dsimp only [List.cons_append, List.nil_append] at HXz58 HBz58
                              obtain ⟨z59t, Hc, H⟩ := Option.bind_eq_some_iff.mp H
                              refine r_call Sz57q rfl rfl goes37 rfl ?_
                              refine (waybillref20_Ahead.calls (rd e_api_Timer z7x z43x) (rd e_api_Timer z7x z6x) _ _  HXz58 z59t Hc).mono ?_
                              rintro e w ⟨rfl, Hq'⟩
                              have Hq : HS W0 [own e_api_Timer 32 (some ⟨z3g, 0, none⟩) x_l.length c0 z7x, isH X] w := HBz58 [] _ Hq'
                              clear HXz58 HPz58 HBz58 Hq'
                              refine ⟨.bool z59t, rfl, ?_⟩; clear Sz57q; intro az56q Sz57q
                              refine wl_nil ?_
                              refine nr_then ?_
                              refine st_pures [9] Sz57q rfl ?_
                              intro az60q Sz60q
                              refine st_nil ?_
                              replace S0 := Sz60q
                              refine nr_then ?_
                              by_cases z61h : z59t = true
                              · replace H := (if_pos z61h).symm.trans H
                                refine w_false S0 rfl (congrArg (!·) z61h) ?_
                                refine w_skip ?_
                                refine nr_then ?_
                                refine w_seq ?_
                                refine w_draw TryM.mixed (.pu 0 (.pu 1 (.pu 2 (.pu 3 (.pu 4 (.pu 5 (.pu 6 (.pu 8 (.pu 9 (.pu 10 (.rd 7 (.rd 11 (.pu 12 (.ds 13 (.pu 14 (.ds 15 .done)))))))))))))))) (by kernel_rfl) rfl ?_
                                replace Hq := Hq.drew
                                refine st_pures [0, 1, 2, 3, 4, 5] S0 rfl ?_
                                intro az62q Sz62q
                                refine st_pu Sz62q rfl (g_none rfl) rfl rfl (fun _ => y_index Sz62q rfl rfl sl22 ti32 z46h z47h) ?_
                                intro az63q Sz63q
                                refine st_pures [8, 9] Sz63q rfl ?_
                                intro az64q Sz64q
                                refine st_pu Sz64q rfl (g_none rfl) rfl rfl (fun _ => y_index Sz64q rfl rfl sl22 ti32 z51h z52h) ?_
                                intro az65q Sz65q
                                refine st_rd Sz65q rfl (g_none rfl) rfl rfl (y_elA (vs := [.int .i64 ((rd e_api_Timer z7x z43x).At), .int .i64 ((rd e_api_Timer z7x z43x).ID)]) Sz65q (own_rd [] Hq) z46h z48h rfl ti32 rfl rfl) ?_
                                intro az66q Sz66q
                                refine st_rd Sz66q rfl (g_none rfl) rfl rfl (y_elA (vs := [.int .i64 ((rd e_api_Timer z7x z6x).At), .int .i64 ((rd e_api_Timer z7x z6x).ID)]) Sz66q (own_rd [] Hq) z51h z53h rfl ti32 rfl rfl) ?_
                                intro az67q Sz67q
                                refine st_pu Sz67q rfl (g_none rfl) rfl rfl (fun _ => y_index Sz67q rfl rfl sl22 ti32 z51h z52h) ?_
                                intro az68q Sz68q
                                refine st_ds rfl ?_
                                have Sz69q := Sz68q
                                refine r_elst [] Sz69q Hq z51h z53h rfl rfl ti32 [.int .i64 ((rd e_api_Timer z7x z43x).At), .int .i64 ((rd e_api_Timer z7x z43x).ID)] rfl rfl rfl rfl (rd e_api_Timer z7x z43x) rfl ?_
                                clear Hq; intro w Hq; dsimp only [List.cons_append, List.nil_append] at Hq
                                refine wl_nil ?_
                                refine nr_then ?_
                                refine st_pu Sz69q rfl (g_none rfl) rfl rfl (fun _ => y_index Sz69q rfl rfl sl22 ti32 z46h z47h) ?_
                                intro az70q Sz70q
                                refine st_ds rfl ?_
                                have Sz71q := Sz70q
                                refine r_elst [] Sz71q Hq z46h z48h rfl rfl ti32 [.int .i64 ((rd e_api_Timer z7x z6x).At), .int .i64 ((rd e_api_Timer z7x z6x).ID)] rfl rfl rfl rfl (rd e_api_Timer z7x z6x) rfl ?_
                                clear Hq; intro w Hq; dsimp only [List.cons_append, List.nil_append] at Hq
                                refine wl_nil ?_
                                refine nr_then ?_
                                refine st_nil ?_
                                replace S0 := Sz71q
                                refine nr_then ?_
                                refine w_region ?_
                                refine r_pures [_, _] S0 rfl ?_
                                clear S0; intro a0 S0
                                refine wl_nil ?_
                                refine nr_in ?_
                                refine nr_then ?_
                                exact ⟨z43x, ((z7x.set (Int.toNat z6x) (rd e_api_Timer z7x z43x)).set (Int.toNat z43x) (rd e_api_Timer z7x z6x)), H, S0.sub ⟨rfl, rfl, rfl, trivial⟩, Hq⟩
                              · replace H := (if_neg z61h).symm.trans H
                                refine w_true S0 rfl (congrArg (!·) (Bool.eq_false_iff.mpr z61h)) ?_
                                refine w_seq ?_
                                refine w_region ?_
                                refine r_pures [_, _] S0 rfl ?_
                                clear S0; intro a0 S0
                                refine wl_nil ?_
                                refine nr_then ?_
                                refine w_ret ?_
                                refine ret_then ?_
                                refine ret_in ?_
                                refine ret_then ?_
                                refine ret_in ?_
                                by_cases z72h : (Int.toNat (IntKind.i64.wrap ((x_l.length : Int) - 1))) ≤ x_l.length
                                · replace H := (if_pos z72h).symm.trans H
                                  replace Hq := HS.shrink [] Hq z72h
                                  dsimp only [List.cons_append, List.nil_append] at Hq
                                  obtain rfl := Option.some.inj H
                                  refine ret1 S0 rfl rfl ?_
                                  replace Hq := HS.pull [_] Hq
                                  dsimp only [List.cons_append, List.nil_append] at Hq
                                  replace Hq := HS.pull [_] Hq
                                  dsimp only [List.cons_append, List.nil_append] at Hq
                                  exact ⟨(some ⟨z3g, 0, none⟩), (Int.toNat (IntKind.i64.wrap ((x_l.length : Int) - 1))), c0, rfl, Hq⟩
                                · replace H := (if_neg z72h).symm.trans H
                                  exact nomatch H
                            · replace H := (if_neg z53h).symm.trans H
                              exact nomatch H
                          · replace H := (if_neg z52h).symm.trans H
                            exact nomatch H
                        · replace H := (if_neg z51h).symm.trans H
                          exact nomatch H
                      · replace H := (if_neg z48h).symm.trans H
                        exact nomatch H
                    · replace H := (if_neg z47h).symm.trans H
                      exact nomatch H
                  · replace H := (if_neg z46h).symm.trans H
                    exact nomatch H
        · replace H := (if_neg z5h).symm.trans H
          exact nomatch H
      · replace H := (if_neg z4h).symm.trans H
        exact nomatch H
    · replace H := (if_neg z2h).symm.trans H
      exact nomatch H
  · replace H := (if_neg z1h).symm.trans H
    exact nomatch H

end Go.Proofs.Ytailjeoimlemnaa.M

/- waybill/waybillref20.Due: a plain function, and that the machine's call comes to it: printed by a program of the session's own. -/
set_option linter.unusedVariables false
set_option linter.unusedSimpArgs false
namespace Go.Proofs.Ytailjeoimlemnaa.M
open Go Go.Proofs.Ytailjeoimlemnaa.Sl
/-! ### waybill/waybillref20.Due: function 16 -/
def waybillref20_Due.l0 : Nat → Int → (List Int) → (List api_Timer) → Option ((List Int) × (List api_Timer))
  | 0, _, _, _ => none
  | k + 1, x_tick, z17x, z21x => ((if 0 < (z21x.length : Int) then (some (decide (((rd e_api_Timer z21x 0).At) ≤ x_tick))) else (some false)) : Option (Bool)).bind fun z25x => (if z25x = true then (if 0 < (z21x.length : Int) then (if z17x.length + ([(rd e_api_Timer z21x 0).ID] : List Int).length < 17592186044416 then ((waybillref20_take.f k z21x).bind fun z37t => (waybillref20_Due.l0 k x_tick (z17x ++ ([(rd e_api_Timer z21x 0).ID] : List Int)) z37t)) else (none)) else (none)) else (some (z17x, z21x)))
def waybillref20_Due.f (k : Nat) (x_l : List api_Timer) (x_tick : Int) : Option ((List api_Timer) × (List Int) × Int) := (waybillref20_Check.f k x_l).bind fun z2t => (if z2t = 0 then ((waybillref20_Own.f x_l).bind fun z5t => ((((waybillref20_Due.l0 k x_tick ([] : List Int) z5t)) : Option ((List Int) × (List api_Timer))).bind fun (z9x, z13x) => (some (z13x, z9x, 0)))) else (some (([] : List api_Timer), ([] : List Int), z2t)))
set_option maxRecDepth 100000 in
set_option maxHeartbeats 4000000 in
theorem waybillref20_Due.calls (k : Nat) (A0 : Option Addr) (n0 c0 : Nat) (x_l : List api_Timer) (x_tick : Int) (W0 : World) (X : Heap) (HR0 : Rd e_api_Timer X A0 n0 c0 x_l) (Hq : HS W0 [isH X] W0) (r : (List api_Timer) × (List Int) × Int) (H : waybillref20_Due.f k x_l x_tick = some r) :
    Calls Try.prog 16 #[.slice A0 n0 c0, .int .i64 x_tick] W0 (fun e w => ∃ Ar0 nr0 cr0 Ar1 nr1 cr1, e = .returned (.tuple #[.slice Ar0 nr0 cr0, .slice Ar1 nr1 cr1, .int .i64 r.2.2]) ∧ HS W0 [own e_api_Timer 32 Ar0 nr0 cr0 r.1, own e_i64 3 Ar1 nr1 cr1 r.2.1, isH X] w) := by
  obtain rfl := HR0.1
  rw [waybillref20_Due.f] at H
  refine calls_in Try.func16 rfl rfl ?_
  intro a0 S0
  refine w_seq ?_
  refine w_region ?_
  refine r_pures [_, _, _] S0 rfl ?_
  clear S0; intro a0 S0
  refine wl_nil ?_
  refine nr_then ?_
  refine w_seq ?_
  refine w_region ?_
  refine r_pures [_] S0 rfl ?_
  clear S0; intro a0 S0
  obtain ⟨Xz1, HXz1, HPz1, HBz1⟩ := call_frame [] Hq
  dsimp only [List.cons_append, List.nil_append] at HXz1 HBz1
  obtain ⟨z2t, Hc, H⟩ := Option.bind_eq_some_iff.mp H
  refine r_call S0 rfl rfl goes23 rfl ?_
  refine (waybillref20_Check.calls _ _ _ _ x_l _ _ (sl_isH_rd [] HPz1 HR0) HXz1 z2t Hc).mono ?_
  rintro e w ⟨rfl, Hq'⟩
  have Hq : HS W0 [isH X] w := HBz1 [] _ Hq'
  clear HXz1 HPz1 HBz1 Hq'
  refine ⟨.int .i64 z2t, rfl, ?_⟩; clear S0; intro a0 S0
  refine r_pures [_] S0 rfl ?_
  clear S0; intro a0 S0
  refine wl_nil ?_
  refine nr_then ?_
  refine w_seq ?_
  refine w_seq ?_
  refine w_region ?_
  refine r_pures [_, _] S0 rfl ?_
  clear S0; intro a0 S0
  refine wl_nil ?_
  refine nr_then ?_
  by_cases z3h : z2t = 0
  · replace H := (if_pos z3h).symm.trans H
    refine w_false S0 rfl (congrArg (!·) (decide_eq_true z3h)) ?_
    refine w_skip ?_
    refine nr_then ?_
    refine w_seq ?_
    refine w_region ?_
    refine r_pures [_] S0 rfl ?_
    clear S0; intro a0 S0
    obtain ⟨Xz4, HXz4, HPz4, HBz4⟩ := call_frame [] Hq
    dsimp only [List.cons_append, List.nil_append] at HXz4 HBz4
    obtain ⟨z5t, Hc, H⟩ := Option.bind_eq_some_iff.mp H
    refine r_call S0 rfl rfl goes13 rfl ?_
    refine (waybillref20_Own.calls _ _ _ x_l _ _ (sl_isH_rd [] HPz4 HR0) HXz4 z5t Hc).mono ?_
    rintro e w ⟨z6A, z7m, z8n, rfl, Hq'⟩
    have Hq : HS W0 [own e_api_Timer 32 z6A z7m z8n z5t, isH X] w := HBz4 [_] _ Hq'
    clear HXz4 HPz4 HBz4 Hq'
    obtain rfl := own_len [] Hq
    refine ⟨.slice z6A z5t.length z8n, rfl, ?_⟩; clear S0; intro a0 S0
    refine r_pures [_] S0 rfl ?_
    clear S0; intro a0 S0
    refine wl_nil ?_
    refine nr_then ?_
    refine w_seq ?_
    refine w_region ?_
    refine r_pures [_] S0 rfl ?_
    clear S0; intro a0 S0
    refine wl_nil ?_
    refine nr_then ?_
    refine w_seq ?_
    replace Hq := HS.own_nil e_i64 3 Hq
    obtain ⟨⟨z9x, z13x⟩, H, HU1⟩ := Option.bind_eq_some_iff.mp H
    dsimp only at HU1
    refine w_cutT (fun a w => ∃ z10A z11m z12n z14A z15m z16n, Sl 39 [] [(8, .slice z14A z15m z16n), (9, .slice z10A z11m z12n)] a ∧ HS W0 [own e_i64 3 z10A z11m z12n z9x, own e_api_Timer 32 z14A z15m z16n z13x, isH X] w) ?_ ?_
    · skip
      refine w_block ?_
      refine w_loop (fun kq a w => ∃ z17x z21x z18A z19m z20n z22A z23m z24n, waybillref20_Due.l0 kq x_tick z17x z21x = some (z9x, z13x) ∧ Sl 39 [] [(1, .int .i64 x_tick), (8, .slice z22A z23m z24n), (9, .slice z18A z19m z20n)] a ∧ HS W0 [own e_i64 3 z18A z19m z20n z17x, own e_api_Timer 32 z22A z23m z24n z21x, isH X] w) _ ⟨([] : List Int), z5t, none, 0, 0, z6A, z5t.length, z8n, H, S0.sub ⟨rfl, rfl, rfl, trivial⟩, Hq⟩ ?_
      clear H Hq S0
      rintro k0 a w ⟨z17x, z21x, z18A, z19m, z20n, z22A, z23m, z24n, H, S0, Hq⟩
      cases k0 with
      | zero => simp [waybillref20_Due.l0] at H
      | succ k0 =>
        refine ⟨k0, rfl, ?_⟩
        rw [waybillref20_Due.l0] at H
        obtain rfl := own_len [] Hq
        obtain rfl := own_len [_] Hq
        refine w_seq ?_
        refine w_seq ?_
        obtain ⟨z25x, H, HU2⟩ := Option.bind_eq_some_iff.mp H
        refine w_cutT (fun a w => Sl 39 [] [(1, .int .i64 x_tick), (8, .slice z22A z21x.length z24n), (9, .slice z18A z17x.length z20n), (27, .bool z25x)] a ∧ HS W0 [own e_i64 3 z18A z17x.length z20n z17x, own e_api_Timer 32 z22A z21x.length z24n z21x, isH X] w) ?_ ?_
        · skip
          refine w_region ?_
          refine r_pures [_] S0 rfl ?_
          clear S0; intro a0 S0
          refine r_len S0 rfl sl22 rfl ?_
          clear S0; intro a0 S0
          refine r_pures [_, _] S0 rfl ?_
          clear S0; intro a0 S0
          by_cases z26h : 0 < (z21x.length : Int)
          · replace H := (if_pos z26h).symm.trans H
            refine r_on S0 rfl rfl rfl (decide_eq_true z26h) ?_
            refine r_pures [_] S0 rfl ?_
            clear S0; intro a0 S0
            refine r_on S0 rfl rfl rfl (decide_eq_true z26h) ?_
            obtain ⟨z27g, rfl⟩ := own_at [_] Hq (by omega)
            refine r_index S0 rfl rfl sl22 ti32 (by decide : (0:Int) ≤ 0) z26h rfl ?_
            clear S0; intro a0 S0
            refine r_on S0 rfl rfl rfl (decide_eq_true z26h) ?_
            refine r_fieldAddr S0 rfl fo32x0 (0 + Int.toNat 0 * 2 + 0) rfl rfl ?_
            clear S0; intro a0 S0
            refine r_on S0 rfl rfl rfl (decide_eq_true z26h) ?_
            refine r_elS S0 (own_rd [_] Hq) (by decide : (0:Int) ≤ 0) z26h rfl ti3 _ rfl rfl ?_
            clear S0; intro a0 S0
            refine r_on S0 rfl rfl rfl (decide_eq_true z26h) ?_
            refine r_pures [_] S0 rfl ?_
            clear S0; intro a0 S0
            refine r_on S0 rfl rfl rfl (decide_eq_true z26h) ?_
            refine r_pures [_] S0 rfl ?_
            clear S0; intro a0 S0
            refine r_pick S0 rfl (decide_eq_true z26h) _ rfl rfl ?_
            clear S0; intro a0 S0
            refine wl_nil ?_
            refine nr_then ?_
            obtain rfl := Option.some.inj H
            exact ⟨S0.sub ⟨rfl, rfl, rfl, rfl, trivial⟩, Hq⟩
          · replace H := (if_neg z26h).symm.trans H
            refine r_off S0 rfl rfl rfl (decide_eq_false z26h) ?_ rfl
            clear S0; intro a0 S0
            refine r_off S0 rfl rfl rfl (decide_eq_false z26h) ?_ rfl
            clear S0; intro a0 S0
            refine r_off S0 rfl rfl rfl (decide_eq_false z26h) ?_ rfl
            clear S0; intro a0 S0
            refine r_off S0 rfl rfl rfl (decide_eq_false z26h) ?_ rfl
            clear S0; intro a0 S0
            refine r_off S0 rfl rfl rfl (decide_eq_false z26h) ?_ rfl
            clear S0; intro a0 S0
            refine r_off S0 rfl rfl rfl (decide_eq_false z26h) ?_ rfl
            clear S0; intro a0 S0
            refine r_pick S0 rfl (decide_eq_false z26h) _ rfl rfl ?_
            clear S0; intro a0 S0
            refine wl_nil ?_
            refine nr_then ?_
            obtain rfl := Option.some.inj H
            exact ⟨S0.sub ⟨rfl, rfl, rfl, rfl, trivial⟩, Hq⟩
        · clear S0; rintro a w ⟨S0, Hq⟩
          have H := HU2; clear HU2
          refine nr_then ?_
          by_cases z28h : z25x = true
          · replace H := (if_pos z28h).symm.trans H
            refine w_true S0 rfl z28h ?_
            refine w_skip ?_
            refine nr_then ?_
            refine w_block ?_
            refine w_seq ?_
            refine w_region ?_
            refine r_pures [_, _] S0 rfl ?_
            clear S0; intro a0 S0
            by_cases z29h : 0 < (z21x.length : Int)
            · replace H := (if_pos z29h).symm.trans H
              obtain ⟨z30g, rfl⟩ := own_at [_] Hq (by omega)
              refine r_index S0 rfl rfl sl22 ti32 (by decide : (0:Int) ≤ 0) z29h rfl ?_
              clear S0; intro a0 S0
              refine r_fieldAddr S0 rfl fo32x1 (0 + Int.toNat 0 * 2 + 1) rfl rfl ?_
              clear S0; intro a0 S0
              refine r_elS S0 (own_rd [_] Hq) (by decide : (0:Int) ≤ 0) z29h rfl ti3 _ rfl rfl ?_
              clear S0; intro a0 S0
              refine r_lit (e := e_i64) (l := ([(rd e_api_Timer z21x 0).ID] : List Int)) (m := 1) (vs := [.int .i64 ((rd e_api_Timer z21x 0).ID)]) S0 Hq sl23 ti3 rfl rfl rfl rfl rfl rfl ?_
              clear S0 Hq; intro z31b a0 w S0 Hq
              by_cases z33h : z17x.length + ([(rd e_api_Timer z21x 0).ID] : List Int).length < 17592186044416
              · replace H := (if_pos z33h).symm.trans H
                refine r_app [_] S0 Hq (own_rd [] Hq) rfl rfl sl23 ti3 rfl z33h rfl rfl ?_
                clear S0 Hq; intro z34A z35n a0 w S0 Hq; dsimp only [List.cons_append, List.nil_append] at Hq
                refine r_pures [_] S0 rfl ?_
                clear S0; intro a0 S0
                refine wl_nil ?_
                refine nr_then ?_
                refine w_region ?_
                refine r_pures [_] S0 rfl ?_
                clear S0; intro a0 S0
                replace Hq := HS.pull [_, _] Hq
                dsimp only [List.cons_append, List.nil_append] at Hq
                obtain ⟨Xz36, HXz36, HPz36, HBz36⟩ := call_frame [_] Hq
                dsimp only [List.cons_append, List.nil_append] at HXz36 HBz36
                obtain ⟨z37t, Hc, H⟩ := Option.bind_eq_some_iff.mp H
                refine r_call S0 rfl rfl goes36 rfl ?_
                refine (waybillref20_take.calls _ _ _ _ z21x _ _  HXz36 z37t Hc).mono ?_
                rintro e w ⟨z38A, z39m, z40n, rfl, Hq'⟩
                have Hq : HS W0 [own e_api_Timer 32 z38A z39m z40n z37t, own e_i64 3 (some ⟨z31b, 0, none⟩) 1 1 ([(rd e_api_Timer z21x 0).ID] : List Int), own e_i64 3 z34A ((z17x ++ ([(rd e_api_Timer z21x 0).ID] : List Int)).length) z35n (z17x ++ ([(rd e_api_Timer z21x 0).ID] : List Int)), isH X] w := HBz36 [_] _ Hq'
                clear HXz36 HPz36 HBz36 Hq'
                obtain rfl := own_len [] Hq
                refine ⟨.slice z38A z37t.length z40n, rfl, ?_⟩; clear S0; intro a0 S0
                refine r_pures [_] S0 rfl ?_
                clear S0; intro a0 S0
                refine wl_nil ?_
                refine nr_in ?_
                refine nr_then ?_
                replace Hq := HS.pull [_, _, _] Hq
                dsimp only [List.cons_append, List.nil_append] at Hq
                replace Hq := HS.pull [_] Hq
                dsimp only [List.cons_append, List.nil_append] at Hq
                replace Hq := HS.pull [_, _, _] Hq
                dsimp only [List.cons_append, List.nil_append] at Hq
                replace Hq := HS.keep [_, _, _] Hq
                exact ⟨(z17x ++ ([(rd e_api_Timer z21x 0).ID] : List Int)), z37t, z34A, ((z17x ++ ([(rd e_api_Timer z21x 0).ID] : List Int)).length), z35n, z38A, z37t.length, z40n, H, S0.sub ⟨rfl, rfl, rfl, trivial⟩, Hq⟩
              · replace H := (if_neg z33h).symm.trans H
                exact nomatch H
            · replace H := (if_neg z29h).symm.trans H
              exact nomatch H
          · replace H := (if_neg z28h).symm.trans H
            refine w_false S0 rfl (Bool.eq_false_iff.mpr z28h) ?_
            refine w_exit ?_
            refine ex_then ?_
            refine ex_then ?_
            refine ex_in ?_
            refine nr_then ?_
            simp only [Option.some.injEq, Prod.mk.injEq] at H; obtain ⟨rfl, rfl⟩ := H
            exact ⟨z18A, z17x.length, z20n, z22A, z21x.length, z24n, S0.sub ⟨rfl, rfl, trivial⟩, Hq⟩
    · clear S0; rintro a w ⟨z10A, z11m, z12n, z14A, z15m, z16n, S0, Hq⟩
      have H := HU1; clear HU1
      obtain rfl := own_len [] Hq
      obtain rfl := own_len [_] Hq
      refine nr_then ?_
      refine w_seq ?_
      refine w_region ?_
      refine r_pures [_, _, _, _, _] S0 rfl ?_
      clear S0; intro a0 S0
      refine wl_nil ?_
      refine nr_then ?_
      refine w_ret ?_
      obtain rfl := Option.some.inj H
      refine ret3 S0 rfl rfl rfl rfl ?_
      replace Hq := HS.pull [_, _] Hq
      dsimp only [List.cons_append, List.nil_append] at Hq
      replace Hq := HS.pull [_] Hq
      dsimp only [List.cons_append, List.nil_append] at Hq
      replace Hq := HS.pull [_, _] Hq
      dsimp only [List.cons_append, List.nil_append] at Hq
      exact ⟨z14A, z13x.length, z16n, z10A, z9x.length, z12n, rfl, Hq⟩
  · replace H := (if_neg z3h).symm.trans H
    refine w_true S0 rfl (congrArg (!·) (decide_eq_false z3h)) ?_
    refine w_seq ?_
    refine w_region ?_
    refine r_pures [_, _, _, _] S0 rfl ?_
    clear S0; intro a0 S0
    refine wl_nil ?_
    refine nr_then ?_
    refine w_ret ?_
    refine ret_then ?_
    obtain rfl := Option.some.inj H
    replace Hq := HS.own_nil e_api_Timer 32 Hq
    replace Hq := HS.own_nil e_i64 3 Hq
    refine ret3 S0 rfl rfl rfl rfl ?_
    replace Hq := HS.pull [_, _] Hq
    dsimp only [List.cons_append, List.nil_append] at Hq
    replace Hq := HS.pull [_] Hq
    dsimp only [List.cons_append, List.nil_append] at Hq
    replace Hq := HS.pull [_, _] Hq
    dsimp only [List.cons_append, List.nil_append] at Hq
    exact ⟨none, 0, 0, none, 0, 0, rfl, Hq⟩

end Go.Proofs.Ytailjeoimlemnaa.M

/- waybill/waybillref20.Order: a plain function, and that the machine's call comes to it: printed by a program of the session's own. -/
set_option linter.unusedVariables false
set_option linter.unusedSimpArgs false
namespace Go.Proofs.Ytailjeoimlemnaa.M
open Go Go.Proofs.Ytailjeoimlemnaa.Sl
/-! ### waybill/waybillref20.Order: function 17 -/
def waybillref20_Order.l1 : Nat → (List api_Timer) → Int → (List api_Timer) → Int → (List api_Timer) → Option (Int × (List api_Timer))
  | 0, _, _, _, _, _ => none
  | k + 1, x_l, z8x, z9x, z28x, z29x => ((if 0 < z28x then (if 0 ≤ z8x then (if z8x < (x_l.length : Int) then (if 0 ≤ (IntKind.i64.wrap (z28x - 1)) then (if (IntKind.i64.wrap (z28x - 1)) < ((z9x ++ ([(rd e_api_Timer x_l z8x)] : List api_Timer)).length : Int) then ((waybillref20_Ahead.f (rd e_api_Timer x_l z8x) (rd e_api_Timer z29x (IntKind.i64.wrap (z28x - 1)))).bind fun z49t => (some z49t)) else (none)) else (none)) else (none)) else (none)) else (some false)) : Option (Bool)).bind fun z30x => (if z30x = true then (if 0 ≤ (IntKind.i64.wrap (z28x - 1)) then (if (IntKind.i64.wrap (z28x - 1)) < ((z9x ++ ([(rd e_api_Timer x_l z8x)] : List api_Timer)).length : Int) then (if 0 ≤ z28x then (if z28x < ((z9x ++ ([(rd e_api_Timer x_l z8x)] : List api_Timer)).length : Int) then (waybillref20_Order.l1 k x_l z8x z9x (IntKind.i64.wrap (z28x - 1)) (z29x.set (Int.toNat z28x) (rd e_api_Timer z29x (IntKind.i64.wrap (z28x - 1))))) else (none)) else (none)) else (none)) else (none)) else (some (z28x, z29x)))
def waybillref20_Order.l0 : Nat → (List api_Timer) → Int → (List api_Timer) → Option ((List api_Timer))
  | 0, _, _, _ => none
  | k + 1, x_l, z8x, z9x => if z8x < (x_l.length : Int) then (((if 0 ≤ z8x then (if z9x.length + ([(rd e_api_Timer x_l z8x)] : List api_Timer).length < 8796093022208 then ((((waybillref20_Order.l1 k x_l z8x z9x (z9x.length : Int) (z9x ++ ([(rd e_api_Timer x_l z8x)] : List api_Timer)))) : Option (Int × (List api_Timer))).bind fun (z26x, z27x) => (if 0 ≤ z26x then (if z26x < ((z9x ++ ([(rd e_api_Timer x_l z8x)] : List api_Timer)).length : Int) then (some (z27x.set (Int.toNat z26x) (rd e_api_Timer x_l z8x))) else (none)) else (none))) else (none)) else (none)) : Option ((List api_Timer))).bind fun z14x => (waybillref20_Order.l0 k x_l (IntKind.i64.wrap (z8x + 1)) z14x)) else (some z9x)
def waybillref20_Order.f (k : Nat) (x_l : List api_Timer) : Option ((List api_Timer) × Int) := (waybillref20_Check.f k x_l).bind fun z2t => (if z2t = 0 then ((((waybillref20_Order.l0 k x_l 0 ([] : List api_Timer))) : Option ((List api_Timer))).bind fun z4x => (some (z4x, 0))) else (some (([] : List api_Timer), z2t)))
set_option maxRecDepth 100000 in
set_option maxHeartbeats 4000000 in
theorem waybillref20_Order.calls (k : Nat) (A0 : Option Addr) (n0 c0 : Nat) (x_l : List api_Timer) (W0 : World) (X : Heap) (HR0 : Rd e_api_Timer X A0 n0 c0 x_l) (Hq : HS W0 [isH X] W0) (r : (List api_Timer) × Int) (H : waybillref20_Order.f k x_l = some r) :
    Calls Try.prog 17 #[.slice A0 n0 c0] W0 (fun e w => ∃ Ar0 nr0 cr0, e = .returned (.tuple #[.slice Ar0 nr0 cr0, .int .i64 r.2]) ∧ HS W0 [own e_api_Timer 32 Ar0 nr0 cr0 r.1, isH X] w) := by
  obtain rfl := HR0.1
  rw [waybillref20_Order.f] at H
  refine calls_in Try.func17 rfl rfl ?_
  intro a0 S0
  refine w_seq ?_
  refine w_region ?_
  refine r_pures [_, _] S0 rfl ?_
  clear S0; intro a0 S0
  refine wl_nil ?_
  refine nr_then ?_
  refine w_seq ?_
  refine w_region ?_
  refine r_pures [_] S0 rfl ?_
  clear S0; intro a0 S0
  obtain ⟨Xz1, HXz1, HPz1, HBz1⟩ := call_frame [] Hq
  dsimp only [List.cons_append, List.nil_append] at HXz1 HBz1
  obtain ⟨z2t, Hc, H⟩ := Option.bind_eq_some_iff.mp H
  refine r_call S0 rfl rfl goes23 rfl ?_
  refine (waybillref20_Check.calls _ _ _ _ x_l _ _ (sl_isH_rd [] HPz1 HR0) HXz1 z2t Hc).mono ?_
  rintro e w ⟨rfl, Hq'⟩
  have Hq : HS W0 [isH X] w := HBz1 [] _ Hq'
  clear HXz1 HPz1 HBz1 Hq'
  refine ⟨.int .i64 z2t, rfl, ?_⟩; clear S0; intro a0 S0
  refine r_pures [_] S0 rfl ?_
  clear S0; intro a0 S0
  refine wl_nil ?_
  refine nr_then ?_
  refine w_seq ?_
  refine w_seq ?_
  refine w_region ?_
  refine r_pures [_, _] S0 rfl ?_
  clear S0; intro a0 S0
  refine wl_nil ?_
  refine nr_then ?_
  by_cases z3h : z2t = 0
  · replace H := (if_pos z3h).symm.trans H
    refine w_false S0 rfl (congrArg (!·) (decide_eq_true z3h)) ?_
    refine w_skip ?_
    refine nr_then ?_
    refine w_seq ?_
    refine w_region ?_
    refine r_pures [_] S0 rfl ?_
    clear S0; intro a0 S0
    refine wl_nil ?_
    refine nr_then ?_
    refine w_seq ?_
    refine w_seq ?_
    refine w_region ?_
    refine r_pures [_] S0 rfl ?_
    clear S0; intro a0 S0
    refine wl_nil ?_
    refine nr_then ?_
    replace Hq := HS.own_nil e_api_Timer 32 Hq
    obtain ⟨z4x, H, HU1⟩ := Option.bind_eq_some_iff.mp H
    refine w_cutT (fun a w => ∃ z5A z6m z7n, Sl 60 [] [(5, .slice z5A z6m z7n)] a ∧ HS W0 [own e_api_Timer 32 z5A z6m z7n z4x, isH X] w) ?_ ?_
    · skip
      refine w_block ?_
      refine w_loop (fun kq a w => ∃ z8x z9x z10A z11m z12n, waybillref20_Order.l0 kq x_l z8x z9x = some z4x ∧ Sl 60 [] [(0, .slice A0 x_l.length c0), (5, .slice z10A z11m z12n), (6, .int .i64 z8x)] a ∧ HS W0 [own e_api_Timer 32 z10A z11m z12n z9x, isH X] w) _ ⟨0, ([] : List api_Timer), none, 0, 0, H, S0.sub ⟨rfl, rfl, rfl, trivial⟩, Hq⟩ ?_
      clear H Hq S0
      rintro k0 a w ⟨z8x, z9x, z10A, z11m, z12n, H, S0, Hq⟩
      cases k0 with
      | zero => simp [waybillref20_Order.l0] at H
      | succ k0 =>
        refine ⟨k0, rfl, ?_⟩
        rw [waybillref20_Order.l0] at H
        obtain rfl := own_len [] Hq
        refine w_seq ?_
        refine w_seq ?_
        refine w_region ?_
        refine r_pures [_, _] S0 rfl ?_
        clear S0; intro a0 S0
        refine r_len S0 rfl sl22 rfl ?_
        clear S0; intro a0 S0
        refine r_pures [_] S0 rfl ?_
        clear S0; intro a0 S0
        refine wl_nil ?_
        refine nr_then ?_
        by_cases z13h : z8x < (x_l.length : Int)
        · replace H := (if_pos z13h).symm.trans H
          refine w_true S0 rfl (decide_eq_true z13h) ?_
          refine w_skip ?_
          refine nr_then ?_
          refine w_seq ?_
          obtain ⟨z14x, H, HU2⟩ := Option.bind_eq_some_iff.mp H
          refine w_cutT (fun a w => ∃ z15A z16m z17n, Sl 60 [] [(0, .slice A0 x_l.length c0), (5, .slice z15A z16m z17n), (6, .int .i64 z8x)] a ∧ HS W0 [own e_api_Timer 32 z15A z16m z17n z14x, isH X] w) ?_ ?_
          · skip
            refine w_block ?_
            refine w_seq ?_
            refine w_region ?_
            refine r_pures [_] S0 rfl ?_
            clear S0; intro a0 S0
            refine r_len S0 rfl sl22 rfl ?_
            clear S0; intro a0 S0
            refine r_pures [_] S0 rfl ?_
            clear S0; intro a0 S0
            refine wl_nil ?_
            refine nr_then ?_
            refine w_seq ?_
            refine w_region ?_
            refine r_pures [_, _, _] S0 rfl ?_
            clear S0; intro a0 S0
            by_cases z18h : 0 ≤ z8x
            · replace H := (if_pos z18h).symm.trans H
              obtain ⟨z19b, z20o, rfl⟩ := (isH_rd [_] Hq HR0).at (by omega)
              refine r_index S0 rfl rfl sl22 ti32 z18h z13h rfl ?_
              clear S0; intro a0 S0
              refine r_elA (vs := [.int .i64 ((rd e_api_Timer x_l z8x).At), .int .i64 ((rd e_api_Timer x_l z8x).ID)]) S0 (isH_rd [_] Hq HR0) z18h z13h rfl ti32 rfl rfl rfl ?_
              clear S0; intro a0 S0
              refine r_lit (e := e_api_Timer) (l := ([(rd e_api_Timer x_l z8x)] : List api_Timer)) (m := 1) (vs := [.agg #[.int .i64 ((rd e_api_Timer x_l z8x).At), .int .i64 ((rd e_api_Timer x_l z8x).ID)]]) S0 Hq sl22 ti32 rfl rfl rfl rfl rfl rfl ?_
              clear S0 Hq; intro z21b a0 w S0 Hq
              by_cases z23h : z9x.length + ([(rd e_api_Timer x_l z8x)] : List api_Timer).length < 8796093022208
              · replace H := (if_pos z23h).symm.trans H
                refine r_app [_] S0 Hq (own_rd [] Hq) rfl rfl sl22 ti32 rfl z23h rfl rfl ?_
                clear S0 Hq; intro z24A z25n a0 w S0 Hq; dsimp only [List.cons_append, List.nil_append] at Hq
                refine r_pures [_] S0 rfl ?_
                clear S0; intro a0 S0
                refine wl_nil ?_
                refine nr_then ?_
                refine w_seq ?_
                obtain ⟨⟨z26x, z27x⟩, H, HU3⟩ := Option.bind_eq_some_iff.mp H
                dsimp only at HU3
                refine w_cutT (fun a w => Sl 60 [] [(0, .slice (some ⟨z19b, z20o, none⟩) x_l.length c0), (5, .slice z24A ((z9x ++ ([(rd e_api_Timer x_l z8x)] : List api_Timer)).length) z25n), (6, .int .i64 z8x), (7, .int .i64 z26x)] a ∧ HS W0 [own e_api_Timer 32 z24A ((z9x ++ ([(rd e_api_Timer x_l z8x)] : List api_Timer)).length) z25n z27x, isH X] w) ?_ ?_
                · skip
                  refine w_block ?_
                  replace Hq := HS.pull [_, _] Hq
                  dsimp only [List.cons_append, List.nil_append] at Hq
                  replace Hq := HS.pull [_, _] Hq
                  dsimp only [List.cons_append, List.nil_append] at Hq
                  replace Hq := HS.keep [_, _] Hq
                  refine w_loop (fun kq a w => ∃ z28x z29x, waybillref20_Order.l1 kq x_l z8x z9x z28x z29x = some (z26x, z27x) ∧ Sl 60 [] [(0, .slice (some ⟨z19b, z20o, none⟩) x_l.length c0), (5, .slice z24A ((z9x ++ ([(rd e_api_Timer x_l z8x)] : List api_Timer)).length) z25n), (6, .int .i64 z8x), (7, .int .i64 z28x)] a ∧ HS W0 [own e_api_Timer 32 z24A ((z9x ++ ([(rd e_api_Timer x_l z8x)] : List api_Timer)).length) z25n z29x, isH X] w) _ ⟨(z9x.length : Int), (z9x ++ ([(rd e_api_Timer x_l z8x)] : List api_Timer)), H, S0.sub ⟨rfl, rfl, rfl, rfl, trivial⟩, Hq⟩ ?_
                  clear H Hq S0
                  rintro k1 a w ⟨z28x, z29x, H, S0, Hq⟩
                  cases k1 with
                  | zero => simp [waybillref20_Order.l1] at H
                  | succ k1 =>
                    refine ⟨k1, rfl, ?_⟩
                    rw [waybillref20_Order.l1] at H
                    refine w_seq ?_
                    refine w_seq ?_
                    obtain ⟨z30x, H, HU4⟩ := Option.bind_eq_some_iff.mp H
                    refine w_cutT (fun a w => Sl 60 [] [(0, .slice (some ⟨z19b, z20o, none⟩) x_l.length c0), (5, .slice z24A ((z9x ++ ([(rd e_api_Timer x_l z8x)] : List api_Timer)).length) z25n), (6, .int .i64 z8x), (7, .int .i64 z28x), (41, .bool z30x)] a ∧ HS W0 [own e_api_Timer 32 z24A ((z9x ++ ([(rd e_api_Timer x_l z8x)] : List api_Timer)).length) z25n z29x, isH X] w) ?_ ?_
                    · skip
                      refine w_draw TryM.mixed (.pu 0 (.pu 1 (.pu 2 (.pu 3 (.pu 4 (.pu 5 (.pu 7 (.pu 8 (.pu 9 (.pu 10 (.rd 6 (.rd 11 (.ds 12 (.pu 13 .done)))))))))))))) (by kernel_rfl) rfl ?_
                      replace Hq := Hq.drew
                      refine st_pures [0, 1, 2] S0 rfl ?_
                      intro az31q Sz31q
                      by_cases z32h : 0 < z28x
                      · replace H := (if_pos z32h).symm.trans H
                        refine st_pu Sz31q rfl (g_on Sz31q rfl rfl rfl rfl (decide_eq_true z32h)) rfl rfl (fun _ => y_of Sz31q _ rfl) ?_
                        intro az33q Sz33q
                        refine st_pu Sz33q rfl (g_on Sz33q rfl rfl rfl rfl (decide_eq_true z32h)) rfl rfl (fun _ => y_of Sz33q _ rfl) ?_
                        intro az34q Sz34q
                        by_cases z35h : 0 ≤ z8x
                        · replace H := (if_pos z35h).symm.trans H
                          by_cases z36h : z8x < (x_l.length : Int)
                          · replace H := (if_pos z36h).symm.trans H
                            refine st_pu Sz34q rfl (g_on Sz34q rfl rfl rfl rfl (decide_eq_true z32h)) rfl rfl (fun _ => y_index Sz34q rfl rfl sl22 ti32 z35h z36h) ?_
                            intro az37q Sz37q
                            refine st_pu Sz37q rfl (g_on Sz37q rfl rfl rfl rfl (decide_eq_true z32h)) rfl rfl (fun _ => y_of Sz37q _ rfl) ?_
                            intro az38q Sz38q
                            refine st_pu Sz38q rfl (g_on Sz38q rfl rfl rfl rfl (decide_eq_true z32h)) rfl rfl (fun _ => y_of Sz38q _ rfl) ?_
                            intro az39q Sz39q
                            refine st_pu Sz39q rfl (g_on Sz39q rfl rfl rfl rfl (decide_eq_true z32h)) rfl rfl (fun _ => y_of Sz39q _ rfl) ?_
                            intro az40q Sz40q
                            by_cases z41h : 0 ≤ (IntKind.i64.wrap (z28x - 1))
                            · replace H := (if_pos z41h).symm.trans H
                              by_cases z42h : (IntKind.i64.wrap (z28x - 1)) < ((z9x ++ ([(rd e_api_Timer x_l z8x)] : List api_Timer)).length : Int)
                              · replace H := (if_pos z42h).symm.trans H
                                obtain ⟨z43g, rfl⟩ := own_at [] Hq (by omega)
                                refine st_pu Sz40q rfl (g_on Sz40q rfl rfl rfl rfl (decide_eq_true z32h)) rfl rfl (fun _ => y_index Sz40q rfl rfl sl22 ti32 z41h z42h) ?_
                                intro az44q Sz44q
                                refine st_rd Sz44q rfl (g_on Sz44q rfl rfl rfl rfl (decide_eq_true z32h)) rfl rfl (y_elA (vs := [.int .i64 ((rd e_api_Timer x_l z8x).At), .int .i64 ((rd e_api_Timer x_l z8x).ID)]) Sz44q (isH_rd [_] Hq HR0) z35h z36h rfl ti32 rfl rfl) ?_
                                intro az45q Sz45q
                                refine st_rd Sz45q rfl (g_on Sz45q rfl rfl rfl rfl (decide_eq_true z32h)) rfl rfl (y_elA (vs := [.int .i64 ((rd e_api_Timer z29x (IntKind.i64.wrap (z28x - 1))).At), .int .i64 ((rd e_api_Timer z29x (IntKind.i64.wrap (z28x - 1))).ID)]) Sz45q (own_rd [] Hq) z41h z42h rfl ti32 rfl rfl) ?_
                                intro az46q Sz46q
                                refine st_ds rfl ?_
                                refine r_on Sz46q rfl rfl rfl (decide_eq_true z32h) ?_
                                have Sz47q := Sz46q
                                obtain ⟨Xz48, HXz48, HPz48, HBz48⟩ := call_frame [] Hq
                                dsimp only [List.cons_append, List.nil_append] at HXz48 HBz48
                                obtain ⟨z49t, Hc, H⟩ := Option.bind_eq_some_iff.mp H
                                refine r_call Sz47q rfl rfl goes37 rfl ?_
                                refine (waybillref20_Ahead.calls (rd e_api_Timer x_l z8x) (rd e_api_Timer z29x (IntKind.i64.wrap (z28x - 1))) _ _  HXz48 z49t Hc).mono ?_
                                rintro e w ⟨rfl, Hq'⟩
                                have Hq : HS W0 [own e_api_Timer 32 (some ⟨z43g, 0, none⟩) ((z9x ++ ([(rd e_api_Timer x_l z8x)] : List api_Timer)).length) z25n z29x, isH X] w := HBz48 [] _ Hq'
                                clear HXz48 HPz48 HBz48 Hq'
                                refine ⟨.bool z49t, rfl, ?_⟩; clear Sz47q; intro az46q Sz47q
                                refine wl_nil ?_
                                refine nr_then ?_
                                refine st_pu Sz47q rfl (g_none rfl) rfl rfl (fun _ => y_pick Sz47q rfl (decide_eq_true z32h) _ rfl) ?_
                                intro az50q Sz50q
                                refine st_nil ?_
                                replace S0 := Sz50q
                                refine nr_then ?_
                                obtain rfl := Option.some.inj H
                                exact ⟨S0.sub ⟨rfl, rfl, rfl, rfl, rfl, trivial⟩, Hq⟩
                              · replace H := (if_neg z42h).symm.trans H
                                exact nomatch H
                            · replace H := (if_neg z41h).symm.trans H
                              exact nomatch H
                          · replace H := (if_neg z36h).symm.trans H
                            exact nomatch H
                        · replace H := (if_neg z35h).symm.trans H
                          exact nomatch H
                      · replace H := (if_neg z32h).symm.trans H
                        refine st_puOff Sz31q rfl (g_off Sz31q rfl rfl rfl rfl (decide_eq_false z32h)) rfl rfl ?_
                        intro az51q Sz51q
                        refine st_puOff Sz51q rfl (g_off Sz51q rfl rfl rfl rfl (decide_eq_false z32h)) rfl rfl ?_
                        intro az52q Sz52q
                        refine st_puOff Sz52q rfl (g_off Sz52q rfl rfl rfl rfl (decide_eq_false z32h)) rfl rfl ?_
                        intro az53q Sz53q
                        refine st_puOff Sz53q rfl (g_off Sz53q rfl rfl rfl rfl (decide_eq_false z32h)) rfl rfl ?_
                        intro az54q Sz54q
                        refine st_puOff Sz54q rfl (g_off Sz54q rfl rfl rfl rfl (decide_eq_false z32h)) rfl rfl ?_
                        intro az55q Sz55q
                        refine st_puOff Sz55q rfl (g_off Sz55q rfl rfl rfl rfl (decide_eq_false z32h)) rfl rfl ?_
                        intro az56q Sz56q
                        refine st_puOff Sz56q rfl (g_off Sz56q rfl rfl rfl rfl (decide_eq_false z32h)) rfl rfl ?_
                        intro az57q Sz57q
                        refine st_rdOff Sz57q rfl (g_off Sz57q rfl rfl rfl rfl (decide_eq_false z32h)) rfl rfl ?_
                        intro az58q Sz58q
                        refine st_rdOff Sz58q rfl (g_off Sz58q rfl rfl rfl rfl (decide_eq_false z32h)) rfl rfl ?_
                        intro az59q Sz59q
                        refine st_ds rfl ?_
                        refine r_off Sz59q rfl rfl rfl (decide_eq_false z32h) ?_ rfl
                        intro az60q Sz60q
                        refine wl_nil ?_
                        refine nr_then ?_
                        refine st_pu Sz60q rfl (g_none rfl) rfl rfl (fun _ => y_pick Sz60q rfl (decide_eq_false z32h) _ rfl) ?_
                        intro az61q Sz61q
                        refine st_nil ?_
                        replace S0 := Sz61q
                        refine nr_then ?_
                        obtain rfl := Option.some.inj H
                        exact ⟨S0.sub ⟨rfl, rfl, rfl, rfl, rfl, trivial⟩, Hq⟩
                    · clear S0; rintro a w ⟨S0, Hq⟩
                      have H := HU4; clear HU4
                      refine nr_then ?_
                      by_cases z62h : z30x = true
                      · replace H := (if_pos z62h).symm.trans H
                        refine w_true S0 rfl z62h ?_
                        refine w_skip ?_
                        refine nr_then ?_
                        refine w_block ?_
                        refine w_seq ?_
                        refine w_region ?_
                        refine r_pures [_, _, _, _, _] S0 rfl ?_
                        clear S0; intro a0 S0
                        by_cases z63h : 0 ≤ (IntKind.i64.wrap (z28x - 1))
                        · replace H := (if_pos z63h).symm.trans H
                          by_cases z64h : (IntKind.i64.wrap (z28x - 1)) < ((z9x ++ ([(rd e_api_Timer x_l z8x)] : List api_Timer)).length : Int)
                          · replace H := (if_pos z64h).symm.trans H
                            obtain ⟨z65g, rfl⟩ := own_at [] Hq (by omega)
                            refine r_index S0 rfl rfl sl22 ti32 z63h z64h rfl ?_
                            clear S0; intro a0 S0
                            refine r_elA (vs := [.int .i64 ((rd e_api_Timer z29x (IntKind.i64.wrap (z28x - 1))).At), .int .i64 ((rd e_api_Timer z29x (IntKind.i64.wrap (z28x - 1))).ID)]) S0 (own_rd [] Hq) z63h z64h rfl ti32 rfl rfl rfl ?_
                            clear S0; intro a0 S0
                            by_cases z66h : 0 ≤ z28x
                            · replace H := (if_pos z66h).symm.trans H
                              by_cases z67h : z28x < ((z9x ++ ([(rd e_api_Timer x_l z8x)] : List api_Timer)).length : Int)
                              · replace H := (if_pos z67h).symm.trans H
                                refine r_index S0 rfl rfl sl22 ti32 z66h z67h rfl ?_
                                clear S0; intro a0 S0
                                refine r_elst [] S0 Hq z66h z67h rfl rfl ti32 [.int .i64 ((rd e_api_Timer z29x (IntKind.i64.wrap (z28x - 1))).At), .int .i64 ((rd e_api_Timer z29x (IntKind.i64.wrap (z28x - 1))).ID)] rfl rfl rfl rfl (rd e_api_Timer z29x (IntKind.i64.wrap (z28x - 1))) rfl ?_
                                clear Hq; intro w Hq; dsimp only [List.cons_append, List.nil_append] at Hq
                                refine wl_nil ?_
                                refine nr_then ?_
                                refine w_region ?_
                                refine r_pures [_, _, _] S0 rfl ?_
                                clear S0; intro a0 S0
                                refine wl_nil ?_
                                refine nr_in ?_
                                refine nr_then ?_
                                exact ⟨(IntKind.i64.wrap (z28x - 1)), (z29x.set (Int.toNat z28x) (rd e_api_Timer z29x (IntKind.i64.wrap (z28x - 1)))), H, S0.sub ⟨rfl, rfl, rfl, rfl, trivial⟩, Hq⟩
                              · replace H := (if_neg z67h).symm.trans H
                                exact nomatch H
                            · replace H := (if_neg z66h).symm.trans H
                              exact nomatch H
                          · replace H := (if_neg z64h).symm.trans H
                            exact nomatch H
                        · replace H := (if_neg z63h).symm.trans H
                          exact nomatch H
                      · replace H := (if_neg z62h).symm.trans H
                        refine w_false S0 rfl (Bool.eq_false_iff.mpr z62h) ?_
                        refine w_exit ?_
                        refine ex_then ?_
                        refine ex_then ?_
                        refine ex_in ?_
                        refine nr_then ?_
                        simp only [Option.some.injEq, Prod.mk.injEq] at H; obtain ⟨rfl, rfl⟩ := H
                        exact ⟨S0.sub ⟨rfl, rfl, rfl, rfl, trivial⟩, Hq⟩
                · clear S0; rintro a w ⟨S0, Hq⟩
                  have H := HU3; clear HU3
                  refine nr_then ?_
                  refine w_region ?_
                  refine r_pures [_, _, _, _] S0 rfl ?_
                  clear S0; intro a0 S0
                  refine r_index S0 rfl rfl sl22 ti32 z18h z13h rfl ?_
                  clear S0; intro a0 S0
                  refine r_elA (vs := [.int .i64 ((rd e_api_Timer x_l z8x).At), .int .i64 ((rd e_api_Timer x_l z8x).ID)]) S0 (isH_rd [_] Hq HR0) z18h z13h rfl ti32 rfl rfl rfl ?_
                  clear S0; intro a0 S0
                  by_cases z68h : 0 ≤ z26x
                  · replace H := (if_pos z68h).symm.trans H
                    by_cases z69h : z26x < ((z9x ++ ([(rd e_api_Timer x_l z8x)] : List api_Timer)).length : Int)
                    · replace H := (if_pos z69h).symm.trans H
                      obtain ⟨z70g, rfl⟩ := own_at [] Hq (by omega)
                      refine r_index S0 rfl rfl sl22 ti32 z68h z69h rfl ?_
                      clear S0; intro a0 S0
                      refine r_elst [] S0 Hq z68h z69h rfl rfl ti32 [.int .i64 ((rd e_api_Timer x_l z8x).At), .int .i64 ((rd e_api_Timer x_l z8x).ID)] rfl rfl rfl rfl (rd e_api_Timer x_l z8x) rfl ?_
                      clear Hq; intro w Hq; dsimp only [List.cons_append, List.nil_append] at Hq
                      refine wl_nil ?_
                      refine nr_in ?_
                      refine nr_then ?_
                      obtain rfl := Option.some.inj H
                      exact ⟨(some ⟨z70g, 0, none⟩), ((z9x ++ ([(rd e_api_Timer x_l z8x)] : List api_Timer)).length), z25n, S0.sub ⟨rfl, rfl, rfl, trivial⟩, Hq⟩
                    · replace H := (if_neg z69h).symm.trans H
                      exact nomatch H
                  · replace H := (if_neg z68h).symm.trans H
                    exact nomatch H
              · replace H := (if_neg z23h).symm.trans H
                exact nomatch H
            · replace H := (if_neg z18h).symm.trans H
              exact nomatch H
          · clear S0; rintro a w ⟨z15A, z16m, z17n, S0, Hq⟩
            have H := HU2; clear HU2
            obtain rfl := own_len [] Hq
            refine nr_then ?_
            refine w_region ?_
            refine r_pures [_, _, _] S0 rfl ?_
            clear S0; intro a0 S0
            refine wl_nil ?_
            refine nr_then ?_
            exact ⟨(IntKind.i64.wrap (z8x + 1)), z14x, z15A, z14x.length, z17n, H, S0.sub ⟨rfl, rfl, rfl, trivial⟩, Hq⟩
        · replace H := (if_neg z13h).symm.trans H
          refine w_false S0 rfl (decide_eq_false z13h) ?_
          refine w_exit ?_
          refine ex_then ?_
          refine ex_then ?_
          refine ex_in ?_
          refine nr_then ?_
          obtain rfl := Option.some.inj H
          exact ⟨z10A, z9x.length, z12n, S0.sub ⟨rfl, trivial⟩, Hq⟩
    · clear S0; rintro a w ⟨z5A, z6m, z7n, S0, Hq⟩
      have H := HU1; clear HU1
      obtain rfl := own_len [] Hq
      refine nr_then ?_
      refine w_seq ?_
      refine w_region ?_
      refine r_pures [_, _, _] S0 rfl ?_
      clear S0; intro a0 S0
      refine wl_nil ?_
      refine nr_then ?_
      refine w_ret ?_
      obtain rfl := Option.some.inj H
      refine ret2 S0 rfl rfl rfl ?_
      replace Hq := HS.pull [_] Hq
      dsimp only [List.cons_append, List.nil_append] at Hq
      replace Hq := HS.pull [_] Hq
      dsimp only [List.cons_append, List.nil_append] at Hq
      exact ⟨z5A, z4x.length, z7n, rfl, Hq⟩
  · replace H := (if_neg z3h).symm.trans H
    refine w_true S0 rfl (congrArg (!·) (decide_eq_false z3h)) ?_
    refine w_seq ?_
    refine w_region ?_
    refine r_pures [_, _, _] S0 rfl ?_
    clear S0; intro a0 S0
    refine wl_nil ?_
    refine nr_then ?_
    refine w_ret ?_
    refine ret_then ?_
    obtain rfl := Option.some.inj H
    replace Hq := HS.own_nil e_api_Timer 32 Hq
    refine ret2 S0 rfl rfl rfl ?_
    replace Hq := HS.pull [_] Hq
    dsimp only [List.cons_append, List.nil_append] at Hq
    replace Hq := HS.pull [_] Hq
    dsimp only [List.cons_append, List.nil_append] at Hq
    exact ⟨none, 0, 0, rfl, Hq⟩

end Go.Proofs.Ytailjeoimlemnaa.M

/- waybill/waybillref20.First: a plain function, and that the machine's call comes to it: printed by a program of the session's own. -/
set_option linter.unusedVariables false
set_option linter.unusedSimpArgs false
namespace Go.Proofs.Ytailjeoimlemnaa.M
open Go Go.Proofs.Ytailjeoimlemnaa.Sl
/-! ### waybill/waybillref20.First: function 19 -/
def waybillref20_First.f (k : Nat) (x_l : List api_Timer) : Option (api_Timer × Int) := (waybillref20_Check.f k x_l).bind fun z3t => (if z3t = 0 then (if (x_l.length : Int) = 0 then (some ((⟨0, 0⟩ : api_Timer), 71)) else (if 0 < (x_l.length : Int) then (some ((rd e_api_Timer x_l 0), 0)) else (none))) else (some ((⟨0, 0⟩ : api_Timer), z3t)))
set_option maxRecDepth 100000 in
set_option maxHeartbeats 4000000 in
theorem waybillref20_First.calls (k : Nat) (A0 : Option Addr) (n0 c0 : Nat) (x_l : List api_Timer) (W0 : World) (X : Heap) (HR0 : Rd e_api_Timer X A0 n0 c0 x_l) (Hq : HS W0 [isH X] W0) (r : api_Timer × Int) (H : waybillref20_First.f k x_l = some r) :
    Calls Try.prog 19 #[.slice A0 n0 c0] W0 (fun e w => e = .returned (.tuple #[.agg #[.int .i64 r.1.At, .int .i64 r.1.ID], .int .i64 r.2]) ∧ HS W0 [isH X] w) := by
  obtain rfl := HR0.1
  rw [waybillref20_First.f] at H
  refine calls_in Try.func19 rfl rfl ?_
  intro a0 S0
  refine w_seq ?_
  refine w_region ?_
  refine r_alloc S0 Hq ti32 rfl ?_
  clear S0 Hq; intro z1b a0 w S0 Hq
  refine r_pures [_] S0 rfl ?_
  clear S0; intro a0 S0
  refine wl_nil ?_
  refine nr_then ?_
  refine w_seq ?_
  refine w_region ?_
  refine r_pures [_] S0 rfl ?_
  clear S0; intro a0 S0
  obtain ⟨Xz2, HXz2, HPz2, HBz2⟩ := call_frame [] Hq
  dsimp only [List.cons_append, List.nil_append] at HXz2 HBz2
  obtain ⟨z3t, Hc, H⟩ := Option.bind_eq_some_iff.mp H
  refine r_call S0 rfl rfl goes23 rfl ?_
  refine (waybillref20_Check.calls _ _ _ _ x_l _ _ (sl_isH_rd [_] HPz2 HR0) HXz2 z3t Hc).mono ?_
  rintro e w ⟨rfl, Hq'⟩
  have Hq : HS W0 [bx z1b 32 [.int .i64 0, .int .i64 0], isH X] w := HBz2 [] _ Hq'
  clear HXz2 HPz2 HBz2 Hq'
  refine ⟨.int .i64 z3t, rfl, ?_⟩; clear S0; intro a0 S0
  refine r_pures [_] S0 rfl ?_
  clear S0; intro a0 S0
  refine wl_nil ?_
  refine nr_then ?_
  refine w_seq ?_
  refine w_block ?_
  refine w_seq ?_
  refine w_region ?_
  refine r_pures [_, _, _] S0 rfl ?_
  clear S0; intro a0 S0
  refine wl_nil ?_
  refine nr_then ?_
  by_cases z4h : z3t = 0
  · replace H := (if_pos z4h).symm.trans H
    refine w_false S0 rfl (congrArg (!·) (decide_eq_true z4h)) ?_
    refine w_seq ?_
    refine w_region ?_
    refine r_pures [_] S0 rfl ?_
    clear S0; intro a0 S0
    refine r_len S0 rfl sl22 rfl ?_
    clear S0; intro a0 S0
    refine r_pures [_, _] S0 rfl ?_
    clear S0; intro a0 S0
    refine wl_nil ?_
    refine nr_then ?_
    by_cases z5h : (x_l.length : Int) = 0
    · replace H := (if_pos z5h).symm.trans H
      refine w_true S0 rfl (decide_eq_true z5h) ?_
      refine w_seq ?_
      refine w_region ?_
      refine r_build S0 ti32 pl32 rfl [.int .i64 0, .int .i64 0] rfl rfl ?_
      clear S0; intro a0 S0
      refine r_st [] S0 Hq rfl rfl ti32 [.int .i64 0, .int .i64 0] rfl rfl rfl rfl [.int .i64 0, .int .i64 0] rfl ?_
      clear Hq; intro w Hq; dsimp only [List.cons_append, List.nil_append] at Hq
      refine r_pures [_] S0 rfl ?_
      clear S0; intro a0 S0
      refine wl_nil ?_
      refine nr_then ?_
      refine w_ret ?_
      refine ret_in ?_
      refine ret_then ?_
      obtain rfl := Option.some.inj H
      refine retL [.cell 2 32, .tmp 3] [.agg #[.int .i64 0, .int .i64 0], .int .i64 71] S0 rfl ⟨rv_cell [] Hq rfl ti32 rfl rfl, rfl, trivial⟩ (.tuple #[.agg #[.int .i64 0, .int .i64 0], .int .i64 71]) rfl ?_
      replace Hq := HS.pull [_] Hq
      dsimp only [List.cons_append, List.nil_append] at Hq
      replace Hq := HS.keep [_] Hq
      exact ⟨rfl, Hq⟩
    · replace H := (if_neg z5h).symm.trans H
      refine w_false S0 rfl (decide_eq_false z5h) ?_
      refine w_skip ?_
      refine nr_in ?_
      refine nr_then ?_
      refine w_seq ?_
      refine w_region ?_
      refine r_pures [_] S0 rfl ?_
      clear S0; intro a0 S0
      by_cases z6h : 0 < (x_l.length : Int)
      · replace H := (if_pos z6h).symm.trans H
        obtain ⟨z7b, z8o, rfl⟩ := (isH_rd [_] Hq HR0).at (by omega)
        refine r_index S0 rfl rfl sl22 ti32 (by decide : (0:Int) ≤ 0) z6h rfl ?_
        clear S0; intro a0 S0
        refine r_elA (vs := [.int .i64 ((rd e_api_Timer x_l 0).At), .int .i64 ((rd e_api_Timer x_l 0).ID)]) S0 (isH_rd [_] Hq HR0) (by decide : (0:Int) ≤ 0) z6h rfl ti32 rfl rfl rfl ?_
        clear S0; intro a0 S0
        refine r_st [] S0 Hq rfl rfl ti32 [.int .i64 ((rd e_api_Timer x_l 0).At), .int .i64 ((rd e_api_Timer x_l 0).ID)] rfl rfl rfl rfl [.int .i64 ((rd e_api_Timer x_l 0).At), .int .i64 ((rd e_api_Timer x_l 0).ID)] rfl ?_
        clear Hq; intro w Hq; dsimp only [List.cons_append, List.nil_append] at Hq
        refine r_pures [_] S0 rfl ?_
        clear S0; intro a0 S0
        refine wl_nil ?_
        refine nr_then ?_
        refine w_ret ?_
        obtain rfl := Option.some.inj H
        refine retL [.cell 2 32, .tmp 3] [.agg #[.int .i64 ((rd e_api_Timer x_l 0).At), .int .i64 ((rd e_api_Timer x_l 0).ID)], .int .i64 0] S0 rfl ⟨rv_cell [] Hq rfl ti32 rfl rfl, rfl, trivial⟩ (.tuple #[.agg #[.int .i64 ((rd e_api_Timer x_l 0).At), .int .i64 ((rd e_api_Timer x_l 0).ID)], .int .i64 0]) rfl ?_
        replace Hq := HS.pull [_] Hq
        dsimp only [List.cons_append, List.nil_append] at Hq
        replace Hq := HS.keep [_] Hq
        exact ⟨rfl, Hq⟩
      · replace H := (if_neg z6h).symm.trans H
        exact nomatch H
  · replace H := (if_neg z4h).symm.trans H
    refine w_true S0 rfl (congrArg (!·) (decide_eq_false z4h)) ?_
    refine w_seq ?_
    refine w_region ?_
    refine r_build S0 ti32 pl32 rfl [.int .i64 0, .int .i64 0] rfl rfl ?_
    clear S0; intro a0 S0
    refine r_pures [_] S0 rfl ?_
    clear S0; intro a0 S0
    refine r_st [] S0 Hq rfl rfl ti32 [.int .i64 0, .int .i64 0] rfl rfl rfl rfl [.int .i64 0, .int .i64 0] rfl ?_
    clear Hq; intro w Hq; dsimp only [List.cons_append, List.nil_append] at Hq
    refine r_pures [_] S0 rfl ?_
    clear S0; intro a0 S0
    refine wl_nil ?_
    refine nr_then ?_
    refine w_ret ?_
    refine ret_in ?_
    refine ret_then ?_
    obtain rfl := Option.some.inj H
    refine retL [.cell 2 32, .tmp 3] [.agg #[.int .i64 0, .int .i64 0], .int .i64 z3t] S0 rfl ⟨rv_cell [] Hq rfl ti32 rfl rfl, rfl, trivial⟩ (.tuple #[.agg #[.int .i64 0, .int .i64 0], .int .i64 z3t]) rfl ?_
    replace Hq := HS.pull [_] Hq
    dsimp only [List.cons_append, List.nil_append] at Hq
    replace Hq := HS.keep [_] Hq
    exact ⟨rfl, Hq⟩

end Go.Proofs.Ytailjeoimlemnaa.M

/- waybill/waybillref20.Cancel: a plain function, and that the machine's call comes to it: printed by a program of the session's own. -/
set_option linter.unusedVariables false
set_option linter.unusedSimpArgs false
namespace Go.Proofs.Ytailjeoimlemnaa.M
open Go Go.Proofs.Ytailjeoimlemnaa.Sl
/-! ### waybill/waybillref20.Cancel: function 20 -/
def waybillref20_Cancel.l1 : Nat → (List api_Timer) → (List Int) → Int → Bool → Int → Option (Bool)
  | 0, _, _, _, _, _ => none
  | k + 1, x_l, x_ids, z10x, z22x, z23x => if z23x < (x_ids.length : Int) then (((if z22x = true then (some true) else (if 0 ≤ z23x then (if 0 ≤ z10x then (if z10x < (x_l.length : Int) then (some (decide ((rd e_i64 x_ids z23x) = ((rd e_api_Timer x_l z10x).ID)))) else (none)) else (none)) else (none))) : Option (Bool)).bind fun z25x => (waybillref20_Cancel.l1 k x_l x_ids z10x z25x (IntKind.i64.wrap (z23x + 1)))) else (some z22x)
def waybillref20_Cancel.l0 : Nat → (List api_Timer) → (List Int) → Int → Int → (List api_Timer) → Option (Int × (List api_Timer))
  | 0, _, _, _, _, _ => none
  | k + 1, x_l, x_ids, z9x, z10x, z11x => if z10x < (x_l.length : Int) then ((((((waybillref20_Cancel.l1 k x_l x_ids z10x false 0)) : Option (Bool)).bind fun z21x => (((if z21x = true then (some (IntKind.i64.wrap (z9x + 1), z11x)) else (if 0 ≤ z10x then ((waybillref20_put.f k z11x (rd e_api_Timer x_l z10x)).bind fun z69t => (some (z9x, z69t))) else (none))) : Option (Int × (List api_Timer))).bind fun (z59x, z60x) => (some (z59x, z60x)))) : Option (Int × (List api_Timer))).bind fun (z16x, z17x) => (waybillref20_Cancel.l0 k x_l x_ids z16x (IntKind.i64.wrap (z10x + 1)) z17x)) else (some (z9x, z11x))
def waybillref20_Cancel.f (k : Nat) (x_l : List api_Timer) (x_ids : List Int) : Option ((List api_Timer) × Int × Int) := (waybillref20_Check.f k x_l).bind fun z2t => (if z2t = 0 then ((((waybillref20_Cancel.l0 k x_l x_ids 0 0 ([] : List api_Timer))) : Option (Int × (List api_Timer))).bind fun (z4x, z5x) => (some (z5x, z4x, 0))) else (some (([] : List api_Timer), 0, z2t)))
set_option maxRecDepth 100000 in
set_option maxHeartbeats 4000000 in
theorem waybillref20_Cancel.calls (k : Nat) (A0 : Option Addr) (n0 c0 : Nat) (x_l : List api_Timer) (A1 : Option Addr) (n1 c1 : Nat) (x_ids : List Int) (W0 : World) (X : Heap) (HR0 : Rd e_api_Timer X A0 n0 c0 x_l) (HR1 : Rd e_i64 X A1 n1 c1 x_ids) (Hq : HS W0 [isH X] W0) (r : (List api_Timer) × Int × Int) (H : waybillref20_Cancel.f k x_l x_ids = some r) :
    Calls Try.prog 20 #[.slice A0 n0 c0, .slice A1 n1 c1] W0 (fun e w => ∃ Ar0 nr0 cr0, e = .returned (.tuple #[.slice Ar0 nr0 cr0, .int .i64 r.2.1, .int .i64 r.2.2]) ∧ HS W0 [own e_api_Timer 32 Ar0 nr0 cr0 r.1, isH X] w) := by
  obtain rfl := HR0.1
  obtain rfl := HR1.1
  rw [waybillref20_Cancel.f] at H
  refine calls_in Try.func20 rfl rfl ?_
  intro a0 S0
  refine w_seq ?_
  refine w_region ?_
  refine r_pures [_, _, _] S0 rfl ?_
  clear S0; intro a0 S0
  refine wl_nil ?_
  refine nr_then ?_
  refine w_seq ?_
  refine w_region ?_
  refine r_pures [_] S0 rfl ?_
  clear S0; intro a0 S0
  obtain ⟨Xz1, HXz1, HPz1, HBz1⟩ := call_frame [] Hq
  dsimp only [List.cons_append, List.nil_append] at HXz1 HBz1
  obtain ⟨z2t, Hc, H⟩ := Option.bind_eq_some_iff.mp H
  refine r_call S0 rfl rfl goes23 rfl ?_
  refine (waybillref20_Check.calls _ _ _ _ x_l _ _ (sl_isH_rd [] HPz1 HR0) HXz1 z2t Hc).mono ?_
  rintro e w ⟨rfl, Hq'⟩
  have Hq : HS W0 [isH X] w := HBz1 [] _ Hq'
  clear HXz1 HPz1 HBz1 Hq'
  refine ⟨.int .i64 z2t, rfl, ?_⟩; clear S0; intro a0 S0
  refine r_pures [_] S0 rfl ?_
  clear S0; intro a0 S0
  refine wl_nil ?_
  refine nr_then ?_
  refine w_seq ?_
  refine w_seq ?_
  refine w_region ?_
  refine r_pures [_, _] S0 rfl ?_
  clear S0; intro a0 S0
  refine wl_nil ?_
  refine nr_then ?_
  by_cases z3h : z2t = 0
  · replace H := (if_pos z3h).symm.trans H
    refine w_false S0 rfl (congrArg (!·) (decide_eq_true z3h)) ?_
    refine w_skip ?_
    refine nr_then ?_
    refine w_seq ?_
    refine w_region ?_
    refine r_pures [_] S0 rfl ?_
    clear S0; intro a0 S0
    refine wl_nil ?_
    refine nr_then ?_
    refine w_seq ?_
    refine w_region ?_
    refine r_pures [_] S0 rfl ?_
    clear S0; intro a0 S0
    refine wl_nil ?_
    refine nr_then ?_
    refine w_seq ?_
    refine w_seq ?_
    refine w_region ?_
    refine r_pures [_] S0 rfl ?_
    clear S0; intro a0 S0
    refine wl_nil ?_
    refine nr_then ?_
    replace Hq := HS.own_nil e_api_Timer 32 Hq
    obtain ⟨⟨z4x, z5x⟩, H, HU1⟩ := Option.bind_eq_some_iff.mp H
    dsimp only at HU1
    refine w_cutT (fun a w => ∃ z6A z7m z8n, Sl 54 [] [(8, .slice z6A z7m z8n), (9, .int .i64 z4x)] a ∧ HS W0 [own e_api_Timer 32 z6A z7m z8n z5x, isH X] w) ?_ ?_
    · skip
      refine w_block ?_
      refine w_loop (fun kq a w => ∃ z9x z10x z11x z12A z13m z14n, waybillref20_Cancel.l0 kq x_l x_ids z9x z10x z11x = some (z4x, z5x) ∧ Sl 54 [] [(0, .slice A0 x_l.length c0), (1, .slice A1 x_ids.length c1), (8, .slice z12A z13m z14n), (9, .int .i64 z9x), (10, .int .i64 z10x)] a ∧ HS W0 [own e_api_Timer 32 z12A z13m z14n z11x, isH X] w) _ ⟨0, 0, ([] : List api_Timer), none, 0, 0, H, S0.sub ⟨rfl, rfl, rfl, rfl, rfl, trivial⟩, Hq⟩ ?_
      clear H Hq S0
      rintro k0 a w ⟨z9x, z10x, z11x, z12A, z13m, z14n, H, S0, Hq⟩
      cases k0 with
      | zero => simp [waybillref20_Cancel.l0] at H
      | succ k0 =>
        refine ⟨k0, rfl, ?_⟩
        rw [waybillref20_Cancel.l0] at H
        obtain rfl := own_len [] Hq
        refine w_seq ?_
        refine w_seq ?_
        refine w_region ?_
        refine r_pures [_, _] S0 rfl ?_
        clear S0; intro a0 S0
        refine r_len S0 rfl sl22 rfl ?_
        clear S0; intro a0 S0
        refine r_pures [_] S0 rfl ?_
        clear S0; intro a0 S0
        refine wl_nil ?_
        refine nr_then ?_
        by_cases z15h : z10x < (x_l.length : Int)
        · replace H := (if_pos z15h).symm.trans H
          refine w_true S0 rfl (decide_eq_true z15h) ?_
          refine w_skip ?_
          refine nr_then ?_
          refine w_seq ?_
          obtain ⟨⟨z16x, z17x⟩, H, HU2⟩ := Option.bind_eq_some_iff.mp H
          dsimp only at HU2
          refine w_cutT (fun a w => ∃ z18A z19m z20n, Sl 54 [] [(0, .slice A0 x_l.length c0), (1, .slice A1 x_ids.length c1), (8, .slice z18A z19m z20n), (9, .int .i64 z16x), (10, .int .i64 z10x)] a ∧ HS W0 [own e_api_Timer 32 z18A z19m z20n z17x, isH X] w) ?_ ?_
          · skip
            refine w_block ?_
            refine w_seq ?_
            refine w_region ?_
            refine r_pures [_] S0 rfl ?_
            clear S0; intro a0 S0
            refine wl_nil ?_
            refine nr_then ?_
            refine w_seq ?_
            refine w_seq ?_
            refine w_region ?_
            refine r_pures [_] S0 rfl ?_
            clear S0; intro a0 S0
            refine wl_nil ?_
            refine nr_then ?_
            obtain ⟨z21x, H, HU3⟩ := Option.bind_eq_some_iff.mp H
            refine w_cutT (fun a w => Sl 54 [] [(0, .slice A0 x_l.length c0), (1, .slice A1 x_ids.length c1), (8, .slice z12A z11x.length z14n), (9, .int .i64 z9x), (10, .int .i64 z10x), (11, .bool z21x)] a ∧ HS W0 [own e_api_Timer 32 z12A z11x.length z14n z11x, isH X] w) ?_ ?_
            · skip
              refine w_block ?_
              refine w_loop (fun kq a w => ∃ z22x z23x, waybillref20_Cancel.l1 kq x_l x_ids z10x z22x z23x = some z21x ∧ Sl 54 [] [(0, .slice A0 x_l.length c0), (1, .slice A1 x_ids.length c1), (8, .slice z12A z11x.length z14n), (9, .int .i64 z9x), (10, .int .i64 z10x), (11, .bool z22x), (12, .int .i64 z23x)] a ∧ HS W0 [own e_api_Timer 32 z12A z11x.length z14n z11x, isH X] w) _ ⟨false, 0, H, S0.sub ⟨rfl, rfl, rfl, rfl, rfl, rfl, rfl, trivial⟩, Hq⟩ ?_
              clear H Hq S0
              rintro k1 a w ⟨z22x, z23x, H, S0, Hq⟩
              cases k1 with
              | zero => simp [waybillref20_Cancel.l1] at H
              | succ k1 =>
                refine ⟨k1, rfl, ?_⟩
                rw [waybillref20_Cancel.l1] at H
                refine w_seq ?_
                refine w_seq ?_
                refine w_region ?_
                refine r_pures [_, _] S0 rfl ?_
                clear S0; intro a0 S0
                refine r_len S0 rfl sl23 rfl ?_
                clear S0; intro a0 S0
                refine r_pures [_] S0 rfl ?_
                clear S0; intro a0 S0
                refine wl_nil ?_
                refine nr_then ?_
                by_cases z24h : z23x < (x_ids.length : Int)
                · replace H := (if_pos z24h).symm.trans H
                  refine w_true S0 rfl (decide_eq_true z24h) ?_
                  refine w_skip ?_
                  refine nr_then ?_
                  refine w_seq ?_
                  refine w_block ?_
                  obtain ⟨z25x, H, HU4⟩ := Option.bind_eq_some_iff.mp H
                  refine w_cutT (fun a w => Sl 54 [] [(0, .slice A0 x_l.length c0), (1, .slice A1 x_ids.length c1), (8, .slice z12A z11x.length z14n), (9, .int .i64 z9x), (10, .int .i64 z10x), (11, .bool z25x), (12, .int .i64 z23x)] a ∧ HS W0 [own e_api_Timer 32 z12A z11x.length z14n z11x, isH X] w) ?_ ?_
                  · skip
                    refine w_draw TryM.mixed (.pu 0 (.pu 1 (.pu 2 (.pu 3 (.pu 4 (.pu 6 (.pu 7 (.pu 8 (.pu 9 (.rd 5 (.rd 10 (.pu 11 (.pu 12 (.pu 13 .done)))))))))))))) (by kernel_rfl) rfl ?_
                    replace Hq := Hq.drew
                    refine st_pures [0, 1] S0 rfl ?_
                    intro az26q Sz26q
                    by_cases z27h : z22x = true
                    · replace H := (if_pos z27h).symm.trans H
                      refine st_puOff Sz26q rfl (g_off Sz26q rfl rfl rfl rfl z27h) rfl rfl ?_
                      intro az28q Sz28q
                      refine st_puOff Sz28q rfl (g_off Sz28q rfl rfl rfl rfl z27h) rfl rfl ?_
                      intro az29q Sz29q
                      refine st_puOff Sz29q rfl (g_off Sz29q rfl rfl rfl rfl z27h) rfl rfl ?_
                      intro az30q Sz30q
                      refine st_puOff Sz30q rfl (g_off Sz30q rfl rfl rfl rfl z27h) rfl rfl ?_
                      intro az31q Sz31q
                      refine st_puOff Sz31q rfl (g_off Sz31q rfl rfl rfl rfl z27h) rfl rfl ?_
                      intro az32q Sz32q
                      refine st_puOff Sz32q rfl (g_off Sz32q rfl rfl rfl rfl z27h) rfl rfl ?_
                      intro az33q Sz33q
                      refine st_puOff Sz33q rfl (g_off Sz33q rfl rfl rfl rfl z27h) rfl rfl ?_
                      intro az34q Sz34q
                      refine st_rdOff Sz34q rfl (g_off Sz34q rfl rfl rfl rfl z27h) rfl rfl ?_
                      intro az35q Sz35q
                      refine st_rdOff Sz35q rfl (g_off Sz35q rfl rfl rfl rfl z27h) rfl rfl ?_
                      intro az36q Sz36q
                      refine st_puOff Sz36q rfl (g_off Sz36q rfl rfl rfl rfl z27h) rfl rfl ?_
                      intro az37q Sz37q
                      refine st_pu Sz37q rfl (g_none rfl) rfl rfl (fun _ => y_pick Sz37q rfl z27h _ rfl) ?_
                      intro az38q Sz38q
                      refine st_pures [13] Sz38q rfl ?_
                      intro az39q Sz39q
                      refine st_nil ?_
                      replace S0 := Sz39q
                      refine nr_then ?_
                      obtain rfl := Option.some.inj H
                      exact ⟨S0.sub ⟨rfl, rfl, rfl, rfl, rfl, rfl, rfl, trivial⟩, Hq⟩
                    · replace H := (if_neg z27h).symm.trans H
                      refine st_pu Sz26q rfl (g_on Sz26q rfl rfl rfl rfl (Bool.eq_false_iff.mpr z27h)) rfl rfl (fun _ => y_of Sz26q _ rfl) ?_
                      intro az40q Sz40q
                      refine st_pu Sz40q rfl (g_on Sz40q rfl rfl rfl rfl (Bool.eq_false_iff.mpr z27h)) rfl rfl (fun _ => y_of Sz40q _ rfl) ?_
                      intro az41q Sz41q
                      by_cases z42h : 0 ≤ z23x
                      · replace H := (if_pos z42h).symm.trans H
                        obtain ⟨z43b, z44o, rfl⟩ := (isH_rd [_] Hq HR1).at (by omega)
                        refine st_pu Sz41q rfl (g_on Sz41q rfl rfl rfl rfl (Bool.eq_false_iff.mpr z27h)) rfl rfl (fun _ => y_index Sz41q rfl rfl sl23 ti3 z42h z24h) ?_
                        intro az45q Sz45q
                        refine st_pu Sz45q rfl (g_on Sz45q rfl rfl rfl rfl (Bool.eq_false_iff.mpr z27h)) rfl rfl (fun _ => y_of Sz45q _ rfl) ?_
                        intro az46q Sz46q
                        refine st_pu Sz46q rfl (g_on Sz46q rfl rfl rfl rfl (Bool.eq_false_iff.mpr z27h)) rfl rfl (fun _ => y_of Sz46q _ rfl) ?_
                        intro az47q Sz47q
                        by_cases z48h : 0 ≤ z10x
                        · replace H := (if_pos z48h).symm.trans H
                          by_cases z49h : z10x < (x_l.length : Int)
                          · replace H := (if_pos z49h).symm.trans H
                            obtain ⟨z50b, z51o, rfl⟩ := (isH_rd [_] Hq HR0).at (by omega)
                            refine st_pu Sz47q rfl (g_on Sz47q rfl rfl rfl rfl (Bool.eq_false_iff.mpr z27h)) rfl rfl (fun _ => y_index Sz47q rfl rfl sl22 ti32 z48h z49h) ?_
                            intro az52q Sz52q
                            refine st_pu Sz52q rfl (g_on Sz52q rfl rfl rfl rfl (Bool.eq_false_iff.mpr z27h)) rfl rfl (fun _ => y_fieldAddr Sz52q rfl fo32x1 (z51o + Int.toNat z10x * 2 + 1) rfl) ?_
                            intro az53q Sz53q
                            refine st_rd Sz53q rfl (g_on Sz53q rfl rfl rfl rfl (Bool.eq_false_iff.mpr z27h)) rfl rfl (y_elS Sz53q (isH_rd [_] Hq HR1) z42h z24h rfl ti3 _ rfl) ?_
                            intro az54q Sz54q
                            refine st_rd Sz54q rfl (g_on Sz54q rfl rfl rfl rfl (Bool.eq_false_iff.mpr z27h)) rfl rfl (y_elS Sz54q (isH_rd [_] Hq HR0) z48h z49h rfl ti3 _ rfl) ?_
                            intro az55q Sz55q
                            refine st_pu Sz55q rfl (g_on Sz55q rfl rfl rfl rfl (Bool.eq_false_iff.mpr z27h)) rfl rfl (fun _ => y_of Sz55q _ rfl) ?_
                            intro az56q Sz56q
                            refine st_pu Sz56q rfl (g_none rfl) rfl rfl (fun _ => y_pick Sz56q rfl (Bool.eq_false_iff.mpr z27h) _ rfl) ?_
                            intro az57q Sz57q
                            refine st_pures [13] Sz57q rfl ?_
                            intro az58q Sz58q
                            refine st_nil ?_
                            replace S0 := Sz58q
                            refine nr_then ?_
                            obtain rfl := Option.some.inj H
                            exact ⟨S0.sub ⟨rfl, rfl, rfl, rfl, rfl, rfl, rfl, trivial⟩, Hq⟩
                          · replace H := (if_neg z49h).symm.trans H
                            exact nomatch H
                        · replace H := (if_neg z48h).symm.trans H
                          exact nomatch H
                      · replace H := (if_neg z42h).symm.trans H
                        exact nomatch H
                  · clear S0; rintro a w ⟨S0, Hq⟩
                    have H := HU4; clear HU4
                    refine nr_in ?_
                    refine nr_then ?_
                    refine w_region ?_
                    refine r_pures [_, _, _] S0 rfl ?_
                    clear S0; intro a0 S0
                    refine wl_nil ?_
                    refine nr_then ?_
                    exact ⟨z25x, (IntKind.i64.wrap (z23x + 1)), H, S0.sub ⟨rfl, rfl, rfl, rfl, rfl, rfl, rfl, trivial⟩, Hq⟩
                · replace H := (if_neg z24h).symm.trans H
                  refine w_false S0 rfl (decide_eq_false z24h) ?_
                  refine w_exit ?_
                  refine ex_then ?_
                  refine ex_then ?_
                  refine ex_in ?_
                  refine nr_then ?_
                  obtain rfl := Option.some.inj H
                  exact ⟨S0.sub ⟨rfl, rfl, rfl, rfl, rfl, rfl, trivial⟩, Hq⟩
            · clear S0; rintro a w ⟨S0, Hq⟩
              have H := HU3; clear HU3
              refine nr_then ?_
              refine w_seq ?_
              refine w_region ?_
              refine r_pures [_] S0 rfl ?_
              clear S0; intro a0 S0
              refine wl_nil ?_
              refine nr_then ?_
              obtain ⟨⟨z59x, z60x⟩, H, HU5⟩ := Option.bind_eq_some_iff.mp H
              dsimp only at HU5
              refine w_cutT (fun a w => ∃ z61A z62m z63n, Sl 54 [] [(0, .slice A0 x_l.length c0), (1, .slice A1 x_ids.length c1), (8, .slice z61A z62m z63n), (9, .int .i64 z59x), (10, .int .i64 z10x)] a ∧ HS W0 [own e_api_Timer 32 z61A z62m z63n z60x, isH X] w) ?_ ?_
              · skip
                by_cases z64h : z21x = true
                · replace H := (if_pos z64h).symm.trans H
                  refine w_true S0 rfl z64h ?_
                  refine w_region ?_
                  refine r_pures [_, _, _] S0 rfl ?_
                  clear S0; intro a0 S0
                  refine wl_nil ?_
                  refine nr_then ?_
                  simp only [Option.some.injEq, Prod.mk.injEq] at H; obtain ⟨rfl, rfl⟩ := H
                  exact ⟨z12A, z11x.length, z14n, S0.sub ⟨rfl, rfl, rfl, rfl, rfl, trivial⟩, Hq⟩
                · replace H := (if_neg z64h).symm.trans H
                  refine w_false S0 rfl (Bool.eq_false_iff.mpr z64h) ?_
                  refine w_region ?_
                  refine r_pures [_, _, _] S0 rfl ?_
                  clear S0; intro a0 S0
                  by_cases z65h : 0 ≤ z10x
                  · replace H := (if_pos z65h).symm.trans H
                    obtain ⟨z66b, z67o, rfl⟩ := (isH_rd [_] Hq HR0).at (by omega)
                    refine r_index S0 rfl rfl sl22 ti32 z65h z15h rfl ?_
                    clear S0; intro a0 S0
                    refine r_elA (vs := [.int .i64 ((rd e_api_Timer x_l z10x).At), .int .i64 ((rd e_api_Timer x_l z10x).ID)]) S0 (isH_rd [_] Hq HR0) z65h z15h rfl ti32 rfl rfl rfl ?_
                    clear S0; intro a0 S0
                    obtain ⟨Xz68, HXz68, HPz68, HBz68⟩ := call_frame [_] Hq
                    dsimp only [List.cons_append, List.nil_append] at HXz68 HBz68
                    obtain ⟨z69t, Hc, H⟩ := Option.bind_eq_some_iff.mp H
                    refine r_call S0 rfl rfl goes35 rfl ?_
                    refine (waybillref20_put.calls _ _ _ _ z11x (rd e_api_Timer x_l z10x) _ _  HXz68 z69t Hc).mono ?_
                    rintro e w ⟨z70A, z71m, z72n, rfl, Hq'⟩
                    have Hq : HS W0 [own e_api_Timer 32 z70A z71m z72n z69t, isH X] w := HBz68 [_] _ Hq'
                    clear HXz68 HPz68 HBz68 Hq'
                    obtain rfl := own_len [] Hq
                    refine ⟨.slice z70A z69t.length z72n, rfl, ?_⟩; clear S0; intro a0 S0
                    refine r_pures [_] S0 rfl ?_
                    clear S0; intro a0 S0
                    refine wl_nil ?_
                    refine nr_then ?_
                    simp only [Option.some.injEq, Prod.mk.injEq] at H; obtain ⟨rfl, rfl⟩ := H
                    exact ⟨z70A, z69t.length, z72n, S0.sub ⟨rfl, rfl, rfl, rfl, rfl, trivial⟩, Hq⟩
                  · replace H := (if_neg z65h).symm.trans H
                    exact nomatch H
              · clear S0; rintro a w ⟨z61A, z62m, z63n, S0, Hq⟩
                have H := HU5; clear HU5
                obtain rfl := own_len [] Hq
                refine nr_in ?_
                refine nr_then ?_
                simp only [Option.some.injEq, Prod.mk.injEq] at H; obtain ⟨rfl, rfl⟩ := H
                exact ⟨z61A, z60x.length, z63n, S0.sub ⟨rfl, rfl, rfl, rfl, rfl, trivial⟩, Hq⟩
          · clear S0; rintro a w ⟨z18A, z19m, z20n, S0, Hq⟩
            have H := HU2; clear HU2
            obtain rfl := own_len [] Hq
            refine nr_then ?_
            refine w_region ?_
            refine r_pures [_, _, _] S0 rfl ?_
            clear S0; intro a0 S0
            refine wl_nil ?_
            refine nr_then ?_
            exact ⟨z16x, (IntKind.i64.wrap (z10x + 1)), z17x, z18A, z17x.length, z20n, H, S0.sub ⟨rfl, rfl, rfl, rfl, rfl, trivial⟩, Hq⟩
        · replace H := (if_neg z15h).symm.trans H
          refine w_false S0 rfl (decide_eq_false z15h) ?_
          refine w_exit ?_
          refine ex_then ?_
          refine ex_then ?_
          refine ex_in ?_
          refine nr_then ?_
          simp only [Option.some.injEq, Prod.mk.injEq] at H; obtain ⟨rfl, rfl⟩ := H
          exact ⟨z12A, z11x.length, z14n, S0.sub ⟨rfl, rfl, trivial⟩, Hq⟩
    · clear S0; rintro a w ⟨z6A, z7m, z8n, S0, Hq⟩
      have H := HU1; clear HU1
      obtain rfl := own_len [] Hq
      refine nr_then ?_
      refine w_seq ?_
      refine w_region ?_
      refine r_pures [_, _, _, _, _] S0 rfl ?_
      clear S0; intro a0 S0
      refine wl_nil ?_
      refine nr_then ?_
      refine w_ret ?_
      obtain rfl := Option.some.inj H
      refine ret3 S0 rfl rfl rfl rfl ?_
      replace Hq := HS.pull [_] Hq
      dsimp only [List.cons_append, List.nil_append] at Hq
      replace Hq := HS.pull [_] Hq
      dsimp only [List.cons_append, List.nil_append] at Hq
      exact ⟨z6A, z5x.length, z8n, rfl, Hq⟩
  · replace H := (if_neg z3h).symm.trans H
    refine w_true S0 rfl (congrArg (!·) (decide_eq_false z3h)) ?_
    refine w_seq ?_
    refine w_region ?_
    refine r_pures [_, _, _, _] S0 rfl ?_
    clear S0; intro a0 S0
    refine wl_nil ?_
    refine nr_then ?_
    refine w_ret ?_
    refine ret_then ?_
    obtain rfl := Option.some.inj H
    replace Hq := HS.own_nil e_api_Timer 32 Hq
    refine ret3 S0 rfl rfl rfl rfl ?_
    replace Hq := HS.pull [_] Hq
    dsimp only [List.cons_append, List.nil_append] at Hq
    replace Hq := HS.pull [_] Hq
    dsimp only [List.cons_append, List.nil_append] at Hq
    exact ⟨none, 0, 0, rfl, Hq⟩

end Go.Proofs.Ytailjeoimlemnaa.M

/- waybill/waybillplain.SameInts: a plain function, and that the machine's call comes to it: printed by a program of the session's own. -/
set_option linter.unusedVariables false
set_option linter.unusedSimpArgs false
namespace Go.Proofs.Ytailjeoimlemnaa.M
open Go Go.Proofs.Ytailjeoimlemnaa.Sl
/-! ### waybill/waybillplain.SameInts: function 21 -/
def waybillplain_SameInts.l0 : Nat → (List Int) → (List Int) → Int → Option (Bool)
  | 0, _, _, _ => none
  | k + 1, x_a, x_b, z2x => if z2x < (x_a.length : Int) then (if 0 ≤ z2x then (if z2x < (x_b.length : Int) then (if (rd e_i64 x_a z2x) = (rd e_i64 x_b z2x) then (waybillplain_SameInts.l0 k x_a x_b (IntKind.i64.wrap (z2x + 1))) else (some false)) else (none)) else (none)) else (some true)
def waybillplain_SameInts.f (k : Nat) (x_a : List Int) (x_b : List Int) : Option (Bool) := if (x_a.length : Int) = (x_b.length : Int) then ((waybillplain_SameInts.l0 k x_a x_b 0)) else (some false)
set_option maxRecDepth 100000 in
set_option maxHeartbeats 4000000 in
theorem waybillplain_SameInts.calls (k : Nat) (A0 : Option Addr) (n0 c0 : Nat) (x_a : List Int) (A1 : Option Addr) (n1 c1 : Nat) (x_b : List Int) (W0 : World) (X : Heap) (HR0 : Rd e_i64 X A0 n0 c0 x_a) (HR1 : Rd e_i64 X A1 n1 c1 x_b) (Hq : HS W0 [isH X] W0) (r : Bool) (H : waybillplain_SameInts.f k x_a x_b = some r) :
    Calls Try.prog 21 #[.slice A0 n0 c0, .slice A1 n1 c1] W0 (fun e w => e = .returned (.bool r) ∧ HS W0 [isH X] w) := by
  obtain rfl := HR0.1
  obtain rfl := HR1.1
  rw [waybillplain_SameInts.f] at H
  refine calls_in Try.func21 rfl rfl ?_
  intro a0 S0
  refine w_seq ?_
  refine w_region ?_
  refine r_pures [_] S0 rfl ?_
  clear S0; intro a0 S0
  refine wl_nil ?_
  refine nr_then ?_
  refine w_seq ?_
  refine w_seq ?_
  refine w_region ?_
  refine r_pures [_] S0 rfl ?_
  clear S0; intro a0 S0
  refine r_len S0 rfl sl23 rfl ?_
  clear S0; intro a0 S0
  refine r_pures [_] S0 rfl ?_
  clear S0; intro a0 S0
  refine r_len S0 rfl sl23 rfl ?_
  clear S0; intro a0 S0
  refine r_pures [_] S0 rfl ?_
  clear S0; intro a0 S0
  refine wl_nil ?_
  refine nr_then ?_
  by_cases z1h : (x_a.length : Int) = (x_b.length : Int)
  · replace H := (if_pos z1h).symm.trans H
    refine w_false S0 rfl (congrArg (!·) (decide_eq_true z1h)) ?_
    refine w_skip ?_
    refine nr_then ?_
    refine w_seq ?_
    refine w_seq ?_
    refine w_region ?_
    refine r_pures [_] S0 rfl ?_
    clear S0; intro a0 S0
    refine wl_nil ?_
    refine nr_then ?_
    refine w_block ?_
    refine w_loop (fun kq a w => ∃ z2x, waybillplain_SameInts.l0 kq x_a x_b z2x = some r ∧ Sl 26 [] [(0, .slice A0 x_a.length c0), (1, .slice A1 x_b.length c1), (5, .int .i64 z2x)] a ∧ HS W0 [isH X] w) _ ⟨0, H, S0.sub ⟨rfl, rfl, rfl, trivial⟩, Hq⟩ ?_
    clear H Hq S0
    rintro k0 a w ⟨z2x, H, S0, Hq⟩
    cases k0 with
    | zero => simp [waybillplain_SameInts.l0] at H
    | succ k0 =>
      refine ⟨k0, rfl, ?_⟩
      rw [waybillplain_SameInts.l0] at H
      refine w_seq ?_
      refine w_seq ?_
      refine w_region ?_
      refine r_pures [_, _] S0 rfl ?_
      clear S0; intro a0 S0
      refine r_len S0 rfl sl23 rfl ?_
      clear S0; intro a0 S0
      refine r_pures [_] S0 rfl ?_
      clear S0; intro a0 S0
      refine wl_nil ?_
      refine nr_then ?_
      by_cases z3h : z2x < (x_a.length : Int)
      · replace H := (if_pos z3h).symm.trans H
        refine w_true S0 rfl (decide_eq_true z3h) ?_
        refine w_skip ?_
        refine nr_then ?_
        refine w_seq ?_
        refine w_block ?_
        refine w_seq ?_
        refine w_draw TryM.mixed (.pu 0 (.pu 1 (.pu 2 (.pu 4 (.pu 5 (.pu 6 (.rd 3 (.rd 7 (.pu 8 .done))))))))) (by kernel_rfl) rfl ?_
        replace Hq := Hq.drew
        refine st_pures [0, 1] S0 rfl ?_
        intro az4q Sz4q
        by_cases z5h : 0 ≤ z2x
        · replace H := (if_pos z5h).symm.trans H
          obtain ⟨z6b, z7o, rfl⟩ := (isH_rd [] Hq HR0).at (by omega)
          refine st_pu Sz4q rfl (g_none rfl) rfl rfl (fun _ => y_index Sz4q rfl rfl sl23 ti3 z5h z3h) ?_
          intro az8q Sz8q
          refine st_pures [4, 5] Sz8q rfl ?_
          intro az9q Sz9q
          by_cases z10h : z2x < (x_b.length : Int)
          · replace H := (if_pos z10h).symm.trans H
            obtain ⟨z11b, z12o, rfl⟩ := (isH_rd [] Hq HR1).at (by omega)
            refine st_pu Sz9q rfl (g_none rfl) rfl rfl (fun _ => y_index Sz9q rfl rfl sl23 ti3 z5h z10h) ?_
            intro az13q Sz13q
            refine st_rd Sz13q rfl (g_none rfl) rfl rfl (y_elS Sz13q (isH_rd [] Hq HR0) z5h z3h rfl ti3 _ rfl) ?_
            intro az14q Sz14q
            refine st_rd Sz14q rfl (g_none rfl) rfl rfl (y_elS Sz14q (isH_rd [] Hq HR1) z5h z10h rfl ti3 _ rfl) ?_
            intro az15q Sz15q
            refine st_pures [8] Sz15q rfl ?_
            intro az16q Sz16q
            refine st_nil ?_
            replace S0 := Sz16q
            refine nr_then ?_
            by_cases z17h : (rd e_i64 x_a z2x) = (rd e_i64 x_b z2x)
            · replace H := (if_pos z17h).symm.trans H
              refine w_false S0 rfl (congrArg (!·) (decide_eq_true z17h)) ?_
              refine w_skip ?_
              refine nr_in ?_
              refine nr_then ?_
              refine w_region ?_
              refine r_pures [_, _, _] S0 rfl ?_
              clear S0; intro a0 S0
              refine wl_nil ?_
              refine nr_then ?_
              exact ⟨(IntKind.i64.wrap (z2x + 1)), H, S0.sub ⟨rfl, rfl, rfl, trivial⟩, Hq⟩
            · replace H := (if_neg z17h).symm.trans H
              refine w_true S0 rfl (congrArg (!·) (decide_eq_false z17h)) ?_
              refine w_seq ?_
              refine w_region ?_
              refine r_pures [_] S0 rfl ?_
              clear S0; intro a0 S0
              refine wl_nil ?_
              refine nr_then ?_
              refine w_ret ?_
              refine ret_in ?_
              refine ret_then ?_
              refine ret_then ?_
              refine ret_in ?_
              refine ret_then ?_
              obtain rfl := Option.some.inj H
              refine ret1 S0 rfl rfl ?_
              exact ⟨rfl, Hq⟩
          · replace H := (if_neg z10h).symm.trans H
            exact nomatch H
        · replace H := (if_neg z5h).symm.trans H
          exact nomatch H
      · replace H := (if_neg z3h).symm.trans H
        refine w_false S0 rfl (decide_eq_false z3h) ?_
        refine w_exit ?_
        refine ex_then ?_
        refine ex_then ?_
        refine ex_in ?_
        refine nr_then ?_
        refine w_seq ?_
        refine w_region ?_
        refine r_pures [_] S0 rfl ?_
        clear S0; intro a0 S0
        refine wl_nil ?_
        refine nr_then ?_
        refine w_ret ?_
        obtain rfl := Option.some.inj H
        refine ret1 S0 rfl rfl ?_
        exact ⟨rfl, Hq⟩
  · replace H := (if_neg z1h).symm.trans H
    refine w_true S0 rfl (congrArg (!·) (decide_eq_false z1h)) ?_
    refine w_seq ?_
    refine w_region ?_
    refine r_pures [_] S0 rfl ?_
    clear S0; intro a0 S0
    refine wl_nil ?_
    refine nr_then ?_
    refine w_ret ?_
    refine ret_then ?_
    obtain rfl := Option.some.inj H
    refine ret1 S0 rfl rfl ?_
    exact ⟨rfl, Hq⟩

end Go.Proofs.Ytailjeoimlemnaa.M

/- waybill/waybilllaw20.TimerTells: a plain function, and that the machine's call comes to it: printed by a program of the session's own. -/
set_option linter.unusedVariables false
set_option linter.unusedSimpArgs false
namespace Go.Proofs.Ytailjeoimlemnaa.M
open Go Go.Proofs.Ytailjeoimlemnaa.Sl
/-! ### waybill/waybilllaw20.TimerTells: function 6 -/
def waybilllaw20_TimerTells.f (k : Nat) (x_l : List api_Timer) (x_more : List api_Timer) (x_tick : Int) (x_ids : List Int) : Option (Bool) := (waybillref20_Own.f x_l).bind fun z2t => ((timer_Add.f k z2t x_more).bind fun (z7t, z8t) => ((waybillref20_Add.f k x_l x_more).bind fun (z13t, z14t) => ((timer_First.f k z2t).bind fun (z19t, z20t) => ((waybillref20_First.f k x_l).bind fun (z23t, z24t) => ((timer_Due.f k z2t x_tick).bind fun (z27t, z28t, z29t) => ((waybillref20_Due.f k x_l x_tick).bind fun (z37t, z38t, z39t) => ((timer_Cancel.f k z2t x_ids).bind fun (z47t, z48t, z49t) => ((waybillref20_Cancel.f k x_l x_ids).bind fun (z54t, z55t, z56t) => ((timer_Order.f k z2t).bind fun (z61t, z62t) => ((waybillref20_Order.f k x_l).bind fun (z67t, z68t) => ((((waybillplain_SameTimers.f k z7t z13t).bind fun z74t => (if z74t = true then ((waybilllaw20_num.f z8t).bind fun z77t => (if z77t = z14t then (if z19t = z23t then ((waybilllaw20_num.f z20t).bind fun z81t => (if z81t = z24t then ((waybillplain_SameTimers.f k z27t z37t).bind fun z84t => (if z84t = true then ((waybillplain_SameInts.f k z28t z38t).bind fun z87t => (if z87t = true then ((waybilllaw20_num.f z29t).bind fun z90t => (if z90t = z39t then ((waybillplain_SameTimers.f k z47t z54t).bind fun z93t => (if z93t = true then (if z48t = z55t then ((waybilllaw20_num.f z49t).bind fun z97t => (some (!(decide (z97t = z56t))))) else (some true)) else (some true))) else (some true))) else (some true))) else (some true))) else (some true))) else (some true)) else (some true))) else (some true))) : Option (Bool)).bind fun z72x => (if z72x = true then (some false) else ((((waybillplain_SameTimers.f k z61t z67t).bind fun z101t => (if z101t = true then ((waybilllaw20_num.f z62t).bind fun z104t => (if z104t = z68t then ((timer_Check.f k z2t).bind fun z107t => ((waybilllaw20_num.f z107t).bind fun z109t => ((waybillref20_Check.f k x_l).bind fun z111t => (if z109t = z111t then ((waybillplain_SameTimers.f k z2t x_l).bind fun z114t => (if z114t = true then ((waybilllaw20_alive.f k ).bind fun z117t => (some z117t)) else (some false))) else (some false))))) else (some false))) else (some false))) : Option (Bool)).bind fun z99x => (some z99x))))))))))))))
set_option maxRecDepth 100000 in
set_option maxHeartbeats 4000000 in
theorem waybilllaw20_TimerTells.calls (k : Nat) (A0 : Option Addr) (n0 c0 : Nat) (x_l : List api_Timer) (A1 : Option Addr) (n1 c1 : Nat) (x_more : List api_Timer) (x_tick : Int) (A3 : Option Addr) (n3 c3 : Nat) (x_ids : List Int) (W0 : World) (X : Heap) (HR0 : Rd e_api_Timer X A0 n0 c0 x_l) (HR1 : Rd e_api_Timer X A1 n1 c1 x_more) (HR3 : Rd e_i64 X A3 n3 c3 x_ids) (Hq : HS W0 [isH X] W0) (r : Bool) (H : waybilllaw20_TimerTells.f k x_l x_more x_tick x_ids = some r) :
    Calls Try.prog 6 #[.slice A0 n0 c0, .slice A1 n1 c1, .int .i64 x_tick, .slice A3 n3 c3] W0 (fun e w => e = .returned (.bool r) ∧ HS W0 [isH X] w) := by
  obtain rfl := HR0.1
  obtain rfl := HR1.1
  obtain rfl := HR3.1
  rw [waybilllaw20_TimerTells.f] at H
  refine calls_in Try.func6 rfl rfl ?_
  intro a0 S0
  refine w_seq ?_
  refine w_region ?_
  refine r_pures [_] S0 rfl ?_
  clear S0; intro a0 S0
  refine wl_nil ?_
  refine nr_then ?_
  refine w_seq ?_
  refine w_region ?_
  refine r_pures [_] S0 rfl ?_
  clear S0; intro a0 S0
  obtain ⟨Xz1, HXz1, HPz1, HBz1⟩ := call_frame [] Hq
  dsimp only [List.cons_append, List.nil_append] at HXz1 HBz1
  obtain ⟨z2t, Hc, H⟩ := Option.bind_eq_some_iff.mp H
  refine r_call S0 rfl rfl goes13 rfl ?_
  refine (waybillref20_Own.calls _ _ _ x_l _ _ (sl_isH_rd [] HPz1 HR0) HXz1 z2t Hc).mono ?_
  rintro e w ⟨z3A, z4m, z5n, rfl, Hq'⟩
  have Hq : HS W0 [own e_api_Timer 32 z3A z4m z5n z2t, isH X] w := HBz1 [_] _ Hq'
  clear HXz1 HPz1 HBz1 Hq'
  obtain rfl := own_len [] Hq
  refine ⟨.slice z3A z2t.length z5n, rfl, ?_⟩; clear S0; intro a0 S0
  refine r_pures [_] S0 rfl ?_
  clear S0; intro a0 S0
  refine wl_nil ?_
  refine nr_then ?_
  refine w_seq ?_
  refine w_region ?_
  refine r_pures [_, _] S0 rfl ?_
  clear S0; intro a0 S0
  obtain ⟨Xz6, HXz6, HPz6, HBz6⟩ := call_frame [] Hq
  dsimp only [List.cons_append, List.nil_append] at HXz6 HBz6
  obtain ⟨⟨z7t, z8t⟩, Hc, H⟩ := Option.bind_eq_some_iff.mp H
  dsimp only at H
  refine r_call S0 rfl rfl goes14 rfl ?_
  refine (timer_Add.calls _ _ _ _ z2t _ _ _ x_more _ _ (sl_own_rd [] HPz6) (sl_isH_rd [_] HPz6 HR1) HXz6 (z7t, z8t) Hc).mono ?_
  rintro e w ⟨z9A, z10m, z11n, rfl, Hq'⟩
  have Hq : HS W0 [own e_api_Timer 32 z9A z10m z11n z7t, own e_api_Timer 32 z3A z2t.length z5n z2t, isH X] w := HBz6 [_] _ Hq'
  clear HXz6 HPz6 HBz6 Hq'
  obtain rfl := own_len [] Hq
  refine ⟨.tuple #[.slice z9A z7t.length z11n, .int .i64 z8t], rfl, ?_⟩; clear S0; intro a0 S0
  refine r_pures [_, _, _, _, _] S0 rfl ?_
  clear S0; intro a0 S0
  refine wl_nil ?_
  refine nr_then ?_
  refine w_seq ?_
  refine w_region ?_
  refine r_pures [_, _] S0 rfl ?_
  clear S0; intro a0 S0
  obtain ⟨Xz12, HXz12, HPz12, HBz12⟩ := call_frame [] Hq
  dsimp only [List.cons_append, List.nil_append] at HXz12 HBz12
  obtain ⟨⟨z13t, z14t⟩, Hc, H⟩ := Option.bind_eq_some_iff.mp H
  dsimp only at H
  refine r_call S0 rfl rfl goes15 rfl ?_
  refine (waybillref20_Add.calls _ _ _ _ x_l _ _ _ x_more _ _ (sl_isH_rd [_, _] HPz12 HR0) (sl_isH_rd [_, _] HPz12 HR1) HXz12 (z13t, z14t) Hc).mono ?_
  rintro e w ⟨z15A, z16m, z17n, rfl, Hq'⟩
  have Hq : HS W0 [own e_api_Timer 32 z15A z16m z17n z13t, own e_api_Timer 32 z9A z7t.length z11n z7t, own e_api_Timer 32 z3A z2t.length z5n z2t, isH X] w := HBz12 [_] _ Hq'
  clear HXz12 HPz12 HBz12 Hq'
  obtain rfl := own_len [] Hq
  refine ⟨.tuple #[.slice z15A z13t.length z17n, .int .i64 z14t], rfl, ?_⟩; clear S0; intro a0 S0
  refine r_pures [_, _, _, _, _] S0 rfl ?_
  clear S0; intro a0 S0
  refine wl_nil ?_
  refine nr_then ?_
  refine w_seq ?_
  refine w_region ?_
  refine r_pures [_] S0 rfl ?_
  clear S0; intro a0 S0
  obtain ⟨Xz18, HXz18, HPz18, HBz18⟩ := call_frame [] Hq
  dsimp only [List.cons_append, List.nil_append] at HXz18 HBz18
  obtain ⟨⟨z19t, z20t⟩, Hc, H⟩ := Option.bind_eq_some_iff.mp H
  dsimp only at H
  refine r_call S0 rfl rfl goes18 rfl ?_
  refine (timer_First.calls _ _ _ _ z2t _ _ (sl_own_rd [_, _] HPz18) HXz18 (z19t, z20t) Hc).mono ?_
  rintro e w ⟨rfl, Hq'⟩
  have Hq : HS W0 [own e_api_Timer 32 z15A z13t.length z17n z13t, own e_api_Timer 32 z9A z7t.length z11n z7t, own e_api_Timer 32 z3A z2t.length z5n z2t, isH X] w := HBz18 [] _ Hq'
  clear HXz18 HPz18 HBz18 Hq'
  refine ⟨.tuple #[.agg #[.int .i64 z19t.At, .int .i64 z19t.ID], .int .i64 z20t], rfl, ?_⟩; clear S0; intro a0 S0
  refine r_pures [_, _, _] S0 rfl ?_
  clear S0; intro a0 S0
  refine r_alloc S0 Hq ti32 rfl ?_
  clear S0 Hq; intro z21b a0 w S0 Hq
  refine r_st [] S0 Hq rfl rfl ti32 [.int .i64 z19t.At, .int .i64 z19t.ID] rfl rfl rfl rfl [.int .i64 z19t.At, .int .i64 z19t.ID] rfl ?_
  clear Hq; intro w Hq; dsimp only [List.cons_append, List.nil_append] at Hq
  refine r_pures [_] S0 rfl ?_
  clear S0; intro a0 S0
  refine wl_nil ?_
  refine nr_then ?_
  refine w_seq ?_
  refine w_region ?_
  refine r_pures [_] S0 rfl ?_
  clear S0; intro a0 S0
  obtain ⟨Xz22, HXz22, HPz22, HBz22⟩ := call_frame [] Hq
  dsimp only [List.cons_append, List.nil_append] at HXz22 HBz22
  obtain ⟨⟨z23t, z24t⟩, Hc, H⟩ := Option.bind_eq_some_iff.mp H
  dsimp only at H
  refine r_call S0 rfl rfl goes19 rfl ?_
  refine (waybillref20_First.calls _ _ _ _ x_l _ _ (sl_isH_rd [_, _, _, _] HPz22 HR0) HXz22 (z23t, z24t) Hc).mono ?_
  rintro e w ⟨rfl, Hq'⟩
  have Hq : HS W0 [bx z21b 32 [.int .i64 z19t.At, .int .i64 z19t.ID], own e_api_Timer 32 z15A z13t.length z17n z13t, own e_api_Timer 32 z9A z7t.length z11n z7t, own e_api_Timer 32 z3A z2t.length z5n z2t, isH X] w := HBz22 [] _ Hq'
  clear HXz22 HPz22 HBz22 Hq'
  refine ⟨.tuple #[.agg #[.int .i64 z23t.At, .int .i64 z23t.ID], .int .i64 z24t], rfl, ?_⟩; clear S0; intro a0 S0
  refine r_pures [_, _, _] S0 rfl ?_
  clear S0; intro a0 S0
  refine r_alloc S0 Hq ti32 rfl ?_
  clear S0 Hq; intro z25b a0 w S0 Hq
  refine r_st [] S0 Hq rfl rfl ti32 [.int .i64 z23t.At, .int .i64 z23t.ID] rfl rfl rfl rfl [.int .i64 z23t.At, .int .i64 z23t.ID] rfl ?_
  clear Hq; intro w Hq; dsimp only [List.cons_append, List.nil_append] at Hq
  refine r_pures [_] S0 rfl ?_
  clear S0; intro a0 S0
  refine wl_nil ?_
  refine nr_then ?_
  refine w_seq ?_
  refine w_region ?_
  refine r_pures [_, _] S0 rfl ?_
  clear S0; intro a0 S0
  obtain ⟨Xz26, HXz26, HPz26, HBz26⟩ := call_frame [] Hq
  dsimp only [List.cons_append, List.nil_append] at HXz26 HBz26
  obtain ⟨⟨z27t, z28t, z29t⟩, Hc, H⟩ := Option.bind_eq_some_iff.mp H
  dsimp only at H
  refine r_call S0 rfl rfl goes12 rfl ?_
  refine (timer_Due.calls _ _ _ _ z2t x_tick _ _ (sl_own_rd [_, _, _, _] HPz26) HXz26 (z27t, z28t, z29t) Hc).mono ?_
  rintro e w ⟨z30A, z31m, z32n, z33A, z34m, z35n, rfl, Hq'⟩
  have Hq : HS W0 [own e_api_Timer 32 z30A z31m z32n z27t, own e_i64 3 z33A z34m z35n z28t, bx z25b 32 [.int .i64 z23t.At, .int .i64 z23t.ID], bx z21b 32 [.int .i64 z19t.At, .int .i64 z19t.ID], own e_api_Timer 32 z15A z13t.length z17n z13t, own e_api_Timer 32 z9A z7t.length z11n z7t, own e_api_Timer 32 z3A z2t.length z5n z2t, isH X] w := HBz26 [_, _] _ Hq'
  clear HXz26 HPz26 HBz26 Hq'
  obtain rfl := own_len [] Hq
  obtain rfl := own_len [_] Hq
  refine ⟨.tuple #[.slice z30A z27t.length z32n, .slice z33A z28t.length z35n, .int .i64 z29t], rfl, ?_⟩; clear S0; intro a0 S0
  refine r_pures [_, _, _, _, _, _, _] S0 rfl ?_
  clear S0; intro a0 S0
  refine wl_nil ?_
  refine nr_then ?_
  refine w_seq ?_
  refine w_region ?_
  refine r_pures [_, _] S0 rfl ?_
  clear S0; intro a0 S0
  obtain ⟨Xz36, HXz36, HPz36, HBz36⟩ := call_frame [] Hq
  dsimp only [List.cons_append, List.nil_append] at HXz36 HBz36
  obtain ⟨⟨z37t, z38t, z39t⟩, Hc, H⟩ := Option.bind_eq_some_iff.mp H
  dsimp only at H
  refine r_call S0 rfl rfl goes16 rfl ?_
  refine (waybillref20_Due.calls _ _ _ _ x_l x_tick _ _ (sl_isH_rd [_, _, _, _, _, _, _] HPz36 HR0) HXz36 (z37t, z38t, z39t) Hc).mono ?_
  rintro e w ⟨z40A, z41m, z42n, z43A, z44m, z45n, rfl, Hq'⟩
  have Hq : HS W0 [own e_api_Timer 32 z40A z41m z42n z37t, own e_i64 3 z43A z44m z45n z38t, own e_api_Timer 32 z30A z27t.length z32n z27t, own e_i64 3 z33A z28t.length z35n z28t, bx z25b 32 [.int .i64 z23t.At, .int .i64 z23t.ID], bx z21b 32 [.int .i64 z19t.At, .int .i64 z19t.ID], own e_api_Timer 32 z15A z13t.length z17n z13t, own e_api_Timer 32 z9A z7t.length z11n z7t, own e_api_Timer 32 z3A z2t.length z5n z2t, isH X] w := HBz36 [_, _] _ Hq'
  clear HXz36 HPz36 HBz36 Hq'
  obtain rfl := own_len [] Hq
  obtain rfl := own_len [_] Hq
  refine ⟨.tuple #[.slice z40A z37t.length z42n, .slice z43A z38t.length z45n, .int .i64 z39t], rfl, ?_⟩; clear S0; intro a0 S0
  refine r_pures [_, _, _, _, _, _, _] S0 rfl ?_
  clear S0; intro a0 S0
  refine wl_nil ?_
  refine nr_then ?_
  refine w_seq ?_
  refine w_region ?_
  refine r_pures [_, _] S0 rfl ?_
  clear S0; intro a0 S0
  obtain ⟨Xz46, HXz46, HPz46, HBz46⟩ := call_frame [] Hq
  dsimp only [List.cons_append, List.nil_append] at HXz46 HBz46
  obtain ⟨⟨z47t, z48t, z49t⟩, Hc, H⟩ := Option.bind_eq_some_iff.mp H
  dsimp only at H
  refine r_call S0 rfl rfl goes8 rfl ?_
  refine (timer_Cancel.calls _ _ _ _ z2t _ _ _ x_ids _ _ (sl_own_rd [_, _, _, _, _, _, _, _] HPz46) (sl_isH_rd [_, _, _, _, _, _, _, _, _] HPz46 HR3) HXz46 (z47t, z48t, z49t) Hc).mono ?_
  rintro e w ⟨z50A, z51m, z52n, rfl, Hq'⟩
  have Hq : HS W0 [own e_api_Timer 32 z50A z51m z52n z47t, own e_api_Timer 32 z40A z37t.length z42n z37t, own e_i64 3 z43A z38t.length z45n z38t, own e_api_Timer 32 z30A z27t.length z32n z27t, own e_i64 3 z33A z28t.length z35n z28t, bx z25b 32 [.int .i64 z23t.At, .int .i64 z23t.ID], bx z21b 32 [.int .i64 z19t.At, .int .i64 z19t.ID], own e_api_Timer 32 z15A z13t.length z17n z13t, own e_api_Timer 32 z9A z7t.length z11n z7t, own e_api_Timer 32 z3A z2t.length z5n z2t, isH X] w := HBz46 [_] _ Hq'
  clear HXz46 HPz46 HBz46 Hq'
  obtain rfl := own_len [] Hq
  refine ⟨.tuple #[.slice z50A z47t.length z52n, .int .i64 z48t, .int .i64 z49t], rfl, ?_⟩; clear S0; intro a0 S0
  refine r_pures [_, _, _, _, _, _, _] S0 rfl ?_
  clear S0; intro a0 S0
  refine wl_nil ?_
  refine nr_then ?_
  refine w_seq ?_
  refine w_region ?_
  refine r_pures [_, _] S0 rfl ?_
  clear S0; intro a0 S0
  obtain ⟨Xz53, HXz53, HPz53, HBz53⟩ := call_frame [] Hq
  dsimp only [List.cons_append, List.nil_append] at HXz53 HBz53
  obtain ⟨⟨z54t, z55t, z56t⟩, Hc, H⟩ := Option.bind_eq_some_iff.mp H
  dsimp only at H
  refine r_call S0 rfl rfl goes20 rfl ?_
  refine (waybillref20_Cancel.calls _ _ _ _ x_l _ _ _ x_ids _ _ (sl_isH_rd [_, _, _, _, _, _, _, _, _, _] HPz53 HR0) (sl_isH_rd [_, _, _, _, _, _, _, _, _, _] HPz53 HR3) HXz53 (z54t, z55t, z56t) Hc).mono ?_
  rintro e w ⟨z57A, z58m, z59n, rfl, Hq'⟩
  have Hq : HS W0 [own e_api_Timer 32 z57A z58m z59n z54t, own e_api_Timer 32 z50A z47t.length z52n z47t, own e_api_Timer 32 z40A z37t.length z42n z37t, own e_i64 3 z43A z38t.length z45n z38t, own e_api_Timer 32 z30A z27t.length z32n z27t, own e_i64 3 z33A z28t.length z35n z28t, bx z25b 32 [.int .i64 z23t.At, .int .i64 z23t.ID], bx z21b 32 [.int .i64 z19t.At, .int .i64 z19t.ID], own e_api_Timer 32 z15A z13t.length z17n z13t, own e_api_Timer 32 z9A z7t.length z11n z7t, own e_api_Timer 32 z3A z2t.length z5n z2t, isH X] w := HBz53 [_] _ Hq'
  clear HXz53 HPz53 HBz53 Hq'
  obtain rfl := own_len [] Hq
  refine ⟨.tuple #[.slice z57A z54t.length z59n, .int .i64 z55t, .int .i64 z56t], rfl, ?_⟩; clear S0; intro a0 S0
  refine r_pures [_, _, _, _, _, _, _] S0 rfl ?_
  clear S0; intro a0 S0
  refine wl_nil ?_
  refine nr_then ?_
  refine w_seq ?_
  refine w_region ?_
  refine r_pures [_] S0 rfl ?_
  clear S0; intro a0 S0
  obtain ⟨Xz60, HXz60, HPz60, HBz60⟩ := call_frame [] Hq
  dsimp only [List.cons_append, List.nil_append] at HXz60 HBz60
  obtain ⟨⟨z61t, z62t⟩, Hc, H⟩ := Option.bind_eq_some_iff.mp H
  dsimp only at H
  refine r_call S0 rfl rfl goes9 rfl ?_
  refine (timer_Order.calls _ _ _ _ z2t _ _ (sl_own_rd [_, _, _, _, _, _, _, _, _, _] HPz60) HXz60 (z61t, z62t) Hc).mono ?_
  rintro e w ⟨z63A, z64m, z65n, rfl, Hq'⟩
  have Hq : HS W0 [own e_api_Timer 32 z63A z64m z65n z61t, own e_api_Timer 32 z57A z54t.length z59n z54t, own e_api_Timer 32 z50A z47t.length z52n z47t, own e_api_Timer 32 z40A z37t.length z42n z37t, own e_i64 3 z43A z38t.length z45n z38t, own e_api_Timer 32 z30A z27t.length z32n z27t, own e_i64 3 z33A z28t.length z35n z28t, bx z25b 32 [.int .i64 z23t.At, .int .i64 z23t.ID], bx z21b 32 [.int .i64 z19t.At, .int .i64 z19t.ID], own e_api_Timer 32 z15A z13t.length z17n z13t, own e_api_Timer 32 z9A z7t.length z11n z7t, own e_api_Timer 32 z3A z2t.length z5n z2t, isH X] w := HBz60 [_] _ Hq'
  clear HXz60 HPz60 HBz60 Hq'
  obtain rfl := own_len [] Hq
  refine ⟨.tuple #[.slice z63A z61t.length z65n, .int .i64 z62t], rfl, ?_⟩; clear S0; intro a0 S0
  refine r_pures [_, _, _, _, _] S0 rfl ?_
  clear S0; intro a0 S0
  refine wl_nil ?_
  refine nr_then ?_
  refine w_seq ?_
  refine w_region ?_
  refine r_pures [_] S0 rfl ?_
  clear S0; intro a0 S0
  obtain ⟨Xz66, HXz66, HPz66, HBz66⟩ := call_frame [] Hq
  dsimp only [List.cons_append, List.nil_append] at HXz66 HBz66
  obtain ⟨⟨z67t, z68t⟩, Hc, H⟩ := Option.bind_eq_some_iff.mp H
  dsimp only at H
  refine r_call S0 rfl rfl goes17 rfl ?_
  refine (waybillref20_Order.calls _ _ _ _ x_l _ _ (sl_isH_rd [_, _, _, _, _, _, _, _, _, _, _, _] HPz66 HR0) HXz66 (z67t, z68t) Hc).mono ?_
  rintro e w ⟨z69A, z70m, z71n, rfl, Hq'⟩
  have Hq : HS W0 [own e_api_Timer 32 z69A z70m z71n z67t, own e_api_Timer 32 z63A z61t.length z65n z61t, own e_api_Timer 32 z57A z54t.length z59n z54t, own e_api_Timer 32 z50A z47t.length z52n z47t, own e_api_Timer 32 z40A z37t.length z42n z37t, own e_i64 3 z43A z38t.length z45n z38t, own e_api_Timer 32 z30A z27t.length z32n z27t, own e_i64 3 z33A z28t.length z35n z28t, bx z25b 32 [.int .i64 z23t.At, .int .i64 z23t.ID], bx z21b 32 [.int .i64 z19t.At, .int .i64 z19t.ID], own e_api_Timer 32 z15A z13t.length z17n z13t, own e_api_Timer 32 z9A z7t.length z11n z7t, own e_api_Timer 32 z3A z2t.length z5n z2t, isH X] w := HBz66 [_] _ Hq'
  clear HXz66 HPz66 HBz66 Hq'
  obtain rfl := own_len [] Hq
  refine ⟨.tuple #[.slice z69A z67t.length z71n, .int .i64 z68t], rfl, ?_⟩; clear S0; intro a0 S0
  refine r_pures [_, _, _, _, _] S0 rfl ?_
  clear S0; intro a0 S0
  refine wl_nil ?_
  refine nr_then ?_
  refine w_seq ?_
  refine w_seq ?_
  obtain ⟨z72x, H, HU1⟩ := Option.bind_eq_some_iff.mp H
  refine w_cutT (fun a w => Sl 177 [] [(0, .slice A0 x_l.length c0), (9, .slice z3A z2t.length z5n), (30, .slice z63A z61t.length z65n), (31, .int .i64 z62t), (32, .slice z69A z67t.length z71n), (33, .int .i64 z68t), (151, .bool z72x)] a ∧ HS W0 [own e_api_Timer 32 z69A z67t.length z71n z67t, own e_api_Timer 32 z63A z61t.length z65n z61t, own e_api_Timer 32 z3A z2t.length z5n z2t, isH X] w) ?_ ?_
  · skip
    refine w_region ?_
    refine r_pures [_, _] S0 rfl ?_
    clear S0; intro a0 S0
    obtain ⟨Xz73, HXz73, HPz73, HBz73⟩ := call_frame [] Hq
    dsimp only [List.cons_append, List.nil_append] at HXz73 HBz73
    obtain ⟨z74t, Hc, H⟩ := Option.bind_eq_some_iff.mp H
    refine r_call S0 rfl rfl goes11 rfl ?_
    refine (waybillplain_SameTimers.calls _ _ _ _ z7t _ _ _ z13t _ _ (sl_own_rd [_, _, _, _, _, _, _, _, _, _, _] HPz73) (sl_own_rd [_, _, _, _, _, _, _, _, _, _] HPz73) HXz73 z74t Hc).mono ?_
    rintro e w ⟨rfl, Hq'⟩
    have Hq : HS W0 [own e_api_Timer 32 z69A z67t.length z71n z67t, own e_api_Timer 32 z63A z61t.length z65n z61t, own e_api_Timer 32 z57A z54t.length z59n z54t, own e_api_Timer 32 z50A z47t.length z52n z47t, own e_api_Timer 32 z40A z37t.length z42n z37t, own e_i64 3 z43A z38t.length z45n z38t, own e_api_Timer 32 z30A z27t.length z32n z27t, own e_i64 3 z33A z28t.length z35n z28t, bx z25b 32 [.int .i64 z23t.At, .int .i64 z23t.ID], bx z21b 32 [.int .i64 z19t.At, .int .i64 z19t.ID], own e_api_Timer 32 z15A z13t.length z17n z13t, own e_api_Timer 32 z9A z7t.length z11n z7t, own e_api_Timer 32 z3A z2t.length z5n z2t, isH X] w := HBz73 [] _ Hq'
    clear HXz73 HPz73 HBz73 Hq'
    refine ⟨.bool z74t, rfl, ?_⟩; clear S0; intro a0 S0
    refine r_pures [_, _] S0 rfl ?_
    clear S0; intro a0 S0
    by_cases z75h : z74t = true
    · replace H := (if_pos z75h).symm.trans H
      refine r_on S0 rfl rfl rfl (congrArg (!·) z75h) ?_
      refine r_pures [_] S0 rfl ?_
      clear S0; intro a0 S0
      refine r_on S0 rfl rfl rfl (congrArg (!·) z75h) ?_
      obtain ⟨Xz76, HXz76, HPz76, HBz76⟩ := call_frame [] Hq
      dsimp only [List.cons_append, List.nil_append] at HXz76 HBz76
      obtain ⟨z77t, Hc, H⟩ := Option.bind_eq_some_iff.mp H
      refine r_call S0 rfl rfl goes10 rfl ?_
      refine (waybilllaw20_num.calls z8t _ _  HXz76 z77t Hc).mono ?_
      rintro e w ⟨rfl, Hq'⟩
      have Hq : HS W0 [own e_api_Timer 32 z69A z67t.length z71n z67t, own e_api_Timer 32 z63A z61t.length z65n z61t, own e_api_Timer 32 z57A z54t.length z59n z54t, own e_api_Timer 32 z50A z47t.length z52n z47t, own e_api_Timer 32 z40A z37t.length z42n z37t, own e_i64 3 z43A z38t.length z45n z38t, own e_api_Timer 32 z30A z27t.length z32n z27t, own e_i64 3 z33A z28t.length z35n z28t, bx z25b 32 [.int .i64 z23t.At, .int .i64 z23t.ID], bx z21b 32 [.int .i64 z19t.At, .int .i64 z19t.ID], own e_api_Timer 32 z15A z13t.length z17n z13t, own e_api_Timer 32 z9A z7t.length z11n z7t, own e_api_Timer 32 z3A z2t.length z5n z2t, isH X] w := HBz76 [] _ Hq'
      clear HXz76 HPz76 HBz76 Hq'
      refine ⟨.int .i64 z77t, rfl, ?_⟩; clear S0; intro a0 S0
      refine r_on S0 rfl rfl rfl (congrArg (!·) z75h) ?_
      refine r_pures [_] S0 rfl ?_
      clear S0; intro a0 S0
      refine r_on S0 rfl rfl rfl (congrArg (!·) z75h) ?_
      refine r_pures [_] S0 rfl ?_
      clear S0; intro a0 S0
      refine r_pick S0 rfl (congrArg (!·) z75h) _ rfl rfl ?_
      clear S0; intro a0 S0
      refine r_pures [_] S0 rfl ?_
      clear S0; intro a0 S0
      by_cases z78h : z77t = z14t
      · replace H := (if_pos z78h).symm.trans H
        refine r_on S0 rfl rfl rfl (congrArg (!·) (decide_eq_true z78h)) ?_
        refine r_ldA [_, _, _, _, _, _, _, _, _] S0 Hq rfl ti32 [.int .i64 z19t.At, .int .i64 z19t.ID] rfl rfl rfl ?_
        clear S0; intro a0 S0
        refine r_on S0 rfl rfl rfl (congrArg (!·) (decide_eq_true z78h)) ?_
        refine r_ldA [_, _, _, _, _, _, _, _] S0 Hq rfl ti32 [.int .i64 z23t.At, .int .i64 z23t.ID] rfl rfl rfl ?_
        clear S0; intro a0 S0
        refine r_on S0 rfl rfl rfl (congrArg (!·) (decide_eq_true z78h)) ?_
        refine r_sne (us := [.int .i64 z19t.At, .int .i64 z19t.ID]) (vs := [.int .i64 z23t.At, .int .i64 z23t.ID]) S0 rfl rfl (seq32 z19t z23t) rfl ?_
        clear S0; intro a0 S0
        refine r_pick S0 rfl (congrArg (!·) (decide_eq_true z78h)) _ rfl rfl ?_
        clear S0; intro a0 S0
        refine r_pures [_] S0 rfl ?_
        clear S0; intro a0 S0
        by_cases z79h : z19t = z23t
        · replace H := (if_pos z79h).symm.trans H
          refine r_on S0 rfl rfl rfl (congrArg (!·) (decide_eq_true z79h)) ?_
          refine r_pures [_] S0 rfl ?_
          clear S0; intro a0 S0
          refine r_on S0 rfl rfl rfl (congrArg (!·) (decide_eq_true z79h)) ?_
          obtain ⟨Xz80, HXz80, HPz80, HBz80⟩ := call_frame [] Hq
          dsimp only [List.cons_append, List.nil_append] at HXz80 HBz80
          obtain ⟨z81t, Hc, H⟩ := Option.bind_eq_some_iff.mp H
          refine r_call S0 rfl rfl goes10 rfl ?_
          refine (waybilllaw20_num.calls z20t _ _  HXz80 z81t Hc).mono ?_
          rintro e w ⟨rfl, Hq'⟩
          have Hq : HS W0 [own e_api_Timer 32 z69A z67t.length z71n z67t, own e_api_Timer 32 z63A z61t.length z65n z61t, own e_api_Timer 32 z57A z54t.length z59n z54t, own e_api_Timer 32 z50A z47t.length z52n z47t, own e_api_Timer 32 z40A z37t.length z42n z37t, own e_i64 3 z43A z38t.length z45n z38t, own e_api_Timer 32 z30A z27t.length z32n z27t, own e_i64 3 z33A z28t.length z35n z28t, bx z25b 32 [.int .i64 z23t.At, .int .i64 z23t.ID], bx z21b 32 [.int .i64 z19t.At, .int .i64 z19t.ID], own e_api_Timer 32 z15A z13t.length z17n z13t, own e_api_Timer 32 z9A z7t.length z11n z7t, own e_api_Timer 32 z3A z2t.length z5n z2t, isH X] w := HBz80 [] _ Hq'
          clear HXz80 HPz80 HBz80 Hq'
          refine ⟨.int .i64 z81t, rfl, ?_⟩; clear S0; intro a0 S0
          refine r_on S0 rfl rfl rfl (congrArg (!·) (decide_eq_true z79h)) ?_
          refine r_pures [_] S0 rfl ?_
          clear S0; intro a0 S0
          refine r_on S0 rfl rfl rfl (congrArg (!·) (decide_eq_true z79h)) ?_
          refine r_pures [_] S0 rfl ?_
          clear S0; intro a0 S0
          refine r_pick S0 rfl (congrArg (!·) (decide_eq_true z79h)) _ rfl rfl ?_
          clear S0; intro a0 S0
          refine r_pures [_] S0 rfl ?_
          clear S0; intro a0 S0
          by_cases z82h : z81t = z24t
          · replace H := (if_pos z82h).symm.trans H
            refine r_on S0 rfl rfl rfl (congrArg (!·) (decide_eq_true z82h)) ?_
            refine r_pures [_] S0 rfl ?_
            clear S0; intro a0 S0
            refine r_on S0 rfl rfl rfl (congrArg (!·) (decide_eq_true z82h)) ?_
            refine r_pures [_] S0 rfl ?_
            clear S0; intro a0 S0
            refine r_on S0 rfl rfl rfl (congrArg (!·) (decide_eq_true z82h)) ?_
            obtain ⟨Xz83, HXz83, HPz83, HBz83⟩ := call_frame [] Hq
            dsimp only [List.cons_append, List.nil_append] at HXz83 HBz83
            obtain ⟨z84t, Hc, H⟩ := Option.bind_eq_some_iff.mp H
            refine r_call S0 rfl rfl goes11 rfl ?_
            refine (waybillplain_SameTimers.calls _ _ _ _ z27t _ _ _ z37t _ _ (sl_own_rd [_, _, _, _, _, _] HPz83) (sl_own_rd [_, _, _, _] HPz83) HXz83 z84t Hc).mono ?_
            rintro e w ⟨rfl, Hq'⟩
            have Hq : HS W0 [own e_api_Timer 32 z69A z67t.length z71n z67t, own e_api_Timer 32 z63A z61t.length z65n z61t, own e_api_Timer 32 z57A z54t.length z59n z54t, own e_api_Timer 32 z50A z47t.length z52n z47t, own e_api_Timer 32 z40A z37t.length z42n z37t, own e_i64 3 z43A z38t.length z45n z38t, own e_api_Timer 32 z30A z27t.length z32n z27t, own e_i64 3 z33A z28t.length z35n z28t, bx z25b 32 [.int .i64 z23t.At, .int .i64 z23t.ID], bx z21b 32 [.int .i64 z19t.At, .int .i64 z19t.ID], own e_api_Timer 32 z15A z13t.length z17n z13t, own e_api_Timer 32 z9A z7t.length z11n z7t, own e_api_Timer 32 z3A z2t.length z5n z2t, isH X] w := HBz83 [] _ Hq'
            clear HXz83 HPz83 HBz83 Hq'
            refine ⟨.bool z84t, rfl, ?_⟩; clear S0; intro a0 S0
            refine r_on S0 rfl rfl rfl (congrArg (!·) (decide_eq_true z82h)) ?_
            refine r_pures [_] S0 rfl ?_
            clear S0; intro a0 S0
            refine r_pick S0 rfl (congrArg (!·) (decide_eq_true z82h)) _ rfl rfl ?_
            clear S0; intro a0 S0
            refine r_pures [_] S0 rfl ?_
            clear S0; intro a0 S0
            by_cases z85h : z84t = true
            · replace H := (if_pos z85h).symm.trans H
              refine r_on S0 rfl rfl rfl (congrArg (!·) z85h) ?_
              refine r_pures [_] S0 rfl ?_
              clear S0; intro a0 S0
              refine r_on S0 rfl rfl rfl (congrArg (!·) z85h) ?_
              refine r_pures [_] S0 rfl ?_
              clear S0; intro a0 S0
              refine r_on S0 rfl rfl rfl (congrArg (!·) z85h) ?_
              obtain ⟨Xz86, HXz86, HPz86, HBz86⟩ := call_frame [] Hq
              dsimp only [List.cons_append, List.nil_append] at HXz86 HBz86
              obtain ⟨z87t, Hc, H⟩ := Option.bind_eq_some_iff.mp H
              refine r_call S0 rfl rfl goes21 rfl ?_
              refine (waybillplain_SameInts.calls _ _ _ _ z28t _ _ _ z38t _ _ (sl_own_rd [_, _, _, _, _, _, _] HPz86) (sl_own_rd [_, _, _, _, _] HPz86) HXz86 z87t Hc).mono ?_
              rintro e w ⟨rfl, Hq'⟩
              have Hq : HS W0 [own e_api_Timer 32 z69A z67t.length z71n z67t, own e_api_Timer 32 z63A z61t.length z65n z61t, own e_api_Timer 32 z57A z54t.length z59n z54t, own e_api_Timer 32 z50A z47t.length z52n z47t, own e_api_Timer 32 z40A z37t.length z42n z37t, own e_i64 3 z43A z38t.length z45n z38t, own e_api_Timer 32 z30A z27t.length z32n z27t, own e_i64 3 z33A z28t.length z35n z28t, bx z25b 32 [.int .i64 z23t.At, .int .i64 z23t.ID], bx z21b 32 [.int .i64 z19t.At, .int .i64 z19t.ID], own e_api_Timer 32 z15A z13t.length z17n z13t, own e_api_Timer 32 z9A z7t.length z11n z7t, own e_api_Timer 32 z3A z2t.length z5n z2t, isH X] w := HBz86 [] _ Hq'
              clear HXz86 HPz86 HBz86 Hq'
              refine ⟨.bool z87t, rfl, ?_⟩; clear S0; intro a0 S0
              refine r_on S0 rfl rfl rfl (congrArg (!·) z85h) ?_
              refine r_pures [_] S0 rfl ?_
              clear S0; intro a0 S0
              refine r_pick S0 rfl (congrArg (!·) z85h) _ rfl rfl ?_
              clear S0; intro a0 S0
              refine r_pures [_] S0 rfl ?_
              clear S0; intro a0 S0
              by_cases z88h : z87t = true
              · replace H := (if_pos z88h).symm.trans H
                refine r_on S0 rfl rfl rfl (congrArg (!·) z88h) ?_
                refine r_pures [_] S0 rfl ?_
                clear S0; intro a0 S0
                refine r_on S0 rfl rfl rfl (congrArg (!·) z88h) ?_
                obtain ⟨Xz89, HXz89, HPz89, HBz89⟩ := call_frame [] Hq
                dsimp only [List.cons_append, List.nil_append] at HXz89 HBz89
                obtain ⟨z90t, Hc, H⟩ := Option.bind_eq_some_iff.mp H
                refine r_call S0 rfl rfl goes10 rfl ?_
                refine (waybilllaw20_num.calls z29t _ _  HXz89 z90t Hc).mono ?_
                rintro e w ⟨rfl, Hq'⟩
                have Hq : HS W0 [own e_api_Timer 32 z69A z67t.length z71n z67t, own e_api_Timer 32 z63A z61t.length z65n z61t, own e_api_Timer 32 z57A z54t.length z59n z54t, own e_api_Timer 32 z50A z47t.length z52n z47t, own e_api_Timer 32 z40A z37t.length z42n z37t, own e_i64 3 z43A z38t.length z45n z38t, own e_api_Timer 32 z30A z27t.length z32n z27t, own e_i64 3 z33A z28t.length z35n z28t, bx z25b 32 [.int .i64 z23t.At, .int .i64 z23t.ID], bx z21b 32 [.int .i64 z19t.At, .int .i64 z19t.ID], own e_api_Timer 32 z15A z13t.length z17n z13t, own e_api_Timer 32 z9A z7t.length z11n z7t, own e_api_Timer 32 z3A z2t.length z5n z2t, isH X] w := HBz89 [] _ Hq'
                clear HXz89 HPz89 HBz89 Hq'
                refine ⟨.int .i64 z90t, rfl, ?_⟩; clear S0; intro a0 S0
                refine r_on S0 rfl rfl rfl (congrArg (!·) z88h) ?_
                refine r_pures [_] S0 rfl ?_
                clear S0; intro a0 S0
                refine r_on S0 rfl rfl rfl (congrArg (!·) z88h) ?_
                refine r_pures [_] S0 rfl ?_
                clear S0; intro a0 S0
                refine r_pick S0 rfl (congrArg (!·) z88h) _ rfl rfl ?_
                clear S0; intro a0 S0
                refine r_pures [_] S0 rfl ?_
                clear S0; intro a0 S0
                by_cases z91h : z90t = z39t
                · replace H := (if_pos z91h).symm.trans H
                  refine r_on S0 rfl rfl rfl (congrArg (!·) (decide_eq_true z91h)) ?_
                  refine r_pures [_] S0 rfl ?_
                  clear S0; intro a0 S0
                  refine r_on S0 rfl rfl rfl (congrArg (!·) (decide_eq_true z91h)) ?_
                  refine r_pures [_] S0 rfl ?_
                  clear S0; intro a0 S0
                  refine r_on S0 rfl rfl rfl (congrArg (!·) (decide_eq_true z91h)) ?_
                  obtain ⟨Xz92, HXz92, HPz92, HBz92⟩ := call_frame [] Hq
                  dsimp only [List.cons_append, List.nil_append] at HXz92 HBz92
                  obtain ⟨z93t, Hc, H⟩ := Option.bind_eq_some_iff.mp H
                  refine r_call S0 rfl rfl goes11 rfl ?_
                  refine (waybillplain_SameTimers.calls _ _ _ _ z47t _ _ _ z54t _ _ (sl_own_rd [_, _, _] HPz92) (sl_own_rd [_, _] HPz92) HXz92 z93t Hc).mono ?_
                  rintro e w ⟨rfl, Hq'⟩
                  have Hq : HS W0 [own e_api_Timer 32 z69A z67t.length z71n z67t, own e_api_Timer 32 z63A z61t.length z65n z61t, own e_api_Timer 32 z57A z54t.length z59n z54t, own e_api_Timer 32 z50A z47t.length z52n z47t, own e_api_Timer 32 z40A z37t.length z42n z37t, own e_i64 3 z43A z38t.length z45n z38t, own e_api_Timer 32 z30A z27t.length z32n z27t, own e_i64 3 z33A z28t.length z35n z28t, bx z25b 32 [.int .i64 z23t.At, .int .i64 z23t.ID], bx z21b 32 [.int .i64 z19t.At, .int .i64 z19t.ID], own e_api_Timer 32 z15A z13t.length z17n z13t, own e_api_Timer 32 z9A z7t.length z11n z7t, own e_api_Timer 32 z3A z2t.length z5n z2t, isH X] w := HBz92 [] _ Hq'
                  clear HXz92 HPz92 HBz92 Hq'
                  refine ⟨.bool z93t, rfl, ?_⟩; clear S0; intro a0 S0
                  refine r_on S0 rfl rfl rfl (congrArg (!·) (decide_eq_true z91h)) ?_
                  refine r_pures [_] S0 rfl ?_
                  clear S0; intro a0 S0
                  refine r_pick S0 rfl (congrArg (!·) (decide_eq_true z91h)) _ rfl rfl ?_
                  clear S0; intro a0 S0
                  refine r_pures [_] S0 rfl ?_
                  clear S0; intro a0 S0
                  by_cases z94h : z93t = true
                  · replace H := (if_pos z94h).symm.trans H
                    refine r_on S0 rfl rfl rfl (congrArg (!·) z94h) ?_
                    refine r_pures [_] S0 rfl ?_
                    clear S0; intro a0 S0
                    refine r_on S0 rfl rfl rfl (congrArg (!·) z94h) ?_
                    refine r_pures [_] S0 rfl ?_
                    clear S0; intro a0 S0
                    refine r_on S0 rfl rfl rfl (congrArg (!·) z94h) ?_
                    refine r_pures [_] S0 rfl ?_
                    clear S0; intro a0 S0
                    refine r_pick S0 rfl (congrArg (!·) z94h) _ rfl rfl ?_
                    clear S0; intro a0 S0
                    refine r_pures [_] S0 rfl ?_
                    clear S0; intro a0 S0
                    by_cases z95h : z48t = z55t
                    · replace H := (if_pos z95h).symm.trans H
                      refine r_on S0 rfl rfl rfl (congrArg (!·) (decide_eq_true z95h)) ?_
                      refine r_pures [_] S0 rfl ?_
                      clear S0; intro a0 S0
                      refine r_on S0 rfl rfl rfl (congrArg (!·) (decide_eq_true z95h)) ?_
                      obtain ⟨Xz96, HXz96, HPz96, HBz96⟩ := call_frame [] Hq
                      dsimp only [List.cons_append, List.nil_append] at HXz96 HBz96
                      obtain ⟨z97t, Hc, H⟩ := Option.bind_eq_some_iff.mp H
                      refine r_call S0 rfl rfl goes10 rfl ?_
                      refine (waybilllaw20_num.calls z49t _ _  HXz96 z97t Hc).mono ?_
                      rintro e w ⟨rfl, Hq'⟩
                      have Hq : HS W0 [own e_api_Timer 32 z69A z67t.length z71n z67t, own e_api_Timer 32 z63A z61t.length z65n z61t, own e_api_Timer 32 z57A z54t.length z59n z54t, own e_api_Timer 32 z50A z47t.length z52n z47t, own e_api_Timer 32 z40A z37t.length z42n z37t, own e_i64 3 z43A z38t.length z45n z38t, own e_api_Timer 32 z30A z27t.length z32n z27t, own e_i64 3 z33A z28t.length z35n z28t, bx z25b 32 [.int .i64 z23t.At, .int .i64 z23t.ID], bx z21b 32 [.int .i64 z19t.At, .int .i64 z19t.ID], own e_api_Timer 32 z15A z13t.length z17n z13t, own e_api_Timer 32 z9A z7t.length z11n z7t, own e_api_Timer 32 z3A z2t.length z5n z2t, isH X] w := HBz96 [] _ Hq'
                      clear HXz96 HPz96 HBz96 Hq'
                      refine ⟨.int .i64 z97t, rfl, ?_⟩; clear S0; intro a0 S0
                      refine r_on S0 rfl rfl rfl (congrArg (!·) (decide_eq_true z95h)) ?_
                      refine r_pures [_] S0 rfl ?_
                      clear S0; intro a0 S0
                      refine r_on S0 rfl rfl rfl (congrArg (!·) (decide_eq_true z95h)) ?_
                      refine r_pures [_] S0 rfl ?_
                      clear S0; intro a0 S0
                      refine r_pick S0 rfl (congrArg (!·) (decide_eq_true z95h)) _ rfl rfl ?_
                      clear S0; intro a0 S0
                      refine wl_nil ?_
                      refine nr_then ?_
                      replace Hq := HS.pull [_, _, _, _, _, _, _, _, _, _, _, _, _] Hq
                      dsimp only [List.cons_append, List.nil_append] at Hq
                      replace Hq := HS.pull [_, _, _, _, _, _, _, _, _, _, _, _, _] Hq
                      dsimp only [List.cons_append, List.nil_append] at Hq
                      replace Hq := HS.pull [_, _, _] Hq
                      dsimp only [List.cons_append, List.nil_append] at Hq
                      replace Hq := HS.pull [_, _, _] Hq
                      dsimp only [List.cons_append, List.nil_append] at Hq
                      replace Hq := HS.keep [_, _, _, _] Hq
                      obtain rfl := Option.some.inj H
                      exact ⟨S0.sub ⟨rfl, rfl, rfl, rfl, rfl, rfl, rfl, trivial⟩, Hq⟩
                    · replace H := (if_neg z95h).symm.trans H
                      refine r_off S0 rfl rfl rfl (congrArg (!·) (decide_eq_false z95h)) ?_ rfl
                      clear S0; intro a0 S0
                      refine r_off S0 rfl rfl rfl (congrArg (!·) (decide_eq_false z95h)) ?_ rfl
                      clear S0; intro a0 S0
                      refine r_off S0 rfl rfl rfl (congrArg (!·) (decide_eq_false z95h)) ?_ rfl
                      clear S0; intro a0 S0
                      refine r_off S0 rfl rfl rfl (congrArg (!·) (decide_eq_false z95h)) ?_ rfl
                      clear S0; intro a0 S0
                      refine r_pick S0 rfl (congrArg (!·) (decide_eq_false z95h)) _ rfl rfl ?_
                      clear S0; intro a0 S0
                      refine wl_nil ?_
                      refine nr_then ?_
                      replace Hq := HS.pull [_, _, _, _, _, _, _, _, _, _, _, _, _] Hq
                      dsimp only [List.cons_append, List.nil_append] at Hq
                      replace Hq := HS.pull [_, _, _, _, _, _, _, _, _, _, _, _, _] Hq
                      dsimp only [List.cons_append, List.nil_append] at Hq
                      replace Hq := HS.pull [_, _, _] Hq
                      dsimp only [List.cons_append, List.nil_append] at Hq
                      replace Hq := HS.pull [_, _, _] Hq
                      dsimp only [List.cons_append, List.nil_append] at Hq
                      replace Hq := HS.keep [_, _, _, _] Hq
                      obtain rfl := Option.some.inj H
                      exact ⟨S0.sub ⟨rfl, rfl, rfl, rfl, rfl, rfl, rfl, trivial⟩, Hq⟩
                  · replace H := (if_neg z94h).symm.trans H
                    refine r_off S0 rfl rfl rfl (congrArg (!·) (Bool.eq_false_iff.mpr z94h)) ?_ rfl
                    clear S0; intro a0 S0
                    refine r_off S0 rfl rfl rfl (congrArg (!·) (Bool.eq_false_iff.mpr z94h)) ?_ rfl
                    clear S0; intro a0 S0
                    refine r_off S0 rfl rfl rfl (congrArg (!·) (Bool.eq_false_iff.mpr z94h)) ?_ rfl
                    clear S0; intro a0 S0
                    refine r_pick S0 rfl (congrArg (!·) (Bool.eq_false_iff.mpr z94h)) _ rfl rfl ?_
                    clear S0; intro a0 S0
                    refine r_pures [_] S0 rfl ?_
                    clear S0; intro a0 S0
                    refine r_off S0 rfl rfl rfl rfl ?_ rfl
                    clear S0; intro a0 S0
                    refine r_off S0 rfl rfl rfl rfl ?_ rfl
                    clear S0; intro a0 S0
                    refine r_off S0 rfl rfl rfl rfl ?_ rfl
                    clear S0; intro a0 S0
                    refine r_off S0 rfl rfl rfl rfl ?_ rfl
                    clear S0; intro a0 S0
                    refine r_pick S0 rfl rfl _ rfl rfl ?_
                    clear S0; intro a0 S0
                    refine wl_nil ?_
                    refine nr_then ?_
                    replace Hq := HS.pull [_, _, _, _, _, _, _, _, _, _, _, _, _] Hq
                    dsimp only [List.cons_append, List.nil_append] at Hq
                    replace Hq := HS.pull [_, _, _, _, _, _, _, _, _, _, _, _, _] Hq
                    dsimp only [List.cons_append, List.nil_append] at Hq
                    replace Hq := HS.pull [_, _, _] Hq
                    dsimp only [List.cons_append, List.nil_append] at Hq
                    replace Hq := HS.pull [_, _, _] Hq
                    dsimp only [List.cons_append, List.nil_append] at Hq
                    replace Hq := HS.keep [_, _, _, _] Hq
                    obtain rfl := Option.some.inj H
                    exact ⟨S0.sub ⟨rfl, rfl, rfl, rfl, rfl, rfl, rfl, trivial⟩, Hq⟩
                · replace H := (if_neg z91h).symm.trans H
                  refine r_off S0 rfl rfl rfl (congrArg (!·) (decide_eq_false z91h)) ?_ rfl
                  clear S0; intro a0 S0
                  refine r_off S0 rfl rfl rfl (congrArg (!·) (decide_eq_false z91h)) ?_ rfl
                  clear S0; intro a0 S0
                  refine r_off S0 rfl rfl rfl (congrArg (!·) (decide_eq_false z91h)) ?_ rfl
                  clear S0; intro a0 S0
                  refine r_off S0 rfl rfl rfl (congrArg (!·) (decide_eq_false z91h)) ?_ rfl
                  clear S0; intro a0 S0
                  refine r_pick S0 rfl (congrArg (!·) (decide_eq_false z91h)) _ rfl rfl ?_
                  clear S0; intro a0 S0
                  refine r_pures [_] S0 rfl ?_
                  clear S0; intro a0 S0
                  refine r_off S0 rfl rfl rfl rfl ?_ rfl
                  clear S0; intro a0 S0
                  refine r_off S0 rfl rfl rfl rfl ?_ rfl
                  clear S0; intro a0 S0
                  refine r_off S0 rfl rfl rfl rfl ?_ rfl
                  clear S0; intro a0 S0
                  refine r_pick S0 rfl rfl _ rfl rfl ?_
                  clear S0; intro a0 S0
                  refine r_pures [_] S0 rfl ?_
                  clear S0; intro a0 S0
                  refine r_off S0 rfl rfl rfl rfl ?_ rfl
                  clear S0; intro a0 S0
                  refine r_off S0 rfl rfl rfl rfl ?_ rfl
                  clear S0; intro a0 S0
                  refine r_off S0 rfl rfl rfl rfl ?_ rfl
                  clear S0; intro a0 S0
                  refine r_off S0 rfl rfl rfl rfl ?_ rfl
                  clear S0; intro a0 S0
                  refine r_pick S0 rfl rfl _ rfl rfl ?_
                  clear S0; intro a0 S0
                  refine wl_nil ?_
                  refine nr_then ?_
                  replace Hq := HS.pull [_, _, _, _, _, _, _, _, _, _, _, _, _] Hq
                  dsimp only [List.cons_append, List.nil_append] at Hq
                  replace Hq := HS.pull [_, _, _, _, _, _, _, _, _, _, _, _, _] Hq
                  dsimp only [List.cons_append, List.nil_append] at Hq
                  replace Hq := HS.pull [_, _, _] Hq
                  dsimp only [List.cons_append, List.nil_append] at Hq
                  replace Hq := HS.pull [_, _, _] Hq
                  dsimp only [List.cons_append, List.nil_append] at Hq
                  replace Hq := HS.keep [_, _, _, _] Hq
                  obtain rfl := Option.some.inj H
                  exact ⟨S0.sub ⟨rfl, rfl, rfl, rfl, rfl, rfl, rfl, trivial⟩, Hq⟩
              · replace H := (if_neg z88h).symm.trans H
                refine r_off S0 rfl rfl rfl (congrArg (!·) (Bool.eq_false_iff.mpr z88h)) ?_ rfl
                clear S0; intro a0 S0
                refine r_off S0 rfl rfl rfl (congrArg (!·) (Bool.eq_false_iff.mpr z88h)) ?_ rfl
                clear S0; intro a0 S0
                refine r_off S0 rfl rfl rfl (congrArg (!·) (Bool.eq_false_iff.mpr z88h)) ?_ rfl
                clear S0; intro a0 S0
                refine r_off S0 rfl rfl rfl (congrArg (!·) (Bool.eq_false_iff.mpr z88h)) ?_ rfl
                clear S0; intro a0 S0
                refine r_pick S0 rfl (congrArg (!·) (Bool.eq_false_iff.mpr z88h)) _ rfl rfl ?_
                clear S0; intro a0 S0
                refine r_pures [_] S0 rfl ?_
                clear S0; intro a0 S0
                refine r_off S0 rfl rfl rfl rfl ?_ rfl
                clear S0; intro a0 S0
                refine r_off S0 rfl rfl rfl rfl ?_ rfl
                clear S0; intro a0 S0
                refine r_off S0 rfl rfl rfl rfl ?_ rfl
                clear S0; intro a0 S0
                refine r_off S0 rfl rfl rfl rfl ?_ rfl
                clear S0; intro a0 S0
                refine r_pick S0 rfl rfl _ rfl rfl ?_
                clear S0; intro a0 S0
                refine r_pures [_] S0 rfl ?_
                clear S0; intro a0 S0
                refine r_off S0 rfl rfl rfl rfl ?_ rfl
                clear S0; intro a0 S0
                refine r_off S0 rfl rfl rfl rfl ?_ rfl
                clear S0; intro a0 S0
                refine r_off S0 rfl rfl rfl rfl ?_ rfl
                clear S0; intro a0 S0
                refine r_pick S0 rfl rfl _ rfl rfl ?_
                clear S0; intro a0 S0
                refine r_pures [_] S0 rfl ?_
                clear S0; intro a0 S0
                refine r_off S0 rfl rfl rfl rfl ?_ rfl
                clear S0; intro a0 S0
                refine r_off S0 rfl rfl rfl rfl ?_ rfl
                clear S0; intro a0 S0
                refine r_off S0 rfl rfl rfl rfl ?_ rfl
                clear S0; intro a0 S0
                refine r_off S0 rfl rfl rfl rfl ?_ rfl
                clear S0; intro a0 S0
                refine r_pick S0 rfl rfl _ rfl rfl ?_
                clear S0; intro a0 S0
                refine wl_nil ?_
                refine nr_then ?_
                replace Hq := HS.pull [_, _, _, _, _, _, _, _, _, _, _, _, _] Hq
                dsimp only [List.cons_append, List.nil_append] at Hq
                replace Hq := HS.pull [_, _, _, _, _, _, _, _, _, _, _, _, _] Hq
                dsimp only [List.cons_append, List.nil_append] at Hq
                replace Hq := HS.pull [_, _, _] Hq
                dsimp only [List.cons_append, List.nil_append] at Hq
                replace Hq := HS.pull [_, _, _] Hq
                dsimp only [List.cons_append, List.nil_append] at Hq
                replace Hq := HS.keep [_, _, _, _] Hq
                obtain rfl := Option.some.inj H
                exact ⟨S0.sub ⟨rfl, rfl, rfl, rfl, rfl, rfl, rfl, trivial⟩, Hq⟩
            · replace H := (if_neg z85h).symm.trans H
              refine r_off S0 rfl rfl rfl (congrArg (!·) (Bool.eq_false_iff.mpr z85h)) ?_ rfl
              clear S0; intro a0 S0
              refine r_off S0 rfl rfl rfl (congrArg (!·) (Bool.eq_false_iff.mpr z85h)) ?_ rfl
              clear S0; intro a0 S0
              refine r_off S0 rfl rfl rfl (congrArg (!·) (Bool.eq_false_iff.mpr z85h)) ?_ rfl
              clear S0; intro a0 S0
              refine r_off S0 rfl rfl rfl (congrArg (!·) (Bool.eq_false_iff.mpr z85h)) ?_ rfl
              clear S0; intro a0 S0
              refine r_pick S0 rfl (congrArg (!·) (Bool.eq_false_iff.mpr z85h)) _ rfl rfl ?_
              clear S0; intro a0 S0
              refine r_pures [_] S0 rfl ?_
              clear S0; intro a0 S0
              refine r_off S0 rfl rfl rfl rfl ?_ rfl
              clear S0; intro a0 S0
              refine r_off S0 rfl rfl rfl rfl ?_ rfl
              clear S0; intro a0 S0
              refine r_off S0 rfl rfl rfl rfl ?_ rfl
              clear S0; intro a0 S0
              refine r_off S0 rfl rfl rfl rfl ?_ rfl
              clear S0; intro a0 S0
              refine r_pick S0 rfl rfl _ rfl rfl ?_
              clear S0; intro a0 S0
              refine r_pures [_] S0 rfl ?_
              clear S0; intro a0 S0
              refine r_off S0 rfl rfl rfl rfl ?_ rfl
              clear S0; intro a0 S0
              refine r_off S0 rfl rfl rfl rfl ?_ rfl
              clear S0; intro a0 S0
              refine r_off S0 rfl rfl rfl rfl ?_ rfl
              clear S0; intro a0 S0
              refine r_off S0 rfl rfl rfl rfl ?_ rfl
              clear S0; intro a0 S0
              refine r_pick S0 rfl rfl _ rfl rfl ?_
              clear S0; intro a0 S0
              refine r_pures [_] S0 rfl ?_
              clear S0; intro a0 S0
              refine r_off S0 rfl rfl rfl rfl ?_ rfl
              clear S0; intro a0 S0
              refine r_off S0 rfl rfl rfl rfl ?_ rfl
              clear S0; intro a0 S0
              refine r_off S0 rfl rfl rfl rfl ?_ rfl
              clear S0; intro a0 S0
              refine r_pick S0 rfl rfl _ rfl rfl ?_
              clear S0; intro a0 S0
              refine r_pures [_] S0 rfl ?_
              clear S0; intro a0 S0
              refine r_off S0 rfl rfl rfl rfl ?_ rfl
              clear S0; intro a0 S0
              refine r_off S0 rfl rfl rfl rfl ?_ rfl
              clear S0; intro a0 S0
              refine r_off S0 rfl rfl rfl rfl ?_ rfl
              clear S0; intro a0 S0
              refine r_off S0 rfl rfl rfl rfl ?_ rfl
              clear S0; intro a0 S0
              refine r_pick S0 rfl rfl _ rfl rfl ?_
              clear S0; intro a0 S0
              refine wl_nil ?_
              refine nr_then ?_
              replace Hq := HS.pull [_, _, _, _, _, _, _, _, _, _, _, _, _] Hq
              dsimp only [List.cons_append, List.nil_append] at Hq
              replace Hq := HS.pull [_, _, _, _, _, _, _, _, _, _, _, _, _] Hq
              dsimp only [List.cons_append, List.nil_append] at Hq
              replace Hq := HS.pull [_, _, _] Hq
              dsimp only [List.cons_append, List.nil_append] at Hq
              replace Hq := HS.pull [_, _, _] Hq
              dsimp only [List.cons_append, List.nil_append] at Hq
              replace Hq := HS.keep [_, _, _, _] Hq
              obtain rfl := Option.some.inj H
              exact ⟨S0.sub ⟨rfl, rfl, rfl, rfl, rfl, rfl, rfl, trivial⟩, Hq⟩
          · replace H := (if_neg z82h).symm.trans H
            refine r_off S0 rfl rfl rfl (congrArg (!·) (decide_eq_false z82h)) ?_ rfl
            clear S0; intro a0 S0
            refine r_off S0 rfl rfl rfl (congrArg (!·) (decide_eq_false z82h)) ?_ rfl
            clear S0; intro a0 S0
            refine r_off S0 rfl rfl rfl (congrArg (!·) (decide_eq_false z82h)) ?_ rfl
            clear S0; intro a0 S0
            refine r_off S0 rfl rfl rfl (congrArg (!·) (decide_eq_false z82h)) ?_ rfl
            clear S0; intro a0 S0
            refine r_pick S0 rfl (congrArg (!·) (decide_eq_false z82h)) _ rfl rfl ?_
            clear S0; intro a0 S0
            refine r_pures [_] S0 rfl ?_
            clear S0; intro a0 S0
            refine r_off S0 rfl rfl rfl rfl ?_ rfl
            clear S0; intro a0 S0
            refine r_off S0 rfl rfl rfl rfl ?_ rfl
            clear S0; intro a0 S0
            refine r_off S0 rfl rfl rfl rfl ?_ rfl
            clear S0; intro a0 S0
            refine r_off S0 rfl rfl rfl rfl ?_ rfl
            clear S0; intro a0 S0
            refine r_pick S0 rfl rfl _ rfl rfl ?_
            clear S0; intro a0 S0
            refine r_pures [_] S0 rfl ?_
            clear S0; intro a0 S0
            refine r_off S0 rfl rfl rfl rfl ?_ rfl
            clear S0; intro a0 S0
            refine r_off S0 rfl rfl rfl rfl ?_ rfl
            clear S0; intro a0 S0
            refine r_off S0 rfl rfl rfl rfl ?_ rfl
            clear S0; intro a0 S0
            refine r_off S0 rfl rfl rfl rfl ?_ rfl
            clear S0; intro a0 S0
            refine r_pick S0 rfl rfl _ rfl rfl ?_
            clear S0; intro a0 S0
            refine r_pures [_] S0 rfl ?_
            clear S0; intro a0 S0
            refine r_off S0 rfl rfl rfl rfl ?_ rfl
            clear S0; intro a0 S0
            refine r_off S0 rfl rfl rfl rfl ?_ rfl
            clear S0; intro a0 S0
            refine r_off S0 rfl rfl rfl rfl ?_ rfl
            clear S0; intro a0 S0
            refine r_off S0 rfl rfl rfl rfl ?_ rfl
            clear S0; intro a0 S0
            refine r_pick S0 rfl rfl _ rfl rfl ?_
            clear S0; intro a0 S0
            refine r_pures [_] S0 rfl ?_
            clear S0; intro a0 S0
            refine r_off S0 rfl rfl rfl rfl ?_ rfl
            clear S0; intro a0 S0
            refine r_off S0 rfl rfl rfl rfl ?_ rfl
            clear S0; intro a0 S0
            refine r_off S0 rfl rfl rfl rfl ?_ rfl
            clear S0; intro a0 S0
            refine r_pick S0 rfl rfl _ rfl rfl ?_
            clear S0; intro a0 S0
            refine r_pures [_] S0 rfl ?_
            clear S0; intro a0 S0
            refine r_off S0 rfl rfl rfl rfl ?_ rfl
            clear S0; intro a0 S0
            refine r_off S0 rfl rfl rfl rfl ?_ rfl
            clear S0; intro a0 S0
            refine r_off S0 rfl rfl rfl rfl ?_ rfl
            clear S0; intro a0 S0
            refine r_off S0 rfl rfl rfl rfl ?_ rfl
            clear S0; intro a0 S0
            refine r_pick S0 rfl rfl _ rfl rfl ?_
            clear S0; intro a0 S0
            refine wl_nil ?_
            refine nr_then ?_
            replace Hq := HS.pull [_, _, _, _, _, _, _, _, _, _, _, _, _] Hq
            dsimp only [List.cons_append, List.nil_append] at Hq
            replace Hq := HS.pull [_, _, _, _, _, _, _, _, _, _, _, _, _] Hq
            dsimp only [List.cons_append, List.nil_append] at Hq
            replace Hq := HS.pull [_, _, _] Hq
            dsimp only [List.cons_append, List.nil_append] at Hq
            replace Hq := HS.pull [_, _, _] Hq
            dsimp only [List.cons_append, List.nil_append] at Hq
            replace Hq := HS.keep [_, _, _, _] Hq
            obtain rfl := Option.some.inj H
            exact ⟨S0.sub ⟨rfl, rfl, rfl, rfl, rfl, rfl, rfl, trivial⟩, Hq⟩
        · replace H := (if_neg z79h).symm.trans H
          refine r_off S0 rfl rfl rfl (congrArg (!·) (decide_eq_false z79h)) ?_ rfl
          clear S0; intro a0 S0
          refine r_off S0 rfl rfl rfl (congrArg (!·) (decide_eq_false z79h)) ?_ rfl
          clear S0; intro a0 S0
          refine r_off S0 rfl rfl rfl (congrArg (!·) (decide_eq_false z79h)) ?_ rfl
          clear S0; intro a0 S0
          refine r_off S0 rfl rfl rfl (congrArg (!·) (decide_eq_false z79h)) ?_ rfl
          clear S0; intro a0 S0
          refine r_pick S0 rfl (congrArg (!·) (decide_eq_false z79h)) _ rfl rfl ?_
          clear S0; intro a0 S0
          refine r_pures [_] S0 rfl ?_
          clear S0; intro a0 S0
          refine r_off S0 rfl rfl rfl rfl ?_ rfl
          clear S0; intro a0 S0
          refine r_off S0 rfl rfl rfl rfl ?_ rfl
          clear S0; intro a0 S0
          refine r_off S0 rfl rfl rfl rfl ?_ rfl
          clear S0; intro a0 S0
          refine r_off S0 rfl rfl rfl rfl ?_ rfl
          clear S0; intro a0 S0
          refine r_pick S0 rfl rfl _ rfl rfl ?_
          clear S0; intro a0 S0
          refine r_pures [_] S0 rfl ?_
          clear S0; intro a0 S0
          refine r_off S0 rfl rfl rfl rfl ?_ rfl
          clear S0; intro a0 S0
          refine r_off S0 rfl rfl rfl rfl ?_ rfl
          clear S0; intro a0 S0
          refine r_off S0 rfl rfl rfl rfl ?_ rfl
          clear S0; intro a0 S0
          refine r_off S0 rfl rfl rfl rfl ?_ rfl
          clear S0; intro a0 S0
          refine r_pick S0 rfl rfl _ rfl rfl ?_
          clear S0; intro a0 S0
          refine r_pures [_] S0 rfl ?_
          clear S0; intro a0 S0
          refine r_off S0 rfl rfl rfl rfl ?_ rfl
          clear S0; intro a0 S0
          refine r_off S0 rfl rfl rfl rfl ?_ rfl
          clear S0; intro a0 S0
          refine r_off S0 rfl rfl rfl rfl ?_ rfl
          clear S0; intro a0 S0
          refine r_off S0 rfl rfl rfl rfl ?_ rfl
          clear S0; intro a0 S0
          refine r_pick S0 rfl rfl _ rfl rfl ?_
          clear S0; intro a0 S0
          refine r_pures [_] S0 rfl ?_
          clear S0; intro a0 S0
          refine r_off S0 rfl rfl rfl rfl ?_ rfl
          clear S0; intro a0 S0
          refine r_off S0 rfl rfl rfl rfl ?_ rfl
          clear S0; intro a0 S0
          refine r_off S0 rfl rfl rfl rfl ?_ rfl
          clear S0; intro a0 S0
          refine r_off S0 rfl rfl rfl rfl ?_ rfl
          clear S0; intro a0 S0
          refine r_pick S0 rfl rfl _ rfl rfl ?_
          clear S0; intro a0 S0
          refine r_pures [_] S0 rfl ?_
          clear S0; intro a0 S0
          refine r_off S0 rfl rfl rfl rfl ?_ rfl
          clear S0; intro a0 S0
          refine r_off S0 rfl rfl rfl rfl ?_ rfl
          clear S0; intro a0 S0
          refine r_off S0 rfl rfl rfl rfl ?_ rfl
          clear S0; intro a0 S0
          refine r_pick S0 rfl rfl _ rfl rfl ?_
          clear S0; intro a0 S0
          refine r_pures [_] S0 rfl ?_
          clear S0; intro a0 S0
          refine r_off S0 rfl rfl rfl rfl ?_ rfl
          clear S0; intro a0 S0
          refine r_off S0 rfl rfl rfl rfl ?_ rfl
          clear S0; intro a0 S0
          refine r_off S0 rfl rfl rfl rfl ?_ rfl
          clear S0; intro a0 S0
          refine r_off S0 rfl rfl rfl rfl ?_ rfl
          clear S0; intro a0 S0
          refine r_pick S0 rfl rfl _ rfl rfl ?_
          clear S0; intro a0 S0
          refine wl_nil ?_
          refine nr_then ?_
          replace Hq := HS.pull [_, _, _, _, _, _, _, _, _, _, _, _, _] Hq
          dsimp only [List.cons_append, List.nil_append] at Hq
          replace Hq := HS.pull [_, _, _, _, _, _, _, _, _, _, _, _, _] Hq
          dsimp only [List.cons_append, List.nil_append] at Hq
          replace Hq := HS.pull [_, _, _] Hq
          dsimp only [List.cons_append, List.nil_append] at Hq
          replace Hq := HS.pull [_, _, _] Hq
          dsimp only [List.cons_append, List.nil_append] at Hq
          replace Hq := HS.keep [_, _, _, _] Hq
          obtain rfl := Option.some.inj H
          exact ⟨S0.sub ⟨rfl, rfl, rfl, rfl, rfl, rfl, rfl, trivial⟩, Hq⟩
      · replace H := (if_neg z78h).symm.trans H
        refine r_off S0 rfl rfl rfl (congrArg (!·) (decide_eq_false z78h)) ?_ rfl
        clear S0; intro a0 S0
        refine r_off S0 rfl rfl rfl (congrArg (!·) (decide_eq_false z78h)) ?_ rfl
        clear S0; intro a0 S0
        refine r_off S0 rfl rfl rfl (congrArg (!·) (decide_eq_false z78h)) ?_ rfl
        clear S0; intro a0 S0
        refine r_pick S0 rfl (congrArg (!·) (decide_eq_false z78h)) _ rfl rfl ?_
        clear S0; intro a0 S0
        refine r_pures [_] S0 rfl ?_
        clear S0; intro a0 S0
        refine r_off S0 rfl rfl rfl rfl ?_ rfl
        clear S0; intro a0 S0
        refine r_off S0 rfl rfl rfl rfl ?_ rfl
        clear S0; intro a0 S0
        refine r_off S0 rfl rfl rfl rfl ?_ rfl
        clear S0; intro a0 S0
        refine r_off S0 rfl rfl rfl rfl ?_ rfl
        clear S0; intro a0 S0
        refine r_pick S0 rfl rfl _ rfl rfl ?_
        clear S0; intro a0 S0
        refine r_pures [_] S0 rfl ?_
        clear S0; intro a0 S0
        refine r_off S0 rfl rfl rfl rfl ?_ rfl
        clear S0; intro a0 S0
        refine r_off S0 rfl rfl rfl rfl ?_ rfl
        clear S0; intro a0 S0
        refine r_off S0 rfl rfl rfl rfl ?_ rfl
        clear S0; intro a0 S0
        refine r_off S0 rfl rfl rfl rfl ?_ rfl
        clear S0; intro a0 S0
        refine r_pick S0 rfl rfl _ rfl rfl ?_
        clear S0; intro a0 S0
        refine r_pures [_] S0 rfl ?_
        clear S0; intro a0 S0
        refine r_off S0 rfl rfl rfl rfl ?_ rfl
        clear S0; intro a0 S0
        refine r_off S0 rfl rfl rfl rfl ?_ rfl
        clear S0; intro a0 S0
        refine r_off S0 rfl rfl rfl rfl ?_ rfl
        clear S0; intro a0 S0
        refine r_off S0 rfl rfl rfl rfl ?_ rfl
        clear S0; intro a0 S0
        refine r_pick S0 rfl rfl _ rfl rfl ?_
        clear S0; intro a0 S0
        refine r_pures [_] S0 rfl ?_
        clear S0; intro a0 S0
        refine r_off S0 rfl rfl rfl rfl ?_ rfl
        clear S0; intro a0 S0
        refine r_off S0 rfl rfl rfl rfl ?_ rfl
        clear S0; intro a0 S0
        refine r_off S0 rfl rfl rfl rfl ?_ rfl
        clear S0; intro a0 S0
        refine r_off S0 rfl rfl rfl rfl ?_ rfl
        clear S0; intro a0 S0
        refine r_pick S0 rfl rfl _ rfl rfl ?_
        clear S0; intro a0 S0
        refine r_pures [_] S0 rfl ?_
        clear S0; intro a0 S0
        refine r_off S0 rfl rfl rfl rfl ?_ rfl
        clear S0; intro a0 S0
        refine r_off S0 rfl rfl rfl rfl ?_ rfl
        clear S0; intro a0 S0
        refine r_off S0 rfl rfl rfl rfl ?_ rfl
        clear S0; intro a0 S0
        refine r_off S0 rfl rfl rfl rfl ?_ rfl
        clear S0; intro a0 S0
        refine r_pick S0 rfl rfl _ rfl rfl ?_
        clear S0; intro a0 S0
        refine r_pures [_] S0 rfl ?_
        clear S0; intro a0 S0
        refine r_off S0 rfl rfl rfl rfl ?_ rfl
        clear S0; intro a0 S0
        refine r_off S0 rfl rfl rfl rfl ?_ rfl
        clear S0; intro a0 S0
        refine r_off S0 rfl rfl rfl rfl ?_ rfl
        clear S0; intro a0 S0
        refine r_pick S0 rfl rfl _ rfl rfl ?_
        clear S0; intro a0 S0
        refine r_pures [_] S0 rfl ?_
        clear S0; intro a0 S0
        refine r_off S0 rfl rfl rfl rfl ?_ rfl
        clear S0; intro a0 S0
        refine r_off S0 rfl rfl rfl rfl ?_ rfl
        clear S0; intro a0 S0
        refine r_off S0 rfl rfl rfl rfl ?_ rfl
        clear S0; intro a0 S0
        refine r_off S0 rfl rfl rfl rfl ?_ rfl
        clear S0; intro a0 S0
        refine r_pick S0 rfl rfl _ rfl rfl ?_
        clear S0; intro a0 S0
        refine wl_nil ?_
        refine nr_then ?_
        replace Hq := HS.pull [_, _, _, _, _, _, _, _, _, _, _, _, _] Hq
        dsimp only [List.cons_append, List.nil_append] at Hq
        replace Hq := HS.pull [_, _, _, _, _, _, _, _, _, _, _, _, _] Hq
        dsimp only [List.cons_append, List.nil_append] at Hq
        replace Hq := HS.pull [_, _, _] Hq
        dsimp only [List.cons_append, List.nil_append] at Hq
        replace Hq := HS.pull [_, _, _] Hq
        dsimp only [List.cons_append, List.nil_append] at Hq
        replace Hq := HS.keep [_, _, _, _] Hq
        obtain rfl := Option.some.inj H
        exact ⟨S0.sub ⟨rfl, rfl, rfl, rfl, rfl, rfl, rfl, trivial⟩, Hq⟩
    · replace H := (if_neg z75h).symm.trans H
      refine r_off S0 rfl rfl rfl (congrArg (!·) (Bool.eq_false_iff.mpr z75h)) ?_ rfl
      clear S0; intro a0 S0
      refine r_off S0 rfl rfl rfl (congrArg (!·) (Bool.eq_false_iff.mpr z75h)) ?_ rfl
      clear S0; intro a0 S0
      refine r_off S0 rfl rfl rfl (congrArg (!·) (Bool.eq_false_iff.mpr z75h)) ?_ rfl
      clear S0; intro a0 S0
      refine r_off S0 rfl rfl rfl (congrArg (!·) (Bool.eq_false_iff.mpr z75h)) ?_ rfl
      clear S0; intro a0 S0
      refine r_pick S0 rfl (congrArg (!·) (Bool.eq_false_iff.mpr z75h)) _ rfl rfl ?_
      clear S0; intro a0 S0
      refine r_pures [_] S0 rfl ?_
      clear S0; intro a0 S0
      refine r_off S0 rfl rfl rfl rfl ?_ rfl
      clear S0; intro a0 S0
      refine r_off S0 rfl rfl rfl rfl ?_ rfl
      clear S0; intro a0 S0
      refine r_off S0 rfl rfl rfl rfl ?_ rfl
      clear S0; intro a0 S0
      refine r_pick S0 rfl rfl _ rfl rfl ?_
      clear S0; intro a0 S0
      refine r_pures [_] S0 rfl ?_
      clear S0; intro a0 S0
      refine r_off S0 rfl rfl rfl rfl ?_ rfl
      clear S0; intro a0 S0
      refine r_off S0 rfl rfl rfl rfl ?_ rfl
      clear S0; intro a0 S0
      refine r_off S0 rfl rfl rfl rfl ?_ rfl
      clear S0; intro a0 S0
      refine r_off S0 rfl rfl rfl rfl ?_ rfl
      clear S0; intro a0 S0
      refine r_pick S0 rfl rfl _ rfl rfl ?_
      clear S0; intro a0 S0
      refine r_pures [_] S0 rfl ?_
      clear S0; intro a0 S0
      refine r_off S0 rfl rfl rfl rfl ?_ rfl
      clear S0; intro a0 S0
      refine r_off S0 rfl rfl rfl rfl ?_ rfl
      clear S0; intro a0 S0
      refine r_off S0 rfl rfl rfl rfl ?_ rfl
      clear S0; intro a0 S0
      refine r_off S0 rfl rfl rfl rfl ?_ rfl
      clear S0; intro a0 S0
      refine r_pick S0 rfl rfl _ rfl rfl ?_
      clear S0; intro a0 S0
      refine r_pures [_] S0 rfl ?_
      clear S0; intro a0 S0
      refine r_off S0 rfl rfl rfl rfl ?_ rfl
      clear S0; intro a0 S0
      refine r_off S0 rfl rfl rfl rfl ?_ rfl
      clear S0; intro a0 S0
      refine r_off S0 rfl rfl rfl rfl ?_ rfl
      clear S0; intro a0 S0
      refine r_off S0 rfl rfl rfl rfl ?_ rfl
      clear S0; intro a0 S0
      refine r_pick S0 rfl rfl _ rfl rfl ?_
      clear S0; intro a0 S0
      refine r_pures [_] S0 rfl ?_
      clear S0; intro a0 S0
      refine r_off S0 rfl rfl rfl rfl ?_ rfl
      clear S0; intro a0 S0
      refine r_off S0 rfl rfl rfl rfl ?_ rfl
      clear S0; intro a0 S0
      refine r_off S0 rfl rfl rfl rfl ?_ rfl
      clear S0; intro a0 S0
      refine r_off S0 rfl rfl rfl rfl ?_ rfl
      clear S0; intro a0 S0
      refine r_pick S0 rfl rfl _ rfl rfl ?_
      clear S0; intro a0 S0
      refine r_pures [_] S0 rfl ?_
      clear S0; intro a0 S0
      refine r_off S0 rfl rfl rfl rfl ?_ rfl
      clear S0; intro a0 S0
      refine r_off S0 rfl rfl rfl rfl ?_ rfl
      clear S0; intro a0 S0
      refine r_off S0 rfl rfl rfl rfl ?_ rfl
      clear S0; intro a0 S0
      refine r_off S0 rfl rfl rfl rfl ?_ rfl
      clear S0; intro a0 S0
      refine r_pick S0 rfl rfl _ rfl rfl ?_
      clear S0; intro a0 S0
      refine r_pures [_] S0 rfl ?_
      clear S0; intro a0 S0
      refine r_off S0 rfl rfl rfl rfl ?_ rfl
      clear S0; intro a0 S0
      refine r_off S0 rfl rfl rfl rfl ?_ rfl
      clear S0; intro a0 S0
      refine r_off S0 rfl rfl rfl rfl ?_ rfl
      clear S0; intro a0 S0
      refine r_pick S0 rfl rfl _ rfl rfl ?_
      clear S0; intro a0 S0
      refine r_pures [_] S0 rfl ?_
      clear S0; intro a0 S0
      refine r_off S0 rfl rfl rfl rfl ?_ rfl
      clear S0; intro a0 S0
      refine r_off S0 rfl rfl rfl rfl ?_ rfl
      clear S0; intro a0 S0
      refine r_off S0 rfl rfl rfl rfl ?_ rfl
      clear S0; intro a0 S0
      refine r_off S0 rfl rfl rfl rfl ?_ rfl
      clear S0; intro a0 S0
      refine r_pick S0 rfl rfl _ rfl rfl ?_
      clear S0; intro a0 S0
      refine wl_nil ?_
      refine nr_then ?_
      replace Hq := HS.pull [_, _, _, _, _, _, _, _, _, _, _, _, _] Hq
      dsimp only [List.cons_append, List.nil_append] at Hq
      replace Hq := HS.pull [_, _, _, _, _, _, _, _, _, _, _, _, _] Hq
      dsimp only [List.cons_append, List.nil_append] at Hq
      replace Hq := HS.pull [_, _, _] Hq
      dsimp only [List.cons_append, List.nil_append] at Hq
      replace Hq := HS.pull [_, _, _] Hq
      dsimp only [List.cons_append, List.nil_append] at Hq
      replace Hq := HS.keep [_, _, _, _] Hq
      obtain rfl := Option.some.inj H
      exact ⟨S0.sub ⟨rfl, rfl, rfl, rfl, rfl, rfl, rfl, trivial⟩, Hq⟩
  · clear S0; rintro a w ⟨S0, Hq⟩
    have H := HU1; clear HU1
    refine nr_then ?_
    by_cases z98h : z72x = true
    · replace H := (if_pos z98h).symm.trans H
      refine w_true S0 rfl z98h ?_
      refine w_seq ?_
      refine w_region ?_
      refine r_pures [_] S0 rfl ?_
      clear S0; intro a0 S0
      refine wl_nil ?_
      refine nr_then ?_
      refine w_ret ?_
      refine ret_then ?_
      obtain rfl := Option.some.inj H
      refine ret1 S0 rfl rfl ?_
      replace Hq := HS.pull [_, _, _] Hq
      dsimp only [List.cons_append, List.nil_append] at Hq
      replace Hq := HS.keep [_] Hq
      exact ⟨rfl, Hq⟩
    · replace H := (if_neg z98h).symm.trans H
      refine w_false S0 rfl (Bool.eq_false_iff.mpr z98h) ?_
      refine w_skip ?_
      refine nr_then ?_
      refine w_seq ?_
      obtain ⟨z99x, H, HU2⟩ := Option.bind_eq_some_iff.mp H
      refine w_cutT (fun a w => Sl 177 [] [(8, .bool z99x)] a ∧ HS W0 [isH X] w) ?_ ?_
      · skip
        refine w_region ?_
        refine r_pures [_, _] S0 rfl ?_
        clear S0; intro a0 S0
        obtain ⟨Xz100, HXz100, HPz100, HBz100⟩ := call_frame [] Hq
        dsimp only [List.cons_append, List.nil_append] at HXz100 HBz100
        obtain ⟨z101t, Hc, H⟩ := Option.bind_eq_some_iff.mp H
        refine r_call S0 rfl rfl goes11 rfl ?_
        refine (waybillplain_SameTimers.calls _ _ _ _ z61t _ _ _ z67t _ _ (sl_own_rd [_] HPz100) (sl_own_rd [] HPz100) HXz100 z101t Hc).mono ?_
        rintro e w ⟨rfl, Hq'⟩
        have Hq : HS W0 [own e_api_Timer 32 z69A z67t.length z71n z67t, own e_api_Timer 32 z63A z61t.length z65n z61t, own e_api_Timer 32 z3A z2t.length z5n z2t, isH X] w := HBz100 [] _ Hq'
        clear HXz100 HPz100 HBz100 Hq'
        refine ⟨.bool z101t, rfl, ?_⟩; clear S0; intro a0 S0
        refine r_pures [_] S0 rfl ?_
        clear S0; intro a0 S0
        by_cases z102h : z101t = true
        · replace H := (if_pos z102h).symm.trans H
          refine r_on S0 rfl rfl rfl z102h ?_
          refine r_pures [_] S0 rfl ?_
          clear S0; intro a0 S0
          refine r_on S0 rfl rfl rfl z102h ?_
          obtain ⟨Xz103, HXz103, HPz103, HBz103⟩ := call_frame [] Hq
          dsimp only [List.cons_append, List.nil_append] at HXz103 HBz103
          obtain ⟨z104t, Hc, H⟩ := Option.bind_eq_some_iff.mp H
          refine r_call S0 rfl rfl goes10 rfl ?_
          refine (waybilllaw20_num.calls z62t _ _  HXz103 z104t Hc).mono ?_
          rintro e w ⟨rfl, Hq'⟩
          have Hq : HS W0 [own e_api_Timer 32 z69A z67t.length z71n z67t, own e_api_Timer 32 z63A z61t.length z65n z61t, own e_api_Timer 32 z3A z2t.length z5n z2t, isH X] w := HBz103 [] _ Hq'
          clear HXz103 HPz103 HBz103 Hq'
          refine ⟨.int .i64 z104t, rfl, ?_⟩; clear S0; intro a0 S0
          refine r_on S0 rfl rfl rfl z102h ?_
          refine r_pures [_] S0 rfl ?_
          clear S0; intro a0 S0
          refine r_on S0 rfl rfl rfl z102h ?_
          refine r_pures [_] S0 rfl ?_
          clear S0; intro a0 S0
          refine r_pick S0 rfl z102h _ rfl rfl ?_
          clear S0; intro a0 S0
          refine r_pures [_] S0 rfl ?_
          clear S0; intro a0 S0
          by_cases z105h : z104t = z68t
          · replace H := (if_pos z105h).symm.trans H
            refine r_on S0 rfl rfl rfl (decide_eq_true z105h) ?_
            refine r_pures [_] S0 rfl ?_
            clear S0; intro a0 S0
            refine r_on S0 rfl rfl rfl (decide_eq_true z105h) ?_
            obtain ⟨Xz106, HXz106, HPz106, HBz106⟩ := call_frame [] Hq
            dsimp only [List.cons_append, List.nil_append] at HXz106 HBz106
            obtain ⟨z107t, Hc, H⟩ := Option.bind_eq_some_iff.mp H
            refine r_call S0 rfl rfl goes22 rfl ?_
            refine (timer_Check.calls _ _ _ _ z2t _ _ (sl_own_rd [_, _] HPz106) HXz106 z107t Hc).mono ?_
            rintro e w ⟨rfl, Hq'⟩
            have Hq : HS W0 [own e_api_Timer 32 z69A z67t.length z71n z67t, own e_api_Timer 32 z63A z61t.length z65n z61t, own e_api_Timer 32 z3A z2t.length z5n z2t, isH X] w := HBz106 [] _ Hq'
            clear HXz106 HPz106 HBz106 Hq'
            refine ⟨.int .i64 z107t, rfl, ?_⟩; clear S0; intro a0 S0
            refine r_on S0 rfl rfl rfl (decide_eq_true z105h) ?_
            obtain ⟨Xz108, HXz108, HPz108, HBz108⟩ := call_frame [] Hq
            dsimp only [List.cons_append, List.nil_append] at HXz108 HBz108
            obtain ⟨z109t, Hc, H⟩ := Option.bind_eq_some_iff.mp H
            refine r_call S0 rfl rfl goes10 rfl ?_
            refine (waybilllaw20_num.calls z107t _ _  HXz108 z109t Hc).mono ?_
            rintro e w ⟨rfl, Hq'⟩
            have Hq : HS W0 [own e_api_Timer 32 z69A z67t.length z71n z67t, own e_api_Timer 32 z63A z61t.length z65n z61t, own e_api_Timer 32 z3A z2t.length z5n z2t, isH X] w := HBz108 [] _ Hq'
            clear HXz108 HPz108 HBz108 Hq'
            refine ⟨.int .i64 z109t, rfl, ?_⟩; clear S0; intro a0 S0
            refine r_on S0 rfl rfl rfl (decide_eq_true z105h) ?_
            refine r_pures [_] S0 rfl ?_
            clear S0; intro a0 S0
            refine r_on S0 rfl rfl rfl (decide_eq_true z105h) ?_
            obtain ⟨Xz110, HXz110, HPz110, HBz110⟩ := call_frame [] Hq
            dsimp only [List.cons_append, List.nil_append] at HXz110 HBz110
            obtain ⟨z111t, Hc, H⟩ := Option.bind_eq_some_iff.mp H
            refine r_call S0 rfl rfl goes23 rfl ?_
            refine (waybillref20_Check.calls _ _ _ _ x_l _ _ (sl_isH_rd [_, _, _] HPz110 HR0) HXz110 z111t Hc).mono ?_
            rintro e w ⟨rfl, Hq'⟩
            have Hq : HS W0 [own e_api_Timer 32 z69A z67t.length z71n z67t, own e_api_Timer 32 z63A z61t.length z65n z61t, own e_api_Timer 32 z3A z2t.length z5n z2t, isH X] w := HBz110 [] _ Hq'
            clear HXz110 HPz110 HBz110 Hq'
            refine ⟨.int .i64 z111t, rfl, ?_⟩; clear S0; intro a0 S0
            refine r_on S0 rfl rfl rfl (decide_eq_true z105h) ?_
            refine r_pures [_] S0 rfl ?_
            clear S0; intro a0 S0
            refine r_pick S0 rfl (decide_eq_true z105h) _ rfl rfl ?_
            clear S0; intro a0 S0
            refine r_pures [_] S0 rfl ?_
            clear S0; intro a0 S0
            by_cases z112h : z109t = z111t
            · replace H := (if_pos z112h).symm.trans H
              refine r_on S0 rfl rfl rfl (decide_eq_true z112h) ?_
              refine r_pures [_] S0 rfl ?_
              clear S0; intro a0 S0
              refine r_on S0 rfl rfl rfl (decide_eq_true z112h) ?_
              refine r_pures [_] S0 rfl ?_
              clear S0; intro a0 S0
              refine r_on S0 rfl rfl rfl (decide_eq_true z112h) ?_
              obtain ⟨Xz113, HXz113, HPz113, HBz113⟩ := call_frame [] Hq
              dsimp only [List.cons_append, List.nil_append] at HXz113 HBz113
              obtain ⟨z114t, Hc, H⟩ := Option.bind_eq_some_iff.mp H
              refine r_call S0 rfl rfl goes11 rfl ?_
              refine (waybillplain_SameTimers.calls _ _ _ _ z2t _ _ _ x_l _ _ (sl_own_rd [_, _] HPz113) (sl_isH_rd [_, _, _] HPz113 HR0) HXz113 z114t Hc).mono ?_
              rintro e w ⟨rfl, Hq'⟩
              have Hq : HS W0 [own e_api_Timer 32 z69A z67t.length z71n z67t, own e_api_Timer 32 z63A z61t.length z65n z61t, own e_api_Timer 32 z3A z2t.length z5n z2t, isH X] w := HBz113 [] _ Hq'
              clear HXz113 HPz113 HBz113 Hq'
              refine ⟨.bool z114t, rfl, ?_⟩; clear S0; intro a0 S0
              refine r_pick S0 rfl (decide_eq_true z112h) _ rfl rfl ?_
              clear S0; intro a0 S0
              refine r_pures [_] S0 rfl ?_
              clear S0; intro a0 S0
              by_cases z115h : z114t = true
              · replace H := (if_pos z115h).symm.trans H
                refine r_on S0 rfl rfl rfl z115h ?_
                obtain ⟨Xz116, HXz116, HPz116, HBz116⟩ := call_frame [] Hq
                dsimp only [List.cons_append, List.nil_append] at HXz116 HBz116
                obtain ⟨z117t, Hc, H⟩ := Option.bind_eq_some_iff.mp H
                refine r_call S0 rfl rfl goes7 rfl ?_
                refine (waybilllaw20_alive.calls _  _ _  HXz116 z117t Hc).mono ?_
                rintro e w ⟨rfl, Hq'⟩
                have Hq : HS W0 [own e_api_Timer 32 z69A z67t.length z71n z67t, own e_api_Timer 32 z63A z61t.length z65n z61t, own e_api_Timer 32 z3A z2t.length z5n z2t, isH X] w := HBz116 [] _ Hq'
                clear HXz116 HPz116 HBz116 Hq'
                refine ⟨.bool z117t, rfl, ?_⟩; clear S0; intro a0 S0
                refine r_pick S0 rfl z115h _ rfl rfl ?_
                clear S0; intro a0 S0
                refine r_pures [_] S0 rfl ?_
                clear S0; intro a0 S0
                refine wl_nil ?_
                refine nr_then ?_
                replace Hq := HS.pull [_, _, _] Hq
                dsimp only [List.cons_append, List.nil_append] at Hq
                replace Hq := HS.keep [_] Hq
                obtain rfl := Option.some.inj H
                exact ⟨S0.sub ⟨rfl, trivial⟩, Hq⟩
              · replace H := (if_neg z115h).symm.trans H
                refine r_off S0 rfl rfl rfl (Bool.eq_false_iff.mpr z115h) ?_ rfl
                clear S0; intro a0 S0
                refine r_pick S0 rfl (Bool.eq_false_iff.mpr z115h) _ rfl rfl ?_
                clear S0; intro a0 S0
                refine r_pures [_] S0 rfl ?_
                clear S0; intro a0 S0
                refine wl_nil ?_
                refine nr_then ?_
                replace Hq := HS.pull [_, _, _] Hq
                dsimp only [List.cons_append, List.nil_append] at Hq
                replace Hq := HS.keep [_] Hq
                obtain rfl := Option.some.inj H
                exact ⟨S0.sub ⟨rfl, trivial⟩, Hq⟩
            · replace H := (if_neg z112h).symm.trans H
              refine r_off S0 rfl rfl rfl (decide_eq_false z112h) ?_ rfl
              clear S0; intro a0 S0
              refine r_off S0 rfl rfl rfl (decide_eq_false z112h) ?_ rfl
              clear S0; intro a0 S0
              refine r_off S0 rfl rfl rfl (decide_eq_false z112h) ?_ rfl
              clear S0; intro a0 S0
              refine r_pick S0 rfl (decide_eq_false z112h) _ rfl rfl ?_
              clear S0; intro a0 S0
              refine r_pures [_] S0 rfl ?_
              clear S0; intro a0 S0
              refine r_off S0 rfl rfl rfl rfl ?_ rfl
              clear S0; intro a0 S0
              refine r_pick S0 rfl rfl _ rfl rfl ?_
              clear S0; intro a0 S0
              refine r_pures [_] S0 rfl ?_
              clear S0; intro a0 S0
              refine wl_nil ?_
              refine nr_then ?_
              replace Hq := HS.pull [_, _, _] Hq
              dsimp only [List.cons_append, List.nil_append] at Hq
              replace Hq := HS.keep [_] Hq
              obtain rfl := Option.some.inj H
              exact ⟨S0.sub ⟨rfl, trivial⟩, Hq⟩
          · replace H := (if_neg z105h).symm.trans H
            refine r_off S0 rfl rfl rfl (decide_eq_false z105h) ?_ rfl
            clear S0; intro a0 S0
            refine r_off S0 rfl rfl rfl (decide_eq_false z105h) ?_ rfl
            clear S0; intro a0 S0
            refine r_off S0 rfl rfl rfl (decide_eq_false z105h) ?_ rfl
            clear S0; intro a0 S0
            refine r_off S0 rfl rfl rfl (decide_eq_false z105h) ?_ rfl
            clear S0; intro a0 S0
            refine r_off S0 rfl rfl rfl (decide_eq_false z105h) ?_ rfl
            clear S0; intro a0 S0
            refine r_off S0 rfl rfl rfl (decide_eq_false z105h) ?_ rfl
            clear S0; intro a0 S0
            refine r_pick S0 rfl (decide_eq_false z105h) _ rfl rfl ?_
            clear S0; intro a0 S0
            refine r_pures [_] S0 rfl ?_
            clear S0; intro a0 S0
            refine r_off S0 rfl rfl rfl rfl ?_ rfl
            clear S0; intro a0 S0
            refine r_off S0 rfl rfl rfl rfl ?_ rfl
            clear S0; intro a0 S0
            refine r_off S0 rfl rfl rfl rfl ?_ rfl
            clear S0; intro a0 S0
            refine r_pick S0 rfl rfl _ rfl rfl ?_
            clear S0; intro a0 S0
            refine r_pures [_] S0 rfl ?_
            clear S0; intro a0 S0
            refine r_off S0 rfl rfl rfl rfl ?_ rfl
            clear S0; intro a0 S0
            refine r_pick S0 rfl rfl _ rfl rfl ?_
            clear S0; intro a0 S0
            refine r_pures [_] S0 rfl ?_
            clear S0; intro a0 S0
            refine wl_nil ?_
            refine nr_then ?_
            replace Hq := HS.pull [_, _, _] Hq
            dsimp only [List.cons_append, List.nil_append] at Hq
            replace Hq := HS.keep [_] Hq
            obtain rfl := Option.some.inj H
            exact ⟨S0.sub ⟨rfl, trivial⟩, Hq⟩
        · replace H := (if_neg z102h).symm.trans H
          refine r_off S0 rfl rfl rfl (Bool.eq_false_iff.mpr z102h) ?_ rfl
          clear S0; intro a0 S0
          refine r_off S0 rfl rfl rfl (Bool.eq_false_iff.mpr z102h) ?_ rfl
          clear S0; intro a0 S0
          refine r_off S0 rfl rfl rfl (Bool.eq_false_iff.mpr z102h) ?_ rfl
          clear S0; intro a0 S0
          refine r_off S0 rfl rfl rfl (Bool.eq_false_iff.mpr z102h) ?_ rfl
          clear S0; intro a0 S0
          refine r_pick S0 rfl (Bool.eq_false_iff.mpr z102h) _ rfl rfl ?_
          clear S0; intro a0 S0
          refine r_pures [_] S0 rfl ?_
          clear S0; intro a0 S0
          refine r_off S0 rfl rfl rfl rfl ?_ rfl
          clear S0; intro a0 S0
          refine r_off S0 rfl rfl rfl rfl ?_ rfl
          clear S0; intro a0 S0
          refine r_off S0 rfl rfl rfl rfl ?_ rfl
          clear S0; intro a0 S0
          refine r_off S0 rfl rfl rfl rfl ?_ rfl
          clear S0; intro a0 S0
          refine r_off S0 rfl rfl rfl rfl ?_ rfl
          clear S0; intro a0 S0
          refine r_off S0 rfl rfl rfl rfl ?_ rfl
          clear S0; intro a0 S0
          refine r_pick S0 rfl rfl _ rfl rfl ?_
          clear S0; intro a0 S0
          refine r_pures [_] S0 rfl ?_
          clear S0; intro a0 S0
          refine r_off S0 rfl rfl rfl rfl ?_ rfl
          clear S0; intro a0 S0
          refine r_off S0 rfl rfl rfl rfl ?_ rfl
          clear S0; intro a0 S0
          refine r_off S0 rfl rfl rfl rfl ?_ rfl
          clear S0; intro a0 S0
          refine r_pick S0 rfl rfl _ rfl rfl ?_
          clear S0; intro a0 S0
          refine r_pures [_] S0 rfl ?_
          clear S0; intro a0 S0
          refine r_off S0 rfl rfl rfl rfl ?_ rfl
          clear S0; intro a0 S0
          refine r_pick S0 rfl rfl _ rfl rfl ?_
          clear S0; intro a0 S0
          refine r_pures [_] S0 rfl ?_
          clear S0; intro a0 S0
          refine wl_nil ?_
          refine nr_then ?_
          replace Hq := HS.pull [_, _, _] Hq
          dsimp only [List.cons_append, List.nil_append] at Hq
          replace Hq := HS.keep [_] Hq
          obtain rfl := Option.some.inj H
          exact ⟨S0.sub ⟨rfl, trivial⟩, Hq⟩
      · clear S0; rintro a w ⟨S0, Hq⟩
        have H := HU2; clear HU2
        refine nr_then ?_
        refine w_ret ?_
        obtain rfl := Option.some.inj H
        refine ret1 S0 rfl rfl ?_
        exact ⟨rfl, Hq⟩

end Go.Proofs.Ytailjeoimlemnaa.M

/- Plain words: what a function with rounds comes to, however many rounds it has; scans; maps; places in rows. -/
set_option linter.unusedVariables false
set_option linter.unusedSimpArgs false
namespace Go.Proofs.Ytailjeoimlemnaa.Sl
open Go

def Ev {β : Type} (g : Nat → Option β) (r : β) : Prop := ∃ k0, ∀ k, k0 ≤ k → g k = some r
section
variable {β γ : Type} {r : β}
theorem Ev.ret : Ev (fun _ => some r) r := ⟨0, fun _ _ => rfl⟩
theorem Ev.of {o : Option β} (h : o = some r) : Ev (fun _ => o) r := ⟨0, fun _ _ => h⟩
theorem Ev.bind {g : Nat → Option γ} {h : Nat → γ → Option β} {x : γ} (h1 : Ev g x) (h2 : Ev (fun k => h k x) r) : Ev (fun k => (g k).bind fun y => h k y) r := by
  obtain ⟨a, ha⟩ := h1; obtain ⟨b, hb⟩ := h2
  exact ⟨max a b, fun k hk => by show (g k).bind _ = _; rw [ha k (by omega), Option.bind_some]; exact hb k (by omega)⟩
theorem Ev.succ {f : Nat → Option β} (h : Ev (fun k => f (k + 1)) r) : Ev f r := by
  obtain ⟨a, ha⟩ := h
  exact ⟨a + 1, fun k hk => by obtain ⟨j, rfl⟩ : ∃ j, k = j + 1 := ⟨k - 1, by omega⟩; exact ha j (by omega)⟩
theorem Ev.add {f : Nat → Option β} (n : Nat) (h : ∀ k, f (k + n) = some r) : Ev f r := ⟨n, fun k hk => by obtain ⟨j, rfl⟩ : ∃ j, k = j + n := ⟨k - n, by omega⟩; exact h j⟩
theorem Ev.pos {c : Prop} [Decidable c] {a b : Nat → Option β} (hc : c) (h : Ev a r) : Ev (fun k => if c then a k else b k) r := by
  obtain ⟨x, hx⟩ := h; exact ⟨x, fun k hk => (if_pos hc).trans (hx k hk)⟩
theorem Ev.neg {c : Prop} [Decidable c] {a b : Nat → Option β} (hc : ¬ c) (h : Ev b r) : Ev (fun k => if c then a k else b k) r := by
  obtain ⟨x, hx⟩ := h; exact ⟨x, fun k hk => (if_neg hc).trans (hx k hk)⟩
theorem Ev.dpos {p : Prop} [Decidable p] {a b : Nat → Option β} (hp : p) (h : Ev a r) : Ev (fun k => if decide p = true then a k else b k) r := Ev.pos (decide_eq_true hp) h
theorem Ev.dneg {p : Prop} [Decidable p] {a b : Nat → Option β} (hp : ¬ p) (h : Ev b r) : Ev (fun k => if decide p = true then a k else b k) r := Ev.neg (by rw [decide_eq_false hp]; exact Bool.false_ne_true) h
theorem Ev.congr {f g : Nat → Option β} (e : ∀ k, f k = g k) (h : Ev g r) : Ev f r := by
  obtain ⟨x, hx⟩ := h; exact ⟨x, fun k hk => (e k).trans (hx k hk)⟩
theorem Ev.some {f : Nat → Option β} (h : Ev f r) : ∃ k, f k = some r := by obtain ⟨k, hk⟩ := h; exact ⟨k, hk k (Nat.le_refl _)⟩
/-- a test whose two ways meet -/
theorem Ev.ite {c : Prop} [Decidable c] {a b : Nat → Option β} (h1 : c → Ev a r) (h2 : ¬ c → Ev b r) : Ev (fun k => if c then a k else b k) r := by
  by_cases h : c
  · exact Ev.pos h (h1 h)
  · exact Ev.neg h (h2 h)
theorem Ev.uniq {f : Nat → Option β} {s : β} (h1 : Ev f r) (h2 : Ev f s) : r = s := by
  obtain ⟨a, ha⟩ := h1; obtain ⟨b, hb⟩ := h2
  have := (ha (max a b) (by omega)).symm.trans (hb (max a b) (by omega))
  exact Option.some.inj this
/-- a scan: rounds go on while p does not hold -/
theorem scan {n : Nat} {p : Nat → Prop} {L : Nat → Int → Option β} (step : ∀ i : Nat, i < n → ¬ p i → ∀ r, Ev (fun k => L k ((i + 1 : Nat) : Int)) r → Ev (fun k => L k (i : Int)) r) :
    ∀ (d i : Nat), i + d ≤ n → (∀ j, i ≤ j → j < i + d → ¬ p j) → ∀ r, Ev (fun k => L k ((i + d : Nat) : Int)) r → Ev (fun k => L k (i : Int)) r
  | 0, i, _, _, r, h => h
  | d + 1, i, h1, h2, r, h => step i (by omega) (h2 i (Nat.le_refl _) (by omega)) r (scan step d (i + 1) (by omega) (fun j hj hj2 => h2 j (by omega) (by omega)) r (by rw [show i + 1 + d = i + (d + 1) by omega]; exact h))
theorem scan_all {n : Nat} {p : Nat → Prop} {L : Nat → Int → Option β} (step : ∀ i : Nat, i < n → ¬ p i → ∀ r, Ev (fun k => L k ((i + 1 : Nat) : Int)) r → Ev (fun k => L k (i : Int)) r)
    (h : ∀ j, j < n → ¬ p j) {r : β} (hr : Ev (fun k => L k (n : Int)) r) : Ev (fun k => L k 0) r := by
  have := scan step n 0 (by omega) (fun j _ hj => h j (by omega)) r (by rw [Nat.zero_add]; exact hr)
  exact this
theorem first {p : Nat → Prop} {n : Nat} (h : ∃ i, i < n ∧ p i) : ∃ i, i < n ∧ p i ∧ ∀ j, j < i → ¬ p j := by
  obtain ⟨i, hi, hp⟩ := h
  induction i using Nat.strongRecOn with
  | _ i ih =>
    by_cases q : ∃ j, j < i ∧ p j
    · obtain ⟨j, hj, hpj⟩ := q; exact ih j hj (by omega) hpj
    · exact ⟨i, hi, hp, fun j hj hpj => q ⟨j, hj, hpj⟩⟩
theorem scan_hit {n : Nat} {p : Nat → Prop} {L : Nat → Int → Option β} (step : ∀ i : Nat, i < n → ¬ p i → ∀ r, Ev (fun k => L k ((i + 1 : Nat) : Int)) r → Ev (fun k => L k (i : Int)) r)
    (hex : ∃ i, i < n ∧ p i) {r : β} (hit : ∀ i : Nat, i < n → p i → (∀ j, j < i → ¬ p j) → Ev (fun k => L k (i : Int)) r) : Ev (fun k => L k 0) r := by
  obtain ⟨i, hi, hp, hf⟩ := first hex
  have := scan step i 0 (by omega) (fun j _ hj => hf j (by omega)) r (by rw [Nat.zero_add]; exact hit i hi hp hf)
  exact this
end

theorem W_succ {i : Nat} (h : i < 4611686018427387904) : IntKind.i64.wrap ((i : Int) + 1) = ((i + 1 : Nat) : Int) := by rw [W_eq (by omega) (by omega)]; omega
theorem W_pred {i : Nat} (h : i < 4611686018427387904) (h0 : 0 < i) : IntKind.i64.wrap ((i : Int) - 1) = ((i - 1 : Nat) : Int) := by rw [W_eq (by omega) (by omega)]; omega

section
variable {α : Type} (e : En α)
theorem rd_def (l : List α) (i : Nat) : rd e l (i : Int) = l.getD i e.z := rfl
theorem rd_zero (l : List α) : rd e l 0 = l.getD 0 e.z := rfl
end
theorem getD_get {α : Type} (l : List α) (i : Nat) (z : α) (h : i < l.length) : l.getD i z = l[i] := by simp [List.getD, List.getElem?_eq_getElem h]
theorem getD_mem {α : Type} (l : List α) (i : Nat) (z : α) (h : i < l.length) : l.getD i z ∈ l := by rw [getD_get l i z h]; exact List.getElem_mem _
theorem getD_set {α : Type} (l : List α) (i j : Nat) (x z : α) : (l.set i x).getD j z = if i = j ∧ i < l.length then x else l.getD j z := by
  simp only [List.getD, List.getElem?_set]
  by_cases h1 : i = j
  · subst h1
    by_cases h2 : i < l.length
    · simp [h2]
    · simp [h2]
  · simp [h1]
theorem getD_take {α : Type} (l : List α) (n j : Nat) (z : α) (h : j < n) : (l.take n).getD j z = l.getD j z := by
  simp [List.getD, List.getElem?_take, h]
theorem getD_append_left {α : Type} (l m : List α) (j : Nat) (z : α) (h : j < l.length) : (l ++ m).getD j z = l.getD j z := by
  simp [List.getD, List.getElem?_append_left h]
theorem mem_getD {α : Type} {l : List α} {x : α} (z : α) (h : x ∈ l) : ∃ i, i < l.length ∧ l.getD i z = x := by
  obtain ⟨i, hi, rfl⟩ := List.getElem_of_mem h
  exact ⟨i, hi, getD_get l i z hi⟩
theorem ext_getD {α : Type} {l m : List α} (z : α) (hl : l.length = m.length) (h : ∀ i, i < l.length → l.getD i z = m.getD i z) : l = m := by
  refine List.ext_getElem hl fun i h1 h2 => ?_
  have := h i h1
  rwa [getD_get l i z h1, getD_get m i z h2] at this

/-! ### maps -/
theorem mfind_shift {β : Type} (p : Int) : ∀ (m : List (Int × β)) (i : Nat), mfind m p i = (mfind m p 0).map fun x => (x.1 + i, x.2) := by
  intro m
  induction m with
  | nil => intro i; rfl
  | cons a m ih =>
    intro i
    obtain ⟨q, y⟩ := a
    simp only [mfind]
    split
    · simp
    · rw [ih (i + 1), ih (0 + 1)]
      cases mfind m p 0 with
      | none => rfl
      | some x => simp; omega
def mval {β : Type} (m : List (Int × β)) (p : Int) : Option β := (mfind m p 0).map (·.2)
theorem mget_val {β : Type} (m : List (Int × β)) (p : Int) (z : β) : mget m p z = (mval m p).getD z := by
  unfold mget mval; cases mfind m p 0 <;> rfl
theorem mval_nil {β : Type} (p : Int) : mval ([] : List (Int × β)) p = none := rfl
theorem mval_cons {β : Type} (q : Int) (y : β) (m : List (Int × β)) (p : Int) : mval ((q, y) :: m) p = if p = q then some y else mval m p := by
  unfold mval
  simp only [mfind]
  split
  · rfl
  · rw [mfind_shift]
    cases mfind m p 0 <;> rfl
theorem mval_mput {β : Type} (p : Int) (v : β) (q : Int) : ∀ (m : List (Int × β)), mval (mput m p v) q = if p = q then some v else mval m q := by
  intro m
  induction m with
  | nil =>
    rw [mput, mval_cons]
    by_cases h : p = q
    · rw [if_pos h, if_pos h.symm]
    · rw [if_neg h, if_neg (Ne.symm h)]
  | cons a m ih =>
    obtain ⟨b, u⟩ := a
    rw [mput]
    by_cases hb : p = b
    · subst hb
      rw [if_pos rfl, mval_cons, mval_cons]
      by_cases h : p = q
      · rw [if_pos h, if_pos h.symm]
      · rw [if_neg h, if_neg (Ne.symm h), if_neg (Ne.symm h)]
    · rw [if_neg hb, mval_cons, mval_cons, ih]
      by_cases h1 : q = b
      · subst h1; rw [if_pos rfl, if_neg hb, if_pos rfl]
      · rw [if_neg h1, if_neg h1]
theorem mget_mput {β : Type} (m : List (Int × β)) (p : Int) (v : β) (q : Int) (z : β) : mget (mput m p v) q z = if p = q then v else mget m q z := by
  rw [mget_val, mget_val, mval_mput]; split <;> rfl
end Go.Proofs.Ytailjeoimlemnaa.Sl

/- Timers: their order, which may be, a heap's steps: what the functions of the translation answer. -/
set_option linter.unusedVariables false
set_option linter.unusedSimpArgs false
namespace Go.Proofs.Ytailjeoimlemnaa.M
open Go Go.Proofs.Ytailjeoimlemnaa.Sl

abbrev T := api_Timer
def lt (a b : T) : Prop := a.At < b.At ∨ a.At = b.At ∧ a.ID < b.ID
instance (a b : T) : Decidable (lt a b) := inferInstanceAs (Decidable (_ ∨ _))
def g (l : List T) (i : Nat) : T := l.getD i api_Timer.zero
theorem g_rd (l : List T) (i : Nat) : rd e_api_Timer l (i : Int) = g l i := rfl
theorem lt_irrefl (a : T) : ¬ lt a a := by unfold lt; omega
theorem lt_trans {a b c : T} (h1 : lt a b) (h2 : lt b c) : lt a c := by unfold lt at *; omega
theorem le_trans {a b c : T} (h1 : ¬ lt b a) (h2 : ¬ lt c b) : ¬ lt c a := by unfold lt at *; omega
theorem lt_le_trans {a b c : T} (h1 : lt a b) (h2 : ¬ lt c b) : lt a c := by unfold lt at *; omega
theorem lt_le {a b : T} (h1 : lt a b) : ¬ lt b a := by unfold lt at *; omega
theorem le_antisymm {a b : T} (h1 : ¬ lt a b) (h2 : ¬ lt b a) : a = b := by
  unfold lt at *; cases a; cases b; simp only [api_Timer.mk.injEq] at *; omega
def may (t : T) : Prop := 0 ≤ t.At ∧ t.At ≤ 1073741824 ∧ 0 ≤ t.ID ∧ t.ID ≤ 1073741824
instance (a : T) : Decidable (may a) := inferInstanceAs (Decidable (_ ∧ _))

theorem odd_ok (t : T) : timer_odd.f t = some (decide (¬ may t)) := by
  unfold timer_odd.f may mn mx
  by_cases h1 : t.ID < t.At <;> by_cases h2 : t.ID > t.At <;> simp only [h1, h2, if_true, if_false]
  all_goals
    split
    · simp only [Option.bind_some, Option.some.injEq]; symm; rw [decide_eq_true_iff]; omega
    · simp only [Option.bind_some, Option.some.injEq]; rw [decide_eq_decide]; omega
theorem may_ok (t : T) : waybillref20_may.f t = some (decide (may t)) := by
  unfold waybillref20_may.f may
  by_cases h1 : 0 ≤ t.At <;> by_cases h2 : t.At ≤ 1073741824 <;> by_cases h3 : 0 ≤ t.ID <;> simp [h1, h2, h3]
theorem rahead_ok (a b : T) : waybillref20_Ahead.f a b = some (decide (lt a b)) := by
  unfold waybillref20_Ahead.f lt
  by_cases h1 : a.At < b.At <;> by_cases h2 : a.At = b.At <;> simp [h1, h2]
def cmp3 (a b : T) : Int := if a.At < b.At then -1 else if b.At < a.At then 1 else if a.ID < b.ID then -1 else if b.ID < a.ID then 1 else 0
theorem order_ok (k : Nat) (a b : T) : timer_order.f (k + 3) a b = some (cmp3 a b) := by
  unfold cmp3
  unfold timer_order.f cmp_Compare_int.f cmp_isNaN_int.f cmp_Or_int.f
  split <;> (try split) <;> (try split) <;> (try split) <;> simp_all (config := { decide := true }) [cmp_Or_int.l0, rd, IntKind.wrap, IntKind.bits, IntKind.signed] <;> (try omega)
theorem cmp3_neg (a b : T) : cmp3 a b < 0 ↔ lt a b := by
  unfold cmp3 lt
  split <;> (try split) <;> (try split) <;> (try split) <;> omega
theorem ahead_ok {h : List T} {i j : Nat} (hi : i < h.length) (hj : j < h.length) : Ev (fun k => timer_heap_ahead.f k h i j) (decide (lt (g h i) (g h j))) := by
  refine Ev.add 3 fun k => ?_
  unfold timer_heap_ahead.f
  rw [if_pos (by omega), if_pos (by omega), if_pos (by omega), if_pos (by omega), g_rd, g_rd, order_ok, Option.bind_some]
  simp only [cmp3_neg]
def sw (l : List T) (i j : Nat) : List T := (l.set i (g l j)).set j (g l i)
theorem swap_ok {h : List T} {i j : Nat} (hi : i < h.length) (hj : j < h.length) : timer_heap_swap.f h i j = some (sw h i j) := by
  unfold timer_heap_swap.f
  rw [if_pos (by omega), if_pos (by omega), if_pos (by omega), if_pos (by omega), g_rd, g_rd]
  rfl
theorem sw_len (l : List T) (i j : Nat) : (sw l i j).length = l.length := by simp [sw]
theorem sw_perm {l : List T} {i j : Nat} (hi : i < l.length) (hj : j < l.length) : (sw l i j).Perm l := by
  unfold sw g
  rw [getD_get l i _ hi, getD_get l j _ hj]
  exact List.set_set_perm hi hj
theorem g_sw {l : List T} {i j : Nat} (hi : i < l.length) (hj : j < l.length) (q : Nat) : g (sw l i j) q = if q = j then g l i else if q = i then g l j else g l q := by
  unfold sw g
  rw [getD_set, getD_set, List.length_set]
  by_cases h1 : j = q
  · subst h1; simp [hj]
  · rw [if_neg (fun h => h1 h.1), if_neg (Ne.symm h1)]
    by_cases h2 : i = q
    · subst h2; simp [hi]
    · rw [if_neg (fun h => h2 h.1), if_neg (Ne.symm h2)]
theorem par_ok {i : Nat} (h0 : 0 < i) (h : i < 4611686018427387904) : IntKind.i64.wrap ((IntKind.i64.wrap ((i : Int) - 1)).tdiv 2) = (((i - 1) / 2 : Nat) : Int) := by
  rw [W_pred h h0, Int.tdiv_eq_ediv_of_nonneg (by omega), W_eq (by omega) (by omega)]
  omega

/-! ### up and down -/
def up (l : List T) (i : Nat) : List T := if 0 < i ∧ lt (g l i) (g l ((i - 1) / 2)) then up (sw l i ((i - 1) / 2)) ((i - 1) / 2) else l
termination_by i
decreasing_by omega
def kid (l : List T) (n i : Nat) : Nat := if 2 * i + 2 < n ∧ lt (g l (2 * i + 2)) (g l (2 * i + 1)) then 2 * i + 2 else 2 * i + 1
def down (l : List T) (n i : Nat) : List T := if 2 * i + 1 < n ∧ lt (g l (kid l n i)) (g l i) then down (sw l i (kid l n i)) n (kid l n i) else l
termination_by n - i
decreasing_by unfold kid; split <;> omega
theorem up_neg {l : List T} {i : Nat} (h : ¬ (0 < i ∧ lt (g l i) (g l ((i - 1) / 2)))) : up l i = l := by rw [up, if_neg h]
theorem up_pos {l : List T} {i : Nat} (h : 0 < i ∧ lt (g l i) (g l ((i - 1) / 2))) : up l i = up (sw l i ((i - 1) / 2)) ((i - 1) / 2) := by rw [up, if_pos h]
theorem down_neg {l : List T} {n i : Nat} (h : ¬ (2 * i + 1 < n ∧ lt (g l (kid l n i)) (g l i))) : down l n i = l := by rw [down, if_neg h]
theorem down_pos {l : List T} {n i : Nat} (h : 2 * i + 1 < n ∧ lt (g l (kid l n i)) (g l i)) : down l n i = down (sw l i (kid l n i)) n (kid l n i) := by rw [down, if_pos h]
theorem kid_le (l : List T) (n i : Nat) (h : 2 * i + 1 < n) : i < kid l n i ∧ kid l n i < n ∧ (kid l n i - 1) / 2 = i := by unfold kid; split <;> omega
theorem up_len (i : Nat) (l : List T) : (up l i).length = l.length := by
  induction i using Nat.strongRecOn generalizing l with
  | _ i ih =>
    rw [up]; split
    · rw [ih _ (by omega), sw_len]
    · rfl
theorem up_perm (i : Nat) (l : List T) (h : i < l.length) : (up l i).Perm l := by
  induction i using Nat.strongRecOn generalizing l with
  | _ i ih =>
    rw [up]; split
    · exact (ih _ (by omega) _ (by rw [sw_len]; omega)).trans (sw_perm h (by omega))
    · exact .refl _
theorem down_len : ∀ (d n i : Nat) (l : List T), n - i ≤ d → (down l n i).length = l.length := by
  intro d
  induction d with
  | zero => intro n i l h; rw [down, if_neg (by omega)]
  | succ d ih =>
    intro n i l h
    rw [down]; split
    · rename_i hh
      have := kid_le l n i hh.1
      rw [ih _ _ _ (by omega), sw_len]
    · rfl
theorem down_perm : ∀ (d n i : Nat) (l : List T), n - i ≤ d → n ≤ l.length → (down l n i).Perm l := by
  intro d
  induction d with
  | zero => intro n i l h _; rw [down, if_neg (by omega)]
  | succ d ih =>
    intro n i l h hn
    rw [down]; split
    · rename_i hh
      have := kid_le l n i hh.1
      exact (ih _ _ _ (by omega) (by rw [sw_len]; exact hn)).trans (sw_perm (by omega) (by omega))
    · exact .refl _

/-! ### heaps -/
def Hp' (l : List T) : Prop := ∀ i, i < l.length → 0 < i → ¬ lt (g l i) (g l ((i - 1) / 2))
theorem up_heap (i : Nat) (l : List T) (hi : i < l.length) (h1 : ∀ j, j < l.length → 0 < j → j ≠ i → ¬ lt (g l j) (g l ((j - 1) / 2)))
    (h2 : ∀ j, j < l.length → 0 < j → (j - 1) / 2 = i → 0 < i → ¬ lt (g l j) (g l ((i - 1) / 2))) : Hp' (up l i) := by
  induction i using Nat.strongRecOn generalizing l with
  | _ i ih =>
    rw [up]
    split
    · rename_i hh
      obtain ⟨h0, hlt⟩ := hh
      have hp : (i - 1) / 2 < l.length := by omega
      have G := g_sw hi hp
      refine ih ((i - 1) / 2) (by omega) _ (by rw [sw_len]; exact hp) (fun j hj j0 hne => ?_) (fun j hj j0 hpar p0 => ?_)
      · rw [sw_len] at hj
        rw [G, G, if_neg hne]
        by_cases e1 : j = i
        · subst e1; rw [if_pos rfl, if_pos rfl]; exact lt_le hlt
        · rw [if_neg e1]
          by_cases e2 : (j - 1) / 2 = (i - 1) / 2
          · rw [if_pos e2]
            have := h1 j hj j0 e1
            rw [e2] at this
            exact lt_le (lt_le_trans hlt this)
          · rw [if_neg e2]
            by_cases e3 : (j - 1) / 2 = i
            · rw [if_pos e3]; exact h2 j hj j0 e3 h0
            · rw [if_neg e3]; exact h1 j hj j0 e1
      · rw [sw_len] at hj
        have hjp : j ≠ (i - 1) / 2 := by omega
        rw [G, G, if_neg hjp, if_neg (show ((i - 1) / 2 - 1) / 2 ≠ (i - 1) / 2 by omega), if_neg (show ((i - 1) / 2 - 1) / 2 ≠ i by omega)]
        have hpp := h1 ((i - 1) / 2) hp p0 (by omega)
        by_cases e1 : j = i
        · rw [if_pos e1]; exact hpp
        · rw [if_neg e1]
          have := h1 j hj j0 e1
          rw [hpar] at this
          exact le_trans hpp this
    · rename_i hh
      intro j hj j0
      by_cases e : j = i
      · subst e; intro hlt; exact hh ⟨j0, hlt⟩
      · exact h1 j hj j0 e
theorem down_heap : ∀ (d n i : Nat) (l : List T), n - i ≤ d → n = l.length → (∀ j, j < n → 0 < j → (j - 1) / 2 ≠ i → ¬ lt (g l j) (g l ((j - 1) / 2))) →
    (∀ j, j < n → 0 < j → (j - 1) / 2 = i → 0 < i → ¬ lt (g l j) (g l ((i - 1) / 2))) → Hp' (down l n i) := by
  intro d
  induction d with
  | zero =>
    intro n i l hd hn h1 h2
    rw [down, if_neg (by omega)]
    intro j hj j0
    exact h1 j (by omega) j0 (by omega)
  | succ d ih =>
    intro n i l hd hn h1 h2
    rw [down]
    split
    · rename_i hh
      obtain ⟨h0, hlt⟩ := hh
      obtain ⟨k1, k2, k3⟩ := kid_le l n i h0
      have hmin : ∀ j, j < n → 0 < j → (j - 1) / 2 = i → ¬ lt (g l j) (g l (kid l n i)) := by
        intro j hj j0 hp
        unfold kid
        split
        · rename_i hk
          by_cases e : j = 2 * i + 2
          · subst e; exact lt_irrefl _
          · have : j = 2 * i + 1 := by omega
            subst this; exact lt_le hk.2
        · rename_i hk
          by_cases e : j = 2 * i + 1
          · subst e; exact lt_irrefl _
          · have : j = 2 * i + 2 := by omega
            subst this; exact fun h => hk ⟨hj, h⟩
      generalize kid l n i = q at *
      have G := g_sw (l := l) (i := i) (j := q) (by omega) (by omega)
      refine ih n q _ (by omega) (by rw [sw_len]; exact hn) (fun j hj j0 hne => ?_) (fun j hj j0 hpar q0 => ?_)
      · rw [G, G, if_neg hne]
        by_cases e1 : j = q
        · subst e1; rw [if_pos rfl, if_pos k3]; exact lt_le hlt
        · rw [if_neg e1]
          by_cases e2 : j = i
          · subst e2
            rw [if_pos rfl, if_neg (show (j - 1) / 2 ≠ j by omega)]
            exact h2 q k2 (by omega) k3 j0
          · rw [if_neg e2]
            by_cases e3 : (j - 1) / 2 = i
            · rw [if_pos e3]; exact hmin j hj j0 e3
            · rw [if_neg e3]; exact h1 j hj j0 e3
      · have hjq : j ≠ q := by omega
        have hji : j ≠ i := by omega
        rw [G, G, if_neg hjq, if_neg hji, k3, if_neg (show i ≠ q by omega), if_pos rfl]
        have := h1 j hj j0 (by omega)
        rwa [hpar] at this
    · rename_i hh
      intro j hj j0
      by_cases e : (j - 1) / 2 = i
      · rw [e]
        have h0 : 2 * i + 1 < n := by omega
        have hk : ¬ lt (g l (kid l n i)) (g l i) := fun h => hh ⟨h0, h⟩
        have hmin : ¬ lt (g l j) (g l (kid l n i)) := by
          unfold kid
          split
          · rename_i hk'
            by_cases e : j = 2 * i + 2
            · subst e; exact lt_irrefl _
            · have : j = 2 * i + 1 := by omega
              subst this; exact lt_le hk'.2
          · rename_i hk'
            by_cases e : j = 2 * i + 1
            · subst e; exact lt_irrefl _
            · have : j = 2 * i + 2 := by omega
              subst this; exact fun h => hk' ⟨by omega, h⟩
        exact le_trans hk hmin
      · exact h1 j (by omega) j0 e
theorem heap_min {l : List T} (h : Hp' l) : ∀ i, i < l.length → ¬ lt (g l i) (g l 0) := by
  intro i
  induction i using Nat.strongRecOn with
  | _ i ih =>
    intro hi
    by_cases e : i = 0
    · subst e; exact lt_irrefl _
    · exact le_trans (ih ((i - 1) / 2) (by omega) (by omega)) (h i hi (by omega))
def push (l : List T) (t : T) : List T := up (l ++ [t]) l.length
theorem push_len (l : List T) (t : T) : (push l t).length = l.length + 1 := by unfold push; rw [up_len]; simp
theorem push_perm (l : List T) (t : T) : (push l t).Perm (l ++ [t]) := up_perm _ _ (by simp)
theorem push_heap {l : List T} (h : Hp' l) (t : T) : Hp' (push l t) := by
  refine up_heap _ _ (by simp) (fun j hj j0 hne => ?_) (fun j hj j0 hp _ => ?_)
  · simp at hj
    unfold g
    rw [getD_append_left _ _ _ _ (by omega), getD_append_left _ _ _ _ (by omega)]
    exact h j (by omega) j0
  · simp at hj; omega
def pop (l : List T) : List T := down ((l.set 0 (g l (l.length - 1))).take (l.length - 1)) (l.length - 1) 0
theorem pop_len (l : List T) : (pop l).length = l.length - 1 := by unfold pop; rw [down_len _ _ _ _ (Nat.le_refl _)]; simp
theorem pop_perm {l : List T} (h : 0 < l.length) : l.Perm (g l 0 :: pop l) := by
  have h1 : (pop l).Perm ((l.set 0 (g l (l.length - 1))).take (l.length - 1)) := down_perm _ _ _ _ (Nat.le_refl _) (by simp)
  refine List.Perm.trans ?_ (h1.symm.cons _)
  cases l with
  | nil => simp at h
  | cons a r =>
    show (a :: r).Perm (a :: _)
    refine List.Perm.cons a ?_
    rcases List.eq_nil_or_concat r with rfl | ⟨q, b, rfl⟩
    · exact .refl _
    · have e1 : g (a :: (q ++ [b])) ((a :: (q ++ [b])).length - 1) = b := by simp [g, List.getD]
      simp only [List.concat_eq_append] at e1 ⊢
      rw [e1]
      simp only [List.set_cons_zero, List.length_cons, List.length_append, List.length_nil]
      rw [show q.length + (0 + 1) + 1 - 1 = q.length + 1 by omega, List.take_succ_cons, List.take_left']
      · exact List.perm_append_comm
      · rfl
theorem pop_heap {l : List T} (h : Hp' l) : Hp' (pop l) := by
  refine down_heap _ _ _ _ (Nat.le_refl _) (by simp) (fun j hj j0 hne => ?_) (fun j hj j0 hp p0 => absurd p0 (by omega))
  have e : ∀ q, q < l.length - 1 → 0 < q → g ((l.set 0 (g l (l.length - 1))).take (l.length - 1)) q = g l q := fun q hq q0 => by
    unfold g
    rw [getD_take _ _ _ _ hq, getD_set, if_neg (by omega)]
  rw [e j hj j0, e _ (by omega) (by omega)]
  exact h j (by omega) j0
end Go.Proofs.Ytailjeoimlemnaa.M

/- Timers: the check of a queue, by the program and by the page. -/
set_option linter.unusedVariables false
set_option linter.unusedSimpArgs false
namespace Go.Proofs.Ytailjeoimlemnaa.M
open Go Go.Proofs.Ytailjeoimlemnaa.Sl

def mays (l : List T) : Prop := ∀ i, i < l.length → may (g l i)
def dist (l : List T) : Prop := ∀ i, i < l.length → ∀ j, j < i → (g l i).ID ≠ (g l j).ID
structure Good (l : List T) : Prop where
  len : l.length ≤ 1024
  may : mays l
  dist : dist l
  heap : Hp' l

variable {l : List T}
theorem c_l0 (hl : l.length ≤ 1024) {r : Int} (hr : Ev (fun k => (timer_Check.l1 k l 0 ([] : List (Int × Bool))).bind fun v_ => (match v_ with | (Sum.inl q_) => some q_ | (Sum.inr (_)) => (timer_Check.l2 k l 0).bind fun v_ => (match v_ with | (Sum.inl q_) => some q_ | (Sum.inr (_)) => some 0))) r)
    (h : mays l) : Ev (fun k => timer_Check.l0 k l 0) r := by
  refine scan_all (n := l.length) (p := fun i => ¬ may (g l i)) (fun i hi hp r hr => ?_) (fun j hj q => q (h j hj)) ?_
  · refine Ev.succ ?_
    simp only [timer_Check.l0]
    refine Ev.pos (by omega) (Ev.pos (by omega) ?_)
    simp only [g_rd, odd_ok, Option.bind_some]
    refine Ev.neg (by simpa using hp) ?_
    rw [W_succ (by omega)]; exact hr
  · refine Ev.succ ?_
    simp only [timer_Check.l0]
    exact Ev.neg (by omega) hr
theorem c_l0n (hl : l.length ≤ 1024) (h : ¬ mays l) : Ev (fun k => timer_Check.l0 k l 0) 4 := by
  refine scan_hit (n := l.length) (p := fun i => ¬ may (g l i)) (fun i hi hp r hr => ?_) ?_ (fun i hi hp _ => ?_)
  · refine Ev.succ ?_
    simp only [timer_Check.l0]
    refine Ev.pos (by omega) (Ev.pos (by omega) ?_)
    simp only [g_rd, odd_ok, Option.bind_some]
    refine Ev.neg (by simpa using hp) ?_
    rw [W_succ (by omega)]; exact hr
  · simp only [mays, Classical.not_forall] at h
    obtain ⟨i, hi, hp⟩ := h; exact ⟨i, hi, hp⟩
  · refine Ev.succ ?_
    simp only [timer_Check.l0]
    refine Ev.pos (by omega) (Ev.pos (by omega) ?_)
    simp only [g_rd, odd_ok, Option.bind_some]
    exact Ev.pos (by simpa using hp) Ev.ret
/-- what the map knows -/
theorem c_l1 (hl : l.length ≤ 1024) : ∀ (d i : Nat) (m : List (Int × Bool)), i + d = l.length → (∀ x, mget m x false = true ↔ ∃ j, j < i ∧ (g l j).ID = x) → (∀ a, a < i → ∀ j, j < a → (g l a).ID ≠ (g l j).ID) →
    (dist l → Ev (fun k => timer_Check.l1 k l i m) (Sum.inr ())) ∧ (¬ dist l → Ev (fun k => timer_Check.l1 k l i m) (Sum.inl 6))
  | 0, i, m, h1, h2, h3 => by
    refine ⟨fun _ => ?_, fun h => absurd (fun a ha => h3 a (by omega)) h⟩
    refine Ev.succ ?_
    simp only [timer_Check.l1]
    exact Ev.neg (by omega) Ev.ret
  | d + 1, i, m, h1, h2, h3 => by
    by_cases hm : ∃ j, j < i ∧ (g l j).ID = (g l i).ID
    · have hv := (h2 _).2 hm
      refine ⟨fun h => ?_, fun _ => ?_⟩
      · obtain ⟨j, hj, e⟩ := hm
        exact absurd e.symm (h i (by omega) j hj)
      · refine Ev.succ ?_
        simp only [timer_Check.l1]
        refine Ev.pos (by omega) (Ev.pos (by omega) ?_)
        simp only [g_rd]
        exact Ev.pos hv Ev.ret
    · have hv : ¬ mget m (g l i).ID false = true := fun h => hm ((h2 _).1 h)
      have ih := c_l1 hl d (i + 1) (mput m (g l i).ID true) (by omega) (fun x => by
        rw [mget_mput]
        by_cases e : (g l i).ID = x
        · rw [if_pos e]; exact ⟨fun _ => ⟨i, by omega, e⟩, fun _ => rfl⟩
        · rw [if_neg e, h2]
          constructor
          · rintro ⟨j, hj, q⟩; exact ⟨j, by omega, q⟩
          · rintro ⟨j, hj, q⟩
            refine ⟨j, ?_, q⟩
            rcases Nat.lt_or_ge j i with h | h
            · exact h
            · have : j = i := by omega
              subst this; exact absurd q e) (fun a ha j hj q => by
        rcases Nat.lt_or_ge a i with h | h
        · exact h3 a h j hj q
        · have : a = i := by omega
          subst this; exact hm ⟨j, hj, q.symm⟩)
      have step : ∀ r, Ev (fun k => timer_Check.l1 k l ((i + 1 : Nat) : Int) (mput m (g l i).ID true)) r → Ev (fun k => timer_Check.l1 k l i m) r := fun r hr => by
        refine Ev.succ ?_
        simp only [timer_Check.l1]
        refine Ev.pos (by omega) (Ev.pos (by omega) ?_)
        simp only [g_rd]
        refine Ev.neg hv ?_
        rw [W_succ (by omega)]; exact hr
      exact ⟨fun h => step _ (ih.1 h), fun h => step _ (ih.2 h)⟩
theorem c_l2s (hl : l.length ≤ 1024) (i : Nat) (hi : i < l.length) {r : Sum Int Unit} (b : Bool) (hb : b = decide (0 < i ∧ lt (g l i) (g l ((i - 1) / 2))))
    (hr : Ev (fun k => if b = true then (some (Sum.inl 9)) else (timer_Check.l2 k l ((i + 1 : Nat) : Int))) r) : Ev (fun k => timer_Check.l2 k l i) r := by
  refine Ev.succ ?_
  simp only [timer_Check.l2]
  refine Ev.pos (by omega) (Ev.bind (x := b) ?_ ?_)
  · by_cases h0 : 0 < i
    · refine Ev.pos (by omega) ?_
      rw [par_ok h0 (by omega)]
      refine Ev.bind (ahead_ok (i := i) (j := (i - 1) / 2) hi (by omega)) ?_
      have : b = decide (lt (g l i) (g l ((i - 1) / 2))) := by rw [hb]; simp [h0]
      rw [this]; exact Ev.ret
    · refine Ev.neg (by omega) ?_
      have : b = false := by rw [hb]; simp [h0]
      rw [this]; exact Ev.ret
  · rw [W_succ (by omega)]; exact hr
theorem c_l2 (hl : l.length ≤ 1024) (h : Hp' l) : Ev (fun k => timer_Check.l2 k l 0) (Sum.inr ()) := by
  refine scan_all (n := l.length) (p := fun i => 0 < i ∧ lt (g l i) (g l ((i - 1) / 2))) (fun i hi hp r hr => c_l2s hl i hi false (by simpa using hp) (Ev.neg (by simp) hr)) (fun j hj q => h j hj q.1 q.2) ?_
  refine Ev.succ ?_
  simp only [timer_Check.l2]
  exact Ev.neg (by omega) Ev.ret
theorem c_l2n (hl : l.length ≤ 1024) (h : ¬ Hp' l) : Ev (fun k => timer_Check.l2 k l 0) (Sum.inl 9) := by
  refine scan_hit (n := l.length) (p := fun i => 0 < i ∧ lt (g l i) (g l ((i - 1) / 2))) (fun i hi hp r hr => c_l2s hl i hi false (by simpa using hp) (Ev.neg (by simp) hr)) ?_ (fun i hi hp _ => c_l2s hl i hi true (by simpa using hp) (Ev.pos rfl Ev.ret))
  simp only [Hp', Classical.not_forall, Classical.not_not] at h
  obtain ⟨i, hi, h0, hp⟩ := h
  exact ⟨i, hi, h0, hp⟩

/-! ### the page's -/
theorem r_l0 (hl : l.length ≤ 1024) {r : Int} (hr : Ev (fun k => (waybillref20_Check.l1 k l 0).bind fun v_ => (match v_ with | (Sum.inl q_) => some q_ | (Sum.inr (_)) => (waybillref20_Check.l3 k l 1).bind fun v_ => (match v_ with | (Sum.inl q_) => some q_ | (Sum.inr (_)) => some 0))) r)
    (h : mays l) : Ev (fun k => waybillref20_Check.l0 k l 0) r := by
  refine scan_all (n := l.length) (p := fun i => ¬ may (g l i)) (fun i hi hp r hr => ?_) (fun j hj q => q (h j hj)) ?_
  · refine Ev.succ ?_
    simp only [waybillref20_Check.l0]
    refine Ev.pos (by omega) (Ev.pos (by omega) ?_)
    simp only [g_rd, may_ok, Option.bind_some]
    refine Ev.pos (by simpa using hp) ?_
    rw [W_succ (by omega)]; exact hr
  · refine Ev.succ ?_
    simp only [waybillref20_Check.l0]
    exact Ev.neg (by omega) hr
theorem r_l0n (hl : l.length ≤ 1024) (h : ¬ mays l) : Ev (fun k => waybillref20_Check.l0 k l 0) 4 := by
  refine scan_hit (n := l.length) (p := fun i => ¬ may (g l i)) (fun i hi hp r hr => ?_) ?_ (fun i hi hp _ => ?_)
  · refine Ev.succ ?_
    simp only [waybillref20_Check.l0]
    refine Ev.pos (by omega) (Ev.pos (by omega) ?_)
    simp only [g_rd, may_ok, Option.bind_some]
    refine Ev.pos (by simpa using hp) ?_
    rw [W_succ (by omega)]; exact hr
  · simp only [mays, Classical.not_forall] at h
    obtain ⟨i, hi, hp⟩ := h; exact ⟨i, hi, hp⟩
  · refine Ev.succ ?_
    simp only [waybillref20_Check.l0]
    refine Ev.pos (by omega) (Ev.pos (by omega) ?_)
    simp only [g_rd, may_ok, Option.bind_some]
    exact Ev.neg (by simpa using hp) Ev.ret
theorem r_l2 (hl : l.length ≤ 1024) {i : Nat} (hi : i < l.length) (h : ∀ j, j < i → (g l i).ID ≠ (g l j).ID) : Ev (fun k => waybillref20_Check.l2 k l i 0) (Sum.inr ()) := by
  refine scan_all (n := i) (p := fun j => (g l i).ID = (g l j).ID) (fun j hj hp r hr => ?_) (fun j hj q => h j hj q) ?_
  · refine Ev.succ ?_
    simp only [waybillref20_Check.l2]
    refine Ev.pos (by omega) (Ev.pos (by omega) (Ev.pos (by omega) (Ev.pos (by omega) (Ev.pos (by omega) ?_))))
    simp only [g_rd]
    refine Ev.neg hp ?_
    rw [W_succ (by omega)]; exact hr
  · refine Ev.succ ?_
    simp only [waybillref20_Check.l2]
    exact Ev.neg (by omega) Ev.ret
theorem r_l2n (hl : l.length ≤ 1024) {i : Nat} (hi : i < l.length) (h : ¬ ∀ j, j < i → (g l i).ID ≠ (g l j).ID) : Ev (fun k => waybillref20_Check.l2 k l i 0) (Sum.inl 6) := by
  refine scan_hit (n := i) (p := fun j => (g l i).ID = (g l j).ID) (fun j hj hp r hr => ?_) ?_ (fun j hj hp _ => ?_)
  · refine Ev.succ ?_
    simp only [waybillref20_Check.l2]
    refine Ev.pos (by omega) (Ev.pos (by omega) (Ev.pos (by omega) (Ev.pos (by omega) (Ev.pos (by omega) ?_))))
    simp only [g_rd]
    refine Ev.neg hp ?_
    rw [W_succ (by omega)]; exact hr
  · simp only [Classical.not_forall, Classical.not_not] at h
    obtain ⟨j, hj, q⟩ := h; exact ⟨j, hj, q⟩
  · refine Ev.succ ?_
    simp only [waybillref20_Check.l2]
    refine Ev.pos (by omega) (Ev.pos (by omega) (Ev.pos (by omega) (Ev.pos (by omega) (Ev.pos (by omega) ?_))))
    simp only [g_rd]
    exact Ev.pos hp Ev.ret
theorem r_l1s (hl : l.length ≤ 1024) (i : Nat) (hi : i < l.length) (hp : ¬ ¬ ∀ j, j < i → (g l i).ID ≠ (g l j).ID) (r : Sum Int Unit) (hr : Ev (fun k => waybillref20_Check.l1 k l ((i + 1 : Nat) : Int)) r) : Ev (fun k => waybillref20_Check.l1 k l i) r := by
  refine Ev.succ ?_
  simp only [waybillref20_Check.l1]
  refine Ev.pos (by omega) (Ev.bind (Ev.bind (r_l2 hl hi (Classical.not_not.1 hp)) Ev.ret) ?_)
  rw [W_succ (by omega)]; exact hr
theorem r_l1 (hl : l.length ≤ 1024) (h : dist l) : Ev (fun k => waybillref20_Check.l1 k l 0) (Sum.inr ()) := by
  refine scan_all (n := l.length) (p := fun i => ¬ ∀ j, j < i → (g l i).ID ≠ (g l j).ID) (fun i hi hp r hr => r_l1s hl i hi hp r hr) (fun j hj q => q (h j hj)) ?_
  refine Ev.succ ?_
  simp only [waybillref20_Check.l1]
  exact Ev.neg (by omega) Ev.ret
theorem r_l1n (hl : l.length ≤ 1024) (h : ¬ dist l) : Ev (fun k => waybillref20_Check.l1 k l 0) (Sum.inl 6) := by
  refine scan_hit (n := l.length) (p := fun i => ¬ ∀ j, j < i → (g l i).ID ≠ (g l j).ID) (fun i hi hp r hr => r_l1s hl i hi hp r hr) ?_ (fun i hi hp _ => ?_)
  · unfold dist at h
    rw [Classical.not_forall] at h
    obtain ⟨i, h⟩ := h
    rw [Classical.not_imp] at h
    exact ⟨i, h.1, h.2⟩
  · refine Ev.succ ?_
    simp only [waybillref20_Check.l1]
    exact Ev.pos (by omega) (Ev.bind (Ev.bind (r_l2n hl hi hp) Ev.ret) Ev.ret)
theorem r_l3s (hl : l.length ≤ 1024) (i : Nat) (hi : i < l.length) (h0 : 0 < i) {r : Sum Int Unit}
    (hr : Ev (fun k => if decide (lt (g l i) (g l ((i - 1) / 2))) = true then (some (Sum.inl 9)) else (waybillref20_Check.l3 k l ((i + 1 : Nat) : Int))) r) : Ev (fun k => waybillref20_Check.l3 k l i) r := by
  refine Ev.succ ?_
  simp only [waybillref20_Check.l3, par_ok h0 (show i < 4611686018427387904 by omega)]
  refine Ev.pos (by omega) (Ev.pos (by omega) (Ev.pos (by omega) (Ev.pos (by omega) ?_)))
  simp only [g_rd, rahead_ok, Option.bind_some]
  rw [W_succ (by omega)]; exact hr
theorem r_l3e (hl : l.length ≤ 1024) {i : Nat} (hi : l.length ≤ i) : Ev (fun k => waybillref20_Check.l3 k l i) (Sum.inr ()) := by
  refine Ev.succ ?_
  simp only [waybillref20_Check.l3]
  exact Ev.neg (by omega) Ev.ret
theorem r_l3 (hl : l.length ≤ 1024) (h : Hp' l) : Ev (fun k => waybillref20_Check.l3 k l 1) (Sum.inr ()) := by
  have : ∀ (d i : Nat), i + d = l.length → 0 < i → Ev (fun k => waybillref20_Check.l3 k l i) (Sum.inr ()) := by
    intro d
    induction d with
    | zero => intro i h1 h0; exact r_l3e hl (by omega)
    | succ d ih =>
      intro i h1 h0
      exact r_l3s hl i (by omega) h0 (Ev.neg (by simpa using h i (by omega) h0) (ih (i + 1) (by omega) (by omega)))
  by_cases h0 : 0 < l.length
  · exact this (l.length - 1) 1 (by omega) (by omega)
  · exact r_l3e hl (i := 1) (by omega)
theorem r_l3n (hl : l.length ≤ 1024) (h : ¬ Hp' l) : Ev (fun k => waybillref20_Check.l3 k l 1) (Sum.inl 9) := by
  have hex : ∃ i, i < l.length ∧ (0 < i ∧ lt (g l i) (g l ((i - 1) / 2))) := by
    simp only [Hp', Classical.not_forall, Classical.not_not] at h
    obtain ⟨i, hi, h0, hp⟩ := h
    exact ⟨i, hi, h0, hp⟩
  obtain ⟨i, hi, ⟨h0, hp⟩, hf⟩ := first hex
  have : ∀ (d j : Nat), j + d = i → 0 < j → Ev (fun k => waybillref20_Check.l3 k l j) (Sum.inl 9) := by
    intro d
    induction d with
    | zero =>
      intro j h1 j0
      have : j = i := by omega
      subst this
      exact r_l3s hl j hi j0 (Ev.pos (by simpa using hp) Ev.ret)
    | succ d ih =>
      intro j h1 j0
      refine r_l3s hl j (by omega) j0 (Ev.neg ?_ (ih (j + 1) (by omega) (by omega)))
      have := hf j (by omega)
      simpa [j0] using this
  exact this (i - 1) 1 (by omega) (by omega)

/-- both answer one number; it is 0 just where the timers are a queue -/
theorem check_ok (l : List T) : ∃ e, Ev (fun k => timer_Check.f k l) e ∧ Ev (fun k => waybillref20_Check.f k l) e ∧ (e = 0 ↔ Good l) := by
  by_cases hl : l.length ≤ 1024
  · have hn : ¬ (1024 : Int) < (l.length : Int) := by omega
    have P1 : ∀ {e : Int}, Ev (fun k => timer_Check.l0 k l 0) e → Ev (fun k => timer_Check.f k l) e := fun h => by
      simp only [timer_Check.f]; exact Ev.neg hn h
    have P2 : ∀ {e : Int}, Ev (fun k => waybillref20_Check.l0 k l 0) e → Ev (fun k => waybillref20_Check.f k l) e := fun h => by
      simp only [waybillref20_Check.f]; exact Ev.neg hn h
    by_cases h1 : mays l
    · have hm := c_l1 hl l.length 0 [] (by omega) (fun x => by simp [mget_val, mval_nil]) (fun a ha => absurd ha (by omega))
      by_cases h2 : dist l
      · by_cases h3 : Hp' l
        · exact ⟨0, P1 (c_l0 hl (Ev.bind (hm.1 h2) (Ev.bind (c_l2 hl h3) Ev.ret)) h1), P2 (r_l0 hl (Ev.bind (r_l1 hl h2) (Ev.bind (r_l3 hl h3) Ev.ret)) h1), fun _ => ⟨hl, h1, h2, h3⟩, fun _ => rfl⟩
        · exact ⟨9, P1 (c_l0 hl (Ev.bind (hm.1 h2) (Ev.bind (c_l2n hl h3) Ev.ret)) h1), P2 (r_l0 hl (Ev.bind (r_l1 hl h2) (Ev.bind (r_l3n hl h3) Ev.ret)) h1), fun h => absurd h (by omega), fun h => absurd h.heap h3⟩
      · exact ⟨6, P1 (c_l0 hl (Ev.bind (hm.2 h2) Ev.ret) h1), P2 (r_l0 hl (Ev.bind (r_l1n hl h2) Ev.ret) h1), fun h => absurd h (by omega), fun h => absurd h.dist h2⟩
    · exact ⟨4, P1 (c_l0n hl h1), P2 (r_l0n hl h1), fun h => absurd h (by omega), fun h => absurd h.may h1⟩
  · refine ⟨3, ?_, ?_, fun h => absurd h (by omega), fun h => absurd h.len hl⟩
    · simp only [timer_Check.f]; exact Ev.pos (by omega) Ev.ret
    · simp only [waybillref20_Check.f]; exact Ev.pos (by omega) Ev.ret
end Go.Proofs.Ytailjeoimlemnaa.M

