/- waybill/draw.Shuffle: a plain function, and that the machine's call comes to it: printed by a program of the session's own. -/
import Derived.Test.YthlogangnppghaaK
import Derived.Test.YthlogangnppghaaF49
set_option linter.unusedVariables false
set_option linter.unusedSimpArgs false
namespace Go.Proofs.Ythlogangnppghaa.M
open Go Go.Proofs.Ythlogangnppghaa.Sl
/-! ### waybill/draw.Shuffle: function 39 -/
def draw_Shuffle.l0 : Nat → Int → Int → (List Int) → Option ((List Int))
  | 0, _, _, _ => none
  | k + 1, x_n, z12x, z13x => if z12x < x_n then (if z13x.length + ([z12x] : List Int).length < 17592186044416 then (draw_Shuffle.l0 k x_n (IntKind.i64.wrap (z12x + 1)) (z13x ++ ([z12x] : List Int))) else (none)) else (some z13x)
def draw_Shuffle.l1 : Nat → (List Int) → Nat → (List Int) → Int → Option ((List Int) × Int)
  | 0, _, _, _, _ => none
  | k + 1, z8x, z26x, z27x, z28x => if 1 < (z26x : Int) then ((draw_stream_below.f z28x (z26x : Int)).bind fun (z31t, z32t) => (if 0 ≤ (IntKind.i64.wrap ((z26x : Int) - 1)) then (if (IntKind.i64.wrap ((z26x : Int) - 1)) < (z26x : Int) then (if (IntKind.i64.wrap ((z26x : Int) - 1)) < (z8x.length : Int) then (if 0 ≤ z31t then (if z31t < (z26x : Int) then (if z31t < (z8x.length : Int) then (if (IntKind.i64.wrap ((z26x : Int) - 1)) ≤ (z8x.length : Int) then (draw_Shuffle.l1 k z8x (Int.toNat (IntKind.i64.wrap ((z26x : Int) - 1))) ((z27x.set (Int.toNat z31t) (rd e_i64 z27x (IntKind.i64.wrap ((z26x : Int) - 1)))).set (Int.toNat (IntKind.i64.wrap ((z26x : Int) - 1))) (rd e_i64 z27x z31t)) z32t) else (none)) else (none)) else (none)) else (none)) else (none)) else (none)) else (none))) else (some (z27x, z28x))
def draw_Shuffle.f (k : Nat) (x_state : Int) (x_n : Int) : Option (Int × (List Int) × Int) := ((if x_n < 0 then (some true) else (some (decide (1024 < x_n)))) : Option (Bool)).bind fun z1x => (if z1x = true then (some (0, ([] : List Int), 4)) else ((((draw_Shuffle.l0 k x_n 0 ([] : List Int))) : Option ((List Int))).bind fun z8x => ((((draw_Shuffle.l1 k z8x z8x.length z8x x_state)) : Option ((List Int) × Int)).bind fun (z24x, z25x) => (some (z25x, z24x, 0)))))
set_option maxRecDepth 100000 in
set_option maxHeartbeats 4000000 in
theorem draw_Shuffle.calls (k : Nat) (x_state : Int) (x_n : Int) (W0 : World) (X : Heap)  (Hq : HS W0 [isH X] W0) (r : Int × (List Int) × Int) (H : draw_Shuffle.f k x_state x_n = some r) :
    Calls Try.prog 39 #[.int .u64 x_state, .int .i64 x_n] W0 (fun e w => ∃ Ar0 nr0 cr0, e = .returned (.tuple #[.int .u64 r.1, .slice Ar0 nr0 cr0, .int .i64 r.2.2]) ∧ HS W0 [own e_i64 3 Ar0 nr0 cr0 r.2.1, isH X] w) := by
  rw [draw_Shuffle.f] at H
  refine calls_in Try.func39 rfl rfl ?_
  intro a0 S0
  refine w_seq ?_
  refine w_region ?_
  refine r_pures [_, _, _] S0 rfl ?_
  clear S0; intro a0 S0
  refine wl_nil ?_
  refine nr_then ?_
  refine w_seq ?_
  refine w_seq ?_
  obtain ⟨z1x, H, HU1⟩ := Option.bind_eq_some_iff.mp H
  refine w_cutT (fun a w => Sl 60 [] [(0, .int .u64 x_state), (1, .int .i64 x_n), (18, .bool z1x)] a ∧ HS W0 [isH X] w) ?_ ?_
  · skip
    refine w_region ?_
    refine r_pures [_, _, _] S0 rfl ?_
    clear S0; intro a0 S0
    by_cases z2h : x_n < 0
    · replace H := (if_pos z2h).symm.trans H
      refine r_off S0 rfl rfl rfl (decide_eq_true z2h) ?_ rfl
      clear S0; intro a0 S0
      refine r_off S0 rfl rfl rfl (decide_eq_true z2h) ?_ rfl
      clear S0; intro a0 S0
      refine r_pick S0 rfl (decide_eq_true z2h) _ rfl rfl ?_
      clear S0; intro a0 S0
      refine wl_nil ?_
      refine nr_then ?_
      obtain rfl := Option.some.inj H
      exact ⟨S0.sub ⟨rfl, rfl, rfl, trivial⟩, Hq⟩
    · replace H := (if_neg z2h).symm.trans H
      refine r_on S0 rfl rfl rfl (decide_eq_false z2h) ?_
      refine r_pures [_] S0 rfl ?_
      clear S0; intro a0 S0
      refine r_on S0 rfl rfl rfl (decide_eq_false z2h) ?_
      refine r_pures [_] S0 rfl ?_
      clear S0; intro a0 S0
      refine r_pick S0 rfl (decide_eq_false z2h) _ rfl rfl ?_
      clear S0; intro a0 S0
      refine wl_nil ?_
      refine nr_then ?_
      obtain rfl := Option.some.inj H
      exact ⟨S0.sub ⟨rfl, rfl, rfl, trivial⟩, Hq⟩
  · clear S0; rintro a w ⟨S0, Hq⟩
    have H := HU1; clear HU1
    refine nr_then ?_
    by_cases z3h : z1x = true
    · replace H := (if_pos z3h).symm.trans H
      refine w_true S0 rfl z3h ?_
      refine w_seq ?_
      refine w_region ?_
      refine r_pures [_, _, _] S0 rfl ?_
      clear S0; intro a0 S0
      refine wl_nil ?_
      refine nr_then ?_
      refine w_ret ?_
      refine ret_then ?_
      obtain rfl := Option.some.inj H
      replace Hq := HS.own_nil e_i64 3 Hq
      refine ret3 S0 rfl rfl rfl rfl ?_
      replace Hq := HS.pull [_] Hq
      dsimp only [List.cons_append, List.nil_append] at Hq
      replace Hq := HS.pull [_] Hq
      dsimp only [List.cons_append, List.nil_append] at Hq
      exact ⟨none, 0, 0, rfl, Hq⟩
    · replace H := (if_neg z3h).symm.trans H
      refine w_false S0 rfl (Bool.eq_false_iff.mpr z3h) ?_
      refine w_skip ?_
      refine nr_then ?_
      refine w_seq ?_
      refine w_region ?_
      refine r_pures [_] S0 rfl ?_
      clear S0; intro a0 S0
      refine r_alloc S0 Hq ti78 rfl ?_
      clear S0 Hq; intro z5b a0 w S0 Hq
      refine r_st [] S0 Hq rfl rfl ti78 [.int .u64 x_state] rfl rfl rfl rfl [.int .u64 x_state] rfl ?_
      clear Hq; intro w Hq; dsimp only [List.cons_append, List.nil_append] at Hq
      refine wl_nil ?_
      refine nr_then ?_
      refine w_seq ?_
      refine w_region ?_
      refine r_pures [_] S0 rfl ?_
      clear S0; intro a0 S0
      refine wl_nil ?_
      refine nr_then ?_
      refine w_seq ?_
      refine w_seq ?_
      refine w_region ?_
      refine r_pures [_, _] S0 rfl ?_
      clear S0; intro a0 S0
      refine wl_nil ?_
      refine nr_then ?_
      replace Hq := HS.own_nil e_i64 3 Hq
      obtain ⟨z8x, H, HU2⟩ := Option.bind_eq_some_iff.mp H
      refine w_cutT (fun a w => ∃ z9A z10m z11n, Sl 60 [] [(7, .pointer (some ⟨z5b, 0, none⟩)), (8, .slice z9A z10m z11n)] a ∧ HS W0 [own e_i64 3 z9A z10m z11n z8x, bx z5b 78 [.int .u64 x_state], isH X] w) ?_ ?_
      · skip
        refine w_block ?_
        refine w_loop (fun kq a w => ∃ z12x z13x z14A z15m z16n, draw_Shuffle.l0 kq x_n z12x z13x = some z8x ∧ Sl 60 [] [(7, .pointer (some ⟨z5b, 0, none⟩)), (8, .slice z14A z15m z16n), (20, .int .i64 x_n), (21, .int .i64 z12x)] a ∧ HS W0 [own e_i64 3 z14A z15m z16n z13x, bx z5b 78 [.int .u64 x_state], isH X] w) _ ⟨0, ([] : List Int), none, 0, 0, H, S0.sub ⟨rfl, rfl, rfl, rfl, trivial⟩, Hq⟩ ?_
        clear H Hq S0
        rintro k0 a w ⟨z12x, z13x, z14A, z15m, z16n, H, S0, Hq⟩
        cases k0 with
        | zero => simp [draw_Shuffle.l0] at H
        | succ k0 =>
          refine ⟨k0, rfl, ?_⟩
          rw [draw_Shuffle.l0] at H
          obtain rfl := own_len [] Hq
          refine w_seq ?_
          refine w_region ?_
          refine r_pures [_] S0 rfl ?_
          clear S0; intro a0 S0
          refine wl_nil ?_
          refine nr_then ?_
          refine w_seq ?_
          by_cases z17h : z12x < x_n
          · replace H := (if_pos z17h).symm.trans H
            refine w_true S0 rfl (decide_eq_true z17h) ?_
            refine w_skip ?_
            refine nr_then ?_
            refine w_seq ?_
            refine w_block ?_
            refine w_seq ?_
            refine w_region ?_
            refine r_pures [_, _] S0 rfl ?_
            clear S0; intro a0 S0
            refine wl_nil ?_
            refine nr_then ?_
            refine w_region ?_
            refine r_pures [_, _] S0 rfl ?_
            clear S0; intro a0 S0
            refine r_lit (e := e_i64) (l := ([z12x] : List Int)) (m := 1) (vs := [.int .i64 z12x]) S0 Hq sl22 ti3 rfl rfl rfl rfl rfl rfl ?_
            clear S0 Hq; intro z18b a0 w S0 Hq
            by_cases z21h : z13x.length + ([z12x] : List Int).length < 17592186044416
            · replace H := (if_pos z21h).symm.trans H
              refine r_app [_] S0 Hq (own_rd [] Hq) rfl rfl sl22 ti3 rfl z21h rfl rfl ?_
              clear S0 Hq; intro z22A z23n a0 w S0 Hq; dsimp only [List.cons_append, List.nil_append] at Hq
              refine r_pures [_] S0 rfl ?_
              clear S0; intro a0 S0
              refine wl_nil ?_
              refine nr_in ?_
              refine nr_then ?_
              refine w_region ?_
              refine r_pures [_, _] S0 rfl ?_
              clear S0; intro a0 S0
              refine wl_nil ?_
              refine nr_then ?_
              replace Hq := HS.pull [_, _, _] Hq
              dsimp only [List.cons_append, List.nil_append] at Hq
              replace Hq := HS.pull [_, _, _] Hq
              dsimp only [List.cons_append, List.nil_append] at Hq
              replace Hq := HS.pull [_, _, _] Hq
              dsimp only [List.cons_append, List.nil_append] at Hq
              replace Hq := HS.keep [_, _, _] Hq
              exact ⟨(IntKind.i64.wrap (z12x + 1)), (z13x ++ ([z12x] : List Int)), z22A, ((z13x ++ ([z12x] : List Int)).length), z23n, H, S0.sub ⟨rfl, rfl, rfl, rfl, trivial⟩, Hq⟩
            · replace H := (if_neg z21h).symm.trans H
              exact nomatch H
          · replace H := (if_neg z17h).symm.trans H
            refine w_false S0 rfl (decide_eq_false z17h) ?_
            refine w_exit ?_
            refine ex_then ?_
            refine ex_then ?_
            refine ex_in ?_
            refine nr_then ?_
            obtain rfl := Option.some.inj H
            exact ⟨z14A, z13x.length, z16n, S0.sub ⟨rfl, rfl, trivial⟩, Hq⟩
      · clear S0; rintro a w ⟨z9A, z10m, z11n, S0, Hq⟩
        have H := HU2; clear HU2
        obtain rfl := own_len [] Hq
        refine nr_then ?_
        refine w_seq ?_
        refine w_seq ?_
        refine w_region ?_
        refine r_pures [_, _] S0 rfl ?_
        clear S0; intro a0 S0
        refine wl_nil ?_
        refine nr_then ?_
        obtain ⟨⟨z24x, z25x⟩, H, HU3⟩ := Option.bind_eq_some_iff.mp H
        dsimp only at HU3
        refine w_cutT (fun a w => Sl 60 [] [(7, .pointer (some ⟨z5b, 0, none⟩)), (8, .slice z9A z8x.length z11n)] a ∧ HS W0 [own e_i64 3 z9A z8x.length z11n z24x, bx z5b 78 [.int .u64 z25x], isH X] w) ?_ ?_
        · skip
          refine w_block ?_
          refine w_loop (fun kq a w => ∃ z26x z27x z28x, draw_Shuffle.l1 kq z8x z26x z27x z28x = some (z24x, z25x) ∧ Sl 60 [] [(7, .pointer (some ⟨z5b, 0, none⟩)), (8, .slice z9A z8x.length z11n), (10, .slice z9A z26x z11n)] a ∧ HS W0 [own e_i64 3 z9A z8x.length z11n z27x, bx z5b 78 [.int .u64 z28x], isH X] w) _ ⟨z8x.length, z8x, x_state, H, S0.sub ⟨rfl, rfl, rfl, trivial⟩, Hq⟩ ?_
          clear H Hq S0
          rintro k1 a w ⟨z26x, z27x, z28x, H, S0, Hq⟩
          cases k1 with
          | zero => simp [draw_Shuffle.l1] at H
          | succ k1 =>
            refine ⟨k1, rfl, ?_⟩
            rw [draw_Shuffle.l1] at H
            refine w_seq ?_
            refine w_seq ?_
            refine w_region ?_
            refine r_pures [_] S0 rfl ?_
            clear S0; intro a0 S0
            refine r_len S0 rfl sl22 rfl ?_
            clear S0; intro a0 S0
            refine r_pures [_] S0 rfl ?_
            clear S0; intro a0 S0
            refine wl_nil ?_
            refine nr_then ?_
            by_cases z29h : 1 < (z26x : Int)
            · replace H := (if_pos z29h).symm.trans H
              refine w_true S0 rfl (decide_eq_true z29h) ?_
              refine w_skip ?_
              refine nr_then ?_
              refine w_seq ?_
              refine w_block ?_
              refine w_seq ?_
              refine w_region ?_
              refine r_pures [_] S0 rfl ?_
              clear S0; intro a0 S0
              refine r_len S0 rfl sl22 rfl ?_
              clear S0; intro a0 S0
              replace Hq := HS.pull [_] Hq
              dsimp only [List.cons_append, List.nil_append] at Hq
              obtain ⟨Xz30, HXz30, HPz30, HBz30⟩ := call_frame [_] Hq
              dsimp only [List.cons_append, List.nil_append] at HXz30 HBz30
              obtain ⟨⟨z31t, z32t⟩, Hc, H⟩ := Option.bind_eq_some_iff.mp H
              dsimp only at H
              refine r_call S0 rfl rfl goes49 rfl ?_
              refine (draw_stream_below.calls _ z28x (z26x : Int) _ _  HXz30 (z31t, z32t) Hc).mono ?_
              rintro e w ⟨rfl, Hq'⟩
              have Hq : HS W0 [bx z5b 78 [.int .u64 z32t], own e_i64 3 z9A z8x.length z11n z27x, isH X] w := HBz30 [_] _ Hq'
              clear HXz30 HPz30 HBz30 Hq'
              refine ⟨.int .i64 z31t, rfl, ?_⟩; clear S0; intro a0 S0
              refine r_pures [_] S0 rfl ?_
              clear S0; intro a0 S0
              refine r_len S0 rfl sl22 rfl ?_
              clear S0; intro a0 S0
              refine r_pures [_, _, _] S0 rfl ?_
              clear S0; intro a0 S0
              refine wl_nil ?_
              refine nr_then ?_
              refine w_draw TryM.mixed [.pu 0, .pu 1, .pu 2, .pu 3, .pu 4, .pu 5, .pu 6, .pu 8, .pu 9, .pu 10, .rd 7, .rd 11, .pu 12, .ds 13, .pu 14, .ds 15] (by kernel_rfl) rfl ?_
              replace Hq := Hq.drew
              refine st_pures [0, 1, 2, 3, 4, 5] S0 rfl ?_
              intro az33q Sz33q
              by_cases z34h : 0 ≤ (IntKind.i64.wrap ((z26x : Int) - 1))
              · replace H := (if_pos z34h).symm.trans H
                by_cases z35h : (IntKind.i64.wrap ((z26x : Int) - 1)) < (z26x : Int)
                · replace H := (if_pos z35h).symm.trans H
                  by_cases z36h : (IntKind.i64.wrap ((z26x : Int) - 1)) < (z8x.length : Int)
                  · replace H := (if_pos z36h).symm.trans H
                    obtain ⟨z37g, rfl⟩ := own_at [_] Hq (by omega)
                    refine st_pu Sz33q rfl (g_none rfl) rfl rfl (fun _ => y_index Sz33q rfl rfl sl22 ti3 z34h z35h) ?_
                    intro az38q Sz38q
                    refine st_pures [8, 9] Sz38q rfl ?_
                    intro az39q Sz39q
                    by_cases z40h : 0 ≤ z31t
                    · replace H := (if_pos z40h).symm.trans H
                      by_cases z41h : z31t < (z26x : Int)
                      · replace H := (if_pos z41h).symm.trans H
                        by_cases z42h : z31t < (z8x.length : Int)
                        · replace H := (if_pos z42h).symm.trans H
                          refine st_pu Sz39q rfl (g_none rfl) rfl rfl (fun _ => y_index Sz39q rfl rfl sl22 ti3 z40h z41h) ?_
                          intro az43q Sz43q
                          refine st_rd Sz43q rfl (g_none rfl) rfl rfl (y_elS Sz43q (own_rd [_] Hq) z34h z36h rfl ti3 _ rfl) ?_
                          intro az44q Sz44q
                          refine st_rd Sz44q rfl (g_none rfl) rfl rfl (y_elS Sz44q (own_rd [_] Hq) z40h z42h rfl ti3 _ rfl) ?_
                          intro az45q Sz45q
                          refine st_pu Sz45q rfl (g_none rfl) rfl rfl (fun _ => y_index Sz45q rfl rfl sl22 ti3 z40h z41h) ?_
                          intro az46q Sz46q
                          refine st_ds rfl ?_
                          have Sz47q := Sz46q
                          refine r_elst [_] Sz47q Hq z40h z42h rfl rfl ti3 [.int .i64 (rd e_i64 z27x (IntKind.i64.wrap ((z26x : Int) - 1)))] rfl rfl rfl rfl (rd e_i64 z27x (IntKind.i64.wrap ((z26x : Int) - 1))) rfl ?_
                          clear Hq; intro w Hq; dsimp only [List.cons_append, List.nil_append] at Hq
                          refine wl_nil ?_
                          refine nr_then ?_
                          refine st_pu Sz47q rfl (g_none rfl) rfl rfl (fun _ => y_index Sz47q rfl rfl sl22 ti3 z34h z35h) ?_
                          intro az48q Sz48q
                          refine st_ds rfl ?_
                          have Sz49q := Sz48q
                          refine r_elst [_] Sz49q Hq z34h z36h rfl rfl ti3 [.int .i64 (rd e_i64 z27x z31t)] rfl rfl rfl rfl (rd e_i64 z27x z31t) rfl ?_
                          clear Hq; intro w Hq; dsimp only [List.cons_append, List.nil_append] at Hq
                          refine wl_nil ?_
                          refine nr_then ?_
                          refine st_nil ?_
                          replace S0 := Sz49q
                          refine nr_in ?_
                          refine nr_then ?_
                          refine w_region ?_
                          refine r_pures [_, _] S0 rfl ?_
                          clear S0; intro a0 S0
                          refine r_len S0 rfl sl22 rfl ?_
                          clear S0; intro a0 S0
                          refine r_pures [_] S0 rfl ?_
                          clear S0; intro a0 S0
                          by_cases z50h : (IntKind.i64.wrap ((z26x : Int) - 1)) ≤ (z8x.length : Int)
                          · replace H := (if_pos z50h).symm.trans H
                            refine r_cutV [_] S0 Hq rfl sl22 ti3 _ rfl z34h z50h rfl ?_
                            clear S0; intro a0 S0
                            refine r_pures [_] S0 rfl ?_
                            clear S0; intro a0 S0
                            refine wl_nil ?_
                            refine nr_then ?_
                            replace Hq := HS.pull [_, _] Hq
                            dsimp only [List.cons_append, List.nil_append] at Hq
                            replace Hq := HS.pull [_] Hq
                            dsimp only [List.cons_append, List.nil_append] at Hq
                            replace Hq := HS.pull [_, _] Hq
                            dsimp only [List.cons_append, List.nil_append] at Hq
                            exact ⟨(Int.toNat (IntKind.i64.wrap ((z26x : Int) - 1))), ((z27x.set (Int.toNat z31t) (rd e_i64 z27x (IntKind.i64.wrap ((z26x : Int) - 1)))).set (Int.toNat (IntKind.i64.wrap ((z26x : Int) - 1))) (rd e_i64 z27x z31t)), z32t, H, S0.sub ⟨rfl, rfl, rfl, trivial⟩, Hq⟩
                          · replace H := (if_neg z50h).symm.trans H
                            exact nomatch H
                        · replace H := (if_neg z42h).symm.trans H
                          exact nomatch H
                      · replace H := (if_neg z41h).symm.trans H
                        exact nomatch H
                    · replace H := (if_neg z40h).symm.trans H
                      exact nomatch H
                  · replace H := (if_neg z36h).symm.trans H
                    exact nomatch H
                · replace H := (if_neg z35h).symm.trans H
                  exact nomatch H
              · replace H := (if_neg z34h).symm.trans H
                exact nomatch H
            · replace H := (if_neg z29h).symm.trans H
              refine w_false S0 rfl (decide_eq_false z29h) ?_
              refine w_exit ?_
              refine ex_then ?_
              refine ex_then ?_
              refine ex_in ?_
              refine nr_then ?_
              simp only [Option.some.injEq, Prod.mk.injEq] at H; obtain ⟨rfl, rfl⟩ := H
              exact ⟨S0.sub ⟨rfl, rfl, trivial⟩, Hq⟩
        · clear S0; rintro a w ⟨S0, Hq⟩
          have H := HU3; clear HU3
          refine nr_then ?_
          refine w_seq ?_
          refine w_region ?_
          refine r_ldS [_] S0 Hq rfl ti78 _ rfl rfl ?_
          clear S0; intro a0 S0
          refine r_pures [_, _, _, _] S0 rfl ?_
          clear S0; intro a0 S0
          refine wl_nil ?_
          refine nr_then ?_
          refine w_ret ?_
          obtain rfl := Option.some.inj H
          refine ret3 S0 rfl rfl rfl rfl ?_
          replace Hq := HS.pull [_, _] Hq
          dsimp only [List.cons_append, List.nil_append] at Hq
          replace Hq := HS.pull [_] Hq
          dsimp only [List.cons_append, List.nil_append] at Hq
          replace Hq := HS.keep [_, _] Hq
          exact ⟨z9A, z8x.length, z11n, rfl, Hq⟩

end Go.Proofs.Ythlogangnppghaa.M
