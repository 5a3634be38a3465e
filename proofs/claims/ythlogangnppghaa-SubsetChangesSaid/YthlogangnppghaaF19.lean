/- (waybill/subset.dealer).of: a plain function, and that the machine's call comes to it: printed by a program of the session's own. -/
import Derived.Test.YthlogangnppghaaK
import Derived.Test.YthlogangnppghaaF14
import Derived.Test.YthlogangnppghaaF27
import Derived.Test.YthlogangnppghaaF28
set_option linter.unusedVariables false
set_option linter.unusedSimpArgs false
namespace Go.Proofs.Ythlogangnppghaa.M
open Go Go.Proofs.Ythlogangnppghaa.Sl
/-! ### (waybill/subset.dealer).of: function 19 -/
def subset_dealer_of.f (k : Nat) (x_d : subset_dealer) (x_client : Int) : Option ((List Int) × Int) := (subset_dealer_check.f k x_d).bind fun z4t => (if z4t = 0 then ((subset_Round.f (x_d.ids.length : Int) x_client x_d.size).bind fun (z7t, z8t, z9t) => (if z9t = 0 then ((subset_dealer_hand.f k x_d (⟨z7t, z8t⟩ : subset_place)).bind fun z12t => (some (z12t, 0))) else (some (([] : List Int), z9t)))) else (some (([] : List Int), z4t)))
set_option maxRecDepth 100000 in
set_option maxHeartbeats 4000000 in
theorem subset_dealer_of.calls (k : Nat) (A0x0 : Option Addr) (n0x0 c0x0 : Nat) (x_d : subset_dealer) (x_client : Int) (W0 : World) (X : Heap) (HR0x0 : Rd e_i64 X A0x0 n0x0 c0x0 x_d.ids) (Hq : HS W0 [isH X] W0) (r : (List Int) × Int) (H : subset_dealer_of.f k x_d x_client = some r) :
    Calls Try.prog 19 #[.agg #[.slice A0x0 n0x0 c0x0, .int .i64 x_d.size, .int .u64 x_d.seed], .int .i64 x_client] W0 (fun e w => ∃ Ar0 nr0 cr0, e = .returned (.tuple #[.slice Ar0 nr0 cr0, .int .i64 r.2]) ∧ HS W0 [own e_i64 3 Ar0 nr0 cr0 r.1, isH X] w) := by
  obtain rfl := HR0x0.1
  rw [subset_dealer_of.f] at H
  refine calls_in Try.func19 rfl rfl ?_
  intro a0 S0
  refine w_seq ?_
  refine w_region ?_
  refine r_box (vs := [.slice A0x0 x_d.ids.length c0x0, .int .i64 x_d.size, .int .u64 x_d.seed]) S0 Hq rfl rfl rfl ?_
  clear S0 Hq; intro z1b a0 w S0 Hq
  refine r_pures [_, _] S0 rfl ?_
  clear S0; intro a0 S0
  refine wl_nil ?_
  refine nr_then ?_
  refine w_seq ?_
  refine w_seq ?_
  refine w_region ?_
  refine r_ldA [] S0 Hq rfl ti45 [.slice A0x0 x_d.ids.length c0x0, .int .i64 x_d.size, .int .u64 x_d.seed] rfl rfl rfl ?_
  clear S0; intro a0 S0
  obtain ⟨Xz3, HXz3, HPz3, HBz3⟩ := call_frame [] Hq
  dsimp only [List.cons_append, List.nil_append] at HXz3 HBz3
  obtain ⟨z4t, Hc, H⟩ := Option.bind_eq_some_iff.mp H
  refine r_call S0 rfl rfl goes27 rfl ?_
  refine (subset_dealer_check.calls _ _ _ _ x_d _ _ (sl_isH_rd [_] HPz3 HR0x0) HXz3 z4t Hc).mono ?_
  rintro e w ⟨rfl, Hq'⟩
  have Hq : HS W0 [bx z1b 45 [.slice A0x0 x_d.ids.length c0x0, .int .i64 x_d.size, .int .u64 x_d.seed], isH X] w := HBz3 [] _ Hq'
  clear HXz3 HPz3 HBz3 Hq'
  refine ⟨.int .i64 z4t, rfl, ?_⟩; clear S0; intro a0 S0
  refine r_pures [_] S0 rfl ?_
  clear S0; intro a0 S0
  refine wl_nil ?_
  refine nr_then ?_
  refine w_seq ?_
  refine w_region ?_
  refine r_pures [_, _] S0 rfl ?_
  clear S0; intro a0 S0
  refine wl_nil ?_
  refine nr_then ?_
  by_cases z5h : z4t = 0
  · replace H := (if_pos z5h).symm.trans H
    refine w_false S0 rfl (congrArg (!·) (decide_eq_true z5h)) ?_
    refine w_skip ?_
    refine nr_then ?_
    refine w_seq ?_
    refine w_region ?_
    refine r_fieldAddr S0 rfl fo45x0 (0) rfl rfl ?_
    clear S0; intro a0 S0
    refine r_ldS [] S0 Hq rfl ti22 _ rfl rfl ?_
    clear S0; intro a0 S0
    refine r_len S0 rfl sl22 rfl ?_
    clear S0; intro a0 S0
    refine r_pures [_] S0 rfl ?_
    clear S0; intro a0 S0
    refine r_fieldAddr S0 rfl fo45x1 (1) rfl rfl ?_
    clear S0; intro a0 S0
    refine r_ldS [] S0 Hq rfl ti3 _ rfl rfl ?_
    clear S0; intro a0 S0
    obtain ⟨Xz6, HXz6, HPz6, HBz6⟩ := call_frame [] Hq
    dsimp only [List.cons_append, List.nil_append] at HXz6 HBz6
    obtain ⟨⟨z7t, z8t, z9t⟩, Hc, H⟩ := Option.bind_eq_some_iff.mp H
    dsimp only at H
    refine r_call S0 rfl rfl goes14 rfl ?_
    refine (subset_Round.calls (x_d.ids.length : Int) x_client x_d.size _ _  HXz6 (z7t, z8t, z9t) Hc).mono ?_
    rintro e w ⟨rfl, Hq'⟩
    have Hq : HS W0 [bx z1b 45 [.slice A0x0 x_d.ids.length c0x0, .int .i64 x_d.size, .int .u64 x_d.seed], isH X] w := HBz6 [] _ Hq'
    clear HXz6 HPz6 HBz6 Hq'
    refine ⟨.tuple #[.int .i64 z7t, .int .i64 z8t, .int .i64 z9t], rfl, ?_⟩; clear S0; intro a0 S0
    refine r_pures [_, _, _, _, _, _, _] S0 rfl ?_
    clear S0; intro a0 S0
    refine wl_nil ?_
    refine nr_then ?_
    refine w_seq ?_
    refine w_seq ?_
    refine w_region ?_
    refine r_pures [_, _] S0 rfl ?_
    clear S0; intro a0 S0
    refine wl_nil ?_
    refine nr_then ?_
    by_cases z10h : z9t = 0
    · replace H := (if_pos z10h).symm.trans H
      refine w_false S0 rfl (congrArg (!·) (decide_eq_true z10h)) ?_
      refine w_skip ?_
      refine nr_then ?_
      refine w_seq ?_
      refine w_region ?_
      refine r_ldA [] S0 Hq rfl ti45 [.slice A0x0 x_d.ids.length c0x0, .int .i64 x_d.size, .int .u64 x_d.seed] rfl rfl rfl ?_
      clear S0; intro a0 S0
      refine r_pures [_, _] S0 rfl ?_
      clear S0; intro a0 S0
      refine r_build S0 ti57 pl57 rfl [.int .i64 z7t, .int .i64 z8t] rfl rfl ?_
      clear S0; intro a0 S0
      obtain ⟨Xz11, HXz11, HPz11, HBz11⟩ := call_frame [] Hq
      dsimp only [List.cons_append, List.nil_append] at HXz11 HBz11
      obtain ⟨z12t, Hc, H⟩ := Option.bind_eq_some_iff.mp H
      refine r_call S0 rfl rfl goes28 rfl ?_
      refine (subset_dealer_hand.calls _ _ _ _ x_d (⟨z7t, z8t⟩ : subset_place) _ _ (sl_isH_rd [_] HPz11 HR0x0) HXz11 z12t Hc).mono ?_
      rintro e w ⟨z13A, z14m, z15n, rfl, Hq'⟩
      have Hq : HS W0 [own e_i64 3 z13A z14m z15n z12t, bx z1b 45 [.slice A0x0 x_d.ids.length c0x0, .int .i64 x_d.size, .int .u64 x_d.seed], isH X] w := HBz11 [_] _ Hq'
      clear HXz11 HPz11 HBz11 Hq'
      obtain rfl := own_len [] Hq
      refine ⟨.slice z13A z12t.length z15n, rfl, ?_⟩; clear S0; intro a0 S0
      refine r_pures [_, _] S0 rfl ?_
      clear S0; intro a0 S0
      refine wl_nil ?_
      refine nr_then ?_
      refine w_ret ?_
      obtain rfl := Option.some.inj H
      refine ret2 S0 rfl rfl rfl ?_
      replace Hq := HS.pull [_, _] Hq
      dsimp only [List.cons_append, List.nil_append] at Hq
      replace Hq := HS.pull [_] Hq
      dsimp only [List.cons_append, List.nil_append] at Hq
      replace Hq := HS.keep [_, _] Hq
      exact ⟨z13A, z12t.length, z15n, rfl, Hq⟩
    · replace H := (if_neg z10h).symm.trans H
      refine w_true S0 rfl (congrArg (!·) (decide_eq_false z10h)) ?_
      refine w_seq ?_
      refine w_region ?_
      refine r_pures [_, _, _] S0 rfl ?_
      clear S0; intro a0 S0
      refine wl_nil ?_
      refine nr_then ?_
      refine w_ret ?_
      refine ret_then ?_
      obtain rfl := Option.some.inj H
      replace Hq := HS.own_nil e_i64 3 Hq
      refine ret2 S0 rfl rfl rfl ?_
      replace Hq := HS.pull [_, _] Hq
      dsimp only [List.cons_append, List.nil_append] at Hq
      replace Hq := HS.pull [_] Hq
      dsimp only [List.cons_append, List.nil_append] at Hq
      replace Hq := HS.keep [_, _] Hq
      exact ⟨none, 0, 0, rfl, Hq⟩
  · replace H := (if_neg z5h).symm.trans H
    refine w_true S0 rfl (congrArg (!·) (decide_eq_false z5h)) ?_
    refine w_seq ?_
    refine w_region ?_
    refine r_pures [_, _, _] S0 rfl ?_
    clear S0; intro a0 S0
    refine wl_nil ?_
    refine nr_then ?_
    refine w_ret ?_
    refine ret_then ?_
    obtain rfl := Option.some.inj H
    replace Hq := HS.own_nil e_i64 3 Hq
    refine ret2 S0 rfl rfl rfl ?_
    replace Hq := HS.pull [_, _] Hq
    dsimp only [List.cons_append, List.nil_append] at Hq
    replace Hq := HS.pull [_] Hq
    dsimp only [List.cons_append, List.nil_append] at Hq
    replace Hq := HS.keep [_, _] Hq
    exact ⟨none, 0, 0, rfl, Hq⟩

end Go.Proofs.Ythlogangnppghaa.M
