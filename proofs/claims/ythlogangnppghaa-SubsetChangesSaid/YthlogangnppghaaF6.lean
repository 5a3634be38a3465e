/- waybill/waybilllaw13.alive: a plain function, and that the machine's call comes to it: printed by a program of the session's own. -/
import Derived.Test.YthlogangnppghaaK
import Derived.Test.YthlogangnppghaaF8
import Derived.Test.YthlogangnppghaaF12
import Derived.Test.YthlogangnppghaaF18
set_option linter.unusedVariables false
set_option linter.unusedSimpArgs false
namespace Go.Proofs.Ythlogangnppghaa.M
open Go Go.Proofs.Ythlogangnppghaa.Sl
/-! ### waybill/waybilllaw13.alive: function 6 -/
def waybilllaw13_alive.f (k : Nat) : Option (Bool) := (subset_Of.f k ([1, 2, 3] : List Int) 0 3 0).bind fun (z5t, z6t) => ((((waybilllaw13_num.f z6t).bind fun z13t => (if z13t = 0 then ((waybillplain_SameInts.f k z5t ([1, 2, 3] : List Int)).bind fun z19t => (some z19t)) else (some false))) : Option (Bool)).bind fun z11x => (some z11x))
set_option maxRecDepth 100000 in
set_option maxHeartbeats 4000000 in
theorem waybilllaw13_alive.calls (k : Nat)  (W0 : World) (X : Heap)  (Hq : HS W0 [isH X] W0) (r : Bool) (H : waybilllaw13_alive.f k  = some r) :
    Calls Try.prog 6 #[] W0 (fun e w => e = .returned (.bool r) ∧ HS W0 [isH X] w) := by
  rw [waybilllaw13_alive.f] at H
  refine calls_in Try.func6 rfl rfl ?_
  intro a0 S0
  refine w_seq ?_
  refine w_region ?_
  refine r_pures [_] S0 rfl ?_
  clear S0; intro a0 S0
  refine wl_nil ?_
  refine nr_then ?_
  refine w_seq ?_
  refine w_region ?_
  refine r_lit (e := e_i64) (l := ([1, 2, 3] : List Int)) (m := 3) (vs := [.int .i64 1, .int .i64 2, .int .i64 3]) S0 Hq sl22 ti3 rfl rfl rfl rfl rfl rfl ?_
  clear S0 Hq; intro z1b a0 w S0 Hq
  obtain ⟨Xz4, HXz4, HPz4, HBz4⟩ := call_frame [] Hq
  dsimp only [List.cons_append, List.nil_append] at HXz4 HBz4
  obtain ⟨⟨z5t, z6t⟩, Hc, H⟩ := Option.bind_eq_some_iff.mp H
  dsimp only at H
  refine r_call S0 rfl rfl goes12 rfl ?_
  refine (subset_Of.calls _ _ _ _ ([1, 2, 3] : List Int) 0 3 0 _ _ (sl_own_rd [] HPz4) HXz4 (z5t, z6t) Hc).mono ?_
  rintro e w ⟨z7A, z8m, z9n, rfl, Hq'⟩
  have Hq : HS W0 [own e_i64 3 z7A z8m z9n z5t, own e_i64 3 (some ⟨z1b, 0, none⟩) 3 3 ([1, 2, 3] : List Int), isH X] w := HBz4 [_] _ Hq'
  clear HXz4 HPz4 HBz4 Hq'
  obtain rfl := own_len [] Hq
  refine ⟨.tuple #[.slice z7A z5t.length z9n, .int .i64 z6t], rfl, ?_⟩; clear S0; intro a0 S0
  refine r_pures [_, _, _, _, _] S0 rfl ?_
  clear S0; intro a0 S0
  refine wl_nil ?_
  refine nr_then ?_
  refine w_seq ?_
  obtain ⟨z11x, H, HU1⟩ := Option.bind_eq_some_iff.mp H
  refine w_cutT (fun a w => Sl 16 [] [(0, .bool z11x)] a ∧ HS W0 [isH X] w) ?_ ?_
  · skip
    refine w_region ?_
    refine r_pures [_] S0 rfl ?_
    clear S0; intro a0 S0
    obtain ⟨Xz12, HXz12, HPz12, HBz12⟩ := call_frame [] Hq
    dsimp only [List.cons_append, List.nil_append] at HXz12 HBz12
    obtain ⟨z13t, Hc, H⟩ := Option.bind_eq_some_iff.mp H
    refine r_call S0 rfl rfl goes8 rfl ?_
    refine (waybilllaw13_num.calls z6t _ _  HXz12 z13t Hc).mono ?_
    rintro e w ⟨rfl, Hq'⟩
    have Hq : HS W0 [own e_i64 3 z7A z5t.length z9n z5t, own e_i64 3 (some ⟨z1b, 0, none⟩) 3 3 ([1, 2, 3] : List Int), isH X] w := HBz12 [] _ Hq'
    clear HXz12 HPz12 HBz12 Hq'
    refine ⟨.int .i64 z13t, rfl, ?_⟩; clear S0; intro a0 S0
    refine r_pures [_, _] S0 rfl ?_
    clear S0; intro a0 S0
    by_cases z14h : z13t = 0
    · replace H := (if_pos z14h).symm.trans H
      refine r_on S0 rfl rfl rfl (decide_eq_true z14h) ?_
      refine r_pures [_] S0 rfl ?_
      clear S0; intro a0 S0
      refine r_on S0 rfl rfl rfl (decide_eq_true z14h) ?_
      refine r_lit (e := e_i64) (l := ([1, 2, 3] : List Int)) (m := 3) (vs := [.int .i64 1, .int .i64 2, .int .i64 3]) S0 Hq sl22 ti3 rfl rfl rfl rfl rfl rfl ?_
      clear S0 Hq; intro z15b a0 w S0 Hq
      refine r_on S0 rfl rfl rfl (decide_eq_true z14h) ?_
      obtain ⟨Xz18, HXz18, HPz18, HBz18⟩ := call_frame [] Hq
      dsimp only [List.cons_append, List.nil_append] at HXz18 HBz18
      obtain ⟨z19t, Hc, H⟩ := Option.bind_eq_some_iff.mp H
      refine r_call S0 rfl rfl goes18 rfl ?_
      refine (waybillplain_SameInts.calls _ _ _ _ z5t _ _ _ ([1, 2, 3] : List Int) _ _ (sl_own_rd [_] HPz18) (sl_own_rd [] HPz18) HXz18 z19t Hc).mono ?_
      rintro e w ⟨rfl, Hq'⟩
      have Hq : HS W0 [own e_i64 3 (some ⟨z15b, 0, none⟩) 3 3 ([1, 2, 3] : List Int), own e_i64 3 z7A z5t.length z9n z5t, own e_i64 3 (some ⟨z1b, 0, none⟩) 3 3 ([1, 2, 3] : List Int), isH X] w := HBz18 [] _ Hq'
      clear HXz18 HPz18 HBz18 Hq'
      refine ⟨.bool z19t, rfl, ?_⟩; clear S0; intro a0 S0
      refine r_pick S0 rfl (decide_eq_true z14h) _ rfl rfl ?_
      clear S0; intro a0 S0
      refine r_pures [_] S0 rfl ?_
      clear S0; intro a0 S0
      refine wl_nil ?_
      refine nr_then ?_
      replace Hq := HS.pull [_, _, _] Hq
      dsimp only [List.cons_append, List.nil_append] at Hq
      replace Hq := HS.keep [_] Hq
      obtain rfl := Option.some.inj H
      exact ⟨S0.sub ⟨rfl, trivial⟩, Hq⟩
    · replace H := (if_neg z14h).symm.trans H
      refine r_off S0 rfl rfl rfl (decide_eq_false z14h) ?_ rfl
      clear S0; intro a0 S0
      refine r_off S0 rfl rfl rfl (decide_eq_false z14h) ?_ rfl
      clear S0; intro a0 S0
      refine r_off S0 rfl rfl rfl (decide_eq_false z14h) ?_ rfl
      clear S0; intro a0 S0
      refine r_pick S0 rfl (decide_eq_false z14h) _ rfl rfl ?_
      clear S0; intro a0 S0
      refine r_pures [_] S0 rfl ?_
      clear S0; intro a0 S0
      refine wl_nil ?_
      refine nr_then ?_
      replace Hq := HS.pull [_, _] Hq
      dsimp only [List.cons_append, List.nil_append] at Hq
      replace Hq := HS.keep [_] Hq
      obtain rfl := Option.some.inj H
      exact ⟨S0.sub ⟨rfl, trivial⟩, Hq⟩
  · clear S0; rintro a w ⟨S0, Hq⟩
    have H := HU1; clear HU1
    refine nr_then ?_
    refine w_ret ?_
    obtain rfl := Option.some.inj H
    refine ret1 S0 rfl rfl ?_
    exact ⟨rfl, Hq⟩

end Go.Proofs.Ythlogangnppghaa.M
