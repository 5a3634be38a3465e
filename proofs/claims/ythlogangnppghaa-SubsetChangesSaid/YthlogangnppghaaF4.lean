/- waybill/waybilllaw13.SubsetChanges: a plain function, and that the machine's call comes to it: printed by a program of the session's own. -/
import Derived.Test.YthlogangnppghaaK
import Derived.Test.YthlogangnppghaaF6
import Derived.Test.YthlogangnppghaaF9
import Derived.Test.YthlogangnppghaaF10
set_option linter.unusedVariables false
set_option linter.unusedSimpArgs false
namespace Go.Proofs.Ythlogangnppghaa.M
open Go Go.Proofs.Ythlogangnppghaa.Sl
/-! ### waybill/waybilllaw13.SubsetChanges: function 4 -/
def waybilllaw13_SubsetChanges.f (k : Nat) (x_old : List Int) (x_ids : List Int) (x_n : Int) : Option (Bool) := (waybilllaw13_alive.f k ).bind fun z2t => (if z2t = true then ((subset_Change.f k x_old x_ids).bind fun (z5t, z6t) => ((((waybilllaw13_has.f k x_ids x_n).bind fun z17t => ((waybilllaw13_has.f k x_old x_n).bind fun z19t => (if z19t = true then ((waybilllaw13_has.f k z6t x_n).bind fun z22t => (if z22t = true then ((waybilllaw13_has.f k z5t x_n).bind fun z25t => (if z17t = z25t then ((waybilllaw13_has.f k x_old x_n).bind fun z28t => ((waybilllaw13_has.f k x_ids x_n).bind fun z30t => (if z30t = true then ((waybilllaw13_has.f k z5t x_n).bind fun z33t => (if z33t = true then ((waybilllaw13_has.f k z6t x_n).bind fun z36t => (some (decide (z28t = z36t)))) else (some (decide (z28t = true))))) else ((waybilllaw13_has.f k z6t x_n).bind fun z38t => (some (decide (z28t = z38t))))))) else (some false))) else (if z17t = true then ((waybilllaw13_has.f k x_old x_n).bind fun z41t => ((waybilllaw13_has.f k x_ids x_n).bind fun z43t => (if z43t = true then ((waybilllaw13_has.f k z5t x_n).bind fun z46t => (if z46t = true then ((waybilllaw13_has.f k z6t x_n).bind fun z49t => (some (decide (z41t = z49t)))) else (some (decide (z41t = true))))) else ((waybilllaw13_has.f k z6t x_n).bind fun z51t => (some (decide (z41t = z51t))))))) else (some false)))) else ((waybilllaw13_has.f k z5t x_n).bind fun z53t => (if z17t = z53t then ((waybilllaw13_has.f k x_old x_n).bind fun z56t => ((waybilllaw13_has.f k x_ids x_n).bind fun z58t => (if z58t = true then ((waybilllaw13_has.f k z5t x_n).bind fun z61t => (if z61t = true then ((waybilllaw13_has.f k z6t x_n).bind fun z64t => (some (decide (z56t = z64t)))) else (some (decide (z56t = true))))) else ((waybilllaw13_has.f k z6t x_n).bind fun z66t => (some (decide (z56t = z66t))))))) else (some false)))))) : Option (Bool)).bind fun z15x => (some z15x))) else (some false))
set_option maxRecDepth 100000 in
set_option maxHeartbeats 4000000 in
theorem waybilllaw13_SubsetChanges.calls (k : Nat) (A0 : Option Addr) (n0 c0 : Nat) (x_old : List Int) (A1 : Option Addr) (n1 c1 : Nat) (x_ids : List Int) (x_n : Int) (W0 : World) (X : Heap) (HR0 : Rd e_i64 X A0 n0 c0 x_old) (HR1 : Rd e_i64 X A1 n1 c1 x_ids) (Hq : HS W0 [isH X] W0) (r : Bool) (H : waybilllaw13_SubsetChanges.f k x_old x_ids x_n = some r) :
    Calls Try.prog 4 #[.slice A0 n0 c0, .slice A1 n1 c1, .int .i64 x_n] W0 (fun e w => e = .returned (.bool r) ∧ HS W0 [isH X] w) := by
  obtain rfl := HR0.1
  obtain rfl := HR1.1
  rw [waybilllaw13_SubsetChanges.f] at H
  refine calls_in Try.func4 rfl rfl ?_
  intro a0 S0
  refine w_seq ?_
  refine w_region ?_
  refine r_pures [_] S0 rfl ?_
  clear S0; intro a0 S0
  refine wl_nil ?_
  refine nr_then ?_
  refine w_seq ?_
  refine w_seq ?_
  refine w_region ?_
  obtain ⟨Xz1, HXz1, HPz1, HBz1⟩ := call_frame [] Hq
  dsimp only [List.cons_append, List.nil_append] at HXz1 HBz1
  obtain ⟨z2t, Hc, H⟩ := Option.bind_eq_some_iff.mp H
  refine r_call S0 rfl rfl goes6 rfl ?_
  refine (waybilllaw13_alive.calls _  _ _  HXz1 z2t Hc).mono ?_
  rintro e w ⟨rfl, Hq'⟩
  have Hq : HS W0 [isH X] w := HBz1 [] _ Hq'
  clear HXz1 HPz1 HBz1 Hq'
  refine ⟨.bool z2t, rfl, ?_⟩; clear S0; intro a0 S0
  refine r_pures [_] S0 rfl ?_
  clear S0; intro a0 S0
  refine wl_nil ?_
  refine nr_then ?_
  by_cases z3h : z2t = true
  · replace H := (if_pos z3h).symm.trans H
    refine w_false S0 rfl (congrArg (!·) z3h) ?_
    refine w_skip ?_
    refine nr_then ?_
    refine w_seq ?_
    refine w_region ?_
    refine r_pures [_, _] S0 rfl ?_
    clear S0; intro a0 S0
    obtain ⟨Xz4, HXz4, HPz4, HBz4⟩ := call_frame [] Hq
    dsimp only [List.cons_append, List.nil_append] at HXz4 HBz4
    obtain ⟨⟨z5t, z6t⟩, Hc, H⟩ := Option.bind_eq_some_iff.mp H
    dsimp only at H
    refine r_call S0 rfl rfl goes9 rfl ?_
    refine (subset_Change.calls _ _ _ _ x_old _ _ _ x_ids _ _ (sl_isH_rd [] HPz4 HR0) (sl_isH_rd [] HPz4 HR1) HXz4 (z5t, z6t) Hc).mono ?_
    rintro e w ⟨z7A, z8m, z9n, z11A, z12m, z13n, rfl, Hq'⟩
    have Hq : HS W0 [own e_i64 3 z7A z8m z9n z5t, own e_i64 3 z11A z12m z13n z6t, isH X] w := HBz4 [_, _] _ Hq'
    clear HXz4 HPz4 HBz4 Hq'
    obtain rfl := own_len [] Hq
    obtain rfl := own_len [_] Hq
    refine ⟨.tuple #[.slice z7A z5t.length z9n, .slice z11A z6t.length z13n], rfl, ?_⟩; clear S0; intro a0 S0
    refine r_pures [_, _, _, _, _] S0 rfl ?_
    clear S0; intro a0 S0
    refine wl_nil ?_
    refine nr_then ?_
    refine w_seq ?_
    obtain ⟨z15x, H, HU1⟩ := Option.bind_eq_some_iff.mp H
    refine w_cutT (fun a w => Sl 55 [] [(6, .bool z15x)] a ∧ HS W0 [isH X] w) ?_ ?_
    · skip
      refine w_region ?_
      refine r_pures [_, _] S0 rfl ?_
      clear S0; intro a0 S0
      obtain ⟨Xz16, HXz16, HPz16, HBz16⟩ := call_frame [] Hq
      dsimp only [List.cons_append, List.nil_append] at HXz16 HBz16
      obtain ⟨z17t, Hc, H⟩ := Option.bind_eq_some_iff.mp H
      refine r_call S0 rfl rfl goes10 rfl ?_
      refine (waybilllaw13_has.calls _ _ _ _ x_ids x_n _ _ (sl_isH_rd [_, _] HPz16 HR1) HXz16 z17t Hc).mono ?_
      rintro e w ⟨rfl, Hq'⟩
      have Hq : HS W0 [own e_i64 3 z7A z5t.length z9n z5t, own e_i64 3 z11A z6t.length z13n z6t, isH X] w := HBz16 [] _ Hq'
      clear HXz16 HPz16 HBz16 Hq'
      refine ⟨.bool z17t, rfl, ?_⟩; clear S0; intro a0 S0
      refine r_pures [_, _] S0 rfl ?_
      clear S0; intro a0 S0
      obtain ⟨Xz18, HXz18, HPz18, HBz18⟩ := call_frame [] Hq
      dsimp only [List.cons_append, List.nil_append] at HXz18 HBz18
      obtain ⟨z19t, Hc, H⟩ := Option.bind_eq_some_iff.mp H
      refine r_call S0 rfl rfl goes10 rfl ?_
      refine (waybilllaw13_has.calls _ _ _ _ x_old x_n _ _ (sl_isH_rd [_, _] HPz18 HR0) HXz18 z19t Hc).mono ?_
      rintro e w ⟨rfl, Hq'⟩
      have Hq : HS W0 [own e_i64 3 z7A z5t.length z9n z5t, own e_i64 3 z11A z6t.length z13n z6t, isH X] w := HBz18 [] _ Hq'
      clear HXz18 HPz18 HBz18 Hq'
      refine ⟨.bool z19t, rfl, ?_⟩; clear S0; intro a0 S0
      refine r_pures [_] S0 rfl ?_
      clear S0; intro a0 S0
      by_cases z20h : z19t = true
      · replace H := (if_pos z20h).symm.trans H
        refine r_on S0 rfl rfl rfl z20h ?_
        refine r_pures [_] S0 rfl ?_
        clear S0; intro a0 S0
        refine r_on S0 rfl rfl rfl z20h ?_
        refine r_pures [_] S0 rfl ?_
        clear S0; intro a0 S0
        refine r_on S0 rfl rfl rfl z20h ?_
        obtain ⟨Xz21, HXz21, HPz21, HBz21⟩ := call_frame [] Hq
        dsimp only [List.cons_append, List.nil_append] at HXz21 HBz21
        obtain ⟨z22t, Hc, H⟩ := Option.bind_eq_some_iff.mp H
        refine r_call S0 rfl rfl goes10 rfl ?_
        refine (waybilllaw13_has.calls _ _ _ _ z6t x_n _ _ (sl_own_rd [_] HPz21) HXz21 z22t Hc).mono ?_
        rintro e w ⟨rfl, Hq'⟩
        have Hq : HS W0 [own e_i64 3 z7A z5t.length z9n z5t, own e_i64 3 z11A z6t.length z13n z6t, isH X] w := HBz21 [] _ Hq'
        clear HXz21 HPz21 HBz21 Hq'
        refine ⟨.bool z22t, rfl, ?_⟩; clear S0; intro a0 S0
        refine r_on S0 rfl rfl rfl z20h ?_
        refine r_pures [_] S0 rfl ?_
        clear S0; intro a0 S0
        refine r_pick S0 rfl z20h _ rfl rfl ?_
        clear S0; intro a0 S0
        refine r_pures [_] S0 rfl ?_
        clear S0; intro a0 S0
        by_cases z23h : z22t = true
        · replace H := (if_pos z23h).symm.trans H
          refine r_on S0 rfl rfl rfl (congrArg (!·) z23h) ?_
          refine r_pures [_] S0 rfl ?_
          clear S0; intro a0 S0
          refine r_on S0 rfl rfl rfl (congrArg (!·) z23h) ?_
          refine r_pures [_] S0 rfl ?_
          clear S0; intro a0 S0
          refine r_on S0 rfl rfl rfl (congrArg (!·) z23h) ?_
          obtain ⟨Xz24, HXz24, HPz24, HBz24⟩ := call_frame [] Hq
          dsimp only [List.cons_append, List.nil_append] at HXz24 HBz24
          obtain ⟨z25t, Hc, H⟩ := Option.bind_eq_some_iff.mp H
          refine r_call S0 rfl rfl goes10 rfl ?_
          refine (waybilllaw13_has.calls _ _ _ _ z5t x_n _ _ (sl_own_rd [] HPz24) HXz24 z25t Hc).mono ?_
          rintro e w ⟨rfl, Hq'⟩
          have Hq : HS W0 [own e_i64 3 z7A z5t.length z9n z5t, own e_i64 3 z11A z6t.length z13n z6t, isH X] w := HBz24 [] _ Hq'
          clear HXz24 HPz24 HBz24 Hq'
          refine ⟨.bool z25t, rfl, ?_⟩; clear S0; intro a0 S0
          refine r_pick S0 rfl (congrArg (!·) z23h) _ rfl rfl ?_
          clear S0; intro a0 S0
          refine r_beq S0 rfl rfl und4 rfl ?_
          clear S0; intro a0 S0
          refine r_pures [_] S0 rfl ?_
          clear S0; intro a0 S0
          by_cases z26h : z17t = z25t
          · replace H := (if_pos z26h).symm.trans H
            refine r_on S0 rfl rfl rfl (decide_eq_true z26h) ?_
            refine r_pures [_] S0 rfl ?_
            clear S0; intro a0 S0
            refine r_on S0 rfl rfl rfl (decide_eq_true z26h) ?_
            refine r_pures [_] S0 rfl ?_
            clear S0; intro a0 S0
            refine r_on S0 rfl rfl rfl (decide_eq_true z26h) ?_
            obtain ⟨Xz27, HXz27, HPz27, HBz27⟩ := call_frame [] Hq
            dsimp only [List.cons_append, List.nil_append] at HXz27 HBz27
            obtain ⟨z28t, Hc, H⟩ := Option.bind_eq_some_iff.mp H
            refine r_call S0 rfl rfl goes10 rfl ?_
            refine (waybilllaw13_has.calls _ _ _ _ x_old x_n _ _ (sl_isH_rd [_, _] HPz27 HR0) HXz27 z28t Hc).mono ?_
            rintro e w ⟨rfl, Hq'⟩
            have Hq : HS W0 [own e_i64 3 z7A z5t.length z9n z5t, own e_i64 3 z11A z6t.length z13n z6t, isH X] w := HBz27 [] _ Hq'
            clear HXz27 HPz27 HBz27 Hq'
            refine ⟨.bool z28t, rfl, ?_⟩; clear S0; intro a0 S0
            refine r_on S0 rfl rfl rfl (decide_eq_true z26h) ?_
            refine r_pures [_] S0 rfl ?_
            clear S0; intro a0 S0
            refine r_on S0 rfl rfl rfl (decide_eq_true z26h) ?_
            refine r_pures [_] S0 rfl ?_
            clear S0; intro a0 S0
            refine r_on S0 rfl rfl rfl (decide_eq_true z26h) ?_
            obtain ⟨Xz29, HXz29, HPz29, HBz29⟩ := call_frame [] Hq
            dsimp only [List.cons_append, List.nil_append] at HXz29 HBz29
            obtain ⟨z30t, Hc, H⟩ := Option.bind_eq_some_iff.mp H
            refine r_call S0 rfl rfl goes10 rfl ?_
            refine (waybilllaw13_has.calls _ _ _ _ x_ids x_n _ _ (sl_isH_rd [_, _] HPz29 HR1) HXz29 z30t Hc).mono ?_
            rintro e w ⟨rfl, Hq'⟩
            have Hq : HS W0 [own e_i64 3 z7A z5t.length z9n z5t, own e_i64 3 z11A z6t.length z13n z6t, isH X] w := HBz29 [] _ Hq'
            clear HXz29 HPz29 HBz29 Hq'
            refine ⟨.bool z30t, rfl, ?_⟩; clear S0; intro a0 S0
            refine r_on S0 rfl rfl rfl (decide_eq_true z26h) ?_
            refine r_pures [_] S0 rfl ?_
            clear S0; intro a0 S0
            by_cases z31h : z30t = true
            · replace H := (if_pos z31h).symm.trans H
              refine r_on S0 rfl rfl rfl z31h ?_
              refine r_pures [_] S0 rfl ?_
              clear S0; intro a0 S0
              refine r_on S0 rfl rfl rfl z31h ?_
              refine r_pures [_] S0 rfl ?_
              clear S0; intro a0 S0
              refine r_on S0 rfl rfl rfl z31h ?_
              obtain ⟨Xz32, HXz32, HPz32, HBz32⟩ := call_frame [] Hq
              dsimp only [List.cons_append, List.nil_append] at HXz32 HBz32
              obtain ⟨z33t, Hc, H⟩ := Option.bind_eq_some_iff.mp H
              refine r_call S0 rfl rfl goes10 rfl ?_
              refine (waybilllaw13_has.calls _ _ _ _ z5t x_n _ _ (sl_own_rd [] HPz32) HXz32 z33t Hc).mono ?_
              rintro e w ⟨rfl, Hq'⟩
              have Hq : HS W0 [own e_i64 3 z7A z5t.length z9n z5t, own e_i64 3 z11A z6t.length z13n z6t, isH X] w := HBz32 [] _ Hq'
              clear HXz32 HPz32 HBz32 Hq'
              refine ⟨.bool z33t, rfl, ?_⟩; clear S0; intro a0 S0
              refine r_on S0 rfl rfl rfl z31h ?_
              refine r_pures [_] S0 rfl ?_
              clear S0; intro a0 S0
              refine r_on S0 rfl rfl rfl (decide_eq_true z26h) ?_
              refine r_pick S0 rfl z31h _ rfl rfl ?_
              clear S0; intro a0 S0
              refine r_on S0 rfl rfl rfl (decide_eq_true z26h) ?_
              refine r_pures [_] S0 rfl ?_
              clear S0; intro a0 S0
              by_cases z34h : z33t = true
              · replace H := (if_pos z34h).symm.trans H
                refine r_on S0 rfl rfl rfl (congrArg (!·) z34h) ?_
                refine r_pures [_] S0 rfl ?_
                clear S0; intro a0 S0
                refine r_on S0 rfl rfl rfl (congrArg (!·) z34h) ?_
                refine r_pures [_] S0 rfl ?_
                clear S0; intro a0 S0
                refine r_on S0 rfl rfl rfl (congrArg (!·) z34h) ?_
                obtain ⟨Xz35, HXz35, HPz35, HBz35⟩ := call_frame [] Hq
                dsimp only [List.cons_append, List.nil_append] at HXz35 HBz35
                obtain ⟨z36t, Hc, H⟩ := Option.bind_eq_some_iff.mp H
                refine r_call S0 rfl rfl goes10 rfl ?_
                refine (waybilllaw13_has.calls _ _ _ _ z6t x_n _ _ (sl_own_rd [_] HPz35) HXz35 z36t Hc).mono ?_
                rintro e w ⟨rfl, Hq'⟩
                have Hq : HS W0 [own e_i64 3 z7A z5t.length z9n z5t, own e_i64 3 z11A z6t.length z13n z6t, isH X] w := HBz35 [] _ Hq'
                clear HXz35 HPz35 HBz35 Hq'
                refine ⟨.bool z36t, rfl, ?_⟩; clear S0; intro a0 S0
                refine r_on S0 rfl rfl rfl (decide_eq_true z26h) ?_
                refine r_pick S0 rfl (congrArg (!·) z34h) _ rfl rfl ?_
                clear S0; intro a0 S0
                refine r_on S0 rfl rfl rfl (decide_eq_true z26h) ?_
                refine r_beq S0 rfl rfl und4 rfl ?_
                clear S0; intro a0 S0
                refine r_pick S0 rfl (decide_eq_true z26h) _ rfl rfl ?_
                clear S0; intro a0 S0
                refine r_pures [_] S0 rfl ?_
                clear S0; intro a0 S0
                refine wl_nil ?_
                refine nr_then ?_
                replace Hq := HS.pull [_, _] Hq
                dsimp only [List.cons_append, List.nil_append] at Hq
                replace Hq := HS.keep [_] Hq
                obtain rfl := Option.some.inj H
                exact ⟨S0.sub ⟨rfl, trivial⟩, Hq⟩
              · replace H := (if_neg z34h).symm.trans H
                refine r_off S0 rfl rfl rfl (congrArg (!·) (Bool.eq_false_iff.mpr z34h)) ?_ rfl
                clear S0; intro a0 S0
                refine r_off S0 rfl rfl rfl (congrArg (!·) (Bool.eq_false_iff.mpr z34h)) ?_ rfl
                clear S0; intro a0 S0
                refine r_off S0 rfl rfl rfl (congrArg (!·) (Bool.eq_false_iff.mpr z34h)) ?_ rfl
                clear S0; intro a0 S0
                refine r_on S0 rfl rfl rfl (decide_eq_true z26h) ?_
                refine r_pick S0 rfl (congrArg (!·) (Bool.eq_false_iff.mpr z34h)) _ rfl rfl ?_
                clear S0; intro a0 S0
                refine r_on S0 rfl rfl rfl (decide_eq_true z26h) ?_
                refine r_beq S0 rfl rfl und4 rfl ?_
                clear S0; intro a0 S0
                refine r_pick S0 rfl (decide_eq_true z26h) _ rfl rfl ?_
                clear S0; intro a0 S0
                refine r_pures [_] S0 rfl ?_
                clear S0; intro a0 S0
                refine wl_nil ?_
                refine nr_then ?_
                replace Hq := HS.pull [_, _] Hq
                dsimp only [List.cons_append, List.nil_append] at Hq
                replace Hq := HS.keep [_] Hq
                obtain rfl := Option.some.inj H
                exact ⟨S0.sub ⟨rfl, trivial⟩, Hq⟩
            · replace H := (if_neg z31h).symm.trans H
              refine r_off S0 rfl rfl rfl (Bool.eq_false_iff.mpr z31h) ?_ rfl
              clear S0; intro a0 S0
              refine r_off S0 rfl rfl rfl (Bool.eq_false_iff.mpr z31h) ?_ rfl
              clear S0; intro a0 S0
              refine r_off S0 rfl rfl rfl (Bool.eq_false_iff.mpr z31h) ?_ rfl
              clear S0; intro a0 S0
              refine r_off S0 rfl rfl rfl (Bool.eq_false_iff.mpr z31h) ?_ rfl
              clear S0; intro a0 S0
              refine r_on S0 rfl rfl rfl (decide_eq_true z26h) ?_
              refine r_pick S0 rfl (Bool.eq_false_iff.mpr z31h) _ rfl rfl ?_
              clear S0; intro a0 S0
              refine r_on S0 rfl rfl rfl (decide_eq_true z26h) ?_
              refine r_pures [_] S0 rfl ?_
              clear S0; intro a0 S0
              refine r_on S0 rfl rfl rfl rfl ?_
              refine r_pures [_] S0 rfl ?_
              clear S0; intro a0 S0
              refine r_on S0 rfl rfl rfl rfl ?_
              refine r_pures [_] S0 rfl ?_
              clear S0; intro a0 S0
              refine r_on S0 rfl rfl rfl rfl ?_
              obtain ⟨Xz37, HXz37, HPz37, HBz37⟩ := call_frame [] Hq
              dsimp only [List.cons_append, List.nil_append] at HXz37 HBz37
              obtain ⟨z38t, Hc, H⟩ := Option.bind_eq_some_iff.mp H
              refine r_call S0 rfl rfl goes10 rfl ?_
              refine (waybilllaw13_has.calls _ _ _ _ z6t x_n _ _ (sl_own_rd [_] HPz37) HXz37 z38t Hc).mono ?_
              rintro e w ⟨rfl, Hq'⟩
              have Hq : HS W0 [own e_i64 3 z7A z5t.length z9n z5t, own e_i64 3 z11A z6t.length z13n z6t, isH X] w := HBz37 [] _ Hq'
              clear HXz37 HPz37 HBz37 Hq'
              refine ⟨.bool z38t, rfl, ?_⟩; clear S0; intro a0 S0
              refine r_on S0 rfl rfl rfl (decide_eq_true z26h) ?_
              refine r_pick S0 rfl rfl _ rfl rfl ?_
              clear S0; intro a0 S0
              refine r_on S0 rfl rfl rfl (decide_eq_true z26h) ?_
              refine r_beq S0 rfl rfl und4 rfl ?_
              clear S0; intro a0 S0
              refine r_pick S0 rfl (decide_eq_true z26h) _ rfl rfl ?_
              clear S0; intro a0 S0
              refine r_pures [_] S0 rfl ?_
              clear S0; intro a0 S0
              refine wl_nil ?_
              refine nr_then ?_
              replace Hq := HS.pull [_, _] Hq
              dsimp only [List.cons_append, List.nil_append] at Hq
              replace Hq := HS.keep [_] Hq
              obtain rfl := Option.some.inj H
              exact ⟨S0.sub ⟨rfl, trivial⟩, Hq⟩
          · replace H := (if_neg z26h).symm.trans H
            refine r_off S0 rfl rfl rfl (decide_eq_false z26h) ?_ rfl
            clear S0; intro a0 S0
            refine r_off S0 rfl rfl rfl (decide_eq_false z26h) ?_ rfl
            clear S0; intro a0 S0
            refine r_off S0 rfl rfl rfl (decide_eq_false z26h) ?_ rfl
            clear S0; intro a0 S0
            refine r_off S0 rfl rfl rfl (decide_eq_false z26h) ?_ rfl
            clear S0; intro a0 S0
            refine r_off S0 rfl rfl rfl (decide_eq_false z26h) ?_ rfl
            clear S0; intro a0 S0
            refine r_off S0 rfl rfl rfl (decide_eq_false z26h) ?_ rfl
            clear S0; intro a0 S0
            refine r_off S0 rfl rfl rfl (decide_eq_false z26h) ?_ rfl
            clear S0; intro a0 S0
            refine r_offU S0 rfl rfl rfl ?_ rfl
            clear S0; intro a0 S0
            refine r_offU S0 rfl rfl rfl ?_ rfl
            clear S0; intro a0 S0
            refine r_offU S0 rfl rfl rfl ?_ rfl
            clear S0; intro a0 S0
            refine r_offU S0 rfl rfl rfl ?_ rfl
            clear S0; intro a0 S0
            refine r_off S0 rfl rfl rfl (decide_eq_false z26h) ?_ rfl
            clear S0; intro a0 S0
            refine r_off S0 rfl rfl rfl (decide_eq_false z26h) ?_ rfl
            clear S0; intro a0 S0
            refine r_offU S0 rfl rfl rfl ?_ rfl
            clear S0; intro a0 S0
            refine r_offU S0 rfl rfl rfl ?_ rfl
            clear S0; intro a0 S0
            refine r_offU S0 rfl rfl rfl ?_ rfl
            clear S0; intro a0 S0
            refine r_off S0 rfl rfl rfl (decide_eq_false z26h) ?_ rfl
            clear S0; intro a0 S0
            refine r_off S0 rfl rfl rfl (decide_eq_false z26h) ?_ rfl
            clear S0; intro a0 S0
            refine r_pick S0 rfl (decide_eq_false z26h) _ rfl rfl ?_
            clear S0; intro a0 S0
            refine r_pures [_] S0 rfl ?_
            clear S0; intro a0 S0
            refine wl_nil ?_
            refine nr_then ?_
            replace Hq := HS.pull [_, _] Hq
            dsimp only [List.cons_append, List.nil_append] at Hq
            replace Hq := HS.keep [_] Hq
            obtain rfl := Option.some.inj H
            exact ⟨S0.sub ⟨rfl, trivial⟩, Hq⟩
        · replace H := (if_neg z23h).symm.trans H
          refine r_off S0 rfl rfl rfl (congrArg (!·) (Bool.eq_false_iff.mpr z23h)) ?_ rfl
          clear S0; intro a0 S0
          refine r_off S0 rfl rfl rfl (congrArg (!·) (Bool.eq_false_iff.mpr z23h)) ?_ rfl
          clear S0; intro a0 S0
          refine r_off S0 rfl rfl rfl (congrArg (!·) (Bool.eq_false_iff.mpr z23h)) ?_ rfl
          clear S0; intro a0 S0
          refine r_pick S0 rfl (congrArg (!·) (Bool.eq_false_iff.mpr z23h)) _ rfl rfl ?_
          clear S0; intro a0 S0
          refine r_beq S0 rfl rfl und4 rfl ?_
          clear S0; intro a0 S0
          refine r_pures [_] S0 rfl ?_
          clear S0; intro a0 S0
          by_cases z39h : z17t = true
          · replace H := (if_pos z39h).symm.trans H
            refine r_on S0 rfl rfl rfl (decide_eq_true z39h) ?_
            refine r_pures [_] S0 rfl ?_
            clear S0; intro a0 S0
            refine r_on S0 rfl rfl rfl (decide_eq_true z39h) ?_
            refine r_pures [_] S0 rfl ?_
            clear S0; intro a0 S0
            refine r_on S0 rfl rfl rfl (decide_eq_true z39h) ?_
            obtain ⟨Xz40, HXz40, HPz40, HBz40⟩ := call_frame [] Hq
            dsimp only [List.cons_append, List.nil_append] at HXz40 HBz40
            obtain ⟨z41t, Hc, H⟩ := Option.bind_eq_some_iff.mp H
            refine r_call S0 rfl rfl goes10 rfl ?_
            refine (waybilllaw13_has.calls _ _ _ _ x_old x_n _ _ (sl_isH_rd [_, _] HPz40 HR0) HXz40 z41t Hc).mono ?_
            rintro e w ⟨rfl, Hq'⟩
            have Hq : HS W0 [own e_i64 3 z7A z5t.length z9n z5t, own e_i64 3 z11A z6t.length z13n z6t, isH X] w := HBz40 [] _ Hq'
            clear HXz40 HPz40 HBz40 Hq'
            refine ⟨.bool z41t, rfl, ?_⟩; clear S0; intro a0 S0
            refine r_on S0 rfl rfl rfl (decide_eq_true z39h) ?_
            refine r_pures [_] S0 rfl ?_
            clear S0; intro a0 S0
            refine r_on S0 rfl rfl rfl (decide_eq_true z39h) ?_
            refine r_pures [_] S0 rfl ?_
            clear S0; intro a0 S0
            refine r_on S0 rfl rfl rfl (decide_eq_true z39h) ?_
            obtain ⟨Xz42, HXz42, HPz42, HBz42⟩ := call_frame [] Hq
            dsimp only [List.cons_append, List.nil_append] at HXz42 HBz42
            obtain ⟨z43t, Hc, H⟩ := Option.bind_eq_some_iff.mp H
            refine r_call S0 rfl rfl goes10 rfl ?_
            refine (waybilllaw13_has.calls _ _ _ _ x_ids x_n _ _ (sl_isH_rd [_, _] HPz42 HR1) HXz42 z43t Hc).mono ?_
            rintro e w ⟨rfl, Hq'⟩
            have Hq : HS W0 [own e_i64 3 z7A z5t.length z9n z5t, own e_i64 3 z11A z6t.length z13n z6t, isH X] w := HBz42 [] _ Hq'
            clear HXz42 HPz42 HBz42 Hq'
            refine ⟨.bool z43t, rfl, ?_⟩; clear S0; intro a0 S0
            refine r_on S0 rfl rfl rfl (decide_eq_true z39h) ?_
            refine r_pures [_] S0 rfl ?_
            clear S0; intro a0 S0
            by_cases z44h : z43t = true
            · replace H := (if_pos z44h).symm.trans H
              refine r_on S0 rfl rfl rfl z44h ?_
              refine r_pures [_] S0 rfl ?_
              clear S0; intro a0 S0
              refine r_on S0 rfl rfl rfl z44h ?_
              refine r_pures [_] S0 rfl ?_
              clear S0; intro a0 S0
              refine r_on S0 rfl rfl rfl z44h ?_
              obtain ⟨Xz45, HXz45, HPz45, HBz45⟩ := call_frame [] Hq
              dsimp only [List.cons_append, List.nil_append] at HXz45 HBz45
              obtain ⟨z46t, Hc, H⟩ := Option.bind_eq_some_iff.mp H
              refine r_call S0 rfl rfl goes10 rfl ?_
              refine (waybilllaw13_has.calls _ _ _ _ z5t x_n _ _ (sl_own_rd [] HPz45) HXz45 z46t Hc).mono ?_
              rintro e w ⟨rfl, Hq'⟩
              have Hq : HS W0 [own e_i64 3 z7A z5t.length z9n z5t, own e_i64 3 z11A z6t.length z13n z6t, isH X] w := HBz45 [] _ Hq'
              clear HXz45 HPz45 HBz45 Hq'
              refine ⟨.bool z46t, rfl, ?_⟩; clear S0; intro a0 S0
              refine r_on S0 rfl rfl rfl z44h ?_
              refine r_pures [_] S0 rfl ?_
              clear S0; intro a0 S0
              refine r_on S0 rfl rfl rfl (decide_eq_true z39h) ?_
              refine r_pick S0 rfl z44h _ rfl rfl ?_
              clear S0; intro a0 S0
              refine r_on S0 rfl rfl rfl (decide_eq_true z39h) ?_
              refine r_pures [_] S0 rfl ?_
              clear S0; intro a0 S0
              by_cases z47h : z46t = true
              · replace H := (if_pos z47h).symm.trans H
                refine r_on S0 rfl rfl rfl (congrArg (!·) z47h) ?_
                refine r_pures [_] S0 rfl ?_
                clear S0; intro a0 S0
                refine r_on S0 rfl rfl rfl (congrArg (!·) z47h) ?_
                refine r_pures [_] S0 rfl ?_
                clear S0; intro a0 S0
                refine r_on S0 rfl rfl rfl (congrArg (!·) z47h) ?_
                obtain ⟨Xz48, HXz48, HPz48, HBz48⟩ := call_frame [] Hq
                dsimp only [List.cons_append, List.nil_append] at HXz48 HBz48
                obtain ⟨z49t, Hc, H⟩ := Option.bind_eq_some_iff.mp H
                refine r_call S0 rfl rfl goes10 rfl ?_
                refine (waybilllaw13_has.calls _ _ _ _ z6t x_n _ _ (sl_own_rd [_] HPz48) HXz48 z49t Hc).mono ?_
                rintro e w ⟨rfl, Hq'⟩
                have Hq : HS W0 [own e_i64 3 z7A z5t.length z9n z5t, own e_i64 3 z11A z6t.length z13n z6t, isH X] w := HBz48 [] _ Hq'
                clear HXz48 HPz48 HBz48 Hq'
                refine ⟨.bool z49t, rfl, ?_⟩; clear S0; intro a0 S0
                refine r_on S0 rfl rfl rfl (decide_eq_true z39h) ?_
                refine r_pick S0 rfl (congrArg (!·) z47h) _ rfl rfl ?_
                clear S0; intro a0 S0
                refine r_on S0 rfl rfl rfl (decide_eq_true z39h) ?_
                refine r_beq S0 rfl rfl und4 rfl ?_
                clear S0; intro a0 S0
                refine r_pick S0 rfl (decide_eq_true z39h) _ rfl rfl ?_
                clear S0; intro a0 S0
                refine r_pures [_] S0 rfl ?_
                clear S0; intro a0 S0
                refine wl_nil ?_
                refine nr_then ?_
                replace Hq := HS.pull [_, _] Hq
                dsimp only [List.cons_append, List.nil_append] at Hq
                replace Hq := HS.keep [_] Hq
                obtain rfl := Option.some.inj H
                exact ⟨S0.sub ⟨rfl, trivial⟩, Hq⟩
              · replace H := (if_neg z47h).symm.trans H
                refine r_off S0 rfl rfl rfl (congrArg (!·) (Bool.eq_false_iff.mpr z47h)) ?_ rfl
                clear S0; intro a0 S0
                refine r_off S0 rfl rfl rfl (congrArg (!·) (Bool.eq_false_iff.mpr z47h)) ?_ rfl
                clear S0; intro a0 S0
                refine r_off S0 rfl rfl rfl (congrArg (!·) (Bool.eq_false_iff.mpr z47h)) ?_ rfl
                clear S0; intro a0 S0
                refine r_on S0 rfl rfl rfl (decide_eq_true z39h) ?_
                refine r_pick S0 rfl (congrArg (!·) (Bool.eq_false_iff.mpr z47h)) _ rfl rfl ?_
                clear S0; intro a0 S0
                refine r_on S0 rfl rfl rfl (decide_eq_true z39h) ?_
                refine r_beq S0 rfl rfl und4 rfl ?_
                clear S0; intro a0 S0
                refine r_pick S0 rfl (decide_eq_true z39h) _ rfl rfl ?_
                clear S0; intro a0 S0
                refine r_pures [_] S0 rfl ?_
                clear S0; intro a0 S0
                refine wl_nil ?_
                refine nr_then ?_
                replace Hq := HS.pull [_, _] Hq
                dsimp only [List.cons_append, List.nil_append] at Hq
                replace Hq := HS.keep [_] Hq
                obtain rfl := Option.some.inj H
                exact ⟨S0.sub ⟨rfl, trivial⟩, Hq⟩
            · replace H := (if_neg z44h).symm.trans H
              refine r_off S0 rfl rfl rfl (Bool.eq_false_iff.mpr z44h) ?_ rfl
              clear S0; intro a0 S0
              refine r_off S0 rfl rfl rfl (Bool.eq_false_iff.mpr z44h) ?_ rfl
              clear S0; intro a0 S0
              refine r_off S0 rfl rfl rfl (Bool.eq_false_iff.mpr z44h) ?_ rfl
              clear S0; intro a0 S0
              refine r_off S0 rfl rfl rfl (Bool.eq_false_iff.mpr z44h) ?_ rfl
              clear S0; intro a0 S0
              refine r_on S0 rfl rfl rfl (decide_eq_true z39h) ?_
              refine r_pick S0 rfl (Bool.eq_false_iff.mpr z44h) _ rfl rfl ?_
              clear S0; intro a0 S0
              refine r_on S0 rfl rfl rfl (decide_eq_true z39h) ?_
              refine r_pures [_] S0 rfl ?_
              clear S0; intro a0 S0
              refine r_on S0 rfl rfl rfl rfl ?_
              refine r_pures [_] S0 rfl ?_
              clear S0; intro a0 S0
              refine r_on S0 rfl rfl rfl rfl ?_
              refine r_pures [_] S0 rfl ?_
              clear S0; intro a0 S0
              refine r_on S0 rfl rfl rfl rfl ?_
              obtain ⟨Xz50, HXz50, HPz50, HBz50⟩ := call_frame [] Hq
              dsimp only [List.cons_append, List.nil_append] at HXz50 HBz50
              obtain ⟨z51t, Hc, H⟩ := Option.bind_eq_some_iff.mp H
              refine r_call S0 rfl rfl goes10 rfl ?_
              refine (waybilllaw13_has.calls _ _ _ _ z6t x_n _ _ (sl_own_rd [_] HPz50) HXz50 z51t Hc).mono ?_
              rintro e w ⟨rfl, Hq'⟩
              have Hq : HS W0 [own e_i64 3 z7A z5t.length z9n z5t, own e_i64 3 z11A z6t.length z13n z6t, isH X] w := HBz50 [] _ Hq'
              clear HXz50 HPz50 HBz50 Hq'
              refine ⟨.bool z51t, rfl, ?_⟩; clear S0; intro a0 S0
              refine r_on S0 rfl rfl rfl (decide_eq_true z39h) ?_
              refine r_pick S0 rfl rfl _ rfl rfl ?_
              clear S0; intro a0 S0
              refine r_on S0 rfl rfl rfl (decide_eq_true z39h) ?_
              refine r_beq S0 rfl rfl und4 rfl ?_
              clear S0; intro a0 S0
              refine r_pick S0 rfl (decide_eq_true z39h) _ rfl rfl ?_
              clear S0; intro a0 S0
              refine r_pures [_] S0 rfl ?_
              clear S0; intro a0 S0
              refine wl_nil ?_
              refine nr_then ?_
              replace Hq := HS.pull [_, _] Hq
              dsimp only [List.cons_append, List.nil_append] at Hq
              replace Hq := HS.keep [_] Hq
              obtain rfl := Option.some.inj H
              exact ⟨S0.sub ⟨rfl, trivial⟩, Hq⟩
          · replace H := (if_neg z39h).symm.trans H
            refine r_off S0 rfl rfl rfl (decide_eq_false z39h) ?_ rfl
            clear S0; intro a0 S0
            refine r_off S0 rfl rfl rfl (decide_eq_false z39h) ?_ rfl
            clear S0; intro a0 S0
            refine r_off S0 rfl rfl rfl (decide_eq_false z39h) ?_ rfl
            clear S0; intro a0 S0
            refine r_off S0 rfl rfl rfl (decide_eq_false z39h) ?_ rfl
            clear S0; intro a0 S0
            refine r_off S0 rfl rfl rfl (decide_eq_false z39h) ?_ rfl
            clear S0; intro a0 S0
            refine r_off S0 rfl rfl rfl (decide_eq_false z39h) ?_ rfl
            clear S0; intro a0 S0
            refine r_off S0 rfl rfl rfl (decide_eq_false z39h) ?_ rfl
            clear S0; intro a0 S0
            refine r_offU S0 rfl rfl rfl ?_ rfl
            clear S0; intro a0 S0
            refine r_offU S0 rfl rfl rfl ?_ rfl
            clear S0; intro a0 S0
            refine r_offU S0 rfl rfl rfl ?_ rfl
            clear S0; intro a0 S0
            refine r_offU S0 rfl rfl rfl ?_ rfl
            clear S0; intro a0 S0
            refine r_off S0 rfl rfl rfl (decide_eq_false z39h) ?_ rfl
            clear S0; intro a0 S0
            refine r_off S0 rfl rfl rfl (decide_eq_false z39h) ?_ rfl
            clear S0; intro a0 S0
            refine r_offU S0 rfl rfl rfl ?_ rfl
            clear S0; intro a0 S0
            refine r_offU S0 rfl rfl rfl ?_ rfl
            clear S0; intro a0 S0
            refine r_offU S0 rfl rfl rfl ?_ rfl
            clear S0; intro a0 S0
            refine r_off S0 rfl rfl rfl (decide_eq_false z39h) ?_ rfl
            clear S0; intro a0 S0
            refine r_off S0 rfl rfl rfl (decide_eq_false z39h) ?_ rfl
            clear S0; intro a0 S0
            refine r_pick S0 rfl (decide_eq_false z39h) _ rfl rfl ?_
            clear S0; intro a0 S0
            refine r_pures [_] S0 rfl ?_
            clear S0; intro a0 S0
            refine wl_nil ?_
            refine nr_then ?_
            replace Hq := HS.pull [_, _] Hq
            dsimp only [List.cons_append, List.nil_append] at Hq
            replace Hq := HS.keep [_] Hq
            obtain rfl := Option.some.inj H
            exact ⟨S0.sub ⟨rfl, trivial⟩, Hq⟩
      · replace H := (if_neg z20h).symm.trans H
        refine r_off S0 rfl rfl rfl (Bool.eq_false_iff.mpr z20h) ?_ rfl
        clear S0; intro a0 S0
        refine r_off S0 rfl rfl rfl (Bool.eq_false_iff.mpr z20h) ?_ rfl
        clear S0; intro a0 S0
        refine r_off S0 rfl rfl rfl (Bool.eq_false_iff.mpr z20h) ?_ rfl
        clear S0; intro a0 S0
        refine r_off S0 rfl rfl rfl (Bool.eq_false_iff.mpr z20h) ?_ rfl
        clear S0; intro a0 S0
        refine r_pick S0 rfl (Bool.eq_false_iff.mpr z20h) _ rfl rfl ?_
        clear S0; intro a0 S0
        refine r_pures [_] S0 rfl ?_
        clear S0; intro a0 S0
        refine r_on S0 rfl rfl rfl rfl ?_
        refine r_pures [_] S0 rfl ?_
        clear S0; intro a0 S0
        refine r_on S0 rfl rfl rfl rfl ?_
        refine r_pures [_] S0 rfl ?_
        clear S0; intro a0 S0
        refine r_on S0 rfl rfl rfl rfl ?_
        obtain ⟨Xz52, HXz52, HPz52, HBz52⟩ := call_frame [] Hq
        dsimp only [List.cons_append, List.nil_append] at HXz52 HBz52
        obtain ⟨z53t, Hc, H⟩ := Option.bind_eq_some_iff.mp H
        refine r_call S0 rfl rfl goes10 rfl ?_
        refine (waybilllaw13_has.calls _ _ _ _ z5t x_n _ _ (sl_own_rd [] HPz52) HXz52 z53t Hc).mono ?_
        rintro e w ⟨rfl, Hq'⟩
        have Hq : HS W0 [own e_i64 3 z7A z5t.length z9n z5t, own e_i64 3 z11A z6t.length z13n z6t, isH X] w := HBz52 [] _ Hq'
        clear HXz52 HPz52 HBz52 Hq'
        refine ⟨.bool z53t, rfl, ?_⟩; clear S0; intro a0 S0
        refine r_pick S0 rfl rfl _ rfl rfl ?_
        clear S0; intro a0 S0
        refine r_beq S0 rfl rfl und4 rfl ?_
        clear S0; intro a0 S0
        refine r_pures [_] S0 rfl ?_
        clear S0; intro a0 S0
        by_cases z54h : z17t = z53t
        · replace H := (if_pos z54h).symm.trans H
          refine r_on S0 rfl rfl rfl (decide_eq_true z54h) ?_
          refine r_pures [_] S0 rfl ?_
          clear S0; intro a0 S0
          refine r_on S0 rfl rfl rfl (decide_eq_true z54h) ?_
          refine r_pures [_] S0 rfl ?_
          clear S0; intro a0 S0
          refine r_on S0 rfl rfl rfl (decide_eq_true z54h) ?_
          obtain ⟨Xz55, HXz55, HPz55, HBz55⟩ := call_frame [] Hq
          dsimp only [List.cons_append, List.nil_append] at HXz55 HBz55
          obtain ⟨z56t, Hc, H⟩ := Option.bind_eq_some_iff.mp H
          refine r_call S0 rfl rfl goes10 rfl ?_
          refine (waybilllaw13_has.calls _ _ _ _ x_old x_n _ _ (sl_isH_rd [_, _] HPz55 HR0) HXz55 z56t Hc).mono ?_
          rintro e w ⟨rfl, Hq'⟩
          have Hq : HS W0 [own e_i64 3 z7A z5t.length z9n z5t, own e_i64 3 z11A z6t.length z13n z6t, isH X] w := HBz55 [] _ Hq'
          clear HXz55 HPz55 HBz55 Hq'
          refine ⟨.bool z56t, rfl, ?_⟩; clear S0; intro a0 S0
          refine r_on S0 rfl rfl rfl (decide_eq_true z54h) ?_
          refine r_pures [_] S0 rfl ?_
          clear S0; intro a0 S0
          refine r_on S0 rfl rfl rfl (decide_eq_true z54h) ?_
          refine r_pures [_] S0 rfl ?_
          clear S0; intro a0 S0
          refine r_on S0 rfl rfl rfl (decide_eq_true z54h) ?_
          obtain ⟨Xz57, HXz57, HPz57, HBz57⟩ := call_frame [] Hq
          dsimp only [List.cons_append, List.nil_append] at HXz57 HBz57
          obtain ⟨z58t, Hc, H⟩ := Option.bind_eq_some_iff.mp H
          refine r_call S0 rfl rfl goes10 rfl ?_
          refine (waybilllaw13_has.calls _ _ _ _ x_ids x_n _ _ (sl_isH_rd [_, _] HPz57 HR1) HXz57 z58t Hc).mono ?_
          rintro e w ⟨rfl, Hq'⟩
          have Hq : HS W0 [own e_i64 3 z7A z5t.length z9n z5t, own e_i64 3 z11A z6t.length z13n z6t, isH X] w := HBz57 [] _ Hq'
          clear HXz57 HPz57 HBz57 Hq'
          refine ⟨.bool z58t, rfl, ?_⟩; clear S0; intro a0 S0
          refine r_on S0 rfl rfl rfl (decide_eq_true z54h) ?_
          refine r_pures [_] S0 rfl ?_
          clear S0; intro a0 S0
          by_cases z59h : z58t = true
          · replace H := (if_pos z59h).symm.trans H
            refine r_on S0 rfl rfl rfl z59h ?_
            refine r_pures [_] S0 rfl ?_
            clear S0; intro a0 S0
            refine r_on S0 rfl rfl rfl z59h ?_
            refine r_pures [_] S0 rfl ?_
            clear S0; intro a0 S0
            refine r_on S0 rfl rfl rfl z59h ?_
            obtain ⟨Xz60, HXz60, HPz60, HBz60⟩ := call_frame [] Hq
            dsimp only [List.cons_append, List.nil_append] at HXz60 HBz60
            obtain ⟨z61t, Hc, H⟩ := Option.bind_eq_some_iff.mp H
            refine r_call S0 rfl rfl goes10 rfl ?_
            refine (waybilllaw13_has.calls _ _ _ _ z5t x_n _ _ (sl_own_rd [] HPz60) HXz60 z61t Hc).mono ?_
            rintro e w ⟨rfl, Hq'⟩
            have Hq : HS W0 [own e_i64 3 z7A z5t.length z9n z5t, own e_i64 3 z11A z6t.length z13n z6t, isH X] w := HBz60 [] _ Hq'
            clear HXz60 HPz60 HBz60 Hq'
            refine ⟨.bool z61t, rfl, ?_⟩; clear S0; intro a0 S0
            refine r_on S0 rfl rfl rfl z59h ?_
            refine r_pures [_] S0 rfl ?_
            clear S0; intro a0 S0
            refine r_on S0 rfl rfl rfl (decide_eq_true z54h) ?_
            refine r_pick S0 rfl z59h _ rfl rfl ?_
            clear S0; intro a0 S0
            refine r_on S0 rfl rfl rfl (decide_eq_true z54h) ?_
            refine r_pures [_] S0 rfl ?_
            clear S0; intro a0 S0
            by_cases z62h : z61t = true
            · replace H := (if_pos z62h).symm.trans H
              refine r_on S0 rfl rfl rfl (congrArg (!·) z62h) ?_
              refine r_pures [_] S0 rfl ?_
              clear S0; intro a0 S0
              refine r_on S0 rfl rfl rfl (congrArg (!·) z62h) ?_
              refine r_pures [_] S0 rfl ?_
              clear S0; intro a0 S0
              refine r_on S0 rfl rfl rfl (congrArg (!·) z62h) ?_
              obtain ⟨Xz63, HXz63, HPz63, HBz63⟩ := call_frame [] Hq
              dsimp only [List.cons_append, List.nil_append] at HXz63 HBz63
              obtain ⟨z64t, Hc, H⟩ := Option.bind_eq_some_iff.mp H
              refine r_call S0 rfl rfl goes10 rfl ?_
              refine (waybilllaw13_has.calls _ _ _ _ z6t x_n _ _ (sl_own_rd [_] HPz63) HXz63 z64t Hc).mono ?_
              rintro e w ⟨rfl, Hq'⟩
              have Hq : HS W0 [own e_i64 3 z7A z5t.length z9n z5t, own e_i64 3 z11A z6t.length z13n z6t, isH X] w := HBz63 [] _ Hq'
              clear HXz63 HPz63 HBz63 Hq'
              refine ⟨.bool z64t, rfl, ?_⟩; clear S0; intro a0 S0
              refine r_on S0 rfl rfl rfl (decide_eq_true z54h) ?_
              refine r_pick S0 rfl (congrArg (!·) z62h) _ rfl rfl ?_
              clear S0; intro a0 S0
              refine r_on S0 rfl rfl rfl (decide_eq_true z54h) ?_
              refine r_beq S0 rfl rfl und4 rfl ?_
              clear S0; intro a0 S0
              refine r_pick S0 rfl (decide_eq_true z54h) _ rfl rfl ?_
              clear S0; intro a0 S0
              refine r_pures [_] S0 rfl ?_
              clear S0; intro a0 S0
              refine wl_nil ?_
              refine nr_then ?_
              replace Hq := HS.pull [_, _] Hq
              dsimp only [List.cons_append, List.nil_append] at Hq
              replace Hq := HS.keep [_] Hq
              obtain rfl := Option.some.inj H
              exact ⟨S0.sub ⟨rfl, trivial⟩, Hq⟩
            · replace H := (if_neg z62h).symm.trans H
              refine r_off S0 rfl rfl rfl (congrArg (!·) (Bool.eq_false_iff.mpr z62h)) ?_ rfl
              clear S0; intro a0 S0
              refine r_off S0 rfl rfl rfl (congrArg (!·) (Bool.eq_false_iff.mpr z62h)) ?_ rfl
              clear S0; intro a0 S0
              refine r_off S0 rfl rfl rfl (congrArg (!·) (Bool.eq_false_iff.mpr z62h)) ?_ rfl
              clear S0; intro a0 S0
              refine r_on S0 rfl rfl rfl (decide_eq_true z54h) ?_
              refine r_pick S0 rfl (congrArg (!·) (Bool.eq_false_iff.mpr z62h)) _ rfl rfl ?_
              clear S0; intro a0 S0
              refine r_on S0 rfl rfl rfl (decide_eq_true z54h) ?_
              refine r_beq S0 rfl rfl und4 rfl ?_
              clear S0; intro a0 S0
              refine r_pick S0 rfl (decide_eq_true z54h) _ rfl rfl ?_
              clear S0; intro a0 S0
              refine r_pures [_] S0 rfl ?_
              clear S0; intro a0 S0
              refine wl_nil ?_
              refine nr_then ?_
              replace Hq := HS.pull [_, _] Hq
              dsimp only [List.cons_append, List.nil_append] at Hq
              replace Hq := HS.keep [_] Hq
              obtain rfl := Option.some.inj H
              exact ⟨S0.sub ⟨rfl, trivial⟩, Hq⟩
          · replace H := (if_neg z59h).symm.trans H
            refine r_off S0 rfl rfl rfl (Bool.eq_false_iff.mpr z59h) ?_ rfl
            clear S0; intro a0 S0
            refine r_off S0 rfl rfl rfl (Bool.eq_false_iff.mpr z59h) ?_ rfl
            clear S0; intro a0 S0
            refine r_off S0 rfl rfl rfl (Bool.eq_false_iff.mpr z59h) ?_ rfl
            clear S0; intro a0 S0
            refine r_off S0 rfl rfl rfl (Bool.eq_false_iff.mpr z59h) ?_ rfl
            clear S0; intro a0 S0
            refine r_on S0 rfl rfl rfl (decide_eq_true z54h) ?_
            refine r_pick S0 rfl (Bool.eq_false_iff.mpr z59h) _ rfl rfl ?_
            clear S0; intro a0 S0
            refine r_on S0 rfl rfl rfl (decide_eq_true z54h) ?_
            refine r_pures [_] S0 rfl ?_
            clear S0; intro a0 S0
            refine r_on S0 rfl rfl rfl rfl ?_
            refine r_pures [_] S0 rfl ?_
            clear S0; intro a0 S0
            refine r_on S0 rfl rfl rfl rfl ?_
            refine r_pures [_] S0 rfl ?_
            clear S0; intro a0 S0
            refine r_on S0 rfl rfl rfl rfl ?_
            obtain ⟨Xz65, HXz65, HPz65, HBz65⟩ := call_frame [] Hq
            dsimp only [List.cons_append, List.nil_append] at HXz65 HBz65
            obtain ⟨z66t, Hc, H⟩ := Option.bind_eq_some_iff.mp H
            refine r_call S0 rfl rfl goes10 rfl ?_
            refine (waybilllaw13_has.calls _ _ _ _ z6t x_n _ _ (sl_own_rd [_] HPz65) HXz65 z66t Hc).mono ?_
            rintro e w ⟨rfl, Hq'⟩
            have Hq : HS W0 [own e_i64 3 z7A z5t.length z9n z5t, own e_i64 3 z11A z6t.length z13n z6t, isH X] w := HBz65 [] _ Hq'
            clear HXz65 HPz65 HBz65 Hq'
            refine ⟨.bool z66t, rfl, ?_⟩; clear S0; intro a0 S0
            refine r_on S0 rfl rfl rfl (decide_eq_true z54h) ?_
            refine r_pick S0 rfl rfl _ rfl rfl ?_
            clear S0; intro a0 S0
            refine r_on S0 rfl rfl rfl (decide_eq_true z54h) ?_
            refine r_beq S0 rfl rfl und4 rfl ?_
            clear S0; intro a0 S0
            refine r_pick S0 rfl (decide_eq_true z54h) _ rfl rfl ?_
            clear S0; intro a0 S0
            refine r_pures [_] S0 rfl ?_
            clear S0; intro a0 S0
            refine wl_nil ?_
            refine nr_then ?_
            replace Hq := HS.pull [_, _] Hq
            dsimp only [List.cons_append, List.nil_append] at Hq
            replace Hq := HS.keep [_] Hq
            obtain rfl := Option.some.inj H
            exact ⟨S0.sub ⟨rfl, trivial⟩, Hq⟩
        · replace H := (if_neg z54h).symm.trans H
          refine r_off S0 rfl rfl rfl (decide_eq_false z54h) ?_ rfl
          clear S0; intro a0 S0
          refine r_off S0 rfl rfl rfl (decide_eq_false z54h) ?_ rfl
          clear S0; intro a0 S0
          refine r_off S0 rfl rfl rfl (decide_eq_false z54h) ?_ rfl
          clear S0; intro a0 S0
          refine r_off S0 rfl rfl rfl (decide_eq_false z54h) ?_ rfl
          clear S0; intro a0 S0
          refine r_off S0 rfl rfl rfl (decide_eq_false z54h) ?_ rfl
          clear S0; intro a0 S0
          refine r_off S0 rfl rfl rfl (decide_eq_false z54h) ?_ rfl
          clear S0; intro a0 S0
          refine r_off S0 rfl rfl rfl (decide_eq_false z54h) ?_ rfl
          clear S0; intro a0 S0
          refine r_offU S0 rfl rfl rfl ?_ rfl
          clear S0; intro a0 S0
          refine r_offU S0 rfl rfl rfl ?_ rfl
          clear S0; intro a0 S0
          refine r_offU S0 rfl rfl rfl ?_ rfl
          clear S0; intro a0 S0
          refine r_offU S0 rfl rfl rfl ?_ rfl
          clear S0; intro a0 S0
          refine r_off S0 rfl rfl rfl (decide_eq_false z54h) ?_ rfl
          clear S0; intro a0 S0
          refine r_off S0 rfl rfl rfl (decide_eq_false z54h) ?_ rfl
          clear S0; intro a0 S0
          refine r_offU S0 rfl rfl rfl ?_ rfl
          clear S0; intro a0 S0
          refine r_offU S0 rfl rfl rfl ?_ rfl
          clear S0; intro a0 S0
          refine r_offU S0 rfl rfl rfl ?_ rfl
          clear S0; intro a0 S0
          refine r_off S0 rfl rfl rfl (decide_eq_false z54h) ?_ rfl
          clear S0; intro a0 S0
          refine r_off S0 rfl rfl rfl (decide_eq_false z54h) ?_ rfl
          clear S0; intro a0 S0
          refine r_pick S0 rfl (decide_eq_false z54h) _ rfl rfl ?_
          clear S0; intro a0 S0
          refine r_pures [_] S0 rfl ?_
          clear S0; intro a0 S0
          refine wl_nil ?_
          refine nr_then ?_
          replace Hq := HS.pull [_, _] Hq
          dsimp only [List.cons_append, List.nil_append] at Hq
          replace Hq := HS.keep [_] Hq
          obtain rfl := Option.some.inj H
          exact ⟨S0.sub ⟨rfl, trivial⟩, Hq⟩
    · clear S0; rintro a w ⟨S0, Hq⟩
      have H := HU1; clear HU1
      refine nr_then ?_
      refine w_ret ?_
      obtain rfl := Option.some.inj H
      refine ret1 S0 rfl rfl ?_
      exact ⟨rfl, Hq⟩
  · replace H := (if_neg z3h).symm.trans H
    refine w_true S0 rfl (congrArg (!·) (Bool.eq_false_iff.mpr z3h)) ?_
    refine w_seq ?_
    refine w_region ?_
    refine r_pures [_] S0 rfl ?_
    clear S0; intro a0 S0
    refine wl_nil ?_
    refine nr_then ?_
    refine w_ret ?_
    refine ret_then ?_
    obtain rfl := Option.some.inj H
    refine ret1 S0 rfl rfl ?_
    exact ⟨rfl, Hq⟩

end Go.Proofs.Ythlogangnppghaa.M
