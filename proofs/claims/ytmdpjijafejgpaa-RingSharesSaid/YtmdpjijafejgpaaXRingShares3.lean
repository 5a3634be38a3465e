/- The law RingShares of the seat Ytmdpjijafejgpaa: whatever the input, the call ends, answers true, and what came in reads as it did. This text is part 3 of 4, joined out of the session's texts. -/
import Derived.Test.YtmdpjijafejgpaaXRingShares2
/- waybill/waybilllaw12.RingShares: a plain function, and that the machine's call comes to it: printed by a program of the session's own. -/
set_option linter.unusedVariables false
set_option linter.unusedSimpArgs false
namespace Go.Proofs.Ytmdpjijafejgpaa.M
open Go Go.Proofs.Ytmdpjijafejgpaa.Sl
/-! ### waybill/waybilllaw12.RingShares: function 6 -/
def waybilllaw12_RingShares.l1 : Nat → (List api_Backend) → Int → Int → Int → (List Int) → Option ((List Int))
  | 0, _, _, _, _, _ => none
  | k + 1, x_l, z44t, z45t, z47x, z48x => if z47x < (x_l.length : Int) then ((((waybilllaw12_num.f z45t).bind fun z52t => (if z52t = 0 then (if 0 ≤ z47x then (some (decide (((rd e_api_Backend x_l z47x).ID) = z44t))) else (none)) else (some false))) : Option (Bool)).bind fun z50x => (((if z50x = true then (if 0 ≤ z47x then (if z47x < (Int.toNat (x_l.length : Int) : Int) then (some (z48x.set (Int.toNat z47x) (IntKind.i64.wrap ((rd e_i64 z48x z47x) + 1)))) else (none)) else (none)) else (some z48x)) : Option ((List Int))).bind fun z57x => (waybilllaw12_RingShares.l1 k x_l z44t z45t (IntKind.i64.wrap (z47x + 1)) z57x))) else (some z48x)
def waybilllaw12_RingShares.l0 : Nat → (List api_Backend) → Int → (List api_Point) → Int → (List Int) → Option ((List Int))
  | 0, _, _, _, _, _ => none
  | k + 1, x_l, x_keys, z5t, z35x, z36x => if z35x < ((IntKind.i64.wrap ((x_keys.tmod 200) + 200)).tmod 200) then ((((waybillref10_Ints.f k 2 ([z35x] : List Int)).bind fun z42t => ((ring_Lookup.f k z5t z42t).bind fun (z44t, z45t) => ((((waybilllaw12_RingShares.l1 k x_l z44t z45t 0 z36x)) : Option ((List Int))).bind fun z46x => (some z46x)))) : Option ((List Int))).bind fun z38x => (waybilllaw12_RingShares.l0 k x_l x_keys z5t (IntKind.i64.wrap (z35x + 1)) z38x)) else (some z36x)
def waybilllaw12_RingShares.f (k : Nat) (x_points : Int) (x_l : List api_Backend) (x_keys : Int) : Option (Bool) := (waybilllaw12_alive.f k ).bind fun z2t => (if z2t = true then ((ring_Build.f k x_points x_l).bind fun (z5t, z6t) => ((((waybilllaw12_num.f z6t).bind fun z12t => (if z12t = 0 then (some (decide ((x_l.length : Int) = 0))) else (some true))) : Option (Bool)).bind fun z10x => (if z10x = true then ((((waybilllaw12_num.f z6t).bind fun z17t => (if z17t = 0 then (some true) else (some (decide ((z5t.length : Int) = 0))))) : Option (Bool)).bind fun z15x => (some z15x)) else ((ring_Shares.f k z5t ((IntKind.i64.wrap ((x_keys.tmod 200) + 200)).tmod 200)).bind fun (z20t, z21t) => ((((waybilllaw12_num.f z21t).bind fun z27t => (if z27t = 0 then (some (!(decide ((z20t.length : Int) = (x_l.length : Int))))) else (some true))) : Option (Bool)).bind fun z25x => (if z25x = true then (some false) else (if 0 ≤ (x_l.length : Int) then (if Int.toNat (x_l.length : Int) < 17592186044416 then ((((waybilllaw12_RingShares.l0 k x_l x_keys z5t 0 (List.replicate (Int.toNat (x_l.length : Int)) e_i64.z))) : Option ((List Int))).bind fun z34x => ((waybillplain_SameInts.f k z20t z34x).bind fun z62t => (some z62t))) else (none)) else (none)))))))) else (some false))
set_option maxRecDepth 100000 in
set_option maxHeartbeats 4000000 in
theorem waybilllaw12_RingShares.calls (k : Nat) (x_points : Int) (A1 : Option Addr) (n1 c1 : Nat) (x_l : List api_Backend) (x_keys : Int) (W0 : World) (X : Heap) (HR1 : Rd e_api_Backend X A1 n1 c1 x_l) (Hq : HS W0 [isH X] W0) (r : Bool) (H : waybilllaw12_RingShares.f k x_points x_l x_keys = some r) :
    Calls Try.prog 6 #[.int .i64 x_points, .slice A1 n1 c1, .int .i64 x_keys] W0 (fun e w => e = .returned (.bool r) ∧ HS W0 [isH X] w) := by
  obtain rfl := HR1.1
  rw [waybilllaw12_RingShares.f] at H
  refine calls_in Try.func6 rfl rfl ?_
  intro a0 S0
  refine w_seq ?_
  refine w_region ?_
  refine r_pures [_] S0 rfl ?_
  clear S0; intro a0 S0
  refine wl_nil ?_
  refine nr_then ?_
  refine w_seq ?_
  refine w_seq ?_
  refine w_region ?_
  obtain ⟨Xz1, HXz1, HPz1, HBz1⟩ := call_frame [] Hq
  dsimp only [List.cons_append, List.nil_append] at HXz1 HBz1
  obtain ⟨z2t, Hc, H⟩ := Option.bind_eq_some_iff.mp H
  refine r_call S0 rfl rfl goes7 rfl ?_
  refine (waybilllaw12_alive.calls _  _ _  HXz1 z2t Hc).mono ?_
  rintro e w ⟨rfl, Hq'⟩
  have Hq : HS W0 [isH X] w := HBz1 [] _ Hq'
  clear HXz1 HPz1 HBz1 Hq'
  refine ⟨.bool z2t, rfl, ?_⟩; clear S0; intro a0 S0
  refine r_pures [_] S0 rfl ?_
  clear S0; intro a0 S0
  refine wl_nil ?_
  refine nr_then ?_
  by_cases z3h : z2t = true
  · replace H := (if_pos z3h).symm.trans H
    refine w_false S0 rfl (congrArg (!·) z3h) ?_
    refine w_skip ?_
    refine nr_then ?_
    refine w_seq ?_
    refine w_region ?_
    refine r_pures [_] S0 rfl ?_
    clear S0; intro a0 S0
    refine r_rem S0 rfl rfl (by decide) rfl ?_
    clear S0; intro a0 S0
    refine r_pures [_] S0 rfl ?_
    clear S0; intro a0 S0
    refine r_rem S0 rfl rfl (by decide) rfl ?_
    clear S0; intro a0 S0
    refine r_pures [_] S0 rfl ?_
    clear S0; intro a0 S0
    refine wl_nil ?_
    refine nr_then ?_
    refine w_seq ?_
    refine w_region ?_
    refine r_pures [_, _] S0 rfl ?_
    clear S0; intro a0 S0
    obtain ⟨Xz4, HXz4, HPz4, HBz4⟩ := call_frame [] Hq
    dsimp only [List.cons_append, List.nil_append] at HXz4 HBz4
    obtain ⟨⟨z5t, z6t⟩, Hc, H⟩ := Option.bind_eq_some_iff.mp H
    dsimp only at H
    refine r_call S0 rfl rfl goes8 rfl ?_
    refine (ring_Build.calls _ x_points _ _ _ x_l _ _ (sl_isH_rd [] HPz4 HR1) HXz4 (z5t, z6t) Hc).mono ?_
    rintro e w ⟨z7A, z8m, z9n, rfl, Hq'⟩
    have Hq : HS W0 [own e_api_Point 39 z7A z8m z9n z5t, isH X] w := HBz4 [_] _ Hq'
    clear HXz4 HPz4 HBz4 Hq'
    obtain rfl := own_len [] Hq
    refine ⟨.tuple #[.slice z7A z5t.length z9n, .int .i64 z6t], rfl, ?_⟩; clear S0; intro a0 S0
    refine r_pures [_, _, _, _, _] S0 rfl ?_
    clear S0; intro a0 S0
    refine wl_nil ?_
    refine nr_then ?_
    refine w_seq ?_
    refine w_seq ?_
    obtain ⟨z10x, H, HU1⟩ := Option.bind_eq_some_iff.mp H
    refine w_cutT (fun a w => Sl 103 [] [(1, .slice A1 x_l.length c1), (2, .int .i64 ((IntKind.i64.wrap ((x_keys.tmod 200) + 200)).tmod 200)), (7, .slice z7A z5t.length z9n), (8, .int .i64 z6t), (35, .bool z10x)] a ∧ HS W0 [own e_api_Point 39 z7A z5t.length z9n z5t, isH X] w) ?_ ?_
    · skip
      refine w_region ?_
      refine r_pures [_] S0 rfl ?_
      clear S0; intro a0 S0
      obtain ⟨Xz11, HXz11, HPz11, HBz11⟩ := call_frame [] Hq
      dsimp only [List.cons_append, List.nil_append] at HXz11 HBz11
      obtain ⟨z12t, Hc, H⟩ := Option.bind_eq_some_iff.mp H
      refine r_call S0 rfl rfl goes9 rfl ?_
      refine (waybilllaw12_num.calls z6t _ _  HXz11 z12t Hc).mono ?_
      rintro e w ⟨rfl, Hq'⟩
      have Hq : HS W0 [own e_api_Point 39 z7A z5t.length z9n z5t, isH X] w := HBz11 [] _ Hq'
      clear HXz11 HPz11 HBz11 Hq'
      refine ⟨.int .i64 z12t, rfl, ?_⟩; clear S0; intro a0 S0
      refine r_pures [_, _] S0 rfl ?_
      clear S0; intro a0 S0
      by_cases z13h : z12t = 0
      · replace H := (if_pos z13h).symm.trans H
        refine r_on S0 rfl rfl rfl (congrArg (!·) (decide_eq_true z13h)) ?_
        refine r_pures [_] S0 rfl ?_
        clear S0; intro a0 S0
        refine r_on S0 rfl rfl rfl (congrArg (!·) (decide_eq_true z13h)) ?_
        refine r_len S0 rfl sl22 rfl ?_
        clear S0; intro a0 S0
        refine r_on S0 rfl rfl rfl (congrArg (!·) (decide_eq_true z13h)) ?_
        refine r_pures [_] S0 rfl ?_
        clear S0; intro a0 S0
        refine r_pick S0 rfl (congrArg (!·) (decide_eq_true z13h)) _ rfl rfl ?_
        clear S0; intro a0 S0
        refine wl_nil ?_
        refine nr_then ?_
        obtain rfl := Option.some.inj H
        exact ⟨S0.sub ⟨rfl, rfl, rfl, rfl, rfl, trivial⟩, Hq⟩
      · replace H := (if_neg z13h).symm.trans H
        refine r_off S0 rfl rfl rfl (congrArg (!·) (decide_eq_false z13h)) ?_ rfl
        clear S0; intro a0 S0
        refine r_off S0 rfl rfl rfl (congrArg (!·) (decide_eq_false z13h)) ?_ rfl
        clear S0; intro a0 S0
        refine r_off S0 rfl rfl rfl (congrArg (!·) (decide_eq_false z13h)) ?_ rfl
        clear S0; intro a0 S0
        refine r_pick S0 rfl (congrArg (!·) (decide_eq_false z13h)) _ rfl rfl ?_
        clear S0; intro a0 S0
        refine wl_nil ?_
        refine nr_then ?_
        obtain rfl := Option.some.inj H
        exact ⟨S0.sub ⟨rfl, rfl, rfl, rfl, rfl, trivial⟩, Hq⟩
    · clear S0; rintro a w ⟨S0, Hq⟩
      have H := HU1; clear HU1
      refine nr_then ?_
      by_cases z14h : z10x = true
      · replace H := (if_pos z14h).symm.trans H
        refine w_true S0 rfl z14h ?_
        refine w_seq ?_
        obtain ⟨z15x, H, HU2⟩ := Option.bind_eq_some_iff.mp H
        refine w_cutT (fun a w => Sl 103 [] [(6, .bool z15x)] a ∧ HS W0 [isH X] w) ?_ ?_
        · skip
          refine w_region ?_
          refine r_pures [_] S0 rfl ?_
          clear S0; intro a0 S0
          obtain ⟨Xz16, HXz16, HPz16, HBz16⟩ := call_frame [] Hq
          dsimp only [List.cons_append, List.nil_append] at HXz16 HBz16
          obtain ⟨z17t, Hc, H⟩ := Option.bind_eq_some_iff.mp H
          refine r_call S0 rfl rfl goes9 rfl ?_
          refine (waybilllaw12_num.calls z6t _ _  HXz16 z17t Hc).mono ?_
          rintro e w ⟨rfl, Hq'⟩
          have Hq : HS W0 [own e_api_Point 39 z7A z5t.length z9n z5t, isH X] w := HBz16 [] _ Hq'
          clear HXz16 HPz16 HBz16 Hq'
          refine ⟨.int .i64 z17t, rfl, ?_⟩; clear S0; intro a0 S0
          refine r_pures [_, _] S0 rfl ?_
          clear S0; intro a0 S0
          by_cases z18h : z17t = 0
          · replace H := (if_pos z18h).symm.trans H
            refine r_off S0 rfl rfl rfl (decide_eq_true z18h) ?_ rfl
            clear S0; intro a0 S0
            refine r_off S0 rfl rfl rfl (decide_eq_true z18h) ?_ rfl
            clear S0; intro a0 S0
            refine r_off S0 rfl rfl rfl (decide_eq_true z18h) ?_ rfl
            clear S0; intro a0 S0
            refine r_pick S0 rfl (decide_eq_true z18h) _ rfl rfl ?_
            clear S0; intro a0 S0
            refine r_pures [_] S0 rfl ?_
            clear S0; intro a0 S0
            refine wl_nil ?_
            refine nr_then ?_
            replace Hq := HS.pull [_] Hq
            dsimp only [List.cons_append, List.nil_append] at Hq
            replace Hq := HS.keep [_] Hq
            obtain rfl := Option.some.inj H
            exact ⟨S0.sub ⟨rfl, trivial⟩, Hq⟩
          · replace H := (if_neg z18h).symm.trans H
            refine r_on S0 rfl rfl rfl (decide_eq_false z18h) ?_
            refine r_pures [_] S0 rfl ?_
            clear S0; intro a0 S0
            refine r_on S0 rfl rfl rfl (decide_eq_false z18h) ?_
            refine r_len S0 rfl sl25 rfl ?_
            clear S0; intro a0 S0
            refine r_on S0 rfl rfl rfl (decide_eq_false z18h) ?_
            refine r_pures [_] S0 rfl ?_
            clear S0; intro a0 S0
            refine r_pick S0 rfl (decide_eq_false z18h) _ rfl rfl ?_
            clear S0; intro a0 S0
            refine r_pures [_] S0 rfl ?_
            clear S0; intro a0 S0
            refine wl_nil ?_
            refine nr_then ?_
            replace Hq := HS.pull [_] Hq
            dsimp only [List.cons_append, List.nil_append] at Hq
            replace Hq := HS.keep [_] Hq
            obtain rfl := Option.some.inj H
            exact ⟨S0.sub ⟨rfl, trivial⟩, Hq⟩
        · clear S0; rintro a w ⟨S0, Hq⟩
          have H := HU2; clear HU2
          refine nr_then ?_
          refine w_ret ?_
          refine ret_then ?_
          obtain rfl := Option.some.inj H
          refine ret1 S0 rfl rfl ?_
          exact ⟨rfl, Hq⟩
      · replace H := (if_neg z14h).symm.trans H
        refine w_false S0 rfl (Bool.eq_false_iff.mpr z14h) ?_
        refine w_skip ?_
        refine nr_then ?_
        refine w_seq ?_
        refine w_region ?_
        refine r_pures [_, _] S0 rfl ?_
        clear S0; intro a0 S0
        obtain ⟨Xz19, HXz19, HPz19, HBz19⟩ := call_frame [] Hq
        dsimp only [List.cons_append, List.nil_append] at HXz19 HBz19
        obtain ⟨⟨z20t, z21t⟩, Hc, H⟩ := Option.bind_eq_some_iff.mp H
        dsimp only at H
        refine r_call S0 rfl rfl goes16 rfl ?_
        refine (ring_Shares.calls _ _ _ _ z5t ((IntKind.i64.wrap ((x_keys.tmod 200) + 200)).tmod 200) _ _ (sl_own_rd [] HPz19) HXz19 (z20t, z21t) Hc).mono ?_
        rintro e w ⟨z22A, z23m, z24n, rfl, Hq'⟩
        have Hq : HS W0 [own e_i64 3 z22A z23m z24n z20t, own e_api_Point 39 z7A z5t.length z9n z5t, isH X] w := HBz19 [_] _ Hq'
        clear HXz19 HPz19 HBz19 Hq'
        obtain rfl := own_len [] Hq
        refine ⟨.tuple #[.slice z22A z20t.length z24n, .int .i64 z21t], rfl, ?_⟩; clear S0; intro a0 S0
        refine r_pures [_, _, _, _, _] S0 rfl ?_
        clear S0; intro a0 S0
        refine wl_nil ?_
        refine nr_then ?_
        refine w_seq ?_
        refine w_seq ?_
        obtain ⟨z25x, H, HU3⟩ := Option.bind_eq_some_iff.mp H
        refine w_cutT (fun a w => Sl 103 [] [(1, .slice A1 x_l.length c1), (2, .int .i64 ((IntKind.i64.wrap ((x_keys.tmod 200) + 200)).tmod 200)), (7, .slice z7A z5t.length z9n), (9, .slice z22A z20t.length z24n), (59, .bool z25x)] a ∧ HS W0 [own e_i64 3 z22A z20t.length z24n z20t, own e_api_Point 39 z7A z5t.length z9n z5t, isH X] w) ?_ ?_
        · skip
          refine w_region ?_
          refine r_pures [_] S0 rfl ?_
          clear S0; intro a0 S0
          obtain ⟨Xz26, HXz26, HPz26, HBz26⟩ := call_frame [] Hq
          dsimp only [List.cons_append, List.nil_append] at HXz26 HBz26
          obtain ⟨z27t, Hc, H⟩ := Option.bind_eq_some_iff.mp H
          refine r_call S0 rfl rfl goes9 rfl ?_
          refine (waybilllaw12_num.calls z21t _ _  HXz26 z27t Hc).mono ?_
          rintro e w ⟨rfl, Hq'⟩
          have Hq : HS W0 [own e_i64 3 z22A z20t.length z24n z20t, own e_api_Point 39 z7A z5t.length z9n z5t, isH X] w := HBz26 [] _ Hq'
          clear HXz26 HPz26 HBz26 Hq'
          refine ⟨.int .i64 z27t, rfl, ?_⟩; clear S0; intro a0 S0
          refine r_pures [_, _] S0 rfl ?_
          clear S0; intro a0 S0
          by_cases z28h : z27t = 0
          · replace H := (if_pos z28h).symm.trans H
            refine r_on S0 rfl rfl rfl (congrArg (!·) (decide_eq_true z28h)) ?_
            refine r_pures [_] S0 rfl ?_
            clear S0; intro a0 S0
            refine r_on S0 rfl rfl rfl (congrArg (!·) (decide_eq_true z28h)) ?_
            refine r_len S0 rfl sl32 rfl ?_
            clear S0; intro a0 S0
            refine r_on S0 rfl rfl rfl (congrArg (!·) (decide_eq_true z28h)) ?_
            refine r_pures [_] S0 rfl ?_
            clear S0; intro a0 S0
            refine r_on S0 rfl rfl rfl (congrArg (!·) (decide_eq_true z28h)) ?_
            refine r_len S0 rfl sl22 rfl ?_
            clear S0; intro a0 S0
            refine r_on S0 rfl rfl rfl (congrArg (!·) (decide_eq_true z28h)) ?_
            refine r_pures [_] S0 rfl ?_
            clear S0; intro a0 S0
            refine r_pick S0 rfl (congrArg (!·) (decide_eq_true z28h)) _ rfl rfl ?_
            clear S0; intro a0 S0
            refine wl_nil ?_
            refine nr_then ?_
            obtain rfl := Option.some.inj H
            exact ⟨S0.sub ⟨rfl, rfl, rfl, rfl, rfl, trivial⟩, Hq⟩
          · replace H := (if_neg z28h).symm.trans H
            refine r_off S0 rfl rfl rfl (congrArg (!·) (decide_eq_false z28h)) ?_ rfl
            clear S0; intro a0 S0
            refine r_off S0 rfl rfl rfl (congrArg (!·) (decide_eq_false z28h)) ?_ rfl
            clear S0; intro a0 S0
            refine r_off S0 rfl rfl rfl (congrArg (!·) (decide_eq_false z28h)) ?_ rfl
            clear S0; intro a0 S0
            refine r_off S0 rfl rfl rfl (congrArg (!·) (decide_eq_false z28h)) ?_ rfl
            clear S0; intro a0 S0
            refine r_off S0 rfl rfl rfl (congrArg (!·) (decide_eq_false z28h)) ?_ rfl
            clear S0; intro a0 S0
            refine r_pick S0 rfl (congrArg (!·) (decide_eq_false z28h)) _ rfl rfl ?_
            clear S0; intro a0 S0
            refine wl_nil ?_
            refine nr_then ?_
            obtain rfl := Option.some.inj H
            exact ⟨S0.sub ⟨rfl, rfl, rfl, rfl, rfl, trivial⟩, Hq⟩
        · clear S0; rintro a w ⟨S0, Hq⟩
          have H := HU3; clear HU3
          refine nr_then ?_
          by_cases z29h : z25x = true
          · replace H := (if_pos z29h).symm.trans H
            refine w_true S0 rfl z29h ?_
            refine w_seq ?_
            refine w_region ?_
            refine r_pures [_] S0 rfl ?_
            clear S0; intro a0 S0
            refine wl_nil ?_
            refine nr_then ?_
            refine w_ret ?_
            refine ret_then ?_
            obtain rfl := Option.some.inj H
            refine ret1 S0 rfl rfl ?_
            replace Hq := HS.pull [_, _] Hq
            dsimp only [List.cons_append, List.nil_append] at Hq
            replace Hq := HS.keep [_] Hq
            exact ⟨rfl, Hq⟩
          · replace H := (if_neg z29h).symm.trans H
            refine w_false S0 rfl (Bool.eq_false_iff.mpr z29h) ?_
            refine w_skip ?_
            refine nr_then ?_
            refine w_seq ?_
            refine w_region ?_
            refine r_pures [_] S0 rfl ?_
            clear S0; intro a0 S0
            refine r_len S0 rfl sl22 rfl ?_
            clear S0; intro a0 S0
            by_cases z30h : 0 ≤ (x_l.length : Int)
            · replace H := (if_pos z30h).symm.trans H
              by_cases z31h : Int.toNat (x_l.length : Int) < 17592186044416
              · replace H := (if_pos z31h).symm.trans H
                refine r_make (e := e_i64) S0 Hq rfl rfl sl32 ti3 rfl z30h z31h rfl rfl ?_
                clear S0 Hq; intro z32b a0 w S0 Hq
                refine r_pures [_] S0 rfl ?_
                clear S0; intro a0 S0
                refine wl_nil ?_
                refine nr_then ?_
                refine w_seq ?_
                refine w_seq ?_
                refine w_region ?_
                refine r_pures [_] S0 rfl ?_
                clear S0; intro a0 S0
                refine wl_nil ?_
                refine nr_then ?_
                obtain ⟨z34x, H, HU4⟩ := Option.bind_eq_some_iff.mp H
                refine w_cutT (fun a w => Sl 103 [] [(9, .slice z22A z20t.length z24n), (11, .slice (some ⟨z32b, 0, none⟩) (Int.toNat (x_l.length : Int)) (Int.toNat (x_l.length : Int)))] a ∧ HS W0 [own e_i64 3 (some ⟨z32b, 0, none⟩) (Int.toNat (x_l.length : Int)) (Int.toNat (x_l.length : Int)) z34x, own e_i64 3 z22A z20t.length z24n z20t, isH X] w) ?_ ?_
                · skip
                  refine w_block ?_
                  refine w_loop (fun kq a w => ∃ z35x z36x, waybilllaw12_RingShares.l0 kq x_l x_keys z5t z35x z36x = some z34x ∧ Sl 103 [] [(1, .slice A1 x_l.length c1), (2, .int .i64 ((IntKind.i64.wrap ((x_keys.tmod 200) + 200)).tmod 200)), (7, .slice z7A z5t.length z9n), (9, .slice z22A z20t.length z24n), (11, .slice (some ⟨z32b, 0, none⟩) (Int.toNat (x_l.length : Int)) (Int.toNat (x_l.length : Int))), (12, .int .i64 z35x)] a ∧ HS W0 [own e_i64 3 (some ⟨z32b, 0, none⟩) (Int.toNat (x_l.length : Int)) (Int.toNat (x_l.length : Int)) z36x, own e_i64 3 z22A z20t.length z24n z20t, own e_api_Point 39 z7A z5t.length z9n z5t, isH X] w) _ ⟨0, (List.replicate (Int.toNat (x_l.length : Int)) e_i64.z), H, S0.sub ⟨rfl, rfl, rfl, rfl, rfl, rfl, trivial⟩, Hq⟩ ?_
                  clear H Hq S0
                  rintro k0 a w ⟨z35x, z36x, H, S0, Hq⟩
                  cases k0 with
                  | zero => simp [waybilllaw12_RingShares.l0] at H
                  | succ k0 =>
                    refine ⟨k0, rfl, ?_⟩
                    rw [waybilllaw12_RingShares.l0] at H
                    refine w_seq ?_
                    refine w_seq ?_
                    refine w_region ?_
                    refine r_pures [_, _, _] S0 rfl ?_
                    clear S0; intro a0 S0
                    refine wl_nil ?_
                    refine nr_then ?_
                    by_cases z37h : z35x < ((IntKind.i64.wrap ((x_keys.tmod 200) + 200)).tmod 200)
                    · replace H := (if_pos z37h).symm.trans H
                      refine w_true S0 rfl (decide_eq_true z37h) ?_
                      refine w_skip ?_
                      refine nr_then ?_
                      refine w_seq ?_
                      obtain ⟨z38x, H, HU5⟩ := Option.bind_eq_some_iff.mp H
                      refine w_cutT (fun a w => Sl 103 [] [(1, .slice A1 x_l.length c1), (2, .int .i64 ((IntKind.i64.wrap ((x_keys.tmod 200) + 200)).tmod 200)), (7, .slice z7A z5t.length z9n), (9, .slice z22A z20t.length z24n), (11, .slice (some ⟨z32b, 0, none⟩) (Int.toNat (x_l.length : Int)) (Int.toNat (x_l.length : Int))), (12, .int .i64 z35x)] a ∧ HS W0 [own e_i64 3 (some ⟨z32b, 0, none⟩) (Int.toNat (x_l.length : Int)) (Int.toNat (x_l.length : Int)) z38x, own e_i64 3 z22A z20t.length z24n z20t, own e_api_Point 39 z7A z5t.length z9n z5t, isH X] w) ?_ ?_
                      · skip
                        refine w_block ?_
                        refine w_seq ?_
                        refine w_region ?_
                        refine r_pures [_, _] S0 rfl ?_
                        clear S0; intro a0 S0
                        refine r_lit (e := e_i64) (l := ([z35x] : List Int)) (m := 1) (vs := [.int .i64 z35x]) S0 Hq sl32 ti3 rfl rfl rfl rfl rfl rfl ?_
                        clear S0 Hq; intro z39b a0 w S0 Hq
                        obtain ⟨Xz41, HXz41, HPz41, HBz41⟩ := call_frame [] Hq
                        dsimp only [List.cons_append, List.nil_append] at HXz41 HBz41
                        obtain ⟨z42t, Hc, H⟩ := Option.bind_eq_some_iff.mp H
                        refine r_call S0 rfl rfl goes24 rfl ?_
                        refine (waybillref10_Ints.calls _ 2 _ _ _ ([z35x] : List Int) _ _ (sl_own_rd [] HPz41) HXz41 z42t Hc).mono ?_
                        rintro e w ⟨rfl, Hq'⟩
                        have Hq : HS W0 [own e_i64 3 (some ⟨z39b, 0, none⟩) 1 1 ([z35x] : List Int), own e_i64 3 (some ⟨z32b, 0, none⟩) (Int.toNat (x_l.length : Int)) (Int.toNat (x_l.length : Int)) z36x, own e_i64 3 z22A z20t.length z24n z20t, own e_api_Point 39 z7A z5t.length z9n z5t, isH X] w := HBz41 [] _ Hq'
                        clear HXz41 HPz41 HBz41 Hq'
                        refine ⟨.int .u64 z42t, rfl, ?_⟩; clear S0; intro a0 S0
                        obtain ⟨Xz43, HXz43, HPz43, HBz43⟩ := call_frame [] Hq
                        dsimp only [List.cons_append, List.nil_append] at HXz43 HBz43
                        obtain ⟨⟨z44t, z45t⟩, Hc, H⟩ := Option.bind_eq_some_iff.mp H
                        dsimp only at H
                        refine r_call S0 rfl rfl goes10 rfl ?_
                        refine (ring_Lookup.calls _ _ _ _ z5t z42t _ _ (sl_own_rd [_, _, _] HPz43) HXz43 (z44t, z45t) Hc).mono ?_
                        rintro e w ⟨rfl, Hq'⟩
                        have Hq : HS W0 [own e_i64 3 (some ⟨z39b, 0, none⟩) 1 1 ([z35x] : List Int), own e_i64 3 (some ⟨z32b, 0, none⟩) (Int.toNat (x_l.length : Int)) (Int.toNat (x_l.length : Int)) z36x, own e_i64 3 z22A z20t.length z24n z20t, own e_api_Point 39 z7A z5t.length z9n z5t, isH X] w := HBz43 [] _ Hq'
                        clear HXz43 HPz43 HBz43 Hq'
                        refine ⟨.tuple #[.int .i64 z44t, .int .i64 z45t], rfl, ?_⟩; clear S0; intro a0 S0
                        refine r_pures [_, _, _, _, _] S0 rfl ?_
                        clear S0; intro a0 S0
                        refine wl_nil ?_
                        refine nr_then ?_
                        refine w_seq ?_
                        refine w_region ?_
                        refine r_pures [_] S0 rfl ?_
                        clear S0; intro a0 S0
                        refine wl_nil ?_
                        refine nr_then ?_
                        obtain ⟨z46x, H, HU6⟩ := Option.bind_eq_some_iff.mp H
                        refine w_cutT (fun a w => Sl 103 [] [(1, .slice A1 x_l.length c1), (2, .int .i64 ((IntKind.i64.wrap ((x_keys.tmod 200) + 200)).tmod 200)), (7, .slice z7A z5t.length z9n), (9, .slice z22A z20t.length z24n), (11, .slice (some ⟨z32b, 0, none⟩) (Int.toNat (x_l.length : Int)) (Int.toNat (x_l.length : Int))), (12, .int .i64 z35x)] a ∧ HS W0 [own e_i64 3 (some ⟨z32b, 0, none⟩) (Int.toNat (x_l.length : Int)) (Int.toNat (x_l.length : Int)) z46x, own e_i64 3 z22A z20t.length z24n z20t, own e_api_Point 39 z7A z5t.length z9n z5t, isH X] w) ?_ ?_
                        · skip
                          refine w_block ?_
                          replace Hq := HS.pull [_, _, _, _] Hq
                          dsimp only [List.cons_append, List.nil_append] at Hq
                          replace Hq := HS.pull [_, _, _, _] Hq
                          dsimp only [List.cons_append, List.nil_append] at Hq
                          replace Hq := HS.pull [_, _, _, _] Hq
                          dsimp only [List.cons_append, List.nil_append] at Hq
                          replace Hq := HS.pull [_, _, _, _] Hq
                          dsimp only [List.cons_append, List.nil_append] at Hq
                          replace Hq := HS.keep [_, _, _, _] Hq
                          refine w_loop (fun kq a w => ∃ z47x z48x, waybilllaw12_RingShares.l1 kq x_l z44t z45t z47x z48x = some z46x ∧ Sl 103 [] [(1, .slice A1 x_l.length c1), (2, .int .i64 ((IntKind.i64.wrap ((x_keys.tmod 200) + 200)).tmod 200)), (7, .slice z7A z5t.length z9n), (9, .slice z22A z20t.length z24n), (11, .slice (some ⟨z32b, 0, none⟩) (Int.toNat (x_l.length : Int)) (Int.toNat (x_l.length : Int))), (12, .int .i64 z35x), (13, .int .i64 z44t), (14, .int .i64 z45t), (15, .int .i64 z47x)] a ∧ HS W0 [own e_i64 3 (some ⟨z32b, 0, none⟩) (Int.toNat (x_l.length : Int)) (Int.toNat (x_l.length : Int)) z48x, own e_i64 3 z22A z20t.length z24n z20t, own e_api_Point 39 z7A z5t.length z9n z5t, isH X] w) _ ⟨0, z36x, H, S0.sub ⟨rfl, rfl, rfl, rfl, rfl, rfl, rfl, rfl, rfl, trivial⟩, Hq⟩ ?_
                          clear H Hq S0
                          rintro k1 a w ⟨z47x, z48x, H, S0, Hq⟩
                          cases k1 with
                          | zero => simp [waybilllaw12_RingShares.l1] at H
                          | succ k1 =>
                            refine ⟨k1, rfl, ?_⟩
                            rw [waybilllaw12_RingShares.l1] at H
                            refine w_seq ?_
                            refine w_seq ?_
                            refine w_region ?_
                            refine r_pures [_, _] S0 rfl ?_
                            clear S0; intro a0 S0
                            refine r_len S0 rfl sl22 rfl ?_
                            clear S0; intro a0 S0
                            refine r_pures [_] S0 rfl ?_
                            clear S0; intro a0 S0
                            refine wl_nil ?_
                            refine nr_then ?_
                            by_cases z49h : z47x < (x_l.length : Int)
                            · replace H := (if_pos z49h).symm.trans H
                              refine w_true S0 rfl (decide_eq_true z49h) ?_
                              refine w_skip ?_
                              refine nr_then ?_
                              refine w_seq ?_
                              refine w_block ?_
                              refine w_seq ?_
                              obtain ⟨z50x, H, HU7⟩ := Option.bind_eq_some_iff.mp H
                              refine w_cutT (fun a w => Sl 103 [] [(1, .slice A1 x_l.length c1), (2, .int .i64 ((IntKind.i64.wrap ((x_keys.tmod 200) + 200)).tmod 200)), (7, .slice z7A z5t.length z9n), (9, .slice z22A z20t.length z24n), (11, .slice (some ⟨z32b, 0, none⟩) (Int.toNat (x_l.length : Int)) (Int.toNat (x_l.length : Int))), (12, .int .i64 z35x), (13, .int .i64 z44t), (14, .int .i64 z45t), (15, .int .i64 z47x), (93, .bool z50x)] a ∧ HS W0 [own e_i64 3 (some ⟨z32b, 0, none⟩) (Int.toNat (x_l.length : Int)) (Int.toNat (x_l.length : Int)) z48x, own e_i64 3 z22A z20t.length z24n z20t, own e_api_Point 39 z7A z5t.length z9n z5t, isH X] w) ?_ ?_
                              · skip
                                refine w_region ?_
                                refine r_pures [_] S0 rfl ?_
                                clear S0; intro a0 S0
                                obtain ⟨Xz51, HXz51, HPz51, HBz51⟩ := call_frame [] Hq
                                dsimp only [List.cons_append, List.nil_append] at HXz51 HBz51
                                obtain ⟨z52t, Hc, H⟩ := Option.bind_eq_some_iff.mp H
                                refine r_call S0 rfl rfl goes9 rfl ?_
                                refine (waybilllaw12_num.calls z45t _ _  HXz51 z52t Hc).mono ?_
                                rintro e w ⟨rfl, Hq'⟩
                                have Hq : HS W0 [own e_i64 3 (some ⟨z32b, 0, none⟩) (Int.toNat (x_l.length : Int)) (Int.toNat (x_l.length : Int)) z48x, own e_i64 3 z22A z20t.length z24n z20t, own e_api_Point 39 z7A z5t.length z9n z5t, isH X] w := HBz51 [] _ Hq'
                                clear HXz51 HPz51 HBz51 Hq'
                                refine ⟨.int .i64 z52t, rfl, ?_⟩; clear S0; intro a0 S0
                                refine r_pures [_, _] S0 rfl ?_
                                clear S0; intro a0 S0
                                by_cases z53h : z52t = 0
                                · replace H := (if_pos z53h).symm.trans H
                                  refine r_on S0 rfl rfl rfl (decide_eq_true z53h) ?_
                                  refine r_pures [_] S0 rfl ?_
                                  clear S0; intro a0 S0
                                  refine r_on S0 rfl rfl rfl (decide_eq_true z53h) ?_
                                  refine r_pures [_] S0 rfl ?_
                                  clear S0; intro a0 S0
                                  refine r_on S0 rfl rfl rfl (decide_eq_true z53h) ?_
                                  by_cases z54h : 0 ≤ z47x
                                  · replace H := (if_pos z54h).symm.trans H
                                    obtain ⟨z55b, z56o, rfl⟩ := (isH_rd [_, _, _] Hq HR1).at (by omega)
                                    refine r_index S0 rfl rfl sl22 ti36 z54h z49h rfl ?_
                                    clear S0; intro a0 S0
                                    refine r_on S0 rfl rfl rfl (decide_eq_true z53h) ?_
                                    refine r_fieldAddr S0 rfl fo36x0 (z56o + Int.toNat z47x * 2 + 0) rfl rfl ?_
                                    clear S0; intro a0 S0
                                    refine r_on S0 rfl rfl rfl (decide_eq_true z53h) ?_
                                    refine r_elS S0 (isH_rd [_, _, _] Hq HR1) z54h z49h rfl ti3 _ rfl rfl ?_
                                    clear S0; intro a0 S0
                                    refine r_on S0 rfl rfl rfl (decide_eq_true z53h) ?_
                                    refine r_pures [_] S0 rfl ?_
                                    clear S0; intro a0 S0
                                    refine r_on S0 rfl rfl rfl (decide_eq_true z53h) ?_
                                    refine r_pures [_] S0 rfl ?_
                                    clear S0; intro a0 S0
                                    refine r_pick S0 rfl (decide_eq_true z53h) _ rfl rfl ?_
                                    clear S0; intro a0 S0
                                    refine wl_nil ?_
                                    refine nr_then ?_
                                    obtain rfl := Option.some.inj H
                                    exact ⟨S0.sub ⟨rfl, rfl, rfl, rfl, rfl, rfl, rfl, rfl, rfl, rfl, trivial⟩, Hq⟩
                                  · replace H := (if_neg z54h).symm.trans H
                                    exact nomatch H
                                · replace H := (if_neg z53h).symm.trans H
                                  refine r_off S0 rfl rfl rfl (decide_eq_false z53h) ?_ rfl
                                  clear S0; intro a0 S0
                                  refine r_off S0 rfl rfl rfl (decide_eq_false z53h) ?_ rfl
                                  clear S0; intro a0 S0
                                  refine r_off S0 rfl rfl rfl (decide_eq_false z53h) ?_ rfl
                                  clear S0; intro a0 S0
                                  refine r_off S0 rfl rfl rfl (decide_eq_false z53h) ?_ rfl
                                  clear S0; intro a0 S0
                                  refine r_off S0 rfl rfl rfl (decide_eq_false z53h) ?_ rfl
                                  clear S0; intro a0 S0
                                  refine r_off S0 rfl rfl rfl (decide_eq_false z53h) ?_ rfl
                                  clear S0; intro a0 S0
                                  refine r_off S0 rfl rfl rfl (decide_eq_false z53h) ?_ rfl
                                  clear S0; intro a0 S0
                                  refine r_pick S0 rfl (decide_eq_false z53h) _ rfl rfl ?_
                                  clear S0; intro a0 S0
                                  refine wl_nil ?_
                                  refine nr_then ?_
                                  obtain rfl := Option.some.inj H
                                  exact ⟨S0.sub ⟨rfl, rfl, rfl, rfl, rfl, rfl, rfl, rfl, rfl, rfl, trivial⟩, Hq⟩
                              · clear S0; rintro a w ⟨S0, Hq⟩
                                have H := HU7; clear HU7
                                refine nr_then ?_
                                obtain ⟨z57x, H, HU8⟩ := Option.bind_eq_some_iff.mp H
                                refine w_cutT (fun a w => Sl 103 [] [(1, .slice A1 x_l.length c1), (2, .int .i64 ((IntKind.i64.wrap ((x_keys.tmod 200) + 200)).tmod 200)), (7, .slice z7A z5t.length z9n), (9, .slice z22A z20t.length z24n), (11, .slice (some ⟨z32b, 0, none⟩) (Int.toNat (x_l.length : Int)) (Int.toNat (x_l.length : Int))), (12, .int .i64 z35x), (13, .int .i64 z44t), (14, .int .i64 z45t), (15, .int .i64 z47x)] a ∧ HS W0 [own e_i64 3 (some ⟨z32b, 0, none⟩) (Int.toNat (x_l.length : Int)) (Int.toNat (x_l.length : Int)) z57x, own e_i64 3 z22A z20t.length z24n z20t, own e_api_Point 39 z7A z5t.length z9n z5t, isH X] w) ?_ ?_
                                · skip
                                  by_cases z58h : z50x = true
                                  · replace H := (if_pos z58h).symm.trans H
                                    refine w_true S0 rfl z58h ?_
                                    refine w_region ?_
                                    refine r_pures [_, _] S0 rfl ?_
                                    clear S0; intro a0 S0
                                    by_cases z59h : 0 ≤ z47x
                                    · replace H := (if_pos z59h).symm.trans H
                                      by_cases z60h : z47x < (Int.toNat (x_l.length : Int) : Int)
                                      · replace H := (if_pos z60h).symm.trans H
                                        refine r_index S0 rfl rfl sl32 ti3 z59h z60h rfl ?_
                                        clear S0; intro a0 S0
                                        refine r_elS S0 (own_rd [] Hq) z59h z60h rfl ti3 _ rfl rfl ?_
                                        clear S0; intro a0 S0
                                        refine r_pures [_] S0 rfl ?_
                                        clear S0; intro a0 S0
                                        refine r_index S0 rfl rfl sl32 ti3 z59h z60h rfl ?_
                                        clear S0; intro a0 S0
                                        refine r_elst [] S0 Hq z59h z60h rfl rfl ti3 [.int .i64 (IntKind.i64.wrap ((rd e_i64 z48x z47x) + 1))] rfl rfl rfl rfl (IntKind.i64.wrap ((rd e_i64 z48x z47x) + 1)) rfl ?_
                                        clear Hq; intro w Hq; dsimp only [List.cons_append, List.nil_append] at Hq
                                        refine wl_nil ?_
                                        refine nr_then ?_
                                        obtain rfl := Option.some.inj H
                                        exact ⟨S0.sub ⟨rfl, rfl, rfl, rfl, rfl, rfl, rfl, rfl, rfl, trivial⟩, Hq⟩
                                      · replace H := (if_neg z60h).symm.trans H
                                        exact nomatch H
                                    · replace H := (if_neg z59h).symm.trans H
                                      exact nomatch H
                                  · replace H := (if_neg z58h).symm.trans H
                                    refine w_false S0 rfl (Bool.eq_false_iff.mpr z58h) ?_
                                    refine w_skip ?_
                                    refine nr_then ?_
                                    obtain rfl := Option.some.inj H
                                    exact ⟨S0.sub ⟨rfl, rfl, rfl, rfl, rfl, rfl, rfl, rfl, rfl, trivial⟩, Hq⟩
                                · clear S0; rintro a w ⟨S0, Hq⟩
                                  have H := HU8; clear HU8
                                  refine nr_in ?_
                                  refine nr_then ?_
                                  refine w_region ?_
                                  refine r_pures [_, _, _] S0 rfl ?_
                                  clear S0; intro a0 S0
                                  refine wl_nil ?_
                                  refine nr_then ?_
                                  exact ⟨(IntKind.i64.wrap (z47x + 1)), z57x, H, S0.sub ⟨rfl, rfl, rfl, rfl, rfl, rfl, rfl, rfl, rfl, trivial⟩, Hq⟩
                            · replace H := (if_neg z49h).symm.trans H
                              refine w_false S0 rfl (decide_eq_false z49h) ?_
                              refine w_exit ?_
                              refine ex_then ?_
                              refine ex_then ?_
                              refine ex_in ?_
                              refine nr_then ?_
                              obtain rfl := Option.some.inj H
                              exact ⟨S0.sub ⟨rfl, rfl, rfl, rfl, rfl, rfl, trivial⟩, Hq⟩
                        · clear S0; rintro a w ⟨S0, Hq⟩
                          have H := HU6; clear HU6
                          refine nr_in ?_
                          refine nr_then ?_
                          obtain rfl := Option.some.inj H
                          exact ⟨S0.sub ⟨rfl, rfl, rfl, rfl, rfl, rfl, trivial⟩, Hq⟩
                      · clear S0; rintro a w ⟨S0, Hq⟩
                        have H := HU5; clear HU5
                        refine nr_then ?_
                        refine w_region ?_
                        refine r_pures [_, _, _] S0 rfl ?_
                        clear S0; intro a0 S0
                        refine wl_nil ?_
                        refine nr_then ?_
                        exact ⟨(IntKind.i64.wrap (z35x + 1)), z38x, H, S0.sub ⟨rfl, rfl, rfl, rfl, rfl, rfl, trivial⟩, Hq⟩
                    · replace H := (if_neg z37h).symm.trans H
                      refine w_false S0 rfl (decide_eq_false z37h) ?_
                      refine w_exit ?_
                      refine ex_then ?_
                      refine ex_then ?_
                      refine ex_in ?_
                      refine nr_then ?_
                      replace Hq := HS.pull [_, _, _] Hq
                      dsimp only [List.cons_append, List.nil_append] at Hq
                      replace Hq := HS.pull [_, _] Hq
                      dsimp only [List.cons_append, List.nil_append] at Hq
                      replace Hq := HS.pull [_, _] Hq
                      dsimp only [List.cons_append, List.nil_append] at Hq
                      replace Hq := HS.keep [_, _, _] Hq
                      obtain rfl := Option.some.inj H
                      exact ⟨S0.sub ⟨rfl, rfl, trivial⟩, Hq⟩
                · clear S0; rintro a w ⟨S0, Hq⟩
                  have H := HU4; clear HU4
                  refine nr_then ?_
                  refine w_seq ?_
                  refine w_region ?_
                  refine r_pures [_, _] S0 rfl ?_
                  clear S0; intro a0 S0
                  obtain ⟨Xz61, HXz61, HPz61, HBz61⟩ := call_frame [] Hq
                  dsimp only [List.cons_append, List.nil_append] at HXz61 HBz61
                  obtain ⟨z62t, Hc, H⟩ := Option.bind_eq_some_iff.mp H
                  refine r_call S0 rfl rfl goes19 rfl ?_
                  refine (waybillplain_SameInts.calls _ _ _ _ z20t _ _ _ z34x _ _ (sl_own_rd [_] HPz61) (sl_own_rd [] HPz61) HXz61 z62t Hc).mono ?_
                  rintro e w ⟨rfl, Hq'⟩
                  have Hq : HS W0 [own e_i64 3 (some ⟨z32b, 0, none⟩) (Int.toNat (x_l.length : Int)) (Int.toNat (x_l.length : Int)) z34x, own e_i64 3 z22A z20t.length z24n z20t, isH X] w := HBz61 [] _ Hq'
                  clear HXz61 HPz61 HBz61 Hq'
                  refine ⟨.bool z62t, rfl, ?_⟩; clear S0; intro a0 S0
                  refine r_pures [_] S0 rfl ?_
                  clear S0; intro a0 S0
                  refine wl_nil ?_
                  refine nr_then ?_
                  refine w_ret ?_
                  obtain rfl := Option.some.inj H
                  refine ret1 S0 rfl rfl ?_
                  replace Hq := HS.pull [_, _] Hq
                  dsimp only [List.cons_append, List.nil_append] at Hq
                  replace Hq := HS.keep [_] Hq
                  exact ⟨rfl, Hq⟩
              · replace H := (if_neg z31h).symm.trans H
                exact nomatch H
            · replace H := (if_neg z30h).symm.trans H
              exact nomatch H
  · replace H := (if_neg z3h).symm.trans H
    refine w_true S0 rfl (congrArg (!·) (Bool.eq_false_iff.mpr z3h)) ?_
    refine w_seq ?_
    refine w_region ?_
    refine r_pures [_] S0 rfl ?_
    clear S0; intro a0 S0
    refine wl_nil ?_
    refine nr_then ?_
    refine w_ret ?_
    refine ret_then ?_
    obtain rfl := Option.some.inj H
    refine ret1 S0 rfl rfl ?_
    exact ⟨rfl, Hq⟩

end Go.Proofs.Ytmdpjijafejgpaa.M

/- Plain words: what a function with rounds comes to, however many rounds it has; scans; maps; places in rows. -/
set_option linter.unusedVariables false
set_option linter.unusedSimpArgs false
namespace Go.Proofs.Ytmdpjijafejgpaa.Sl
open Go

def Ev {β : Type} (g : Nat → Option β) (r : β) : Prop := ∃ k0, ∀ k, k0 ≤ k → g k = some r
section
variable {β γ : Type} {r : β}
theorem Ev.ret : Ev (fun _ => some r) r := ⟨0, fun _ _ => rfl⟩
theorem Ev.of {o : Option β} (h : o = some r) : Ev (fun _ => o) r := ⟨0, fun _ _ => h⟩
theorem Ev.bind {g : Nat → Option γ} {h : Nat → γ → Option β} {x : γ} (h1 : Ev g x) (h2 : Ev (fun k => h k x) r) : Ev (fun k => (g k).bind fun y => h k y) r := by
  obtain ⟨a, ha⟩ := h1; obtain ⟨b, hb⟩ := h2
  exact ⟨max a b, fun k hk => by show (g k).bind _ = _; rw [ha k (by omega), Option.bind_some]; exact hb k (by omega)⟩
theorem Ev.succ {f : Nat → Option β} (h : Ev (fun k => f (k + 1)) r) : Ev f r := by
  obtain ⟨a, ha⟩ := h
  exact ⟨a + 1, fun k hk => by obtain ⟨j, rfl⟩ : ∃ j, k = j + 1 := ⟨k - 1, by omega⟩; exact ha j (by omega)⟩
theorem Ev.add {f : Nat → Option β} (n : Nat) (h : ∀ k, f (k + n) = some r) : Ev f r := ⟨n, fun k hk => by obtain ⟨j, rfl⟩ : ∃ j, k = j + n := ⟨k - n, by omega⟩; exact h j⟩
theorem Ev.pos {c : Prop} [Decidable c] {a b : Nat → Option β} (hc : c) (h : Ev a r) : Ev (fun k => if c then a k else b k) r := by
  obtain ⟨x, hx⟩ := h; exact ⟨x, fun k hk => (if_pos hc).trans (hx k hk)⟩
theorem Ev.neg {c : Prop} [Decidable c] {a b : Nat → Option β} (hc : ¬ c) (h : Ev b r) : Ev (fun k => if c then a k else b k) r := by
  obtain ⟨x, hx⟩ := h; exact ⟨x, fun k hk => (if_neg hc).trans (hx k hk)⟩
theorem Ev.dpos {p : Prop} [Decidable p] {a b : Nat → Option β} (hp : p) (h : Ev a r) : Ev (fun k => if decide p = true then a k else b k) r := Ev.pos (decide_eq_true hp) h
theorem Ev.dneg {p : Prop} [Decidable p] {a b : Nat → Option β} (hp : ¬ p) (h : Ev b r) : Ev (fun k => if decide p = true then a k else b k) r := Ev.neg (by rw [decide_eq_false hp]; exact Bool.false_ne_true) h
theorem Ev.congr {f g : Nat → Option β} (e : ∀ k, f k = g k) (h : Ev g r) : Ev f r := by
  obtain ⟨x, hx⟩ := h; exact ⟨x, fun k hk => (e k).trans (hx k hk)⟩
theorem Ev.some {f : Nat → Option β} (h : Ev f r) : ∃ k, f k = some r := by obtain ⟨k, hk⟩ := h; exact ⟨k, hk k (Nat.le_refl _)⟩
/-- a test whose two ways meet -/
theorem Ev.ite {c : Prop} [Decidable c] {a b : Nat → Option β} (h1 : c → Ev a r) (h2 : ¬ c → Ev b r) : Ev (fun k => if c then a k else b k) r := by
  by_cases h : c
  · exact Ev.pos h (h1 h)
  · exact Ev.neg h (h2 h)
theorem Ev.uniq {f : Nat → Option β} {s : β} (h1 : Ev f r) (h2 : Ev f s) : r = s := by
  obtain ⟨a, ha⟩ := h1; obtain ⟨b, hb⟩ := h2
  have := (ha (max a b) (by omega)).symm.trans (hb (max a b) (by omega))
  exact Option.some.inj this
theorem Ev.of_pos {c : Prop} [Decidable c] {a b : Nat → Option β} (hc : c) (h : Ev (fun k => if c then a k else b k) r) : Ev a r := by
  obtain ⟨x, hx⟩ := h; exact ⟨x, fun k hk => (if_pos hc).symm.trans (hx k hk)⟩
theorem Ev.of_neg {c : Prop} [Decidable c] {a b : Nat → Option β} (hc : ¬ c) (h : Ev (fun k => if c then a k else b k) r) : Ev b r := by
  obtain ⟨x, hx⟩ := h; exact ⟨x, fun k hk => (if_neg hc).symm.trans (hx k hk)⟩
/-- a scan: rounds go on while p does not hold -/
theorem scan {n : Nat} {p : Nat → Prop} {L : Nat → Int → Option β} (step : ∀ i : Nat, i < n → ¬ p i → ∀ r, Ev (fun k => L k ((i + 1 : Nat) : Int)) r → Ev (fun k => L k (i : Int)) r) :
    ∀ (d i : Nat), i + d ≤ n → (∀ j, i ≤ j → j < i + d → ¬ p j) → ∀ r, Ev (fun k => L k ((i + d : Nat) : Int)) r → Ev (fun k => L k (i : Int)) r
  | 0, i, _, _, r, h => h
  | d + 1, i, h1, h2, r, h => step i (by omega) (h2 i (Nat.le_refl _) (by omega)) r (scan step d (i + 1) (by omega) (fun j hj hj2 => h2 j (by omega) (by omega)) r (by rw [show i + 1 + d = i + (d + 1) by omega]; exact h))
theorem scan_all {n : Nat} {p : Nat → Prop} {L : Nat → Int → Option β} (step : ∀ i : Nat, i < n → ¬ p i → ∀ r, Ev (fun k => L k ((i + 1 : Nat) : Int)) r → Ev (fun k => L k (i : Int)) r)
    (h : ∀ j, j < n → ¬ p j) {r : β} (hr : Ev (fun k => L k (n : Int)) r) : Ev (fun k => L k 0) r := by
  have := scan step n 0 (by omega) (fun j _ hj => h j (by omega)) r (by rw [Nat.zero_add]; exact hr)
  exact this
theorem first {p : Nat → Prop} {n : Nat} (h : ∃ i, i < n ∧ p i) : ∃ i, i < n ∧ p i ∧ ∀ j, j < i → ¬ p j := by
  obtain ⟨i, hi, hp⟩ := h
  induction i using Nat.strongRecOn with
  | _ i ih =>
    by_cases q : ∃ j, j < i ∧ p j
    · obtain ⟨j, hj, hpj⟩ := q; exact ih j hj (by omega) hpj
    · exact ⟨i, hi, hp, fun j hj hpj => q ⟨j, hj, hpj⟩⟩
theorem scan_hit {n : Nat} {p : Nat → Prop} {L : Nat → Int → Option β} (step : ∀ i : Nat, i < n → ¬ p i → ∀ r, Ev (fun k => L k ((i + 1 : Nat) : Int)) r → Ev (fun k => L k (i : Int)) r)
    (hex : ∃ i, i < n ∧ p i) {r : β} (hit : ∀ i : Nat, i < n → p i → (∀ j, j < i → ¬ p j) → Ev (fun k => L k (i : Int)) r) : Ev (fun k => L k 0) r := by
  obtain ⟨i, hi, hp, hf⟩ := first hex
  have := scan step i 0 (by omega) (fun j _ hj => hf j (by omega)) r (by rw [Nat.zero_add]; exact hit i hi hp hf)
  exact this
end

theorem W_succ {i : Nat} (h : i < 4611686018427387904) : IntKind.i64.wrap ((i : Int) + 1) = ((i + 1 : Nat) : Int) := by rw [W_eq (by omega) (by omega)]; omega
theorem W_pred {i : Nat} (h : i < 4611686018427387904) (h0 : 0 < i) : IntKind.i64.wrap ((i : Int) - 1) = ((i - 1 : Nat) : Int) := by rw [W_eq (by omega) (by omega)]; omega

section
variable {α : Type} (e : En α)
theorem rd_def (l : List α) (i : Nat) : rd e l (i : Int) = l.getD i e.z := rfl
theorem rd_zero (l : List α) : rd e l 0 = l.getD 0 e.z := rfl
end
theorem getD_get {α : Type} (l : List α) (i : Nat) (z : α) (h : i < l.length) : l.getD i z = l[i] := by simp [List.getD, List.getElem?_eq_getElem h]
theorem getD_mem {α : Type} (l : List α) (i : Nat) (z : α) (h : i < l.length) : l.getD i z ∈ l := by rw [getD_get l i z h]; exact List.getElem_mem _
theorem getD_set {α : Type} (l : List α) (i j : Nat) (x z : α) : (l.set i x).getD j z = if i = j ∧ i < l.length then x else l.getD j z := by
  simp only [List.getD, List.getElem?_set]
  by_cases h1 : i = j
  · subst h1
    by_cases h2 : i < l.length
    · simp [h2]
    · simp [h2]
  · simp [h1]
theorem getD_take {α : Type} (l : List α) (n j : Nat) (z : α) (h : j < n) : (l.take n).getD j z = l.getD j z := by
  simp [List.getD, List.getElem?_take, h]
theorem getD_append_left {α : Type} (l m : List α) (j : Nat) (z : α) (h : j < l.length) : (l ++ m).getD j z = l.getD j z := by
  simp [List.getD, List.getElem?_append_left h]
theorem mem_getD {α : Type} {l : List α} {x : α} (z : α) (h : x ∈ l) : ∃ i, i < l.length ∧ l.getD i z = x := by
  obtain ⟨i, hi, rfl⟩ := List.getElem_of_mem h
  exact ⟨i, hi, getD_get l i z hi⟩
theorem ext_getD {α : Type} {l m : List α} (z : α) (hl : l.length = m.length) (h : ∀ i, i < l.length → l.getD i z = m.getD i z) : l = m := by
  refine List.ext_getElem hl fun i h1 h2 => ?_
  have := h i h1
  rwa [getD_get l i z h1, getD_get m i z h2] at this

/-! ### maps -/
theorem mfind_shift {β : Type} (p : Int) : ∀ (m : List (Int × β)) (i : Nat), mfind m p i = (mfind m p 0).map fun x => (x.1 + i, x.2) := by
  intro m
  induction m with
  | nil => intro i; rfl
  | cons a m ih =>
    intro i
    obtain ⟨q, y⟩ := a
    simp only [mfind]
    split
    · simp
    · rw [ih (i + 1), ih (0 + 1)]
      cases mfind m p 0 with
      | none => rfl
      | some x => simp; omega
def mval {β : Type} (m : List (Int × β)) (p : Int) : Option β := (mfind m p 0).map (·.2)
theorem mget_val {β : Type} (m : List (Int × β)) (p : Int) (z : β) : mget m p z = (mval m p).getD z := by
  unfold mget mval; cases mfind m p 0 <;> rfl
theorem mval_nil {β : Type} (p : Int) : mval ([] : List (Int × β)) p = none := rfl
theorem mval_cons {β : Type} (q : Int) (y : β) (m : List (Int × β)) (p : Int) : mval ((q, y) :: m) p = if p = q then some y else mval m p := by
  unfold mval
  simp only [mfind]
  split
  · rfl
  · rw [mfind_shift]
    cases mfind m p 0 <;> rfl
theorem mval_mput {β : Type} (p : Int) (v : β) (q : Int) : ∀ (m : List (Int × β)), mval (mput m p v) q = if p = q then some v else mval m q := by
  intro m
  induction m with
  | nil =>
    rw [mput, mval_cons]
    by_cases h : p = q
    · rw [if_pos h, if_pos h.symm]
    · rw [if_neg h, if_neg (Ne.symm h)]
  | cons a m ih =>
    obtain ⟨b, u⟩ := a
    rw [mput]
    by_cases hb : p = b
    · subst hb
      rw [if_pos rfl, mval_cons, mval_cons]
      by_cases h : p = q
      · rw [if_pos h, if_pos h.symm]
      · rw [if_neg h, if_neg (Ne.symm h), if_neg (Ne.symm h)]
    · rw [if_neg hb, mval_cons, mval_cons, ih]
      by_cases h1 : q = b
      · subst h1; rw [if_pos rfl, if_neg hb, if_pos rfl]
      · rw [if_neg h1, if_neg h1]
theorem mget_mput {β : Type} (m : List (Int × β)) (p : Int) (v : β) (q : Int) (z : β) : mget (mput m p v) q z = if p = q then v else mget m q z := by
  rw [mget_val, mget_val, mval_mput]; split <;> rfl
end Go.Proofs.Ytmdpjijafejgpaa.Sl

/- Hashes: the program's and the page's are one. -/
set_option linter.unusedVariables false
set_option linter.unusedSimpArgs false
namespace Go.Proofs.Ytmdpjijafejgpaa.M
open Go Go.Proofs.Ytmdpjijafejgpaa.Sl

theorem U_mod (x : Int) : IntKind.u64.wrap x = x % 18446744073709551616 := IntKind.wrap_u64 x
theorem shr_nat (b i : Nat) (hi : i ≤ 64) : sh_shr .u64 (b : Int) (i : Int) = ((b / 2 ^ i : Nat) : Int) := by
  unfold sh_shr
  have e : min (Int.toNat (i : Int)) (IntKind.u64.bits) = i := by
    rw [Int.toNat_natCast, show IntKind.u64.bits = 64 from rfl]; omega
  rw [e, Int.fdiv_eq_ediv_of_nonneg _ (Int.le_of_lt (Int.pow_pos (by decide)))]
  simp
theorem shl_nat (a : Int) (i : Nat) (hi : i ≤ 64) : sh_shl .u64 a (i : Int) = IntKind.u64.wrap (a * 2 ^ i) := by
  unfold sh_shl
  have e : min (Int.toNat (i : Int)) (IntKind.u64.bits) = i := by
    rw [Int.toNat_natCast, show IntKind.u64.bits = 64 from rfl]; omega
  rw [e]
theorem and_one (m : Nat) (hm : m < 18446744073709551616) : bt_and .u64 (m : Int) 1 = ((m % 2 : Nat) : Int) := by
  unfold bt_and
  rw [U_mod]
  have h : (BitVec.ofInt IntKind.u64.bits (m : Int) &&& BitVec.ofInt IntKind.u64.bits 1).toNat = m % 2 := by
    rw [BitVec.toNat_and, BitVec.toNat_ofInt, BitVec.toNat_ofInt]
    have h1 : ((m : Int) % ((2 ^ IntKind.u64.bits : Nat) : Int)).toNat = m := by
      rw [show (2 ^ IntKind.u64.bits : Nat) = 18446744073709551616 from rfl]; omega
    have h2 : ((1 : Int) % ((2 ^ IntKind.u64.bits : Nat) : Int)).toNat = 1 := by
      rw [show (2 ^ IntKind.u64.bits : Nat) = 18446744073709551616 from rfl]; omega
    rw [h1, h2, Nat.and_one_is_mod]
  rw [h]
  omega
theorem times_l0 (a : Int) (b : Nat) (hb : b < 18446744073709551616) : ∀ (d i : Nat) (acc : Int), i + d = 64 → acc = IntKind.u64.wrap (a * ((b % 2 ^ i : Nat) : Int)) → Ev (fun k => waybillref10_times.l0 k a b acc i) (IntKind.u64.wrap (a * (b : Int)))
  | 0, i, acc, h1, h2 => by
    have : i = 64 := by omega
    subst this
    refine Ev.succ ?_
    simp only [waybillref10_times.l0]
    rw [Nat.mod_eq_of_lt (by omega)] at h2
    rw [← h2]
    exact Ev.neg (by omega) Ev.ret
  | d + 1, i, acc, h1, h2 => by
    refine Ev.succ ?_
    simp only [waybillref10_times.l0]
    refine Ev.pos (by omega) (Ev.neg (by omega) ?_)
    rw [shr_nat b i (by omega), and_one _ (Nat.lt_of_le_of_lt (Nat.div_le_self _ _) hb), shl_nat a i (by omega), W_succ (by omega)]
    have hpow : b % 2 ^ (i + 1) = b % 2 ^ i + 2 ^ i * (b / 2 ^ i % 2) := by rw [Nat.pow_succ, Nat.mod_mul]
    refine Ev.bind (x := IntKind.u64.wrap (a * ((b % 2 ^ (i + 1) : Nat) : Int))) ?_ (times_l0 a b hb d (i + 1) _ (by omega) rfl)
    rcases Nat.mod_two_eq_zero_or_one (b / 2 ^ i) with h | h
    · rw [hpow, h]
      refine Ev.neg (by omega) ?_
      rw [h2, Nat.mul_zero, Nat.add_zero]; exact Ev.ret
    · rw [hpow, h]
      refine Ev.pos (by omega) ?_
      have e : IntKind.u64.wrap (acc + IntKind.u64.wrap (a * 2 ^ i)) = IntKind.u64.wrap (a * ((b % 2 ^ i + 2 ^ i * 1 : Nat) : Int)) := by
        rw [h2, U_mod, U_mod, U_mod, U_mod, ← Int.add_emod, Nat.mul_one, Int.natCast_add, Int.mul_add]
        congr 2
      rw [e]; exact Ev.ret
theorem times_ok (a : Int) (b : Nat) (hb : b < 18446744073709551616) : Ev (fun k => waybillref10_times.f k a b) (IntKind.u64.wrap (a * (b : Int))) := by
  simp only [waybillref10_times.f]
  refine Ev.bind (times_l0 a b hb 64 0 0 rfl ?_) Ev.ret
  rw [Nat.pow_zero, Nat.mod_one, U_mod]; simp
def fold (x : Int) : Int := bt_xor .u64 x (sh_shr .u64 x 33)
def mix (x : Int) : Int := fold (IntKind.u64.wrap (fold (IntKind.u64.wrap (fold x * 18397679294719823053)) * 14181476777654086739))
theorem pmix_ok (x : Int) : hash_Mix.f x = some (mix x) := by
  simp only [hash_Mix.f, hash_fold.f, Option.bind_some]; rfl
theorem rmix_ok (x : Int) : Ev (fun k => waybillref10_Mix.f k x) (mix x) := by
  simp only [waybillref10_Mix.f]
  refine Ev.bind (times_ok (fold x) 18397679294719823053 (by decide)) ?_
  refine Ev.bind (times_ok (fold _) 14181476777654086739 (by decide)) ?_
  exact Ev.ret
def hs (seed : Int) (l : List Int) : Int := l.foldl (fun z x => mix (IntKind.u64.wrap (z + IntKind.u64.wrap x))) seed
theorem pints_l0 (l : List Int) (hl : l.length < 4611686018427387904) : ∀ (d i : Nat) (z : Int), i + d = l.length → Ev (fun k => hash_Ints.l0 k l z i) (hs z (l.drop i))
  | 0, i, z, h => by
    rw [List.drop_of_length_le (by omega)]
    refine Ev.succ ?_
    simp only [hash_Ints.l0]
    exact Ev.neg (by omega) Ev.ret
  | d + 1, i, z, h => by
    rw [List.drop_eq_getElem_cons (show i < l.length by omega)]
    refine Ev.succ ?_
    simp only [hash_Ints.l0, pmix_ok, Option.bind_some]
    refine Ev.pos (by omega) (Ev.pos (by omega) ?_)
    rw [W_succ (by omega), rd_nat _ _ _ (by omega)]
    exact pints_l0 l hl d (i + 1) _ (by omega)
theorem pints_ok (seed : Int) (l : List Int) (hl : l.length < 4611686018427387904) : Ev (fun k => hash_Ints.f k seed l) (hs seed l) := by
  simp only [hash_Ints.f]
  exact Ev.bind (pints_l0 l hl l.length 0 seed (Nat.zero_add _)) Ev.ret
theorem rints_l0 (l : List Int) (hl : l.length < 4611686018427387904) : ∀ (d i : Nat) (z : Int), i + d = l.length → Ev (fun k => waybillref10_Ints.l0 k l z i) (hs z (l.drop i))
  | 0, i, z, h => by
    rw [List.drop_of_length_le (by omega)]
    refine Ev.succ ?_
    simp only [waybillref10_Ints.l0]
    exact Ev.neg (by omega) Ev.ret
  | d + 1, i, z, h => by
    rw [List.drop_eq_getElem_cons (show i < l.length by omega)]
    refine Ev.succ ?_
    simp only [waybillref10_Ints.l0]
    refine Ev.pos (by omega) (Ev.pos (by omega) (Ev.bind (rmix_ok _) ?_))
    rw [W_succ (by omega), rd_nat _ _ _ (by omega)]
    exact rints_l0 l hl d (i + 1) _ (by omega)
theorem rints_ok (seed : Int) (l : List Int) (hl : l.length < 4611686018427387904) : Ev (fun k => waybillref10_Ints.f k seed l) (hs seed l) := by
  simp only [waybillref10_Ints.f]
  exact Ev.bind (rints_l0 l hl l.length 0 seed (Nat.zero_add _)) Ev.ret
end Go.Proofs.Ytmdpjijafejgpaa.M

/- waybill/waybillref12.Check: a plain function, and that the machine's call comes to it: printed by a program of the session's own. -/
set_option linter.unusedVariables false
set_option linter.unusedSimpArgs false
namespace Go.Proofs.Ytmdpjijafejgpaa.M
open Go Go.Proofs.Ytmdpjijafejgpaa.Sl
/-! ### waybill/waybillref12.Check: function 21 -/
def waybillref12_Check.l1 : Nat → (List api_Backend) → Int → Option (Sum (Int) (Unit))
  | 0, _, _ => none
  | k + 1, x_l, z12x => if z12x < (x_l.length : Int) then (if 0 ≤ z12x then (if 0 ≤ (IntKind.i64.wrap (z12x - 1)) then (if (IntKind.i64.wrap (z12x - 1)) < (x_l.length : Int) then (if ((rd e_api_Backend x_l z12x).ID) ≤ ((rd e_api_Backend x_l (IntKind.i64.wrap (z12x - 1))).ID) then (some (Sum.inl 6)) else (waybillref12_Check.l1 k x_l (IntKind.i64.wrap (z12x + 1)))) else (none)) else (none)) else (none)) else (some (Sum.inr (())))
def waybillref12_Check.l0 : Nat → (List api_Backend) → Int → Option (Int)
  | 0, _, _ => none
  | k + 1, x_l, z2x => if z2x < (x_l.length : Int) then (((if 0 ≤ z2x then (if ((rd e_api_Backend x_l z2x).ID) < 0 then (some true) else (if 2147483647 < ((rd e_api_Backend x_l z2x).ID) then (some true) else (if ((rd e_api_Backend x_l z2x).Weight) < 1 then (some true) else (some (decide (16 < ((rd e_api_Backend x_l z2x).Weight))))))) else (none)) : Option (Bool)).bind fun z4x => (if z4x = true then (some 4) else (waybillref12_Check.l0 k x_l (IntKind.i64.wrap (z2x + 1))))) else ((((waybillref12_Check.l1 k x_l 1)) : Option (Sum (Int) (Unit))).bind fun v_ => (match v_ with | (Sum.inl q_) => some q_ | (Sum.inr (_)) => some 0))
def waybillref12_Check.f (k : Nat) (x_l : List api_Backend) : Option (Int) := if 32 < (x_l.length : Int) then (some 3) else ((waybillref12_Check.l0 k x_l 0))
set_option maxRecDepth 100000 in
set_option maxHeartbeats 4000000 in
theorem waybillref12_Check.calls (k : Nat) (A0 : Option Addr) (n0 c0 : Nat) (x_l : List api_Backend) (W0 : World) (X : Heap) (HR0 : Rd e_api_Backend X A0 n0 c0 x_l) (Hq : HS W0 [isH X] W0) (r : Int) (H : waybillref12_Check.f k x_l = some r) :
    Calls Try.prog 21 #[.slice A0 n0 c0] W0 (fun e w => e = .returned (.int .i64 r) ∧ HS W0 [isH X] w) := by
  obtain rfl := HR0.1
  rw [waybillref12_Check.f] at H
  refine calls_in Try.func21 rfl rfl ?_
  intro a0 S0
  refine w_seq ?_
  refine w_region ?_
  refine r_pures [_] S0 rfl ?_
  clear S0; intro a0 S0
  refine wl_nil ?_
  refine nr_then ?_
  refine w_seq ?_
  refine w_seq ?_
  refine w_region ?_
  refine r_pures [_] S0 rfl ?_
  clear S0; intro a0 S0
  refine r_len S0 rfl sl22 rfl ?_
  clear S0; intro a0 S0
  refine r_pures [_] S0 rfl ?_
  clear S0; intro a0 S0
  refine wl_nil ?_
  refine nr_then ?_
  by_cases z1h : 32 < (x_l.length : Int)
  · replace H := (if_pos z1h).symm.trans H
    refine w_true S0 rfl (decide_eq_true z1h) ?_
    refine w_seq ?_
    refine w_region ?_
    refine r_pures [_] S0 rfl ?_
    clear S0; intro a0 S0
    refine wl_nil ?_
    refine nr_then ?_
    refine w_ret ?_
    refine ret_then ?_
    obtain rfl := Option.some.inj H
    refine ret1 S0 rfl rfl ?_
    exact ⟨rfl, Hq⟩
  · replace H := (if_neg z1h).symm.trans H
    refine w_false S0 rfl (decide_eq_false z1h) ?_
    refine w_skip ?_
    refine nr_then ?_
    refine w_seq ?_
    refine w_seq ?_
    refine w_region ?_
    refine r_pures [_] S0 rfl ?_
    clear S0; intro a0 S0
    refine wl_nil ?_
    refine nr_then ?_
    refine w_block ?_
    refine w_loop (fun kq a w => ∃ z2x, waybillref12_Check.l0 kq x_l z2x = some r ∧ Sl 62 [] [(0, .slice A0 x_l.length c0), (3, .int .i64 z2x)] a ∧ HS W0 [isH X] w) _ ⟨0, H, S0.sub ⟨rfl, rfl, trivial⟩, Hq⟩ ?_
    clear H Hq S0
    rintro k0 a w ⟨z2x, H, S0, Hq⟩
    cases k0 with
    | zero => simp [waybillref12_Check.l0] at H
    | succ k0 =>
      refine ⟨k0, rfl, ?_⟩
      rw [waybillref12_Check.l0] at H
      refine w_seq ?_
      refine w_seq ?_
      refine w_region ?_
      refine r_pures [_, _] S0 rfl ?_
      clear S0; intro a0 S0
      refine r_len S0 rfl sl22 rfl ?_
      clear S0; intro a0 S0
      refine r_pures [_] S0 rfl ?_
      clear S0; intro a0 S0
      refine wl_nil ?_
      refine nr_then ?_
      by_cases z3h : z2x < (x_l.length : Int)
      · replace H := (if_pos z3h).symm.trans H
        refine w_true S0 rfl (decide_eq_true z3h) ?_
        refine w_skip ?_
        refine nr_then ?_
        refine w_seq ?_
        refine w_block ?_
        refine w_seq ?_
        obtain ⟨z4x, H, HU1⟩ := Option.bind_eq_some_iff.mp H
        refine w_cutT (fun a w => Sl 62 [] [(0, .slice A0 x_l.length c0), (3, .int .i64 z2x), (43, .bool z4x)] a ∧ HS W0 [isH X] w) ?_ ?_
        · skip
          refine w_region ?_
          refine r_pures [_, _] S0 rfl ?_
          clear S0; intro a0 S0
          by_cases z5h : 0 ≤ z2x
          · replace H := (if_pos z5h).symm.trans H
            obtain ⟨z6b, z7o, rfl⟩ := (isH_rd [] Hq HR0).at (by omega)
            refine r_index S0 rfl rfl sl22 ti36 z5h z3h rfl ?_
            clear S0; intro a0 S0
            refine r_fieldAddr S0 rfl fo36x0 (z7o + Int.toNat z2x * 2 + 0) rfl rfl ?_
            clear S0; intro a0 S0
            refine r_elS S0 (isH_rd [] Hq HR0) z5h z3h rfl ti3 _ rfl rfl ?_
            clear S0; intro a0 S0
            refine r_pures [_, _] S0 rfl ?_
            clear S0; intro a0 S0
            by_cases z8h : ((rd e_api_Backend x_l z2x).ID) < 0
            · replace H := (if_pos z8h).symm.trans H
              refine r_off S0 rfl rfl rfl (decide_eq_true z8h) ?_ rfl
              clear S0; intro a0 S0
              refine r_off S0 rfl rfl rfl (decide_eq_true z8h) ?_ rfl
              clear S0; intro a0 S0
              refine r_off S0 rfl rfl rfl (decide_eq_true z8h) ?_ rfl
              clear S0; intro a0 S0
              refine r_off S0 rfl rfl rfl (decide_eq_true z8h) ?_ rfl
              clear S0; intro a0 S0
              refine r_off S0 rfl rfl rfl (decide_eq_true z8h) ?_ rfl
              clear S0; intro a0 S0
              refine r_off S0 rfl rfl rfl (decide_eq_true z8h) ?_ rfl
              clear S0; intro a0 S0
              refine r_pick S0 rfl (decide_eq_true z8h) _ rfl rfl ?_
              clear S0; intro a0 S0
              refine r_pures [_] S0 rfl ?_
              clear S0; intro a0 S0
              refine r_off S0 rfl rfl rfl rfl ?_ rfl
              clear S0; intro a0 S0
              refine r_off S0 rfl rfl rfl rfl ?_ rfl
              clear S0; intro a0 S0
              refine r_off S0 rfl rfl rfl rfl ?_ rfl
              clear S0; intro a0 S0
              refine r_off S0 rfl rfl rfl rfl ?_ rfl
              clear S0; intro a0 S0
              refine r_off S0 rfl rfl rfl rfl ?_ rfl
              clear S0; intro a0 S0
              refine r_off S0 rfl rfl rfl rfl ?_ rfl
              clear S0; intro a0 S0
              refine r_pick S0 rfl rfl _ rfl rfl ?_
              clear S0; intro a0 S0
              refine r_pures [_] S0 rfl ?_
              clear S0; intro a0 S0
              refine r_off S0 rfl rfl rfl rfl ?_ rfl
              clear S0; intro a0 S0
              refine r_off S0 rfl rfl rfl rfl ?_ rfl
              clear S0; intro a0 S0
              refine r_off S0 rfl rfl rfl rfl ?_ rfl
              clear S0; intro a0 S0
              refine r_off S0 rfl rfl rfl rfl ?_ rfl
              clear S0; intro a0 S0
              refine r_off S0 rfl rfl rfl rfl ?_ rfl
              clear S0; intro a0 S0
              refine r_off S0 rfl rfl rfl rfl ?_ rfl
              clear S0; intro a0 S0
              refine r_pick S0 rfl rfl _ rfl rfl ?_
              clear S0; intro a0 S0
              refine wl_nil ?_
              refine nr_then ?_
              obtain rfl := Option.some.inj H
              exact ⟨S0.sub ⟨rfl, rfl, rfl, trivial⟩, Hq⟩
            · replace H := (if_neg z8h).symm.trans H
              refine r_on S0 rfl rfl rfl (decide_eq_false z8h) ?_
              refine r_pures [_] S0 rfl ?_
              clear S0; intro a0 S0
              refine r_on S0 rfl rfl rfl (decide_eq_false z8h) ?_
              refine r_pures [_] S0 rfl ?_
              clear S0; intro a0 S0
              refine r_on S0 rfl rfl rfl (decide_eq_false z8h) ?_
              refine r_index S0 rfl rfl sl22 ti36 z5h z3h rfl ?_
              clear S0; intro a0 S0
              refine r_on S0 rfl rfl rfl (decide_eq_false z8h) ?_
              refine r_fieldAddr S0 rfl fo36x0 (z7o + Int.toNat z2x * 2 + 0) rfl rfl ?_
              clear S0; intro a0 S0
              refine r_on S0 rfl rfl rfl (decide_eq_false z8h) ?_
              refine r_elS S0 (isH_rd [] Hq HR0) z5h z3h rfl ti3 _ rfl rfl ?_
              clear S0; intro a0 S0
              refine r_on S0 rfl rfl rfl (decide_eq_false z8h) ?_
              refine r_pures [_] S0 rfl ?_
              clear S0; intro a0 S0
              refine r_pick S0 rfl (decide_eq_false z8h) _ rfl rfl ?_
              clear S0; intro a0 S0
              refine r_pures [_] S0 rfl ?_
              clear S0; intro a0 S0
              by_cases z9h : 2147483647 < ((rd e_api_Backend x_l z2x).ID)
              · replace H := (if_pos z9h).symm.trans H
                refine r_off S0 rfl rfl rfl (decide_eq_true z9h) ?_ rfl
                clear S0; intro a0 S0
                refine r_off S0 rfl rfl rfl (decide_eq_true z9h) ?_ rfl
                clear S0; intro a0 S0
                refine r_off S0 rfl rfl rfl (decide_eq_true z9h) ?_ rfl
                clear S0; intro a0 S0
                refine r_off S0 rfl rfl rfl (decide_eq_true z9h) ?_ rfl
                clear S0; intro a0 S0
                refine r_off S0 rfl rfl rfl (decide_eq_true z9h) ?_ rfl
                clear S0; intro a0 S0
                refine r_off S0 rfl rfl rfl (decide_eq_true z9h) ?_ rfl
                clear S0; intro a0 S0
                refine r_pick S0 rfl (decide_eq_true z9h) _ rfl rfl ?_
                clear S0; intro a0 S0
                refine r_pures [_] S0 rfl ?_
                clear S0; intro a0 S0
                refine r_off S0 rfl rfl rfl rfl ?_ rfl
                clear S0; intro a0 S0
                refine r_off S0 rfl rfl rfl rfl ?_ rfl
                clear S0; intro a0 S0
                refine r_off S0 rfl rfl rfl rfl ?_ rfl
                clear S0; intro a0 S0
                refine r_off S0 rfl rfl rfl rfl ?_ rfl
                clear S0; intro a0 S0
                refine r_off S0 rfl rfl rfl rfl ?_ rfl
                clear S0; intro a0 S0
                refine r_off S0 rfl rfl rfl rfl ?_ rfl
                clear S0; intro a0 S0
                refine r_pick S0 rfl rfl _ rfl rfl ?_
                clear S0; intro a0 S0
                refine wl_nil ?_
                refine nr_then ?_
                obtain rfl := Option.some.inj H
                exact ⟨S0.sub ⟨rfl, rfl, rfl, trivial⟩, Hq⟩
              · replace H := (if_neg z9h).symm.trans H
                refine r_on S0 rfl rfl rfl (decide_eq_false z9h) ?_
                refine r_pures [_] S0 rfl ?_
                clear S0; intro a0 S0
                refine r_on S0 rfl rfl rfl (decide_eq_false z9h) ?_
                refine r_pures [_] S0 rfl ?_
                clear S0; intro a0 S0
                refine r_on S0 rfl rfl rfl (decide_eq_false z9h) ?_
                refine r_index S0 rfl rfl sl22 ti36 z5h z3h rfl ?_
                clear S0; intro a0 S0
                refine r_on S0 rfl rfl rfl (decide_eq_false z9h) ?_
                refine r_fieldAddr S0 rfl fo36x1 (z7o + Int.toNat z2x * 2 + 1) rfl rfl ?_
                clear S0; intro a0 S0
                refine r_on S0 rfl rfl rfl (decide_eq_false z9h) ?_
                refine r_elS S0 (isH_rd [] Hq HR0) z5h z3h rfl ti3 _ rfl rfl ?_
                clear S0; intro a0 S0
                refine r_on S0 rfl rfl rfl (decide_eq_false z9h) ?_
                refine r_pures [_] S0 rfl ?_
                clear S0; intro a0 S0
                refine r_pick S0 rfl (decide_eq_false z9h) _ rfl rfl ?_
                clear S0; intro a0 S0
                refine r_pures [_] S0 rfl ?_
                clear S0; intro a0 S0
                by_cases z10h : ((rd e_api_Backend x_l z2x).Weight) < 1
                · replace H := (if_pos z10h).symm.trans H
                  refine r_off S0 rfl rfl rfl (decide_eq_true z10h) ?_ rfl
                  clear S0; intro a0 S0
                  refine r_off S0 rfl rfl rfl (decide_eq_true z10h) ?_ rfl
                  clear S0; intro a0 S0
                  refine r_off S0 rfl rfl rfl (decide_eq_true z10h) ?_ rfl
                  clear S0; intro a0 S0
                  refine r_off S0 rfl rfl rfl (decide_eq_true z10h) ?_ rfl
                  clear S0; intro a0 S0
                  refine r_off S0 rfl rfl rfl (decide_eq_true z10h) ?_ rfl
                  clear S0; intro a0 S0
                  refine r_off S0 rfl rfl rfl (decide_eq_true z10h) ?_ rfl
                  clear S0; intro a0 S0
                  refine r_pick S0 rfl (decide_eq_true z10h) _ rfl rfl ?_
                  clear S0; intro a0 S0
                  refine wl_nil ?_
                  refine nr_then ?_
                  obtain rfl := Option.some.inj H
                  exact ⟨S0.sub ⟨rfl, rfl, rfl, trivial⟩, Hq⟩
                · replace H := (if_neg z10h).symm.trans H
                  refine r_on S0 rfl rfl rfl (decide_eq_false z10h) ?_
                  refine r_pures [_] S0 rfl ?_
                  clear S0; intro a0 S0
                  refine r_on S0 rfl rfl rfl (decide_eq_false z10h) ?_
                  refine r_pures [_] S0 rfl ?_
                  clear S0; intro a0 S0
                  refine r_on S0 rfl rfl rfl (decide_eq_false z10h) ?_
                  refine r_index S0 rfl rfl sl22 ti36 z5h z3h rfl ?_
                  clear S0; intro a0 S0
                  refine r_on S0 rfl rfl rfl (decide_eq_false z10h) ?_
                  refine r_fieldAddr S0 rfl fo36x1 (z7o + Int.toNat z2x * 2 + 1) rfl rfl ?_
                  clear S0; intro a0 S0
                  refine r_on S0 rfl rfl rfl (decide_eq_false z10h) ?_
                  refine r_elS S0 (isH_rd [] Hq HR0) z5h z3h rfl ti3 _ rfl rfl ?_
                  clear S0; intro a0 S0
                  refine r_on S0 rfl rfl rfl (decide_eq_false z10h) ?_
                  refine r_pures [_] S0 rfl ?_
                  clear S0; intro a0 S0
                  refine r_pick S0 rfl (decide_eq_false z10h) _ rfl rfl ?_
                  clear S0; intro a0 S0
                  refine wl_nil ?_
                  refine nr_then ?_
                  obtain rfl := Option.some.inj H
                  exact ⟨S0.sub ⟨rfl, rfl, rfl, trivial⟩, Hq⟩
          · replace H := (if_neg z5h).symm.trans H
            exact nomatch H
        · clear S0; rintro a w ⟨S0, Hq⟩
          have H := HU1; clear HU1
          refine nr_then ?_
          by_cases z11h : z4x = true
          · replace H := (if_pos z11h).symm.trans H
            refine w_true S0 rfl z11h ?_
            refine w_seq ?_
            refine w_region ?_
            refine r_pures [_] S0 rfl ?_
            clear S0; intro a0 S0
            refine wl_nil ?_
            refine nr_then ?_
            refine w_ret ?_
            refine ret_in ?_
            refine ret_then ?_
            refine ret_then ?_
            refine ret_in ?_
            refine ret_then ?_
            obtain rfl := Option.some.inj H
            refine ret1 S0 rfl rfl ?_
            exact ⟨rfl, Hq⟩
          · replace H := (if_neg z11h).symm.trans H
            refine w_false S0 rfl (Bool.eq_false_iff.mpr z11h) ?_
            refine w_skip ?_
            refine nr_in ?_
            refine nr_then ?_
            refine w_region ?_
            refine r_pures [_, _, _] S0 rfl ?_
            clear S0; intro a0 S0
            refine wl_nil ?_
            refine nr_then ?_
            exact ⟨(IntKind.i64.wrap (z2x + 1)), H, S0.sub ⟨rfl, rfl, trivial⟩, Hq⟩
      · replace H := (if_neg z3h).symm.trans H
        refine w_false S0 rfl (decide_eq_false z3h) ?_
        refine w_exit ?_
        refine ex_then ?_
        refine ex_then ?_
        refine ex_in ?_
        refine nr_then ?_
        refine w_seq ?_
        refine w_seq ?_
        refine w_region ?_
        refine r_pures [_] S0 rfl ?_
        clear S0; intro a0 S0
        refine wl_nil ?_
        refine nr_then ?_
        obtain ⟨v2, H, HU2⟩ := Option.bind_eq_some_iff.mp H
        refine w_cutT (fun a w => v2 = (Sum.inr (())) ∧ Sl 62 [] [] a ∧ HS W0 [isH X] w) ?_ ?_
        · skip
          refine w_block ?_
          refine w_loop (fun kq a w => ∃ z12x, waybillref12_Check.l1 kq x_l z12x = some v2 ∧ Sl 62 [] [(0, .slice A0 x_l.length c0), (4, .int .i64 z12x)] a ∧ HS W0 [isH X] w) _ ⟨1, H, S0.sub ⟨rfl, rfl, trivial⟩, Hq⟩ ?_
          clear H Hq S0
          rintro k1 a w ⟨z12x, H, S0, Hq⟩
          cases k1 with
          | zero => simp [waybillref12_Check.l1] at H
          | succ k1 =>
            refine ⟨k1, rfl, ?_⟩
            rw [waybillref12_Check.l1] at H
            refine w_seq ?_
            refine w_seq ?_
            refine w_region ?_
            refine r_pures [_, _] S0 rfl ?_
            clear S0; intro a0 S0
            refine r_len S0 rfl sl22 rfl ?_
            clear S0; intro a0 S0
            refine r_pures [_] S0 rfl ?_
            clear S0; intro a0 S0
            refine wl_nil ?_
            refine nr_then ?_
            by_cases z13h : z12x < (x_l.length : Int)
            · replace H := (if_pos z13h).symm.trans H
              refine w_true S0 rfl (decide_eq_true z13h) ?_
              refine w_skip ?_
              refine nr_then ?_
              refine w_seq ?_
              refine w_block ?_
              refine w_seq ?_
              refine w_draw TryM.mixed (.pu 0 (.pu 1 (.pu 2 (.pu 3 (.pu 5 (.pu 6 (.pu 7 (.pu 8 (.pu 9 (.rd 4 (.rd 10 (.pu 11 .done)))))))))))) (by kernel_rfl) rfl ?_
              replace Hq := Hq.drew
              refine st_pures [0, 1] S0 rfl ?_
              intro az14q Sz14q
              by_cases z15h : 0 ≤ z12x
              · replace H := (if_pos z15h).symm.trans H
                obtain ⟨z16b, z17o, rfl⟩ := (isH_rd [] Hq HR0).at (by omega)
                refine st_pu Sz14q rfl (g_none rfl) rfl rfl (fun _ => y_index Sz14q rfl rfl sl22 ti36 z15h z13h) ?_
                intro az18q Sz18q
                refine st_pu Sz18q rfl (g_none rfl) rfl rfl (fun _ => y_fieldAddr Sz18q rfl fo36x0 (z17o + Int.toNat z12x * 2 + 0) rfl) ?_
                intro az19q Sz19q
                refine st_pures [5, 6, 7] Sz19q rfl ?_
                intro az20q Sz20q
                by_cases z21h : 0 ≤ (IntKind.i64.wrap (z12x - 1))
                · replace H := (if_pos z21h).symm.trans H
                  by_cases z22h : (IntKind.i64.wrap (z12x - 1)) < (x_l.length : Int)
                  · replace H := (if_pos z22h).symm.trans H
                    refine st_pu Sz20q rfl (g_none rfl) rfl rfl (fun _ => y_index Sz20q rfl rfl sl22 ti36 z21h z22h) ?_
                    intro az23q Sz23q
                    refine st_pu Sz23q rfl (g_none rfl) rfl rfl (fun _ => y_fieldAddr Sz23q rfl fo36x0 (z17o + Int.toNat (IntKind.i64.wrap (z12x - 1)) * 2 + 0) rfl) ?_
                    intro az24q Sz24q
                    refine st_rd Sz24q rfl (g_none rfl) rfl rfl (y_elS Sz24q (isH_rd [] Hq HR0) z15h z13h rfl ti3 _ rfl) ?_
                    intro az25q Sz25q
                    refine st_rd Sz25q rfl (g_none rfl) rfl rfl (y_elS Sz25q (isH_rd [] Hq HR0) z21h z22h rfl ti3 _ rfl) ?_
                    intro az26q Sz26q
                    refine st_pures [11] Sz26q rfl ?_
                    intro az27q Sz27q
                    refine st_nil ?_
                    replace S0 := Sz27q
                    refine nr_then ?_
                    by_cases z28h : ((rd e_api_Backend x_l z12x).ID) ≤ ((rd e_api_Backend x_l (IntKind.i64.wrap (z12x - 1))).ID)
                    · replace H := (if_pos z28h).symm.trans H
                      refine w_true S0 rfl (decide_eq_true z28h) ?_
                      refine w_seq ?_
                      refine w_region ?_
                      refine r_pures [_] S0 rfl ?_
                      clear S0; intro a0 S0
                      refine wl_nil ?_
                      refine nr_then ?_
                      refine w_ret ?_
                      refine ret_in ?_
                      refine ret_then ?_
                      refine ret_then ?_
                      refine ret_in ?_
                      refine ret_then ?_
                      obtain rfl := Option.some.inj H
                      have H := HU2; clear HU2; dsimp only at H
                      refine ret_then ?_
                      obtain rfl := Option.some.inj H
                      refine ret1 S0 rfl rfl ?_
                      exact ⟨rfl, Hq⟩
                    · replace H := (if_neg z28h).symm.trans H
                      refine w_false S0 rfl (decide_eq_false z28h) ?_
                      refine w_skip ?_
                      refine nr_in ?_
                      refine nr_then ?_
                      refine w_region ?_
                      refine r_pures [_, _, _] S0 rfl ?_
                      clear S0; intro a0 S0
                      refine wl_nil ?_
                      refine nr_then ?_
                      exact ⟨(IntKind.i64.wrap (z12x + 1)), H, S0.sub ⟨rfl, rfl, trivial⟩, Hq⟩
                  · replace H := (if_neg z22h).symm.trans H
                    exact nomatch H
                · replace H := (if_neg z21h).symm.trans H
                  exact nomatch H
              · replace H := (if_neg z15h).symm.trans H
                exact nomatch H
            · replace H := (if_neg z13h).symm.trans H
              refine w_false S0 rfl (decide_eq_false z13h) ?_
              refine w_exit ?_
              refine ex_then ?_
              refine ex_then ?_
              refine ex_in ?_
              refine nr_then ?_
              obtain rfl := Option.some.inj H
              exact ⟨rfl, S0.sub trivial, Hq⟩
        · clear S0; rintro a w ⟨rfl, S0, Hq⟩
          have H := HU2; clear HU2; dsimp only at H
          refine nr_then ?_
          refine w_seq ?_
          refine w_region ?_
          refine r_pures [_] S0 rfl ?_
          clear S0; intro a0 S0
          refine wl_nil ?_
          refine nr_then ?_
          refine w_ret ?_
          obtain rfl := Option.some.inj H
          refine ret1 S0 rfl rfl ?_
          exact ⟨rfl, Hq⟩

end Go.Proofs.Ytmdpjijafejgpaa.M

/- waybill/waybillref12.behind: a plain function, and that the machine's call comes to it: printed by a program of the session's own. -/
set_option linter.unusedVariables false
set_option linter.unusedSimpArgs false
namespace Go.Proofs.Ytmdpjijafejgpaa.M
open Go Go.Proofs.Ytmdpjijafejgpaa.Sl
/-! ### waybill/waybillref12.behind: function 32 -/
def waybillref12_behind.f (x_a : api_Point) (x_b : api_Point) : Option (Bool) := ((if x_b.Hash < x_a.Hash then (some true) else (if x_a.Hash = x_b.Hash then (some (decide (x_b.ID < x_a.ID))) else (some false))) : Option (Bool)).bind fun z3x => (some z3x)
set_option maxRecDepth 100000 in
set_option maxHeartbeats 4000000 in
theorem waybillref12_behind.calls (x_a : api_Point) (x_b : api_Point) (W0 : World) (X : Heap)  (Hq : HS W0 [isH X] W0) (r : Bool) (H : waybillref12_behind.f x_a x_b = some r) :
    Calls Try.prog 32 #[.agg #[.int .u64 x_a.Hash, .int .i64 x_a.ID], .agg #[.int .u64 x_b.Hash, .int .i64 x_b.ID]] W0 (fun e w => e = .returned (.bool r) ∧ HS W0 [isH X] w) := by
  rw [waybillref12_behind.f] at H
  refine calls_in Try.func32 rfl rfl ?_
  intro a0 S0
  refine w_seq ?_
  refine w_region ?_
  refine r_box (vs := [.int .u64 x_a.Hash, .int .i64 x_a.ID]) S0 Hq rfl rfl rfl ?_
  clear S0 Hq; intro z1b a0 w S0 Hq
  refine r_box (vs := [.int .u64 x_b.Hash, .int .i64 x_b.ID]) S0 Hq rfl rfl rfl ?_
  clear S0 Hq; intro z2b a0 w S0 Hq
  refine r_pures [_] S0 rfl ?_
  clear S0; intro a0 S0
  refine wl_nil ?_
  refine nr_then ?_
  refine w_seq ?_
  obtain ⟨z3x, H, HU1⟩ := Option.bind_eq_some_iff.mp H
  refine w_cutT (fun a w => Sl 24 [] [(4, .bool z3x)] a ∧ HS W0 [isH X] w) ?_ ?_
  · skip
    refine w_region ?_
    refine r_fieldAddr S0 rfl fo39x0 (0) rfl rfl ?_
    clear S0; intro a0 S0
    refine r_ldS [_] S0 Hq rfl ti23 _ rfl rfl ?_
    clear S0; intro a0 S0
    refine r_fieldAddr S0 rfl fo39x0 (0) rfl rfl ?_
    clear S0; intro a0 S0
    refine r_ldS [] S0 Hq rfl ti23 _ rfl rfl ?_
    clear S0; intro a0 S0
    refine r_pures [_, _] S0 rfl ?_
    clear S0; intro a0 S0
    by_cases z4h : x_b.Hash < x_a.Hash
    · replace H := (if_pos z4h).symm.trans H
      refine r_off S0 rfl rfl rfl (decide_eq_true z4h) ?_ rfl
      clear S0; intro a0 S0
      refine r_off S0 rfl rfl rfl (decide_eq_true z4h) ?_ rfl
      clear S0; intro a0 S0
      refine r_off S0 rfl rfl rfl (decide_eq_true z4h) ?_ rfl
      clear S0; intro a0 S0
      refine r_off S0 rfl rfl rfl (decide_eq_true z4h) ?_ rfl
      clear S0; intro a0 S0
      refine r_off S0 rfl rfl rfl (decide_eq_true z4h) ?_ rfl
      clear S0; intro a0 S0
      refine r_off S0 rfl rfl rfl (decide_eq_true z4h) ?_ rfl
      clear S0; intro a0 S0
      refine r_offU S0 rfl rfl rfl ?_ rfl
      clear S0; intro a0 S0
      refine r_offU S0 rfl rfl rfl ?_ rfl
      clear S0; intro a0 S0
      refine r_offU S0 rfl rfl rfl ?_ rfl
      clear S0; intro a0 S0
      refine r_offU S0 rfl rfl rfl ?_ rfl
      clear S0; intro a0 S0
      refine r_offU S0 rfl rfl rfl ?_ rfl
      clear S0; intro a0 S0
      refine r_off S0 rfl rfl rfl (decide_eq_true z4h) ?_ rfl
      clear S0; intro a0 S0
      refine r_pick S0 rfl (decide_eq_true z4h) _ rfl rfl ?_
      clear S0; intro a0 S0
      refine r_pures [_] S0 rfl ?_
      clear S0; intro a0 S0
      refine wl_nil ?_
      refine nr_then ?_
      replace Hq := HS.pull [_, _] Hq
      dsimp only [List.cons_append, List.nil_append] at Hq
      replace Hq := HS.keep [_] Hq
      obtain rfl := Option.some.inj H
      exact ⟨S0.sub ⟨rfl, trivial⟩, Hq⟩
    · replace H := (if_neg z4h).symm.trans H
      refine r_on S0 rfl rfl rfl (decide_eq_false z4h) ?_
      refine r_fieldAddr S0 rfl fo39x0 (0) rfl rfl ?_
      clear S0; intro a0 S0
      refine r_on S0 rfl rfl rfl (decide_eq_false z4h) ?_
      refine r_ldS [_] S0 Hq rfl ti23 _ rfl rfl ?_
      clear S0; intro a0 S0
      refine r_on S0 rfl rfl rfl (decide_eq_false z4h) ?_
      refine r_fieldAddr S0 rfl fo39x0 (0) rfl rfl ?_
      clear S0; intro a0 S0
      refine r_on S0 rfl rfl rfl (decide_eq_false z4h) ?_
      refine r_ldS [] S0 Hq rfl ti23 _ rfl rfl ?_
      clear S0; intro a0 S0
      refine r_on S0 rfl rfl rfl (decide_eq_false z4h) ?_
      refine r_pures [_] S0 rfl ?_
      clear S0; intro a0 S0
      refine r_on S0 rfl rfl rfl (decide_eq_false z4h) ?_
      refine r_pures [_] S0 rfl ?_
      clear S0; intro a0 S0
      by_cases z5h : x_a.Hash = x_b.Hash
      · replace H := (if_pos z5h).symm.trans H
        refine r_on S0 rfl rfl rfl (decide_eq_true z5h) ?_
        refine r_fieldAddr S0 rfl fo39x1 (1) rfl rfl ?_
        clear S0; intro a0 S0
        refine r_on S0 rfl rfl rfl (decide_eq_true z5h) ?_
        refine r_ldS [_] S0 Hq rfl ti3 _ rfl rfl ?_
        clear S0; intro a0 S0
        refine r_on S0 rfl rfl rfl (decide_eq_true z5h) ?_
        refine r_fieldAddr S0 rfl fo39x1 (1) rfl rfl ?_
        clear S0; intro a0 S0
        refine r_on S0 rfl rfl rfl (decide_eq_true z5h) ?_
        refine r_ldS [] S0 Hq rfl ti3 _ rfl rfl ?_
        clear S0; intro a0 S0
        refine r_on S0 rfl rfl rfl (decide_eq_true z5h) ?_
        refine r_pures [_] S0 rfl ?_
        clear S0; intro a0 S0
        refine r_on S0 rfl rfl rfl (decide_eq_false z4h) ?_
        refine r_pick S0 rfl (decide_eq_true z5h) _ rfl rfl ?_
        clear S0; intro a0 S0
        refine r_pick S0 rfl (decide_eq_false z4h) _ rfl rfl ?_
        clear S0; intro a0 S0
        refine r_pures [_] S0 rfl ?_
        clear S0; intro a0 S0
        refine wl_nil ?_
        refine nr_then ?_
        replace Hq := HS.pull [_, _] Hq
        dsimp only [List.cons_append, List.nil_append] at Hq
        replace Hq := HS.keep [_] Hq
        obtain rfl := Option.some.inj H
        exact ⟨S0.sub ⟨rfl, trivial⟩, Hq⟩
      · replace H := (if_neg z5h).symm.trans H
        refine r_off S0 rfl rfl rfl (decide_eq_false z5h) ?_ rfl
        clear S0; intro a0 S0
        refine r_off S0 rfl rfl rfl (decide_eq_false z5h) ?_ rfl
        clear S0; intro a0 S0
        refine r_off S0 rfl rfl rfl (decide_eq_false z5h) ?_ rfl
        clear S0; intro a0 S0
        refine r_off S0 rfl rfl rfl (decide_eq_false z5h) ?_ rfl
        clear S0; intro a0 S0
        refine r_off S0 rfl rfl rfl (decide_eq_false z5h) ?_ rfl
        clear S0; intro a0 S0
        refine r_on S0 rfl rfl rfl (decide_eq_false z4h) ?_
        refine r_pick S0 rfl (decide_eq_false z5h) _ rfl rfl ?_
        clear S0; intro a0 S0
        refine r_pick S0 rfl (decide_eq_false z4h) _ rfl rfl ?_
        clear S0; intro a0 S0
        refine r_pures [_] S0 rfl ?_
        clear S0; intro a0 S0
        refine wl_nil ?_
        refine nr_then ?_
        replace Hq := HS.pull [_, _] Hq
        dsimp only [List.cons_append, List.nil_append] at Hq
        replace Hq := HS.keep [_] Hq
        obtain rfl := Option.some.inj H
        exact ⟨S0.sub ⟨rfl, trivial⟩, Hq⟩
  · clear S0; rintro a w ⟨S0, Hq⟩
    have H := HU1; clear HU1
    refine nr_then ?_
    refine w_ret ?_
    obtain rfl := Option.some.inj H
    refine ret1 S0 rfl rfl ?_
    exact ⟨rfl, Hq⟩

end Go.Proofs.Ytmdpjijafejgpaa.M

/- waybill/waybillref12.Whole: a plain function, and that the machine's call comes to it: printed by a program of the session's own. -/
set_option linter.unusedVariables false
set_option linter.unusedSimpArgs false
namespace Go.Proofs.Ytmdpjijafejgpaa.M
open Go Go.Proofs.Ytmdpjijafejgpaa.Sl
/-! ### waybill/waybillref12.Whole: function 23 -/
def waybillref12_Whole.l0 : Nat → (List api_Point) → Int → Option (Int)
  | 0, _, _ => none
  | k + 1, x_r, z2x => if z2x < (x_r.length : Int) then (((if 0 ≤ z2x then (if ((rd e_api_Point x_r z2x).ID) < 0 then (some true) else (if 0 < z2x then (if 0 ≤ (IntKind.i64.wrap (z2x - 1)) then (if (IntKind.i64.wrap (z2x - 1)) < (x_r.length : Int) then ((waybillref12_behind.f (rd e_api_Point x_r (IntKind.i64.wrap (z2x - 1))) (rd e_api_Point x_r z2x)).bind fun z46t => (some z46t)) else (none)) else (none)) else (some false))) else (none)) : Option (Bool)).bind fun z4x => (if z4x = true then (some 9) else (waybillref12_Whole.l0 k x_r (IntKind.i64.wrap (z2x + 1))))) else (some 0)
def waybillref12_Whole.f (k : Nat) (x_r : List api_Point) : Option (Int) := if 1024 < (x_r.length : Int) then (some 3) else ((waybillref12_Whole.l0 k x_r 0))
set_option maxRecDepth 100000 in
set_option maxHeartbeats 4000000 in
theorem waybillref12_Whole.calls (k : Nat) (A0 : Option Addr) (n0 c0 : Nat) (x_r : List api_Point) (W0 : World) (X : Heap) (HR0 : Rd e_api_Point X A0 n0 c0 x_r) (Hq : HS W0 [isH X] W0) (r : Int) (H : waybillref12_Whole.f k x_r = some r) :
    Calls Try.prog 23 #[.slice A0 n0 c0] W0 (fun e w => e = .returned (.int .i64 r) ∧ HS W0 [isH X] w) := by
  obtain rfl := HR0.1
  rw [waybillref12_Whole.f] at H
  refine calls_in Try.func23 rfl rfl ?_
  intro a0 S0
  refine w_seq ?_
  refine w_region ?_
  refine r_pures [_] S0 rfl ?_
  clear S0; intro a0 S0
  refine wl_nil ?_
  refine nr_then ?_
  refine w_seq ?_
  refine w_seq ?_
  refine w_region ?_
  refine r_pures [_] S0 rfl ?_
  clear S0; intro a0 S0
  refine r_len S0 rfl sl25 rfl ?_
  clear S0; intro a0 S0
  refine r_pures [_] S0 rfl ?_
  clear S0; intro a0 S0
  refine wl_nil ?_
  refine nr_then ?_
  by_cases z1h : 1024 < (x_r.length : Int)
  · replace H := (if_pos z1h).symm.trans H
    refine w_true S0 rfl (decide_eq_true z1h) ?_
    refine w_seq ?_
    refine w_region ?_
    refine r_pures [_] S0 rfl ?_
    clear S0; intro a0 S0
    refine wl_nil ?_
    refine nr_then ?_
    refine w_ret ?_
    refine ret_then ?_
    obtain rfl := Option.some.inj H
    refine ret1 S0 rfl rfl ?_
    exact ⟨rfl, Hq⟩
  · replace H := (if_neg z1h).symm.trans H
    refine w_false S0 rfl (decide_eq_false z1h) ?_
    refine w_skip ?_
    refine nr_then ?_
    refine w_seq ?_
    refine w_seq ?_
    refine w_region ?_
    refine r_pures [_] S0 rfl ?_
    clear S0; intro a0 S0
    refine wl_nil ?_
    refine nr_then ?_
    refine w_block ?_
    refine w_loop (fun kq a w => ∃ z2x, waybillref12_Whole.l0 kq x_r z2x = some r ∧ Sl 35 [] [(0, .slice A0 x_r.length c0), (3, .int .i64 z2x)] a ∧ HS W0 [isH X] w) _ ⟨0, H, S0.sub ⟨rfl, rfl, trivial⟩, Hq⟩ ?_
    clear H Hq S0
    rintro k0 a w ⟨z2x, H, S0, Hq⟩
    cases k0 with
    | zero => simp [waybillref12_Whole.l0] at H
    | succ k0 =>
      refine ⟨k0, rfl, ?_⟩
      rw [waybillref12_Whole.l0] at H
      refine w_seq ?_
      refine w_seq ?_
      refine w_region ?_
      refine r_pures [_, _] S0 rfl ?_
      clear S0; intro a0 S0
      refine r_len S0 rfl sl25 rfl ?_
      clear S0; intro a0 S0
      refine r_pures [_] S0 rfl ?_
      clear S0; intro a0 S0
      refine wl_nil ?_
      refine nr_then ?_
      by_cases z3h : z2x < (x_r.length : Int)
      · replace H := (if_pos z3h).symm.trans H
        refine w_true S0 rfl (decide_eq_true z3h) ?_
        refine w_skip ?_
        refine nr_then ?_
        refine w_seq ?_
        refine w_block ?_
        refine w_seq ?_
        obtain ⟨z4x, H, HU1⟩ := Option.bind_eq_some_iff.mp H
        refine w_cutT (fun a w => Sl 35 [] [(0, .slice A0 x_r.length c0), (3, .int .i64 z2x), (34, .bool z4x)] a ∧ HS W0 [isH X] w) ?_ ?_
        · skip
          refine w_draw TryM.mixed (.pu 0 (.pu 1 (.pu 2 (.pu 3 (.rd 4 (.pu 5 (.pu 6 (.pu 7 (.pu 8 (.pu 9 (.pu 10 (.pu 11 (.pu 12 (.pu 13 (.pu 15 (.pu 16 (.pu 17 (.rd 14 (.rd 18 (.ef 19 (.pu 20 (.pu 21 .done)))))))))))))))))))))) (by kernel_rfl) rfl ?_
          replace Hq := Hq.drew
          refine st_pures [0, 1] S0 rfl ?_
          intro az5q Sz5q
          by_cases z6h : 0 ≤ z2x
          · replace H := (if_pos z6h).symm.trans H
            obtain ⟨z7b, z8o, rfl⟩ := (isH_rd [] Hq HR0).at (by omega)
            refine st_pu Sz5q rfl (g_none rfl) rfl rfl (fun _ => y_index Sz5q rfl rfl sl25 ti39 z6h z3h) ?_
            intro az9q Sz9q
            refine st_pu Sz9q rfl (g_none rfl) rfl rfl (fun _ => y_fieldAddr Sz9q rfl fo39x1 (z8o + Int.toNat z2x * 2 + 1) rfl) ?_
            intro az10q Sz10q
            refine st_rd Sz10q rfl (g_none rfl) rfl rfl (y_elS Sz10q (isH_rd [] Hq HR0) z6h z3h rfl ti3 _ rfl) ?_
            intro az11q Sz11q
            refine st_pures [5, 6] Sz11q rfl ?_
            intro az12q Sz12q
            by_cases z13h : ((rd e_api_Point x_r z2x).ID) < 0
            · replace H := (if_pos z13h).symm.trans H
              refine st_puOff Sz12q rfl (g_off Sz12q rfl rfl rfl rfl (decide_eq_true z13h)) rfl rfl ?_
              intro az14q Sz14q
              refine st_puOff Sz14q rfl (g_off Sz14q rfl rfl rfl rfl (decide_eq_true z13h)) rfl rfl ?_
              intro az15q Sz15q
              refine st_puOff Sz15q rfl (g_off Sz15q rfl rfl rfl rfl (decide_eq_true z13h)) rfl rfl ?_
              intro az16q Sz16q
              refine st_puOff Sz16q rfl (g_offU Sz16q rfl rfl rfl rfl) rfl rfl ?_
              intro az17q Sz17q
              refine st_puOff Sz17q rfl (g_offU Sz17q rfl rfl rfl rfl) rfl rfl ?_
              intro az18q Sz18q
              refine st_puOff Sz18q rfl (g_offU Sz18q rfl rfl rfl rfl) rfl rfl ?_
              intro az19q Sz19q
              refine st_puOff Sz19q rfl (g_offU Sz19q rfl rfl rfl rfl) rfl rfl ?_
              intro az20q Sz20q
              refine st_puOff Sz20q rfl (g_offU Sz20q rfl rfl rfl rfl) rfl rfl ?_
              intro az21q Sz21q
              refine st_puOff Sz21q rfl (g_offU Sz21q rfl rfl rfl rfl) rfl rfl ?_
              intro az22q Sz22q
              refine st_puOff Sz22q rfl (g_offU Sz22q rfl rfl rfl rfl) rfl rfl ?_
              intro az23q Sz23q
              refine st_rdOff Sz23q rfl (g_offU Sz23q rfl rfl rfl rfl) rfl rfl ?_
              intro az24q Sz24q
              refine st_rdOff Sz24q rfl (g_offU Sz24q rfl rfl rfl rfl) rfl rfl ?_
              intro az25q Sz25q
              refine st_ef rfl ?_
              refine r_offU Sz25q rfl rfl rfl ?_ rfl
              intro az26q Sz26q
              refine wl_nil ?_
              refine nr_then ?_
              refine ⟨⟨⟨⟨trivial, y_elS Sz10q (isH_rd [] Hq HR0) z6h z3h rfl ti3 _ rfl⟩, trivial⟩, trivial⟩, ?_⟩
              refine st_puOff Sz26q rfl (g_off Sz26q rfl rfl rfl rfl (decide_eq_true z13h)) rfl rfl ?_
              intro az27q Sz27q
              refine st_pu Sz27q rfl (g_none rfl) rfl rfl (fun _ => y_pick Sz27q rfl (decide_eq_true z13h) _ rfl) ?_
              intro az28q Sz28q
              refine st_nil ?_
              replace S0 := Sz28q
              refine nr_then ?_
              obtain rfl := Option.some.inj H
              exact ⟨S0.sub ⟨rfl, rfl, rfl, trivial⟩, Hq⟩
            · replace H := (if_neg z13h).symm.trans H
              refine st_pu Sz12q rfl (g_on Sz12q rfl rfl rfl rfl (decide_eq_false z13h)) rfl rfl (fun _ => y_of Sz12q _ rfl) ?_
              intro az29q Sz29q
              refine st_pu Sz29q rfl (g_on Sz29q rfl rfl rfl rfl (decide_eq_false z13h)) rfl rfl (fun _ => y_of Sz29q _ rfl) ?_
              intro az30q Sz30q
              refine st_pu Sz30q rfl (g_on Sz30q rfl rfl rfl rfl (decide_eq_false z13h)) rfl rfl (fun _ => y_of Sz30q _ rfl) ?_
              intro az31q Sz31q
              by_cases z32h : 0 < z2x
              · replace H := (if_pos z32h).symm.trans H
                refine st_pu Sz31q rfl (g_on Sz31q rfl rfl rfl rfl (decide_eq_true z32h)) rfl rfl (fun _ => y_of Sz31q _ rfl) ?_
                intro az33q Sz33q
                refine st_pu Sz33q rfl (g_on Sz33q rfl rfl rfl rfl (decide_eq_true z32h)) rfl rfl (fun _ => y_of Sz33q _ rfl) ?_
                intro az34q Sz34q
                refine st_pu Sz34q rfl (g_on Sz34q rfl rfl rfl rfl (decide_eq_true z32h)) rfl rfl (fun _ => y_of Sz34q _ rfl) ?_
                intro az35q Sz35q
                by_cases z36h : 0 ≤ (IntKind.i64.wrap (z2x - 1))
                · replace H := (if_pos z36h).symm.trans H
                  by_cases z37h : (IntKind.i64.wrap (z2x - 1)) < (x_r.length : Int)
                  · replace H := (if_pos z37h).symm.trans H
                    refine st_pu Sz35q rfl (g_on Sz35q rfl rfl rfl rfl (decide_eq_true z32h)) rfl rfl (fun _ => y_index Sz35q rfl rfl sl25 ti39 z36h z37h) ?_
                    intro az38q Sz38q
                    refine st_pu Sz38q rfl (g_on Sz38q rfl rfl rfl rfl (decide_eq_true z32h)) rfl rfl (fun _ => y_of Sz38q _ rfl) ?_
                    intro az39q Sz39q
                    refine st_pu Sz39q rfl (g_on Sz39q rfl rfl rfl rfl (decide_eq_true z32h)) rfl rfl (fun _ => y_of Sz39q _ rfl) ?_
                    intro az40q Sz40q
                    refine st_pu Sz40q rfl (g_on Sz40q rfl rfl rfl rfl (decide_eq_true z32h)) rfl rfl (fun _ => y_index Sz40q rfl rfl sl25 ti39 z6h z3h) ?_
                    intro az41q Sz41q
                    refine st_rd Sz41q rfl (g_on Sz41q rfl rfl rfl rfl (decide_eq_true z32h)) rfl rfl (y_elA (vs := [.int .u64 ((rd e_api_Point x_r (IntKind.i64.wrap (z2x - 1))).Hash), .int .i64 ((rd e_api_Point x_r (IntKind.i64.wrap (z2x - 1))).ID)]) Sz41q (isH_rd [] Hq HR0) z36h z37h rfl ti39 rfl rfl) ?_
                    intro az42q Sz42q
                    refine st_rd Sz42q rfl (g_on Sz42q rfl rfl rfl rfl (decide_eq_true z32h)) rfl rfl (y_elA (vs := [.int .u64 ((rd e_api_Point x_r z2x).Hash), .int .i64 ((rd e_api_Point x_r z2x).ID)]) Sz42q (isH_rd [] Hq HR0) z6h z3h rfl ti39 rfl rfl) ?_
                    intro az43q Sz43q
                    refine st_ef rfl ?_
                    refine r_on Sz43q rfl rfl rfl (decide_eq_true z32h) ?_
                    have Sz44q := Sz43q
                    obtain ⟨Xz45, HXz45, HPz45, HBz45⟩ := call_frame [] Hq
                    dsimp only [List.cons_append, List.nil_append] at HXz45 HBz45
                    obtain ⟨z46t, Hc, H⟩ := Option.bind_eq_some_iff.mp H
                    refine r_call Sz44q rfl rfl goes32 rfl ?_
                    refine (waybillref12_behind.calls (rd e_api_Point x_r (IntKind.i64.wrap (z2x - 1))) (rd e_api_Point x_r z2x) _ _  HXz45 z46t Hc).mono ?_
                    rintro e w ⟨rfl, Hq'⟩
                    have Hq : HS W0 [isH X] w := HBz45 [] _ Hq'
                    clear HXz45 HPz45 HBz45 Hq'
                    refine ⟨.bool z46t, rfl, ?_⟩; clear Sz44q; intro az43q Sz44q
                    refine wl_nil ?_
                    refine nr_then ?_
                    refine ⟨⟨⟨⟨trivial, y_elS Sz10q (isH_rd [] Hq HR0) z6h z3h rfl ti3 _ rfl⟩, y_elA (vs := [.int .u64 ((rd e_api_Point x_r (IntKind.i64.wrap (z2x - 1))).Hash), .int .i64 ((rd e_api_Point x_r (IntKind.i64.wrap (z2x - 1))).ID)]) Sz41q (isH_rd [] Hq HR0) z36h z37h rfl ti39 rfl rfl⟩, y_elA (vs := [.int .u64 ((rd e_api_Point x_r z2x).Hash), .int .i64 ((rd e_api_Point x_r z2x).ID)]) Sz42q (isH_rd [] Hq HR0) z6h z3h rfl ti39 rfl rfl⟩, ?_⟩
                    refine st_pu Sz44q rfl (g_on Sz44q rfl rfl rfl rfl (decide_eq_false z13h)) rfl rfl (fun _ => y_pick Sz44q rfl (decide_eq_true z32h) _ rfl) ?_
                    intro az47q Sz47q
                    refine st_pu Sz47q rfl (g_none rfl) rfl rfl (fun _ => y_pick Sz47q rfl (decide_eq_false z13h) _ rfl) ?_
                    intro az48q Sz48q
                    refine st_nil ?_
                    replace S0 := Sz48q
                    refine nr_then ?_
                    obtain rfl := Option.some.inj H
                    exact ⟨S0.sub ⟨rfl, rfl, rfl, trivial⟩, Hq⟩
                  · replace H := (if_neg z37h).symm.trans H
                    exact nomatch H
                · replace H := (if_neg z36h).symm.trans H
                  exact nomatch H
              · replace H := (if_neg z32h).symm.trans H
                refine st_puOff Sz31q rfl (g_off Sz31q rfl rfl rfl rfl (decide_eq_false z32h)) rfl rfl ?_
                intro az49q Sz49q
                refine st_puOff Sz49q rfl (g_off Sz49q rfl rfl rfl rfl (decide_eq_false z32h)) rfl rfl ?_
                intro az50q Sz50q
                refine st_puOff Sz50q rfl (g_off Sz50q rfl rfl rfl rfl (decide_eq_false z32h)) rfl rfl ?_
                intro az51q Sz51q
                refine st_puOff Sz51q rfl (g_off Sz51q rfl rfl rfl rfl (decide_eq_false z32h)) rfl rfl ?_
                intro az52q Sz52q
                refine st_puOff Sz52q rfl (g_off Sz52q rfl rfl rfl rfl (decide_eq_false z32h)) rfl rfl ?_
                intro az53q Sz53q
                refine st_puOff Sz53q rfl (g_off Sz53q rfl rfl rfl rfl (decide_eq_false z32h)) rfl rfl ?_
                intro az54q Sz54q
                refine st_puOff Sz54q rfl (g_off Sz54q rfl rfl rfl rfl (decide_eq_false z32h)) rfl rfl ?_
                intro az55q Sz55q
                refine st_rdOff Sz55q rfl (g_off Sz55q rfl rfl rfl rfl (decide_eq_false z32h)) rfl rfl ?_
                intro az56q Sz56q
                refine st_rdOff Sz56q rfl (g_off Sz56q rfl rfl rfl rfl (decide_eq_false z32h)) rfl rfl ?_
                intro az57q Sz57q
                refine st_ef rfl ?_
                refine r_off Sz57q rfl rfl rfl (decide_eq_false z32h) ?_ rfl
                intro az58q Sz58q
                refine wl_nil ?_
                refine nr_then ?_
                refine ⟨⟨⟨⟨trivial, y_elS Sz10q (isH_rd [] Hq HR0) z6h z3h rfl ti3 _ rfl⟩, trivial⟩, trivial⟩, ?_⟩
                refine st_pu Sz58q rfl (g_on Sz58q rfl rfl rfl rfl (decide_eq_false z13h)) rfl rfl (fun _ => y_pick Sz58q rfl (decide_eq_false z32h) _ rfl) ?_
                intro az59q Sz59q
                refine st_pu Sz59q rfl (g_none rfl) rfl rfl (fun _ => y_pick Sz59q rfl (decide_eq_false z13h) _ rfl) ?_
                intro az60q Sz60q
                refine st_nil ?_
                replace S0 := Sz60q
                refine nr_then ?_
                obtain rfl := Option.some.inj H
                exact ⟨S0.sub ⟨rfl, rfl, rfl, trivial⟩, Hq⟩
          · replace H := (if_neg z6h).symm.trans H
            exact nomatch H
        · clear S0; rintro a w ⟨S0, Hq⟩
          have H := HU1; clear HU1
          refine nr_then ?_
          by_cases z61h : z4x = true
          · replace H := (if_pos z61h).symm.trans H
            refine w_true S0 rfl z61h ?_
            refine w_seq ?_
            refine w_region ?_
            refine r_pures [_] S0 rfl ?_
            clear S0; intro a0 S0
            refine wl_nil ?_
            refine nr_then ?_
            refine w_ret ?_
            refine ret_in ?_
            refine ret_then ?_
            refine ret_then ?_
            refine ret_in ?_
            refine ret_then ?_
            obtain rfl := Option.some.inj H
            refine ret1 S0 rfl rfl ?_
            exact ⟨rfl, Hq⟩
          · replace H := (if_neg z61h).symm.trans H
            refine w_false S0 rfl (Bool.eq_false_iff.mpr z61h) ?_
            refine w_skip ?_
            refine nr_in ?_
            refine nr_then ?_
            refine w_region ?_
            refine r_pures [_, _, _] S0 rfl ?_
            clear S0; intro a0 S0
            refine wl_nil ?_
            refine nr_then ?_
            exact ⟨(IntKind.i64.wrap (z2x + 1)), H, S0.sub ⟨rfl, rfl, trivial⟩, Hq⟩
      · replace H := (if_neg z3h).symm.trans H
        refine w_false S0 rfl (decide_eq_false z3h) ?_
        refine w_exit ?_
        refine ex_then ?_
        refine ex_then ?_
        refine ex_in ?_
        refine nr_then ?_
        refine w_seq ?_
        refine w_region ?_
        refine r_pures [_] S0 rfl ?_
        clear S0; intro a0 S0
        refine wl_nil ?_
        refine nr_then ?_
        refine w_ret ?_
        obtain rfl := Option.some.inj H
        refine ret1 S0 rfl rfl ?_
        exact ⟨rfl, Hq⟩

end Go.Proofs.Ytmdpjijafejgpaa.M

/- Backends and points: which may be, a ring, where a hash begins: by the program and by the page. -/
set_option linter.unusedVariables false
set_option linter.unusedSimpArgs false
namespace Go.Proofs.Ytmdpjijafejgpaa.M
open Go Go.Proofs.Ytmdpjijafejgpaa.Sl

abbrev B := api_Backend
abbrev Pt := api_Point
def gb (l : List B) (i : Nat) : B := l.getD i api_Backend.zero
def gp (l : List Pt) (i : Nat) : Pt := l.getD i api_Point.zero
theorem gb_rd (l : List B) (i : Nat) : rd e_api_Backend l (i : Int) = gb l i := rfl
theorem gp_rd (l : List Pt) (i : Nat) : rd e_api_Point l (i : Int) = gp l i := rfl
def mayB (b : B) : Prop := 0 ≤ b.ID ∧ b.ID ≤ 2147483647 ∧ 1 ≤ b.Weight ∧ b.Weight ≤ 16
instance (a : B) : Decidable (mayB a) := inferInstanceAs (Decidable (_ ∧ _))
structure GoodB (l : List B) : Prop where
  len : l.length ≤ 32
  may : ∀ i, i < l.length → mayB (gb l i)
  up : ∀ i, i < l.length → 0 < i → ¬ (gb l i).ID ≤ (gb l (i - 1)).ID
theorem oddB_ok (b : B) : ring_Check_1.f b = some (decide (¬ mayB b)) := by
  unfold ring_Check_1.f mayB
  by_cases h1 : b.ID < 0 <;> by_cases h2 : 2147483647 < b.ID <;> by_cases h3 : b.Weight < 1 <;> simp only [h1, h2, h3, if_true, if_false, Option.bind_some, Option.some.injEq]
  all_goals first | (symm; rw [decide_eq_true_iff]; omega) | (rw [decide_eq_decide]; omega)
theorem checkB_ok (l : List B) : ∃ e, Ev (fun k => ring_Check.f k l) e ∧ Ev (fun k => waybillref12_Check.f k l) e ∧ (e = 0 ↔ GoodB l) := by
  by_cases hl : l.length ≤ 32
  · have P1 : ∀ {e : Int}, Ev (fun k => ring_Check.l0 k l 0) e → Ev (fun k => ring_Check.f k l) e := fun h => by
      simp only [ring_Check.f]; exact Ev.neg (by omega) h
    have P2 : ∀ {e : Int}, Ev (fun k => waybillref12_Check.l0 k l 0) e → Ev (fun k => waybillref12_Check.f k l) e := fun h => by
      simp only [waybillref12_Check.f]; exact Ev.neg (by omega) h
    have s1 : ∀ i : Nat, i < l.length → ¬ ¬ mayB (gb l i) → ∀ r, Ev (fun k => ring_Check.l0 k l ((i + 1 : Nat) : Int)) r → Ev (fun k => ring_Check.l0 k l (i : Int)) r := fun i hi hp r hr => by
      refine Ev.succ ?_
      simp only [ring_Check.l0, gb_rd, oddB_ok, Option.bind_some]
      refine Ev.pos (by omega) (Ev.pos (by omega) (Ev.dneg hp ?_))
      rw [W_succ (by omega)]; exact hr
    have hb : ∀ i : Nat, Ev (fun _ => if (gb l i).ID < 0 then (some true) else (if 2147483647 < (gb l i).ID then (some true) else (if (gb l i).Weight < 1 then (some true) else (some (decide (16 < (gb l i).Weight)))))) (decide (¬ mayB (gb l i))) := fun i => by
      have := oddB_ok (gb l i)
      unfold ring_Check_1.f at this
      simp only [Option.bind_some, Option.bind_eq_some_iff, Option.some.injEq] at this
      obtain ⟨a, h1, rfl⟩ := this
      exact Ev.of h1
    have s2 : ∀ i : Nat, i < l.length → ¬ ¬ mayB (gb l i) → ∀ r, Ev (fun k => waybillref12_Check.l0 k l ((i + 1 : Nat) : Int)) r → Ev (fun k => waybillref12_Check.l0 k l (i : Int)) r := fun i hi hp r hr => by
      refine Ev.succ ?_
      simp only [waybillref12_Check.l0, gb_rd]
      refine Ev.pos (by omega) (Ev.bind (Ev.pos (by omega) (hb i)) (Ev.dneg hp ?_))
      rw [W_succ (by omega)]; exact hr
    by_cases h1 : ∀ i, i < l.length → mayB (gb l i)
    · have t1 : ∀ i : Nat, i < l.length → ∀ r, Ev (fun k => if decide (0 < i ∧ (gb l i).ID ≤ (gb l (i - 1)).ID) = true then (some (Sum.inl 6)) else (ring_Check.l1 k l ((i + 1 : Nat) : Int))) r → Ev (fun k => ring_Check.l1 k l (i : Int)) r := fun i hi r hr => by
        refine Ev.succ ?_
        simp only [ring_Check.l1, gb_rd]
        refine Ev.pos (by omega) (Ev.bind (x := decide (0 < i ∧ (gb l i).ID ≤ (gb l (i - 1)).ID)) ?_ ?_)
        · by_cases h0 : 0 < i
          · rw [W_pred (by omega) h0]
            refine Ev.pos (by omega) (Ev.pos (by omega) (Ev.pos (by omega) (Ev.pos (by omega) ?_)))
            rw [gb_rd]
            exact Ev.of (congrArg some (decide_eq_decide.2 ⟨fun h => ⟨h0, h⟩, fun h => h.2⟩))
          · exact Ev.neg (by omega) (Ev.of (by simp [h0]))
        · rw [W_succ (by omega)]; exact hr
      have t2 : ∀ i : Nat, i < l.length → 0 < i → ∀ r, Ev (fun k => if (gb l i).ID ≤ (gb l (i - 1)).ID then (some (Sum.inl 6)) else (waybillref12_Check.l1 k l ((i + 1 : Nat) : Int))) r → Ev (fun k => waybillref12_Check.l1 k l (i : Int)) r := fun i hi h0 r hr => by
        refine Ev.succ ?_
        simp only [waybillref12_Check.l1, W_pred (show i < 4611686018427387904 by omega) h0, gb_rd]
        refine Ev.pos (by omega) (Ev.pos (by omega) (Ev.pos (by omega) (Ev.pos (by omega) ?_)))
        rw [W_succ (by omega)]; exact hr
      have c1 : ∀ {r : Int}, Ev (fun k => (ring_Check.l1 k l 0).bind fun v_ => (match v_ with | (Sum.inl q_) => some q_ | (Sum.inr (_)) => some 0)) r → Ev (fun k => ring_Check.f k l) r := fun h => P1 (scan_all (n := l.length) s1 (fun j hj q => q (h1 j hj)) (by
        refine Ev.succ ?_
        simp only [ring_Check.l0]
        exact Ev.neg (by omega) h))
      have c2 : ∀ {r : Int}, Ev (fun k => (waybillref12_Check.l1 k l 1).bind fun v_ => (match v_ with | (Sum.inl q_) => some q_ | (Sum.inr (_)) => some 0)) r → Ev (fun k => waybillref12_Check.f k l) r := fun h => P2 (scan_all (n := l.length) s2 (fun j hj q => q (h1 j hj)) (by
        refine Ev.succ ?_
        simp only [waybillref12_Check.l0]
        exact Ev.neg (by omega) h))
      by_cases h2 : ∀ i, i < l.length → 0 < i → ¬ (gb l i).ID ≤ (gb l (i - 1)).ID
      · refine ⟨0, c1 (Ev.bind (x := Sum.inr ()) ?_ Ev.ret), c2 (Ev.bind (x := Sum.inr ()) ?_ Ev.ret), fun _ => ⟨hl, h1, h2⟩, fun _ => rfl⟩
        · refine scan_all (n := l.length) (p := fun _ => False) (fun i hi _ r hr => t1 i hi r (Ev.dneg (fun h => h2 i hi h.1 h.2) hr)) (fun _ _ h => h) ?_
          refine Ev.succ ?_
          simp only [ring_Check.l1]
          exact Ev.neg (by omega) Ev.ret
        · have hend : ∀ i : Nat, l.length ≤ i → Ev (fun k => waybillref12_Check.l1 k l i) (Sum.inr ()) := fun i hi => by
            refine Ev.succ ?_
            simp only [waybillref12_Check.l1]
            exact Ev.neg (by omega) Ev.ret
          have : ∀ (d i : Nat), i + d = l.length → 0 < i → Ev (fun k => waybillref12_Check.l1 k l i) (Sum.inr ()) := by
            intro d
            induction d with
            | zero => intro i hi h0; exact hend i (by omega)
            | succ d ih => intro i hi h0; exact t2 i (by omega) h0 _ (Ev.neg (h2 i (by omega) h0) (ih (i + 1) (by omega) (by omega)))
          by_cases h0 : 0 < l.length
          · exact this (l.length - 1) 1 (by omega) (by omega)
          · exact hend 1 (by omega)
      · have hex : ∃ i, i < l.length ∧ (0 < i ∧ (gb l i).ID ≤ (gb l (i - 1)).ID) := by
          simp only [Classical.not_forall, Classical.not_not] at h2
          obtain ⟨i, hi, h0, hp⟩ := h2
          exact ⟨i, hi, h0, hp⟩
        refine ⟨6, c1 (Ev.bind (x := Sum.inl 6) ?_ Ev.ret), c2 (Ev.bind (x := Sum.inl 6) ?_ Ev.ret), fun h => absurd h (by decide), fun h => absurd h.up h2⟩
        · exact scan_hit (n := l.length) (p := fun i => 0 < i ∧ (gb l i).ID ≤ (gb l (i - 1)).ID) (fun i hi hp r hr => t1 i hi r (Ev.dneg hp hr)) hex (fun i hi hp _ => t1 i hi _ (Ev.dpos hp Ev.ret))
        · obtain ⟨i, hi, ⟨h0, hp⟩, hf⟩ := first hex
          have : ∀ (d j : Nat), j + d = i → 0 < j → Ev (fun k => waybillref12_Check.l1 k l j) (Sum.inl 6) := by
            intro d
            induction d with
            | zero =>
              intro j hj j0
              have : j = i := by omega
              subst this
              exact t2 j hi j0 _ (Ev.pos hp Ev.ret)
            | succ d ih => intro j hj j0; exact t2 j (by omega) j0 _ (Ev.neg (fun h => hf j (by omega) ⟨j0, h⟩) (ih (j + 1) (by omega) (by omega)))
          exact this (i - 1) 1 (by omega) (by omega)
    · have hex : ∃ i, i < l.length ∧ ¬ mayB (gb l i) := by
        simp only [Classical.not_forall] at h1
        obtain ⟨i, hi, hp⟩ := h1
        exact ⟨i, hi, hp⟩
      refine ⟨4, P1 (scan_hit (n := l.length) s1 hex fun i hi hp _ => ?_), P2 (scan_hit (n := l.length) s2 hex fun i hi hp _ => ?_), fun h => absurd h (by decide), fun h => absurd h.may h1⟩
      · refine Ev.succ ?_
        simp only [ring_Check.l0, gb_rd, oddB_ok, Option.bind_some]
        exact Ev.pos (by omega) (Ev.pos (by omega) (Ev.dpos hp Ev.ret))
      · refine Ev.succ ?_
        simp only [waybillref12_Check.l0, gb_rd]
        exact Ev.pos (by omega) (Ev.bind (Ev.pos (by omega) (hb i)) (Ev.dpos hp Ev.ret))
  · refine ⟨3, ?_, ?_, fun h => absurd h (by decide), fun h => absurd h.len hl⟩
    · simp only [ring_Check.f]; exact Ev.pos (by omega) Ev.ret
    · simp only [waybillref12_Check.f]; exact Ev.pos (by omega) Ev.ret

/-! ### points -/
def lt (a b : Pt) : Prop := a.Hash < b.Hash ∨ a.Hash = b.Hash ∧ a.ID < b.ID
instance (a b : Pt) : Decidable (lt a b) := inferInstanceAs (Decidable (_ ∨ _))
theorem lt_irrefl (a : Pt) : ¬ lt a a := by unfold lt; omega
theorem le_trans {a b c : Pt} (h1 : ¬ lt b a) (h2 : ¬ lt c b) : ¬ lt c a := by unfold lt at *; omega
theorem lt_le {a b : Pt} (h1 : lt a b) : ¬ lt b a := by unfold lt at *; omega
theorem le_antisymm {a b : Pt} (h1 : ¬ lt a b) (h2 : ¬ lt b a) : a = b := by
  unfold lt at *; cases a; cases b; simp only [api_Point.mk.injEq] at *; omega
theorem cmpU_ok (a b : Int) : cmp_Compare_uint64.f a b = some (if a < b then -1 else if b < a then 1 else 0) := by
  unfold cmp_Compare_uint64.f cmp_isNaN_uint64.f
  by_cases h1 : a < b <;> by_cases h2 : b < a <;> simp [h1, h2]
def cmp3 (a b : Pt) : Int := if a.Hash < b.Hash then -1 else if b.Hash < a.Hash then 1 else if a.ID < b.ID then -1 else if b.ID < a.ID then 1 else 0
theorem order_ok (k : Nat) (a b : Pt) : ring_order.f (k + 3) a b = some (cmp3 a b) := by
  unfold cmp3
  unfold ring_order.f cmp_Compare_int.f cmp_Compare_uint64.f cmp_isNaN_int.f cmp_isNaN_uint64.f cmp_Or_int.f
  split <;> (try split) <;> (try split) <;> (try split) <;> simp_all (config := { decide := true }) [cmp_Or_int.l0, rd, IntKind.wrap, IntKind.bits, IntKind.signed] <;> (try omega)
theorem cmp3_neg (a b : Pt) : cmp3 a b < 0 ↔ lt a b := by
  unfold cmp3 lt
  split <;> (try split) <;> (try split) <;> (try split) <;> omega
theorem behind_ok (a b : Pt) : waybillref12_behind.f a b = some (decide (lt b a)) := by
  unfold waybillref12_behind.f lt
  by_cases h1 : b.Hash < a.Hash <;> by_cases h2 : a.Hash = b.Hash <;> simp [h1, h2] <;> omega
structure GoodR (r : List Pt) : Prop where
  len : r.length ≤ 1024
  up : ∀ i, i < r.length → 0 < i → ¬ lt (gp r i) (gp r (i - 1))
  id : ∀ i, i < r.length → ¬ (gp r i).ID < 0
theorem whole_ok (r : List Pt) : ∃ e, Ev (fun k => ring_Whole.f k r) e ∧ Ev (fun k => waybillref12_Whole.f k r) e ∧ (e = 0 ↔ GoodR r) := by
  by_cases hl : r.length ≤ 1024
  · have a1 : ∀ i : Nat, i < r.length → 0 < i → ∀ b, Ev (fun k => if decide (lt (gp r i) (gp r (i - 1))) = true then (some true) else (ring_Whole.l0 k r ((i - 1 : Nat) : Int))) b → Ev (fun k => ring_Whole.l0 k r (i : Int)) b := fun i hi h0 b hb => by
      refine Ev.succ ?_
      simp only [ring_Whole.l0, W_pred (show i < 4611686018427387904 by omega) h0, gp_rd]
      refine Ev.pos (by omega) (Ev.pos (by omega) (Ev.pos (by omega) (Ev.pos (by omega) (Ev.pos (by omega) ?_))))
      refine Ev.bind (x := cmp3 (gp r i) (gp r (i - 1))) (Ev.add 3 fun k => order_ok k _ _) ?_
      by_cases c : lt (gp r i) (gp r (i - 1))
      · exact Ev.pos ((cmp3_neg _ _).2 c) (Ev.of_pos (decide_eq_true c) hb)
      · exact Ev.neg (fun h => c ((cmp3_neg _ _).1 h)) (Ev.of_neg (by simpa using c) hb)
    have st : ∀ i : Nat, i < r.length → ¬ (gp r i).ID < 0 → ∀ v, Ev (fun k => ring_Whole.l1 k r ((i + 1 : Nat) : Int)) v → Ev (fun k => ring_Whole.l1 k r (i : Int)) v := fun i hi hp v hr => by
      refine Ev.succ ?_
      simp only [ring_Whole.l1, ring_Whole_1.f, gp_rd, Option.bind_some]
      refine Ev.pos (by omega) (Ev.pos (by omega) (Ev.dneg hp ?_))
      rw [W_succ (by omega)]; exact hr
    have cont : Ev (fun k => (ring_Whole.l1 k r 0).bind fun v_ => (match v_ with | (Sum.inl z22x) => some (decide (0 ≤ z22x)) | (Sum.inr (_)) => some (decide ((0 : Int) ≤ (-1))))) (decide (∃ i, i < r.length ∧ (gp r i).ID < 0)) := by
      by_cases h : ∃ i, i < r.length ∧ (gp r i).ID < 0
      · obtain ⟨j, hj, hp, hf⟩ := first h
        have := scan (n := r.length) st j 0 (by omega) (fun q _ hq => hf q (by omega)) (Sum.inl (j : Int)) (by
          rw [Nat.zero_add]
          refine Ev.succ ?_
          simp only [ring_Whole.l1, ring_Whole_1.f, gp_rd, Option.bind_some]
          exact Ev.pos (by omega) (Ev.pos (by omega) (Ev.dpos hp Ev.ret)))
        refine Ev.bind this (Ev.of ?_)
        rw [Option.some.injEq, decide_eq_decide]
        exact ⟨fun _ => h, fun _ => by omega⟩
      · refine Ev.bind (x := Sum.inr ()) (scan_all (n := r.length) st (fun j hj hp => h ⟨j, hj, hp⟩) ?_) (Ev.of ?_)
        · refine Ev.succ ?_
          simp only [ring_Whole.l1]
          exact Ev.neg (by omega) Ev.ret
        · rw [Option.some.injEq, decide_eq_decide]
          exact ⟨fun h => absurd h (by decide), fun q => absurd q h⟩
    have low : ∀ z : Int, ¬ 0 < z → Ev (fun k => ring_Whole.l0 k r z) (decide (∃ i, i < r.length ∧ (gp r i).ID < 0)) := fun z hz => by
      refine Ev.succ ?_
      simp only [ring_Whole.l0]
      exact Ev.neg hz cont
    have down : (∀ i, i < r.length → 0 < i → ¬ lt (gp r i) (gp r (i - 1))) → ∀ i : Nat, i < r.length → Ev (fun k => ring_Whole.l0 k r (i : Int)) (decide (∃ i, i < r.length ∧ (gp r i).ID < 0)) := fun hs i => by
      induction i with
      | zero => intro _; exact low 0 (by omega)
      | succ i ih => intro hi; exact a1 (i + 1) hi (by omega) _ (Ev.dneg (hs (i + 1) hi (by omega)) (ih (by omega)))
    have bad : ∀ i : Nat, i < r.length → (∃ j, j ≤ i ∧ 0 < j ∧ lt (gp r j) (gp r (j - 1))) → Ev (fun k => ring_Whole.l0 k r (i : Int)) true := fun i => by
      induction i with
      | zero => rintro _ ⟨j, h1, h2, _⟩; omega
      | succ i ih =>
        rintro hi ⟨j, h1, h2, h3⟩
        refine a1 (i + 1) hi (by omega) _ ?_
        by_cases c : lt (gp r (i + 1)) (gp r (i + 1 - 1))
        · exact Ev.dpos c Ev.ret
        · refine Ev.dneg c (ih (by omega) ⟨j, ?_, h2, h3⟩)
          rcases Nat.lt_or_ge j (i + 1) with q | q
          · omega
          · have : j = i + 1 := by omega
            subst this; exact absurd h3 c
    have b1 : ∀ i : Nat, i < r.length → ∀ v, Ev (fun k => if decide ((gp r i).ID < 0 ∨ (0 < i ∧ lt (gp r i) (gp r (i - 1)))) = true then (some 9) else (waybillref12_Whole.l0 k r ((i + 1 : Nat) : Int))) v → Ev (fun k => waybillref12_Whole.l0 k r (i : Int)) v := fun i hi v hv => by
      refine Ev.succ ?_
      simp only [waybillref12_Whole.l0, gp_rd]
      refine Ev.pos (by omega) (Ev.bind (x := decide ((gp r i).ID < 0 ∨ (0 < i ∧ lt (gp r i) (gp r (i - 1))))) (Ev.pos (by omega) ?_) ?_)
      · by_cases c : (gp r i).ID < 0
        · exact Ev.pos c (Ev.of (by simp [c]))
        · refine Ev.neg c ?_
          by_cases h0 : 0 < i
          · rw [W_pred (show i < 4611686018427387904 by omega) h0]
            refine Ev.pos (by omega) (Ev.pos (by omega) (Ev.pos (by omega) ?_))
            rw [gp_rd, behind_ok]
            simp only [Option.bind_some]
            exact Ev.of (by simp [c, h0])
          · exact Ev.neg (by omega) (Ev.of (by simp [c, h0]))
      · rw [W_succ (by omega)]; exact hv
    by_cases hs : ∀ i, i < r.length → 0 < i → ¬ lt (gp r i) (gp r (i - 1))
    · by_cases ht : ∃ i, i < r.length ∧ (gp r i).ID < 0
      · refine ⟨9, ?_, ?_, fun h => absurd h (by decide), fun h => by obtain ⟨i, hi, q⟩ := ht; exact absurd q (h.id i hi)⟩
        · simp only [ring_Whole.f]
          refine Ev.neg (by omega) (Ev.bind (x := true) ?_ (Ev.pos rfl Ev.ret))
          obtain ⟨i0, hi0, _⟩ := id ht
          have := down hs (r.length - 1) (by omega)
          rw [decide_eq_true ht] at this
          rw [W_pred (by omega) (by omega)]; exact this
        · simp only [waybillref12_Whole.f]
          refine Ev.neg (by omega) (scan_hit (n := r.length) (p := fun i => (gp r i).ID < 0 ∨ (0 < i ∧ lt (gp r i) (gp r (i - 1)))) (fun i hi hp v hv => b1 i hi v (Ev.dneg hp hv)) ?_ (fun i hi hp _ => b1 i hi _ (Ev.dpos hp Ev.ret)))
          obtain ⟨i, hi, q⟩ := ht
          exact ⟨i, hi, .inl q⟩
      · refine ⟨0, ?_, ?_, fun _ => ⟨hl, hs, fun i hi q => ht ⟨i, hi, q⟩⟩, fun _ => rfl⟩
        · simp only [ring_Whole.f]
          refine Ev.neg (by omega) (Ev.bind (x := false) ?_ (Ev.neg (by simp) Ev.ret))
          by_cases h0 : 0 < r.length
          · have := down hs (r.length - 1) (by omega)
            rw [decide_eq_false ht] at this
            rw [W_pred (by omega) (by omega)]; exact this
          · have := low (IntKind.i64.wrap ((r.length : Int) - 1)) (by rw [W_eq (by omega) (by omega)]; omega)
            rwa [decide_eq_false ht] at this
        · simp only [waybillref12_Whole.f]
          refine Ev.neg (by omega) (scan_all (n := r.length) (p := fun i => (gp r i).ID < 0 ∨ (0 < i ∧ lt (gp r i) (gp r (i - 1)))) (fun i hi hp v hv => b1 i hi v (Ev.dneg hp hv)) (fun j hj q => ?_) ?_)
          · rcases q with q | q
            · exact absurd ⟨j, hj, q⟩ ht
            · exact hs j hj q.1 q.2
          · refine Ev.succ ?_
            simp only [waybillref12_Whole.l0]
            exact Ev.neg (by omega) Ev.ret
    · have hex : ∃ i, i < r.length ∧ 0 < i ∧ lt (gp r i) (gp r (i - 1)) := by
        simp only [Classical.not_forall, Classical.not_not] at hs
        obtain ⟨i, hi, h0, hp⟩ := hs
        exact ⟨i, hi, h0, hp⟩
      obtain ⟨i, hi, h0, hp⟩ := hex
      refine ⟨9, ?_, ?_, fun h => absurd h (by decide), fun h => absurd h.up hs⟩
      · simp only [ring_Whole.f]
        refine Ev.neg (by omega) (Ev.bind (x := true) ?_ (Ev.pos rfl Ev.ret))
        rw [W_pred (by omega) (by omega)]
        exact bad (r.length - 1) (by omega) ⟨i, by omega, h0, hp⟩
      · simp only [waybillref12_Whole.f]
        exact Ev.neg (by omega) (scan_hit (n := r.length) (p := fun i => (gp r i).ID < 0 ∨ (0 < i ∧ lt (gp r i) (gp r (i - 1)))) (fun i hi hp v hv => b1 i hi v (Ev.dneg hp hv)) ⟨i, hi, .inr ⟨h0, hp⟩⟩ (fun i hi hp _ => b1 i hi _ (Ev.dpos hp Ev.ret)))
  · refine ⟨3, ?_, ?_, fun h => absurd h (by decide), fun h => absurd h.len hl⟩
    · simp only [ring_Whole.f]; exact Ev.pos (by omega) Ev.ret
    · simp only [waybillref12_Whole.f]; exact Ev.pos (by omega) Ev.ret
end Go.Proofs.Ytmdpjijafejgpaa.M

/- waybill/waybillref12.Build: a plain function, and that the machine's call comes to it: printed by a program of the session's own. -/
set_option linter.unusedVariables false
set_option linter.unusedSimpArgs false
namespace Go.Proofs.Ytmdpjijafejgpaa.M
open Go Go.Proofs.Ytmdpjijafejgpaa.Sl
/-! ### waybill/waybillref12.Build: function 13 -/
def waybillref12_Build.l0 : Nat → Int → (List api_Backend) → Int → Int → Option (Int)
  | 0, _, _, _, _ => none
  | k + 1, x_points, x_l, z8x, z9x => if z9x < (x_l.length : Int) then (if 0 ≤ z9x then (waybillref12_Build.l0 k x_points x_l (IntKind.i64.wrap (z8x + (IntKind.i64.wrap (x_points * ((rd e_api_Backend x_l z9x).Weight))))) (IntKind.i64.wrap (z9x + 1))) else (none)) else (some z8x)
def waybillref12_Build.l3 : Nat → (List api_Backend) → Int → (List api_Point) → Int → Int → Option (Int)
  | 0, _, _, _, _, _ => none
  | k + 1, x_l, z19x, z34x, z47x, z85x => ((if 0 < z85x then (if 0 ≤ (IntKind.i64.wrap (z85x - 1)) then (if (IntKind.i64.wrap (z85x - 1)) < (z34x.length : Int) then ((waybillref12_behind.f (rd e_api_Point z34x (IntKind.i64.wrap (z85x - 1))) (⟨z47x, (rd e_api_Backend x_l z19x).ID⟩ : api_Point)).bind fun z100t => (some z100t)) else (none)) else (none)) else (some false)) : Option (Bool)).bind fun z86x => (if z86x = true then (waybillref12_Build.l3 k x_l z19x z34x z47x (IntKind.i64.wrap (z85x - 1))) else (some z85x))
def waybillref12_Build.l4 : Nat → (List api_Backend) → Int → (List api_Point) → Int → Int → Int → (List api_Point) → Option ((List api_Point))
  | 0, _, _, _, _, _, _, _ => none
  | k + 1, x_l, z19x, z34x, z47x, z84x, z117x, z118x => if z84x < z117x then (if 0 ≤ (IntKind.i64.wrap (z117x - 1)) then (if (IntKind.i64.wrap (z117x - 1)) < ((z34x ++ ([(⟨z47x, (rd e_api_Backend x_l z19x).ID⟩ : api_Point)] : List api_Point)).length : Int) then (if 0 ≤ z117x then (if z117x < ((z34x ++ ([(⟨z47x, (rd e_api_Backend x_l z19x).ID⟩ : api_Point)] : List api_Point)).length : Int) then (waybillref12_Build.l4 k x_l z19x z34x z47x z84x (IntKind.i64.wrap (z117x - 1)) (z118x.set (Int.toNat z117x) (rd e_api_Point z118x (IntKind.i64.wrap (z117x - 1))))) else (none)) else (none)) else (none)) else (none)) else (some z118x)
def waybillref12_Build.l2 : Nat → Int → (List api_Backend) → Int → Int → (List api_Point) → Option ((List api_Point))
  | 0, _, _, _, _, _ => none
  | k + 1, x_points, x_l, z19x, z33x, z34x => if 0 ≤ z19x then (if z19x < (x_l.length : Int) then (if z33x < (IntKind.i64.wrap (x_points * ((rd e_api_Backend x_l z19x).Weight))) then ((((((waybillref10_Ints.f k 1 ([(rd e_api_Backend x_l z19x).ID, z33x] : List Int)).bind fun z62t => (some z62t)) : Option (Int)).bind fun z47x => ((((waybillref12_Build.l3 k x_l z19x z34x z47x (z34x.length : Int))) : Option (Int)).bind fun z84x => (if z34x.length + ([(⟨z47x, (rd e_api_Backend x_l z19x).ID⟩ : api_Point)] : List api_Point).length < 8796093022208 then ((((waybillref12_Build.l4 k x_l z19x z34x z47x z84x (IntKind.i64.wrap (((z34x ++ ([(⟨z47x, (rd e_api_Backend x_l z19x).ID⟩ : api_Point)] : List api_Point)).length : Int) - 1)) (z34x ++ ([(⟨z47x, (rd e_api_Backend x_l z19x).ID⟩ : api_Point)] : List api_Point)))) : Option ((List api_Point))).bind fun z116x => (if 0 ≤ z84x then (if z84x < ((z34x ++ ([(⟨z47x, (rd e_api_Backend x_l z19x).ID⟩ : api_Point)] : List api_Point)).length : Int) then (some (z116x.set (Int.toNat z84x) (⟨z47x, (rd e_api_Backend x_l z19x).ID⟩ : api_Point))) else (none)) else (none))) else (none)))) : Option ((List api_Point))).bind fun z43x => (waybillref12_Build.l2 k x_points x_l z19x (IntKind.i64.wrap (z33x + 1)) z43x)) else (some z34x)) else (none)) else (none)
def waybillref12_Build.l1 : Nat → Int → (List api_Backend) → Int → (List api_Point) → Option ((List api_Point))
  | 0, _, _, _, _ => none
  | k + 1, x_points, x_l, z19x, z20x => if z19x < (x_l.length : Int) then ((((((waybillref12_Build.l2 k x_points x_l z19x 0 z20x)) : Option ((List api_Point))).bind fun z29x => (some z29x)) : Option ((List api_Point))).bind fun z25x => (waybillref12_Build.l1 k x_points x_l (IntKind.i64.wrap (z19x + 1)) z25x)) else (some z20x)
def waybillref12_Build.f (k : Nat) (x_points : Int) (x_l : List api_Backend) : Option ((List api_Point) × Int) := (waybillref12_Check.f k x_l).bind fun z2t => (if z2t = 0 then (((if x_points < 1 then (some true) else (some (decide (64 < x_points)))) : Option (Bool)).bind fun z4x => (if z4x = true then (some (([] : List api_Point), 4)) else ((((waybillref12_Build.l0 k x_points x_l 0 0)) : Option (Int)).bind fun z7x => (if 1024 < z7x then (some (([] : List api_Point), 5)) else ((((waybillref12_Build.l1 k x_points x_l 0 ([] : List api_Point))) : Option ((List api_Point))).bind fun z15x => (some (z15x, 0))))))) else (some (([] : List api_Point), z2t)))
set_option maxRecDepth 100000 in
set_option maxHeartbeats 4000000 in
theorem waybillref12_Build.calls (k : Nat) (x_points : Int) (A1 : Option Addr) (n1 c1 : Nat) (x_l : List api_Backend) (W0 : World) (X : Heap) (HR1 : Rd e_api_Backend X A1 n1 c1 x_l) (Hq : HS W0 [isH X] W0) (r : (List api_Point) × Int) (H : waybillref12_Build.f k x_points x_l = some r) :
    Calls Try.prog 13 #[.int .i64 x_points, .slice A1 n1 c1] W0 (fun e w => ∃ Ar0 nr0 cr0, e = .returned (.tuple #[.slice Ar0 nr0 cr0, .int .i64 r.2]) ∧ HS W0 [own e_api_Point 39 Ar0 nr0 cr0 r.1, isH X] w) := by
  obtain rfl := HR1.1
  rw [waybillref12_Build.f] at H
  refine calls_in Try.func13 rfl rfl ?_
  intro a0 S0
  refine w_seq ?_
  refine w_region ?_
  refine r_pures [_, _] S0 rfl ?_
  clear S0; intro a0 S0
  refine wl_nil ?_
  refine nr_then ?_
  refine w_seq ?_
  refine w_region ?_
  refine r_pures [_] S0 rfl ?_
  clear S0; intro a0 S0
  obtain ⟨Xz1, HXz1, HPz1, HBz1⟩ := call_frame [] Hq
  dsimp only [List.cons_append, List.nil_append] at HXz1 HBz1
  obtain ⟨z2t, Hc, H⟩ := Option.bind_eq_some_iff.mp H
  refine r_call S0 rfl rfl goes21 rfl ?_
  refine (waybillref12_Check.calls _ _ _ _ x_l _ _ (sl_isH_rd [] HPz1 HR1) HXz1 z2t Hc).mono ?_
  rintro e w ⟨rfl, Hq'⟩
  have Hq : HS W0 [isH X] w := HBz1 [] _ Hq'
  clear HXz1 HPz1 HBz1 Hq'
  refine ⟨.int .i64 z2t, rfl, ?_⟩; clear S0; intro a0 S0
  refine r_pures [_] S0 rfl ?_
  clear S0; intro a0 S0
  refine wl_nil ?_
  refine nr_then ?_
  refine w_seq ?_
  refine w_block ?_
  refine w_seq ?_
  refine w_region ?_
  refine r_pures [_, _, _] S0 rfl ?_
  clear S0; intro a0 S0
  refine wl_nil ?_
  refine nr_then ?_
  by_cases z3h : z2t = 0
  · replace H := (if_pos z3h).symm.trans H
    refine w_false S0 rfl (congrArg (!·) (decide_eq_true z3h)) ?_
    refine w_seq ?_
    obtain ⟨z4x, H, HU1⟩ := Option.bind_eq_some_iff.mp H
    refine w_cutT (fun a w => Sl 116 [] [(0, .int .i64 x_points), (1, .slice A1 x_l.length c1), (21, .bool z4x)] a ∧ HS W0 [isH X] w) ?_ ?_
    · skip
      refine w_region ?_
      refine r_pures [_, _, _] S0 rfl ?_
      clear S0; intro a0 S0
      by_cases z5h : x_points < 1
      · replace H := (if_pos z5h).symm.trans H
        refine r_off S0 rfl rfl rfl (decide_eq_true z5h) ?_ rfl
        clear S0; intro a0 S0
        refine r_off S0 rfl rfl rfl (decide_eq_true z5h) ?_ rfl
        clear S0; intro a0 S0
        refine r_pick S0 rfl (decide_eq_true z5h) _ rfl rfl ?_
        clear S0; intro a0 S0
        refine r_pures [_] S0 rfl ?_
        clear S0; intro a0 S0
        refine wl_nil ?_
        refine nr_then ?_
        obtain rfl := Option.some.inj H
        exact ⟨S0.sub ⟨rfl, rfl, rfl, trivial⟩, Hq⟩
      · replace H := (if_neg z5h).symm.trans H
        refine r_on S0 rfl rfl rfl (decide_eq_false z5h) ?_
        refine r_pures [_] S0 rfl ?_
        clear S0; intro a0 S0
        refine r_on S0 rfl rfl rfl (decide_eq_false z5h) ?_
        refine r_pures [_] S0 rfl ?_
        clear S0; intro a0 S0
        refine r_pick S0 rfl (decide_eq_false z5h) _ rfl rfl ?_
        clear S0; intro a0 S0
        refine r_pures [_] S0 rfl ?_
        clear S0; intro a0 S0
        refine wl_nil ?_
        refine nr_then ?_
        obtain rfl := Option.some.inj H
        exact ⟨S0.sub ⟨rfl, rfl, rfl, trivial⟩, Hq⟩
    · clear S0; rintro a w ⟨S0, Hq⟩
      have H := HU1; clear HU1
      refine nr_then ?_
      by_cases z6h : z4x = true
      · replace H := (if_pos z6h).symm.trans H
        refine w_true S0 rfl z6h ?_
        refine w_seq ?_
        refine w_region ?_
        refine r_pures [_, _] S0 rfl ?_
        clear S0; intro a0 S0
        refine wl_nil ?_
        refine nr_then ?_
        refine w_ret ?_
        refine ret_in ?_
        refine ret_then ?_
        obtain rfl := Option.some.inj H
        replace Hq := HS.own_nil e_api_Point 39 Hq
        refine ret2 S0 rfl rfl rfl ?_
        replace Hq := HS.pull [_] Hq
        dsimp only [List.cons_append, List.nil_append] at Hq
        replace Hq := HS.pull [_] Hq
        dsimp only [List.cons_append, List.nil_append] at Hq
        exact ⟨none, 0, 0, rfl, Hq⟩
      · replace H := (if_neg z6h).symm.trans H
        refine w_false S0 rfl (Bool.eq_false_iff.mpr z6h) ?_
        refine w_skip ?_
        refine nr_in ?_
        refine nr_then ?_
        refine w_seq ?_
        refine w_region ?_
        refine r_pures [_] S0 rfl ?_
        clear S0; intro a0 S0
        refine wl_nil ?_
        refine nr_then ?_
        refine w_seq ?_
        refine w_seq ?_
        refine w_region ?_
        refine r_pures [_] S0 rfl ?_
        clear S0; intro a0 S0
        refine wl_nil ?_
        refine nr_then ?_
        obtain ⟨z7x, H, HU2⟩ := Option.bind_eq_some_iff.mp H
        refine w_cutT (fun a w => Sl 116 [] [(0, .int .i64 x_points), (1, .slice A1 x_l.length c1), (7, .int .i64 z7x)] a ∧ HS W0 [isH X] w) ?_ ?_
        · skip
          refine w_block ?_
          refine w_loop (fun kq a w => ∃ z8x z9x, waybillref12_Build.l0 kq x_points x_l z8x z9x = some z7x ∧ Sl 116 [] [(0, .int .i64 x_points), (1, .slice A1 x_l.length c1), (7, .int .i64 z8x), (8, .int .i64 z9x)] a ∧ HS W0 [isH X] w) _ ⟨0, 0, H, S0.sub ⟨rfl, rfl, rfl, rfl, trivial⟩, Hq⟩ ?_
          clear H Hq S0
          rintro k0 a w ⟨z8x, z9x, H, S0, Hq⟩
          cases k0 with
          | zero => simp [waybillref12_Build.l0] at H
          | succ k0 =>
            refine ⟨k0, rfl, ?_⟩
            rw [waybillref12_Build.l0] at H
            refine w_seq ?_
            refine w_seq ?_
            refine w_region ?_
            refine r_pures [_, _] S0 rfl ?_
            clear S0; intro a0 S0
            refine r_len S0 rfl sl22 rfl ?_
            clear S0; intro a0 S0
            refine r_pures [_] S0 rfl ?_
            clear S0; intro a0 S0
            refine wl_nil ?_
            refine nr_then ?_
            by_cases z10h : z9x < (x_l.length : Int)
            · replace H := (if_pos z10h).symm.trans H
              refine w_true S0 rfl (decide_eq_true z10h) ?_
              refine w_skip ?_
              refine nr_then ?_
              refine w_seq ?_
              refine w_block ?_
              refine w_region ?_
              refine r_pures [_, _, _, _] S0 rfl ?_
              clear S0; intro a0 S0
              by_cases z11h : 0 ≤ z9x
              · replace H := (if_pos z11h).symm.trans H
                obtain ⟨z12b, z13o, rfl⟩ := (isH_rd [] Hq HR1).at (by omega)
                refine r_index S0 rfl rfl sl22 ti36 z11h z10h rfl ?_
                clear S0; intro a0 S0
                refine r_fieldAddr S0 rfl fo36x1 (z13o + Int.toNat z9x * 2 + 1) rfl rfl ?_
                clear S0; intro a0 S0
                refine r_elS S0 (isH_rd [] Hq HR1) z11h z10h rfl ti3 _ rfl rfl ?_
                clear S0; intro a0 S0
                refine r_pures [_, _, _] S0 rfl ?_
                clear S0; intro a0 S0
                refine wl_nil ?_
                refine nr_in ?_
                refine nr_then ?_
                refine w_region ?_
                refine r_pures [_, _, _] S0 rfl ?_
                clear S0; intro a0 S0
                refine wl_nil ?_
                refine nr_then ?_
                exact ⟨(IntKind.i64.wrap (z8x + (IntKind.i64.wrap (x_points * ((rd e_api_Backend x_l z9x).Weight))))), (IntKind.i64.wrap (z9x + 1)), H, S0.sub ⟨rfl, rfl, rfl, rfl, trivial⟩, Hq⟩
              · replace H := (if_neg z11h).symm.trans H
                exact nomatch H
            · replace H := (if_neg z10h).symm.trans H
              refine w_false S0 rfl (decide_eq_false z10h) ?_
              refine w_exit ?_
              refine ex_then ?_
              refine ex_then ?_
              refine ex_in ?_
              refine nr_then ?_
              obtain rfl := Option.some.inj H
              exact ⟨S0.sub ⟨rfl, rfl, rfl, trivial⟩, Hq⟩
        · clear S0; rintro a w ⟨S0, Hq⟩
          have H := HU2; clear HU2
          refine nr_then ?_
          refine w_seq ?_
          refine w_seq ?_
          refine w_region ?_
          refine r_pures [_, _] S0 rfl ?_
          clear S0; intro a0 S0
          refine wl_nil ?_
          refine nr_then ?_
          by_cases z14h : 1024 < z7x
          · replace H := (if_pos z14h).symm.trans H
            refine w_true S0 rfl (decide_eq_true z14h) ?_
            refine w_seq ?_
            refine w_region ?_
            refine r_pures [_, _] S0 rfl ?_
            clear S0; intro a0 S0
            refine wl_nil ?_
            refine nr_then ?_
            refine w_ret ?_
            refine ret_then ?_
            obtain rfl := Option.some.inj H
            replace Hq := HS.own_nil e_api_Point 39 Hq
            refine ret2 S0 rfl rfl rfl ?_
            replace Hq := HS.pull [_] Hq
            dsimp only [List.cons_append, List.nil_append] at Hq
            replace Hq := HS.pull [_] Hq
            dsimp only [List.cons_append, List.nil_append] at Hq
            exact ⟨none, 0, 0, rfl, Hq⟩
          · replace H := (if_neg z14h).symm.trans H
            refine w_false S0 rfl (decide_eq_false z14h) ?_
            refine w_skip ?_
            refine nr_then ?_
            refine w_seq ?_
            refine w_region ?_
            refine r_pures [_] S0 rfl ?_
            clear S0; intro a0 S0
            refine wl_nil ?_
            refine nr_then ?_
            refine w_seq ?_
            refine w_seq ?_
            refine w_region ?_
            refine r_pures [_] S0 rfl ?_
            clear S0; intro a0 S0
            refine wl_nil ?_
            refine nr_then ?_
            replace Hq := HS.own_nil e_api_Point 39 Hq
            obtain ⟨z15x, H, HU3⟩ := Option.bind_eq_some_iff.mp H
            refine w_cutT (fun a w => ∃ z16A z17m z18n, Sl 116 [] [(9, .slice z16A z17m z18n)] a ∧ HS W0 [own e_api_Point 39 z16A z17m z18n z15x, isH X] w) ?_ ?_
            · skip
              refine w_block ?_
              refine w_loop (fun kq a w => ∃ z19x z20x z21A z22m z23n, waybillref12_Build.l1 kq x_points x_l z19x z20x = some z15x ∧ Sl 116 [] [(0, .int .i64 x_points), (1, .slice A1 x_l.length c1), (9, .slice z21A z22m z23n), (10, .int .i64 z19x)] a ∧ HS W0 [own e_api_Point 39 z21A z22m z23n z20x, isH X] w) _ ⟨0, ([] : List api_Point), none, 0, 0, H, S0.sub ⟨rfl, rfl, rfl, rfl, trivial⟩, Hq⟩ ?_
              clear H Hq S0
              rintro k1 a w ⟨z19x, z20x, z21A, z22m, z23n, H, S0, Hq⟩
              cases k1 with
              | zero => simp [waybillref12_Build.l1] at H
              | succ k1 =>
                refine ⟨k1, rfl, ?_⟩
                rw [waybillref12_Build.l1] at H
                obtain rfl := own_len [] Hq
                refine w_seq ?_
                refine w_seq ?_
                refine w_region ?_
                refine r_pures [_, _] S0 rfl ?_
                clear S0; intro a0 S0
                refine r_len S0 rfl sl22 rfl ?_
                clear S0; intro a0 S0
                refine r_pures [_] S0 rfl ?_
                clear S0; intro a0 S0
                refine wl_nil ?_
                refine nr_then ?_
                by_cases z24h : z19x < (x_l.length : Int)
                · replace H := (if_pos z24h).symm.trans H
                  refine w_true S0 rfl (decide_eq_true z24h) ?_
                  refine w_skip ?_
                  refine nr_then ?_
                  refine w_seq ?_
                  obtain ⟨z25x, H, HU4⟩ := Option.bind_eq_some_iff.mp H
                  refine w_cutT (fun a w => ∃ z26A z27m z28n, Sl 116 [] [(0, .int .i64 x_points), (1, .slice A1 x_l.length c1), (9, .slice z26A z27m z28n), (10, .int .i64 z19x)] a ∧ HS W0 [own e_api_Point 39 z26A z27m z28n z25x, isH X] w) ?_ ?_
                  · skip
                    refine w_block ?_
                    refine w_seq ?_
                    refine w_region ?_
                    refine r_pures [_] S0 rfl ?_
                    clear S0; intro a0 S0
                    refine wl_nil ?_
                    refine nr_then ?_
                    obtain ⟨z29x, H, HU5⟩ := Option.bind_eq_some_iff.mp H
                    refine w_cutT (fun a w => ∃ z30A z31m z32n, Sl 116 [] [(0, .int .i64 x_points), (1, .slice A1 x_l.length c1), (9, .slice z30A z31m z32n), (10, .int .i64 z19x)] a ∧ HS W0 [own e_api_Point 39 z30A z31m z32n z29x, isH X] w) ?_ ?_
                    · skip
                      refine w_block ?_
                      refine w_loop (fun kq a w => ∃ z33x z34x z35A z36m z37n, waybillref12_Build.l2 kq x_points x_l z19x z33x z34x = some z29x ∧ Sl 116 [] [(0, .int .i64 x_points), (1, .slice A1 x_l.length c1), (9, .slice z35A z36m z37n), (10, .int .i64 z19x), (11, .int .i64 z33x)] a ∧ HS W0 [own e_api_Point 39 z35A z36m z37n z34x, isH X] w) _ ⟨0, z20x, z21A, z20x.length, z23n, H, S0.sub ⟨rfl, rfl, rfl, rfl, rfl, trivial⟩, Hq⟩ ?_
                      clear H Hq S0
                      rintro k2 a w ⟨z33x, z34x, z35A, z36m, z37n, H, S0, Hq⟩
                      cases k2 with
                      | zero => simp [waybillref12_Build.l2] at H
                      | succ k2 =>
                        refine ⟨k2, rfl, ?_⟩
                        rw [waybillref12_Build.l2] at H
                        obtain rfl := own_len [] Hq
                        refine w_seq ?_
                        refine w_seq ?_
                        refine w_region ?_
                        refine r_pures [_, _, _, _] S0 rfl ?_
                        clear S0; intro a0 S0
                        by_cases z38h : 0 ≤ z19x
                        · replace H := (if_pos z38h).symm.trans H
                          by_cases z39h : z19x < (x_l.length : Int)
                          · replace H := (if_pos z39h).symm.trans H
                            obtain ⟨z40b, z41o, rfl⟩ := (isH_rd [_] Hq HR1).at (by omega)
                            refine r_index S0 rfl rfl sl22 ti36 z38h z39h rfl ?_
                            clear S0; intro a0 S0
                            refine r_fieldAddr S0 rfl fo36x1 (z41o + Int.toNat z19x * 2 + 1) rfl rfl ?_
                            clear S0; intro a0 S0
                            refine r_elS S0 (isH_rd [_] Hq HR1) z38h z39h rfl ti3 _ rfl rfl ?_
                            clear S0; intro a0 S0
                            refine r_pures [_, _] S0 rfl ?_
                            clear S0; intro a0 S0
                            refine wl_nil ?_
                            refine nr_then ?_
                            by_cases z42h : z33x < (IntKind.i64.wrap (x_points * ((rd e_api_Backend x_l z19x).Weight)))
                            · replace H := (if_pos z42h).symm.trans H
                              refine w_true S0 rfl (decide_eq_true z42h) ?_
                              refine w_skip ?_
                              refine nr_then ?_
                              refine w_seq ?_
                              obtain ⟨z43x, H, HU6⟩ := Option.bind_eq_some_iff.mp H
                              refine w_cutT (fun a w => ∃ z44A z45m z46n, Sl 116 [] [(0, .int .i64 x_points), (1, .slice (some ⟨z40b, z41o, none⟩) x_l.length c1), (9, .slice z44A z45m z46n), (10, .int .i64 z19x), (11, .int .i64 z33x)] a ∧ HS W0 [own e_api_Point 39 z44A z45m z46n z43x, isH X] w) ?_ ?_
                              · skip
                                refine w_block ?_
                                refine w_seq ?_
                                obtain ⟨z47x, H, HU7⟩ := Option.bind_eq_some_iff.mp H
                                refine w_cutT (fun a w => ∃ z48b, Sl 116 [] [(0, .int .i64 x_points), (1, .slice (some ⟨z40b, z41o, none⟩) x_l.length c1), (9, .slice z35A z34x.length z37n), (10, .int .i64 z19x), (11, .int .i64 z33x), (12, .pointer (some ⟨z48b, 0, none⟩))] a ∧ HS W0 [bx z48b 39 [.int .u64 z47x, .int .i64 ((rd e_api_Backend x_l z19x).ID)], own e_api_Point 39 z35A z34x.length z37n z34x, isH X] w) ?_ ?_
                                · skip
                                  refine w_draw TryM.mixed (.pu 0 (.pu 1 (.pu 2 (.pu 3 (.pu 5 (.pu 8 (.pu 9 (.pu 10 (.pu 11 (.rd 4 (.rd 12 (.fk 6 (.fk 7 (.pu 13 (.ef 14 (.ds 15 .done))) 14 (.ef 7 (.pu 13 (.ds 15 .done)))) 14 (.ef 6 (.ef 7 (.pu 13 (.ds 15 .done)))))))))))))))) (by kernel_rfl) rfl ?_
                                  replace Hq := Hq.drew
                                  refine st_pures [0, 1] S0 rfl ?_
                                  intro az49q Sz49q
                                  refine st_pu Sz49q rfl (g_none rfl) rfl rfl (fun _ => y_index Sz49q rfl rfl sl22 ti36 z38h z39h) ?_
                                  intro az50q Sz50q
                                  refine st_pu Sz50q rfl (g_none rfl) rfl rfl (fun _ => y_fieldAddr Sz50q rfl fo36x0 (z41o + Int.toNat z19x * 2 + 0) rfl) ?_
                                  intro az51q Sz51q
                                  refine st_pures [5, 8, 9] Sz51q rfl ?_
                                  intro az52q Sz52q
                                  refine st_pu Sz52q rfl (g_none rfl) rfl rfl (fun _ => y_index Sz52q rfl rfl sl22 ti36 z38h z39h) ?_
                                  intro az53q Sz53q
                                  refine st_pu Sz53q rfl (g_none rfl) rfl rfl (fun _ => y_fieldAddr Sz53q rfl fo36x0 (z41o + Int.toNat z19x * 2 + 0) rfl) ?_
                                  intro az54q Sz54q
                                  refine st_rd Sz54q rfl (g_none rfl) rfl rfl (y_elS Sz54q (isH_rd [_] Hq HR1) z38h z39h rfl ti3 _ rfl) ?_
                                  intro az55q Sz55q
                                  refine st_rd Sz55q rfl (g_none rfl) rfl rfl (y_elS Sz55q (isH_rd [_] Hq HR1) z38h z39h rfl ti3 _ rfl) ?_
                                  intro az56q Sz56q
                                  refine st_fk rfl rfl ?_ ?_
                                  · skip
                                    have Sz57q := Sz56q
                                    refine r_lit (e := e_i64) (l := ([(rd e_api_Backend x_l z19x).ID, z33x] : List Int)) (m := 2) (vs := [.int .i64 ((rd e_api_Backend x_l z19x).ID), .int .i64 z33x]) Sz57q Hq sl32 ti3 rfl rfl rfl rfl rfl rfl ?_
                                    clear Sz57q Hq; intro z58b az56q w Sz57q Hq
                                    refine wl_nil ?_
                                    refine nr_then ?_
                                    refine ⟨⟨⟨trivial, y_elS Sz54q (isH_rd [_, _] Hq HR1) z38h z39h rfl ti3 _ rfl⟩, y_elS Sz55q (isH_rd [_, _] Hq HR1) z38h z39h rfl ti3 _ rfl⟩, ?_⟩
                                    refine st_fk rfl rfl ?_ ?_
                                    · skip
                                      have Sz60q := Sz57q
                                      obtain ⟨Xz61, HXz61, HPz61, HBz61⟩ := call_frame [] Hq
                                      dsimp only [List.cons_append, List.nil_append] at HXz61 HBz61
                                      obtain ⟨z62t, Hc, H⟩ := Option.bind_eq_some_iff.mp H
                                      refine r_call Sz60q rfl rfl goes24 rfl ?_
                                      refine (waybillref10_Ints.calls _ 1 _ _ _ ([(rd e_api_Backend x_l z19x).ID, z33x] : List Int) _ _ (sl_own_rd [] HPz61) HXz61 z62t Hc).mono ?_
                                      rintro e w ⟨rfl, Hq'⟩
                                      have Hq : HS W0 [own e_i64 3 (some ⟨z58b, 0, none⟩) 2 2 ([(rd e_api_Backend x_l z19x).ID, z33x] : List Int), own e_api_Point 39 z35A z34x.length z37n z34x, isH X] w := HBz61 [] _ Hq'
                                      clear HXz61 HPz61 HBz61 Hq'
                                      refine ⟨.int .u64 z62t, rfl, ?_⟩; clear Sz60q; intro az56q Sz60q
                                      refine wl_nil ?_
                                      refine nr_then ?_
                                      refine ⟨⟨⟨trivial, y_elS Sz54q (isH_rd [_, _] Hq HR1) z38h z39h rfl ti3 _ rfl⟩, y_elS Sz55q (isH_rd [_, _] Hq HR1) z38h z39h rfl ti3 _ rfl⟩, ?_⟩
                                      refine st_pu Sz60q rfl (g_none rfl) rfl rfl (fun _ => y_build Sz60q ti39 pl39 rfl [.int .u64 z62t, .int .i64 ((rd e_api_Backend x_l z19x).ID)] rfl) ?_
                                      intro az63q Sz63q
                                      refine st_ef rfl ?_
                                      have Sz64q := Sz63q
                                      refine r_alloc Sz64q Hq ti39 rfl ?_
                                      clear Sz64q Hq; intro z65b az63q w Sz64q Hq
                                      refine wl_nil ?_
                                      refine nr_then ?_
                                      refine ⟨⟨⟨trivial, y_elS Sz54q (isH_rd [_, _, _] Hq HR1) z38h z39h rfl ti3 _ rfl⟩, y_elS Sz55q (isH_rd [_, _, _] Hq HR1) z38h z39h rfl ti3 _ rfl⟩, ?_⟩
                                      refine st_ds rfl ?_
                                      have Sz66q := Sz64q
                                      refine r_st [] Sz66q Hq rfl rfl ti39 [.int .u64 z62t, .int .i64 ((rd e_api_Backend x_l z19x).ID)] rfl rfl rfl rfl [.int .u64 z62t, .int .i64 ((rd e_api_Backend x_l z19x).ID)] rfl ?_
                                      clear Hq; intro w Hq; dsimp only [List.cons_append, List.nil_append] at Hq
                                      refine wl_nil ?_
                                      refine nr_then ?_
                                      refine st_nil ?_
                                      replace S0 := Sz66q
                                      refine nr_then ?_
                                      replace Hq := HS.pull [_, _, _] Hq
                                      dsimp only [List.cons_append, List.nil_append] at Hq
                                      replace Hq := HS.pull [_, _, _] Hq
                                      dsimp only [List.cons_append, List.nil_append] at Hq
                                      replace Hq := HS.pull [_, _] Hq
                                      dsimp only [List.cons_append, List.nil_append] at Hq
                                      replace Hq := HS.keep [_, _, _] Hq
                                      obtain rfl := Option.some.inj H
                                      exact ⟨z65b, S0.sub ⟨rfl, rfl, rfl, rfl, rfl, rfl, trivial⟩, Hq⟩
                                    · skip
                                      have Sz67q := Sz57q
                                      refine r_alloc Sz67q Hq ti39 rfl ?_
                                      clear Sz67q Hq; intro z68b az56q w Sz67q Hq
                                      refine wl_nil ?_
                                      refine nr_then ?_
                                      refine ⟨⟨⟨trivial, y_elS Sz54q (isH_rd [_, _, _] Hq HR1) z38h z39h rfl ti3 _ rfl⟩, y_elS Sz55q (isH_rd [_, _, _] Hq HR1) z38h z39h rfl ti3 _ rfl⟩, ?_⟩
                                      refine st_ef rfl ?_
                                      have Sz69q := Sz67q
                                      obtain ⟨Xz70, HXz70, HPz70, HBz70⟩ := call_frame [] Hq
                                      dsimp only [List.cons_append, List.nil_append] at HXz70 HBz70
                                      obtain ⟨z71t, Hc, H⟩ := Option.bind_eq_some_iff.mp H
                                      refine r_call Sz69q rfl rfl goes24 rfl ?_
                                      refine (waybillref10_Ints.calls _ 1 _ _ _ ([(rd e_api_Backend x_l z19x).ID, z33x] : List Int) _ _ (sl_own_rd [_] HPz70) HXz70 z71t Hc).mono ?_
                                      rintro e w ⟨rfl, Hq'⟩
                                      have Hq : HS W0 [bx z68b 39 [.int .u64 0, .int .i64 0], own e_i64 3 (some ⟨z58b, 0, none⟩) 2 2 ([(rd e_api_Backend x_l z19x).ID, z33x] : List Int), own e_api_Point 39 z35A z34x.length z37n z34x, isH X] w := HBz70 [] _ Hq'
                                      clear HXz70 HPz70 HBz70 Hq'
                                      refine ⟨.int .u64 z71t, rfl, ?_⟩; clear Sz69q; intro az56q Sz69q
                                      refine wl_nil ?_
                                      refine nr_then ?_
                                      refine ⟨⟨⟨trivial, y_elS Sz54q (isH_rd [_, _, _] Hq HR1) z38h z39h rfl ti3 _ rfl⟩, y_elS Sz55q (isH_rd [_, _, _] Hq HR1) z38h z39h rfl ti3 _ rfl⟩, ?_⟩
                                      refine st_pu Sz69q rfl (g_none rfl) rfl rfl (fun _ => y_build Sz69q ti39 pl39 rfl [.int .u64 z71t, .int .i64 ((rd e_api_Backend x_l z19x).ID)] rfl) ?_
                                      intro az72q Sz72q
                                      refine st_ds rfl ?_
                                      have Sz73q := Sz72q
                                      refine r_st [] Sz73q Hq rfl rfl ti39 [.int .u64 z71t, .int .i64 ((rd e_api_Backend x_l z19x).ID)] rfl rfl rfl rfl [.int .u64 z71t, .int .i64 ((rd e_api_Backend x_l z19x).ID)] rfl ?_
                                      clear Hq; intro w Hq; dsimp only [List.cons_append, List.nil_append] at Hq
                                      refine wl_nil ?_
                                      refine nr_then ?_
                                      refine st_nil ?_
                                      replace S0 := Sz73q
                                      refine nr_then ?_
                                      replace Hq := HS.pull [_, _, _] Hq
                                      dsimp only [List.cons_append, List.nil_append] at Hq
                                      replace Hq := HS.pull [_, _, _] Hq
                                      dsimp only [List.cons_append, List.nil_append] at Hq
                                      replace Hq := HS.pull [_, _] Hq
                                      dsimp only [List.cons_append, List.nil_append] at Hq
                                      replace Hq := HS.keep [_, _, _] Hq
                                      obtain rfl := Option.some.inj H
                                      exact ⟨z68b, S0.sub ⟨rfl, rfl, rfl, rfl, rfl, rfl, trivial⟩, Hq⟩
                                  · skip
                                    have Sz74q := Sz56q
                                    refine r_alloc Sz74q Hq ti39 rfl ?_
                                    clear Sz74q Hq; intro z75b az56q w Sz74q Hq
                                    refine wl_nil ?_
                                    refine nr_then ?_
                                    refine ⟨⟨⟨trivial, y_elS Sz54q (isH_rd [_, _] Hq HR1) z38h z39h rfl ti3 _ rfl⟩, y_elS Sz55q (isH_rd [_, _] Hq HR1) z38h z39h rfl ti3 _ rfl⟩, ?_⟩
                                    refine st_ef rfl ?_
                                    have Sz76q := Sz74q
                                    refine r_lit (e := e_i64) (l := ([(rd e_api_Backend x_l z19x).ID, z33x] : List Int)) (m := 2) (vs := [.int .i64 ((rd e_api_Backend x_l z19x).ID), .int .i64 z33x]) Sz76q Hq sl32 ti3 rfl rfl rfl rfl rfl rfl ?_
                                    clear Sz76q Hq; intro z77b az56q w Sz76q Hq
                                    refine wl_nil ?_
                                    refine nr_then ?_
                                    refine ⟨⟨⟨trivial, y_elS Sz54q (isH_rd [_, _, _] Hq HR1) z38h z39h rfl ti3 _ rfl⟩, y_elS Sz55q (isH_rd [_, _, _] Hq HR1) z38h z39h rfl ti3 _ rfl⟩, ?_⟩
                                    refine st_ef rfl ?_
                                    have Sz79q := Sz76q
                                    obtain ⟨Xz80, HXz80, HPz80, HBz80⟩ := call_frame [] Hq
                                    dsimp only [List.cons_append, List.nil_append] at HXz80 HBz80
                                    obtain ⟨z81t, Hc, H⟩ := Option.bind_eq_some_iff.mp H
                                    refine r_call Sz79q rfl rfl goes24 rfl ?_
                                    refine (waybillref10_Ints.calls _ 1 _ _ _ ([(rd e_api_Backend x_l z19x).ID, z33x] : List Int) _ _ (sl_own_rd [] HPz80) HXz80 z81t Hc).mono ?_
                                    rintro e w ⟨rfl, Hq'⟩
                                    have Hq : HS W0 [own e_i64 3 (some ⟨z77b, 0, none⟩) 2 2 ([(rd e_api_Backend x_l z19x).ID, z33x] : List Int), bx z75b 39 [.int .u64 0, .int .i64 0], own e_api_Point 39 z35A z34x.length z37n z34x, isH X] w := HBz80 [] _ Hq'
                                    clear HXz80 HPz80 HBz80 Hq'
                                    refine ⟨.int .u64 z81t, rfl, ?_⟩; clear Sz79q; intro az56q Sz79q
                                    refine wl_nil ?_
                                    refine nr_then ?_
                                    refine ⟨⟨⟨trivial, y_elS Sz54q (isH_rd [_, _, _] Hq HR1) z38h z39h rfl ti3 _ rfl⟩, y_elS Sz55q (isH_rd [_, _, _] Hq HR1) z38h z39h rfl ti3 _ rfl⟩, ?_⟩
                                    refine st_pu Sz79q rfl (g_none rfl) rfl rfl (fun _ => y_build Sz79q ti39 pl39 rfl [.int .u64 z81t, .int .i64 ((rd e_api_Backend x_l z19x).ID)] rfl) ?_
                                    intro az82q Sz82q
                                    refine st_ds rfl ?_
                                    have Sz83q := Sz82q
                                    refine r_st [_] Sz83q Hq rfl rfl ti39 [.int .u64 z81t, .int .i64 ((rd e_api_Backend x_l z19x).ID)] rfl rfl rfl rfl [.int .u64 z81t, .int .i64 ((rd e_api_Backend x_l z19x).ID)] rfl ?_
                                    clear Hq; intro w Hq; dsimp only [List.cons_append, List.nil_append] at Hq
                                    refine wl_nil ?_
                                    refine nr_then ?_
                                    refine st_nil ?_
                                    replace S0 := Sz83q
                                    refine nr_then ?_
                                    replace Hq := HS.pull [_, _, _] Hq
                                    dsimp only [List.cons_append, List.nil_append] at Hq
                                    replace Hq := HS.pull [_, _, _] Hq
                                    dsimp only [List.cons_append, List.nil_append] at Hq
                                    replace Hq := HS.pull [_, _, _] Hq
                                    dsimp only [List.cons_append, List.nil_append] at Hq
                                    replace Hq := HS.keep [_, _, _] Hq
                                    obtain rfl := Option.some.inj H
                                    exact ⟨z75b, S0.sub ⟨rfl, rfl, rfl, rfl, rfl, rfl, trivial⟩, Hq⟩
                                · clear S0; rintro a w ⟨z48b, S0, Hq⟩
                                  have H := HU7; clear HU7
                                  refine nr_then ?_
                                  refine w_seq ?_
                                  refine w_region ?_
                                  refine r_pures [_] S0 rfl ?_
                                  clear S0; intro a0 S0
                                  refine r_len S0 rfl sl25 rfl ?_
                                  clear S0; intro a0 S0
                                  refine r_pures [_] S0 rfl ?_
                                  clear S0; intro a0 S0
                                  refine wl_nil ?_
                                  refine nr_then ?_
                                  refine w_seq ?_
                                  obtain ⟨z84x, H, HU8⟩ := Option.bind_eq_some_iff.mp H
                                  refine w_cutT (fun a w => Sl 116 [] [(0, .int .i64 x_points), (1, .slice (some ⟨z40b, z41o, none⟩) x_l.length c1), (9, .slice z35A z34x.length z37n), (10, .int .i64 z19x), (11, .int .i64 z33x), (12, .pointer (some ⟨z48b, 0, none⟩)), (13, .int .i64 z84x)] a ∧ HS W0 [bx z48b 39 [.int .u64 z47x, .int .i64 ((rd e_api_Backend x_l z19x).ID)], own e_api_Point 39 z35A z34x.length z37n z34x, isH X] w) ?_ ?_
                                  · skip
                                    refine w_block ?_
                                    refine w_loop (fun kq a w => ∃ z85x, waybillref12_Build.l3 kq x_l z19x z34x z47x z85x = some z84x ∧ Sl 116 [] [(0, .int .i64 x_points), (1, .slice (some ⟨z40b, z41o, none⟩) x_l.length c1), (9, .slice z35A z34x.length z37n), (10, .int .i64 z19x), (11, .int .i64 z33x), (12, .pointer (some ⟨z48b, 0, none⟩)), (13, .int .i64 z85x)] a ∧ HS W0 [bx z48b 39 [.int .u64 z47x, .int .i64 ((rd e_api_Backend x_l z19x).ID)], own e_api_Point 39 z35A z34x.length z37n z34x, isH X] w) _ ⟨(z34x.length : Int), H, S0.sub ⟨rfl, rfl, rfl, rfl, rfl, rfl, rfl, trivial⟩, Hq⟩ ?_
                                    clear H Hq S0
                                    rintro k3 a w ⟨z85x, H, S0, Hq⟩
                                    cases k3 with
                                    | zero => simp [waybillref12_Build.l3] at H
                                    | succ k3 =>
                                      refine ⟨k3, rfl, ?_⟩
                                      rw [waybillref12_Build.l3] at H
                                      refine w_seq ?_
                                      refine w_seq ?_
                                      obtain ⟨z86x, H, HU9⟩ := Option.bind_eq_some_iff.mp H
                                      refine w_cutT (fun a w => Sl 116 [] [(0, .int .i64 x_points), (1, .slice (some ⟨z40b, z41o, none⟩) x_l.length c1), (9, .slice z35A z34x.length z37n), (10, .int .i64 z19x), (11, .int .i64 z33x), (12, .pointer (some ⟨z48b, 0, none⟩)), (13, .int .i64 z85x), (88, .bool z86x)] a ∧ HS W0 [bx z48b 39 [.int .u64 z47x, .int .i64 ((rd e_api_Backend x_l z19x).ID)], own e_api_Point 39 z35A z34x.length z37n z34x, isH X] w) ?_ ?_
                                      · skip
                                        refine w_draw TryM.mixed (.pu 0 (.pu 1 (.pu 2 (.pu 3 (.pu 4 (.pu 5 (.pu 6 (.rd 7 (.rd 8 (.ds 9 (.pu 10 .done))))))))))) (by kernel_rfl) rfl ?_
                                        replace Hq := Hq.drew
                                        refine st_pures [0, 1, 2] S0 rfl ?_
                                        intro az87q Sz87q
                                        by_cases z88h : 0 < z85x
                                        · replace H := (if_pos z88h).symm.trans H
                                          refine st_pu Sz87q rfl (g_on Sz87q rfl rfl rfl rfl (decide_eq_true z88h)) rfl rfl (fun _ => y_of Sz87q _ rfl) ?_
                                          intro az89q Sz89q
                                          refine st_pu Sz89q rfl (g_on Sz89q rfl rfl rfl rfl (decide_eq_true z88h)) rfl rfl (fun _ => y_of Sz89q _ rfl) ?_
                                          intro az90q Sz90q
                                          refine st_pu Sz90q rfl (g_on Sz90q rfl rfl rfl rfl (decide_eq_true z88h)) rfl rfl (fun _ => y_of Sz90q _ rfl) ?_
                                          intro az91q Sz91q
                                          by_cases z92h : 0 ≤ (IntKind.i64.wrap (z85x - 1))
                                          · replace H := (if_pos z92h).symm.trans H
                                            by_cases z93h : (IntKind.i64.wrap (z85x - 1)) < (z34x.length : Int)
                                            · replace H := (if_pos z93h).symm.trans H
                                              obtain ⟨z94g, rfl⟩ := own_at [_] Hq (by omega)
                                              refine st_pu Sz91q rfl (g_on Sz91q rfl rfl rfl rfl (decide_eq_true z88h)) rfl rfl (fun _ => y_index Sz91q rfl rfl sl25 ti39 z92h z93h) ?_
                                              intro az95q Sz95q
                                              refine st_rd Sz95q rfl (g_on Sz95q rfl rfl rfl rfl (decide_eq_true z88h)) rfl rfl (y_elA (vs := [.int .u64 ((rd e_api_Point z34x (IntKind.i64.wrap (z85x - 1))).Hash), .int .i64 ((rd e_api_Point z34x (IntKind.i64.wrap (z85x - 1))).ID)]) Sz95q (own_rd [_] Hq) z92h z93h rfl ti39 rfl rfl) ?_
                                              intro az96q Sz96q
                                              refine st_rd Sz96q rfl (g_on Sz96q rfl rfl rfl rfl (decide_eq_true z88h)) rfl rfl (y_ldA [] Sz96q Hq rfl ti39 [.int .u64 z47x, .int .i64 ((rd e_api_Backend x_l z19x).ID)] rfl rfl) ?_
                                              intro az97q Sz97q
                                              refine st_ds rfl ?_
                                              refine r_on Sz97q rfl rfl rfl (decide_eq_true z88h) ?_
                                              have Sz98q := Sz97q
                                              obtain ⟨Xz99, HXz99, HPz99, HBz99⟩ := call_frame [] Hq
                                              dsimp only [List.cons_append, List.nil_append] at HXz99 HBz99
                                              obtain ⟨z100t, Hc, H⟩ := Option.bind_eq_some_iff.mp H
                                              refine r_call Sz98q rfl rfl goes32 rfl ?_
                                              refine (waybillref12_behind.calls (rd e_api_Point z34x (IntKind.i64.wrap (z85x - 1))) (⟨z47x, (rd e_api_Backend x_l z19x).ID⟩ : api_Point) _ _  HXz99 z100t Hc).mono ?_
                                              rintro e w ⟨rfl, Hq'⟩
                                              have Hq : HS W0 [bx z48b 39 [.int .u64 z47x, .int .i64 ((rd e_api_Backend x_l z19x).ID)], own e_api_Point 39 (some ⟨z94g, 0, none⟩) z34x.length z37n z34x, isH X] w := HBz99 [] _ Hq'
                                              clear HXz99 HPz99 HBz99 Hq'
                                              refine ⟨.bool z100t, rfl, ?_⟩; clear Sz98q; intro az97q Sz98q
                                              refine wl_nil ?_
                                              refine nr_then ?_
                                              refine st_pu Sz98q rfl (g_none rfl) rfl rfl (fun _ => y_pick Sz98q rfl (decide_eq_true z88h) _ rfl) ?_
                                              intro az101q Sz101q
                                              refine st_nil ?_
                                              replace S0 := Sz101q
                                              refine nr_then ?_
                                              obtain rfl := Option.some.inj H
                                              exact ⟨S0.sub ⟨rfl, rfl, rfl, rfl, rfl, rfl, rfl, rfl, trivial⟩, Hq⟩
                                            · replace H := (if_neg z93h).symm.trans H
                                              exact nomatch H
                                          · replace H := (if_neg z92h).symm.trans H
                                            exact nomatch H
                                        · replace H := (if_neg z88h).symm.trans H
                                          refine st_puOff Sz87q rfl (g_off Sz87q rfl rfl rfl rfl (decide_eq_false z88h)) rfl rfl ?_
                                          intro az102q Sz102q
                                          refine st_puOff Sz102q rfl (g_off Sz102q rfl rfl rfl rfl (decide_eq_false z88h)) rfl rfl ?_
                                          intro az103q Sz103q
                                          refine st_puOff Sz103q rfl (g_off Sz103q rfl rfl rfl rfl (decide_eq_false z88h)) rfl rfl ?_
                                          intro az104q Sz104q
                                          refine st_puOff Sz104q rfl (g_off Sz104q rfl rfl rfl rfl (decide_eq_false z88h)) rfl rfl ?_
                                          intro az105q Sz105q
                                          refine st_rdOff Sz105q rfl (g_off Sz105q rfl rfl rfl rfl (decide_eq_false z88h)) rfl rfl ?_
                                          intro az106q Sz106q
                                          refine st_rdOff Sz106q rfl (g_off Sz106q rfl rfl rfl rfl (decide_eq_false z88h)) rfl rfl ?_
                                          intro az107q Sz107q
                                          refine st_ds rfl ?_
                                          refine r_off Sz107q rfl rfl rfl (decide_eq_false z88h) ?_ rfl
                                          intro az108q Sz108q
                                          refine wl_nil ?_
                                          refine nr_then ?_
                                          refine st_pu Sz108q rfl (g_none rfl) rfl rfl (fun _ => y_pick Sz108q rfl (decide_eq_false z88h) _ rfl) ?_
                                          intro az109q Sz109q
                                          refine st_nil ?_
                                          replace S0 := Sz109q
                                          refine nr_then ?_
                                          obtain rfl := Option.some.inj H
                                          exact ⟨S0.sub ⟨rfl, rfl, rfl, rfl, rfl, rfl, rfl, rfl, trivial⟩, Hq⟩
                                      · clear S0; rintro a w ⟨S0, Hq⟩
                                        have H := HU9; clear HU9
                                        refine nr_then ?_
                                        by_cases z110h : z86x = true
                                        · replace H := (if_pos z110h).symm.trans H
                                          refine w_true S0 rfl z110h ?_
                                          refine w_skip ?_
                                          refine nr_then ?_
                                          refine w_block ?_
                                          refine w_region ?_
                                          refine r_pures [_, _, _] S0 rfl ?_
                                          clear S0; intro a0 S0
                                          refine wl_nil ?_
                                          refine nr_in ?_
                                          refine nr_then ?_
                                          exact ⟨(IntKind.i64.wrap (z85x - 1)), H, S0.sub ⟨rfl, rfl, rfl, rfl, rfl, rfl, rfl, trivial⟩, Hq⟩
                                        · replace H := (if_neg z110h).symm.trans H
                                          refine w_false S0 rfl (Bool.eq_false_iff.mpr z110h) ?_
                                          refine w_exit ?_
                                          refine ex_then ?_
                                          refine ex_then ?_
                                          refine ex_in ?_
                                          refine nr_then ?_
                                          obtain rfl := Option.some.inj H
                                          exact ⟨S0.sub ⟨rfl, rfl, rfl, rfl, rfl, rfl, rfl, trivial⟩, Hq⟩
                                  · clear S0; rintro a w ⟨S0, Hq⟩
                                    have H := HU8; clear HU8
                                    refine nr_then ?_
                                    refine w_seq ?_
                                    refine w_region ?_
                                    refine r_pures [_] S0 rfl ?_
                                    clear S0; intro a0 S0
                                    refine r_ldA [] S0 Hq rfl ti39 [.int .u64 z47x, .int .i64 ((rd e_api_Backend x_l z19x).ID)] rfl rfl rfl ?_
                                    clear S0; intro a0 S0
                                    refine r_lit (e := e_api_Point) (l := ([(⟨z47x, (rd e_api_Backend x_l z19x).ID⟩ : api_Point)] : List api_Point)) (m := 1) (vs := [.agg #[.int .u64 z47x, .int .i64 ((rd e_api_Backend x_l z19x).ID)]]) S0 Hq sl25 ti39 rfl rfl rfl rfl rfl rfl ?_
                                    clear S0 Hq; intro z111b a0 w S0 Hq
                                    by_cases z113h : z34x.length + ([(⟨z47x, (rd e_api_Backend x_l z19x).ID⟩ : api_Point)] : List api_Point).length < 8796093022208
                                    · replace H := (if_pos z113h).symm.trans H
                                      refine r_app [_, _] S0 Hq (own_rd [] Hq) rfl rfl sl25 ti39 rfl z113h rfl rfl ?_
                                      clear S0 Hq; intro z114A z115n a0 w S0 Hq; dsimp only [List.cons_append, List.nil_append] at Hq
                                      refine r_pures [_] S0 rfl ?_
                                      clear S0; intro a0 S0
                                      refine wl_nil ?_
                                      refine nr_then ?_
                                      refine w_seq ?_
                                      refine w_seq ?_
                                      refine w_region ?_
                                      refine r_pures [_] S0 rfl ?_
                                      clear S0; intro a0 S0
                                      refine r_len S0 rfl sl25 rfl ?_
                                      clear S0; intro a0 S0
                                      refine r_pures [_, _] S0 rfl ?_
                                      clear S0; intro a0 S0
                                      refine wl_nil ?_
                                      refine nr_then ?_
                                      obtain ⟨z116x, H, HU10⟩ := Option.bind_eq_some_iff.mp H
                                      refine w_cutT (fun a w => Sl 116 [] [(0, .int .i64 x_points), (1, .slice (some ⟨z40b, z41o, none⟩) x_l.length c1), (9, .slice z114A ((z34x ++ ([(⟨z47x, (rd e_api_Backend x_l z19x).ID⟩ : api_Point)] : List api_Point)).length) z115n), (10, .int .i64 z19x), (11, .int .i64 z33x), (12, .pointer (some ⟨z48b, 0, none⟩)), (13, .int .i64 z84x)] a ∧ HS W0 [bx z48b 39 [.int .u64 z47x, .int .i64 ((rd e_api_Backend x_l z19x).ID)], own e_api_Point 39 z114A ((z34x ++ ([(⟨z47x, (rd e_api_Backend x_l z19x).ID⟩ : api_Point)] : List api_Point)).length) z115n z116x, isH X] w) ?_ ?_
                                      · skip
                                        refine w_block ?_
                                        replace Hq := HS.pull [_, _, _] Hq
                                        dsimp only [List.cons_append, List.nil_append] at Hq
                                        replace Hq := HS.pull [_, _, _] Hq
                                        dsimp only [List.cons_append, List.nil_append] at Hq
                                        replace Hq := HS.pull [_, _, _] Hq
                                        dsimp only [List.cons_append, List.nil_append] at Hq
                                        replace Hq := HS.keep [_, _, _] Hq
                                        refine w_loop (fun kq a w => ∃ z117x z118x, waybillref12_Build.l4 kq x_l z19x z34x z47x z84x z117x z118x = some z116x ∧ Sl 116 [] [(0, .int .i64 x_points), (1, .slice (some ⟨z40b, z41o, none⟩) x_l.length c1), (9, .slice z114A ((z34x ++ ([(⟨z47x, (rd e_api_Backend x_l z19x).ID⟩ : api_Point)] : List api_Point)).length) z115n), (10, .int .i64 z19x), (11, .int .i64 z33x), (12, .pointer (some ⟨z48b, 0, none⟩)), (13, .int .i64 z84x), (14, .int .i64 z117x)] a ∧ HS W0 [bx z48b 39 [.int .u64 z47x, .int .i64 ((rd e_api_Backend x_l z19x).ID)], own e_api_Point 39 z114A ((z34x ++ ([(⟨z47x, (rd e_api_Backend x_l z19x).ID⟩ : api_Point)] : List api_Point)).length) z115n z118x, isH X] w) _ ⟨(IntKind.i64.wrap (((z34x ++ ([(⟨z47x, (rd e_api_Backend x_l z19x).ID⟩ : api_Point)] : List api_Point)).length : Int) - 1)), (z34x ++ ([(⟨z47x, (rd e_api_Backend x_l z19x).ID⟩ : api_Point)] : List api_Point)), H, S0.sub ⟨rfl, rfl, rfl, rfl, rfl, rfl, rfl, rfl, trivial⟩, Hq⟩ ?_
                                        clear H Hq S0
                                        rintro k4 a w ⟨z117x, z118x, H, S0, Hq⟩
                                        cases k4 with
                                        | zero => simp [waybillref12_Build.l4] at H
                                        | succ k4 =>
                                          refine ⟨k4, rfl, ?_⟩
                                          rw [waybillref12_Build.l4] at H
                                          refine w_seq ?_
                                          refine w_seq ?_
                                          refine w_region ?_
                                          refine r_pures [_, _, _] S0 rfl ?_
                                          clear S0; intro a0 S0
                                          refine wl_nil ?_
                                          refine nr_then ?_
                                          by_cases z119h : z84x < z117x
                                          · replace H := (if_pos z119h).symm.trans H
                                            refine w_true S0 rfl (decide_eq_true z119h) ?_
                                            refine w_skip ?_
                                            refine nr_then ?_
                                            refine w_seq ?_
                                            refine w_block ?_
                                            refine w_region ?_
                                            refine r_pures [_, _, _, _, _] S0 rfl ?_
                                            clear S0; intro a0 S0
                                            by_cases z120h : 0 ≤ (IntKind.i64.wrap (z117x - 1))
                                            · replace H := (if_pos z120h).symm.trans H
                                              by_cases z121h : (IntKind.i64.wrap (z117x - 1)) < ((z34x ++ ([(⟨z47x, (rd e_api_Backend x_l z19x).ID⟩ : api_Point)] : List api_Point)).length : Int)
                                              · replace H := (if_pos z121h).symm.trans H
                                                obtain ⟨z122g, rfl⟩ := own_at [_] Hq (by omega)
                                                refine r_index S0 rfl rfl sl25 ti39 z120h z121h rfl ?_
                                                clear S0; intro a0 S0
                                                refine r_elA (vs := [.int .u64 ((rd e_api_Point z118x (IntKind.i64.wrap (z117x - 1))).Hash), .int .i64 ((rd e_api_Point z118x (IntKind.i64.wrap (z117x - 1))).ID)]) S0 (own_rd [_] Hq) z120h z121h rfl ti39 rfl rfl rfl ?_
                                                clear S0; intro a0 S0
                                                by_cases z123h : 0 ≤ z117x
                                                · replace H := (if_pos z123h).symm.trans H
                                                  by_cases z124h : z117x < ((z34x ++ ([(⟨z47x, (rd e_api_Backend x_l z19x).ID⟩ : api_Point)] : List api_Point)).length : Int)
                                                  · replace H := (if_pos z124h).symm.trans H
                                                    refine r_index S0 rfl rfl sl25 ti39 z123h z124h rfl ?_
                                                    clear S0; intro a0 S0
                                                    refine r_elst [_] S0 Hq z123h z124h rfl rfl ti39 [.int .u64 ((rd e_api_Point z118x (IntKind.i64.wrap (z117x - 1))).Hash), .int .i64 ((rd e_api_Point z118x (IntKind.i64.wrap (z117x - 1))).ID)] rfl rfl rfl rfl (rd e_api_Point z118x (IntKind.i64.wrap (z117x - 1))) rfl ?_
                                                    clear Hq; intro w Hq; dsimp only [List.cons_append, List.nil_append] at Hq
                                                    refine wl_nil ?_
                                                    refine nr_in ?_
                                                    refine nr_then ?_
                                                    refine w_region ?_
                                                    refine r_pures [_, _, _] S0 rfl ?_
                                                    clear S0; intro a0 S0
                                                    refine wl_nil ?_
                                                    refine nr_then ?_
                                                    exact ⟨(IntKind.i64.wrap (z117x - 1)), (z118x.set (Int.toNat z117x) (rd e_api_Point z118x (IntKind.i64.wrap (z117x - 1)))), H, S0.sub ⟨rfl, rfl, rfl, rfl, rfl, rfl, rfl, rfl, trivial⟩, Hq⟩
                                                  · replace H := (if_neg z124h).symm.trans H
                                                    exact nomatch H
                                                · replace H := (if_neg z123h).symm.trans H
                                                  exact nomatch H
                                              · replace H := (if_neg z121h).symm.trans H
                                                exact nomatch H
                                            · replace H := (if_neg z120h).symm.trans H
                                              exact nomatch H
                                          · replace H := (if_neg z119h).symm.trans H
                                            refine w_false S0 rfl (decide_eq_false z119h) ?_
                                            refine w_exit ?_
                                            refine ex_then ?_
                                            refine ex_then ?_
                                            refine ex_in ?_
                                            refine nr_then ?_
                                            obtain rfl := Option.some.inj H
                                            exact ⟨S0.sub ⟨rfl, rfl, rfl, rfl, rfl, rfl, rfl, trivial⟩, Hq⟩
                                      · clear S0; rintro a w ⟨S0, Hq⟩
                                        have H := HU10; clear HU10
                                        refine nr_then ?_
                                        refine w_region ?_
                                        refine r_pures [_, _] S0 rfl ?_
                                        clear S0; intro a0 S0
                                        refine r_ldA [] S0 Hq rfl ti39 [.int .u64 z47x, .int .i64 ((rd e_api_Backend x_l z19x).ID)] rfl rfl rfl ?_
                                        clear S0; intro a0 S0
                                        by_cases z125h : 0 ≤ z84x
                                        · replace H := (if_pos z125h).symm.trans H
                                          by_cases z126h : z84x < ((z34x ++ ([(⟨z47x, (rd e_api_Backend x_l z19x).ID⟩ : api_Point)] : List api_Point)).length : Int)
                                          · replace H := (if_pos z126h).symm.trans H
                                            obtain ⟨z127g, rfl⟩ := own_at [_] Hq (by omega)
                                            refine r_index S0 rfl rfl sl25 ti39 z125h z126h rfl ?_
                                            clear S0; intro a0 S0
                                            refine r_elst [_] S0 Hq z125h z126h rfl rfl ti39 [.int .u64 z47x, .int .i64 ((rd e_api_Backend x_l z19x).ID)] rfl rfl rfl rfl (⟨z47x, (rd e_api_Backend x_l z19x).ID⟩ : api_Point) rfl ?_
                                            clear Hq; intro w Hq; dsimp only [List.cons_append, List.nil_append] at Hq
                                            refine wl_nil ?_
                                            refine nr_in ?_
                                            refine nr_then ?_
                                            replace Hq := HS.pull [_, _] Hq
                                            dsimp only [List.cons_append, List.nil_append] at Hq
                                            replace Hq := HS.pull [_, _] Hq
                                            dsimp only [List.cons_append, List.nil_append] at Hq
                                            replace Hq := HS.keep [_, _] Hq
                                            obtain rfl := Option.some.inj H
                                            exact ⟨(some ⟨z127g, 0, none⟩), ((z34x ++ ([(⟨z47x, (rd e_api_Backend x_l z19x).ID⟩ : api_Point)] : List api_Point)).length), z115n, S0.sub ⟨rfl, rfl, rfl, rfl, rfl, trivial⟩, Hq⟩
                                          · replace H := (if_neg z126h).symm.trans H
                                            exact nomatch H
                                        · replace H := (if_neg z125h).symm.trans H
                                          exact nomatch H
                                    · replace H := (if_neg z113h).symm.trans H
                                      exact nomatch H
                              · clear S0; rintro a w ⟨z44A, z45m, z46n, S0, Hq⟩
                                have H := HU6; clear HU6
                                obtain rfl := own_len [] Hq
                                refine nr_then ?_
                                refine w_region ?_
                                refine r_pures [_, _, _] S0 rfl ?_
                                clear S0; intro a0 S0
                                refine wl_nil ?_
                                refine nr_then ?_
                                exact ⟨(IntKind.i64.wrap (z33x + 1)), z43x, z44A, z43x.length, z46n, H, S0.sub ⟨rfl, rfl, rfl, rfl, rfl, trivial⟩, Hq⟩
                            · replace H := (if_neg z42h).symm.trans H
                              refine w_false S0 rfl (decide_eq_false z42h) ?_
                              refine w_exit ?_
                              refine ex_then ?_
                              refine ex_then ?_
                              refine ex_in ?_
                              refine nr_then ?_
                              obtain rfl := Option.some.inj H
                              exact ⟨z35A, z34x.length, z37n, S0.sub ⟨rfl, rfl, rfl, rfl, trivial⟩, Hq⟩
                          · replace H := (if_neg z39h).symm.trans H
                            exact nomatch H
                        · replace H := (if_neg z38h).symm.trans H
                          exact nomatch H
                    · clear S0; rintro a w ⟨z30A, z31m, z32n, S0, Hq⟩
                      have H := HU5; clear HU5
                      obtain rfl := own_len [] Hq
                      refine nr_in ?_
                      refine nr_then ?_
                      obtain rfl := Option.some.inj H
                      exact ⟨z30A, z29x.length, z32n, S0.sub ⟨rfl, rfl, rfl, rfl, trivial⟩, Hq⟩
                  · clear S0; rintro a w ⟨z26A, z27m, z28n, S0, Hq⟩
                    have H := HU4; clear HU4
                    obtain rfl := own_len [] Hq
                    refine nr_then ?_
                    refine w_region ?_
                    refine r_pures [_, _, _] S0 rfl ?_
                    clear S0; intro a0 S0
                    refine wl_nil ?_
                    refine nr_then ?_
                    exact ⟨(IntKind.i64.wrap (z19x + 1)), z25x, z26A, z25x.length, z28n, H, S0.sub ⟨rfl, rfl, rfl, rfl, trivial⟩, Hq⟩
                · replace H := (if_neg z24h).symm.trans H
                  refine w_false S0 rfl (decide_eq_false z24h) ?_
                  refine w_exit ?_
                  refine ex_then ?_
                  refine ex_then ?_
                  refine ex_in ?_
                  refine nr_then ?_
                  obtain rfl := Option.some.inj H
                  exact ⟨z21A, z20x.length, z23n, S0.sub ⟨rfl, trivial⟩, Hq⟩
            · clear S0; rintro a w ⟨z16A, z17m, z18n, S0, Hq⟩
              have H := HU3; clear HU3
              obtain rfl := own_len [] Hq
              refine nr_then ?_
              refine w_seq ?_
              refine w_region ?_
              refine r_pures [_, _, _] S0 rfl ?_
              clear S0; intro a0 S0
              refine wl_nil ?_
              refine nr_then ?_
              refine w_ret ?_
              obtain rfl := Option.some.inj H
              refine ret2 S0 rfl rfl rfl ?_
              replace Hq := HS.pull [_] Hq
              dsimp only [List.cons_append, List.nil_append] at Hq
              replace Hq := HS.pull [_] Hq
              dsimp only [List.cons_append, List.nil_append] at Hq
              exact ⟨z16A, z15x.length, z18n, rfl, Hq⟩
  · replace H := (if_neg z3h).symm.trans H
    refine w_true S0 rfl (congrArg (!·) (decide_eq_false z3h)) ?_
    refine w_seq ?_
    refine w_region ?_
    refine r_pures [_, _, _] S0 rfl ?_
    clear S0; intro a0 S0
    refine wl_nil ?_
    refine nr_then ?_
    refine w_ret ?_
    refine ret_in ?_
    refine ret_then ?_
    obtain rfl := Option.some.inj H
    replace Hq := HS.own_nil e_api_Point 39 Hq
    refine ret2 S0 rfl rfl rfl ?_
    replace Hq := HS.pull [_] Hq
    dsimp only [List.cons_append, List.nil_append] at Hq
    replace Hq := HS.pull [_] Hq
    dsimp only [List.cons_append, List.nil_append] at Hq
    exact ⟨none, 0, 0, rfl, Hq⟩

end Go.Proofs.Ytmdpjijafejgpaa.M

/- Points in order; a ring, built: by the program and by the page. -/
set_option linter.unusedVariables false
set_option linter.unusedSimpArgs false
namespace Go.Proofs.Ytmdpjijafejgpaa.M
open Go Go.Proofs.Ytmdpjijafejgpaa.Sl

def srt (l : List Pt) : List Pt := l.mergeSort fun x y => !(ltOf slices_SortFunc_api_Point_api_Point.cf) y x
theorem le_iff (a b : Pt) : (!(ltOf slices_SortFunc_api_Point_api_Point.cf) b a) = true ↔ ¬ lt b a := by
  rw [Bool.not_eq_true', slices_SortFunc_api_Point_api_Point.lt_iff']; rfl
theorem srt_perm (l : List Pt) : (srt l).Perm l := List.mergeSort_perm _ _
abbrev Srt (l : List Pt) : Prop := l.Pairwise fun a b => ¬ lt b a
theorem srt_sorted (l : List Pt) : Srt (srt l) := by
  have := List.pairwise_mergeSort (le := fun x y => !(ltOf slices_SortFunc_api_Point_api_Point.cf) y x) (fun a b c h1 h2 => by
    rw [le_iff] at *; exact le_trans h1 h2) (fun a b => by
    rw [Bool.or_eq_true, le_iff, le_iff]
    by_cases h : lt b a
    · exact .inr (lt_le h)
    · exact .inl h) l
  exact this.imp fun h => (le_iff _ _).1 h
theorem srt_uniq {l m : List Pt} (h : m.Perm l) (hs : Srt m) : m = srt l :=
  List.Perm.eq_of_pairwise (fun a b _ _ h1 h2 => le_antisymm h2 h1) hs (srt_sorted l) (h.trans (srt_perm l).symm)
theorem srt_len (l : List Pt) : (srt l).length = l.length := (srt_perm l).length_eq

/-- a backend's points from its j-th on; a row's -/
def ptsB (b : B) (j n : Nat) : List Pt := (List.range' j n).map fun (i : Nat) => (⟨hs 1 [b.ID, (i : Int)], b.ID⟩ : Pt)
def cnt (points : Nat) (b : B) : Nat := points * b.Weight.toNat
def pts (points : Nat) (l : List B) : List Pt := l.flatMap fun b => ptsB b 0 (cnt points b)
theorem cnt_ok {points : Nat} {b : B} (hp : points ≤ 64) (hb : mayB b) : IntKind.i64.wrap ((points : Int) * b.Weight) = ((cnt points b : Nat) : Int) ∧ cnt points b ≤ 1024 := by
  obtain ⟨_, _, h1, h2⟩ := hb
  obtain ⟨w, hw⟩ := Int.eq_ofNat_of_zero_le (show 0 ≤ b.Weight by omega)
  have hle : points * w ≤ 64 * 16 := Nat.mul_le_mul hp (by omega)
  unfold cnt
  rw [hw]
  simp only [Int.toNat_natCast]
  rw [show (points : Int) * (w : Int) = ((points * w : Nat) : Int) by simp, W_eq (by omega) (by omega)]
  exact ⟨rfl, by omega⟩
theorem b_l1 (l : List B) (points : Nat) {i : Nat} (hi : i < l.length) (hp : points ≤ 64) (hb : mayB (gb l i)) : ∀ (d j : Nat) (z : List Pt), j + d = cnt points (gb l i) → z.length + d ≤ 4194304 → Ev (fun k => ring_Build.l1 k points l i j z) (z ++ ptsB (gb l i) j d)
  | 0, j, z, h1, h2 => by
    obtain ⟨c1, c2⟩ := cnt_ok hp hb
    refine Ev.succ ?_
    simp only [ring_Build.l1, gb_rd, c1]
    refine Ev.neg (by omega) ?_
    simpa [ptsB] using Ev.ret
  | d + 1, j, z, h1, h2 => by
    obtain ⟨c1, c2⟩ := cnt_ok hp hb
    refine Ev.succ ?_
    simp only [ring_Build.l1, gb_rd, c1]
    refine Ev.pos (by omega) (Ev.bind (pints_ok 1 _ (by simp)) (Ev.pos (by simp; omega) ?_))
    rw [W_succ (by omega)]
    have := b_l1 l points hi hp hb d (j + 1) (z ++ [⟨hs 1 [(gb l i).ID, (j : Int)], (gb l i).ID⟩]) (by omega) (by simp; omega)
    simpa [ptsB, List.range'_succ] using this
theorem dropb (l : List B) {i : Nat} (hi : i < l.length) : l.drop i = gb l i :: l.drop (i + 1) := by
  rw [List.drop_eq_getElem_cons hi, gb, getD_get _ _ _ hi]
theorem ptsB_len (b : B) (j n : Nat) : (ptsB b j n).length = n := by simp [ptsB]
theorem b_l0 (l : List B) (points : Nat) (hp : points ≤ 64) (G : GoodB l) : ∀ (d i : Nat) (z : List Pt), i + d = l.length → z.length ≤ 1024 * i → Ev (fun k => ring_Build.l0 k points l i z) (z ++ pts points (l.drop i))
  | 0, i, z, h1, h2 => by
    rw [List.drop_of_length_le (by omega)]
    refine Ev.succ ?_
    simp only [ring_Build.l0]
    refine Ev.neg (by omega) ?_
    simpa [pts] using Ev.ret
  | d + 1, i, z, h1, h2 => by
    have hl := G.len
    have hi : i < l.length := by omega
    have c2 := (cnt_ok hp (G.may i hi)).2
    rw [dropb l hi]
    refine Ev.succ ?_
    simp only [ring_Build.l0]
    refine Ev.pos (by omega) (Ev.bind (Ev.pos (by omega) (Ev.bind (b_l1 l points hi hp (G.may i hi) _ 0 z (Nat.zero_add _) (by omega)) Ev.ret)) ?_)
    rw [W_succ (by omega)]
    have := b_l0 l points hp G d (i + 1) (z ++ ptsB (gb l i) 0 (cnt points (gb l i))) (by omega) (by rw [List.length_append, ptsB_len]; omega)
    rw [List.append_assoc] at this
    exact this
/-! ### the page's -/
theorem r_l0 (l : List B) (points : Nat) (hp : points ≤ 64) (G : GoodB l) : ∀ (d i n : Nat), i + d = l.length → n ≤ 1024 * i → Ev (fun k => waybillref12_Build.l0 k points l n i) (((n + (pts points (l.drop i)).length : Nat)) : Int)
  | 0, i, n, h1, h2 => by
    rw [List.drop_of_length_le (by omega)]
    refine Ev.succ ?_
    simp only [waybillref12_Build.l0]
    exact Ev.neg (by omega) Ev.ret
  | d + 1, i, n, h1, h2 => by
    have hl := G.len
    have hi : i < l.length := by omega
    obtain ⟨c1, c2⟩ := cnt_ok hp (G.may i hi)
    rw [dropb l hi]
    refine Ev.succ ?_
    simp only [waybillref12_Build.l0, gb_rd, c1]
    refine Ev.pos (by omega) (Ev.pos (by omega) ?_)
    rw [W_succ (by omega), show (n : Int) + ((cnt points (gb l i) : Nat) : Int) = ((n + cnt points (gb l i) : Nat) : Int) by omega, W_eq (by omega) (by omega)]
    have := r_l0 l points hp G d (i + 1) (n + cnt points (gb l i)) (by omega) (by omega)
    rw [show n + (pts points (gb l i :: l.drop (i + 1))).length = n + cnt points (gb l i) + (pts points (l.drop (i + 1))).length by simp [pts, ptsB_len]; omega]
    exact this
theorem drop_gp (l : List Pt) {i : Nat} (hi : i < l.length) : l.drop i = gp l i :: l.drop (i + 1) := by
  rw [List.drop_eq_getElem_cons hi, gp, getD_get _ _ _ hi]
/-- the place of a point -/
theorem r_l3 (l : List B) {i : Nat} (h : Int) (z : List Pt) (hz : z.length ≤ 1024) (hs : Srt z) : ∀ (a : Nat), a ≤ z.length → (∀ x ∈ z.drop a, lt ⟨h, (gb l i).ID⟩ x) → ∃ b : Nat, Ev (fun k => waybillref12_Build.l3 k l i z h a) (b : Int) ∧ b ≤ z.length ∧ (∀ x ∈ z.take b, ¬ lt ⟨h, (gb l i).ID⟩ x) ∧ (∀ x ∈ z.drop b, lt ⟨h, (gb l i).ID⟩ x)
  | 0, h1, h2 => by
    refine ⟨0, ?_, by omega, by simp, h2⟩
    refine Ev.succ ?_
    simp only [waybillref12_Build.l3]
    exact Ev.bind (x := false) (Ev.neg (by omega) Ev.ret) (Ev.neg (by simp) Ev.ret)
  | a + 1, h1, h2 => by
    by_cases c : lt ⟨h, (gb l i).ID⟩ (gp z a)
    · obtain ⟨b, b1, b2, b3, b4⟩ := r_l3 l h z hz hs a (by omega) (fun x hx => by
        rw [drop_gp z (by omega)] at hx
        rcases List.mem_cons.1 hx with rfl | hx
        · exact c
        · exact h2 x hx)
      refine ⟨b, ?_, b2, b3, b4⟩
      refine Ev.succ ?_
      simp only [waybillref12_Build.l3, W_pred (show a + 1 < 4611686018427387904 by omega) (Nat.succ_pos _), gp_rd, gb_rd, behind_ok, Option.bind_some]
      refine Ev.bind (x := true) (Ev.pos (by omega) (Ev.pos (by omega) (Ev.pos (by omega) (Ev.of ?_)))) (Ev.pos rfl b1)
      rw [show a + 1 - 1 = a by omega]; exact congrArg some (decide_eq_true c)
    · refine ⟨a + 1, ?_, h1, fun x hx => ?_, h2⟩
      · refine Ev.succ ?_
        simp only [waybillref12_Build.l3, W_pred (show a + 1 < 4611686018427387904 by omega) (Nat.succ_pos _), gp_rd, gb_rd, behind_ok, Option.bind_some]
        refine Ev.bind (x := false) (Ev.pos (by omega) (Ev.pos (by omega) (Ev.pos (by omega) (Ev.of ?_)))) (Ev.neg (by simp) Ev.ret)
        rw [show a + 1 - 1 = a by omega]; exact congrArg some (decide_eq_false c)
      · rw [List.take_add_one, List.getElem?_eq_getElem (by omega : a < z.length)] at hx
        have e : gp z a = z[a] := getD_get _ _ _ (by omega)
        rcases List.mem_append.1 hx with hx | hx
        · have hp : ¬ lt (gp z a) x := by
            rw [Srt, ← List.take_append_drop a z, drop_gp z (by omega)] at hs
            exact (List.pairwise_append.1 hs).2.2 x hx _ List.mem_cons_self
          exact le_trans hp c
        · simp at hx; subst hx
          rw [← e]; exact c
/-- those behind it go one place on -/
theorem r_l4 (l : List B) {i : Nat} (h : Int) (z : List Pt) (hz : z.length ≤ 1024) {b : Nat} (hb : b ≤ z.length) : ∀ (d m : Nat) (y : List Pt), m = b + d → m ≤ z.length → y.length = z.length + 1 → y.take m = z.take m → y.drop (m + 1) = z.drop m → ∃ y', Ev (fun k => waybillref12_Build.l4 k l i z h b m y) y' ∧ y'.length = z.length + 1 ∧ y'.take b = z.take b ∧ y'.drop (b + 1) = z.drop b
  | 0, m, y, h1, h2, h3, h4, h5 => by
    have : m = b := by omega
    subst this
    refine ⟨y, ?_, h3, h4, h5⟩
    refine Ev.succ ?_
    simp only [waybillref12_Build.l4]
    exact Ev.neg (by omega) Ev.ret
  | d + 1, m, y, h1, h2, h3, h4, h5 => by
    obtain ⟨q, rfl⟩ : ∃ q, m = q + 1 := ⟨m - 1, by omega⟩
    have hg : gp y q = gp z q := by
      have e1 := congrArg (fun w => w.getD q api_Point.zero) h4
      simp only [getD_take _ _ _ _ (Nat.lt_succ_self q)] at e1
      exact e1
    have hlen : ∀ x : Pt, (z ++ ([x] : List Pt)).length = z.length + 1 := fun x => by simp
    obtain ⟨y', r1, r2, r3, r4⟩ := r_l4 l (i := i) h z hz hb d q (y.set (q + 1) (gp y q)) (by omega) (by omega) (by simp [h3]) (by
      rw [List.take_set, List.set_eq_of_length_le (by simp; omega)]
      have := congrArg (List.take q) h4
      rwa [List.take_take, List.take_take, Nat.min_eq_left (by omega)] at this) (by
      rw [List.drop_set, if_neg (by omega), drop_gp y (i := q + 1) (by omega), h5, Nat.sub_self, List.set_cons_zero, hg, ← drop_gp z (by omega)])
    refine ⟨y', ?_, r2, r3, r4⟩
    refine Ev.succ ?_
    simp only [waybillref12_Build.l4, W_pred (show q + 1 < 4611686018427387904 by omega) (Nat.succ_pos _), gp_rd, hlen]
    refine Ev.pos (by omega) (Ev.pos (by omega) (Ev.pos (by omega) (Ev.pos (by omega) (Ev.pos (by omega) ?_))))
    simpa using r1
theorem lt_of (x z : Pt) {t : Pt} (h1 : ¬ lt t x) (h2 : lt t z) : lt x z := by unfold lt at *; omega
theorem r_ins (l : List B) {i : Nat} (h : Int) (z : List Pt) (hz : z.length < 1024) (hs : Srt z) : ∃ (b : Nat) (y : List Pt), Ev (fun k => waybillref12_Build.l3 k l i z h z.length) (b : Int) ∧ Ev (fun k => waybillref12_Build.l4 k l i z h b z.length (z ++ [⟨h, (gb l i).ID⟩])) y ∧ b ≤ z.length ∧ y.length = z.length + 1 ∧ Srt (y.set b ⟨h, (gb l i).ID⟩) ∧ (y.set b ⟨h, (gb l i).ID⟩).Perm (z ++ [⟨h, (gb l i).ID⟩]) := by
  obtain ⟨b, b1, b2, b3, b4⟩ := r_l3 l (i := i) h z (by omega) hs z.length (Nat.le_refl _) (by simp)
  obtain ⟨y, r1, r2, r3, r4⟩ := r_l4 l (i := i) h z (by omega) b2 (z.length - b) z.length (z ++ [⟨h, (gb l i).ID⟩]) (by omega) (Nat.le_refl _) (by simp) (by simp) (by simp)
  have e : y.set b ⟨h, (gb l i).ID⟩ = z.take b ++ ⟨h, (gb l i).ID⟩ :: z.drop b := by rw [List.set_eq_take_append_cons_drop, if_pos (by omega), r3, r4]
  refine ⟨b, y, b1, r1, b2, r2, ?_, ?_⟩
  · rw [e, Srt, List.pairwise_append]
    refine ⟨hs.sublist (List.take_sublist _ _), List.pairwise_cons.2 ⟨fun x hx => lt_le (b4 x hx), hs.sublist (List.drop_sublist _ _)⟩, fun x hx q hq => ?_⟩
    rcases List.mem_cons.1 hq with rfl | hq
    · exact b3 x hx
    · exact lt_le (lt_of x q (b3 x hx) (b4 q hq))
  · rw [e]
    refine List.perm_middle.trans ?_
    rw [List.take_append_drop]
    exact (List.perm_append_singleton _ _).symm
theorem r_l2 (l : List B) (points : Nat) {i : Nat} (hi : i < l.length) (hl : l.length ≤ 32) (hp : points ≤ 64) (hb : mayB (gb l i)) : ∀ (d j : Nat) (z : List Pt), j + d = cnt points (gb l i) → z.length + d ≤ 1024 → Srt z →
    ∃ y, Ev (fun k => waybillref12_Build.l2 k points l i j z) y ∧ Srt y ∧ y.Perm (z ++ ptsB (gb l i) j d)
  | 0, j, z, h1, h2, h3 => by
    obtain ⟨c1, c2⟩ := cnt_ok hp hb
    refine ⟨z, ?_, h3, by simp [ptsB]⟩
    refine Ev.succ ?_
    simp only [waybillref12_Build.l2, gb_rd, c1]
    exact Ev.pos (by omega) (Ev.pos (by omega) (Ev.neg (by omega) Ev.ret))
  | d + 1, j, z, h1, h2, h3 => by
    obtain ⟨c1, c2⟩ := cnt_ok hp hb
    obtain ⟨b, y, b1, b2, b3, b4, b5, b6⟩ := r_ins l (i := i) (hs 1 [(gb l i).ID, (j : Int)]) z (by omega) h3
    obtain ⟨w, w1, w2, w3⟩ := r_l2 l points hi hl hp hb d (j + 1) (y.set b ⟨hs 1 [(gb l i).ID, (j : Int)], (gb l i).ID⟩) (by omega) (by rw [List.length_set]; omega) b5
    have hlen : ∀ x : Pt, (z ++ ([x] : List Pt)).length = z.length + 1 := fun x => by simp
    refine ⟨w, ?_, w2, ?_⟩
    · refine Ev.succ ?_
      simp only [waybillref12_Build.l2, gb_rd, c1, hlen]
      refine Ev.pos (by omega) (Ev.pos (by omega) (Ev.pos (by omega) ?_))
      refine Ev.bind (Ev.bind (Ev.bind (rints_ok 1 _ (by simp)) Ev.ret) (Ev.bind b1 (Ev.pos (by simp; omega) (Ev.bind (x := y) ?_ (Ev.pos (by omega) (Ev.pos (by omega) Ev.ret)))))) ?_
      · rw [W_pred (by omega) (by omega)]; exact b2
      · rw [W_succ (by omega)]; exact w1
    · refine w3.trans ((List.Perm.append_right _ b6).trans ?_)
      simp [ptsB, List.range'_succ]
theorem r_l1 (l : List B) (points : Nat) (hp : points ≤ 64) (G : GoodB l) : ∀ (d i : Nat) (z : List Pt), i + d = l.length → z.length + (pts points (l.drop i)).length ≤ 1024 → Srt z → ∃ y, Ev (fun k => waybillref12_Build.l1 k points l i z) y ∧ Srt y ∧ y.Perm (z ++ pts points (l.drop i))
  | 0, i, z, h1, h2, h3 => by
    refine ⟨z, ?_, h3, by rw [List.drop_of_length_le (by omega)]; simp [pts]⟩
    refine Ev.succ ?_
    simp only [waybillref12_Build.l1]
    exact Ev.neg (by omega) Ev.ret
  | d + 1, i, z, h1, h2, h3 => by
    have hl := G.len
    have hi : i < l.length := by omega
    have e : pts points (l.drop i) = ptsB (gb l i) 0 (cnt points (gb l i)) ++ pts points (l.drop (i + 1)) := by rw [dropb l hi]; rfl
    rw [e, List.length_append, ptsB_len] at h2
    obtain ⟨y, y1, y2, y3⟩ := r_l2 l points hi hl hp (G.may i hi) _ 0 z (Nat.zero_add _) (by omega) h3
    have ylen := y3.length_eq
    rw [List.length_append, ptsB_len] at ylen
    obtain ⟨w, w1, w2, w3⟩ := r_l1 l points hp G d (i + 1) y (by omega) (by omega) y2
    refine ⟨w, ?_, w2, ?_⟩
    · refine Ev.succ ?_
      simp only [waybillref12_Build.l1]
      refine Ev.pos (by omega) (Ev.bind (Ev.bind y1 Ev.ret) ?_)
      rw [W_succ (by omega)]; exact w1
    · rw [e, ← List.append_assoc]
      exact w3.trans (y3.append_right _)
/-- both answers are one: all points, in order -/
theorem build_ok (points : Int) (l : List B) : ∃ q e, Ev (fun k => ring_Build.f k points l) (q, e) ∧ Ev (fun k => waybillref12_Build.f k points l) (q, e) ∧ (e ≠ 0 → q = []) ∧ q.length ≤ 1024 ∧
    (e = 0 ↔ GoodB l ∧ ∃ p : Nat, points = p ∧ 1 ≤ p ∧ p ≤ 64 ∧ (pts p l).length ≤ 1024) ∧ (∀ p : Nat, e = 0 → points = p → q = srt (pts p l)) := by
  obtain ⟨e, h1, h2, h3⟩ := checkB_ok l
  by_cases c : e = 0
  · have G := h3.1 c
    by_cases c1 : points < 1 ∨ 64 < points
    · have hb : Ev (fun _ => if points < 1 then (some true) else (some (decide (64 < points)))) true := by
        rcases c1 with h | h
        · exact Ev.pos h Ev.ret
        · exact Ev.neg (by omega) (Ev.of (by simp [h]))
      refine ⟨[], 4, ?_, ?_, fun _ => rfl, by simp, ⟨fun h => absurd h (by decide), ?_⟩, fun p h => absurd h (by decide)⟩
      · simp only [ring_Build.f]; exact Ev.bind h1 (Ev.pos c (Ev.bind hb (Ev.pos rfl Ev.ret)))
      · simp only [waybillref12_Build.f]; exact Ev.bind h2 (Ev.pos c (Ev.bind hb (Ev.pos rfl Ev.ret)))
      · rintro ⟨_, p, rfl, q1, q2, _⟩; omega
    · obtain ⟨p, rfl⟩ := Int.eq_ofNat_of_zero_le (show 0 ≤ points by omega)
      have hp : p ≤ 64 := by omega
      have hb : Ev (fun _ => if (p : Int) < 1 then (some true) else (some (decide (64 < (p : Int))))) false := Ev.neg (by omega) (Ev.of (by simp; omega))
      have p1 := b_l0 l p hp G l.length 0 [] (Nat.zero_add _) (by simp)
      have p2 := r_l0 l p hp G l.length 0 0 (Nat.zero_add _) (by omega)
      rw [List.drop_zero, List.nil_append] at p1
      rw [List.drop_zero, Nat.zero_add] at p2
      by_cases c2 : (pts p l).length ≤ 1024
      · obtain ⟨y, y1, y2, y3⟩ := r_l1 l p hp G l.length 0 [] (Nat.zero_add _) (by simpa using c2) List.Pairwise.nil
        rw [List.drop_zero, List.nil_append] at y3
        obtain rfl := srt_uniq y3 y2
        refine ⟨srt (pts p l), 0, ?_, ?_, fun h => absurd rfl h, by rw [srt_len]; exact c2, ⟨fun _ => ⟨G, p, rfl, by omega, hp, c2⟩, fun _ => rfl⟩, fun p' _ h => by rw [show p = p' by omega]⟩
        · simp only [ring_Build.f]
          refine Ev.bind h1 (Ev.pos c (Ev.bind hb (Ev.neg (by simp) (Ev.bind p1 (Ev.neg (by omega) (Ev.bind (Ev.of (r := srt (pts p l)) ?_) Ev.ret))))))
          unfold slices_SortFunc_api_Point_api_Point.f
          rw [if_pos (by omega)]; rfl
        · simp only [waybillref12_Build.f]
          exact Ev.bind h2 (Ev.pos c (Ev.bind hb (Ev.neg (by simp) (Ev.bind p2 (Ev.neg (by omega) (Ev.bind y1 Ev.ret))))))
      · refine ⟨[], 5, ?_, ?_, fun _ => rfl, by simp, ⟨fun h => absurd h (by decide), ?_⟩, fun p h => absurd h (by decide)⟩
        · simp only [ring_Build.f]; exact Ev.bind h1 (Ev.pos c (Ev.bind hb (Ev.neg (by simp) (Ev.bind p1 (Ev.pos (by omega) Ev.ret)))))
        · simp only [waybillref12_Build.f]; exact Ev.bind h2 (Ev.pos c (Ev.bind hb (Ev.neg (by simp) (Ev.bind p2 (Ev.pos (by omega) Ev.ret)))))
        · rintro ⟨_, p', q0, q1, q2, q3⟩
          have : p' = p := by omega
          subst this; omega
  · refine ⟨[], e, ?_, ?_, fun _ => rfl, by simp, ⟨fun h => absurd h c, fun h => absurd (h3.2 h.1) c⟩, fun p h => absurd h c⟩
    · simp only [ring_Build.f]; exact Ev.bind h1 (Ev.neg c Ev.ret)
    · simp only [waybillref12_Build.f]; exact Ev.bind h2 (Ev.neg c Ev.ret)
end Go.Proofs.Ytmdpjijafejgpaa.M

/- waybill/waybillref12.Walk: a plain function, and that the machine's call comes to it: printed by a program of the session's own. -/
set_option linter.unusedVariables false
set_option linter.unusedSimpArgs false
namespace Go.Proofs.Ytmdpjijafejgpaa.M
open Go Go.Proofs.Ytmdpjijafejgpaa.Sl
/-! ### waybill/waybillref12.Walk: function 15 -/
def waybillref12_Walk.l0 : Nat → (List api_Point) → Int → Int → Option (Int)
  | 0, _, _, _ => none
  | k + 1, x_r, x_hash, z6x => ((if z6x < (x_r.length : Int) then (if 0 ≤ z6x then (some (decide (((rd e_api_Point x_r z6x).Hash) < x_hash))) else (none)) else (some false)) : Option (Bool)).bind fun z7x => (if z7x = true then (waybillref12_Walk.l0 k x_r x_hash (IntKind.i64.wrap (z6x + 1))) else (some z6x))
def waybillref12_Walk.l2 : Nat → (List api_Point) → Int → Int → (List Int) → Bool → Int → Option (Bool)
  | 0, _, _, _, _, _, _ => none
  | k + 1, x_r, z5x, z17x, z18x, z33x, z34x => if z34x < (z18x.length : Int) then (((if z33x = true then (some true) else (if 0 ≤ z34x then (some (decide ((rd e_i64 z18x z34x) = ((rd e_api_Point x_r ((IntKind.i64.wrap (z5x + z17x)).tmod (x_r.length : Int))).ID)))) else (none))) : Option (Bool)).bind fun z36x => (waybillref12_Walk.l2 k x_r z5x z17x z18x z36x (IntKind.i64.wrap (z34x + 1)))) else (some z33x)
def waybillref12_Walk.l1 : Nat → (List api_Point) → Int → Int → (List Int) → Option ((List Int))
  | 0, _, _, _, _ => none
  | k + 1, x_r, z5x, z17x, z18x => if z17x < (x_r.length : Int) then (((if (x_r.length : Int) = 0 then (none) else (if 0 ≤ ((IntKind.i64.wrap (z5x + z17x)).tmod (x_r.length : Int)) then (if ((IntKind.i64.wrap (z5x + z17x)).tmod (x_r.length : Int)) < (x_r.length : Int) then ((((waybillref12_Walk.l2 k x_r z5x z17x z18x false 0)) : Option (Bool)).bind fun z32x => (((if z32x = true then (some z18x) else (if z18x.length + ([(rd e_api_Point x_r ((IntKind.i64.wrap (z5x + z17x)).tmod (x_r.length : Int))).ID] : List Int).length < 17592186044416 then (some (z18x ++ ([(rd e_api_Point x_r ((IntKind.i64.wrap (z5x + z17x)).tmod (x_r.length : Int))).ID] : List Int))) else (none))) : Option ((List Int))).bind fun z40x => (some z40x))) else (none)) else (none))) : Option ((List Int))).bind fun z23x => (waybillref12_Walk.l1 k x_r z5x (IntKind.i64.wrap (z17x + 1)) z23x)) else (some z18x)
def waybillref12_Walk.f (k : Nat) (x_r : List api_Point) (x_hash : Int) : Option ((List Int) × Int) := (waybillref12_Whole.f k x_r).bind fun z2t => (if z2t = 0 then (if (x_r.length : Int) = 0 then (some (([] : List Int), 71)) else ((((waybillref12_Walk.l0 k x_r x_hash 0)) : Option (Int)).bind fun z5x => ((((waybillref12_Walk.l1 k x_r z5x 0 ([] : List Int))) : Option ((List Int))).bind fun z13x => (some (z13x, 0))))) else (some (([] : List Int), z2t)))
set_option maxRecDepth 100000 in
set_option maxHeartbeats 4000000 in
theorem waybillref12_Walk.calls (k : Nat) (A0 : Option Addr) (n0 c0 : Nat) (x_r : List api_Point) (x_hash : Int) (W0 : World) (X : Heap) (HR0 : Rd e_api_Point X A0 n0 c0 x_r) (Hq : HS W0 [isH X] W0) (r : (List Int) × Int) (H : waybillref12_Walk.f k x_r x_hash = some r) :
    Calls Try.prog 15 #[.slice A0 n0 c0, .int .u64 x_hash] W0 (fun e w => ∃ Ar0 nr0 cr0, e = .returned (.tuple #[.slice Ar0 nr0 cr0, .int .i64 r.2]) ∧ HS W0 [own e_i64 3 Ar0 nr0 cr0 r.1, isH X] w) := by
  obtain rfl := HR0.1
  rw [waybillref12_Walk.f] at H
  refine calls_in Try.func15 rfl rfl ?_
  intro a0 S0
  refine w_seq ?_
  refine w_region ?_
  refine r_pures [_, _] S0 rfl ?_
  clear S0; intro a0 S0
  refine wl_nil ?_
  refine nr_then ?_
  refine w_seq ?_
  refine w_region ?_
  refine r_pures [_] S0 rfl ?_
  clear S0; intro a0 S0
  obtain ⟨Xz1, HXz1, HPz1, HBz1⟩ := call_frame [] Hq
  dsimp only [List.cons_append, List.nil_append] at HXz1 HBz1
  obtain ⟨z2t, Hc, H⟩ := Option.bind_eq_some_iff.mp H
  refine r_call S0 rfl rfl goes23 rfl ?_
  refine (waybillref12_Whole.calls _ _ _ _ x_r _ _ (sl_isH_rd [] HPz1 HR0) HXz1 z2t Hc).mono ?_
  rintro e w ⟨rfl, Hq'⟩
  have Hq : HS W0 [isH X] w := HBz1 [] _ Hq'
  clear HXz1 HPz1 HBz1 Hq'
  refine ⟨.int .i64 z2t, rfl, ?_⟩; clear S0; intro a0 S0
  refine r_pures [_] S0 rfl ?_
  clear S0; intro a0 S0
  refine wl_nil ?_
  refine nr_then ?_
  refine w_seq ?_
  refine w_block ?_
  refine w_seq ?_
  refine w_region ?_
  refine r_pures [_, _, _] S0 rfl ?_
  clear S0; intro a0 S0
  refine wl_nil ?_
  refine nr_then ?_
  by_cases z3h : z2t = 0
  · replace H := (if_pos z3h).symm.trans H
    refine w_false S0 rfl (congrArg (!·) (decide_eq_true z3h)) ?_
    refine w_seq ?_
    refine w_region ?_
    refine r_pures [_] S0 rfl ?_
    clear S0; intro a0 S0
    refine r_len S0 rfl sl25 rfl ?_
    clear S0; intro a0 S0
    refine r_pures [_, _] S0 rfl ?_
    clear S0; intro a0 S0
    refine wl_nil ?_
    refine nr_then ?_
    by_cases z4h : (x_r.length : Int) = 0
    · replace H := (if_pos z4h).symm.trans H
      refine w_true S0 rfl (decide_eq_true z4h) ?_
      refine w_seq ?_
      refine w_region ?_
      refine r_pures [_, _] S0 rfl ?_
      clear S0; intro a0 S0
      refine wl_nil ?_
      refine nr_then ?_
      refine w_ret ?_
      refine ret_in ?_
      refine ret_then ?_
      obtain rfl := Option.some.inj H
      replace Hq := HS.own_nil e_i64 3 Hq
      refine ret2 S0 rfl rfl rfl ?_
      replace Hq := HS.pull [_] Hq
      dsimp only [List.cons_append, List.nil_append] at Hq
      replace Hq := HS.pull [_] Hq
      dsimp only [List.cons_append, List.nil_append] at Hq
      exact ⟨none, 0, 0, rfl, Hq⟩
    · replace H := (if_neg z4h).symm.trans H
      refine w_false S0 rfl (decide_eq_false z4h) ?_
      refine w_skip ?_
      refine nr_in ?_
      refine nr_then ?_
      refine w_seq ?_
      refine w_region ?_
      refine r_pures [_] S0 rfl ?_
      clear S0; intro a0 S0
      refine wl_nil ?_
      refine nr_then ?_
      refine w_seq ?_
      obtain ⟨z5x, H, HU1⟩ := Option.bind_eq_some_iff.mp H
      refine w_cutT (fun a w => Sl 76 [] [(0, .slice A0 x_r.length c0), (7, .int .i64 z5x)] a ∧ HS W0 [isH X] w) ?_ ?_
      · skip
        refine w_block ?_
        refine w_loop (fun kq a w => ∃ z6x, waybillref12_Walk.l0 kq x_r x_hash z6x = some z5x ∧ Sl 76 [] [(0, .slice A0 x_r.length c0), (1, .int .u64 x_hash), (7, .int .i64 z6x)] a ∧ HS W0 [isH X] w) _ ⟨0, H, S0.sub ⟨rfl, rfl, rfl, trivial⟩, Hq⟩ ?_
        clear H Hq S0
        rintro k0 a w ⟨z6x, H, S0, Hq⟩
        cases k0 with
        | zero => simp [waybillref12_Walk.l0] at H
        | succ k0 =>
          refine ⟨k0, rfl, ?_⟩
          rw [waybillref12_Walk.l0] at H
          refine w_seq ?_
          refine w_seq ?_
          obtain ⟨z7x, H, HU2⟩ := Option.bind_eq_some_iff.mp H
          refine w_cutT (fun a w => Sl 76 [] [(0, .slice A0 x_r.length c0), (1, .int .u64 x_hash), (7, .int .i64 z6x), (35, .bool z7x)] a ∧ HS W0 [isH X] w) ?_ ?_
          · skip
            refine w_region ?_
            refine r_pures [_, _] S0 rfl ?_
            clear S0; intro a0 S0
            refine r_len S0 rfl sl25 rfl ?_
            clear S0; intro a0 S0
            refine r_pures [_, _] S0 rfl ?_
            clear S0; intro a0 S0
            by_cases z8h : z6x < (x_r.length : Int)
            · replace H := (if_pos z8h).symm.trans H
              refine r_on S0 rfl rfl rfl (decide_eq_true z8h) ?_
              refine r_pures [_] S0 rfl ?_
              clear S0; intro a0 S0
              refine r_on S0 rfl rfl rfl (decide_eq_true z8h) ?_
              refine r_pures [_] S0 rfl ?_
              clear S0; intro a0 S0
              refine r_on S0 rfl rfl rfl (decide_eq_true z8h) ?_
              by_cases z9h : 0 ≤ z6x
              · replace H := (if_pos z9h).symm.trans H
                obtain ⟨z10b, z11o, rfl⟩ := (isH_rd [] Hq HR0).at (by omega)
                refine r_index S0 rfl rfl sl25 ti39 z9h z8h rfl ?_
                clear S0; intro a0 S0
                refine r_on S0 rfl rfl rfl (decide_eq_true z8h) ?_
                refine r_fieldAddr S0 rfl fo39x0 (z11o + Int.toNat z6x * 2 + 0) rfl rfl ?_
                clear S0; intro a0 S0
                refine r_on S0 rfl rfl rfl (decide_eq_true z8h) ?_
                refine r_elS S0 (isH_rd [] Hq HR0) z9h z8h rfl ti23 _ rfl rfl ?_
                clear S0; intro a0 S0
                refine r_on S0 rfl rfl rfl (decide_eq_true z8h) ?_
                refine r_pures [_] S0 rfl ?_
                clear S0; intro a0 S0
                refine r_on S0 rfl rfl rfl (decide_eq_true z8h) ?_
                refine r_pures [_] S0 rfl ?_
                clear S0; intro a0 S0
                refine r_pick S0 rfl (decide_eq_true z8h) _ rfl rfl ?_
                clear S0; intro a0 S0
                refine wl_nil ?_
                refine nr_then ?_
                obtain rfl := Option.some.inj H
                exact ⟨S0.sub ⟨rfl, rfl, rfl, rfl, trivial⟩, Hq⟩
              · replace H := (if_neg z9h).symm.trans H
                exact nomatch H
            · replace H := (if_neg z8h).symm.trans H
              refine r_off S0 rfl rfl rfl (decide_eq_false z8h) ?_ rfl
              clear S0; intro a0 S0
              refine r_off S0 rfl rfl rfl (decide_eq_false z8h) ?_ rfl
              clear S0; intro a0 S0
              refine r_off S0 rfl rfl rfl (decide_eq_false z8h) ?_ rfl
              clear S0; intro a0 S0
              refine r_off S0 rfl rfl rfl (decide_eq_false z8h) ?_ rfl
              clear S0; intro a0 S0
              refine r_off S0 rfl rfl rfl (decide_eq_false z8h) ?_ rfl
              clear S0; intro a0 S0
              refine r_off S0 rfl rfl rfl (decide_eq_false z8h) ?_ rfl
              clear S0; intro a0 S0
              refine r_off S0 rfl rfl rfl (decide_eq_false z8h) ?_ rfl
              clear S0; intro a0 S0
              refine r_pick S0 rfl (decide_eq_false z8h) _ rfl rfl ?_
              clear S0; intro a0 S0
              refine wl_nil ?_
              refine nr_then ?_
              obtain rfl := Option.some.inj H
              exact ⟨S0.sub ⟨rfl, rfl, rfl, rfl, trivial⟩, Hq⟩
          · clear S0; rintro a w ⟨S0, Hq⟩
            have H := HU2; clear HU2
            refine nr_then ?_
            by_cases z12h : z7x = true
            · replace H := (if_pos z12h).symm.trans H
              refine w_true S0 rfl z12h ?_
              refine w_skip ?_
              refine nr_then ?_
              refine w_block ?_
              refine w_region ?_
              refine r_pures [_, _, _] S0 rfl ?_
              clear S0; intro a0 S0
              refine wl_nil ?_
              refine nr_in ?_
              refine nr_then ?_
              exact ⟨(IntKind.i64.wrap (z6x + 1)), H, S0.sub ⟨rfl, rfl, rfl, trivial⟩, Hq⟩
            · replace H := (if_neg z12h).symm.trans H
              refine w_false S0 rfl (Bool.eq_false_iff.mpr z12h) ?_
              refine w_exit ?_
              refine ex_then ?_
              refine ex_then ?_
              refine ex_in ?_
              refine nr_then ?_
              obtain rfl := Option.some.inj H
              exact ⟨S0.sub ⟨rfl, rfl, trivial⟩, Hq⟩
      · clear S0; rintro a w ⟨S0, Hq⟩
        have H := HU1; clear HU1
        refine nr_then ?_
        refine w_seq ?_
        refine w_region ?_
        refine r_pures [_] S0 rfl ?_
        clear S0; intro a0 S0
        refine wl_nil ?_
        refine nr_then ?_
        refine w_seq ?_
        refine w_seq ?_
        refine w_region ?_
        refine r_pures [_] S0 rfl ?_
        clear S0; intro a0 S0
        refine wl_nil ?_
        refine nr_then ?_
        replace Hq := HS.own_nil e_i64 3 Hq
        obtain ⟨z13x, H, HU3⟩ := Option.bind_eq_some_iff.mp H
        refine w_cutT (fun a w => ∃ z14A z15m z16n, Sl 76 [] [(8, .slice z14A z15m z16n)] a ∧ HS W0 [own e_i64 3 z14A z15m z16n z13x, isH X] w) ?_ ?_
        · skip
          refine w_block ?_
          refine w_loop (fun kq a w => ∃ z17x z18x z19A z20m z21n, waybillref12_Walk.l1 kq x_r z5x z17x z18x = some z13x ∧ Sl 76 [] [(0, .slice A0 x_r.length c0), (7, .int .i64 z5x), (8, .slice z19A z20m z21n), (9, .int .i64 z17x)] a ∧ HS W0 [own e_i64 3 z19A z20m z21n z18x, isH X] w) _ ⟨0, ([] : List Int), none, 0, 0, H, S0.sub ⟨rfl, rfl, rfl, rfl, trivial⟩, Hq⟩ ?_
          clear H Hq S0
          rintro k1 a w ⟨z17x, z18x, z19A, z20m, z21n, H, S0, Hq⟩
          cases k1 with
          | zero => simp [waybillref12_Walk.l1] at H
          | succ k1 =>
            refine ⟨k1, rfl, ?_⟩
            rw [waybillref12_Walk.l1] at H
            obtain rfl := own_len [] Hq
            refine w_seq ?_
            refine w_seq ?_
            refine w_region ?_
            refine r_pures [_, _] S0 rfl ?_
            clear S0; intro a0 S0
            refine r_len S0 rfl sl25 rfl ?_
            clear S0; intro a0 S0
            refine r_pures [_] S0 rfl ?_
            clear S0; intro a0 S0
            refine wl_nil ?_
            refine nr_then ?_
            by_cases z22h : z17x < (x_r.length : Int)
            · replace H := (if_pos z22h).symm.trans H
              refine w_true S0 rfl (decide_eq_true z22h) ?_
              refine w_skip ?_
              refine nr_then ?_
              refine w_seq ?_
              obtain ⟨z23x, H, HU4⟩ := Option.bind_eq_some_iff.mp H
              refine w_cutT (fun a w => ∃ z24A z25m z26n, Sl 76 [] [(0, .slice A0 x_r.length c0), (7, .int .i64 z5x), (8, .slice z24A z25m z26n), (9, .int .i64 z17x)] a ∧ HS W0 [own e_i64 3 z24A z25m z26n z23x, isH X] w) ?_ ?_
              · skip
                refine w_block ?_
                refine w_seq ?_
                refine w_region ?_
                refine r_pures [_, _, _, _, _] S0 rfl ?_
                clear S0; intro a0 S0
                refine r_len S0 rfl sl25 rfl ?_
                clear S0; intro a0 S0
                by_cases z27h : (x_r.length : Int) = 0
                · replace H := (if_pos z27h).symm.trans H
                  exact nomatch H
                · replace H := (if_neg z27h).symm.trans H
                  refine r_rem S0 rfl rfl z27h rfl ?_
                  clear S0; intro a0 S0
                  by_cases z28h : 0 ≤ ((IntKind.i64.wrap (z5x + z17x)).tmod (x_r.length : Int))
                  · replace H := (if_pos z28h).symm.trans H
                    by_cases z29h : ((IntKind.i64.wrap (z5x + z17x)).tmod (x_r.length : Int)) < (x_r.length : Int)
                    · replace H := (if_pos z29h).symm.trans H
                      obtain ⟨z30b, z31o, rfl⟩ := (isH_rd [_] Hq HR0).at (by omega)
                      refine r_index S0 rfl rfl sl25 ti39 z28h z29h rfl ?_
                      clear S0; intro a0 S0
                      refine r_fieldAddr S0 rfl fo39x1 (z31o + Int.toNat ((IntKind.i64.wrap (z5x + z17x)).tmod (x_r.length : Int)) * 2 + 1) rfl rfl ?_
                      clear S0; intro a0 S0
                      refine r_elS S0 (isH_rd [_] Hq HR0) z28h z29h rfl ti3 _ rfl rfl ?_
                      clear S0; intro a0 S0
                      refine r_pures [_] S0 rfl ?_
                      clear S0; intro a0 S0
                      refine wl_nil ?_
                      refine nr_then ?_
                      refine w_seq ?_
                      refine w_region ?_
                      refine r_pures [_] S0 rfl ?_
                      clear S0; intro a0 S0
                      refine wl_nil ?_
                      refine nr_then ?_
                      refine w_seq ?_
                      refine w_seq ?_
                      refine w_region ?_
                      refine r_pures [_] S0 rfl ?_
                      clear S0; intro a0 S0
                      refine wl_nil ?_
                      refine nr_then ?_
                      obtain ⟨z32x, H, HU5⟩ := Option.bind_eq_some_iff.mp H
                      refine w_cutT (fun a w => Sl 76 [] [(0, .slice (some ⟨z30b, z31o, none⟩) x_r.length c0), (7, .int .i64 z5x), (8, .slice z19A z18x.length z21n), (9, .int .i64 z17x), (10, .int .i64 ((rd e_api_Point x_r ((IntKind.i64.wrap (z5x + z17x)).tmod (x_r.length : Int))).ID)), (11, .bool z32x)] a ∧ HS W0 [own e_i64 3 z19A z18x.length z21n z18x, isH X] w) ?_ ?_
                      · skip
                        refine w_block ?_
                        refine w_loop (fun kq a w => ∃ z33x z34x, waybillref12_Walk.l2 kq x_r z5x z17x z18x z33x z34x = some z32x ∧ Sl 76 [] [(0, .slice (some ⟨z30b, z31o, none⟩) x_r.length c0), (7, .int .i64 z5x), (8, .slice z19A z18x.length z21n), (9, .int .i64 z17x), (10, .int .i64 ((rd e_api_Point x_r ((IntKind.i64.wrap (z5x + z17x)).tmod (x_r.length : Int))).ID)), (11, .bool z33x), (12, .int .i64 z34x)] a ∧ HS W0 [own e_i64 3 z19A z18x.length z21n z18x, isH X] w) _ ⟨false, 0, H, S0.sub ⟨rfl, rfl, rfl, rfl, rfl, rfl, rfl, trivial⟩, Hq⟩ ?_
                        clear H Hq S0
                        rintro k2 a w ⟨z33x, z34x, H, S0, Hq⟩
                        cases k2 with
                        | zero => simp [waybillref12_Walk.l2] at H
                        | succ k2 =>
                          refine ⟨k2, rfl, ?_⟩
                          rw [waybillref12_Walk.l2] at H
                          refine w_seq ?_
                          refine w_seq ?_
                          refine w_region ?_
                          refine r_pures [_, _] S0 rfl ?_
                          clear S0; intro a0 S0
                          refine r_len S0 rfl sl32 rfl ?_
                          clear S0; intro a0 S0
                          refine r_pures [_] S0 rfl ?_
                          clear S0; intro a0 S0
                          refine wl_nil ?_
                          refine nr_then ?_
                          by_cases z35h : z34x < (z18x.length : Int)
                          · replace H := (if_pos z35h).symm.trans H
                            refine w_true S0 rfl (decide_eq_true z35h) ?_
                            refine w_skip ?_
                            refine nr_then ?_
                            refine w_seq ?_
                            refine w_block ?_
                            obtain ⟨z36x, H, HU6⟩ := Option.bind_eq_some_iff.mp H
                            refine w_cutT (fun a w => Sl 76 [] [(0, .slice (some ⟨z30b, z31o, none⟩) x_r.length c0), (7, .int .i64 z5x), (8, .slice z19A z18x.length z21n), (9, .int .i64 z17x), (10, .int .i64 ((rd e_api_Point x_r ((IntKind.i64.wrap (z5x + z17x)).tmod (x_r.length : Int))).ID)), (11, .bool z36x), (12, .int .i64 z34x)] a ∧ HS W0 [own e_i64 3 z19A z18x.length z21n z18x, isH X] w) ?_ ?_
                            · skip
                              refine w_region ?_
                              refine r_pures [_, _] S0 rfl ?_
                              clear S0; intro a0 S0
                              by_cases z37h : z33x = true
                              · replace H := (if_pos z37h).symm.trans H
                                refine r_off S0 rfl rfl rfl z37h ?_ rfl
                                clear S0; intro a0 S0
                                refine r_off S0 rfl rfl rfl z37h ?_ rfl
                                clear S0; intro a0 S0
                                refine r_off S0 rfl rfl rfl z37h ?_ rfl
                                clear S0; intro a0 S0
                                refine r_off S0 rfl rfl rfl z37h ?_ rfl
                                clear S0; intro a0 S0
                                refine r_off S0 rfl rfl rfl z37h ?_ rfl
                                clear S0; intro a0 S0
                                refine r_off S0 rfl rfl rfl z37h ?_ rfl
                                clear S0; intro a0 S0
                                refine r_pick S0 rfl z37h _ rfl rfl ?_
                                clear S0; intro a0 S0
                                refine r_pures [_] S0 rfl ?_
                                clear S0; intro a0 S0
                                refine wl_nil ?_
                                refine nr_then ?_
                                obtain rfl := Option.some.inj H
                                exact ⟨S0.sub ⟨rfl, rfl, rfl, rfl, rfl, rfl, rfl, trivial⟩, Hq⟩
                              · replace H := (if_neg z37h).symm.trans H
                                refine r_on S0 rfl rfl rfl (Bool.eq_false_iff.mpr z37h) ?_
                                refine r_pures [_] S0 rfl ?_
                                clear S0; intro a0 S0
                                refine r_on S0 rfl rfl rfl (Bool.eq_false_iff.mpr z37h) ?_
                                refine r_pures [_] S0 rfl ?_
                                clear S0; intro a0 S0
                                refine r_on S0 rfl rfl rfl (Bool.eq_false_iff.mpr z37h) ?_
                                by_cases z38h : 0 ≤ z34x
                                · replace H := (if_pos z38h).symm.trans H
                                  obtain ⟨z39g, rfl⟩ := own_at [] Hq (by omega)
                                  refine r_index S0 rfl rfl sl32 ti3 z38h z35h rfl ?_
                                  clear S0; intro a0 S0
                                  refine r_on S0 rfl rfl rfl (Bool.eq_false_iff.mpr z37h) ?_
                                  refine r_elS S0 (own_rd [] Hq) z38h z35h rfl ti3 _ rfl rfl ?_
                                  clear S0; intro a0 S0
                                  refine r_on S0 rfl rfl rfl (Bool.eq_false_iff.mpr z37h) ?_
                                  refine r_pures [_] S0 rfl ?_
                                  clear S0; intro a0 S0
                                  refine r_on S0 rfl rfl rfl (Bool.eq_false_iff.mpr z37h) ?_
                                  refine r_pures [_] S0 rfl ?_
                                  clear S0; intro a0 S0
                                  refine r_pick S0 rfl (Bool.eq_false_iff.mpr z37h) _ rfl rfl ?_
                                  clear S0; intro a0 S0
                                  refine r_pures [_] S0 rfl ?_
                                  clear S0; intro a0 S0
                                  refine wl_nil ?_
                                  refine nr_then ?_
                                  obtain rfl := Option.some.inj H
                                  exact ⟨S0.sub ⟨rfl, rfl, rfl, rfl, rfl, rfl, rfl, trivial⟩, Hq⟩
                                · replace H := (if_neg z38h).symm.trans H
                                  exact nomatch H
                            · clear S0; rintro a w ⟨S0, Hq⟩
                              have H := HU6; clear HU6
                              refine nr_in ?_
                              refine nr_then ?_
                              refine w_region ?_
                              refine r_pures [_, _, _] S0 rfl ?_
                              clear S0; intro a0 S0
                              refine wl_nil ?_
                              refine nr_then ?_
                              exact ⟨z36x, (IntKind.i64.wrap (z34x + 1)), H, S0.sub ⟨rfl, rfl, rfl, rfl, rfl, rfl, rfl, trivial⟩, Hq⟩
                          · replace H := (if_neg z35h).symm.trans H
                            refine w_false S0 rfl (decide_eq_false z35h) ?_
                            refine w_exit ?_
                            refine ex_then ?_
                            refine ex_then ?_
                            refine ex_in ?_
                            refine nr_then ?_
                            obtain rfl := Option.some.inj H
                            exact ⟨S0.sub ⟨rfl, rfl, rfl, rfl, rfl, rfl, trivial⟩, Hq⟩
                      · clear S0; rintro a w ⟨S0, Hq⟩
                        have H := HU5; clear HU5
                        refine nr_then ?_
                        refine w_seq ?_
                        refine w_region ?_
                        refine r_pures [_, _] S0 rfl ?_
                        clear S0; intro a0 S0
                        refine wl_nil ?_
                        refine nr_then ?_
                        obtain ⟨z40x, H, HU7⟩ := Option.bind_eq_some_iff.mp H
                        refine w_cutT (fun a w => ∃ z41A z42m z43n, Sl 76 [] [(0, .slice (some ⟨z30b, z31o, none⟩) x_r.length c0), (7, .int .i64 z5x), (8, .slice z41A z42m z43n), (9, .int .i64 z17x)] a ∧ HS W0 [own e_i64 3 z41A z42m z43n z40x, isH X] w) ?_ ?_
                        · skip
                          by_cases z44h : z32x = true
                          · replace H := (if_pos z44h).symm.trans H
                            refine w_false S0 rfl (congrArg (!·) z44h) ?_
                            refine w_skip ?_
                            refine nr_then ?_
                            obtain rfl := Option.some.inj H
                            exact ⟨z19A, z18x.length, z21n, S0.sub ⟨rfl, rfl, rfl, rfl, trivial⟩, Hq⟩
                          · replace H := (if_neg z44h).symm.trans H
                            refine w_true S0 rfl (congrArg (!·) (Bool.eq_false_iff.mpr z44h)) ?_
                            refine w_region ?_
                            refine r_pures [_, _] S0 rfl ?_
                            clear S0; intro a0 S0
                            refine r_lit (e := e_i64) (l := ([(rd e_api_Point x_r ((IntKind.i64.wrap (z5x + z17x)).tmod (x_r.length : Int))).ID] : List Int)) (m := 1) (vs := [.int .i64 ((rd e_api_Point x_r ((IntKind.i64.wrap (z5x + z17x)).tmod (x_r.length : Int))).ID)]) S0 Hq sl32 ti3 rfl rfl rfl rfl rfl rfl ?_
                            clear S0 Hq; intro z45b a0 w S0 Hq
                            by_cases z47h : z18x.length + ([(rd e_api_Point x_r ((IntKind.i64.wrap (z5x + z17x)).tmod (x_r.length : Int))).ID] : List Int).length < 17592186044416
                            · replace H := (if_pos z47h).symm.trans H
                              refine r_app [_] S0 Hq (own_rd [] Hq) rfl rfl sl32 ti3 rfl z47h rfl rfl ?_
                              clear S0 Hq; intro z48A z49n a0 w S0 Hq; dsimp only [List.cons_append, List.nil_append] at Hq
                              refine r_pures [_] S0 rfl ?_
                              clear S0; intro a0 S0
                              refine wl_nil ?_
                              refine nr_then ?_
                              replace Hq := HS.pull [_, _] Hq
                              dsimp only [List.cons_append, List.nil_append] at Hq
                              replace Hq := HS.pull [_, _] Hq
                              dsimp only [List.cons_append, List.nil_append] at Hq
                              replace Hq := HS.keep [_, _] Hq
                              obtain rfl := Option.some.inj H
                              exact ⟨z48A, ((z18x ++ ([(rd e_api_Point x_r ((IntKind.i64.wrap (z5x + z17x)).tmod (x_r.length : Int))).ID] : List Int)).length), z49n, S0.sub ⟨rfl, rfl, rfl, rfl, trivial⟩, Hq⟩
                            · replace H := (if_neg z47h).symm.trans H
                              exact nomatch H
                        · clear S0; rintro a w ⟨z41A, z42m, z43n, S0, Hq⟩
                          have H := HU7; clear HU7
                          obtain rfl := own_len [] Hq
                          refine nr_in ?_
                          refine nr_then ?_
                          obtain rfl := Option.some.inj H
                          exact ⟨z41A, z40x.length, z43n, S0.sub ⟨rfl, rfl, rfl, rfl, trivial⟩, Hq⟩
                    · replace H := (if_neg z29h).symm.trans H
                      exact nomatch H
                  · replace H := (if_neg z28h).symm.trans H
                    exact nomatch H
              · clear S0; rintro a w ⟨z24A, z25m, z26n, S0, Hq⟩
                have H := HU4; clear HU4
                obtain rfl := own_len [] Hq
                refine nr_then ?_
                refine w_region ?_
                refine r_pures [_, _, _] S0 rfl ?_
                clear S0; intro a0 S0
                refine wl_nil ?_
                refine nr_then ?_
                exact ⟨(IntKind.i64.wrap (z17x + 1)), z23x, z24A, z23x.length, z26n, H, S0.sub ⟨rfl, rfl, rfl, rfl, trivial⟩, Hq⟩
            · replace H := (if_neg z22h).symm.trans H
              refine w_false S0 rfl (decide_eq_false z22h) ?_
              refine w_exit ?_
              refine ex_then ?_
              refine ex_then ?_
              refine ex_in ?_
              refine nr_then ?_
              obtain rfl := Option.some.inj H
              exact ⟨z19A, z18x.length, z21n, S0.sub ⟨rfl, trivial⟩, Hq⟩
        · clear S0; rintro a w ⟨z14A, z15m, z16n, S0, Hq⟩
          have H := HU3; clear HU3
          obtain rfl := own_len [] Hq
          refine nr_then ?_
          refine w_seq ?_
          refine w_region ?_
          refine r_pures [_, _, _] S0 rfl ?_
          clear S0; intro a0 S0
          refine wl_nil ?_
          refine nr_then ?_
          refine w_ret ?_
          obtain rfl := Option.some.inj H
          refine ret2 S0 rfl rfl rfl ?_
          replace Hq := HS.pull [_] Hq
          dsimp only [List.cons_append, List.nil_append] at Hq
          replace Hq := HS.pull [_] Hq
          dsimp only [List.cons_append, List.nil_append] at Hq
          exact ⟨z14A, z13x.length, z16n, rfl, Hq⟩
  · replace H := (if_neg z3h).symm.trans H
    refine w_true S0 rfl (congrArg (!·) (decide_eq_false z3h)) ?_
    refine w_seq ?_
    refine w_region ?_
    refine r_pures [_, _, _] S0 rfl ?_
    clear S0; intro a0 S0
    refine wl_nil ?_
    refine nr_then ?_
    refine w_ret ?_
    refine ret_in ?_
    refine ret_then ?_
    obtain rfl := Option.some.inj H
    replace Hq := HS.own_nil e_i64 3 Hq
    refine ret2 S0 rfl rfl rfl ?_
    replace Hq := HS.pull [_] Hq
    dsimp only [List.cons_append, List.nil_append] at Hq
    replace Hq := HS.pull [_] Hq
    dsimp only [List.cons_append, List.nil_append] at Hq
    exact ⟨none, 0, 0, rfl, Hq⟩

end Go.Proofs.Ytmdpjijafejgpaa.M

/- waybill/waybillref12.Lookup: a plain function, and that the machine's call comes to it: printed by a program of the session's own. -/
set_option linter.unusedVariables false
set_option linter.unusedSimpArgs false
namespace Go.Proofs.Ytmdpjijafejgpaa.M
open Go Go.Proofs.Ytmdpjijafejgpaa.Sl
/-! ### waybill/waybillref12.Lookup: function 14 -/
def waybillref12_Lookup.f (k : Nat) (x_r : List api_Point) (x_hash : Int) : Option (Int × Int) := (waybillref12_Walk.f k x_r x_hash).bind fun (z2t, z3t) => (if z3t = 0 then (if 0 < (z2t.length : Int) then (some ((rd e_i64 z2t 0), 0)) else (none)) else (some (0, z3t)))
set_option maxRecDepth 100000 in
set_option maxHeartbeats 4000000 in
theorem waybillref12_Lookup.calls (k : Nat) (A0 : Option Addr) (n0 c0 : Nat) (x_r : List api_Point) (x_hash : Int) (W0 : World) (X : Heap) (HR0 : Rd e_api_Point X A0 n0 c0 x_r) (Hq : HS W0 [isH X] W0) (r : Int × Int) (H : waybillref12_Lookup.f k x_r x_hash = some r) :
    Calls Try.prog 14 #[.slice A0 n0 c0, .int .u64 x_hash] W0 (fun e w => e = .returned (.tuple #[.int .i64 r.1, .int .i64 r.2]) ∧ HS W0 [isH X] w) := by
  obtain rfl := HR0.1
  rw [waybillref12_Lookup.f] at H
  refine calls_in Try.func14 rfl rfl ?_
  intro a0 S0
  refine w_seq ?_
  refine w_region ?_
  refine r_pures [_, _] S0 rfl ?_
  clear S0; intro a0 S0
  refine wl_nil ?_
  refine nr_then ?_
  refine w_seq ?_
  refine w_region ?_
  refine r_pures [_, _] S0 rfl ?_
  clear S0; intro a0 S0
  obtain ⟨Xz1, HXz1, HPz1, HBz1⟩ := call_frame [] Hq
  dsimp only [List.cons_append, List.nil_append] at HXz1 HBz1
  obtain ⟨⟨z2t, z3t⟩, Hc, H⟩ := Option.bind_eq_some_iff.mp H
  dsimp only at H
  refine r_call S0 rfl rfl goes15 rfl ?_
  refine (waybillref12_Walk.calls _ _ _ _ x_r x_hash _ _ (sl_isH_rd [] HPz1 HR0) HXz1 (z2t, z3t) Hc).mono ?_
  rintro e w ⟨z4A, z5m, z6n, rfl, Hq'⟩
  have Hq : HS W0 [own e_i64 3 z4A z5m z6n z2t, isH X] w := HBz1 [_] _ Hq'
  clear HXz1 HPz1 HBz1 Hq'
  obtain rfl := own_len [] Hq
  refine ⟨.tuple #[.slice z4A z2t.length z6n, .int .i64 z3t], rfl, ?_⟩; clear S0; intro a0 S0
  refine r_pures [_, _, _, _, _] S0 rfl ?_
  clear S0; intro a0 S0
  refine wl_nil ?_
  refine nr_then ?_
  refine w_seq ?_
  refine w_seq ?_
  refine w_region ?_
  refine r_pures [_, _] S0 rfl ?_
  clear S0; intro a0 S0
  refine wl_nil ?_
  refine nr_then ?_
  by_cases z7h : z3t = 0
  · replace H := (if_pos z7h).symm.trans H
    refine w_false S0 rfl (congrArg (!·) (decide_eq_true z7h)) ?_
    refine w_skip ?_
    refine nr_then ?_
    refine w_seq ?_
    refine w_region ?_
    refine r_pures [_] S0 rfl ?_
    clear S0; intro a0 S0
    by_cases z8h : 0 < (z2t.length : Int)
    · replace H := (if_pos z8h).symm.trans H
      obtain ⟨z9g, rfl⟩ := own_at [] Hq (by omega)
      refine r_index S0 rfl rfl sl32 ti3 (by decide : (0:Int) ≤ 0) z8h rfl ?_
      clear S0; intro a0 S0
      refine r_elS S0 (own_rd [] Hq) (by decide : (0:Int) ≤ 0) z8h rfl ti3 _ rfl rfl ?_
      clear S0; intro a0 S0
      refine r_pures [_, _] S0 rfl ?_
      clear S0; intro a0 S0
      refine wl_nil ?_
      refine nr_then ?_
      refine w_ret ?_
      obtain rfl := Option.some.inj H
      refine ret2 S0 rfl rfl rfl ?_
      replace Hq := HS.pull [_] Hq
      dsimp only [List.cons_append, List.nil_append] at Hq
      replace Hq := HS.keep [_] Hq
      exact ⟨rfl, Hq⟩
    · replace H := (if_neg z8h).symm.trans H
      exact nomatch H
  · replace H := (if_neg z7h).symm.trans H
    refine w_true S0 rfl (congrArg (!·) (decide_eq_false z7h)) ?_
    refine w_seq ?_
    refine w_region ?_
    refine r_pures [_, _, _] S0 rfl ?_
    clear S0; intro a0 S0
    refine wl_nil ?_
    refine nr_then ?_
    refine w_ret ?_
    refine ret_then ?_
    obtain rfl := Option.some.inj H
    refine ret2 S0 rfl rfl rfl ?_
    replace Hq := HS.pull [_] Hq
    dsimp only [List.cons_append, List.nil_append] at Hq
    replace Hq := HS.keep [_] Hq
    exact ⟨rfl, Hq⟩

end Go.Proofs.Ytmdpjijafejgpaa.M

/- Where a hash begins on a ring; who comes next; whose it is: by the program and by the page. -/
set_option linter.unusedVariables false
set_option linter.unusedSimpArgs false
namespace Go.Proofs.Ytmdpjijafejgpaa.M
open Go Go.Proofs.Ytmdpjijafejgpaa.Sl

def low (r : List Pt) (h : Int) : List Pt := r.filter fun p => decide (p.Hash < h)
def high (r : List Pt) (h : Int) : List Pt := r.filter fun p => decide (¬ p.Hash < h)
def rot (r : List Pt) (h : Int) : List Pt := high r h ++ low r h
theorem goodR_srt {r : List Pt} (G : GoodR r) : Srt r := by
  have key : ∀ (d i j : Nat), j = i + d → j < r.length → ¬ lt (gp r j) (gp r i) := by
    intro d
    induction d with
    | zero => intro i j h1 h2; subst h1; exact lt_irrefl _
    | succ d ih =>
      intro i j h1 h2
      have a := ih i (i + d) rfl (by omega)
      have b := G.up j h2 (by omega)
      rw [show j - 1 = i + d by omega] at b
      exact le_trans a b
  refine List.pairwise_iff_getElem.2 fun i j hi hj hij => ?_
  have := key (j - i) i j (by omega) hj
  rwa [gp, gp, getD_get _ _ _ hi, getD_get _ _ _ hj] at this
theorem srt_good {r : List Pt} (hs : Srt r) (hl : r.length ≤ 1024) (hid : ∀ p ∈ r, 0 ≤ p.ID) : GoodR r := by
  refine ⟨hl, fun i hi h0 => ?_, fun i hi h => ?_⟩
  · have := List.pairwise_iff_getElem.1 hs (i - 1) i (by omega) hi (by omega)
    rwa [gp, gp, getD_get _ _ _ hi, getD_get _ _ _ (by omega)]
  · have := hid _ (getD_mem r i api_Point.zero hi)
    unfold gp at h
    omega
theorem low_high {h : Int} : ∀ {r : List Pt}, Srt r → low r h ++ high r h = r := by
  intro r
  induction r with
  | nil => intro _; rfl
  | cons p r ih =>
    intro hs
    obtain ⟨h1, h2⟩ := List.pairwise_cons.1 hs
    by_cases c : p.Hash < h
    · have e1 : low (p :: r) h = p :: low r h := by simp [low, c]
      have e2 : high (p :: r) h = high r h := by simp [high, c]
      rw [e1, e2, List.cons_append, ih h2]
    · have hall : ∀ q ∈ p :: r, ¬ q.Hash < h := fun q hq => by
        rcases List.mem_cons.1 hq with rfl | hq
        · exact c
        · have := h1 q hq; unfold lt at this; omega
      have e1 : low (p :: r) h = [] := by
        unfold low
        rw [List.filter_eq_nil_iff]
        intro q hq; simpa using hall q hq
      have e2 : high (p :: r) h = p :: r := by
        unfold high
        rw [List.filter_eq_self]
        intro q hq; exact decide_eq_true (hall q hq)
      rw [e1, e2]; rfl
def fr (r : List Pt) (h : Int) : Nat := (low r h).length
theorem fr_le (r : List Pt) (h : Int) : fr r h ≤ r.length := List.length_filter_le _ _
theorem fr_iff {r : List Pt} (hs : Srt r) (h : Int) {i : Nat} (hi : i < r.length) : (gp r i).Hash < h ↔ i < fr r h := by
  have e := low_high (h := h) hs
  constructor
  · intro hlt
    by_cases c : i < fr r h
    · exact c
    · exfalso
      have : gp r i ∈ high r h := by
        have e2 : gp r i = (low r h ++ high r h).getD i api_Point.zero := by rw [e]; rfl
        rw [e2, getD_get _ _ _ (by rw [e]; exact hi), List.getElem_append_right (by unfold fr at c; omega)]
        exact List.getElem_mem _
      have := (List.mem_filter.1 this).2
      rw [decide_eq_true_iff] at this
      exact this hlt
  · intro c
    have : gp r i ∈ low r h := by
      have e2 : gp r i = (low r h ++ high r h).getD i api_Point.zero := by rw [e]; rfl
      rw [e2, getD_append_left _ _ _ _ c]
      exact getD_mem _ _ _ c
    have := (List.mem_filter.1 this).2
    rwa [decide_eq_true_iff] at this
theorem rot_len {r : List Pt} (hs : Srt r) (h : Int) : (rot r h).length = r.length := by
  conv => rhs; rw [← low_high (h := h) hs]
  rw [rot, List.length_append, List.length_append]; omega
theorem rot_mem {r : List Pt} {h : Int} {p : Pt} : p ∈ rot r h ↔ p ∈ r := by
  simp only [rot, low, high, List.mem_append, List.mem_filter, decide_eq_true_iff]
  by_cases c : p.Hash < h <;> simp [c] <;> omega
theorem rot_get {r : List Pt} (hs : Srt r) (h : Int) {i : Nat} (hi : i < r.length) : gp r ((fr r h + i) % r.length) = gp (rot r h) i := by
  have e := low_high (h := h) hs
  have hlen : (low r h).length + (high r h).length = r.length := by rw [← List.length_append, e]
  by_cases c : i < (high r h).length
  · have e1 : (fr r h + i) % r.length = fr r h + i := Nat.mod_eq_of_lt (by unfold fr; omega)
    rw [e1, gp, gp, rot, getD_append_left _ _ _ _ c, getD_get _ _ _ c]
    have e2 : r.getD (fr r h + i) api_Point.zero = (low r h ++ high r h).getD (fr r h + i) api_Point.zero := by rw [e]
    rw [e2, getD_get _ _ _ (by rw [e]; unfold fr; omega), List.getElem_append_right (by unfold fr; omega)]
    congr 1
    unfold fr; omega
  · have e1 : (fr r h + i) % r.length = fr r h + i - r.length := by
      rw [Nat.mod_eq_sub_mod (by unfold fr; omega), Nat.mod_eq_of_lt (by unfold fr; omega)]
    rw [e1, gp, gp, rot]
    have e2 : r.getD (fr r h + i - r.length) api_Point.zero = (low r h ++ high r h).getD (fr r h + i - r.length) api_Point.zero := by rw [e]
    rw [e2, getD_append_left _ _ _ _ (by unfold fr; omega), getD_get _ _ _ (by unfold fr; omega), getD_get _ _ _ (by rw [List.length_append]; omega), List.getElem_append_right (by omega)]
    congr 1
    unfold fr; omega

/-! ### the search -/
theorem mid_ok {a b : Nat} (h : a + b < 4611686018427387904) : IntKind.i64.wrap (sh_shr .u64 (IntKind.u64.wrap (IntKind.i64.wrap ((a : Int) + (b : Int)))) 1) = (((a + b) / 2 : Nat) : Int) := by
  rw [W_eq (x := (a : Int) + (b : Int)) (by omega) (by omega), U_eq (by omega) (by omega)]
  have := shr_nat (a + b) 1 (by omega)
  rw [show ((1 : Nat) : Int) = 1 from rfl, Nat.pow_one, show ((a + b : Nat) : Int) = (a : Int) + (b : Int) by omega] at this
  rw [this, W_eq (by omega) (by omega)]
theorem begins_ok (p : Pt) (h : Int) : ring_begins_1.f p h = some (if p.Hash < h then -1 else if h < p.Hash then 1 else 0) := by
  simp only [ring_begins_1.f, cmpU_ok, Option.bind_some]
theorem bsearch {r : List Pt} (hl : r.length ≤ 1024) (hs : Srt r) (h : Int) (L : Nat → Int → Int → Option Int)
    (hL : ∀ k a b, L (k + 1) a b = if a < b then (if 0 ≤ (IntKind.i64.wrap (sh_shr .u64 (IntKind.u64.wrap (IntKind.i64.wrap (a + b))) 1)) then (if (IntKind.i64.wrap (sh_shr .u64 (IntKind.u64.wrap (IntKind.i64.wrap (a + b))) 1)) < (r.length : Int) then ((ring_begins_1.f (rd e_api_Point r (IntKind.i64.wrap (sh_shr .u64 (IntKind.u64.wrap (IntKind.i64.wrap (a + b))) 1))) h).bind fun z14t => (((if z14t < 0 then (some (IntKind.i64.wrap ((IntKind.i64.wrap (sh_shr .u64 (IntKind.u64.wrap (IntKind.i64.wrap (a + b))) 1)) + 1), b)) else (some (a, IntKind.i64.wrap (sh_shr .u64 (IntKind.u64.wrap (IntKind.i64.wrap (a + b))) 1)))) : Option (Int × Int)).bind fun (z15x, z16x) => (L k z15x z16x))) else (none)) else (none)) else (some a)) :
    ∀ (d a b : Nat), b - a ≤ d → a ≤ fr r h → fr r h ≤ b → b ≤ r.length → Ev (fun k => L k a b) ((fr r h : Nat) : Int) := by
  intro d
  induction d with
  | zero =>
    intro a b h1 h2 h3 h4
    refine Ev.succ ?_
    simp only [hL]
    refine Ev.neg (by omega) ?_
    rw [show a = fr r h by omega]; exact Ev.ret
  | succ d ih =>
    intro a b h1 h2 h3 h4
    by_cases c : a < b
    · refine Ev.succ ?_
      simp only [hL, mid_ok (show a + b < 4611686018427387904 by omega)]
      refine Ev.pos (by omega) (Ev.pos (by omega) (Ev.pos (by omega) ?_))
      rw [gp_rd, begins_ok]
      simp only [Option.bind_some]
      by_cases q : (gp r ((a + b) / 2)).Hash < h
      · have hq := (fr_iff hs h (by omega)).1 q
        refine Ev.bind (x := ((((a + b) / 2 + 1 : Nat) : Int), (b : Int))) ?_ (ih ((a + b) / 2 + 1) b (by omega) (by omega) h3 h4)
        rw [if_pos q, W_succ (by omega)]
        exact Ev.pos (by decide) Ev.ret
      · have hq : ¬ (a + b) / 2 < fr r h := fun t => q ((fr_iff hs h (by omega)).2 t)
        refine Ev.bind (x := ((a : Int), (((a + b) / 2 : Nat) : Int))) ?_ (ih a ((a + b) / 2) (by omega) h2 (by omega) (by omega))
        rw [if_neg q]
        refine Ev.neg ?_ Ev.ret
        split <;> decide
    · refine Ev.succ ?_
      simp only [hL]
      refine Ev.neg (by omega) ?_
      rw [show a = fr r h by omega]; exact Ev.ret
theorem found_ok (r : List Pt) (h : Int) : ∃ b, Ev (fun _ => if ((fr r h : Nat) : Int) < (r.length : Int) then (if 0 ≤ ((fr r h : Nat) : Int) then ((ring_begins_1.f (rd e_api_Point r ((fr r h : Nat) : Int)) h).bind fun z24t => (some (decide (z24t = 0)))) else (none)) else (some false)) b := by
  by_cases c : fr r h < r.length
  · exact ⟨_, Ev.pos (by omega) (Ev.pos (by omega) (Ev.bind (Ev.of (begins_ok _ h)) Ev.ret))⟩
  · exact ⟨_, Ev.neg (by omega) Ev.ret⟩
theorem mod_ok {a n : Nat} : ((a : Int)).tmod (n : Int) = ((a % n : Nat) : Int) := by
  rw [Int.tmod_eq_emod_of_nonneg (by omega)]; rfl
theorem first_ok {r : List Pt} (h : Int) (h0 : 0 < r.length) : ring_round_first.f ⟨r, ((fr r h : Nat) : Int)⟩ = some (gp r (fr r h % r.length)).ID := by
  unfold ring_round_first.f
  dsimp only
  have := Nat.mod_lt (fr r h) h0
  rw [if_neg (by omega), mod_ok, if_pos (by omega), if_pos (by omega), gp_rd]
theorem ask_ok (r : List Pt) : ∃ e, Ev (fun k => ring_Whole.f k r) e ∧ Ev (fun k => waybillref12_Whole.f k r) e ∧ (e = 0 ↔ GoodR r) ∧ Ev (fun k => ring_ask.f k r) (if e = 0 then (if r.length = 0 then 71 else 0) else e) := by
  obtain ⟨e, h1, h2, h3⟩ := whole_ok r
  refine ⟨e, h1, h2, h3, ?_⟩
  simp only [ring_ask.f]
  refine Ev.bind h1 ?_
  by_cases c : e = 0
  · by_cases c2 : r.length = 0
    · rw [show (if e = 0 then (if r.length = 0 then (71 : Int) else 0) else e) = 71 by rw [if_pos c, if_pos c2]]; exact Ev.pos c (Ev.pos (by omega) Ev.ret)
    · rw [show (if e = 0 then (if r.length = 0 then (71 : Int) else 0) else e) = 0 by rw [if_pos c, if_neg c2]]; exact Ev.pos c (Ev.neg (by omega) Ev.ret)
  · rw [show (if e = 0 then (if r.length = 0 then (71 : Int) else 0) else e) = e from if_neg c]; exact Ev.neg c Ev.ret

/-! ### who comes next -/
def add (acc : List Int) (x : Int) : List Int := if x ∈ acc then acc else acc ++ [x]
def adds (acc : List Int) (l : List Int) : List Int := l.foldl add acc
def ids (l : List Pt) : List Int := l.map (·.ID)
theorem add_len (acc : List Int) (x : Int) : (add acc x).length ≤ acc.length + 1 := by unfold add; split <;> simp
theorem mem_add {acc : List Int} {x y : Int} : y ∈ add acc x ↔ y ∈ acc ∨ y = x := by
  unfold add; split
  · exact ⟨.inl, fun h => h.elim id (fun e => by subst e; assumption)⟩
  · simp
theorem ids_drop {r : List Pt} {i : Nat} (hi : i < r.length) : ids (r.drop i) = (gp r i).ID :: ids (r.drop (i + 1)) := by
  rw [drop_gp r hi]; rfl
theorem walk_l1 {r : List Pt} (hl : r.length ≤ 1024) (hs : Srt r) (h : Int) : ∀ (d i : Nat) (acc : List Int) (m : List (Int × Bool)), i + d = r.length → acc.length ≤ i → (∀ x, mget m x false = true ↔ x ∈ acc) →
    ∃ m', Ev (fun k => ring_Walk.l1 k r ((fr r h : Nat) : Int) i acc m) (adds acc (ids ((rot r h).drop i)), m')
  | 0, i, acc, m, h1, h2, h3 => by
    refine ⟨m, ?_⟩
    rw [List.drop_of_length_le (by rw [rot_len hs]; omega)]
    refine Ev.succ ?_
    simp only [ring_Walk.l1]
    exact Ev.neg (by omega) Ev.ret
  | d + 1, i, acc, m, h1, h2, h3 => by
    have hi : i < r.length := by omega
    have hfl := fr_le r h
    have hmod := Nat.mod_lt (fr r h + i) (show 0 < r.length by omega)
    have hx := rot_get hs h hi
    obtain ⟨m', hm⟩ := walk_l1 hl hs h d (i + 1) (add acc (gp (rot r h) i).ID) (mput m (gp (rot r h) i).ID true) (by omega) (by have := add_len acc (gp (rot r h) i).ID; omega) (fun x => by
      rw [mget_mput, mem_add]
      by_cases e : (gp (rot r h) i).ID = x
      · rw [if_pos e]; exact ⟨fun _ => .inr e.symm, fun _ => rfl⟩
      · rw [if_neg e, h3]; exact ⟨.inl, fun q => q.resolve_right (fun q => e q.symm)⟩)
    refine ⟨m', ?_⟩
    rw [ids_drop (by rw [rot_len hs]; exact hi)]
    refine Ev.succ ?_
    simp only [ring_Walk.l1]
    rw [show ((fr r h : Nat) : Int) + (i : Int) = ((fr r h + i : Nat) : Int) by omega, W_eq (by omega) (by omega), mod_ok, gp_rd, hx]
    refine Ev.pos (by omega) (Ev.neg (by omega) (Ev.pos (by omega) (Ev.pos (by omega) (Ev.bind (x := add acc (gp (rot r h) i).ID) ?_ ?_))))
    · unfold add
      by_cases c : (gp (rot r h) i).ID ∈ acc
      · rw [if_pos c]; exact Ev.pos ((h3 _).2 c) Ev.ret
      · rw [if_neg c]; exact Ev.neg (fun q => c ((h3 _).1 q)) (Ev.pos (by simp; omega) Ev.ret)
    · rw [W_succ (by omega)]; exact hm
theorem walk_prog {r : List Pt} (G : GoodR r) (h0 : 0 < r.length) (h : Int) : Ev (fun k => ring_Walk.f k r h) (adds [] (ids (rot r h)), 0) := by
  have hs := goodR_srt G
  obtain ⟨e, _, _, h3, h4⟩ := ask_ok r
  rw [if_pos (h3.2 G), if_neg (by omega)] at h4
  obtain ⟨m', hm⟩ := walk_l1 G.len hs h r.length 0 [] [] (by omega) (by simp) (fun x => by simp [mget_val, mval_nil])
  obtain ⟨b, hb⟩ := found_ok r h
  simp only [ring_Walk.f]
  exact Ev.bind h4 (Ev.pos rfl (Ev.bind (bsearch G.len hs h _ (fun k a b => rfl) r.length 0 r.length (by omega) (by omega) (fr_le r h) (Nat.le_refl _)) (Ev.bind hb (Ev.bind hm Ev.ret))))
theorem rwalk_l0 {r : List Pt} (hl : r.length ≤ 1024) (hs : Srt r) (h : Int) : Ev (fun k => waybillref12_Walk.l0 k r h 0) ((fr r h : Nat) : Int) := by
  have hfl := fr_le r h
  refine scan_all (n := fr r h) (p := fun _ => False) (fun i hi _ v hv => ?_) (fun _ _ q => q) ?_
  · refine Ev.succ ?_
    simp only [waybillref12_Walk.l0, gp_rd]
    refine Ev.bind (x := true) (Ev.pos (by omega) (Ev.pos (by omega) (Ev.of (congrArg some (decide_eq_true ((fr_iff hs h (by omega)).2 hi)))))) (Ev.pos rfl ?_)
    rw [W_succ (by omega)]; exact hv
  · refine Ev.succ ?_
    simp only [waybillref12_Walk.l0, gp_rd]
    refine Ev.bind (x := false) ?_ (Ev.neg (by simp) Ev.ret)
    by_cases c : fr r h < r.length
    · exact Ev.pos (by omega) (Ev.pos (by omega) (Ev.of (congrArg some (decide_eq_false fun q => absurd ((fr_iff hs h c).1 q) (by omega)))))
    · exact Ev.neg (by omega) Ev.ret
theorem rwalk_l2 {r : List Pt} {f i x : Nat} (acc : List Int) (hl : acc.length ≤ 1024) {y : Int} (hy : (rd e_api_Point r ((IntKind.i64.wrap ((f : Int) + (i : Int))).tmod (r.length : Int))).ID = y) : ∀ (d j : Nat) (b : Bool), j + d = acc.length → b = decide (y ∈ acc.take j) → Ev (fun k => waybillref12_Walk.l2 k r f i acc b j) (decide (y ∈ acc))
  | 0, j, b, h1, h2 => by
    refine Ev.succ ?_
    simp only [waybillref12_Walk.l2]
    rw [List.take_of_length_le (by omega)] at h2
    rw [← h2]
    exact Ev.neg (by omega) Ev.ret
  | d + 1, j, b, h1, h2 => by
    refine Ev.succ ?_
    simp only [waybillref12_Walk.l2, hy]
    refine Ev.pos (by omega) (Ev.bind (x := decide (y ∈ acc.take (j + 1))) ?_ ?_)
    · have ht : acc.take (j + 1) = acc.take j ++ [acc.getD j 0] := by
        rw [List.take_add_one, List.getElem?_eq_getElem (by omega : j < acc.length), getD_get _ _ _ (by omega)]; rfl
      cases b with
      | true =>
        have : y ∈ acc.take j := by simpa using h2
        refine Ev.pos rfl (Ev.of (congrArg some (decide_eq_true ?_).symm))
        rw [ht]; exact List.mem_append_left _ this
      | false =>
        have : ¬ y ∈ acc.take j := by simpa using h2
        refine Ev.neg (by simp) (Ev.pos (by omega) (Ev.of (congrArg some (decide_eq_decide.2 ?_))))
        rw [ht, List.mem_append, List.mem_singleton]
        exact ⟨fun q => .inr q.symm, fun q => (q.resolve_left this).symm⟩
    · rw [W_succ (by omega)]
      exact rwalk_l2 (x := x) acc hl hy d (j + 1) _ (by omega) rfl
theorem rwalk_l1 {r : List Pt} (hl : r.length ≤ 1024) (hs : Srt r) (h : Int) : ∀ (d i : Nat) (acc : List Int), i + d = r.length → acc.length ≤ i → Ev (fun k => waybillref12_Walk.l1 k r ((fr r h : Nat) : Int) i acc) (adds acc (ids ((rot r h).drop i)))
  | 0, i, acc, h1, h2 => by
    rw [List.drop_of_length_le (by rw [rot_len hs]; omega)]
    refine Ev.succ ?_
    simp only [waybillref12_Walk.l1]
    exact Ev.neg (by omega) Ev.ret
  | d + 1, i, acc, h1, h2 => by
    have hi : i < r.length := by omega
    have hfl := fr_le r h
    have hmod := Nat.mod_lt (fr r h + i) (show 0 < r.length by omega)
    have hx := rot_get hs h hi
    have hy : (rd e_api_Point r ((IntKind.i64.wrap (((fr r h : Nat) : Int) + (i : Int))).tmod (r.length : Int))).ID = (gp (rot r h) i).ID := by
      rw [show ((fr r h : Nat) : Int) + (i : Int) = ((fr r h + i : Nat) : Int) by omega, W_eq (by omega) (by omega), mod_ok, gp_rd, hx]
    have hm := rwalk_l1 hl hs h d (i + 1) (add acc (gp (rot r h) i).ID) (by omega) (by have := add_len acc (gp (rot r h) i).ID; omega)
    have h2' := rwalk_l2 (x := 0) acc (by omega) hy acc.length 0 false (Nat.zero_add _) (by simp)
    rw [ids_drop (by rw [rot_len hs]; exact hi)]
    refine Ev.succ ?_
    simp only [waybillref12_Walk.l1]
    refine Ev.pos (by omega) (Ev.bind (x := add acc (gp (rot r h) i).ID) (Ev.neg (by omega) (Ev.pos ?_ (Ev.pos ?_ (Ev.bind h2' (Ev.bind (x := add acc (gp (rot r h) i).ID) ?_ Ev.ret))))) ?_)
    · rw [show ((fr r h : Nat) : Int) + (i : Int) = ((fr r h + i : Nat) : Int) by omega, W_eq (by omega) (by omega), mod_ok]; omega
    · rw [show ((fr r h : Nat) : Int) + (i : Int) = ((fr r h + i : Nat) : Int) by omega, W_eq (by omega) (by omega), mod_ok]; omega
    · unfold add
      by_cases c : (gp (rot r h) i).ID ∈ acc
      · rw [if_pos c]; exact Ev.dpos c Ev.ret
      · rw [if_neg c, hy]; exact Ev.dneg c (Ev.pos (by simp; omega) Ev.ret)
    · rw [W_succ (by omega)]; exact hm
theorem walk_ref {r : List Pt} (G : GoodR r) (h0 : 0 < r.length) (h : Int) : Ev (fun k => waybillref12_Walk.f k r h) (adds [] (ids (rot r h)), 0) := by
  have hs := goodR_srt G
  obtain ⟨e, _, h2, h3, _⟩ := ask_ok r
  simp only [waybillref12_Walk.f]
  exact Ev.bind h2 (Ev.pos (h3.2 G) (Ev.neg (by omega) (Ev.bind (rwalk_l0 G.len hs h) (Ev.bind (rwalk_l1 G.len hs h r.length 0 [] (by omega) (by simp)) Ev.ret))))
theorem walk_ok (r : List Pt) (h : Int) : ∃ w e, Ev (fun k => ring_Walk.f k r h) (w, e) ∧ Ev (fun k => waybillref12_Walk.f k r h) (w, e) ∧ (e = 0 ↔ GoodR r ∧ 0 < r.length) ∧ (e = 0 → w = adds [] (ids (rot r h))) ∧ (e ≠ 0 → w = []) := by
  obtain ⟨e, h1, h2, h3, h4⟩ := ask_ok r
  by_cases c : e = 0
  · have G := h3.1 c
    by_cases c0 : r.length = 0
    · rw [if_pos c, if_pos c0] at h4
      refine ⟨[], 71, ?_, ?_, ⟨fun h => absurd h (by decide), fun h => by omega⟩, fun h => absurd h (by decide), fun _ => rfl⟩
      · simp only [ring_Walk.f]; exact Ev.bind h4 (Ev.neg (by decide) Ev.ret)
      · simp only [waybillref12_Walk.f]; exact Ev.bind h2 (Ev.pos c (Ev.pos (by omega) Ev.ret))
    · exact ⟨_, 0, walk_prog G (by omega) h, walk_ref G (by omega) h, ⟨fun _ => ⟨G, by omega⟩, fun _ => rfl⟩, fun _ => rfl, fun h => absurd rfl h⟩
  · rw [if_neg c] at h4
    refine ⟨[], e, ?_, ?_, ⟨fun h => absurd h c, fun h => absurd (h3.2 h.1) c⟩, fun h => absurd h c, fun _ => rfl⟩
    · simp only [ring_Walk.f]; exact Ev.bind h4 (Ev.neg c Ev.ret)
    · simp only [waybillref12_Walk.f]; exact Ev.bind h2 (Ev.neg c Ev.ret)
/-! ### what is met once -/
def dd : List Int → List Int
  | [] => []
  | x :: r => x :: (dd r).filter fun y => decide (y ≠ x)
theorem adds_dd : ∀ (l acc : List Int), adds acc l = acc ++ (dd l).filter fun y => decide (y ∉ acc) := by
  intro l
  induction l with
  | nil => intro acc; simp [adds, dd]
  | cons x l ih =>
    intro acc
    show adds (add acc x) l = _
    rw [ih]
    unfold add
    by_cases c : x ∈ acc
    · rw [if_pos c, dd, List.filter_cons, if_neg (by simp [c]), List.filter_filter]
      congr 1
      refine List.filter_congr fun y _ => ?_
      by_cases e : y = x
      · subst e; simp [c]
      · simp [e]
    · rw [if_neg c, dd, List.filter_cons, if_pos (by simp [c]), List.filter_filter, List.append_assoc]
      congr 1
      show x :: _ = x :: _
      congr 1
      refine List.filter_congr fun y _ => ?_
      simp only [List.mem_append, List.mem_singleton, not_or, ne_eq, Bool.decide_and]
theorem adds_nil (l : List Int) : adds [] l = dd l := by
  rw [adds_dd, List.nil_append, List.filter_eq_self]; intro x _; simp
theorem mem_dd {x : Int} : ∀ {l : List Int}, x ∈ dd l ↔ x ∈ l := by
  intro l
  induction l with
  | nil => simp [dd]
  | cons y l ih =>
    simp only [dd, List.mem_cons, List.mem_filter, ih, decide_eq_true_iff]
    by_cases e : x = y
    · simp [e]
    · simp [e]
theorem nodup_dd : ∀ (l : List Int), (dd l).Nodup := by
  intro l
  induction l with
  | nil => exact List.nodup_nil
  | cons y l ih =>
    rw [dd, List.nodup_cons]
    exact ⟨fun h => by simpa using (List.mem_filter.1 h).2, ih.filter _⟩
theorem dd_filter (p : Int → Bool) : ∀ (l : List Int), dd (l.filter p) = (dd l).filter p := by
  intro l
  induction l with
  | nil => rfl
  | cons y l ih =>
    by_cases c : p y = true
    · rw [List.filter_cons, if_pos c, dd, dd, List.filter_cons, if_pos c, ih, List.filter_filter, List.filter_filter]
      congr 1
      refine List.filter_congr fun z _ => ?_
      rw [Bool.and_comm]
    · rw [List.filter_cons, if_neg c, dd, List.filter_cons, if_neg c, ih, List.filter_filter]
      refine List.filter_congr fun z _ => ?_
      by_cases e : z = y
      · subst e; simp at c; simp [c]
      · simp [e]
theorem rot_head {r : List Pt} (hs : Srt r) (h0 : 0 < r.length) (h : Int) : ids (rot r h) = (gp r (fr r h % r.length)).ID :: ids ((rot r h).drop 1) := by
  have := ids_drop (r := rot r h) (i := 0) (by rw [rot_len hs]; exact h0)
  rw [List.drop_zero] at this
  rw [this, ← rot_get hs h h0, Nat.add_zero]
theorem lookup_ok (r : List Pt) (h : Int) : ∃ x e, Ev (fun k => ring_Lookup.f k r h) (x, e) ∧ Ev (fun k => waybillref12_Lookup.f k r h) (x, e) ∧ (e = 0 ↔ GoodR r ∧ 0 < r.length) ∧ (e = 0 → x = (gp r (fr r h % r.length)).ID) ∧ (∀ w e', Ev (fun k => ring_Walk.f k r h) (w, e') → e' = e) := by
  obtain ⟨e, h1, h2, h3, h4⟩ := ask_ok r
  obtain ⟨w, e', w1, w2, w3, w4, w5⟩ := walk_ok r h
  have hu : ∀ w' e'', Ev (fun k => ring_Walk.f k r h) (w', e'') → e'' = e' := fun w' e'' q => (congrArg Prod.snd (q.uniq w1))
  have hne : ∀ c : ¬ (if e = 0 then (if r.length = 0 then (71 : Int) else 0) else e) = 0, e' = (if e = 0 then (if r.length = 0 then (71 : Int) else 0) else e) := fun c => by
    have : Ev (fun k => ring_Walk.f k r h) ([], if e = 0 then (if r.length = 0 then (71 : Int) else 0) else e) := by
      simp only [ring_Walk.f]; exact Ev.bind h4 (Ev.neg c Ev.ret)
    exact (hu _ _ this).symm
  by_cases c : GoodR r ∧ 0 < r.length
  · obtain ⟨G, h0⟩ := c
    have hs := goodR_srt G
    have he : e' = 0 := w3.2 ⟨G, h0⟩
    subst he
    rw [if_pos (h3.2 G), if_neg (by omega)] at h4
    obtain ⟨b, hb⟩ := found_ok r h
    refine ⟨(gp r (fr r h % r.length)).ID, 0, ?_, ?_, ⟨fun _ => ⟨G, h0⟩, fun _ => rfl⟩, fun _ => rfl, hu⟩
    · simp only [ring_Lookup.f]
      exact Ev.bind h4 (Ev.pos rfl (Ev.bind (bsearch G.len hs h _ (fun k a b => rfl) r.length 0 r.length (by omega) (by omega) (fr_le r h) (Nat.le_refl _)) (Ev.bind hb (Ev.bind (Ev.of (first_ok h h0)) Ev.ret))))
    · have hw : w = (gp r (fr r h % r.length)).ID :: (dd (ids ((rot r h).drop 1))).filter fun y => decide (y ≠ (gp r (fr r h % r.length)).ID) := by
        rw [w4 rfl, adds_nil, rot_head hs h0]; rfl
      simp only [waybillref12_Lookup.f]
      refine Ev.bind w2 (Ev.pos rfl (Ev.pos ?_ ?_))
      · rw [hw, List.length_cons]; omega
      · rw [hw]; exact Ev.ret
  · have he' : e' ≠ 0 := fun q => c (w3.1 q)
    have hne2 : ¬ (if e = 0 then (if r.length = 0 then (71 : Int) else 0) else e) = 0 := by
      intro q
      apply c
      split at q
      · rename_i q1
        split at q
        · exact absurd q (by decide)
        · exact ⟨h3.1 q1, by omega⟩
      · rename_i q1; exact absurd q q1
    have ee := hne hne2
    refine ⟨0, e', ?_, ?_, ⟨fun q => absurd q he', fun q => absurd q c⟩, fun q => absurd q he', hu⟩
    · simp only [ring_Lookup.f]
      rw [ee]
      exact Ev.bind h4 (Ev.neg hne2 Ev.ret)
    · simp only [waybillref12_Lookup.f]
      exact Ev.bind w2 (Ev.neg he' Ev.ret)
end Go.Proofs.Ytmdpjijafejgpaa.M

