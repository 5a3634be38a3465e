/- The law RingTells of the seat Ytmdpjijafejgpaa: whatever the input, the call ends, answers true, and what came in reads as it did. This text is part 4 of 4, joined out of the session's texts. -/
import Derived.Test.YtmdpjijafejgpaaXRingTells3
import Derived.Test.YtmdpjijafejgpaaRows
import Derived.Test.YtmdpjijafejgpaaChecked
import Derived.WalkKit
import Derived.ProofKit
import Derived.OpenShut
import Derived.ShutString
import Derived.ChangeOld
import Derived.Below
import Derived.SizedLaws
/- waybill/waybilllaw12.RingTells: a plain function, and that the machine's call comes to it: printed by a program of the session's own. -/
set_option linter.unusedVariables false
set_option linter.unusedSimpArgs false
namespace Go.Proofs.Ytmdpjijafejgpaa.M
open Go Go.Proofs.Ytmdpjijafejgpaa.Sl
/-! ### waybill/waybilllaw12.RingTells: function 5 -/
def waybilllaw12_RingTells.f (k : Nat) (x_points : Int) (x_l : List api_Backend) (x_r : List api_Point) (x_hash : Int) (x_keys : Int) : Option (Bool) := (waybilllaw12_own.f x_r).bind fun z2t => ((ring_Build.f k x_points x_l).bind fun (z7t, z8t) => ((waybillref12_Build.f k x_points x_l).bind fun (z13t, z14t) => ((ring_Lookup.f k z2t x_hash).bind fun (z19t, z20t) => ((waybillref12_Lookup.f k x_r x_hash).bind fun (z22t, z23t) => ((ring_Walk.f k z2t x_hash).bind fun (z25t, z26t) => ((waybillref12_Walk.f k x_r x_hash).bind fun (z31t, z32t) => ((ring_Shares.f k z2t x_keys).bind fun (z37t, z38t) => ((waybillref12_Shares.f k x_r x_keys).bind fun (z43t, z44t) => ((((waybillplain_SamePoints.f k z7t z13t).bind fun z50t => (if z50t = true then ((waybilllaw12_num.f z8t).bind fun z53t => (if z53t = z14t then (if z19t = z22t then ((waybilllaw12_num.f z20t).bind fun z57t => (if z57t = z23t then ((waybillplain_SameInts.f k z25t z31t).bind fun z60t => (if z60t = true then ((waybilllaw12_num.f z26t).bind fun z63t => (if z63t = z32t then ((waybillplain_SameInts.f k z37t z43t).bind fun z66t => (if z66t = true then ((waybilllaw12_num.f z38t).bind fun z69t => (some (!(decide (z69t = z44t))))) else (some true))) else (some true))) else (some true))) else (some true))) else (some true)) else (some true))) else (some true))) : Option (Bool)).bind fun z48x => (if z48x = true then (some false) else ((((ring_Check.f k x_l).bind fun z73t => ((waybilllaw12_num.f z73t).bind fun z75t => ((waybillref12_Check.f k x_l).bind fun z77t => (if z75t = z77t then ((ring_Whole.f k z2t).bind fun z80t => ((waybilllaw12_num.f z80t).bind fun z82t => ((waybillref12_Whole.f k x_r).bind fun z84t => (if z82t = z84t then ((waybillplain_SamePoints.f k z2t x_r).bind fun z87t => (if z87t = true then ((waybilllaw12_alive.f k ).bind fun z90t => (some z90t)) else (some false))) else (some false))))) else (some false))))) : Option (Bool)).bind fun z71x => (some z71x))))))))))))
set_option maxRecDepth 100000 in
set_option maxHeartbeats 4000000 in
theorem waybilllaw12_RingTells.calls (k : Nat) (x_points : Int) (A1 : Option Addr) (n1 c1 : Nat) (x_l : List api_Backend) (A2 : Option Addr) (n2 c2 : Nat) (x_r : List api_Point) (x_hash : Int) (x_keys : Int) (W0 : World) (X : Heap) (HR1 : Rd e_api_Backend X A1 n1 c1 x_l) (HR2 : Rd e_api_Point X A2 n2 c2 x_r) (Hq : HS W0 [isH X] W0) (r : Bool) (H : waybilllaw12_RingTells.f k x_points x_l x_r x_hash x_keys = some r) :
    Calls Try.prog 5 #[.int .i64 x_points, .slice A1 n1 c1, .slice A2 n2 c2, .int .u64 x_hash, .int .i64 x_keys] W0 (fun e w => e = .returned (.bool r) ∧ HS W0 [isH X] w) := by
  obtain rfl := HR1.1
  obtain rfl := HR2.1
  rw [waybilllaw12_RingTells.f] at H
  refine calls_in Try.func5 rfl rfl ?_
  intro a0 S0
  refine w_seq ?_
  refine w_region ?_
  refine r_pures [_] S0 rfl ?_
  clear S0; intro a0 S0
  refine wl_nil ?_
  refine nr_then ?_
  refine w_seq ?_
  refine w_region ?_
  refine r_pures [_] S0 rfl ?_
  clear S0; intro a0 S0
  obtain ⟨Xz1, HXz1, HPz1, HBz1⟩ := call_frame [] Hq
  dsimp only [List.cons_append, List.nil_append] at HXz1 HBz1
  obtain ⟨z2t, Hc, H⟩ := Option.bind_eq_some_iff.mp H
  refine r_call S0 rfl rfl goes12 rfl ?_
  refine (waybilllaw12_own.calls _ _ _ x_r _ _ (sl_isH_rd [] HPz1 HR2) HXz1 z2t Hc).mono ?_
  rintro e w ⟨z3A, z4m, z5n, rfl, Hq'⟩
  have Hq : HS W0 [own e_api_Point 39 z3A z4m z5n z2t, isH X] w := HBz1 [_] _ Hq'
  clear HXz1 HPz1 HBz1 Hq'
  obtain rfl := own_len [] Hq
  refine ⟨.slice z3A z2t.length z5n, rfl, ?_⟩; clear S0; intro a0 S0
  refine r_pures [_] S0 rfl ?_
  clear S0; intro a0 S0
  refine wl_nil ?_
  refine nr_then ?_
  refine w_seq ?_
  refine w_region ?_
  refine r_pures [_, _] S0 rfl ?_
  clear S0; intro a0 S0
  obtain ⟨Xz6, HXz6, HPz6, HBz6⟩ := call_frame [] Hq
  dsimp only [List.cons_append, List.nil_append] at HXz6 HBz6
  obtain ⟨⟨z7t, z8t⟩, Hc, H⟩ := Option.bind_eq_some_iff.mp H
  dsimp only at H
  refine r_call S0 rfl rfl goes8 rfl ?_
  refine (ring_Build.calls _ x_points _ _ _ x_l _ _ (sl_isH_rd [_] HPz6 HR1) HXz6 (z7t, z8t) Hc).mono ?_
  rintro e w ⟨z9A, z10m, z11n, rfl, Hq'⟩
  have Hq : HS W0 [own e_api_Point 39 z9A z10m z11n z7t, own e_api_Point 39 z3A z2t.length z5n z2t, isH X] w := HBz6 [_] _ Hq'
  clear HXz6 HPz6 HBz6 Hq'
  obtain rfl := own_len [] Hq
  refine ⟨.tuple #[.slice z9A z7t.length z11n, .int .i64 z8t], rfl, ?_⟩; clear S0; intro a0 S0
  refine r_pures [_, _, _, _, _] S0 rfl ?_
  clear S0; intro a0 S0
  refine wl_nil ?_
  refine nr_then ?_
  refine w_seq ?_
  refine w_region ?_
  refine r_pures [_, _] S0 rfl ?_
  clear S0; intro a0 S0
  obtain ⟨Xz12, HXz12, HPz12, HBz12⟩ := call_frame [] Hq
  dsimp only [List.cons_append, List.nil_append] at HXz12 HBz12
  obtain ⟨⟨z13t, z14t⟩, Hc, H⟩ := Option.bind_eq_some_iff.mp H
  dsimp only at H
  refine r_call S0 rfl rfl goes13 rfl ?_
  refine (waybillref12_Build.calls _ x_points _ _ _ x_l _ _ (sl_isH_rd [_, _] HPz12 HR1) HXz12 (z13t, z14t) Hc).mono ?_
  rintro e w ⟨z15A, z16m, z17n, rfl, Hq'⟩
  have Hq : HS W0 [own e_api_Point 39 z15A z16m z17n z13t, own e_api_Point 39 z9A z7t.length z11n z7t, own e_api_Point 39 z3A z2t.length z5n z2t, isH X] w := HBz12 [_] _ Hq'
  clear HXz12 HPz12 HBz12 Hq'
  obtain rfl := own_len [] Hq
  refine ⟨.tuple #[.slice z15A z13t.length z17n, .int .i64 z14t], rfl, ?_⟩; clear S0; intro a0 S0
  refine r_pures [_, _, _, _, _] S0 rfl ?_
  clear S0; intro a0 S0
  refine wl_nil ?_
  refine nr_then ?_
  refine w_seq ?_
  refine w_region ?_
  refine r_pures [_, _] S0 rfl ?_
  clear S0; intro a0 S0
  obtain ⟨Xz18, HXz18, HPz18, HBz18⟩ := call_frame [] Hq
  dsimp only [List.cons_append, List.nil_append] at HXz18 HBz18
  obtain ⟨⟨z19t, z20t⟩, Hc, H⟩ := Option.bind_eq_some_iff.mp H
  dsimp only at H
  refine r_call S0 rfl rfl goes10 rfl ?_
  refine (ring_Lookup.calls _ _ _ _ z2t x_hash _ _ (sl_own_rd [_, _] HPz18) HXz18 (z19t, z20t) Hc).mono ?_
  rintro e w ⟨rfl, Hq'⟩
  have Hq : HS W0 [own e_api_Point 39 z15A z13t.length z17n z13t, own e_api_Point 39 z9A z7t.length z11n z7t, own e_api_Point 39 z3A z2t.length z5n z2t, isH X] w := HBz18 [] _ Hq'
  clear HXz18 HPz18 HBz18 Hq'
  refine ⟨.tuple #[.int .i64 z19t, .int .i64 z20t], rfl, ?_⟩; clear S0; intro a0 S0
  refine r_pures [_, _, _, _, _] S0 rfl ?_
  clear S0; intro a0 S0
  refine wl_nil ?_
  refine nr_then ?_
  refine w_seq ?_
  refine w_region ?_
  refine r_pures [_, _] S0 rfl ?_
  clear S0; intro a0 S0
  obtain ⟨Xz21, HXz21, HPz21, HBz21⟩ := call_frame [] Hq
  dsimp only [List.cons_append, List.nil_append] at HXz21 HBz21
  obtain ⟨⟨z22t, z23t⟩, Hc, H⟩ := Option.bind_eq_some_iff.mp H
  dsimp only at H
  refine r_call S0 rfl rfl goes14 rfl ?_
  refine (waybillref12_Lookup.calls _ _ _ _ x_r x_hash _ _ (sl_isH_rd [_, _, _] HPz21 HR2) HXz21 (z22t, z23t) Hc).mono ?_
  rintro e w ⟨rfl, Hq'⟩
  have Hq : HS W0 [own e_api_Point 39 z15A z13t.length z17n z13t, own e_api_Point 39 z9A z7t.length z11n z7t, own e_api_Point 39 z3A z2t.length z5n z2t, isH X] w := HBz21 [] _ Hq'
  clear HXz21 HPz21 HBz21 Hq'
  refine ⟨.tuple #[.int .i64 z22t, .int .i64 z23t], rfl, ?_⟩; clear S0; intro a0 S0
  refine r_pures [_, _, _, _, _] S0 rfl ?_
  clear S0; intro a0 S0
  refine wl_nil ?_
  refine nr_then ?_
  refine w_seq ?_
  refine w_region ?_
  refine r_pures [_, _] S0 rfl ?_
  clear S0; intro a0 S0
  obtain ⟨Xz24, HXz24, HPz24, HBz24⟩ := call_frame [] Hq
  dsimp only [List.cons_append, List.nil_append] at HXz24 HBz24
  obtain ⟨⟨z25t, z26t⟩, Hc, H⟩ := Option.bind_eq_some_iff.mp H
  dsimp only at H
  refine r_call S0 rfl rfl goes11 rfl ?_
  refine (ring_Walk.calls _ _ _ _ z2t x_hash _ _ (sl_own_rd [_, _] HPz24) HXz24 (z25t, z26t) Hc).mono ?_
  rintro e w ⟨z27A, z28m, z29n, rfl, Hq'⟩
  have Hq : HS W0 [own e_i64 3 z27A z28m z29n z25t, own e_api_Point 39 z15A z13t.length z17n z13t, own e_api_Point 39 z9A z7t.length z11n z7t, own e_api_Point 39 z3A z2t.length z5n z2t, isH X] w := HBz24 [_] _ Hq'
  clear HXz24 HPz24 HBz24 Hq'
  obtain rfl := own_len [] Hq
  refine ⟨.tuple #[.slice z27A z25t.length z29n, .int .i64 z26t], rfl, ?_⟩; clear S0; intro a0 S0
  refine r_pures [_, _, _, _, _] S0 rfl ?_
  clear S0; intro a0 S0
  refine wl_nil ?_
  refine nr_then ?_
  refine w_seq ?_
  refine w_region ?_
  refine r_pures [_, _] S0 rfl ?_
  clear S0; intro a0 S0
  obtain ⟨Xz30, HXz30, HPz30, HBz30⟩ := call_frame [] Hq
  dsimp only [List.cons_append, List.nil_append] at HXz30 HBz30
  obtain ⟨⟨z31t, z32t⟩, Hc, H⟩ := Option.bind_eq_some_iff.mp H
  dsimp only at H
  refine r_call S0 rfl rfl goes15 rfl ?_
  refine (waybillref12_Walk.calls _ _ _ _ x_r x_hash _ _ (sl_isH_rd [_, _, _, _] HPz30 HR2) HXz30 (z31t, z32t) Hc).mono ?_
  rintro e w ⟨z33A, z34m, z35n, rfl, Hq'⟩
  have Hq : HS W0 [own e_i64 3 z33A z34m z35n z31t, own e_i64 3 z27A z25t.length z29n z25t, own e_api_Point 39 z15A z13t.length z17n z13t, own e_api_Point 39 z9A z7t.length z11n z7t, own e_api_Point 39 z3A z2t.length z5n z2t, isH X] w := HBz30 [_] _ Hq'
  clear HXz30 HPz30 HBz30 Hq'
  obtain rfl := own_len [] Hq
  refine ⟨.tuple #[.slice z33A z31t.length z35n, .int .i64 z32t], rfl, ?_⟩; clear S0; intro a0 S0
  refine r_pures [_, _, _, _, _] S0 rfl ?_
  clear S0; intro a0 S0
  refine wl_nil ?_
  refine nr_then ?_
  refine w_seq ?_
  refine w_region ?_
  refine r_pures [_, _] S0 rfl ?_
  clear S0; intro a0 S0
  obtain ⟨Xz36, HXz36, HPz36, HBz36⟩ := call_frame [] Hq
  dsimp only [List.cons_append, List.nil_append] at HXz36 HBz36
  obtain ⟨⟨z37t, z38t⟩, Hc, H⟩ := Option.bind_eq_some_iff.mp H
  dsimp only at H
  refine r_call S0 rfl rfl goes16 rfl ?_
  refine (ring_Shares.calls _ _ _ _ z2t x_keys _ _ (sl_own_rd [_, _, _, _] HPz36) HXz36 (z37t, z38t) Hc).mono ?_
  rintro e w ⟨z39A, z40m, z41n, rfl, Hq'⟩
  have Hq : HS W0 [own e_i64 3 z39A z40m z41n z37t, own e_i64 3 z33A z31t.length z35n z31t, own e_i64 3 z27A z25t.length z29n z25t, own e_api_Point 39 z15A z13t.length z17n z13t, own e_api_Point 39 z9A z7t.length z11n z7t, own e_api_Point 39 z3A z2t.length z5n z2t, isH X] w := HBz36 [_] _ Hq'
  clear HXz36 HPz36 HBz36 Hq'
  obtain rfl := own_len [] Hq
  refine ⟨.tuple #[.slice z39A z37t.length z41n, .int .i64 z38t], rfl, ?_⟩; clear S0; intro a0 S0
  refine r_pures [_, _, _, _, _] S0 rfl ?_
  clear S0; intro a0 S0
  refine wl_nil ?_
  refine nr_then ?_
  refine w_seq ?_
  refine w_region ?_
  refine r_pures [_, _] S0 rfl ?_
  clear S0; intro a0 S0
  obtain ⟨Xz42, HXz42, HPz42, HBz42⟩ := call_frame [] Hq
  dsimp only [List.cons_append, List.nil_append] at HXz42 HBz42
  obtain ⟨⟨z43t, z44t⟩, Hc, H⟩ := Option.bind_eq_some_iff.mp H
  dsimp only at H
  refine r_call S0 rfl rfl goes17 rfl ?_
  refine (waybillref12_Shares.calls _ _ _ _ x_r x_keys _ _ (sl_isH_rd [_, _, _, _, _, _] HPz42 HR2) HXz42 (z43t, z44t) Hc).mono ?_
  rintro e w ⟨z45A, z46m, z47n, rfl, Hq'⟩
  have Hq : HS W0 [own e_i64 3 z45A z46m z47n z43t, own e_i64 3 z39A z37t.length z41n z37t, own e_i64 3 z33A z31t.length z35n z31t, own e_i64 3 z27A z25t.length z29n z25t, own e_api_Point 39 z15A z13t.length z17n z13t, own e_api_Point 39 z9A z7t.length z11n z7t, own e_api_Point 39 z3A z2t.length z5n z2t, isH X] w := HBz42 [_] _ Hq'
  clear HXz42 HPz42 HBz42 Hq'
  obtain rfl := own_len [] Hq
  refine ⟨.tuple #[.slice z45A z43t.length z47n, .int .i64 z44t], rfl, ?_⟩; clear S0; intro a0 S0
  refine r_pures [_, _, _, _, _] S0 rfl ?_
  clear S0; intro a0 S0
  refine wl_nil ?_
  refine nr_then ?_
  refine w_seq ?_
  refine w_seq ?_
  obtain ⟨z48x, H, HU1⟩ := Option.bind_eq_some_iff.mp H
  refine w_cutT (fun a w => Sl 145 [] [(1, .slice A1 x_l.length c1), (2, .slice A2 x_r.length c2), (11, .slice z3A z2t.length z5n), (122, .bool z48x)] a ∧ HS W0 [own e_api_Point 39 z3A z2t.length z5n z2t, isH X] w) ?_ ?_
  · skip
    refine w_region ?_
    refine r_pures [_, _] S0 rfl ?_
    clear S0; intro a0 S0
    obtain ⟨Xz49, HXz49, HPz49, HBz49⟩ := call_frame [] Hq
    dsimp only [List.cons_append, List.nil_append] at HXz49 HBz49
    obtain ⟨z50t, Hc, H⟩ := Option.bind_eq_some_iff.mp H
    refine r_call S0 rfl rfl goes18 rfl ?_
    refine (waybillplain_SamePoints.calls _ _ _ _ z7t _ _ _ z13t _ _ (sl_own_rd [_, _, _, _, _] HPz49) (sl_own_rd [_, _, _, _] HPz49) HXz49 z50t Hc).mono ?_
    rintro e w ⟨rfl, Hq'⟩
    have Hq : HS W0 [own e_i64 3 z45A z43t.length z47n z43t, own e_i64 3 z39A z37t.length z41n z37t, own e_i64 3 z33A z31t.length z35n z31t, own e_i64 3 z27A z25t.length z29n z25t, own e_api_Point 39 z15A z13t.length z17n z13t, own e_api_Point 39 z9A z7t.length z11n z7t, own e_api_Point 39 z3A z2t.length z5n z2t, isH X] w := HBz49 [] _ Hq'
    clear HXz49 HPz49 HBz49 Hq'
    refine ⟨.bool z50t, rfl, ?_⟩; clear S0; intro a0 S0
    refine r_pures [_, _] S0 rfl ?_
    clear S0; intro a0 S0
    by_cases z51h : z50t = true
    · replace H := (if_pos z51h).symm.trans H
      refine r_on S0 rfl rfl rfl (congrArg (!·) z51h) ?_
      refine r_pures [_] S0 rfl ?_
      clear S0; intro a0 S0
      refine r_on S0 rfl rfl rfl (congrArg (!·) z51h) ?_
      obtain ⟨Xz52, HXz52, HPz52, HBz52⟩ := call_frame [] Hq
      dsimp only [List.cons_append, List.nil_append] at HXz52 HBz52
      obtain ⟨z53t, Hc, H⟩ := Option.bind_eq_some_iff.mp H
      refine r_call S0 rfl rfl goes9 rfl ?_
      refine (waybilllaw12_num.calls z8t _ _  HXz52 z53t Hc).mono ?_
      rintro e w ⟨rfl, Hq'⟩
      have Hq : HS W0 [own e_i64 3 z45A z43t.length z47n z43t, own e_i64 3 z39A z37t.length z41n z37t, own e_i64 3 z33A z31t.length z35n z31t, own e_i64 3 z27A z25t.length z29n z25t, own e_api_Point 39 z15A z13t.length z17n z13t, own e_api_Point 39 z9A z7t.length z11n z7t, own e_api_Point 39 z3A z2t.length z5n z2t, isH X] w := HBz52 [] _ Hq'
      clear HXz52 HPz52 HBz52 Hq'
      refine ⟨.int .i64 z53t, rfl, ?_⟩; clear S0; intro a0 S0
      refine r_on S0 rfl rfl rfl (congrArg (!·) z51h) ?_
      refine r_pures [_] S0 rfl ?_
      clear S0; intro a0 S0
      refine r_on S0 rfl rfl rfl (congrArg (!·) z51h) ?_
      refine r_pures [_] S0 rfl ?_
      clear S0; intro a0 S0
      refine r_pick S0 rfl (congrArg (!·) z51h) _ rfl rfl ?_
      clear S0; intro a0 S0
      refine r_pures [_] S0 rfl ?_
      clear S0; intro a0 S0
      by_cases z54h : z53t = z14t
      · replace H := (if_pos z54h).symm.trans H
        refine r_on S0 rfl rfl rfl (congrArg (!·) (decide_eq_true z54h)) ?_
        refine r_pures [_] S0 rfl ?_
        clear S0; intro a0 S0
        refine r_on S0 rfl rfl rfl (congrArg (!·) (decide_eq_true z54h)) ?_
        refine r_pures [_] S0 rfl ?_
        clear S0; intro a0 S0
        refine r_on S0 rfl rfl rfl (congrArg (!·) (decide_eq_true z54h)) ?_
        refine r_pures [_] S0 rfl ?_
        clear S0; intro a0 S0
        refine r_pick S0 rfl (congrArg (!·) (decide_eq_true z54h)) _ rfl rfl ?_
        clear S0; intro a0 S0
        refine r_pures [_] S0 rfl ?_
        clear S0; intro a0 S0
        by_cases z55h : z19t = z22t
        · replace H := (if_pos z55h).symm.trans H
          refine r_on S0 rfl rfl rfl (congrArg (!·) (decide_eq_true z55h)) ?_
          refine r_pures [_] S0 rfl ?_
          clear S0; intro a0 S0
          refine r_on S0 rfl rfl rfl (congrArg (!·) (decide_eq_true z55h)) ?_
          obtain ⟨Xz56, HXz56, HPz56, HBz56⟩ := call_frame [] Hq
          dsimp only [List.cons_append, List.nil_append] at HXz56 HBz56
          obtain ⟨z57t, Hc, H⟩ := Option.bind_eq_some_iff.mp H
          refine r_call S0 rfl rfl goes9 rfl ?_
          refine (waybilllaw12_num.calls z20t _ _  HXz56 z57t Hc).mono ?_
          rintro e w ⟨rfl, Hq'⟩
          have Hq : HS W0 [own e_i64 3 z45A z43t.length z47n z43t, own e_i64 3 z39A z37t.length z41n z37t, own e_i64 3 z33A z31t.length z35n z31t, own e_i64 3 z27A z25t.length z29n z25t, own e_api_Point 39 z15A z13t.length z17n z13t, own e_api_Point 39 z9A z7t.length z11n z7t, own e_api_Point 39 z3A z2t.length z5n z2t, isH X] w := HBz56 [] _ Hq'
          clear HXz56 HPz56 HBz56 Hq'
          refine ⟨.int .i64 z57t, rfl, ?_⟩; clear S0; intro a0 S0
          refine r_on S0 rfl rfl rfl (congrArg (!·) (decide_eq_true z55h)) ?_
          refine r_pures [_] S0 rfl ?_
          clear S0; intro a0 S0
          refine r_on S0 rfl rfl rfl (congrArg (!·) (decide_eq_true z55h)) ?_
          refine r_pures [_] S0 rfl ?_
          clear S0; intro a0 S0
          refine r_pick S0 rfl (congrArg (!·) (decide_eq_true z55h)) _ rfl rfl ?_
          clear S0; intro a0 S0
          refine r_pures [_] S0 rfl ?_
          clear S0; intro a0 S0
          by_cases z58h : z57t = z23t
          · replace H := (if_pos z58h).symm.trans H
            refine r_on S0 rfl rfl rfl (congrArg (!·) (decide_eq_true z58h)) ?_
            refine r_pures [_] S0 rfl ?_
            clear S0; intro a0 S0
            refine r_on S0 rfl rfl rfl (congrArg (!·) (decide_eq_true z58h)) ?_
            refine r_pures [_] S0 rfl ?_
            clear S0; intro a0 S0
            refine r_on S0 rfl rfl rfl (congrArg (!·) (decide_eq_true z58h)) ?_
            obtain ⟨Xz59, HXz59, HPz59, HBz59⟩ := call_frame [] Hq
            dsimp only [List.cons_append, List.nil_append] at HXz59 HBz59
            obtain ⟨z60t, Hc, H⟩ := Option.bind_eq_some_iff.mp H
            refine r_call S0 rfl rfl goes19 rfl ?_
            refine (waybillplain_SameInts.calls _ _ _ _ z25t _ _ _ z31t _ _ (sl_own_rd [_, _, _] HPz59) (sl_own_rd [_, _] HPz59) HXz59 z60t Hc).mono ?_
            rintro e w ⟨rfl, Hq'⟩
            have Hq : HS W0 [own e_i64 3 z45A z43t.length z47n z43t, own e_i64 3 z39A z37t.length z41n z37t, own e_i64 3 z33A z31t.length z35n z31t, own e_i64 3 z27A z25t.length z29n z25t, own e_api_Point 39 z15A z13t.length z17n z13t, own e_api_Point 39 z9A z7t.length z11n z7t, own e_api_Point 39 z3A z2t.length z5n z2t, isH X] w := HBz59 [] _ Hq'
            clear HXz59 HPz59 HBz59 Hq'
            refine ⟨.bool z60t, rfl, ?_⟩; clear S0; intro a0 S0
            refine r_on S0 rfl rfl rfl (congrArg (!·) (decide_eq_true z58h)) ?_
            refine r_pures [_] S0 rfl ?_
            clear S0; intro a0 S0
            refine r_pick S0 rfl (congrArg (!·) (decide_eq_true z58h)) _ rfl rfl ?_
            clear S0; intro a0 S0
            refine r_pures [_] S0 rfl ?_
            clear S0; intro a0 S0
            by_cases z61h : z60t = true
            · replace H := (if_pos z61h).symm.trans H
              refine r_on S0 rfl rfl rfl (congrArg (!·) z61h) ?_
              refine r_pures [_] S0 rfl ?_
              clear S0; intro a0 S0
              refine r_on S0 rfl rfl rfl (congrArg (!·) z61h) ?_
              obtain ⟨Xz62, HXz62, HPz62, HBz62⟩ := call_frame [] Hq
              dsimp only [List.cons_append, List.nil_append] at HXz62 HBz62
              obtain ⟨z63t, Hc, H⟩ := Option.bind_eq_some_iff.mp H
              refine r_call S0 rfl rfl goes9 rfl ?_
              refine (waybilllaw12_num.calls z26t _ _  HXz62 z63t Hc).mono ?_
              rintro e w ⟨rfl, Hq'⟩
              have Hq : HS W0 [own e_i64 3 z45A z43t.length z47n z43t, own e_i64 3 z39A z37t.length z41n z37t, own e_i64 3 z33A z31t.length z35n z31t, own e_i64 3 z27A z25t.length z29n z25t, own e_api_Point 39 z15A z13t.length z17n z13t, own e_api_Point 39 z9A z7t.length z11n z7t, own e_api_Point 39 z3A z2t.length z5n z2t, isH X] w := HBz62 [] _ Hq'
              clear HXz62 HPz62 HBz62 Hq'
              refine ⟨.int .i64 z63t, rfl, ?_⟩; clear S0; intro a0 S0
              refine r_on S0 rfl rfl rfl (congrArg (!·) z61h) ?_
              refine r_pures [_] S0 rfl ?_
              clear S0; intro a0 S0
              refine r_on S0 rfl rfl rfl (congrArg (!·) z61h) ?_
              refine r_pures [_] S0 rfl ?_
              clear S0; intro a0 S0
              refine r_pick S0 rfl (congrArg (!·) z61h) _ rfl rfl ?_
              clear S0; intro a0 S0
              refine r_pures [_] S0 rfl ?_
              clear S0; intro a0 S0
              by_cases z64h : z63t = z32t
              · replace H := (if_pos z64h).symm.trans H
                refine r_on S0 rfl rfl rfl (congrArg (!·) (decide_eq_true z64h)) ?_
                refine r_pures [_] S0 rfl ?_
                clear S0; intro a0 S0
                refine r_on S0 rfl rfl rfl (congrArg (!·) (decide_eq_true z64h)) ?_
                refine r_pures [_] S0 rfl ?_
                clear S0; intro a0 S0
                refine r_on S0 rfl rfl rfl (congrArg (!·) (decide_eq_true z64h)) ?_
                obtain ⟨Xz65, HXz65, HPz65, HBz65⟩ := call_frame [] Hq
                dsimp only [List.cons_append, List.nil_append] at HXz65 HBz65
                obtain ⟨z66t, Hc, H⟩ := Option.bind_eq_some_iff.mp H
                refine r_call S0 rfl rfl goes19 rfl ?_
                refine (waybillplain_SameInts.calls _ _ _ _ z37t _ _ _ z43t _ _ (sl_own_rd [_] HPz65) (sl_own_rd [] HPz65) HXz65 z66t Hc).mono ?_
                rintro e w ⟨rfl, Hq'⟩
                have Hq : HS W0 [own e_i64 3 z45A z43t.length z47n z43t, own e_i64 3 z39A z37t.length z41n z37t, own e_i64 3 z33A z31t.length z35n z31t, own e_i64 3 z27A z25t.length z29n z25t, own e_api_Point 39 z15A z13t.length z17n z13t, own e_api_Point 39 z9A z7t.length z11n z7t, own e_api_Point 39 z3A z2t.length z5n z2t, isH X] w := HBz65 [] _ Hq'
                clear HXz65 HPz65 HBz65 Hq'
                refine ⟨.bool z66t, rfl, ?_⟩; clear S0; intro a0 S0
                refine r_on S0 rfl rfl rfl (congrArg (!·) (decide_eq_true z64h)) ?_
                refine r_pures [_] S0 rfl ?_
                clear S0; intro a0 S0
                refine r_pick S0 rfl (congrArg (!·) (decide_eq_true z64h)) _ rfl rfl ?_
                clear S0; intro a0 S0
                refine r_pures [_] S0 rfl ?_
                clear S0; intro a0 S0
                by_cases z67h : z66t = true
                · replace H := (if_pos z67h).symm.trans H
                  refine r_on S0 rfl rfl rfl (congrArg (!·) z67h) ?_
                  refine r_pures [_] S0 rfl ?_
                  clear S0; intro a0 S0
                  refine r_on S0 rfl rfl rfl (congrArg (!·) z67h) ?_
                  obtain ⟨Xz68, HXz68, HPz68, HBz68⟩ := call_frame [] Hq
                  dsimp only [List.cons_append, List.nil_append] at HXz68 HBz68
                  obtain ⟨z69t, Hc, H⟩ := Option.bind_eq_some_iff.mp H
                  refine r_call S0 rfl rfl goes9 rfl ?_
                  refine (waybilllaw12_num.calls z38t _ _  HXz68 z69t Hc).mono ?_
                  rintro e w ⟨rfl, Hq'⟩
                  have Hq : HS W0 [own e_i64 3 z45A z43t.length z47n z43t, own e_i64 3 z39A z37t.length z41n z37t, own e_i64 3 z33A z31t.length z35n z31t, own e_i64 3 z27A z25t.length z29n z25t, own e_api_Point 39 z15A z13t.length z17n z13t, own e_api_Point 39 z9A z7t.length z11n z7t, own e_api_Point 39 z3A z2t.length z5n z2t, isH X] w := HBz68 [] _ Hq'
                  clear HXz68 HPz68 HBz68 Hq'
                  refine ⟨.int .i64 z69t, rfl, ?_⟩; clear S0; intro a0 S0
                  refine r_on S0 rfl rfl rfl (congrArg (!·) z67h) ?_
                  refine r_pures [_] S0 rfl ?_
                  clear S0; intro a0 S0
                  refine r_on S0 rfl rfl rfl (congrArg (!·) z67h) ?_
                  refine r_pures [_] S0 rfl ?_
                  clear S0; intro a0 S0
                  refine r_pick S0 rfl (congrArg (!·) z67h) _ rfl rfl ?_
                  clear S0; intro a0 S0
                  refine wl_nil ?_
                  refine nr_then ?_
                  replace Hq := HS.pull [_, _, _, _, _, _, _] Hq
                  dsimp only [List.cons_append, List.nil_append] at Hq
                  replace Hq := HS.pull [_, _, _, _, _, _, _] Hq
                  dsimp only [List.cons_append, List.nil_append] at Hq
                  replace Hq := HS.keep [_, _] Hq
                  obtain rfl := Option.some.inj H
                  exact ⟨S0.sub ⟨rfl, rfl, rfl, rfl, trivial⟩, Hq⟩
                · replace H := (if_neg z67h).symm.trans H
                  refine r_off S0 rfl rfl rfl (congrArg (!·) (Bool.eq_false_iff.mpr z67h)) ?_ rfl
                  clear S0; intro a0 S0
                  refine r_off S0 rfl rfl rfl (congrArg (!·) (Bool.eq_false_iff.mpr z67h)) ?_ rfl
                  clear S0; intro a0 S0
                  refine r_off S0 rfl rfl rfl (congrArg (!·) (Bool.eq_false_iff.mpr z67h)) ?_ rfl
                  clear S0; intro a0 S0
                  refine r_off S0 rfl rfl rfl (congrArg (!·) (Bool.eq_false_iff.mpr z67h)) ?_ rfl
                  clear S0; intro a0 S0
                  refine r_pick S0 rfl (congrArg (!·) (Bool.eq_false_iff.mpr z67h)) _ rfl rfl ?_
                  clear S0; intro a0 S0
                  refine wl_nil ?_
                  refine nr_then ?_
                  replace Hq := HS.pull [_, _, _, _, _, _, _] Hq
                  dsimp only [List.cons_append, List.nil_append] at Hq
                  replace Hq := HS.pull [_, _, _, _, _, _, _] Hq
                  dsimp only [List.cons_append, List.nil_append] at Hq
                  replace Hq := HS.keep [_, _] Hq
                  obtain rfl := Option.some.inj H
                  exact ⟨S0.sub ⟨rfl, rfl, rfl, rfl, trivial⟩, Hq⟩
              · replace H := (if_neg z64h).symm.trans H
                refine r_off S0 rfl rfl rfl (congrArg (!·) (decide_eq_false z64h)) ?_ rfl
                clear S0; intro a0 S0
                refine r_off S0 rfl rfl rfl (congrArg (!·) (decide_eq_false z64h)) ?_ rfl
                clear S0; intro a0 S0
                refine r_off S0 rfl rfl rfl (congrArg (!·) (decide_eq_false z64h)) ?_ rfl
                clear S0; intro a0 S0
                refine r_off S0 rfl rfl rfl (congrArg (!·) (decide_eq_false z64h)) ?_ rfl
                clear S0; intro a0 S0
                refine r_pick S0 rfl (congrArg (!·) (decide_eq_false z64h)) _ rfl rfl ?_
                clear S0; intro a0 S0
                refine r_pures [_] S0 rfl ?_
                clear S0; intro a0 S0
                refine r_off S0 rfl rfl rfl rfl ?_ rfl
                clear S0; intro a0 S0
                refine r_off S0 rfl rfl rfl rfl ?_ rfl
                clear S0; intro a0 S0
                refine r_off S0 rfl rfl rfl rfl ?_ rfl
                clear S0; intro a0 S0
                refine r_off S0 rfl rfl rfl rfl ?_ rfl
                clear S0; intro a0 S0
                refine r_pick S0 rfl rfl _ rfl rfl ?_
                clear S0; intro a0 S0
                refine wl_nil ?_
                refine nr_then ?_
                replace Hq := HS.pull [_, _, _, _, _, _, _] Hq
                dsimp only [List.cons_append, List.nil_append] at Hq
                replace Hq := HS.pull [_, _, _, _, _, _, _] Hq
                dsimp only [List.cons_append, List.nil_append] at Hq
                replace Hq := HS.keep [_, _] Hq
                obtain rfl := Option.some.inj H
                exact ⟨S0.sub ⟨rfl, rfl, rfl, rfl, trivial⟩, Hq⟩
            · replace H := (if_neg z61h).symm.trans H
              refine r_off S0 rfl rfl rfl (congrArg (!·) (Bool.eq_false_iff.mpr z61h)) ?_ rfl
              clear S0; intro a0 S0
              refine r_off S0 rfl rfl rfl (congrArg (!·) (Bool.eq_false_iff.mpr z61h)) ?_ rfl
              clear S0; intro a0 S0
              refine r_off S0 rfl rfl rfl (congrArg (!·) (Bool.eq_false_iff.mpr z61h)) ?_ rfl
              clear S0; intro a0 S0
              refine r_off S0 rfl rfl rfl (congrArg (!·) (Bool.eq_false_iff.mpr z61h)) ?_ rfl
              clear S0; intro a0 S0
              refine r_pick S0 rfl (congrArg (!·) (Bool.eq_false_iff.mpr z61h)) _ rfl rfl ?_
              clear S0; intro a0 S0
              refine r_pures [_] S0 rfl ?_
              clear S0; intro a0 S0
              refine r_off S0 rfl rfl rfl rfl ?_ rfl
              clear S0; intro a0 S0
              refine r_off S0 rfl rfl rfl rfl ?_ rfl
              clear S0; intro a0 S0
              refine r_off S0 rfl rfl rfl rfl ?_ rfl
              clear S0; intro a0 S0
              refine r_off S0 rfl rfl rfl rfl ?_ rfl
              clear S0; intro a0 S0
              refine r_pick S0 rfl rfl _ rfl rfl ?_
              clear S0; intro a0 S0
              refine r_pures [_] S0 rfl ?_
              clear S0; intro a0 S0
              refine r_off S0 rfl rfl rfl rfl ?_ rfl
              clear S0; intro a0 S0
              refine r_off S0 rfl rfl rfl rfl ?_ rfl
              clear S0; intro a0 S0
              refine r_off S0 rfl rfl rfl rfl ?_ rfl
              clear S0; intro a0 S0
              refine r_off S0 rfl rfl rfl rfl ?_ rfl
              clear S0; intro a0 S0
              refine r_pick S0 rfl rfl _ rfl rfl ?_
              clear S0; intro a0 S0
              refine wl_nil ?_
              refine nr_then ?_
              replace Hq := HS.pull [_, _, _, _, _, _, _] Hq
              dsimp only [List.cons_append, List.nil_append] at Hq
              replace Hq := HS.pull [_, _, _, _, _, _, _] Hq
              dsimp only [List.cons_append, List.nil_append] at Hq
              replace Hq := HS.keep [_, _] Hq
              obtain rfl := Option.some.inj H
              exact ⟨S0.sub ⟨rfl, rfl, rfl, rfl, trivial⟩, Hq⟩
          · replace H := (if_neg z58h).symm.trans H
            refine r_off S0 rfl rfl rfl (congrArg (!·) (decide_eq_false z58h)) ?_ rfl
            clear S0; intro a0 S0
            refine r_off S0 rfl rfl rfl (congrArg (!·) (decide_eq_false z58h)) ?_ rfl
            clear S0; intro a0 S0
            refine r_off S0 rfl rfl rfl (congrArg (!·) (decide_eq_false z58h)) ?_ rfl
            clear S0; intro a0 S0
            refine r_off S0 rfl rfl rfl (congrArg (!·) (decide_eq_false z58h)) ?_ rfl
            clear S0; intro a0 S0
            refine r_pick S0 rfl (congrArg (!·) (decide_eq_false z58h)) _ rfl rfl ?_
            clear S0; intro a0 S0
            refine r_pures [_] S0 rfl ?_
            clear S0; intro a0 S0
            refine r_off S0 rfl rfl rfl rfl ?_ rfl
            clear S0; intro a0 S0
            refine r_off S0 rfl rfl rfl rfl ?_ rfl
            clear S0; intro a0 S0
            refine r_off S0 rfl rfl rfl rfl ?_ rfl
            clear S0; intro a0 S0
            refine r_off S0 rfl rfl rfl rfl ?_ rfl
            clear S0; intro a0 S0
            refine r_pick S0 rfl rfl _ rfl rfl ?_
            clear S0; intro a0 S0
            refine r_pures [_] S0 rfl ?_
            clear S0; intro a0 S0
            refine r_off S0 rfl rfl rfl rfl ?_ rfl
            clear S0; intro a0 S0
            refine r_off S0 rfl rfl rfl rfl ?_ rfl
            clear S0; intro a0 S0
            refine r_off S0 rfl rfl rfl rfl ?_ rfl
            clear S0; intro a0 S0
            refine r_off S0 rfl rfl rfl rfl ?_ rfl
            clear S0; intro a0 S0
            refine r_pick S0 rfl rfl _ rfl rfl ?_
            clear S0; intro a0 S0
            refine r_pures [_] S0 rfl ?_
            clear S0; intro a0 S0
            refine r_off S0 rfl rfl rfl rfl ?_ rfl
            clear S0; intro a0 S0
            refine r_off S0 rfl rfl rfl rfl ?_ rfl
            clear S0; intro a0 S0
            refine r_off S0 rfl rfl rfl rfl ?_ rfl
            clear S0; intro a0 S0
            refine r_off S0 rfl rfl rfl rfl ?_ rfl
            clear S0; intro a0 S0
            refine r_pick S0 rfl rfl _ rfl rfl ?_
            clear S0; intro a0 S0
            refine wl_nil ?_
            refine nr_then ?_
            replace Hq := HS.pull [_, _, _, _, _, _, _] Hq
            dsimp only [List.cons_append, List.nil_append] at Hq
            replace Hq := HS.pull [_, _, _, _, _, _, _] Hq
            dsimp only [List.cons_append, List.nil_append] at Hq
            replace Hq := HS.keep [_, _] Hq
            obtain rfl := Option.some.inj H
            exact ⟨S0.sub ⟨rfl, rfl, rfl, rfl, trivial⟩, Hq⟩
        · replace H := (if_neg z55h).symm.trans H
          refine r_off S0 rfl rfl rfl (congrArg (!·) (decide_eq_false z55h)) ?_ rfl
          clear S0; intro a0 S0
          refine r_off S0 rfl rfl rfl (congrArg (!·) (decide_eq_false z55h)) ?_ rfl
          clear S0; intro a0 S0
          refine r_off S0 rfl rfl rfl (congrArg (!·) (decide_eq_false z55h)) ?_ rfl
          clear S0; intro a0 S0
          refine r_off S0 rfl rfl rfl (congrArg (!·) (decide_eq_false z55h)) ?_ rfl
          clear S0; intro a0 S0
          refine r_pick S0 rfl (congrArg (!·) (decide_eq_false z55h)) _ rfl rfl ?_
          clear S0; intro a0 S0
          refine r_pures [_] S0 rfl ?_
          clear S0; intro a0 S0
          refine r_off S0 rfl rfl rfl rfl ?_ rfl
          clear S0; intro a0 S0
          refine r_off S0 rfl rfl rfl rfl ?_ rfl
          clear S0; intro a0 S0
          refine r_off S0 rfl rfl rfl rfl ?_ rfl
          clear S0; intro a0 S0
          refine r_off S0 rfl rfl rfl rfl ?_ rfl
          clear S0; intro a0 S0
          refine r_pick S0 rfl rfl _ rfl rfl ?_
          clear S0; intro a0 S0
          refine r_pures [_] S0 rfl ?_
          clear S0; intro a0 S0
          refine r_off S0 rfl rfl rfl rfl ?_ rfl
          clear S0; intro a0 S0
          refine r_off S0 rfl rfl rfl rfl ?_ rfl
          clear S0; intro a0 S0
          refine r_off S0 rfl rfl rfl rfl ?_ rfl
          clear S0; intro a0 S0
          refine r_off S0 rfl rfl rfl rfl ?_ rfl
          clear S0; intro a0 S0
          refine r_pick S0 rfl rfl _ rfl rfl ?_
          clear S0; intro a0 S0
          refine r_pures [_] S0 rfl ?_
          clear S0; intro a0 S0
          refine r_off S0 rfl rfl rfl rfl ?_ rfl
          clear S0; intro a0 S0
          refine r_off S0 rfl rfl rfl rfl ?_ rfl
          clear S0; intro a0 S0
          refine r_off S0 rfl rfl rfl rfl ?_ rfl
          clear S0; intro a0 S0
          refine r_off S0 rfl rfl rfl rfl ?_ rfl
          clear S0; intro a0 S0
          refine r_pick S0 rfl rfl _ rfl rfl ?_
          clear S0; intro a0 S0
          refine r_pures [_] S0 rfl ?_
          clear S0; intro a0 S0
          refine r_off S0 rfl rfl rfl rfl ?_ rfl
          clear S0; intro a0 S0
          refine r_off S0 rfl rfl rfl rfl ?_ rfl
          clear S0; intro a0 S0
          refine r_off S0 rfl rfl rfl rfl ?_ rfl
          clear S0; intro a0 S0
          refine r_off S0 rfl rfl rfl rfl ?_ rfl
          clear S0; intro a0 S0
          refine r_pick S0 rfl rfl _ rfl rfl ?_
          clear S0; intro a0 S0
          refine wl_nil ?_
          refine nr_then ?_
          replace Hq := HS.pull [_, _, _, _, _, _, _] Hq
          dsimp only [List.cons_append, List.nil_append] at Hq
          replace Hq := HS.pull [_, _, _, _, _, _, _] Hq
          dsimp only [List.cons_append, List.nil_append] at Hq
          replace Hq := HS.keep [_, _] Hq
          obtain rfl := Option.some.inj H
          exact ⟨S0.sub ⟨rfl, rfl, rfl, rfl, trivial⟩, Hq⟩
      · replace H := (if_neg z54h).symm.trans H
        refine r_off S0 rfl rfl rfl (congrArg (!·) (decide_eq_false z54h)) ?_ rfl
        clear S0; intro a0 S0
        refine r_off S0 rfl rfl rfl (congrArg (!·) (decide_eq_false z54h)) ?_ rfl
        clear S0; intro a0 S0
        refine r_off S0 rfl rfl rfl (congrArg (!·) (decide_eq_false z54h)) ?_ rfl
        clear S0; intro a0 S0
        refine r_pick S0 rfl (congrArg (!·) (decide_eq_false z54h)) _ rfl rfl ?_
        clear S0; intro a0 S0
        refine r_pures [_] S0 rfl ?_
        clear S0; intro a0 S0
        refine r_off S0 rfl rfl rfl rfl ?_ rfl
        clear S0; intro a0 S0
        refine r_off S0 rfl rfl rfl rfl ?_ rfl
        clear S0; intro a0 S0
        refine r_off S0 rfl rfl rfl rfl ?_ rfl
        clear S0; intro a0 S0
        refine r_off S0 rfl rfl rfl rfl ?_ rfl
        clear S0; intro a0 S0
        refine r_pick S0 rfl rfl _ rfl rfl ?_
        clear S0; intro a0 S0
        refine r_pures [_] S0 rfl ?_
        clear S0; intro a0 S0
        refine r_off S0 rfl rfl rfl rfl ?_ rfl
        clear S0; intro a0 S0
        refine r_off S0 rfl rfl rfl rfl ?_ rfl
        clear S0; intro a0 S0
        refine r_off S0 rfl rfl rfl rfl ?_ rfl
        clear S0; intro a0 S0
        refine r_off S0 rfl rfl rfl rfl ?_ rfl
        clear S0; intro a0 S0
        refine r_pick S0 rfl rfl _ rfl rfl ?_
        clear S0; intro a0 S0
        refine r_pures [_] S0 rfl ?_
        clear S0; intro a0 S0
        refine r_off S0 rfl rfl rfl rfl ?_ rfl
        clear S0; intro a0 S0
        refine r_off S0 rfl rfl rfl rfl ?_ rfl
        clear S0; intro a0 S0
        refine r_off S0 rfl rfl rfl rfl ?_ rfl
        clear S0; intro a0 S0
        refine r_off S0 rfl rfl rfl rfl ?_ rfl
        clear S0; intro a0 S0
        refine r_pick S0 rfl rfl _ rfl rfl ?_
        clear S0; intro a0 S0
        refine r_pures [_] S0 rfl ?_
        clear S0; intro a0 S0
        refine r_off S0 rfl rfl rfl rfl ?_ rfl
        clear S0; intro a0 S0
        refine r_off S0 rfl rfl rfl rfl ?_ rfl
        clear S0; intro a0 S0
        refine r_off S0 rfl rfl rfl rfl ?_ rfl
        clear S0; intro a0 S0
        refine r_off S0 rfl rfl rfl rfl ?_ rfl
        clear S0; intro a0 S0
        refine r_pick S0 rfl rfl _ rfl rfl ?_
        clear S0; intro a0 S0
        refine r_pures [_] S0 rfl ?_
        clear S0; intro a0 S0
        refine r_off S0 rfl rfl rfl rfl ?_ rfl
        clear S0; intro a0 S0
        refine r_off S0 rfl rfl rfl rfl ?_ rfl
        clear S0; intro a0 S0
        refine r_off S0 rfl rfl rfl rfl ?_ rfl
        clear S0; intro a0 S0
        refine r_off S0 rfl rfl rfl rfl ?_ rfl
        clear S0; intro a0 S0
        refine r_pick S0 rfl rfl _ rfl rfl ?_
        clear S0; intro a0 S0
        refine wl_nil ?_
        refine nr_then ?_
        replace Hq := HS.pull [_, _, _, _, _, _, _] Hq
        dsimp only [List.cons_append, List.nil_append] at Hq
        replace Hq := HS.pull [_, _, _, _, _, _, _] Hq
        dsimp only [List.cons_append, List.nil_append] at Hq
        replace Hq := HS.keep [_, _] Hq
        obtain rfl := Option.some.inj H
        exact ⟨S0.sub ⟨rfl, rfl, rfl, rfl, trivial⟩, Hq⟩
    · replace H := (if_neg z51h).symm.trans H
      refine r_off S0 rfl rfl rfl (congrArg (!·) (Bool.eq_false_iff.mpr z51h)) ?_ rfl
      clear S0; intro a0 S0
      refine r_off S0 rfl rfl rfl (congrArg (!·) (Bool.eq_false_iff.mpr z51h)) ?_ rfl
      clear S0; intro a0 S0
      refine r_off S0 rfl rfl rfl (congrArg (!·) (Bool.eq_false_iff.mpr z51h)) ?_ rfl
      clear S0; intro a0 S0
      refine r_off S0 rfl rfl rfl (congrArg (!·) (Bool.eq_false_iff.mpr z51h)) ?_ rfl
      clear S0; intro a0 S0
      refine r_pick S0 rfl (congrArg (!·) (Bool.eq_false_iff.mpr z51h)) _ rfl rfl ?_
      clear S0; intro a0 S0
      refine r_pures [_] S0 rfl ?_
      clear S0; intro a0 S0
      refine r_off S0 rfl rfl rfl rfl ?_ rfl
      clear S0; intro a0 S0
      refine r_off S0 rfl rfl rfl rfl ?_ rfl
      clear S0; intro a0 S0
      refine r_off S0 rfl rfl rfl rfl ?_ rfl
      clear S0; intro a0 S0
      refine r_pick S0 rfl rfl _ rfl rfl ?_
      clear S0; intro a0 S0
      refine r_pures [_] S0 rfl ?_
      clear S0; intro a0 S0
      refine r_off S0 rfl rfl rfl rfl ?_ rfl
      clear S0; intro a0 S0
      refine r_off S0 rfl rfl rfl rfl ?_ rfl
      clear S0; intro a0 S0
      refine r_off S0 rfl rfl rfl rfl ?_ rfl
      clear S0; intro a0 S0
      refine r_off S0 rfl rfl rfl rfl ?_ rfl
      clear S0; intro a0 S0
      refine r_pick S0 rfl rfl _ rfl rfl ?_
      clear S0; intro a0 S0
      refine r_pures [_] S0 rfl ?_
      clear S0; intro a0 S0
      refine r_off S0 rfl rfl rfl rfl ?_ rfl
      clear S0; intro a0 S0
      refine r_off S0 rfl rfl rfl rfl ?_ rfl
      clear S0; intro a0 S0
      refine r_off S0 rfl rfl rfl rfl ?_ rfl
      clear S0; intro a0 S0
      refine r_off S0 rfl rfl rfl rfl ?_ rfl
      clear S0; intro a0 S0
      refine r_pick S0 rfl rfl _ rfl rfl ?_
      clear S0; intro a0 S0
      refine r_pures [_] S0 rfl ?_
      clear S0; intro a0 S0
      refine r_off S0 rfl rfl rfl rfl ?_ rfl
      clear S0; intro a0 S0
      refine r_off S0 rfl rfl rfl rfl ?_ rfl
      clear S0; intro a0 S0
      refine r_off S0 rfl rfl rfl rfl ?_ rfl
      clear S0; intro a0 S0
      refine r_off S0 rfl rfl rfl rfl ?_ rfl
      clear S0; intro a0 S0
      refine r_pick S0 rfl rfl _ rfl rfl ?_
      clear S0; intro a0 S0
      refine r_pures [_] S0 rfl ?_
      clear S0; intro a0 S0
      refine r_off S0 rfl rfl rfl rfl ?_ rfl
      clear S0; intro a0 S0
      refine r_off S0 rfl rfl rfl rfl ?_ rfl
      clear S0; intro a0 S0
      refine r_off S0 rfl rfl rfl rfl ?_ rfl
      clear S0; intro a0 S0
      refine r_off S0 rfl rfl rfl rfl ?_ rfl
      clear S0; intro a0 S0
      refine r_pick S0 rfl rfl _ rfl rfl ?_
      clear S0; intro a0 S0
      refine r_pures [_] S0 rfl ?_
      clear S0; intro a0 S0
      refine r_off S0 rfl rfl rfl rfl ?_ rfl
      clear S0; intro a0 S0
      refine r_off S0 rfl rfl rfl rfl ?_ rfl
      clear S0; intro a0 S0
      refine r_off S0 rfl rfl rfl rfl ?_ rfl
      clear S0; intro a0 S0
      refine r_off S0 rfl rfl rfl rfl ?_ rfl
      clear S0; intro a0 S0
      refine r_pick S0 rfl rfl _ rfl rfl ?_
      clear S0; intro a0 S0
      refine wl_nil ?_
      refine nr_then ?_
      replace Hq := HS.pull [_, _, _, _, _, _, _] Hq
      dsimp only [List.cons_append, List.nil_append] at Hq
      replace Hq := HS.pull [_, _, _, _, _, _, _] Hq
      dsimp only [List.cons_append, List.nil_append] at Hq
      replace Hq := HS.keep [_, _] Hq
      obtain rfl := Option.some.inj H
      exact ⟨S0.sub ⟨rfl, rfl, rfl, rfl, trivial⟩, Hq⟩
  · clear S0; rintro a w ⟨S0, Hq⟩
    have H := HU1; clear HU1
    refine nr_then ?_
    by_cases z70h : z48x = true
    · replace H := (if_pos z70h).symm.trans H
      refine w_true S0 rfl z70h ?_
      refine w_seq ?_
      refine w_region ?_
      refine r_pures [_] S0 rfl ?_
      clear S0; intro a0 S0
      refine wl_nil ?_
      refine nr_then ?_
      refine w_ret ?_
      refine ret_then ?_
      obtain rfl := Option.some.inj H
      refine ret1 S0 rfl rfl ?_
      replace Hq := HS.pull [_] Hq
      dsimp only [List.cons_append, List.nil_append] at Hq
      replace Hq := HS.keep [_] Hq
      exact ⟨rfl, Hq⟩
    · replace H := (if_neg z70h).symm.trans H
      refine w_false S0 rfl (Bool.eq_false_iff.mpr z70h) ?_
      refine w_skip ?_
      refine nr_then ?_
      refine w_seq ?_
      obtain ⟨z71x, H, HU2⟩ := Option.bind_eq_some_iff.mp H
      refine w_cutT (fun a w => Sl 145 [] [(10, .bool z71x)] a ∧ HS W0 [isH X] w) ?_ ?_
      · skip
        refine w_region ?_
        refine r_pures [_] S0 rfl ?_
        clear S0; intro a0 S0
        obtain ⟨Xz72, HXz72, HPz72, HBz72⟩ := call_frame [] Hq
        dsimp only [List.cons_append, List.nil_append] at HXz72 HBz72
        obtain ⟨z73t, Hc, H⟩ := Option.bind_eq_some_iff.mp H
        refine r_call S0 rfl rfl goes20 rfl ?_
        refine (ring_Check.calls _ _ _ _ x_l _ _ (sl_isH_rd [_] HPz72 HR1) HXz72 z73t Hc).mono ?_
        rintro e w ⟨rfl, Hq'⟩
        have Hq : HS W0 [own e_api_Point 39 z3A z2t.length z5n z2t, isH X] w := HBz72 [] _ Hq'
        clear HXz72 HPz72 HBz72 Hq'
        refine ⟨.int .i64 z73t, rfl, ?_⟩; clear S0; intro a0 S0
        obtain ⟨Xz74, HXz74, HPz74, HBz74⟩ := call_frame [] Hq
        dsimp only [List.cons_append, List.nil_append] at HXz74 HBz74
        obtain ⟨z75t, Hc, H⟩ := Option.bind_eq_some_iff.mp H
        refine r_call S0 rfl rfl goes9 rfl ?_
        refine (waybilllaw12_num.calls z73t _ _  HXz74 z75t Hc).mono ?_
        rintro e w ⟨rfl, Hq'⟩
        have Hq : HS W0 [own e_api_Point 39 z3A z2t.length z5n z2t, isH X] w := HBz74 [] _ Hq'
        clear HXz74 HPz74 HBz74 Hq'
        refine ⟨.int .i64 z75t, rfl, ?_⟩; clear S0; intro a0 S0
        refine r_pures [_] S0 rfl ?_
        clear S0; intro a0 S0
        obtain ⟨Xz76, HXz76, HPz76, HBz76⟩ := call_frame [] Hq
        dsimp only [List.cons_append, List.nil_append] at HXz76 HBz76
        obtain ⟨z77t, Hc, H⟩ := Option.bind_eq_some_iff.mp H
        refine r_call S0 rfl rfl goes21 rfl ?_
        refine (waybillref12_Check.calls _ _ _ _ x_l _ _ (sl_isH_rd [_] HPz76 HR1) HXz76 z77t Hc).mono ?_
        rintro e w ⟨rfl, Hq'⟩
        have Hq : HS W0 [own e_api_Point 39 z3A z2t.length z5n z2t, isH X] w := HBz76 [] _ Hq'
        clear HXz76 HPz76 HBz76 Hq'
        refine ⟨.int .i64 z77t, rfl, ?_⟩; clear S0; intro a0 S0
        refine r_pures [_, _] S0 rfl ?_
        clear S0; intro a0 S0
        by_cases z78h : z75t = z77t
        · replace H := (if_pos z78h).symm.trans H
          refine r_on S0 rfl rfl rfl (decide_eq_true z78h) ?_
          refine r_pures [_] S0 rfl ?_
          clear S0; intro a0 S0
          refine r_on S0 rfl rfl rfl (decide_eq_true z78h) ?_
          obtain ⟨Xz79, HXz79, HPz79, HBz79⟩ := call_frame [] Hq
          dsimp only [List.cons_append, List.nil_append] at HXz79 HBz79
          obtain ⟨z80t, Hc, H⟩ := Option.bind_eq_some_iff.mp H
          refine r_call S0 rfl rfl goes22 rfl ?_
          refine (ring_Whole.calls _ _ _ _ z2t _ _ (sl_own_rd [] HPz79) HXz79 z80t Hc).mono ?_
          rintro e w ⟨rfl, Hq'⟩
          have Hq : HS W0 [own e_api_Point 39 z3A z2t.length z5n z2t, isH X] w := HBz79 [] _ Hq'
          clear HXz79 HPz79 HBz79 Hq'
          refine ⟨.int .i64 z80t, rfl, ?_⟩; clear S0; intro a0 S0
          refine r_on S0 rfl rfl rfl (decide_eq_true z78h) ?_
          obtain ⟨Xz81, HXz81, HPz81, HBz81⟩ := call_frame [] Hq
          dsimp only [List.cons_append, List.nil_append] at HXz81 HBz81
          obtain ⟨z82t, Hc, H⟩ := Option.bind_eq_some_iff.mp H
          refine r_call S0 rfl rfl goes9 rfl ?_
          refine (waybilllaw12_num.calls z80t _ _  HXz81 z82t Hc).mono ?_
          rintro e w ⟨rfl, Hq'⟩
          have Hq : HS W0 [own e_api_Point 39 z3A z2t.length z5n z2t, isH X] w := HBz81 [] _ Hq'
          clear HXz81 HPz81 HBz81 Hq'
          refine ⟨.int .i64 z82t, rfl, ?_⟩; clear S0; intro a0 S0
          refine r_on S0 rfl rfl rfl (decide_eq_true z78h) ?_
          refine r_pures [_] S0 rfl ?_
          clear S0; intro a0 S0
          refine r_on S0 rfl rfl rfl (decide_eq_true z78h) ?_
          obtain ⟨Xz83, HXz83, HPz83, HBz83⟩ := call_frame [] Hq
          dsimp only [List.cons_append, List.nil_append] at HXz83 HBz83
          obtain ⟨z84t, Hc, H⟩ := Option.bind_eq_some_iff.mp H
          refine r_call S0 rfl rfl goes23 rfl ?_
          refine (waybillref12_Whole.calls _ _ _ _ x_r _ _ (sl_isH_rd [_] HPz83 HR2) HXz83 z84t Hc).mono ?_
          rintro e w ⟨rfl, Hq'⟩
          have Hq : HS W0 [own e_api_Point 39 z3A z2t.length z5n z2t, isH X] w := HBz83 [] _ Hq'
          clear HXz83 HPz83 HBz83 Hq'
          refine ⟨.int .i64 z84t, rfl, ?_⟩; clear S0; intro a0 S0
          refine r_on S0 rfl rfl rfl (decide_eq_true z78h) ?_
          refine r_pures [_] S0 rfl ?_
          clear S0; intro a0 S0
          refine r_pick S0 rfl (decide_eq_true z78h) _ rfl rfl ?_
          clear S0; intro a0 S0
          refine r_pures [_] S0 rfl ?_
          clear S0; intro a0 S0
          by_cases z85h : z82t = z84t
          · replace H := (if_pos z85h).symm.trans H
            refine r_on S0 rfl rfl rfl (decide_eq_true z85h) ?_
            refine r_pures [_] S0 rfl ?_
            clear S0; intro a0 S0
            refine r_on S0 rfl rfl rfl (decide_eq_true z85h) ?_
            refine r_pures [_] S0 rfl ?_
            clear S0; intro a0 S0
            refine r_on S0 rfl rfl rfl (decide_eq_true z85h) ?_
            obtain ⟨Xz86, HXz86, HPz86, HBz86⟩ := call_frame [] Hq
            dsimp only [List.cons_append, List.nil_append] at HXz86 HBz86
            obtain ⟨z87t, Hc, H⟩ := Option.bind_eq_some_iff.mp H
            refine r_call S0 rfl rfl goes18 rfl ?_
            refine (waybillplain_SamePoints.calls _ _ _ _ z2t _ _ _ x_r _ _ (sl_own_rd [] HPz86) (sl_isH_rd [_] HPz86 HR2) HXz86 z87t Hc).mono ?_
            rintro e w ⟨rfl, Hq'⟩
            have Hq : HS W0 [own e_api_Point 39 z3A z2t.length z5n z2t, isH X] w := HBz86 [] _ Hq'
            clear HXz86 HPz86 HBz86 Hq'
            refine ⟨.bool z87t, rfl, ?_⟩; clear S0; intro a0 S0
            refine r_pick S0 rfl (decide_eq_true z85h) _ rfl rfl ?_
            clear S0; intro a0 S0
            refine r_pures [_] S0 rfl ?_
            clear S0; intro a0 S0
            by_cases z88h : z87t = true
            · replace H := (if_pos z88h).symm.trans H
              refine r_on S0 rfl rfl rfl z88h ?_
              obtain ⟨Xz89, HXz89, HPz89, HBz89⟩ := call_frame [] Hq
              dsimp only [List.cons_append, List.nil_append] at HXz89 HBz89
              obtain ⟨z90t, Hc, H⟩ := Option.bind_eq_some_iff.mp H
              refine r_call S0 rfl rfl goes7 rfl ?_
              refine (waybilllaw12_alive.calls _  _ _  HXz89 z90t Hc).mono ?_
              rintro e w ⟨rfl, Hq'⟩
              have Hq : HS W0 [own e_api_Point 39 z3A z2t.length z5n z2t, isH X] w := HBz89 [] _ Hq'
              clear HXz89 HPz89 HBz89 Hq'
              refine ⟨.bool z90t, rfl, ?_⟩; clear S0; intro a0 S0
              refine r_pick S0 rfl z88h _ rfl rfl ?_
              clear S0; intro a0 S0
              refine r_pures [_] S0 rfl ?_
              clear S0; intro a0 S0
              refine wl_nil ?_
              refine nr_then ?_
              replace Hq := HS.pull [_] Hq
              dsimp only [List.cons_append, List.nil_append] at Hq
              replace Hq := HS.keep [_] Hq
              obtain rfl := Option.some.inj H
              exact ⟨S0.sub ⟨rfl, trivial⟩, Hq⟩
            · replace H := (if_neg z88h).symm.trans H
              refine r_off S0 rfl rfl rfl (Bool.eq_false_iff.mpr z88h) ?_ rfl
              clear S0; intro a0 S0
              refine r_pick S0 rfl (Bool.eq_false_iff.mpr z88h) _ rfl rfl ?_
              clear S0; intro a0 S0
              refine r_pures [_] S0 rfl ?_
              clear S0; intro a0 S0
              refine wl_nil ?_
              refine nr_then ?_
              replace Hq := HS.pull [_] Hq
              dsimp only [List.cons_append, List.nil_append] at Hq
              replace Hq := HS.keep [_] Hq
              obtain rfl := Option.some.inj H
              exact ⟨S0.sub ⟨rfl, trivial⟩, Hq⟩
          · replace H := (if_neg z85h).symm.trans H
            refine r_off S0 rfl rfl rfl (decide_eq_false z85h) ?_ rfl
            clear S0; intro a0 S0
            refine r_off S0 rfl rfl rfl (decide_eq_false z85h) ?_ rfl
            clear S0; intro a0 S0
            refine r_off S0 rfl rfl rfl (decide_eq_false z85h) ?_ rfl
            clear S0; intro a0 S0
            refine r_pick S0 rfl (decide_eq_false z85h) _ rfl rfl ?_
            clear S0; intro a0 S0
            refine r_pures [_] S0 rfl ?_
            clear S0; intro a0 S0
            refine r_off S0 rfl rfl rfl rfl ?_ rfl
            clear S0; intro a0 S0
            refine r_pick S0 rfl rfl _ rfl rfl ?_
            clear S0; intro a0 S0
            refine r_pures [_] S0 rfl ?_
            clear S0; intro a0 S0
            refine wl_nil ?_
            refine nr_then ?_
            replace Hq := HS.pull [_] Hq
            dsimp only [List.cons_append, List.nil_append] at Hq
            replace Hq := HS.keep [_] Hq
            obtain rfl := Option.some.inj H
            exact ⟨S0.sub ⟨rfl, trivial⟩, Hq⟩
        · replace H := (if_neg z78h).symm.trans H
          refine r_off S0 rfl rfl rfl (decide_eq_false z78h) ?_ rfl
          clear S0; intro a0 S0
          refine r_off S0 rfl rfl rfl (decide_eq_false z78h) ?_ rfl
          clear S0; intro a0 S0
          refine r_off S0 rfl rfl rfl (decide_eq_false z78h) ?_ rfl
          clear S0; intro a0 S0
          refine r_off S0 rfl rfl rfl (decide_eq_false z78h) ?_ rfl
          clear S0; intro a0 S0
          refine r_off S0 rfl rfl rfl (decide_eq_false z78h) ?_ rfl
          clear S0; intro a0 S0
          refine r_off S0 rfl rfl rfl (decide_eq_false z78h) ?_ rfl
          clear S0; intro a0 S0
          refine r_pick S0 rfl (decide_eq_false z78h) _ rfl rfl ?_
          clear S0; intro a0 S0
          refine r_pures [_] S0 rfl ?_
          clear S0; intro a0 S0
          refine r_off S0 rfl rfl rfl rfl ?_ rfl
          clear S0; intro a0 S0
          refine r_off S0 rfl rfl rfl rfl ?_ rfl
          clear S0; intro a0 S0
          refine r_off S0 rfl rfl rfl rfl ?_ rfl
          clear S0; intro a0 S0
          refine r_pick S0 rfl rfl _ rfl rfl ?_
          clear S0; intro a0 S0
          refine r_pures [_] S0 rfl ?_
          clear S0; intro a0 S0
          refine r_off S0 rfl rfl rfl rfl ?_ rfl
          clear S0; intro a0 S0
          refine r_pick S0 rfl rfl _ rfl rfl ?_
          clear S0; intro a0 S0
          refine r_pures [_] S0 rfl ?_
          clear S0; intro a0 S0
          refine wl_nil ?_
          refine nr_then ?_
          replace Hq := HS.pull [_] Hq
          dsimp only [List.cons_append, List.nil_append] at Hq
          replace Hq := HS.keep [_] Hq
          obtain rfl := Option.some.inj H
          exact ⟨S0.sub ⟨rfl, trivial⟩, Hq⟩
      · clear S0; rintro a w ⟨S0, Hq⟩
        have H := HU2; clear HU2
        refine nr_then ?_
        refine w_ret ?_
        obtain rfl := Option.some.inj H
        refine ret1 S0 rfl rfl ?_
        exact ⟨rfl, Hq⟩

end Go.Proofs.Ytmdpjijafejgpaa.M

/- Plain words: what a function with rounds comes to, however many rounds it has; scans; maps; places in rows. -/
set_option linter.unusedVariables false
set_option linter.unusedSimpArgs false
namespace Go.Proofs.Ytmdpjijafejgpaa.Sl
open Go

def Ev {β : Type} (g : Nat → Option β) (r : β) : Prop := ∃ k0, ∀ k, k0 ≤ k → g k = some r
section
variable {β γ : Type} {r : β}
theorem Ev.ret : Ev (fun _ => some r) r := ⟨0, fun _ _ => rfl⟩
theorem Ev.of {o : Option β} (h : o = some r) : Ev (fun _ => o) r := ⟨0, fun _ _ => h⟩
theorem Ev.bind {g : Nat → Option γ} {h : Nat → γ → Option β} {x : γ} (h1 : Ev g x) (h2 : Ev (fun k => h k x) r) : Ev (fun k => (g k).bind fun y => h k y) r := by
  obtain ⟨a, ha⟩ := h1; obtain ⟨b, hb⟩ := h2
  exact ⟨max a b, fun k hk => by show (g k).bind _ = _; rw [ha k (by omega), Option.bind_some]; exact hb k (by omega)⟩
theorem Ev.succ {f : Nat → Option β} (h : Ev (fun k => f (k + 1)) r) : Ev f r := by
  obtain ⟨a, ha⟩ := h
  exact ⟨a + 1, fun k hk => by obtain ⟨j, rfl⟩ : ∃ j, k = j + 1 := ⟨k - 1, by omega⟩; exact ha j (by omega)⟩
theorem Ev.add {f : Nat → Option β} (n : Nat) (h : ∀ k, f (k + n) = some r) : Ev f r := ⟨n, fun k hk => by obtain ⟨j, rfl⟩ : ∃ j, k = j + n := ⟨k - n, by omega⟩; exact h j⟩
theorem Ev.pos {c : Prop} [Decidable c] {a b : Nat → Option β} (hc : c) (h : Ev a r) : Ev (fun k => if c then a k else b k) r := by
  obtain ⟨x, hx⟩ := h; exact ⟨x, fun k hk => (if_pos hc).trans (hx k hk)⟩
theorem Ev.neg {c : Prop} [Decidable c] {a b : Nat → Option β} (hc : ¬ c) (h : Ev b r) : Ev (fun k => if c then a k else b k) r := by
  obtain ⟨x, hx⟩ := h; exact ⟨x, fun k hk => (if_neg hc).trans (hx k hk)⟩
theorem Ev.dpos {p : Prop} [Decidable p] {a b : Nat → Option β} (hp : p) (h : Ev a r) : Ev (fun k => if decide p = true then a k else b k) r := Ev.pos (decide_eq_true hp) h
theorem Ev.dneg {p : Prop} [Decidable p] {a b : Nat → Option β} (hp : ¬ p) (h : Ev b r) : Ev (fun k => if decide p = true then a k else b k) r := Ev.neg (by rw [decide_eq_false hp]; exact Bool.false_ne_true) h
theorem Ev.congr {f g : Nat → Option β} (e : ∀ k, f k = g k) (h : Ev g r) : Ev f r := by
  obtain ⟨x, hx⟩ := h; exact ⟨x, fun k hk => (e k).trans (hx k hk)⟩
theorem Ev.some {f : Nat → Option β} (h : Ev f r) : ∃ k, f k = some r := by obtain ⟨k, hk⟩ := h; exact ⟨k, hk k (Nat.le_refl _)⟩
/-- a test whose two ways meet -/
theorem Ev.ite {c : Prop} [Decidable c] {a b : Nat → Option β} (h1 : c → Ev a r) (h2 : ¬ c → Ev b r) : Ev (fun k => if c then a k else b k) r := by
  by_cases h : c
  · exact Ev.pos h (h1 h)
  · exact Ev.neg h (h2 h)
theorem Ev.uniq {f : Nat → Option β} {s : β} (h1 : Ev f r) (h2 : Ev f s) : r = s := by
  obtain ⟨a, ha⟩ := h1; obtain ⟨b, hb⟩ := h2
  have := (ha (max a b) (by omega)).symm.trans (hb (max a b) (by omega))
  exact Option.some.inj this
theorem Ev.of_pos {c : Prop} [Decidable c] {a b : Nat → Option β} (hc : c) (h : Ev (fun k => if c then a k else b k) r) : Ev a r := by
  obtain ⟨x, hx⟩ := h; exact ⟨x, fun k hk => (if_pos hc).symm.trans (hx k hk)⟩
theorem Ev.of_neg {c : Prop} [Decidable c] {a b : Nat → Option β} (hc : ¬ c) (h : Ev (fun k => if c then a k else b k) r) : Ev b r := by
  obtain ⟨x, hx⟩ := h; exact ⟨x, fun k hk => (if_neg hc).symm.trans (hx k hk)⟩
/-- a scan: rounds go on while p does not hold -/
theorem scan {n : Nat} {p : Nat → Prop} {L : Nat → Int → Option β} (step : ∀ i : Nat, i < n → ¬ p i → ∀ r, Ev (fun k => L k ((i + 1 : Nat) : Int)) r → Ev (fun k => L k (i : Int)) r) :
    ∀ (d i : Nat), i + d ≤ n → (∀ j, i ≤ j → j < i + d → ¬ p j) → ∀ r, Ev (fun k => L k ((i + d : Nat) : Int)) r → Ev (fun k => L k (i : Int)) r
  | 0, i, _, _, r, h => h
  | d + 1, i, h1, h2, r, h => step i (by omega) (h2 i (Nat.le_refl _) (by omega)) r (scan step d (i + 1) (by omega) (fun j hj hj2 => h2 j (by omega) (by omega)) r (by rw [show i + 1 + d = i + (d + 1) by omega]; exact h))
theorem scan_all {n : Nat} {p : Nat → Prop} {L : Nat → Int → Option β} (step : ∀ i : Nat, i < n → ¬ p i → ∀ r, Ev (fun k => L k ((i + 1 : Nat) : Int)) r → Ev (fun k => L k (i : Int)) r)
    (h : ∀ j, j < n → ¬ p j) {r : β} (hr : Ev (fun k => L k (n : Int)) r) : Ev (fun k => L k 0) r := by
  have := scan step n 0 (by omega) (fun j _ hj => h j (by omega)) r (by rw [Nat.zero_add]; exact hr)
  exact this
theorem first {p : Nat → Prop} {n : Nat} (h : ∃ i, i < n ∧ p i) : ∃ i, i < n ∧ p i ∧ ∀ j, j < i → ¬ p j := by
  obtain ⟨i, hi, hp⟩ := h
  induction i using Nat.strongRecOn with
  | _ i ih =>
    by_cases q : ∃ j, j < i ∧ p j
    · obtain ⟨j, hj, hpj⟩ := q; exact ih j hj (by omega) hpj
    · exact ⟨i, hi, hp, fun j hj hpj => q ⟨j, hj, hpj⟩⟩
theorem scan_hit {n : Nat} {p : Nat → Prop} {L : Nat → Int → Option β} (step : ∀ i : Nat, i < n → ¬ p i → ∀ r, Ev (fun k => L k ((i + 1 : Nat) : Int)) r → Ev (fun k => L k (i : Int)) r)
    (hex : ∃ i, i < n ∧ p i) {r : β} (hit : ∀ i : Nat, i < n → p i → (∀ j, j < i → ¬ p j) → Ev (fun k => L k (i : Int)) r) : Ev (fun k => L k 0) r := by
  obtain ⟨i, hi, hp, hf⟩ := first hex
  have := scan step i 0 (by omega) (fun j _ hj => hf j (by omega)) r (by rw [Nat.zero_add]; exact hit i hi hp hf)
  exact this
end

theorem W_succ {i : Nat} (h : i < 4611686018427387904) : IntKind.i64.wrap ((i : Int) + 1) = ((i + 1 : Nat) : Int) := by rw [W_eq (by omega) (by omega)]; omega
theorem W_pred {i : Nat} (h : i < 4611686018427387904) (h0 : 0 < i) : IntKind.i64.wrap ((i : Int) - 1) = ((i - 1 : Nat) : Int) := by rw [W_eq (by omega) (by omega)]; omega

section
variable {α : Type} (e : En α)
theorem rd_def (l : List α) (i : Nat) : rd e l (i : Int) = l.getD i e.z := rfl
theorem rd_zero (l : List α) : rd e l 0 = l.getD 0 e.z := rfl
end
theorem getD_get {α : Type} (l : List α) (i : Nat) (z : α) (h : i < l.length) : l.getD i z = l[i] := by simp [List.getD, List.getElem?_eq_getElem h]
theorem getD_mem {α : Type} (l : List α) (i : Nat) (z : α) (h : i < l.length) : l.getD i z ∈ l := by rw [getD_get l i z h]; exact List.getElem_mem _
theorem getD_set {α : Type} (l : List α) (i j : Nat) (x z : α) : (l.set i x).getD j z = if i = j ∧ i < l.length then x else l.getD j z := by
  simp only [List.getD, List.getElem?_set]
  by_cases h1 : i = j
  · subst h1
    by_cases h2 : i < l.length
    · simp [h2]
    · simp [h2]
  · simp [h1]
theorem getD_take {α : Type} (l : List α) (n j : Nat) (z : α) (h : j < n) : (l.take n).getD j z = l.getD j z := by
  simp [List.getD, List.getElem?_take, h]
theorem getD_append_left {α : Type} (l m : List α) (j : Nat) (z : α) (h : j < l.length) : (l ++ m).getD j z = l.getD j z := by
  simp [List.getD, List.getElem?_append_left h]
theorem mem_getD {α : Type} {l : List α} {x : α} (z : α) (h : x ∈ l) : ∃ i, i < l.length ∧ l.getD i z = x := by
  obtain ⟨i, hi, rfl⟩ := List.getElem_of_mem h
  exact ⟨i, hi, getD_get l i z hi⟩
theorem ext_getD {α : Type} {l m : List α} (z : α) (hl : l.length = m.length) (h : ∀ i, i < l.length → l.getD i z = m.getD i z) : l = m := by
  refine List.ext_getElem hl fun i h1 h2 => ?_
  have := h i h1
  rwa [getD_get l i z h1, getD_get m i z h2] at this

/-! ### maps -/
theorem mfind_shift {β : Type} (p : Int) : ∀ (m : List (Int × β)) (i : Nat), mfind m p i = (mfind m p 0).map fun x => (x.1 + i, x.2) := by
  intro m
  induction m with
  | nil => intro i; rfl
  | cons a m ih =>
    intro i
    obtain ⟨q, y⟩ := a
    simp only [mfind]
    split
    · simp
    · rw [ih (i + 1), ih (0 + 1)]
      cases mfind m p 0 with
      | none => rfl
      | some x => simp; omega
def mval {β : Type} (m : List (Int × β)) (p : Int) : Option β := (mfind m p 0).map (·.2)
theorem mget_val {β : Type} (m : List (Int × β)) (p : Int) (z : β) : mget m p z = (mval m p).getD z := by
  unfold mget mval; cases mfind m p 0 <;> rfl
theorem mval_nil {β : Type} (p : Int) : mval ([] : List (Int × β)) p = none := rfl
theorem mval_cons {β : Type} (q : Int) (y : β) (m : List (Int × β)) (p : Int) : mval ((q, y) :: m) p = if p = q then some y else mval m p := by
  unfold mval
  simp only [mfind]
  split
  · rfl
  · rw [mfind_shift]
    cases mfind m p 0 <;> rfl
theorem mval_mput {β : Type} (p : Int) (v : β) (q : Int) : ∀ (m : List (Int × β)), mval (mput m p v) q = if p = q then some v else mval m q := by
  intro m
  induction m with
  | nil =>
    rw [mput, mval_cons]
    by_cases h : p = q
    · rw [if_pos h, if_pos h.symm]
    · rw [if_neg h, if_neg (Ne.symm h)]
  | cons a m ih =>
    obtain ⟨b, u⟩ := a
    rw [mput]
    by_cases hb : p = b
    · subst hb
      rw [if_pos rfl, mval_cons, mval_cons]
      by_cases h : p = q
      · rw [if_pos h, if_pos h.symm]
      · rw [if_neg h, if_neg (Ne.symm h), if_neg (Ne.symm h)]
    · rw [if_neg hb, mval_cons, mval_cons, ih]
      by_cases h1 : q = b
      · subst h1; rw [if_pos rfl, if_neg hb, if_pos rfl]
      · rw [if_neg h1, if_neg h1]
theorem mget_mput {β : Type} (m : List (Int × β)) (p : Int) (v : β) (q : Int) (z : β) : mget (mput m p v) q z = if p = q then v else mget m q z := by
  rw [mget_val, mget_val, mval_mput]; split <;> rfl
end Go.Proofs.Ytmdpjijafejgpaa.Sl

/- Hashes: the program's and the page's are one. -/
set_option linter.unusedVariables false
set_option linter.unusedSimpArgs false
namespace Go.Proofs.Ytmdpjijafejgpaa.M
open Go Go.Proofs.Ytmdpjijafejgpaa.Sl

theorem U_mod (x : Int) : IntKind.u64.wrap x = x % 18446744073709551616 := IntKind.wrap_u64 x
theorem shr_nat (b i : Nat) (hi : i ≤ 64) : sh_shr .u64 (b : Int) (i : Int) = ((b / 2 ^ i : Nat) : Int) := by
  unfold sh_shr
  have e : min (Int.toNat (i : Int)) (IntKind.u64.bits) = i := by
    rw [Int.toNat_natCast, show IntKind.u64.bits = 64 from rfl]; omega
  rw [e, Int.fdiv_eq_ediv_of_nonneg _ (Int.le_of_lt (Int.pow_pos (by decide)))]
  simp
theorem shl_nat (a : Int) (i : Nat) (hi : i ≤ 64) : sh_shl .u64 a (i : Int) = IntKind.u64.wrap (a * 2 ^ i) := by
  unfold sh_shl
  have e : min (Int.toNat (i : Int)) (IntKind.u64.bits) = i := by
    rw [Int.toNat_natCast, show IntKind.u64.bits = 64 from rfl]; omega
  rw [e]
theorem and_one (m : Nat) (hm : m < 18446744073709551616) : bt_and .u64 (m : Int) 1 = ((m % 2 : Nat) : Int) := by
  unfold bt_and
  rw [U_mod]
  have h : (BitVec.ofInt IntKind.u64.bits (m : Int) &&& BitVec.ofInt IntKind.u64.bits 1).toNat = m % 2 := by
    rw [BitVec.toNat_and, BitVec.toNat_ofInt, BitVec.toNat_ofInt]
    have h1 : ((m : Int) % ((2 ^ IntKind.u64.bits : Nat) : Int)).toNat = m := by
      rw [show (2 ^ IntKind.u64.bits : Nat) = 18446744073709551616 from rfl]; omega
    have h2 : ((1 : Int) % ((2 ^ IntKind.u64.bits : Nat) : Int)).toNat = 1 := by
      rw [show (2 ^ IntKind.u64.bits : Nat) = 18446744073709551616 from rfl]; omega
    rw [h1, h2, Nat.and_one_is_mod]
  rw [h]
  omega
theorem times_l0 (a : Int) (b : Nat) (hb : b < 18446744073709551616) : ∀ (d i : Nat) (acc : Int), i + d = 64 → acc = IntKind.u64.wrap (a * ((b % 2 ^ i : Nat) : Int)) → Ev (fun k => waybillref10_times.l0 k a b acc i) (IntKind.u64.wrap (a * (b : Int)))
  | 0, i, acc, h1, h2 => by
    have : i = 64 := by omega
    subst this
    refine Ev.succ ?_
    simp only [waybillref10_times.l0]
    rw [Nat.mod_eq_of_lt (by omega)] at h2
    rw [← h2]
    exact Ev.neg (by omega) Ev.ret
  | d + 1, i, acc, h1, h2 => by
    refine Ev.succ ?_
    simp only [waybillref10_times.l0]
    refine Ev.pos (by omega) (Ev.neg (by omega) ?_)
    rw [shr_nat b i (by omega), and_one _ (Nat.lt_of_le_of_lt (Nat.div_le_self _ _) hb), shl_nat a i (by omega), W_succ (by omega)]
    have hpow : b % 2 ^ (i + 1) = b % 2 ^ i + 2 ^ i * (b / 2 ^ i % 2) := by rw [Nat.pow_succ, Nat.mod_mul]
    refine Ev.bind (x := IntKind.u64.wrap (a * ((b % 2 ^ (i + 1) : Nat) : Int))) ?_ (times_l0 a b hb d (i + 1) _ (by omega) rfl)
    rcases Nat.mod_two_eq_zero_or_one (b / 2 ^ i) with h | h
    · rw [hpow, h]
      refine Ev.neg (by omega) ?_
      rw [h2, Nat.mul_zero, Nat.add_zero]; exact Ev.ret
    · rw [hpow, h]
      refine Ev.pos (by omega) ?_
      have e : IntKind.u64.wrap (acc + IntKind.u64.wrap (a * 2 ^ i)) = IntKind.u64.wrap (a * ((b % 2 ^ i + 2 ^ i * 1 : Nat) : Int)) := by
        rw [h2, U_mod, U_mod, U_mod, U_mod, ← Int.add_emod, Nat.mul_one, Int.natCast_add, Int.mul_add]
        congr 2
      rw [e]; exact Ev.ret
theorem times_ok (a : Int) (b : Nat) (hb : b < 18446744073709551616) : Ev (fun k => waybillref10_times.f k a b) (IntKind.u64.wrap (a * (b : Int))) := by
  simp only [waybillref10_times.f]
  refine Ev.bind (times_l0 a b hb 64 0 0 rfl ?_) Ev.ret
  rw [Nat.pow_zero, Nat.mod_one, U_mod]; simp
def fold (x : Int) : Int := bt_xor .u64 x (sh_shr .u64 x 33)
def mix (x : Int) : Int := fold (IntKind.u64.wrap (fold (IntKind.u64.wrap (fold x * 18397679294719823053)) * 14181476777654086739))
theorem pmix_ok (x : Int) : hash_Mix.f x = some (mix x) := by
  simp only [hash_Mix.f, hash_fold.f, Option.bind_some]; rfl
theorem rmix_ok (x : Int) : Ev (fun k => waybillref10_Mix.f k x) (mix x) := by
  simp only [waybillref10_Mix.f]
  refine Ev.bind (times_ok (fold x) 18397679294719823053 (by decide)) ?_
  refine Ev.bind (times_ok (fold _) 14181476777654086739 (by decide)) ?_
  exact Ev.ret
def hs (seed : Int) (l : List Int) : Int := l.foldl (fun z x => mix (IntKind.u64.wrap (z + IntKind.u64.wrap x))) seed
theorem pints_l0 (l : List Int) (hl : l.length < 4611686018427387904) : ∀ (d i : Nat) (z : Int), i + d = l.length → Ev (fun k => hash_Ints.l0 k l z i) (hs z (l.drop i))
  | 0, i, z, h => by
    rw [List.drop_of_length_le (by omega)]
    refine Ev.succ ?_
    simp only [hash_Ints.l0]
    exact Ev.neg (by omega) Ev.ret
  | d + 1, i, z, h => by
    rw [List.drop_eq_getElem_cons (show i < l.length by omega)]
    refine Ev.succ ?_
    simp only [hash_Ints.l0, pmix_ok, Option.bind_some]
    refine Ev.pos (by omega) (Ev.pos (by omega) ?_)
    rw [W_succ (by omega), rd_nat _ _ _ (by omega)]
    exact pints_l0 l hl d (i + 1) _ (by omega)
theorem pints_ok (seed : Int) (l : List Int) (hl : l.length < 4611686018427387904) : Ev (fun k => hash_Ints.f k seed l) (hs seed l) := by
  simp only [hash_Ints.f]
  exact Ev.bind (pints_l0 l hl l.length 0 seed (Nat.zero_add _)) Ev.ret
theorem rints_l0 (l : List Int) (hl : l.length < 4611686018427387904) : ∀ (d i : Nat) (z : Int), i + d = l.length → Ev (fun k => waybillref10_Ints.l0 k l z i) (hs z (l.drop i))
  | 0, i, z, h => by
    rw [List.drop_of_length_le (by omega)]
    refine Ev.succ ?_
    simp only [waybillref10_Ints.l0]
    exact Ev.neg (by omega) Ev.ret
  | d + 1, i, z, h => by
    rw [List.drop_eq_getElem_cons (show i < l.length by omega)]
    refine Ev.succ ?_
    simp only [waybillref10_Ints.l0]
    refine Ev.pos (by omega) (Ev.pos (by omega) (Ev.bind (rmix_ok _) ?_))
    rw [W_succ (by omega), rd_nat _ _ _ (by omega)]
    exact rints_l0 l hl d (i + 1) _ (by omega)
theorem rints_ok (seed : Int) (l : List Int) (hl : l.length < 4611686018427387904) : Ev (fun k => waybillref10_Ints.f k seed l) (hs seed l) := by
  simp only [waybillref10_Ints.f]
  exact Ev.bind (rints_l0 l hl l.length 0 seed (Nat.zero_add _)) Ev.ret
end Go.Proofs.Ytmdpjijafejgpaa.M

/- Backends and points: which may be, a ring, where a hash begins: by the program and by the page. -/
set_option linter.unusedVariables false
set_option linter.unusedSimpArgs false
namespace Go.Proofs.Ytmdpjijafejgpaa.M
open Go Go.Proofs.Ytmdpjijafejgpaa.Sl

abbrev B := api_Backend
abbrev Pt := api_Point
def gb (l : List B) (i : Nat) : B := l.getD i api_Backend.zero
def gp (l : List Pt) (i : Nat) : Pt := l.getD i api_Point.zero
theorem gb_rd (l : List B) (i : Nat) : rd e_api_Backend l (i : Int) = gb l i := rfl
theorem gp_rd (l : List Pt) (i : Nat) : rd e_api_Point l (i : Int) = gp l i := rfl
def mayB (b : B) : Prop := 0 ≤ b.ID ∧ b.ID ≤ 2147483647 ∧ 1 ≤ b.Weight ∧ b.Weight ≤ 16
instance (a : B) : Decidable (mayB a) := inferInstanceAs (Decidable (_ ∧ _))
structure GoodB (l : List B) : Prop where
  len : l.length ≤ 32
  may : ∀ i, i < l.length → mayB (gb l i)
  up : ∀ i, i < l.length → 0 < i → ¬ (gb l i).ID ≤ (gb l (i - 1)).ID
theorem oddB_ok (b : B) : ring_Check_1.f b = some (decide (¬ mayB b)) := by
  unfold ring_Check_1.f mayB
  by_cases h1 : b.ID < 0 <;> by_cases h2 : 2147483647 < b.ID <;> by_cases h3 : b.Weight < 1 <;> simp only [h1, h2, h3, if_true, if_false, Option.bind_some, Option.some.injEq]
  all_goals first | (symm; rw [decide_eq_true_iff]; omega) | (rw [decide_eq_decide]; omega)
theorem checkB_ok (l : List B) : ∃ e, Ev (fun k => ring_Check.f k l) e ∧ Ev (fun k => waybillref12_Check.f k l) e ∧ (e = 0 ↔ GoodB l) := by
  by_cases hl : l.length ≤ 32
  · have P1 : ∀ {e : Int}, Ev (fun k => ring_Check.l0 k l 0) e → Ev (fun k => ring_Check.f k l) e := fun h => by
      simp only [ring_Check.f]; exact Ev.neg (by omega) h
    have P2 : ∀ {e : Int}, Ev (fun k => waybillref12_Check.l0 k l 0) e → Ev (fun k => waybillref12_Check.f k l) e := fun h => by
      simp only [waybillref12_Check.f]; exact Ev.neg (by omega) h
    have s1 : ∀ i : Nat, i < l.length → ¬ ¬ mayB (gb l i) → ∀ r, Ev (fun k => ring_Check.l0 k l ((i + 1 : Nat) : Int)) r → Ev (fun k => ring_Check.l0 k l (i : Int)) r := fun i hi hp r hr => by
      refine Ev.succ ?_
      simp only [ring_Check.l0, gb_rd, oddB_ok, Option.bind_some]
      refine Ev.pos (by omega) (Ev.pos (by omega) (Ev.dneg hp ?_))
      rw [W_succ (by omega)]; exact hr
    have hb : ∀ i : Nat, Ev (fun _ => if (gb l i).ID < 0 then (some true) else (if 2147483647 < (gb l i).ID then (some true) else (if (gb l i).Weight < 1 then (some true) else (some (decide (16 < (gb l i).Weight)))))) (decide (¬ mayB (gb l i))) := fun i => by
      have := oddB_ok (gb l i)
      unfold ring_Check_1.f at this
      simp only [Option.bind_some, Option.bind_eq_some_iff, Option.some.injEq] at this
      obtain ⟨a, h1, rfl⟩ := this
      exact Ev.of h1
    have s2 : ∀ i : Nat, i < l.length → ¬ ¬ mayB (gb l i) → ∀ r, Ev (fun k => waybillref12_Check.l0 k l ((i + 1 : Nat) : Int)) r → Ev (fun k => waybillref12_Check.l0 k l (i : Int)) r := fun i hi hp r hr => by
      refine Ev.succ ?_
      simp only [waybillref12_Check.l0, gb_rd]
      refine Ev.pos (by omega) (Ev.bind (Ev.pos (by omega) (hb i)) (Ev.dneg hp ?_))
      rw [W_succ (by omega)]; exact hr
    by_cases h1 : ∀ i, i < l.length → mayB (gb l i)
    · have t1 : ∀ i : Nat, i < l.length → ∀ r, Ev (fun k => if decide (0 < i ∧ (gb l i).ID ≤ (gb l (i - 1)).ID) = true then (some (Sum.inl 6)) else (ring_Check.l1 k l ((i + 1 : Nat) : Int))) r → Ev (fun k => ring_Check.l1 k l (i : Int)) r := fun i hi r hr => by
        refine Ev.succ ?_
        simp only [ring_Check.l1, gb_rd]
        refine Ev.pos (by omega) (Ev.bind (x := decide (0 < i ∧ (gb l i).ID ≤ (gb l (i - 1)).ID)) ?_ ?_)
        · by_cases h0 : 0 < i
          · rw [W_pred (by omega) h0]
            refine Ev.pos (by omega) (Ev.pos (by omega) (Ev.pos (by omega) (Ev.pos (by omega) ?_)))
            rw [gb_rd]
            exact Ev.of (congrArg some (decide_eq_decide.2 ⟨fun h => ⟨h0, h⟩, fun h => h.2⟩))
          · exact Ev.neg (by omega) (Ev.of (by simp [h0]))
        · rw [W_succ (by omega)]; exact hr
      have t2 : ∀ i : Nat, i < l.length → 0 < i → ∀ r, Ev (fun k => if (gb l i).ID ≤ (gb l (i - 1)).ID then (some (Sum.inl 6)) else (waybillref12_Check.l1 k l ((i + 1 : Nat) : Int))) r → Ev (fun k => waybillref12_Check.l1 k l (i : Int)) r := fun i hi h0 r hr => by
        refine Ev.succ ?_
        simp only [waybillref12_Check.l1, W_pred (show i < 4611686018427387904 by omega) h0, gb_rd]
        refine Ev.pos (by omega) (Ev.pos (by omega) (Ev.pos (by omega) (Ev.pos (by omega) ?_)))
        rw [W_succ (by omega)]; exact hr
      have c1 : ∀ {r : Int}, Ev (fun k => (ring_Check.l1 k l 0).bind fun v_ => (match v_ with | (Sum.inl q_) => some q_ | (Sum.inr (_)) => some 0)) r → Ev (fun k => ring_Check.f k l) r := fun h => P1 (scan_all (n := l.length) s1 (fun j hj q => q (h1 j hj)) (by
        refine Ev.succ ?_
        simp only [ring_Check.l0]
        exact Ev.neg (by omega) h))
      have c2 : ∀ {r : Int}, Ev (fun k => (waybillref12_Check.l1 k l 1).bind fun v_ => (match v_ with | (Sum.inl q_) => some q_ | (Sum.inr (_)) => some 0)) r → Ev (fun k => waybillref12_Check.f k l) r := fun h => P2 (scan_all (n := l.length) s2 (fun j hj q => q (h1 j hj)) (by
        refine Ev.succ ?_
        simp only [waybillref12_Check.l0]
        exact Ev.neg (by omega) h))
      by_cases h2 : ∀ i, i < l.length → 0 < i → ¬ (gb l i).ID ≤ (gb l (i - 1)).ID
      · refine ⟨0, c1 (Ev.bind (x := Sum.inr ()) ?_ Ev.ret), c2 (Ev.bind (x := Sum.inr ()) ?_ Ev.ret), fun _ => ⟨hl, h1, h2⟩, fun _ => rfl⟩
        · refine scan_all (n := l.length) (p := fun _ => False) (fun i hi _ r hr => t1 i hi r (Ev.dneg (fun h => h2 i hi h.1 h.2) hr)) (fun _ _ h => h) ?_
          refine Ev.succ ?_
          simp only [ring_Check.l1]
          exact Ev.neg (by omega) Ev.ret
        · have hend : ∀ i : Nat, l.length ≤ i → Ev (fun k => waybillref12_Check.l1 k l i) (Sum.inr ()) := fun i hi => by
            refine Ev.succ ?_
            simp only [waybillref12_Check.l1]
            exact Ev.neg (by omega) Ev.ret
          have : ∀ (d i : Nat), i + d = l.length → 0 < i → Ev (fun k => waybillref12_Check.l1 k l i) (Sum.inr ()) := by
            intro d
            induction d with
            | zero => intro i hi h0; exact hend i (by omega)
            | succ d ih => intro i hi h0; exact t2 i (by omega) h0 _ (Ev.neg (h2 i (by omega) h0) (ih (i + 1) (by omega) (by omega)))
          by_cases h0 : 0 < l.length
          · exact this (l.length - 1) 1 (by omega) (by omega)
          · exact hend 1 (by omega)
      · have hex : ∃ i, i < l.length ∧ (0 < i ∧ (gb l i).ID ≤ (gb l (i - 1)).ID) := by
          simp only [Classical.not_forall, Classical.not_not] at h2
          obtain ⟨i, hi, h0, hp⟩ := h2
          exact ⟨i, hi, h0, hp⟩
        refine ⟨6, c1 (Ev.bind (x := Sum.inl 6) ?_ Ev.ret), c2 (Ev.bind (x := Sum.inl 6) ?_ Ev.ret), fun h => absurd h (by decide), fun h => absurd h.up h2⟩
        · exact scan_hit (n := l.length) (p := fun i => 0 < i ∧ (gb l i).ID ≤ (gb l (i - 1)).ID) (fun i hi hp r hr => t1 i hi r (Ev.dneg hp hr)) hex (fun i hi hp _ => t1 i hi _ (Ev.dpos hp Ev.ret))
        · obtain ⟨i, hi, ⟨h0, hp⟩, hf⟩ := first hex
          have : ∀ (d j : Nat), j + d = i → 0 < j → Ev (fun k => waybillref12_Check.l1 k l j) (Sum.inl 6) := by
            intro d
            induction d with
            | zero =>
              intro j hj j0
              have : j = i := by omega
              subst this
              exact t2 j hi j0 _ (Ev.pos hp Ev.ret)
            | succ d ih => intro j hj j0; exact t2 j (by omega) j0 _ (Ev.neg (fun h => hf j (by omega) ⟨j0, h⟩) (ih (j + 1) (by omega) (by omega)))
          exact this (i - 1) 1 (by omega) (by omega)
    · have hex : ∃ i, i < l.length ∧ ¬ mayB (gb l i) := by
        simp only [Classical.not_forall] at h1
        obtain ⟨i, hi, hp⟩ := h1
        exact ⟨i, hi, hp⟩
      refine ⟨4, P1 (scan_hit (n := l.length) s1 hex fun i hi hp _ => ?_), P2 (scan_hit (n := l.length) s2 hex fun i hi hp _ => ?_), fun h => absurd h (by decide), fun h => absurd h.may h1⟩
      · refine Ev.succ ?_
        simp only [ring_Check.l0, gb_rd, oddB_ok, Option.bind_some]
        exact Ev.pos (by omega) (Ev.pos (by omega) (Ev.dpos hp Ev.ret))
      · refine Ev.succ ?_
        simp only [waybillref12_Check.l0, gb_rd]
        exact Ev.pos (by omega) (Ev.bind (Ev.pos (by omega) (hb i)) (Ev.dpos hp Ev.ret))
  · refine ⟨3, ?_, ?_, fun h => absurd h (by decide), fun h => absurd h.len hl⟩
    · simp only [ring_Check.f]; exact Ev.pos (by omega) Ev.ret
    · simp only [waybillref12_Check.f]; exact Ev.pos (by omega) Ev.ret

/-! ### points -/
def lt (a b : Pt) : Prop := a.Hash < b.Hash ∨ a.Hash = b.Hash ∧ a.ID < b.ID
instance (a b : Pt) : Decidable (lt a b) := inferInstanceAs (Decidable (_ ∨ _))
theorem lt_irrefl (a : Pt) : ¬ lt a a := by unfold lt; omega
theorem le_trans {a b c : Pt} (h1 : ¬ lt b a) (h2 : ¬ lt c b) : ¬ lt c a := by unfold lt at *; omega
theorem lt_le {a b : Pt} (h1 : lt a b) : ¬ lt b a := by unfold lt at *; omega
theorem le_antisymm {a b : Pt} (h1 : ¬ lt a b) (h2 : ¬ lt b a) : a = b := by
  unfold lt at *; cases a; cases b; simp only [api_Point.mk.injEq] at *; omega
theorem cmpU_ok (a b : Int) : cmp_Compare_uint64.f a b = some (if a < b then -1 else if b < a then 1 else 0) := by
  unfold cmp_Compare_uint64.f cmp_isNaN_uint64.f
  by_cases h1 : a < b <;> by_cases h2 : b < a <;> simp [h1, h2]
def cmp3 (a b : Pt) : Int := if a.Hash < b.Hash then -1 else if b.Hash < a.Hash then 1 else if a.ID < b.ID then -1 else if b.ID < a.ID then 1 else 0
theorem order_ok (k : Nat) (a b : Pt) : ring_order.f (k + 3) a b = some (cmp3 a b) := by
  unfold cmp3
  unfold ring_order.f cmp_Compare_int.f cmp_Compare_uint64.f cmp_isNaN_int.f cmp_isNaN_uint64.f cmp_Or_int.f
  split <;> (try split) <;> (try split) <;> (try split) <;> simp_all (config := { decide := true }) [cmp_Or_int.l0, rd, IntKind.wrap, IntKind.bits, IntKind.signed] <;> (try omega)
theorem cmp3_neg (a b : Pt) : cmp3 a b < 0 ↔ lt a b := by
  unfold cmp3 lt
  split <;> (try split) <;> (try split) <;> (try split) <;> omega
theorem behind_ok (a b : Pt) : waybillref12_behind.f a b = some (decide (lt b a)) := by
  unfold waybillref12_behind.f lt
  by_cases h1 : b.Hash < a.Hash <;> by_cases h2 : a.Hash = b.Hash <;> simp [h1, h2] <;> omega
structure GoodR (r : List Pt) : Prop where
  len : r.length ≤ 1024
  up : ∀ i, i < r.length → 0 < i → ¬ lt (gp r i) (gp r (i - 1))
  id : ∀ i, i < r.length → ¬ (gp r i).ID < 0
theorem whole_ok (r : List Pt) : ∃ e, Ev (fun k => ring_Whole.f k r) e ∧ Ev (fun k => waybillref12_Whole.f k r) e ∧ (e = 0 ↔ GoodR r) := by
  by_cases hl : r.length ≤ 1024
  · have a1 : ∀ i : Nat, i < r.length → 0 < i → ∀ b, Ev (fun k => if decide (lt (gp r i) (gp r (i - 1))) = true then (some true) else (ring_Whole.l0 k r ((i - 1 : Nat) : Int))) b → Ev (fun k => ring_Whole.l0 k r (i : Int)) b := fun i hi h0 b hb => by
      refine Ev.succ ?_
      simp only [ring_Whole.l0, W_pred (show i < 4611686018427387904 by omega) h0, gp_rd]
      refine Ev.pos (by omega) (Ev.pos (by omega) (Ev.pos (by omega) (Ev.pos (by omega) (Ev.pos (by omega) ?_))))
      refine Ev.bind (x := cmp3 (gp r i) (gp r (i - 1))) (Ev.add 3 fun k => order_ok k _ _) ?_
      by_cases c : lt (gp r i) (gp r (i - 1))
      · exact Ev.pos ((cmp3_neg _ _).2 c) (Ev.of_pos (decide_eq_true c) hb)
      · exact Ev.neg (fun h => c ((cmp3_neg _ _).1 h)) (Ev.of_neg (by simpa using c) hb)
    have st : ∀ i : Nat, i < r.length → ¬ (gp r i).ID < 0 → ∀ v, Ev (fun k => ring_Whole.l1 k r ((i + 1 : Nat) : Int)) v → Ev (fun k => ring_Whole.l1 k r (i : Int)) v := fun i hi hp v hr => by
      refine Ev.succ ?_
      simp only [ring_Whole.l1, ring_Whole_1.f, gp_rd, Option.bind_some]
      refine Ev.pos (by omega) (Ev.pos (by omega) (Ev.dneg hp ?_))
      rw [W_succ (by omega)]; exact hr
    have cont : Ev (fun k => (ring_Whole.l1 k r 0).bind fun v_ => (match v_ with | (Sum.inl z22x) => some (decide (0 ≤ z22x)) | (Sum.inr (_)) => some (decide ((0 : Int) ≤ (-1))))) (decide (∃ i, i < r.length ∧ (gp r i).ID < 0)) := by
      by_cases h : ∃ i, i < r.length ∧ (gp r i).ID < 0
      · obtain ⟨j, hj, hp, hf⟩ := first h
        have := scan (n := r.length) st j 0 (by omega) (fun q _ hq => hf q (by omega)) (Sum.inl (j : Int)) (by
          rw [Nat.zero_add]
          refine Ev.succ ?_
          simp only [ring_Whole.l1, ring_Whole_1.f, gp_rd, Option.bind_some]
          exact Ev.pos (by omega) (Ev.pos (by omega) (Ev.dpos hp Ev.ret)))
        refine Ev.bind this (Ev.of ?_)
        rw [Option.some.injEq, decide_eq_decide]
        exact ⟨fun _ => h, fun _ => by omega⟩
      · refine Ev.bind (x := Sum.inr ()) (scan_all (n := r.length) st (fun j hj hp => h ⟨j, hj, hp⟩) ?_) (Ev.of ?_)
        · refine Ev.succ ?_
          simp only [ring_Whole.l1]
          exact Ev.neg (by omega) Ev.ret
        · rw [Option.some.injEq, decide_eq_decide]
          exact ⟨fun h => absurd h (by decide), fun q => absurd q h⟩
    have low : ∀ z : Int, ¬ 0 < z → Ev (fun k => ring_Whole.l0 k r z) (decide (∃ i, i < r.length ∧ (gp r i).ID < 0)) := fun z hz => by
      refine Ev.succ ?_
      simp only [ring_Whole.l0]
      exact Ev.neg hz cont
    have down : (∀ i, i < r.length → 0 < i → ¬ lt (gp r i) (gp r (i - 1))) → ∀ i : Nat, i < r.length → Ev (fun k => ring_Whole.l0 k r (i : Int)) (decide (∃ i, i < r.length ∧ (gp r i).ID < 0)) := fun hs i => by
      induction i with
      | zero => intro _; exact low 0 (by omega)
      | succ i ih => intro hi; exact a1 (i + 1) hi (by omega) _ (Ev.dneg (hs (i + 1) hi (by omega)) (ih (by omega)))
    have bad : ∀ i : Nat, i < r.length → (∃ j, j ≤ i ∧ 0 < j ∧ lt (gp r j) (gp r (j - 1))) → Ev (fun k => ring_Whole.l0 k r (i : Int)) true := fun i => by
      induction i with
      | zero => rintro _ ⟨j, h1, h2, _⟩; omega
      | succ i ih =>
        rintro hi ⟨j, h1, h2, h3⟩
        refine a1 (i + 1) hi (by omega) _ ?_
        by_cases c : lt (gp r (i + 1)) (gp r (i + 1 - 1))
        · exact Ev.dpos c Ev.ret
        · refine Ev.dneg c (ih (by omega) ⟨j, ?_, h2, h3⟩)
          rcases Nat.lt_or_ge j (i + 1) with q | q
          · omega
          · have : j = i + 1 := by omega
            subst this; exact absurd h3 c
    have b1 : ∀ i : Nat, i < r.length → ∀ v, Ev (fun k => if decide ((gp r i).ID < 0 ∨ (0 < i ∧ lt (gp r i) (gp r (i - 1)))) = true then (some 9) else (waybillref12_Whole.l0 k r ((i + 1 : Nat) : Int))) v → Ev (fun k => waybillref12_Whole.l0 k r (i : Int)) v := fun i hi v hv => by
      refine Ev.succ ?_
      simp only [waybillref12_Whole.l0, gp_rd]
      refine Ev.pos (by omega) (Ev.bind (x := decide ((gp r i).ID < 0 ∨ (0 < i ∧ lt (gp r i) (gp r (i - 1))))) (Ev.pos (by omega) ?_) ?_)
      · by_cases c : (gp r i).ID < 0
        · exact Ev.pos c (Ev.of (by simp [c]))
        · refine Ev.neg c ?_
          by_cases h0 : 0 < i
          · rw [W_pred (show i < 4611686018427387904 by omega) h0]
            refine Ev.pos (by omega) (Ev.pos (by omega) (Ev.pos (by omega) ?_))
            rw [gp_rd, behind_ok]
            simp only [Option.bind_some]
            exact Ev.of (by simp [c, h0])
          · exact Ev.neg (by omega) (Ev.of (by simp [c, h0]))
      · rw [W_succ (by omega)]; exact hv
    by_cases hs : ∀ i, i < r.length → 0 < i → ¬ lt (gp r i) (gp r (i - 1))
    · by_cases ht : ∃ i, i < r.length ∧ (gp r i).ID < 0
      · refine ⟨9, ?_, ?_, fun h => absurd h (by decide), fun h => by obtain ⟨i, hi, q⟩ := ht; exact absurd q (h.id i hi)⟩
        · simp only [ring_Whole.f]
          refine Ev.neg (by omega) (Ev.bind (x := true) ?_ (Ev.pos rfl Ev.ret))
          obtain ⟨i0, hi0, _⟩ := id ht
          have := down hs (r.length - 1) (by omega)
          rw [decide_eq_true ht] at this
          rw [W_pred (by omega) (by omega)]; exact this
        · simp only [waybillref12_Whole.f]
          refine Ev.neg (by omega) (scan_hit (n := r.length) (p := fun i => (gp r i).ID < 0 ∨ (0 < i ∧ lt (gp r i) (gp r (i - 1)))) (fun i hi hp v hv => b1 i hi v (Ev.dneg hp hv)) ?_ (fun i hi hp _ => b1 i hi _ (Ev.dpos hp Ev.ret)))
          obtain ⟨i, hi, q⟩ := ht
          exact ⟨i, hi, .inl q⟩
      · refine ⟨0, ?_, ?_, fun _ => ⟨hl, hs, fun i hi q => ht ⟨i, hi, q⟩⟩, fun _ => rfl⟩
        · simp only [ring_Whole.f]
          refine Ev.neg (by omega) (Ev.bind (x := false) ?_ (Ev.neg (by simp) Ev.ret))
          by_cases h0 : 0 < r.length
          · have := down hs (r.length - 1) (by omega)
            rw [decide_eq_false ht] at this
            rw [W_pred (by omega) (by omega)]; exact this
          · have := low (IntKind.i64.wrap ((r.length : Int) - 1)) (by rw [W_eq (by omega) (by omega)]; omega)
            rwa [decide_eq_false ht] at this
        · simp only [waybillref12_Whole.f]
          refine Ev.neg (by omega) (scan_all (n := r.length) (p := fun i => (gp r i).ID < 0 ∨ (0 < i ∧ lt (gp r i) (gp r (i - 1)))) (fun i hi hp v hv => b1 i hi v (Ev.dneg hp hv)) (fun j hj q => ?_) ?_)
          · rcases q with q | q
            · exact absurd ⟨j, hj, q⟩ ht
            · exact hs j hj q.1 q.2
          · refine Ev.succ ?_
            simp only [waybillref12_Whole.l0]
            exact Ev.neg (by omega) Ev.ret
    · have hex : ∃ i, i < r.length ∧ 0 < i ∧ lt (gp r i) (gp r (i - 1)) := by
        simp only [Classical.not_forall, Classical.not_not] at hs
        obtain ⟨i, hi, h0, hp⟩ := hs
        exact ⟨i, hi, h0, hp⟩
      obtain ⟨i, hi, h0, hp⟩ := hex
      refine ⟨9, ?_, ?_, fun h => absurd h (by decide), fun h => absurd h.up hs⟩
      · simp only [ring_Whole.f]
        refine Ev.neg (by omega) (Ev.bind (x := true) ?_ (Ev.pos rfl Ev.ret))
        rw [W_pred (by omega) (by omega)]
        exact bad (r.length - 1) (by omega) ⟨i, by omega, h0, hp⟩
      · simp only [waybillref12_Whole.f]
        exact Ev.neg (by omega) (scan_hit (n := r.length) (p := fun i => (gp r i).ID < 0 ∨ (0 < i ∧ lt (gp r i) (gp r (i - 1)))) (fun i hi hp v hv => b1 i hi v (Ev.dneg hp hv)) ⟨i, hi, .inr ⟨h0, hp⟩⟩ (fun i hi hp _ => b1 i hi _ (Ev.dpos hp Ev.ret)))
  · refine ⟨3, ?_, ?_, fun h => absurd h (by decide), fun h => absurd h.len hl⟩
    · simp only [ring_Whole.f]; exact Ev.pos (by omega) Ev.ret
    · simp only [waybillref12_Whole.f]; exact Ev.pos (by omega) Ev.ret
end Go.Proofs.Ytmdpjijafejgpaa.M

/- Points in order; a ring, built: by the program and by the page. -/
set_option linter.unusedVariables false
set_option linter.unusedSimpArgs false
namespace Go.Proofs.Ytmdpjijafejgpaa.M
open Go Go.Proofs.Ytmdpjijafejgpaa.Sl

def srt (l : List Pt) : List Pt := l.mergeSort fun x y => !(ltOf slices_SortFunc_api_Point_api_Point.cf) y x
theorem le_iff (a b : Pt) : (!(ltOf slices_SortFunc_api_Point_api_Point.cf) b a) = true ↔ ¬ lt b a := by
  rw [Bool.not_eq_true', slices_SortFunc_api_Point_api_Point.lt_iff']; rfl
theorem srt_perm (l : List Pt) : (srt l).Perm l := List.mergeSort_perm _ _
abbrev Srt (l : List Pt) : Prop := l.Pairwise fun a b => ¬ lt b a
theorem srt_sorted (l : List Pt) : Srt (srt l) := by
  have := List.pairwise_mergeSort (le := fun x y => !(ltOf slices_SortFunc_api_Point_api_Point.cf) y x) (fun a b c h1 h2 => by
    rw [le_iff] at *; exact le_trans h1 h2) (fun a b => by
    rw [Bool.or_eq_true, le_iff, le_iff]
    by_cases h : lt b a
    · exact .inr (lt_le h)
    · exact .inl h) l
  exact this.imp fun h => (le_iff _ _).1 h
theorem srt_uniq {l m : List Pt} (h : m.Perm l) (hs : Srt m) : m = srt l :=
  List.Perm.eq_of_pairwise (fun a b _ _ h1 h2 => le_antisymm h2 h1) hs (srt_sorted l) (h.trans (srt_perm l).symm)
theorem srt_len (l : List Pt) : (srt l).length = l.length := (srt_perm l).length_eq

/-- a backend's points from its j-th on; a row's -/
def ptsB (b : B) (j n : Nat) : List Pt := (List.range' j n).map fun (i : Nat) => (⟨hs 1 [b.ID, (i : Int)], b.ID⟩ : Pt)
def cnt (points : Nat) (b : B) : Nat := points * b.Weight.toNat
def pts (points : Nat) (l : List B) : List Pt := l.flatMap fun b => ptsB b 0 (cnt points b)
theorem cnt_ok {points : Nat} {b : B} (hp : points ≤ 64) (hb : mayB b) : IntKind.i64.wrap ((points : Int) * b.Weight) = ((cnt points b : Nat) : Int) ∧ cnt points b ≤ 1024 := by
  obtain ⟨_, _, h1, h2⟩ := hb
  obtain ⟨w, hw⟩ := Int.eq_ofNat_of_zero_le (show 0 ≤ b.Weight by omega)
  have hle : points * w ≤ 64 * 16 := Nat.mul_le_mul hp (by omega)
  unfold cnt
  rw [hw]
  simp only [Int.toNat_natCast]
  rw [show (points : Int) * (w : Int) = ((points * w : Nat) : Int) by simp, W_eq (by omega) (by omega)]
  exact ⟨rfl, by omega⟩
theorem b_l1 (l : List B) (points : Nat) {i : Nat} (hi : i < l.length) (hp : points ≤ 64) (hb : mayB (gb l i)) : ∀ (d j : Nat) (z : List Pt), j + d = cnt points (gb l i) → z.length + d ≤ 4194304 → Ev (fun k => ring_Build.l1 k points l i j z) (z ++ ptsB (gb l i) j d)
  | 0, j, z, h1, h2 => by
    obtain ⟨c1, c2⟩ := cnt_ok hp hb
    refine Ev.succ ?_
    simp only [ring_Build.l1, gb_rd, c1]
    refine Ev.neg (by omega) ?_
    simpa [ptsB] using Ev.ret
  | d + 1, j, z, h1, h2 => by
    obtain ⟨c1, c2⟩ := cnt_ok hp hb
    refine Ev.succ ?_
    simp only [ring_Build.l1, gb_rd, c1]
    refine Ev.pos (by omega) (Ev.bind (pints_ok 1 _ (by simp)) (Ev.pos (by simp; omega) ?_))
    rw [W_succ (by omega)]
    have := b_l1 l points hi hp hb d (j + 1) (z ++ [⟨hs 1 [(gb l i).ID, (j : Int)], (gb l i).ID⟩]) (by omega) (by simp; omega)
    simpa [ptsB, List.range'_succ] using this
theorem dropb (l : List B) {i : Nat} (hi : i < l.length) : l.drop i = gb l i :: l.drop (i + 1) := by
  rw [List.drop_eq_getElem_cons hi, gb, getD_get _ _ _ hi]
theorem ptsB_len (b : B) (j n : Nat) : (ptsB b j n).length = n := by simp [ptsB]
theorem b_l0 (l : List B) (points : Nat) (hp : points ≤ 64) (G : GoodB l) : ∀ (d i : Nat) (z : List Pt), i + d = l.length → z.length ≤ 1024 * i → Ev (fun k => ring_Build.l0 k points l i z) (z ++ pts points (l.drop i))
  | 0, i, z, h1, h2 => by
    rw [List.drop_of_length_le (by omega)]
    refine Ev.succ ?_
    simp only [ring_Build.l0]
    refine Ev.neg (by omega) ?_
    simpa [pts] using Ev.ret
  | d + 1, i, z, h1, h2 => by
    have hl := G.len
    have hi : i < l.length := by omega
    have c2 := (cnt_ok hp (G.may i hi)).2
    rw [dropb l hi]
    refine Ev.succ ?_
    simp only [ring_Build.l0]
    refine Ev.pos (by omega) (Ev.bind (Ev.pos (by omega) (Ev.bind (b_l1 l points hi hp (G.may i hi) _ 0 z (Nat.zero_add _) (by omega)) Ev.ret)) ?_)
    rw [W_succ (by omega)]
    have := b_l0 l points hp G d (i + 1) (z ++ ptsB (gb l i) 0 (cnt points (gb l i))) (by omega) (by rw [List.length_append, ptsB_len]; omega)
    rw [List.append_assoc] at this
    exact this
/-! ### the page's -/
theorem r_l0 (l : List B) (points : Nat) (hp : points ≤ 64) (G : GoodB l) : ∀ (d i n : Nat), i + d = l.length → n ≤ 1024 * i → Ev (fun k => waybillref12_Build.l0 k points l n i) (((n + (pts points (l.drop i)).length : Nat)) : Int)
  | 0, i, n, h1, h2 => by
    rw [List.drop_of_length_le (by omega)]
    refine Ev.succ ?_
    simp only [waybillref12_Build.l0]
    exact Ev.neg (by omega) Ev.ret
  | d + 1, i, n, h1, h2 => by
    have hl := G.len
    have hi : i < l.length := by omega
    obtain ⟨c1, c2⟩ := cnt_ok hp (G.may i hi)
    rw [dropb l hi]
    refine Ev.succ ?_
    simp only [waybillref12_Build.l0, gb_rd, c1]
    refine Ev.pos (by omega) (Ev.pos (by omega) ?_)
    rw [W_succ (by omega), show (n : Int) + ((cnt points (gb l i) : Nat) : Int) = ((n + cnt points (gb l i) : Nat) : Int) by omega, W_eq (by omega) (by omega)]
    have := r_l0 l points hp G d (i + 1) (n + cnt points (gb l i)) (by omega) (by omega)
    rw [show n + (pts points (gb l i :: l.drop (i + 1))).length = n + cnt points (gb l i) + (pts points (l.drop (i + 1))).length by simp [pts, ptsB_len]; omega]
    exact this
theorem drop_gp (l : List Pt) {i : Nat} (hi : i < l.length) : l.drop i = gp l i :: l.drop (i + 1) := by
  rw [List.drop_eq_getElem_cons hi, gp, getD_get _ _ _ hi]
/-- the place of a point -/
theorem r_l3 (l : List B) {i : Nat} (h : Int) (z : List Pt) (hz : z.length ≤ 1024) (hs : Srt z) : ∀ (a : Nat), a ≤ z.length → (∀ x ∈ z.drop a, lt ⟨h, (gb l i).ID⟩ x) → ∃ b : Nat, Ev (fun k => waybillref12_Build.l3 k l i z h a) (b : Int) ∧ b ≤ z.length ∧ (∀ x ∈ z.take b, ¬ lt ⟨h, (gb l i).ID⟩ x) ∧ (∀ x ∈ z.drop b, lt ⟨h, (gb l i).ID⟩ x)
  | 0, h1, h2 => by
    refine ⟨0, ?_, by omega, by simp, h2⟩
    refine Ev.succ ?_
    simp only [waybillref12_Build.l3]
    exact Ev.bind (x := false) (Ev.neg (by omega) Ev.ret) (Ev.neg (by simp) Ev.ret)
  | a + 1, h1, h2 => by
    by_cases c : lt ⟨h, (gb l i).ID⟩ (gp z a)
    · obtain ⟨b, b1, b2, b3, b4⟩ := r_l3 l h z hz hs a (by omega) (fun x hx => by
        rw [drop_gp z (by omega)] at hx
        rcases List.mem_cons.1 hx with rfl | hx
        · exact c
        · exact h2 x hx)
      refine ⟨b, ?_, b2, b3, b4⟩
      refine Ev.succ ?_
      simp only [waybillref12_Build.l3, W_pred (show a + 1 < 4611686018427387904 by omega) (Nat.succ_pos _), gp_rd, gb_rd, behind_ok, Option.bind_some]
      refine Ev.bind (x := true) (Ev.pos (by omega) (Ev.pos (by omega) (Ev.pos (by omega) (Ev.of ?_)))) (Ev.pos rfl b1)
      rw [show a + 1 - 1 = a by omega]; exact congrArg some (decide_eq_true c)
    · refine ⟨a + 1, ?_, h1, fun x hx => ?_, h2⟩
      · refine Ev.succ ?_
        simp only [waybillref12_Build.l3, W_pred (show a + 1 < 4611686018427387904 by omega) (Nat.succ_pos _), gp_rd, gb_rd, behind_ok, Option.bind_some]
        refine Ev.bind (x := false) (Ev.pos (by omega) (Ev.pos (by omega) (Ev.pos (by omega) (Ev.of ?_)))) (Ev.neg (by simp) Ev.ret)
        rw [show a + 1 - 1 = a by omega]; exact congrArg some (decide_eq_false c)
      · rw [List.take_add_one, List.getElem?_eq_getElem (by omega : a < z.length)] at hx
        have e : gp z a = z[a] := getD_get _ _ _ (by omega)
        rcases List.mem_append.1 hx with hx | hx
        · have hp : ¬ lt (gp z a) x := by
            rw [Srt, ← List.take_append_drop a z, drop_gp z (by omega)] at hs
            exact (List.pairwise_append.1 hs).2.2 x hx _ List.mem_cons_self
          exact le_trans hp c
        · simp at hx; subst hx
          rw [← e]; exact c
/-- those behind it go one place on -/
theorem r_l4 (l : List B) {i : Nat} (h : Int) (z : List Pt) (hz : z.length ≤ 1024) {b : Nat} (hb : b ≤ z.length) : ∀ (d m : Nat) (y : List Pt), m = b + d → m ≤ z.length → y.length = z.length + 1 → y.take m = z.take m → y.drop (m + 1) = z.drop m → ∃ y', Ev (fun k => waybillref12_Build.l4 k l i z h b m y) y' ∧ y'.length = z.length + 1 ∧ y'.take b = z.take b ∧ y'.drop (b + 1) = z.drop b
  | 0, m, y, h1, h2, h3, h4, h5 => by
    have : m = b := by omega
    subst this
    refine ⟨y, ?_, h3, h4, h5⟩
    refine Ev.succ ?_
    simp only [waybillref12_Build.l4]
    exact Ev.neg (by omega) Ev.ret
  | d + 1, m, y, h1, h2, h3, h4, h5 => by
    obtain ⟨q, rfl⟩ : ∃ q, m = q + 1 := ⟨m - 1, by omega⟩
    have hg : gp y q = gp z q := by
      have e1 := congrArg (fun w => w.getD q api_Point.zero) h4
      simp only [getD_take _ _ _ _ (Nat.lt_succ_self q)] at e1
      exact e1
    have hlen : ∀ x : Pt, (z ++ ([x] : List Pt)).length = z.length + 1 := fun x => by simp
    obtain ⟨y', r1, r2, r3, r4⟩ := r_l4 l (i := i) h z hz hb d q (y.set (q + 1) (gp y q)) (by omega) (by omega) (by simp [h3]) (by
      rw [List.take_set, List.set_eq_of_length_le (by simp; omega)]
      have := congrArg (List.take q) h4
      rwa [List.take_take, List.take_take, Nat.min_eq_left (by omega)] at this) (by
      rw [List.drop_set, if_neg (by omega), drop_gp y (i := q + 1) (by omega), h5, Nat.sub_self, List.set_cons_zero, hg, ← drop_gp z (by omega)])
    refine ⟨y', ?_, r2, r3, r4⟩
    refine Ev.succ ?_
    simp only [waybillref12_Build.l4, W_pred (show q + 1 < 4611686018427387904 by omega) (Nat.succ_pos _), gp_rd, hlen]
    refine Ev.pos (by omega) (Ev.pos (by omega) (Ev.pos (by omega) (Ev.pos (by omega) (Ev.pos (by omega) ?_))))
    simpa using r1
theorem lt_of (x z : Pt) {t : Pt} (h1 : ¬ lt t x) (h2 : lt t z) : lt x z := by unfold lt at *; omega
theorem r_ins (l : List B) {i : Nat} (h : Int) (z : List Pt) (hz : z.length < 1024) (hs : Srt z) : ∃ (b : Nat) (y : List Pt), Ev (fun k => waybillref12_Build.l3 k l i z h z.length) (b : Int) ∧ Ev (fun k => waybillref12_Build.l4 k l i z h b z.length (z ++ [⟨h, (gb l i).ID⟩])) y ∧ b ≤ z.length ∧ y.length = z.length + 1 ∧ Srt (y.set b ⟨h, (gb l i).ID⟩) ∧ (y.set b ⟨h, (gb l i).ID⟩).Perm (z ++ [⟨h, (gb l i).ID⟩]) := by
  obtain ⟨b, b1, b2, b3, b4⟩ := r_l3 l (i := i) h z (by omega) hs z.length (Nat.le_refl _) (by simp)
  obtain ⟨y, r1, r2, r3, r4⟩ := r_l4 l (i := i) h z (by omega) b2 (z.length - b) z.length (z ++ [⟨h, (gb l i).ID⟩]) (by omega) (Nat.le_refl _) (by simp) (by simp) (by simp)
  have e : y.set b ⟨h, (gb l i).ID⟩ = z.take b ++ ⟨h, (gb l i).ID⟩ :: z.drop b := by rw [List.set_eq_take_append_cons_drop, if_pos (by omega), r3, r4]
  refine ⟨b, y, b1, r1, b2, r2, ?_, ?_⟩
  · rw [e, Srt, List.pairwise_append]
    refine ⟨hs.sublist (List.take_sublist _ _), List.pairwise_cons.2 ⟨fun x hx => lt_le (b4 x hx), hs.sublist (List.drop_sublist _ _)⟩, fun x hx q hq => ?_⟩
    rcases List.mem_cons.1 hq with rfl | hq
    · exact b3 x hx
    · exact lt_le (lt_of x q (b3 x hx) (b4 q hq))
  · rw [e]
    refine List.perm_middle.trans ?_
    rw [List.take_append_drop]
    exact (List.perm_append_singleton _ _).symm
theorem r_l2 (l : List B) (points : Nat) {i : Nat} (hi : i < l.length) (hl : l.length ≤ 32) (hp : points ≤ 64) (hb : mayB (gb l i)) : ∀ (d j : Nat) (z : List Pt), j + d = cnt points (gb l i) → z.length + d ≤ 1024 → Srt z →
    ∃ y, Ev (fun k => waybillref12_Build.l2 k points l i j z) y ∧ Srt y ∧ y.Perm (z ++ ptsB (gb l i) j d)
  | 0, j, z, h1, h2, h3 => by
    obtain ⟨c1, c2⟩ := cnt_ok hp hb
    refine ⟨z, ?_, h3, by simp [ptsB]⟩
    refine Ev.succ ?_
    simp only [waybillref12_Build.l2, gb_rd, c1]
    exact Ev.pos (by omega) (Ev.pos (by omega) (Ev.neg (by omega) Ev.ret))
  | d + 1, j, z, h1, h2, h3 => by
    obtain ⟨c1, c2⟩ := cnt_ok hp hb
    obtain ⟨b, y, b1, b2, b3, b4, b5, b6⟩ := r_ins l (i := i) (hs 1 [(gb l i).ID, (j : Int)]) z (by omega) h3
    obtain ⟨w, w1, w2, w3⟩ := r_l2 l points hi hl hp hb d (j + 1) (y.set b ⟨hs 1 [(gb l i).ID, (j : Int)], (gb l i).ID⟩) (by omega) (by rw [List.length_set]; omega) b5
    have hlen : ∀ x : Pt, (z ++ ([x] : List Pt)).length = z.length + 1 := fun x => by simp
    refine ⟨w, ?_, w2, ?_⟩
    · refine Ev.succ ?_
      simp only [waybillref12_Build.l2, gb_rd, c1, hlen]
      refine Ev.pos (by omega) (Ev.pos (by omega) (Ev.pos (by omega) ?_))
      refine Ev.bind (Ev.bind (Ev.bind (rints_ok 1 _ (by simp)) Ev.ret) (Ev.bind b1 (Ev.pos (by simp; omega) (Ev.bind (x := y) ?_ (Ev.pos (by omega) (Ev.pos (by omega) Ev.ret)))))) ?_
      · rw [W_pred (by omega) (by omega)]; exact b2
      · rw [W_succ (by omega)]; exact w1
    · refine w3.trans ((List.Perm.append_right _ b6).trans ?_)
      simp [ptsB, List.range'_succ]
theorem r_l1 (l : List B) (points : Nat) (hp : points ≤ 64) (G : GoodB l) : ∀ (d i : Nat) (z : List Pt), i + d = l.length → z.length + (pts points (l.drop i)).length ≤ 1024 → Srt z → ∃ y, Ev (fun k => waybillref12_Build.l1 k points l i z) y ∧ Srt y ∧ y.Perm (z ++ pts points (l.drop i))
  | 0, i, z, h1, h2, h3 => by
    refine ⟨z, ?_, h3, by rw [List.drop_of_length_le (by omega)]; simp [pts]⟩
    refine Ev.succ ?_
    simp only [waybillref12_Build.l1]
    exact Ev.neg (by omega) Ev.ret
  | d + 1, i, z, h1, h2, h3 => by
    have hl := G.len
    have hi : i < l.length := by omega
    have e : pts points (l.drop i) = ptsB (gb l i) 0 (cnt points (gb l i)) ++ pts points (l.drop (i + 1)) := by rw [dropb l hi]; rfl
    rw [e, List.length_append, ptsB_len] at h2
    obtain ⟨y, y1, y2, y3⟩ := r_l2 l points hi hl hp (G.may i hi) _ 0 z (Nat.zero_add _) (by omega) h3
    have ylen := y3.length_eq
    rw [List.length_append, ptsB_len] at ylen
    obtain ⟨w, w1, w2, w3⟩ := r_l1 l points hp G d (i + 1) y (by omega) (by omega) y2
    refine ⟨w, ?_, w2, ?_⟩
    · refine Ev.succ ?_
      simp only [waybillref12_Build.l1]
      refine Ev.pos (by omega) (Ev.bind (Ev.bind y1 Ev.ret) ?_)
      rw [W_succ (by omega)]; exact w1
    · rw [e, ← List.append_assoc]
      exact w3.trans (y3.append_right _)
/-- both answers are one: all points, in order -/
theorem build_ok (points : Int) (l : List B) : ∃ q e, Ev (fun k => ring_Build.f k points l) (q, e) ∧ Ev (fun k => waybillref12_Build.f k points l) (q, e) ∧ (e ≠ 0 → q = []) ∧ q.length ≤ 1024 ∧
    (e = 0 ↔ GoodB l ∧ ∃ p : Nat, points = p ∧ 1 ≤ p ∧ p ≤ 64 ∧ (pts p l).length ≤ 1024) ∧ (∀ p : Nat, e = 0 → points = p → q = srt (pts p l)) := by
  obtain ⟨e, h1, h2, h3⟩ := checkB_ok l
  by_cases c : e = 0
  · have G := h3.1 c
    by_cases c1 : points < 1 ∨ 64 < points
    · have hb : Ev (fun _ => if points < 1 then (some true) else (some (decide (64 < points)))) true := by
        rcases c1 with h | h
        · exact Ev.pos h Ev.ret
        · exact Ev.neg (by omega) (Ev.of (by simp [h]))
      refine ⟨[], 4, ?_, ?_, fun _ => rfl, by simp, ⟨fun h => absurd h (by decide), ?_⟩, fun p h => absurd h (by decide)⟩
      · simp only [ring_Build.f]; exact Ev.bind h1 (Ev.pos c (Ev.bind hb (Ev.pos rfl Ev.ret)))
      · simp only [waybillref12_Build.f]; exact Ev.bind h2 (Ev.pos c (Ev.bind hb (Ev.pos rfl Ev.ret)))
      · rintro ⟨_, p, rfl, q1, q2, _⟩; omega
    · obtain ⟨p, rfl⟩ := Int.eq_ofNat_of_zero_le (show 0 ≤ points by omega)
      have hp : p ≤ 64 := by omega
      have hb : Ev (fun _ => if (p : Int) < 1 then (some true) else (some (decide (64 < (p : Int))))) false := Ev.neg (by omega) (Ev.of (by simp; omega))
      have p1 := b_l0 l p hp G l.length 0 [] (Nat.zero_add _) (by simp)
      have p2 := r_l0 l p hp G l.length 0 0 (Nat.zero_add _) (by omega)
      rw [List.drop_zero, List.nil_append] at p1
      rw [List.drop_zero, Nat.zero_add] at p2
      by_cases c2 : (pts p l).length ≤ 1024
      · obtain ⟨y, y1, y2, y3⟩ := r_l1 l p hp G l.length 0 [] (Nat.zero_add _) (by simpa using c2) List.Pairwise.nil
        rw [List.drop_zero, List.nil_append] at y3
        obtain rfl := srt_uniq y3 y2
        refine ⟨srt (pts p l), 0, ?_, ?_, fun h => absurd rfl h, by rw [srt_len]; exact c2, ⟨fun _ => ⟨G, p, rfl, by omega, hp, c2⟩, fun _ => rfl⟩, fun p' _ h => by rw [show p = p' by omega]⟩
        · simp only [ring_Build.f]
          refine Ev.bind h1 (Ev.pos c (Ev.bind hb (Ev.neg (by simp) (Ev.bind p1 (Ev.neg (by omega) (Ev.bind (Ev.of (r := srt (pts p l)) ?_) Ev.ret))))))
          unfold slices_SortFunc_api_Point_api_Point.f
          rw [if_pos (by omega)]; rfl
        · simp only [waybillref12_Build.f]
          exact Ev.bind h2 (Ev.pos c (Ev.bind hb (Ev.neg (by simp) (Ev.bind p2 (Ev.neg (by omega) (Ev.bind y1 Ev.ret))))))
      · refine ⟨[], 5, ?_, ?_, fun _ => rfl, by simp, ⟨fun h => absurd h (by decide), ?_⟩, fun p h => absurd h (by decide)⟩
        · simp only [ring_Build.f]; exact Ev.bind h1 (Ev.pos c (Ev.bind hb (Ev.neg (by simp) (Ev.bind p1 (Ev.pos (by omega) Ev.ret)))))
        · simp only [waybillref12_Build.f]; exact Ev.bind h2 (Ev.pos c (Ev.bind hb (Ev.neg (by simp) (Ev.bind p2 (Ev.pos (by omega) Ev.ret)))))
        · rintro ⟨_, p', q0, q1, q2, q3⟩
          have : p' = p := by omega
          subst this; omega
  · refine ⟨[], e, ?_, ?_, fun _ => rfl, by simp, ⟨fun h => absurd h c, fun h => absurd (h3.2 h.1) c⟩, fun p h => absurd h c⟩
    · simp only [ring_Build.f]; exact Ev.bind h1 (Ev.neg c Ev.ret)
    · simp only [waybillref12_Build.f]; exact Ev.bind h2 (Ev.neg c Ev.ret)
end Go.Proofs.Ytmdpjijafejgpaa.M

/- Where a hash begins on a ring; who comes next; whose it is: by the program and by the page. -/
set_option linter.unusedVariables false
set_option linter.unusedSimpArgs false
namespace Go.Proofs.Ytmdpjijafejgpaa.M
open Go Go.Proofs.Ytmdpjijafejgpaa.Sl

def low (r : List Pt) (h : Int) : List Pt := r.filter fun p => decide (p.Hash < h)
def high (r : List Pt) (h : Int) : List Pt := r.filter fun p => decide (¬ p.Hash < h)
def rot (r : List Pt) (h : Int) : List Pt := high r h ++ low r h
theorem goodR_srt {r : List Pt} (G : GoodR r) : Srt r := by
  have key : ∀ (d i j : Nat), j = i + d → j < r.length → ¬ lt (gp r j) (gp r i) := by
    intro d
    induction d with
    | zero => intro i j h1 h2; subst h1; exact lt_irrefl _
    | succ d ih =>
      intro i j h1 h2
      have a := ih i (i + d) rfl (by omega)
      have b := G.up j h2 (by omega)
      rw [show j - 1 = i + d by omega] at b
      exact le_trans a b
  refine List.pairwise_iff_getElem.2 fun i j hi hj hij => ?_
  have := key (j - i) i j (by omega) hj
  rwa [gp, gp, getD_get _ _ _ hi, getD_get _ _ _ hj] at this
theorem srt_good {r : List Pt} (hs : Srt r) (hl : r.length ≤ 1024) (hid : ∀ p ∈ r, 0 ≤ p.ID) : GoodR r := by
  refine ⟨hl, fun i hi h0 => ?_, fun i hi h => ?_⟩
  · have := List.pairwise_iff_getElem.1 hs (i - 1) i (by omega) hi (by omega)
    rwa [gp, gp, getD_get _ _ _ hi, getD_get _ _ _ (by omega)]
  · have := hid _ (getD_mem r i api_Point.zero hi)
    unfold gp at h
    omega
theorem low_high {h : Int} : ∀ {r : List Pt}, Srt r → low r h ++ high r h = r := by
  intro r
  induction r with
  | nil => intro _; rfl
  | cons p r ih =>
    intro hs
    obtain ⟨h1, h2⟩ := List.pairwise_cons.1 hs
    by_cases c : p.Hash < h
    · have e1 : low (p :: r) h = p :: low r h := by simp [low, c]
      have e2 : high (p :: r) h = high r h := by simp [high, c]
      rw [e1, e2, List.cons_append, ih h2]
    · have hall : ∀ q ∈ p :: r, ¬ q.Hash < h := fun q hq => by
        rcases List.mem_cons.1 hq with rfl | hq
        · exact c
        · have := h1 q hq; unfold lt at this; omega
      have e1 : low (p :: r) h = [] := by
        unfold low
        rw [List.filter_eq_nil_iff]
        intro q hq; simpa using hall q hq
      have e2 : high (p :: r) h = p :: r := by
        unfold high
        rw [List.filter_eq_self]
        intro q hq; exact decide_eq_true (hall q hq)
      rw [e1, e2]; rfl
def fr (r : List Pt) (h : Int) : Nat := (low r h).length
theorem fr_le (r : List Pt) (h : Int) : fr r h ≤ r.length := List.length_filter_le _ _
theorem fr_iff {r : List Pt} (hs : Srt r) (h : Int) {i : Nat} (hi : i < r.length) : (gp r i).Hash < h ↔ i < fr r h := by
  have e := low_high (h := h) hs
  constructor
  · intro hlt
    by_cases c : i < fr r h
    · exact c
    · exfalso
      have : gp r i ∈ high r h := by
        have e2 : gp r i = (low r h ++ high r h).getD i api_Point.zero := by rw [e]; rfl
        rw [e2, getD_get _ _ _ (by rw [e]; exact hi), List.getElem_append_right (by unfold fr at c; omega)]
        exact List.getElem_mem _
      have := (List.mem_filter.1 this).2
      rw [decide_eq_true_iff] at this
      exact this hlt
  · intro c
    have : gp r i ∈ low r h := by
      have e2 : gp r i = (low r h ++ high r h).getD i api_Point.zero := by rw [e]; rfl
      rw [e2, getD_append_left _ _ _ _ c]
      exact getD_mem _ _ _ c
    have := (List.mem_filter.1 this).2
    rwa [decide_eq_true_iff] at this
theorem rot_len {r : List Pt} (hs : Srt r) (h : Int) : (rot r h).length = r.length := by
  conv => rhs; rw [← low_high (h := h) hs]
  rw [rot, List.length_append, List.length_append]; omega
theorem rot_mem {r : List Pt} {h : Int} {p : Pt} : p ∈ rot r h ↔ p ∈ r := by
  simp only [rot, low, high, List.mem_append, List.mem_filter, decide_eq_true_iff]
  by_cases c : p.Hash < h <;> simp [c] <;> omega
theorem rot_get {r : List Pt} (hs : Srt r) (h : Int) {i : Nat} (hi : i < r.length) : gp r ((fr r h + i) % r.length) = gp (rot r h) i := by
  have e := low_high (h := h) hs
  have hlen : (low r h).length + (high r h).length = r.length := by rw [← List.length_append, e]
  by_cases c : i < (high r h).length
  · have e1 : (fr r h + i) % r.length = fr r h + i := Nat.mod_eq_of_lt (by unfold fr; omega)
    rw [e1, gp, gp, rot, getD_append_left _ _ _ _ c, getD_get _ _ _ c]
    have e2 : r.getD (fr r h + i) api_Point.zero = (low r h ++ high r h).getD (fr r h + i) api_Point.zero := by rw [e]
    rw [e2, getD_get _ _ _ (by rw [e]; unfold fr; omega), List.getElem_append_right (by unfold fr; omega)]
    congr 1
    unfold fr; omega
  · have e1 : (fr r h + i) % r.length = fr r h + i - r.length := by
      rw [Nat.mod_eq_sub_mod (by unfold fr; omega), Nat.mod_eq_of_lt (by unfold fr; omega)]
    rw [e1, gp, gp, rot]
    have e2 : r.getD (fr r h + i - r.length) api_Point.zero = (low r h ++ high r h).getD (fr r h + i - r.length) api_Point.zero := by rw [e]
    rw [e2, getD_append_left _ _ _ _ (by unfold fr; omega), getD_get _ _ _ (by unfold fr; omega), getD_get _ _ _ (by rw [List.length_append]; omega), List.getElem_append_right (by omega)]
    congr 1
    unfold fr; omega

/-! ### the search -/
theorem mid_ok {a b : Nat} (h : a + b < 4611686018427387904) : IntKind.i64.wrap (sh_shr .u64 (IntKind.u64.wrap (IntKind.i64.wrap ((a : Int) + (b : Int)))) 1) = (((a + b) / 2 : Nat) : Int) := by
  rw [W_eq (x := (a : Int) + (b : Int)) (by omega) (by omega), U_eq (by omega) (by omega)]
  have := shr_nat (a + b) 1 (by omega)
  rw [show ((1 : Nat) : Int) = 1 from rfl, Nat.pow_one, show ((a + b : Nat) : Int) = (a : Int) + (b : Int) by omega] at this
  rw [this, W_eq (by omega) (by omega)]
theorem begins_ok (p : Pt) (h : Int) : ring_begins_1.f p h = some (if p.Hash < h then -1 else if h < p.Hash then 1 else 0) := by
  simp only [ring_begins_1.f, cmpU_ok, Option.bind_some]
theorem bsearch {r : List Pt} (hl : r.length ≤ 1024) (hs : Srt r) (h : Int) (L : Nat → Int → Int → Option Int)
    (hL : ∀ k a b, L (k + 1) a b = if a < b then (if 0 ≤ (IntKind.i64.wrap (sh_shr .u64 (IntKind.u64.wrap (IntKind.i64.wrap (a + b))) 1)) then (if (IntKind.i64.wrap (sh_shr .u64 (IntKind.u64.wrap (IntKind.i64.wrap (a + b))) 1)) < (r.length : Int) then ((ring_begins_1.f (rd e_api_Point r (IntKind.i64.wrap (sh_shr .u64 (IntKind.u64.wrap (IntKind.i64.wrap (a + b))) 1))) h).bind fun z14t => (((if z14t < 0 then (some (IntKind.i64.wrap ((IntKind.i64.wrap (sh_shr .u64 (IntKind.u64.wrap (IntKind.i64.wrap (a + b))) 1)) + 1), b)) else (some (a, IntKind.i64.wrap (sh_shr .u64 (IntKind.u64.wrap (IntKind.i64.wrap (a + b))) 1)))) : Option (Int × Int)).bind fun (z15x, z16x) => (L k z15x z16x))) else (none)) else (none)) else (some a)) :
    ∀ (d a b : Nat), b - a ≤ d → a ≤ fr r h → fr r h ≤ b → b ≤ r.length → Ev (fun k => L k a b) ((fr r h : Nat) : Int) := by
  intro d
  induction d with
  | zero =>
    intro a b h1 h2 h3 h4
    refine Ev.succ ?_
    simp only [hL]
    refine Ev.neg (by omega) ?_
    rw [show a = fr r h by omega]; exact Ev.ret
  | succ d ih =>
    intro a b h1 h2 h3 h4
    by_cases c : a < b
    · refine Ev.succ ?_
      simp only [hL, mid_ok (show a + b < 4611686018427387904 by omega)]
      refine Ev.pos (by omega) (Ev.pos (by omega) (Ev.pos (by omega) ?_))
      rw [gp_rd, begins_ok]
      simp only [Option.bind_some]
      by_cases q : (gp r ((a + b) / 2)).Hash < h
      · have hq := (fr_iff hs h (by omega)).1 q
        refine Ev.bind (x := ((((a + b) / 2 + 1 : Nat) : Int), (b : Int))) ?_ (ih ((a + b) / 2 + 1) b (by omega) (by omega) h3 h4)
        rw [if_pos q, W_succ (by omega)]
        exact Ev.pos (by decide) Ev.ret
      · have hq : ¬ (a + b) / 2 < fr r h := fun t => q ((fr_iff hs h (by omega)).2 t)
        refine Ev.bind (x := ((a : Int), (((a + b) / 2 : Nat) : Int))) ?_ (ih a ((a + b) / 2) (by omega) h2 (by omega) (by omega))
        rw [if_neg q]
        refine Ev.neg ?_ Ev.ret
        split <;> decide
    · refine Ev.succ ?_
      simp only [hL]
      refine Ev.neg (by omega) ?_
      rw [show a = fr r h by omega]; exact Ev.ret
theorem found_ok (r : List Pt) (h : Int) : ∃ b, Ev (fun _ => if ((fr r h : Nat) : Int) < (r.length : Int) then (if 0 ≤ ((fr r h : Nat) : Int) then ((ring_begins_1.f (rd e_api_Point r ((fr r h : Nat) : Int)) h).bind fun z24t => (some (decide (z24t = 0)))) else (none)) else (some false)) b := by
  by_cases c : fr r h < r.length
  · exact ⟨_, Ev.pos (by omega) (Ev.pos (by omega) (Ev.bind (Ev.of (begins_ok _ h)) Ev.ret))⟩
  · exact ⟨_, Ev.neg (by omega) Ev.ret⟩
theorem mod_ok {a n : Nat} : ((a : Int)).tmod (n : Int) = ((a % n : Nat) : Int) := by
  rw [Int.tmod_eq_emod_of_nonneg (by omega)]; rfl
theorem first_ok {r : List Pt} (h : Int) (h0 : 0 < r.length) : ring_round_first.f ⟨r, ((fr r h : Nat) : Int)⟩ = some (gp r (fr r h % r.length)).ID := by
  unfold ring_round_first.f
  dsimp only
  have := Nat.mod_lt (fr r h) h0
  rw [if_neg (by omega), mod_ok, if_pos (by omega), if_pos (by omega), gp_rd]
theorem ask_ok (r : List Pt) : ∃ e, Ev (fun k => ring_Whole.f k r) e ∧ Ev (fun k => waybillref12_Whole.f k r) e ∧ (e = 0 ↔ GoodR r) ∧ Ev (fun k => ring_ask.f k r) (if e = 0 then (if r.length = 0 then 71 else 0) else e) := by
  obtain ⟨e, h1, h2, h3⟩ := whole_ok r
  refine ⟨e, h1, h2, h3, ?_⟩
  simp only [ring_ask.f]
  refine Ev.bind h1 ?_
  by_cases c : e = 0
  · by_cases c2 : r.length = 0
    · rw [show (if e = 0 then (if r.length = 0 then (71 : Int) else 0) else e) = 71 by rw [if_pos c, if_pos c2]]; exact Ev.pos c (Ev.pos (by omega) Ev.ret)
    · rw [show (if e = 0 then (if r.length = 0 then (71 : Int) else 0) else e) = 0 by rw [if_pos c, if_neg c2]]; exact Ev.pos c (Ev.neg (by omega) Ev.ret)
  · rw [show (if e = 0 then (if r.length = 0 then (71 : Int) else 0) else e) = e from if_neg c]; exact Ev.neg c Ev.ret

/-! ### who comes next -/
def add (acc : List Int) (x : Int) : List Int := if x ∈ acc then acc else acc ++ [x]
def adds (acc : List Int) (l : List Int) : List Int := l.foldl add acc
def ids (l : List Pt) : List Int := l.map (·.ID)
theorem add_len (acc : List Int) (x : Int) : (add acc x).length ≤ acc.length + 1 := by unfold add; split <;> simp
theorem mem_add {acc : List Int} {x y : Int} : y ∈ add acc x ↔ y ∈ acc ∨ y = x := by
  unfold add; split
  · exact ⟨.inl, fun h => h.elim id (fun e => by subst e; assumption)⟩
  · simp
theorem ids_drop {r : List Pt} {i : Nat} (hi : i < r.length) : ids (r.drop i) = (gp r i).ID :: ids (r.drop (i + 1)) := by
  rw [drop_gp r hi]; rfl
theorem walk_l1 {r : List Pt} (hl : r.length ≤ 1024) (hs : Srt r) (h : Int) : ∀ (d i : Nat) (acc : List Int) (m : List (Int × Bool)), i + d = r.length → acc.length ≤ i → (∀ x, mget m x false = true ↔ x ∈ acc) →
    ∃ m', Ev (fun k => ring_Walk.l1 k r ((fr r h : Nat) : Int) i acc m) (adds acc (ids ((rot r h).drop i)), m')
  | 0, i, acc, m, h1, h2, h3 => by
    refine ⟨m, ?_⟩
    rw [List.drop_of_length_le (by rw [rot_len hs]; omega)]
    refine Ev.succ ?_
    simp only [ring_Walk.l1]
    exact Ev.neg (by omega) Ev.ret
  | d + 1, i, acc, m, h1, h2, h3 => by
    have hi : i < r.length := by omega
    have hfl := fr_le r h
    have hmod := Nat.mod_lt (fr r h + i) (show 0 < r.length by omega)
    have hx := rot_get hs h hi
    obtain ⟨m', hm⟩ := walk_l1 hl hs h d (i + 1) (add acc (gp (rot r h) i).ID) (mput m (gp (rot r h) i).ID true) (by omega) (by have := add_len acc (gp (rot r h) i).ID; omega) (fun x => by
      rw [mget_mput, mem_add]
      by_cases e : (gp (rot r h) i).ID = x
      · rw [if_pos e]; exact ⟨fun _ => .inr e.symm, fun _ => rfl⟩
      · rw [if_neg e, h3]; exact ⟨.inl, fun q => q.resolve_right (fun q => e q.symm)⟩)
    refine ⟨m', ?_⟩
    rw [ids_drop (by rw [rot_len hs]; exact hi)]
    refine Ev.succ ?_
    simp only [ring_Walk.l1]
    rw [show ((fr r h : Nat) : Int) + (i : Int) = ((fr r h + i : Nat) : Int) by omega, W_eq (by omega) (by omega), mod_ok, gp_rd, hx]
    refine Ev.pos (by omega) (Ev.neg (by omega) (Ev.pos (by omega) (Ev.pos (by omega) (Ev.bind (x := add acc (gp (rot r h) i).ID) ?_ ?_))))
    · unfold add
      by_cases c : (gp (rot r h) i).ID ∈ acc
      · rw [if_pos c]; exact Ev.pos ((h3 _).2 c) Ev.ret
      · rw [if_neg c]; exact Ev.neg (fun q => c ((h3 _).1 q)) (Ev.pos (by simp; omega) Ev.ret)
    · rw [W_succ (by omega)]; exact hm
theorem walk_prog {r : List Pt} (G : GoodR r) (h0 : 0 < r.length) (h : Int) : Ev (fun k => ring_Walk.f k r h) (adds [] (ids (rot r h)), 0) := by
  have hs := goodR_srt G
  obtain ⟨e, _, _, h3, h4⟩ := ask_ok r
  rw [if_pos (h3.2 G), if_neg (by omega)] at h4
  obtain ⟨m', hm⟩ := walk_l1 G.len hs h r.length 0 [] [] (by omega) (by simp) (fun x => by simp [mget_val, mval_nil])
  obtain ⟨b, hb⟩ := found_ok r h
  simp only [ring_Walk.f]
  exact Ev.bind h4 (Ev.pos rfl (Ev.bind (bsearch G.len hs h _ (fun k a b => rfl) r.length 0 r.length (by omega) (by omega) (fr_le r h) (Nat.le_refl _)) (Ev.bind hb (Ev.bind hm Ev.ret))))
theorem rwalk_l0 {r : List Pt} (hl : r.length ≤ 1024) (hs : Srt r) (h : Int) : Ev (fun k => waybillref12_Walk.l0 k r h 0) ((fr r h : Nat) : Int) := by
  have hfl := fr_le r h
  refine scan_all (n := fr r h) (p := fun _ => False) (fun i hi _ v hv => ?_) (fun _ _ q => q) ?_
  · refine Ev.succ ?_
    simp only [waybillref12_Walk.l0, gp_rd]
    refine Ev.bind (x := true) (Ev.pos (by omega) (Ev.pos (by omega) (Ev.of (congrArg some (decide_eq_true ((fr_iff hs h (by omega)).2 hi)))))) (Ev.pos rfl ?_)
    rw [W_succ (by omega)]; exact hv
  · refine Ev.succ ?_
    simp only [waybillref12_Walk.l0, gp_rd]
    refine Ev.bind (x := false) ?_ (Ev.neg (by simp) Ev.ret)
    by_cases c : fr r h < r.length
    · exact Ev.pos (by omega) (Ev.pos (by omega) (Ev.of (congrArg some (decide_eq_false fun q => absurd ((fr_iff hs h c).1 q) (by omega)))))
    · exact Ev.neg (by omega) Ev.ret
theorem rwalk_l2 {r : List Pt} {f i x : Nat} (acc : List Int) (hl : acc.length ≤ 1024) {y : Int} (hy : (rd e_api_Point r ((IntKind.i64.wrap ((f : Int) + (i : Int))).tmod (r.length : Int))).ID = y) : ∀ (d j : Nat) (b : Bool), j + d = acc.length → b = decide (y ∈ acc.take j) → Ev (fun k => waybillref12_Walk.l2 k r f i acc b j) (decide (y ∈ acc))
  | 0, j, b, h1, h2 => by
    refine Ev.succ ?_
    simp only [waybillref12_Walk.l2]
    rw [List.take_of_length_le (by omega)] at h2
    rw [← h2]
    exact Ev.neg (by omega) Ev.ret
  | d + 1, j, b, h1, h2 => by
    refine Ev.succ ?_
    simp only [waybillref12_Walk.l2, hy]
    refine Ev.pos (by omega) (Ev.bind (x := decide (y ∈ acc.take (j + 1))) ?_ ?_)
    · have ht : acc.take (j + 1) = acc.take j ++ [acc.getD j 0] := by
        rw [List.take_add_one, List.getElem?_eq_getElem (by omega : j < acc.length), getD_get _ _ _ (by omega)]; rfl
      cases b with
      | true =>
        have : y ∈ acc.take j := by simpa using h2
        refine Ev.pos rfl (Ev.of (congrArg some (decide_eq_true ?_).symm))
        rw [ht]; exact List.mem_append_left _ this
      | false =>
        have : ¬ y ∈ acc.take j := by simpa using h2
        refine Ev.neg (by simp) (Ev.pos (by omega) (Ev.of (congrArg some (decide_eq_decide.2 ?_))))
        rw [ht, List.mem_append, List.mem_singleton]
        exact ⟨fun q => .inr q.symm, fun q => (q.resolve_left this).symm⟩
    · rw [W_succ (by omega)]
      exact rwalk_l2 (x := x) acc hl hy d (j + 1) _ (by omega) rfl
theorem rwalk_l1 {r : List Pt} (hl : r.length ≤ 1024) (hs : Srt r) (h : Int) : ∀ (d i : Nat) (acc : List Int), i + d = r.length → acc.length ≤ i → Ev (fun k => waybillref12_Walk.l1 k r ((fr r h : Nat) : Int) i acc) (adds acc (ids ((rot r h).drop i)))
  | 0, i, acc, h1, h2 => by
    rw [List.drop_of_length_le (by rw [rot_len hs]; omega)]
    refine Ev.succ ?_
    simp only [waybillref12_Walk.l1]
    exact Ev.neg (by omega) Ev.ret
  | d + 1, i, acc, h1, h2 => by
    have hi : i < r.length := by omega
    have hfl := fr_le r h
    have hmod := Nat.mod_lt (fr r h + i) (show 0 < r.length by omega)
    have hx := rot_get hs h hi
    have hy : (rd e_api_Point r ((IntKind.i64.wrap (((fr r h : Nat) : Int) + (i : Int))).tmod (r.length : Int))).ID = (gp (rot r h) i).ID := by
      rw [show ((fr r h : Nat) : Int) + (i : Int) = ((fr r h + i : Nat) : Int) by omega, W_eq (by omega) (by omega), mod_ok, gp_rd, hx]
    have hm := rwalk_l1 hl hs h d (i + 1) (add acc (gp (rot r h) i).ID) (by omega) (by have := add_len acc (gp (rot r h) i).ID; omega)
    have h2' := rwalk_l2 (x := 0) acc (by omega) hy acc.length 0 false (Nat.zero_add _) (by simp)
    rw [ids_drop (by rw [rot_len hs]; exact hi)]
    refine Ev.succ ?_
    simp only [waybillref12_Walk.l1]
    refine Ev.pos (by omega) (Ev.bind (x := add acc (gp (rot r h) i).ID) (Ev.neg (by omega) (Ev.pos ?_ (Ev.pos ?_ (Ev.bind h2' (Ev.bind (x := add acc (gp (rot r h) i).ID) ?_ Ev.ret))))) ?_)
    · rw [show ((fr r h : Nat) : Int) + (i : Int) = ((fr r h + i : Nat) : Int) by omega, W_eq (by omega) (by omega), mod_ok]; omega
    · rw [show ((fr r h : Nat) : Int) + (i : Int) = ((fr r h + i : Nat) : Int) by omega, W_eq (by omega) (by omega), mod_ok]; omega
    · unfold add
      by_cases c : (gp (rot r h) i).ID ∈ acc
      · rw [if_pos c]; exact Ev.dpos c Ev.ret
      · rw [if_neg c, hy]; exact Ev.dneg c (Ev.pos (by simp; omega) Ev.ret)
    · rw [W_succ (by omega)]; exact hm
theorem walk_ref {r : List Pt} (G : GoodR r) (h0 : 0 < r.length) (h : Int) : Ev (fun k => waybillref12_Walk.f k r h) (adds [] (ids (rot r h)), 0) := by
  have hs := goodR_srt G
  obtain ⟨e, _, h2, h3, _⟩ := ask_ok r
  simp only [waybillref12_Walk.f]
  exact Ev.bind h2 (Ev.pos (h3.2 G) (Ev.neg (by omega) (Ev.bind (rwalk_l0 G.len hs h) (Ev.bind (rwalk_l1 G.len hs h r.length 0 [] (by omega) (by simp)) Ev.ret))))
theorem walk_ok (r : List Pt) (h : Int) : ∃ w e, Ev (fun k => ring_Walk.f k r h) (w, e) ∧ Ev (fun k => waybillref12_Walk.f k r h) (w, e) ∧ (e = 0 ↔ GoodR r ∧ 0 < r.length) ∧ (e = 0 → w = adds [] (ids (rot r h))) ∧ (e ≠ 0 → w = []) := by
  obtain ⟨e, h1, h2, h3, h4⟩ := ask_ok r
  by_cases c : e = 0
  · have G := h3.1 c
    by_cases c0 : r.length = 0
    · rw [if_pos c, if_pos c0] at h4
      refine ⟨[], 71, ?_, ?_, ⟨fun h => absurd h (by decide), fun h => by omega⟩, fun h => absurd h (by decide), fun _ => rfl⟩
      · simp only [ring_Walk.f]; exact Ev.bind h4 (Ev.neg (by decide) Ev.ret)
      · simp only [waybillref12_Walk.f]; exact Ev.bind h2 (Ev.pos c (Ev.pos (by omega) Ev.ret))
    · exact ⟨_, 0, walk_prog G (by omega) h, walk_ref G (by omega) h, ⟨fun _ => ⟨G, by omega⟩, fun _ => rfl⟩, fun _ => rfl, fun h => absurd rfl h⟩
  · rw [if_neg c] at h4
    refine ⟨[], e, ?_, ?_, ⟨fun h => absurd h c, fun h => absurd (h3.2 h.1) c⟩, fun h => absurd h c, fun _ => rfl⟩
    · simp only [ring_Walk.f]; exact Ev.bind h4 (Ev.neg c Ev.ret)
    · simp only [waybillref12_Walk.f]; exact Ev.bind h2 (Ev.neg c Ev.ret)
/-! ### what is met once -/
def dd : List Int → List Int
  | [] => []
  | x :: r => x :: (dd r).filter fun y => decide (y ≠ x)
theorem adds_dd : ∀ (l acc : List Int), adds acc l = acc ++ (dd l).filter fun y => decide (y ∉ acc) := by
  intro l
  induction l with
  | nil => intro acc; simp [adds, dd]
  | cons x l ih =>
    intro acc
    show adds (add acc x) l = _
    rw [ih]
    unfold add
    by_cases c : x ∈ acc
    · rw [if_pos c, dd, List.filter_cons, if_neg (by simp [c]), List.filter_filter]
      congr 1
      refine List.filter_congr fun y _ => ?_
      by_cases e : y = x
      · subst e; simp [c]
      · simp [e]
    · rw [if_neg c, dd, List.filter_cons, if_pos (by simp [c]), List.filter_filter, List.append_assoc]
      congr 1
      show x :: _ = x :: _
      congr 1
      refine List.filter_congr fun y _ => ?_
      simp only [List.mem_append, List.mem_singleton, not_or, ne_eq, Bool.decide_and]
theorem adds_nil (l : List Int) : adds [] l = dd l := by
  rw [adds_dd, List.nil_append, List.filter_eq_self]; intro x _; simp
theorem mem_dd {x : Int} : ∀ {l : List Int}, x ∈ dd l ↔ x ∈ l := by
  intro l
  induction l with
  | nil => simp [dd]
  | cons y l ih =>
    simp only [dd, List.mem_cons, List.mem_filter, ih, decide_eq_true_iff]
    by_cases e : x = y
    · simp [e]
    · simp [e]
theorem nodup_dd : ∀ (l : List Int), (dd l).Nodup := by
  intro l
  induction l with
  | nil => exact List.nodup_nil
  | cons y l ih =>
    rw [dd, List.nodup_cons]
    exact ⟨fun h => by simpa using (List.mem_filter.1 h).2, ih.filter _⟩
theorem dd_filter (p : Int → Bool) : ∀ (l : List Int), dd (l.filter p) = (dd l).filter p := by
  intro l
  induction l with
  | nil => rfl
  | cons y l ih =>
    by_cases c : p y = true
    · rw [List.filter_cons, if_pos c, dd, dd, List.filter_cons, if_pos c, ih, List.filter_filter, List.filter_filter]
      congr 1
      refine List.filter_congr fun z _ => ?_
      rw [Bool.and_comm]
    · rw [List.filter_cons, if_neg c, dd, List.filter_cons, if_neg c, ih, List.filter_filter]
      refine List.filter_congr fun z _ => ?_
      by_cases e : z = y
      · subst e; simp at c; simp [c]
      · simp [e]
theorem rot_head {r : List Pt} (hs : Srt r) (h0 : 0 < r.length) (h : Int) : ids (rot r h) = (gp r (fr r h % r.length)).ID :: ids ((rot r h).drop 1) := by
  have := ids_drop (r := rot r h) (i := 0) (by rw [rot_len hs]; exact h0)
  rw [List.drop_zero] at this
  rw [this, ← rot_get hs h h0, Nat.add_zero]
theorem lookup_ok (r : List Pt) (h : Int) : ∃ x e, Ev (fun k => ring_Lookup.f k r h) (x, e) ∧ Ev (fun k => waybillref12_Lookup.f k r h) (x, e) ∧ (e = 0 ↔ GoodR r ∧ 0 < r.length) ∧ (e = 0 → x = (gp r (fr r h % r.length)).ID) ∧ (∀ w e', Ev (fun k => ring_Walk.f k r h) (w, e') → e' = e) := by
  obtain ⟨e, h1, h2, h3, h4⟩ := ask_ok r
  obtain ⟨w, e', w1, w2, w3, w4, w5⟩ := walk_ok r h
  have hu : ∀ w' e'', Ev (fun k => ring_Walk.f k r h) (w', e'') → e'' = e' := fun w' e'' q => (congrArg Prod.snd (q.uniq w1))
  have hne : ∀ c : ¬ (if e = 0 then (if r.length = 0 then (71 : Int) else 0) else e) = 0, e' = (if e = 0 then (if r.length = 0 then (71 : Int) else 0) else e) := fun c => by
    have : Ev (fun k => ring_Walk.f k r h) ([], if e = 0 then (if r.length = 0 then (71 : Int) else 0) else e) := by
      simp only [ring_Walk.f]; exact Ev.bind h4 (Ev.neg c Ev.ret)
    exact (hu _ _ this).symm
  by_cases c : GoodR r ∧ 0 < r.length
  · obtain ⟨G, h0⟩ := c
    have hs := goodR_srt G
    have he : e' = 0 := w3.2 ⟨G, h0⟩
    subst he
    rw [if_pos (h3.2 G), if_neg (by omega)] at h4
    obtain ⟨b, hb⟩ := found_ok r h
    refine ⟨(gp r (fr r h % r.length)).ID, 0, ?_, ?_, ⟨fun _ => ⟨G, h0⟩, fun _ => rfl⟩, fun _ => rfl, hu⟩
    · simp only [ring_Lookup.f]
      exact Ev.bind h4 (Ev.pos rfl (Ev.bind (bsearch G.len hs h _ (fun k a b => rfl) r.length 0 r.length (by omega) (by omega) (fr_le r h) (Nat.le_refl _)) (Ev.bind hb (Ev.bind (Ev.of (first_ok h h0)) Ev.ret))))
    · have hw : w = (gp r (fr r h % r.length)).ID :: (dd (ids ((rot r h).drop 1))).filter fun y => decide (y ≠ (gp r (fr r h % r.length)).ID) := by
        rw [w4 rfl, adds_nil, rot_head hs h0]; rfl
      simp only [waybillref12_Lookup.f]
      refine Ev.bind w2 (Ev.pos rfl (Ev.pos ?_ ?_))
      · rw [hw, List.length_cons]; omega
      · rw [hw]; exact Ev.ret
  · have he' : e' ≠ 0 := fun q => c (w3.1 q)
    have hne2 : ¬ (if e = 0 then (if r.length = 0 then (71 : Int) else 0) else e) = 0 := by
      intro q
      apply c
      split at q
      · rename_i q1
        split at q
        · exact absurd q (by decide)
        · exact ⟨h3.1 q1, by omega⟩
      · rename_i q1; exact absurd q q1
    have ee := hne hne2
    refine ⟨0, e', ?_, ?_, ⟨fun q => absurd q he', fun q => absurd q c⟩, fun q => absurd q he', hu⟩
    · simp only [ring_Lookup.f]
      rw [ee]
      exact Ev.bind h4 (Ev.neg hne2 Ev.ret)
    · simp only [waybillref12_Lookup.f]
      exact Ev.bind w2 (Ev.neg he' Ev.ret)
end Go.Proofs.Ytmdpjijafejgpaa.M

/- How many keys each has: by the program and by the page. What the laws ask besides. -/
set_option linter.unusedVariables false
set_option linter.unusedSimpArgs false
namespace Go.Proofs.Ytmdpjijafejgpaa.M
open Go Go.Proofs.Ytmdpjijafejgpaa.Sl

def srtI (l : List Int) : List Int := l.mergeSort fun a b => decide (a ≤ b)
theorem srtI_perm (l : List Int) : (srtI l).Perm l := List.mergeSort_perm _ _
theorem srtI_sorted (l : List Int) : (srtI l).Pairwise (· ≤ ·) := by
  have := List.pairwise_mergeSort (le := fun a b : Int => decide (a ≤ b)) (fun a b c h1 h2 => by simp at *; omega) (fun a b => by simp; omega) l
  exact this.imp fun h => by simpa using h
theorem srtI_uniq {l m : List Int} (h : m.Perm l) (hs : m.Pairwise (· ≤ ·)) : m = srtI l :=
  List.Perm.eq_of_pairwise (fun a b _ _ h1 h2 => Int.le_antisymm h1 h2) hs (srtI_sorted l) (h.trans (srtI_perm l).symm)
def gi (l : List Int) (i : Nat) : Int := l.getD i 0
theorem gi_rd (l : List Int) (i : Nat) : rd e_i64 l (i : Int) = gi l i := rfl
theorem drop_gi (l : List Int) {i : Nat} (hi : i < l.length) : l.drop i = gi l i :: l.drop (i + 1) := by
  rw [List.drop_eq_getElem_cons hi, gi, getD_get _ _ _ hi]

/-! ### the page's sort -/
theorem i_l1 (l : List Int) {i : Nat} (hi : i < l.length) (q : List Int) (hq : q.length ≤ 1024) (hs : q.Pairwise (· ≤ ·)) : ∀ (at_ : Nat) (z : List Int), at_ ≤ q.length → z.length = q.length + 1 → z.take at_ = q.take at_ → z.drop (at_ + 1) = q.drop at_ →
    (∀ x ∈ q.drop at_, gi l i < x) → ∃ (a : Nat) (y : List Int), Ev (fun k => waybillref12_Shares.l1 k l i q at_ z) ((a : Int), y) ∧ a < y.length ∧ y.length = q.length + 1 ∧ y.set a (gi l i) = q.take a ++ gi l i :: q.drop a ∧ (∀ x ∈ q.take a, x ≤ gi l i) ∧ (∀ x ∈ q.drop a, gi l i < x)
  | 0, z, h1, h2, h3, h4, h5 => by
    refine ⟨0, z, ?_, by omega, h2, ?_, by simp, h5⟩
    · refine Ev.succ ?_
      simp only [waybillref12_Shares.l1]
      exact Ev.bind (x := false) (Ev.neg (by omega) Ev.ret) (Ev.neg (by simp) Ev.ret)
    · cases z with
      | nil => simp at h2
      | cons a z => simp at h4; simp [h4]
  | at_ + 1, z, h1, h2, h3, h4, h5 => by
    have hzq : (q ++ ([gi l i] : List Int)).length = q.length + 1 := by simp
    have hg : gi z at_ = gi q at_ := by
      have e1 := congrArg (fun w => w.getD at_ 0) h3
      simp only [getD_take _ _ _ _ (Nat.lt_succ_self at_)] at e1
      exact e1
    by_cases c : gi l i < gi q at_
    · obtain ⟨a, y, r1, r2, r3, r4, r5, r6⟩ := i_l1 l hi q hq hs at_ (z.set (at_ + 1) (gi z at_)) (by omega) (by simp [h2]) (by
        rw [List.take_set, List.set_eq_of_length_le (by simp; omega)]
        have := congrArg (List.take at_) h3
        rwa [List.take_take, List.take_take, Nat.min_eq_left (by omega)] at this) (by
        rw [List.drop_set, if_neg (by omega)]
        rw [drop_gi z (i := at_ + 1) (by omega), h4, Nat.sub_self, List.set_cons_zero, hg, ← drop_gi q (by omega)]) (fun x hx => by
        rw [drop_gi q (by omega)] at hx
        rcases List.mem_cons.1 hx with rfl | hx
        · exact c
        · exact h5 x hx)
      refine ⟨a, y, ?_, r2, r3, r4, r5, r6⟩
      refine Ev.succ ?_
      simp only [waybillref12_Shares.l1, W_pred (show at_ + 1 < 4611686018427387904 by omega) (Nat.succ_pos _), gi_rd, hzq]
      refine Ev.bind (x := true) (Ev.pos (by omega) (Ev.pos (by omega) (Ev.pos (by omega) (Ev.pos (by omega) (Ev.pos (by omega) ?_))))) (Ev.pos rfl (Ev.pos (by omega) (Ev.pos (by omega) (Ev.pos (by omega) (Ev.pos (by omega) ?_)))))
      · rw [show at_ + 1 - 1 = at_ by omega, hg]; exact Ev.of (congrArg some (decide_eq_true c))
      · simpa using r1
    · have hle : ∀ x ∈ q.take (at_ + 1), x ≤ gi l i := by
        intro x hx
        rw [List.take_add_one, List.getElem?_eq_getElem (by omega : at_ < q.length)] at hx
        have e : gi q at_ = q[at_] := getD_get _ _ _ (by omega)
        rcases List.mem_append.1 hx with hx | hx
        · have hp : x ≤ gi q at_ := by
            rw [← List.take_append_drop at_ q, drop_gi q (by omega)] at hs
            exact (List.pairwise_append.1 hs).2.2 x hx _ List.mem_cons_self
          omega
        · simp at hx; subst hx
          omega
      refine ⟨at_ + 1, z, ?_, by omega, h2, ?_, hle, h5⟩
      · refine Ev.succ ?_
        simp only [waybillref12_Shares.l1, W_pred (show at_ + 1 < 4611686018427387904 by omega) (Nat.succ_pos _), gi_rd, hzq]
        refine Ev.bind (x := false) (Ev.pos (by omega) (Ev.pos (by omega) (Ev.pos (by omega) (Ev.pos (by omega) (Ev.pos (by omega) ?_))))) (Ev.neg (by simp) Ev.ret)
        rw [show at_ + 1 - 1 = at_ by omega, hg]; exact Ev.of (congrArg some (decide_eq_false c))
      · rw [List.set_eq_take_append_cons_drop, if_pos (by omega), h3, h4]
theorem i_l0 (l : List Int) (hl : l.length ≤ 1024) : ∀ (d i : Nat) (q : List Int), i + d = l.length → q.length = i → q.Pairwise (· ≤ ·) → ∃ y, Ev (fun k => waybillref12_Shares.l0 k l i q) y ∧ y.Pairwise (· ≤ ·) ∧ y.Perm (q ++ l.drop i)
  | 0, i, q, h1, h2, h3 => by
    refine ⟨q, ?_, h3, by rw [List.drop_of_length_le (by omega)]; simp⟩
    refine Ev.succ ?_
    simp only [waybillref12_Shares.l0]
    exact Ev.neg (by omega) Ev.ret
  | d + 1, i, q, h1, h2, h3 => by
    obtain ⟨a, y, r1, r2, r3, r4, r5, r6⟩ := i_l1 l (i := i) (by omega) q (by omega) h3 q.length (q ++ [gi l i]) (Nat.le_refl _) (by simp) (by simp) (by simp) (by simp)
    have hp : (y.set a (gi l i)).Pairwise (· ≤ ·) := by
      rw [r4, List.pairwise_append]
      refine ⟨h3.sublist (List.take_sublist _ _), List.pairwise_cons.2 ⟨fun x hx => Int.le_of_lt (r6 x hx), h3.sublist (List.drop_sublist _ _)⟩, fun x hx z hz => ?_⟩
      rcases List.mem_cons.1 hz with rfl | hz
      · exact r5 x hx
      · have := r5 x hx; have := r6 z hz; omega
    obtain ⟨w, w1, w2, w3⟩ := i_l0 l hl d (i + 1) (y.set a (gi l i)) (by omega) (by rw [List.length_set, r3, h2]) hp
    refine ⟨w, ?_, w2, ?_⟩
    · refine Ev.succ ?_
      simp only [waybillref12_Shares.l0, gi_rd]
      refine Ev.pos (by omega) (Ev.bind (x := y.set a (gi l i)) (Ev.pos (by omega) (Ev.pos (by simp; omega) (Ev.bind r1 (Ev.pos (by omega) (Ev.pos (by simp; omega) Ev.ret))))) ?_)
      rw [W_succ (by omega)]; exact w1
    · refine w3.trans ?_
      rw [drop_gi l (by omega : i < l.length), r4]
      refine (List.Perm.append_right _ (List.perm_middle)).trans ?_
      rw [List.take_append_drop, List.cons_append]
      exact List.perm_middle.symm

/-! ### one more for one of them -/
def bump (out : List Int) (p : Nat) : List Int := out.set p (IntKind.i64.wrap (gi out p + 1))
theorem bump_len (out : List Int) (p : Nat) : (bump out p).length = out.length := by simp [bump]
def place (l : List Int) (y : Int) : Nat := l.countP fun x => decide (x < y)
theorem place_ok {l : List Int} (hs : l.Pairwise (· < ·)) {y : Int} (hy : y ∈ l) : place l y < l.length ∧ gi l (place l y) = y ∧ ∀ j, j < l.length → j ≠ place l y → gi l j ≠ y := by
  obtain ⟨A, C, rfl⟩ := List.append_of_mem hy
  obtain ⟨h1, h2, h3⟩ := List.pairwise_append.1 hs
  obtain ⟨h4, h5⟩ := List.pairwise_cons.1 h2
  have hp : place (A ++ y :: C) y = A.length := by
    unfold place
    rw [List.countP_append, List.countP_cons, if_neg (by simp)]
    have e1 : A.countP (fun x => decide (x < y)) = A.length := List.countP_eq_length.2 fun x hx => decide_eq_true (h3 x hx y List.mem_cons_self)
    have e2 : C.countP (fun x => decide (x < y)) = 0 := List.countP_eq_zero.2 fun x hx => by have := h4 x hx; simp; omega
    omega
  rw [hp]
  refine ⟨by simp, ?_, fun j hj hne q => ?_⟩
  · rw [gi, getD_get _ _ _ (by simp), List.getElem_append_right (Nat.le_refl _)]; simp
  · rw [gi, getD_get _ _ _ hj] at q
    rcases Nat.lt_or_gt_of_ne hne with c | c
    · have := List.pairwise_iff_getElem.1 hs j A.length hj (by simp) c
      rw [q, List.getElem_append_right (Nat.le_refl _)] at this
      simp at this
    · have := List.pairwise_iff_getElem.1 hs A.length j (by simp) hj c
      rw [q, List.getElem_append_right (Nat.le_refl _)] at this
      simp at this
theorem bump_loop (L : Nat → Int → List Int → Option (List Int)) {l : List Int} {y : Int} (hp : place l y < l.length) (he : gi l (place l y) = y) (hu : ∀ j, j < l.length → j ≠ place l y → gi l j ≠ y)
    (step : ∀ (i : Nat) (out : List Int), i < l.length → out.length = l.length → ∀ r, Ev (fun k => L k ((i + 1 : Nat) : Int) (if gi l i = y then bump out i else out)) r → Ev (fun k => L k i out) r) (fin : ∀ out, Ev (fun k => L k (l.length : Int) out) out) (out : List Int) (ho : out.length = l.length) :
    Ev (fun k => L k 0 out) (bump out (place l y)) := by
  have key : ∀ (d i : Nat) (o : List Int), i + d = l.length → o.length = l.length → Ev (fun k => L k i o) (if i ≤ place l y then bump o (place l y) else o) := by
    intro d
    induction d with
    | zero =>
      intro i o h1 h2
      have : i = l.length := by omega
      subst this
      rw [if_neg (by omega)]; exact fin o
    | succ d ih =>
      intro i o h1 h2
      refine step i o (by omega) h2 _ ?_
      by_cases c : i = place l y
      · rw [if_pos (by rw [c]; exact he), if_pos (by omega)]
        have := ih (i + 1) (bump o i) (by omega) (by rw [bump_len]; exact h2)
        rw [if_neg (by omega)] at this
        rw [← c]; exact this
      · rw [if_neg (hu i (by omega) c)]
        have := ih (i + 1) o (by omega) h2
        by_cases c2 : i ≤ place l y
        · rw [if_pos (by omega)] at this; rw [if_pos c2]; exact this
        · rw [if_neg (by omega)] at this; rw [if_neg c2]; exact this
  have := key l.length 0 out (Nat.zero_add _) ho
  rwa [if_pos (Nat.zero_le _)] at this

/-! ### shares -/
def whose (r : List Pt) (i : Nat) : Int := (gp r (fr r (hs 2 [(i : Int)]) % r.length)).ID
def tally (r : List Pt) (l : List Int) : Nat → Nat → List Int → List Int
  | 0, _, out => out
  | d + 1, i, out => tally r l d (i + 1) (bump out (place l (whose r i)))
theorem tally_len (r : List Pt) (l : List Int) : ∀ (d i : Nat) (out : List Int), (tally r l d i out).length = out.length := by
  intro d
  induction d with
  | zero => intro i out; rfl
  | succ d ih => intro i out; rw [tally, ih, bump_len]
theorem whose_mem {r : List Pt} (h0 : 0 < r.length) (i : Nat) : whose r i ∈ ids r := by
  unfold whose ids
  have := Nat.mod_lt (fr r (hs 2 [(i : Int)])) h0
  exact List.mem_map.2 ⟨_, getD_mem _ _ _ this, rfl⟩
theorem shares_l0 {r : List Pt} (hl : r.length ≤ 1024) (hs' : Srt r) (h0 : 0 < r.length) (l w : List Int) (hlw : l.length = w.length) (hll : l.length ≤ 1024) (hlt : l.Pairwise (· < ·)) (hm : ∀ i, whose r i ∈ l) {keys : Nat} (hk : keys ≤ 4096) : ∀ (d i : Nat) (out : List Int), i + d = keys → out.length = l.length →
    Ev (fun k => ring_Shares.l0 k r keys w l i out) (tally r l d i out)
  | 0, i, out, h1, h2 => by
    refine Ev.succ ?_
    simp only [ring_Shares.l0]
    exact Ev.neg (by omega) Ev.ret
  | d + 1, i, out, h1, h2 => by
    obtain ⟨p1, p2, p3⟩ := place_ok hlt (hm i)
    obtain ⟨b, hb⟩ := found_ok r (hs 2 [(i : Int)])
    refine Ev.succ ?_
    simp only [ring_Shares.l0, Int.toNat_natCast]
    refine Ev.pos (by omega) (Ev.bind (pints_ok 2 _ (by simp)) (Ev.bind (bsearch hl hs' _ _ (fun k a b => rfl) r.length 0 r.length (by omega) (by omega) (fr_le r _) (Nat.le_refl _)) (Ev.bind hb (Ev.bind (Ev.of (first_ok _ h0)) ?_))))
    refine Ev.bind (x := (((place l (whose r i) : Nat) : Int), l.contains (whose r i))) (Ev.of ?_) ?_
    · unfold slices_BinarySearch_int_int.f
      rw [if_pos ⟨by omega, hlt.imp fun h => Int.le_of_lt h⟩]; rfl
    · refine Ev.pos (by omega) (Ev.pos (by omega) ?_)
      rw [gi_rd, Int.toNat_natCast, W_succ (by omega)]
      exact shares_l0 hl hs' h0 l w hlw hll hlt hm hk d (i + 1) (bump out (place l (whose r i))) (by omega) (by rw [bump_len]; exact h2)
theorem rshares_l3 {r : List Pt} (hl : r.length ≤ 1024) (hs : Srt r) (h : Int) : Ev (fun k => waybillref12_Shares.l3 k r h 0) ((fr r h : Nat) : Int) := by
  have hfl := fr_le r h
  refine scan_all (n := fr r h) (p := fun _ => False) (fun i hi _ v hv => ?_) (fun _ _ q => q) ?_
  · refine Ev.succ ?_
    simp only [waybillref12_Shares.l3, gp_rd]
    refine Ev.bind (x := true) (Ev.pos (by omega) (Ev.pos (by omega) (Ev.of (congrArg some (decide_eq_true ((fr_iff hs h (by omega)).2 hi)))))) (Ev.pos rfl ?_)
    rw [W_succ (by omega)]; exact hv
  · refine Ev.succ ?_
    simp only [waybillref12_Shares.l3, gp_rd]
    refine Ev.bind (x := false) ?_ (Ev.neg (by simp) Ev.ret)
    by_cases c : fr r h < r.length
    · exact Ev.pos (by omega) (Ev.pos (by omega) (Ev.of (congrArg some (decide_eq_false fun q => absurd ((fr_iff hs h c).1 q) (by omega)))))
    · exact Ev.neg (by omega) Ev.ret
theorem rshares_l2 {r : List Pt} (hl : r.length ≤ 1024) (hs' : Srt r) (h0 : 0 < r.length) (l : List Int) (hll : l.length ≤ 1024) (hlt : l.Pairwise (· < ·)) (hm : ∀ i, whose r i ∈ l) {keys : Nat} (hk : keys ≤ 4096) : ∀ (d i : Nat) (out : List Int), i + d = keys → out.length = l.length →
    Ev (fun k => waybillref12_Shares.l2 k r keys l i out) (tally r l d i out)
  | 0, i, out, h1, h2 => by
    refine Ev.succ ?_
    simp only [waybillref12_Shares.l2]
    exact Ev.neg (by omega) Ev.ret
  | d + 1, i, out, h1, h2 => by
    obtain ⟨p1, p2, p3⟩ := place_ok hlt (hm i)
    have hmod := Nat.mod_lt (fr r (hs 2 [(i : Int)])) h0
    refine Ev.succ ?_
    simp only [waybillref12_Shares.l2]
    refine Ev.pos (by omega) (Ev.bind (x := bump out (place l (whose r i))) (Ev.bind (rints_ok 2 _ (by simp)) (Ev.bind (rshares_l3 hl hs' _) (Ev.bind ?_ Ev.ret))) ?_)
    · refine bump_loop (fun k j o => waybillref12_Shares.l4 k r l ((fr r (hs 2 [(i : Int)]) : Nat) : Int) j o) p1 p2 p3 (fun j o hj ho v hv => ?_) (fun o => ?_) out h2
      · refine Ev.succ ?_
        simp only [waybillref12_Shares.l4, Int.toNat_natCast, mod_ok, gp_rd, gi_rd]
        refine Ev.pos (by omega) (Ev.pos (by omega) (Ev.neg (by omega) (Ev.pos (by omega) (Ev.pos (by omega) (Ev.bind (x := if gi l j = whose r i then bump o j else o) ?_ ?_)))))
        · by_cases c : gi l j = whose r i
          · rw [show (if gi l j = whose r i then bump o j else o) = bump o j from if_pos c]; exact Ev.pos c (Ev.pos (by omega) Ev.ret)
          · rw [show (if gi l j = whose r i then bump o j else o) = o from if_neg c]; exact Ev.neg c Ev.ret
        · rw [W_succ (by omega)]; exact hv
      · refine Ev.succ ?_
        simp only [waybillref12_Shares.l4]
        exact Ev.neg (by omega) Ev.ret
    · rw [W_succ (by omega)]
      exact rshares_l2 hl hs' h0 l hll hlt hm hk d (i + 1) _ (by omega) (by rw [bump_len]; exact h2)
theorem sortI_lt (l : List Int) (hn : l.Nodup) : (srtI l).Pairwise (· < ·) := by
  have h1 := srtI_sorted l
  have h2 : (srtI l).Nodup := (srtI_perm l).nodup_iff.2 hn
  exact (List.pairwise_and_iff.2 ⟨h1, h2⟩).imp fun h => by omega
theorem shares_ok (r : List Pt) (keys : Int) : ∃ s e, Ev (fun k => ring_Shares.f k r keys) (s, e) ∧ Ev (fun k => waybillref12_Shares.f k r keys) (s, e) ∧ s.length ≤ 1024 ∧
    (∀ n : Nat, keys = n → n ≤ 4096 → GoodR r → 0 < r.length → e = 0 ∧ s = tally r (srtI (dd (ids (rot r 0)))) n 0 (List.replicate (dd (ids (rot r 0))).length 0)) := by
  obtain ⟨w, e, w1, w2, w3, w4, w5⟩ := walk_ok r 0
  by_cases c : e = 0
  · subst c
    obtain ⟨G, h0⟩ := w3.1 rfl
    have hs' := goodR_srt G
    have hl := G.len
    have hw : w = dd (ids (rot r 0)) := by rw [w4 rfl, adds_nil]
    by_cases c1 : keys < 0 ∨ 4096 < keys
    · have hb : Ev (fun _ => if keys < 0 then (some true) else (some (decide (4096 < keys)))) true := by
        rcases c1 with h | h
        · exact Ev.pos h Ev.ret
        · exact Ev.neg (by omega) (Ev.of (by simp [h]))
      refine ⟨[], 4, ?_, ?_, by simp, fun n h => by omega⟩
      · simp only [ring_Shares.f]; exact Ev.bind w1 (Ev.pos rfl (Ev.bind hb (Ev.pos rfl Ev.ret)))
      · simp only [waybillref12_Shares.f]; exact Ev.bind w2 (Ev.pos rfl (Ev.bind hb (Ev.pos rfl Ev.ret)))
    · obtain ⟨n, rfl⟩ := Int.eq_ofNat_of_zero_le (show 0 ≤ keys by omega)
      have hb : Ev (fun _ => if (n : Int) < 0 then (some true) else (some (decide (4096 < (n : Int))))) false := Ev.neg (by omega) (Ev.of (by simp; omega))
      have hn : w.Nodup := by rw [hw]; exact nodup_dd _
      have hwl : w.length ≤ 1024 := by
        have h1 : w.length ≤ (ids (rot r 0)).length := by
          rw [w4 rfl]
          have : ∀ (l acc : List Int), (adds acc l).length ≤ acc.length + l.length := by
            intro l
            induction l with
            | nil => intro acc; simp [adds]
            | cons x l ih => intro acc; have := ih (add acc x); have := add_len acc x; simp only [adds, List.foldl_cons] at *; rw [List.length_cons]; omega
          simpa using this (ids (rot r 0)) []
        have h2 : (ids (rot r 0)).length = r.length := by unfold ids; rw [List.length_map, rot_len hs']
        omega
      have hlt := sortI_lt w hn
      have hlen : (srtI w).length = w.length := (srtI_perm w).length_eq
      have hmem : ∀ i, whose r i ∈ srtI w := fun i => by
        rw [(srtI_perm w).mem_iff, hw, mem_dd]
        obtain ⟨p, hp, e⟩ := List.mem_map.1 (whose_mem h0 i)
        exact List.mem_map.2 ⟨p, rot_mem.2 hp, e⟩
      obtain ⟨y, y1, y2, y3⟩ := i_l0 w hwl w.length 0 [] (Nat.zero_add _) rfl List.Pairwise.nil
      rw [List.drop_zero, List.nil_append] at y3
      obtain rfl := srtI_uniq y3 y2
      refine ⟨tally r (srtI w) n 0 (List.replicate w.length 0), 0, ?_, ?_, by rw [tally_len, List.length_replicate]; omega, fun n' hn' _ _ _ => ⟨rfl, by rw [show n' = n by omega, ← hw]⟩⟩
      · simp only [ring_Shares.f, Int.toNat_natCast]
        refine Ev.bind w1 ?_
        dsimp only
        refine (Ev.pos rfl (Ev.bind hb (Ev.neg (by simp) (Ev.bind (x := srtI w) (Ev.of ?_) (Ev.pos (by omega) (Ev.pos (by omega) (Ev.bind ?_ Ev.ret)))))))
        · unfold slices_Sort_int_int.f
          rw [if_pos (by omega)]; rfl
        · exact shares_l0 hl hs' h0 (srtI w) w hlen (by omega) hlt hmem (by omega) n 0 _ (Nat.zero_add _) (by rw [List.length_replicate, hlen])
      · simp only [waybillref12_Shares.f, Int.toNat_natCast]
        refine Ev.bind w2 ?_
        dsimp only
        refine (Ev.pos rfl (Ev.bind hb (Ev.neg (by simp) (Ev.bind y1 (Ev.pos (by omega) (Ev.pos (by omega) (Ev.bind ?_ Ev.ret)))))))
        rw [hlen]
        exact rshares_l2 hl hs' h0 (srtI w) (by omega) hlt hmem (by omega) n 0 _ (Nat.zero_add _) (by rw [List.length_replicate, hlen])
  · refine ⟨[], e, ?_, ?_, by simp, fun n _ _ G h0 => absurd (w3.2 ⟨G, h0⟩) c⟩
    · simp only [ring_Shares.f]; exact Ev.bind w1 (Ev.neg c Ev.ret)
    · simp only [waybillref12_Shares.f]; exact Ev.bind w2 (Ev.neg c Ev.ret)

/-! ### rows that are one; the page's example -/
theorem sameP_ok (l : List Pt) (hl : l.length < 4611686018427387904) : Ev (fun k => waybillplain_SamePoints.f k l l) true := by
  simp only [waybillplain_SamePoints.f]
  refine Ev.pos trivial ?_
  refine scan_all (n := l.length) (p := fun _ => False) (fun i hi hp r hr => ?_) (fun j _ h => h) ?_
  · refine Ev.succ ?_
    simp only [waybillplain_SamePoints.l0]
    refine Ev.pos (by omega) (Ev.pos (by omega) (Ev.pos (by omega) (Ev.pos trivial ?_)))
    rw [W_succ (by omega)]; exact hr
  · refine Ev.succ ?_
    simp only [waybillplain_SamePoints.l0]
    exact Ev.neg (by omega) Ev.ret
theorem sameI_ok (l : List Int) (hl : l.length < 4611686018427387904) : Ev (fun k => waybillplain_SameInts.f k l l) true := by
  simp only [waybillplain_SameInts.f]
  refine Ev.pos trivial ?_
  refine scan_all (n := l.length) (p := fun _ => False) (fun i hi hp r hr => ?_) (fun j _ h => h) ?_
  · refine Ev.succ ?_
    simp only [waybillplain_SameInts.l0]
    refine Ev.pos (by omega) (Ev.pos (by omega) (Ev.pos (by omega) (Ev.pos trivial ?_)))
    rw [W_succ (by omega)]; exact hr
  · refine Ev.succ ?_
    simp only [waybillplain_SameInts.l0]
    exact Ev.neg (by omega) Ev.ret
theorem own_ok (l : List Pt) (hl : l.length < 8796093022208) : waybilllaw12_own.f l = some l := by
  unfold waybilllaw12_own.f; rw [if_pos (by simpa using hl)]; rfl
theorem goodB_pw {l : List B} (G : GoodB l) : l.Pairwise fun a b => a.ID < b.ID := by
  have key : ∀ (d i j : Nat), j = i + d → 0 < d → j < l.length → (gb l i).ID < (gb l j).ID := by
    intro d
    induction d with
    | zero => intro i j _ h; omega
    | succ d ih =>
      intro i j h1 h2 h3
      have b := G.up j h3 (by omega)
      rw [show j - 1 = i + d by omega] at b
      by_cases c : d = 0
      · subst c; simp at b; simpa using b
      · have a := ih i (i + d) rfl (by omega) (by omega)
        omega
  refine List.pairwise_iff_getElem.2 fun i j hi hj hij => ?_
  have := key (j - i) i j (by omega) (by omega) hj
  rwa [gb, gb, getD_get _ _ _ hi, getD_get _ _ _ hj] at this
theorem pw_goodB {l : List B} (hl : l.length ≤ 32) (hm : ∀ b ∈ l, mayB b) (hp : l.Pairwise fun a b => a.ID < b.ID) : GoodB l := by
  refine ⟨hl, fun i hi => hm _ (getD_mem _ _ _ hi), fun i hi h0 => ?_⟩
  have := List.pairwise_iff_getElem.1 hp (i - 1) i (by omega) hi (by omega)
  rw [gb, gb, getD_get _ _ _ hi, getD_get _ _ _ (by omega)]
  omega
theorem mem_pts {p : Nat} {l : List B} {q : Pt} (h : q ∈ pts p l) : ∃ b ∈ l, q.ID = b.ID := by
  obtain ⟨b, hb, hq⟩ := List.mem_flatMap.1 h
  obtain ⟨i, _, rfl⟩ := List.mem_map.1 hq
  exact ⟨b, hb, rfl⟩
theorem pts_has {p : Nat} (hp : 1 ≤ p) {l : List B} {b : B} (hb : b ∈ l) (hm : mayB b) : ∃ q ∈ pts p l, q.ID = b.ID := by
  have hc : 0 < cnt p b := by
    unfold cnt
    obtain ⟨_, _, h1, _⟩ := hm
    exact Nat.mul_pos (by omega) (by omega)
  refine ⟨⟨hs 1 [b.ID, ((0 : Nat) : Int)], b.ID⟩, List.mem_flatMap.2 ⟨b, hb, List.mem_map.2 ⟨0, ?_, rfl⟩⟩, rfl⟩
  rw [List.mem_range'_1]; omega
/-- a ring that was built -/
theorem built {p : Nat} {l : List B} (G : GoodB l) (hp : 1 ≤ p) (hn : (pts p l).length ≤ 1024) : GoodR (srt (pts p l)) ∧ (0 < l.length → 0 < (srt (pts p l)).length) ∧ ∀ y, y ∈ ids (srt (pts p l)) ↔ y ∈ l.map (·.ID) := by
  have hmay : ∀ b ∈ l, mayB b := fun b hb => by
    obtain ⟨i, hi, e⟩ := mem_getD api_Backend.zero hb
    have := G.may i hi
    rw [gb, e] at this
    exact this
  refine ⟨srt_good (srt_sorted _) (by rw [srt_len]; exact hn) fun q hq => ?_, fun h0 => ?_, fun y => ?_⟩
  · obtain ⟨b, hb, e⟩ := mem_pts ((srt_perm _).mem_iff.1 hq)
    have := (hmay b hb).1
    omega
  · cases l with
    | nil => simp at h0
    | cons b l =>
      obtain ⟨q, hq, _⟩ := pts_has hp (List.mem_cons_self) (hmay b List.mem_cons_self)
      rw [srt_len]
      exact List.length_pos_of_mem hq
  · constructor
    · intro hy
      obtain ⟨q, hq, rfl⟩ := List.mem_map.1 hy
      obtain ⟨b, hb, e⟩ := mem_pts ((srt_perm _).mem_iff.1 hq)
      exact List.mem_map.2 ⟨b, hb, e.symm⟩
    · intro hy
      obtain ⟨b, hb, rfl⟩ := List.mem_map.1 hy
      obtain ⟨q, hq, e⟩ := pts_has hp hb (hmay b hb)
      exact List.mem_map.2 ⟨q, (srt_perm _).mem_iff.2 hq, e⟩
theorem walk_perm {p : Nat} {l : List B} (G : GoodB l) (hp : 1 ≤ p) (hn : (pts p l).length ≤ 1024) (h : Int) : (dd (ids (rot (srt (pts p l)) h))).Perm (l.map (·.ID)) := by
  obtain ⟨b1, b2, b3⟩ := built G hp hn
  refine (List.perm_ext_iff_of_nodup (nodup_dd _) ?_).2 fun y => ?_
  · refine List.pairwise_map.2 ((goodB_pw G).imp fun h => ?_)
    omega
  · rw [mem_dd, ← b3]
    constructor
    · intro hy
      obtain ⟨q, hq, e⟩ := List.mem_map.1 hy
      exact List.mem_map.2 ⟨q, rot_mem.1 hq, e⟩
    · intro hy
      obtain ⟨q, hq, e⟩ := List.mem_map.1 hy
      exact List.mem_map.2 ⟨q, rot_mem.2 hq, e⟩
theorem alive_ok : Ev (fun k => waybilllaw12_alive.f k) true := by
  obtain ⟨q, e, b1, _, _, _, b5, b6⟩ := build_ok 3 [(⟨4, 2⟩ : api_Backend)]
  have G : GoodB [(⟨4, 2⟩ : api_Backend)] := pw_goodB (by decide) (fun b hb => by simp at hb; subst hb; decide) (by simp)
  have hn : (pts 3 [(⟨4, 2⟩ : api_Backend)]).length = 6 := by simp [pts, ptsB, cnt]
  obtain rfl : e = 0 := b5.2 ⟨G, 3, rfl, by omega, by omega, by omega⟩
  obtain rfl := b6 3 rfl rfl
  obtain ⟨g1, g2, g3⟩ := built G (p := 3) (by omega) (by omega)
  obtain ⟨x, e, l1, _, l3, l4, _⟩ := lookup_ok (srt (pts 3 [(⟨4, 2⟩ : api_Backend)])) 12345
  have h0 := g2 (by simp)
  obtain rfl : e = 0 := l3.2 ⟨g1, h0⟩
  have hx : x = 4 := by
    have : x ∈ ids (srt (pts 3 [(⟨4, 2⟩ : api_Backend)])) := by
      rw [l4 rfl]
      exact List.mem_map.2 ⟨_, getD_mem _ _ _ (Nat.mod_lt _ h0), rfl⟩
    rw [g3] at this
    simpa using this
  simp only [waybilllaw12_alive.f]
  refine Ev.bind b1 ?_
  dsimp only
  refine Ev.bind l1 ?_
  dsimp only
  refine Ev.bind (x := true) (Ev.bind (Ev.of (r := 0) rfl) (Ev.bind (Ev.of (r := 0) rfl) (Ev.pos (by decide) (Ev.pos ?_ (Ev.of (congrArg some (decide_eq_true hx))))))) Ev.ret
  rw [srt_len, hn]; rfl
end Go.Proofs.Ytmdpjijafejgpaa.M

/- The law RingTells, over the translation's plain functions: true of every input. -/
set_option linter.unusedVariables false
set_option linter.unusedSimpArgs false
namespace Go.Proofs.Ytmdpjijafejgpaa.M
open Go Go.Proofs.Ytmdpjijafejgpaa.Sl

theorem ringTells_ok (points : Int) (l : List B) (r : List Pt) (h keys : Int) (hr : r.length < 8796093022208) : ∃ k, waybilllaw12_RingTells.f k points l r h keys = some true := by
  refine Ev.some (f := fun k => waybilllaw12_RingTells.f k points l r h keys) ?_
  obtain ⟨q, e, b1, b2, _, b4, _, _⟩ := build_ok points l
  obtain ⟨x, xe, l1, l2, _⟩ := lookup_ok r h
  obtain ⟨w, we, w1, w2, w3, w4, w5⟩ := walk_ok r h
  obtain ⟨s, se, s1, s2, s3, _⟩ := shares_ok r keys
  obtain ⟨ce, c1, c2, _⟩ := checkB_ok l
  obtain ⟨oe, o1, o2, _⟩ := whole_ok r
  have hw : w.length < 4611686018427387904 := by
    by_cases c : we = 0
    · obtain ⟨G, h0⟩ := w3.1 c
      have h1 : ∀ l : List Int, (dd l).length ≤ l.length := by
        intro l
        induction l with
        | nil => simp [dd]
        | cons y l ih => have := List.length_filter_le (fun z => decide (z ≠ y)) (dd l); simp only [dd, List.length_cons]; omega
      have h2 : (ids (rot r h)).length = r.length := by unfold ids; rw [List.length_map, rot_len (goodR_srt G)]
      have := h1 (ids (rot r h))
      have := G.len
      rw [w4 c, adds_nil]; omega
    · rw [w5 c]; simp
  simp only [waybilllaw12_RingTells.f]
  refine Ev.bind (Ev.of (own_ok r hr)) (Ev.bind b1 (Ev.bind b2 (Ev.bind l1 (Ev.bind l2 (Ev.bind w1 (Ev.bind w2 (Ev.bind s1 (Ev.bind s2 ?_))))))))
  dsimp only
  refine Ev.bind (x := false) ?_ (Ev.neg (by simp) (Ev.bind (x := true) ?_ Ev.ret))
  · refine Ev.bind (sameP_ok q (by omega)) (Ev.pos rfl (Ev.bind (Ev.of (r := e) rfl) (Ev.pos rfl (Ev.pos rfl (Ev.bind (Ev.of (r := xe) rfl) (Ev.pos rfl ?_))))))
    refine Ev.bind (sameI_ok w hw) (Ev.pos rfl (Ev.bind (Ev.of (r := we) rfl) (Ev.pos rfl ?_)))
    exact Ev.bind (sameI_ok s (by omega)) (Ev.pos rfl (Ev.bind (Ev.of (r := se) rfl) (Ev.of (by simp))))
  · refine Ev.bind c1 (Ev.bind (Ev.of (r := ce) rfl) (Ev.bind c2 (Ev.pos rfl (Ev.bind o1 (Ev.bind (Ev.of (r := oe) rfl) (Ev.bind o2 (Ev.pos rfl ?_)))))))
    exact Ev.bind (sameP_ok r (by omega)) (Ev.pos rfl (Ev.bind alive_ok Ev.ret))
end Go.Proofs.Ytmdpjijafejgpaa.M

/- The row of the law RingTells: whatever the input, the call ends, answers true, and what came in reads as it did. It stands on the walk of the law's code (F5) and on the plain law. -/
namespace Go.Proofs.Ytmdpjijafejgpaa.ringTells
open Go Go.ChangeShapes Go.WideShapes Go.ChangeAt Go.RowKit Go.Proofs Go.Proofs.Ytmdpjijafejgpaa.Sl Go.Proofs.Ytmdpjijafejgpaa.M
set_option linter.unusedVariables false
set_option linter.unusedSimpArgs false
theorem own : ownKnob Try.prog.godebug = none := by kernel_rfl
theorem laidOut : laidOutB Try.prog = true := by kernel_rfl
theorem dec36 {H : Type} {enc : TypeId × Value → H} {W : World} (cs : List Value) (h : Mt enc Try.prog W [.int .i64, .int .i64] cs) : ∃ x : api_Backend, cs = e_api_Backend.enc x := by
  obtain ⟨c0, cs0, rfl, -, h⟩ := h.int
  obtain ⟨c1, cs1, rfl, -, h⟩ := h.int
  obtain rfl := h.nil
  exact ⟨⟨c0, c1⟩, rfl⟩
theorem dec39 {H : Type} {enc : TypeId × Value → H} {W : World} (cs : List Value) (h : Mt enc Try.prog W [.int .u64, .int .i64] cs) : ∃ x : api_Point, cs = e_api_Point.enc x := by
  obtain ⟨c0, cs0, rfl, -, h⟩ := h.int
  obtain ⟨c1, cs1, rfl, -, h⟩ := h.int
  obtain rfl := h.nil
  exact ⟨⟨c0, c1⟩, rfl⟩
set_option maxRecDepth 100000 in
theorem lifted (os : Os) (started : os.Started) (H : Type) (enc : TypeId × Value → H) :
    ReturnsInHanded {} Try.checked os 5 .any (Rows.ringTellsSpec.pre6 enc Try.prog Try.f5 Rows.ringTellsRow.domain false) (Rows.ringTellsSpec.post enc Try.prog Try.f5 false true false false) := by
  refine returnsInHanded_of_change_sized (C := Try.checked) own started (by kernel_rfl) Try.func5
    (ChangeSpec.witness6 (enc := enc) (C := Try.checked) false ⟨#[], #[.int .i64 0, .slice none 0 0, .slice none 0 0, .int .u64 0, .int .i64 0], []⟩ 8 (by kernel_rfl) (by kernel_rfl) (by kernel_rfl) (by kernel_rfl)) ?_
  intro W base args ds gs before hval0 hW hcnd hsz0 _
  have hsz : (DataW.weightsEach Try.prog (Try.f5.params.toList ++ Rows.ringTellsSpec.plain.varTypes Try.prog) (ds ++ gs)).all (· ≤ reachBytes) = true := hsz0
  have hval : ∀ (j : Nat) t v, Try.f5.params[j]? = some t → args[j]? = some v → Value.okWide Try.prog W .any base t v := hval0
  have hW' := hW
  obtain ⟨p, q, hA0, hV, rfl, hfz, hnd⟩ := hW
  have hA : DataW.TrodAll enc Try.prog W 0 (fun _ => true) true Try.f5.params.toList args.toList ds p := hA0
  rw [show Try.f5.params = #[3, 22, 25, 23, 3] by kernel_rfl] at hA hval hsz
  obtain ⟨v0, vs0, d0, ds0, p0, q0, hargs, rfl, rfl, h0, r0⟩ := trodAll_cons hA
  obtain ⟨v1, vs1, d1, ds1, p1, q1, rfl, rfl, rfl, h1, r1⟩ := trodAll_cons r0
  obtain ⟨v2, vs2, d2, ds2, p2, q2, rfl, rfl, rfl, h2, r2⟩ := trodAll_cons r1
  obtain ⟨v3, vs3, d3, ds3, p3, q3, rfl, rfl, rfl, h3, r3⟩ := trodAll_cons r2
  obtain ⟨v4, vs4, d4, ds4, p4, q4, rfl, rfl, rfl, h4, r4⟩ := trodAll_cons r3
  obtain ⟨rfl, rfl, rfl⟩ := trodAll_nil r4
  obtain rfl : args = #[v0, v1, v2, v3, v4] := by cases args; simp_all
  obtain ⟨rfl, rfl⟩ := trodVars_none hV
  obtain ⟨a0, rfl, rfl, rfl, w0⟩ := open_int (by kernel_rfl : Try.prog.underlying 3 = some (.int .i64)) (hval 0 3 v0 rfl rfl) h0
  have hw1 := own_weights hsz (j := 1) (t := 22) rfl rfl
  obtain ⟨a1, n1, c1, rfl⟩ := okWide_slice (by kernel_rfl : Try.prog.underlying 22 = some (.slice 36)) (hval 1 22 v1 rfl rfl)
  have k1 := h1
  have lt1 : ∀ x ∈ p1, x.block < W.heap.size := by obtain ⟨m, hm⟩ := k1; exact DataW.trod_lt m _ _ _ hm
  obtain ⟨m1, hm1⟩ := h1
  obtain ⟨A1, len1, cap1, l1, hv1, R1, M1, y1⟩ := row_of (e := e_api_Backend) (by kernel_rfl : Try.prog.underlying 22 = some (.slice 36)) (by kernel_rfl : leafKs Try.prog 12 36 = some [.int .i64, .int .i64]) (by kernel_rfl) dec36 hm1 hw1
  obtain ⟨rfl, rfl, rfl⟩ := Value.slice.inj hv1
  rw [show Try.prog.bytesOf 36 = 16 by kernel_rfl] at y1
  have hw2 := own_weights hsz (j := 2) (t := 25) rfl rfl
  obtain ⟨a2, n2, c2, rfl⟩ := okWide_slice (by kernel_rfl : Try.prog.underlying 25 = some (.slice 39)) (hval 2 25 v2 rfl rfl)
  have k2 := h2
  have lt2 : ∀ x ∈ p2, x.block < W.heap.size := by obtain ⟨m, hm⟩ := k2; exact DataW.trod_lt m _ _ _ hm
  obtain ⟨m2, hm2⟩ := h2
  obtain ⟨A2, len2, cap2, l2, hv2, R2, M2, y2⟩ := row_of (e := e_api_Point) (by kernel_rfl : Try.prog.underlying 25 = some (.slice 39)) (by kernel_rfl : leafKs Try.prog 12 39 = some [.int .u64, .int .i64]) (by kernel_rfl) dec39 hm2 hw2
  obtain ⟨rfl, rfl, rfl⟩ := Value.slice.inj hv2
  rw [show Try.prog.bytesOf 39 = 16 by kernel_rfl] at y2
  obtain ⟨a3, rfl, rfl, rfl, w3⟩ := open_int (by kernel_rfl : Try.prog.underlying 23 = some (.int .u64)) (hval 3 23 v3 rfl rfl) h3
  obtain ⟨a4, rfl, rfl, rfl, w4⟩ := open_int (by kernel_rfl : Try.prog.underlying 3 = some (.int .i64)) (hval 4 3 v4 rfl rfl) h4
  clear hA0 hval0 hsz0 hsz
  obtain ⟨k, hk⟩ : ∃ k, waybilllaw12_RingTells.f k a0 l1 l2 a3 a4 = some true := ringTells_ok a0 l1 l2 a3 a4 (by omega)
  refine (waybilllaw12_RingTells.calls k a0 a1 n1 c1 l1 a2 n2 c2 l2 a3 a4 W (hpOf W) R1 R2 (HS.start W) true hk).mono fun e W' ⟨he, hs⟩ => ?_
  have bel : Below W.heap.size W W' := HS.below (pre := []) hs
  subst he
  exact ⟨_, rfl, _, _, _, [], _, [], hW', trodAll_mk1 (shut_bool (by kernel_rfl : Try.prog.underlying 4 = some .bool) _), (trodAll_cons_mk (shut_int (by kernel_rfl : Try.prog.underlying 3 = some (.int .i64)) w0) (trodAll_cons_mk (Below.trod laidOut (by kernel_rfl) (of_decide_eq_true (by kernel_rfl)) k1 bel lt1) (trodAll_cons_mk (Below.trod laidOut (by kernel_rfl) (of_decide_eq_true (by kernel_rfl)) k2 bel lt2) (trodAll_cons_mk (shut_int (by kernel_rfl : Try.prog.underlying 23 = some (.int .u64)) w3) (trodAll_cons_mk (shut_int (by kernel_rfl : Try.prog.underlying 3 = some (.int .i64)) w4) trodAll_mk0))))), rfl, bel.frame _, fun h => by cases h⟩
theorem over : Rows.ringTellsRow.holds Try.pinned (OpenSpec.ofChange Rows.ringTellsSpec) :=
  OpenClaim.holds_of_wide 5 Try.f5 rfl rfl rfl rfl rfl rfl rfl ⟨rfl, rfl, rfl, rfl, rfl⟩ rfl rfl rfl rfl rfl (by kernel_rfl) Try.func5 (by kernel_rfl)
    (of_decide_eq_true (by kernel_rfl)) (by unfold Func.isWrapper; first | (rw [if_pos (by decide +kernel)]; kernel_rfl) | (rw [if_neg (by decide +kernel)]; exact ⟨rfl, rfl⟩))
    (fun os started H enc _ => lifted os started H enc)
theorem proved : Rows.RingTellsSaid := over
#print axioms proved
end Go.Proofs.Ytmdpjijafejgpaa.ringTells
namespace Go.Proofs.Ytmdpjijafejgpaa
/-- The row, under a short name, for the claim. -/
theorem ringTells_holds : Rows.RingTellsSaid := ringTells.proved
end Go.Proofs.Ytmdpjijafejgpaa

