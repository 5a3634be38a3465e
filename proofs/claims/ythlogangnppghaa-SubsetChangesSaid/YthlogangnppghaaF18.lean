/- waybill/waybillplain.SameInts: a plain function, and that the machine's call comes to it: printed by a program of the session's own. -/
import Derived.Test.YthlogangnppghaaK
set_option linter.unusedVariables false
set_option linter.unusedSimpArgs false
namespace Go.Proofs.Ythlogangnppghaa.M
open Go Go.Proofs.Ythlogangnppghaa.Sl
/-! ### waybill/waybillplain.SameInts: function 18 -/
def waybillplain_SameInts.l0 : Nat → (List Int) → (List Int) → Int → Option (Bool)
  | 0, _, _, _ => none
  | k + 1, x_a, x_b, z2x => if z2x < (x_a.length : Int) then (if 0 ≤ z2x then (if z2x < (x_b.length : Int) then (if (rd e_i64 x_a z2x) = (rd e_i64 x_b z2x) then (waybillplain_SameInts.l0 k x_a x_b (IntKind.i64.wrap (z2x + 1))) else (some false)) else (none)) else (none)) else (some true)
def waybillplain_SameInts.f (k : Nat) (x_a : List Int) (x_b : List Int) : Option (Bool) := if (x_a.length : Int) = (x_b.length : Int) then ((waybillplain_SameInts.l0 k x_a x_b 0)) else (some false)
set_option maxRecDepth 100000 in
set_option maxHeartbeats 4000000 in
theorem waybillplain_SameInts.calls (k : Nat) (A0 : Option Addr) (n0 c0 : Nat) (x_a : List Int) (A1 : Option Addr) (n1 c1 : Nat) (x_b : List Int) (W0 : World) (X : Heap) (HR0 : Rd e_i64 X A0 n0 c0 x_a) (HR1 : Rd e_i64 X A1 n1 c1 x_b) (Hq : HS W0 [isH X] W0) (r : Bool) (H : waybillplain_SameInts.f k x_a x_b = some r) :
    Calls Try.prog 18 #[.slice A0 n0 c0, .slice A1 n1 c1] W0 (fun e w => e = .returned (.bool r) ∧ HS W0 [isH X] w) := by
  obtain rfl := HR0.1
  obtain rfl := HR1.1
  rw [waybillplain_SameInts.f] at H
  refine calls_in Try.func18 rfl rfl ?_
  intro a0 S0
  refine w_seq ?_
  refine w_region ?_
  refine r_pures [_] S0 rfl ?_
  clear S0; intro a0 S0
  refine wl_nil ?_
  refine nr_then ?_
  refine w_seq ?_
  refine w_seq ?_
  refine w_region ?_
  refine r_pures [_] S0 rfl ?_
  clear S0; intro a0 S0
  refine r_len S0 rfl sl22 rfl ?_
  clear S0; intro a0 S0
  refine r_pures [_] S0 rfl ?_
  clear S0; intro a0 S0
  refine r_len S0 rfl sl22 rfl ?_
  clear S0; intro a0 S0
  refine r_pures [_] S0 rfl ?_
  clear S0; intro a0 S0
  refine wl_nil ?_
  refine nr_then ?_
  by_cases z1h : (x_a.length : Int) = (x_b.length : Int)
  · replace H := (if_pos z1h).symm.trans H
    refine w_false S0 rfl (congrArg (!·) (decide_eq_true z1h)) ?_
    refine w_skip ?_
    refine nr_then ?_
    refine w_seq ?_
    refine w_seq ?_
    refine w_region ?_
    refine r_pures [_] S0 rfl ?_
    clear S0; intro a0 S0
    refine wl_nil ?_
    refine nr_then ?_
    refine w_block ?_
    refine w_loop (fun kq a w => ∃ z2x, waybillplain_SameInts.l0 kq x_a x_b z2x = some r ∧ Sl 26 [] [(0, .slice A0 x_a.length c0), (1, .slice A1 x_b.length c1), (5, .int .i64 z2x)] a ∧ HS W0 [isH X] w) _ ⟨0, H, S0.sub ⟨rfl, rfl, rfl, trivial⟩, Hq⟩ ?_
    clear H Hq S0
    rintro k0 a w ⟨z2x, H, S0, Hq⟩
    cases k0 with
    | zero => simp [waybillplain_SameInts.l0] at H
    | succ k0 =>
      refine ⟨k0, rfl, ?_⟩
      rw [waybillplain_SameInts.l0] at H
      refine w_seq ?_
      refine w_seq ?_
      refine w_region ?_
      refine r_pures [_, _] S0 rfl ?_
      clear S0; intro a0 S0
      refine r_len S0 rfl sl22 rfl ?_
      clear S0; intro a0 S0
      refine r_pures [_] S0 rfl ?_
      clear S0; intro a0 S0
      refine wl_nil ?_
      refine nr_then ?_
      by_cases z3h : z2x < (x_a.length : Int)
      · replace H := (if_pos z3h).symm.trans H
        refine w_true S0 rfl (decide_eq_true z3h) ?_
        refine w_skip ?_
        refine nr_then ?_
        refine w_seq ?_
        refine w_block ?_
        refine w_seq ?_
        refine w_draw TryM.mixed [.pu 0, .pu 1, .pu 2, .pu 4, .pu 5, .pu 6, .rd 3, .rd 7, .pu 8] (by kernel_rfl) rfl ?_
        replace Hq := Hq.drew
        refine st_pures [0, 1] S0 rfl ?_
        intro az4q Sz4q
        by_cases z5h : 0 ≤ z2x
        · replace H := (if_pos z5h).symm.trans H
          obtain ⟨z6b, z7o, rfl⟩ := (isH_rd [] Hq HR0).at (by omega)
          refine st_pu Sz4q rfl (g_none rfl) rfl rfl (fun _ => y_index Sz4q rfl rfl sl22 ti3 z5h z3h) ?_
          intro az8q Sz8q
          refine st_pures [4, 5] Sz8q rfl ?_
          intro az9q Sz9q
          by_cases z10h : z2x < (x_b.length : Int)
          · replace H := (if_pos z10h).symm.trans H
            obtain ⟨z11b, z12o, rfl⟩ := (isH_rd [] Hq HR1).at (by omega)
            refine st_pu Sz9q rfl (g_none rfl) rfl rfl (fun _ => y_index Sz9q rfl rfl sl22 ti3 z5h z10h) ?_
            intro az13q Sz13q
            refine st_rd Sz13q rfl (g_none rfl) rfl rfl (y_elS Sz13q (isH_rd [] Hq HR0) z5h z3h rfl ti3 _ rfl) ?_
            intro az14q Sz14q
            refine st_rd Sz14q rfl (g_none rfl) rfl rfl (y_elS Sz14q (isH_rd [] Hq HR1) z5h z10h rfl ti3 _ rfl) ?_
            intro az15q Sz15q
            refine st_pures [8] Sz15q rfl ?_
            intro az16q Sz16q
            refine st_nil ?_
            replace S0 := Sz16q
            refine nr_then ?_
            by_cases z17h : (rd e_i64 x_a z2x) = (rd e_i64 x_b z2x)
            · replace H := (if_pos z17h).symm.trans H
              refine w_false S0 rfl (congrArg (!·) (decide_eq_true z17h)) ?_
              refine w_skip ?_
              refine nr_in ?_
              refine nr_then ?_
              refine w_region ?_
              refine r_pures [_, _, _] S0 rfl ?_
              clear S0; intro a0 S0
              refine wl_nil ?_
              refine nr_then ?_
              exact ⟨(IntKind.i64.wrap (z2x + 1)), H, S0.sub ⟨rfl, rfl, rfl, trivial⟩, Hq⟩
            · replace H := (if_neg z17h).symm.trans H
              refine w_true S0 rfl (congrArg (!·) (decide_eq_false z17h)) ?_
              refine w_seq ?_
              refine w_region ?_
              refine r_pures [_] S0 rfl ?_
              clear S0; intro a0 S0
              refine wl_nil ?_
              refine nr_then ?_
              refine w_ret ?_
              refine ret_in ?_
              refine ret_then ?_
              refine ret_then ?_
              refine ret_in ?_
              refine ret_then ?_
              obtain rfl := Option.some.inj H
              refine ret1 S0 rfl rfl ?_
              exact ⟨rfl, Hq⟩
          · replace H := (if_neg z10h).symm.trans H
            exact nomatch H
        · replace H := (if_neg z5h).symm.trans H
          exact nomatch H
      · replace H := (if_neg z3h).symm.trans H
        refine w_false S0 rfl (decide_eq_false z3h) ?_
        refine w_exit ?_
        refine ex_then ?_
        refine ex_then ?_
        refine ex_in ?_
        refine nr_then ?_
        refine w_seq ?_
        refine w_region ?_
        refine r_pures [_] S0 rfl ?_
        clear S0; intro a0 S0
        refine wl_nil ?_
        refine nr_then ?_
        refine w_ret ?_
        obtain rfl := Option.some.inj H
        refine ret1 S0 rfl rfl ?_
        exact ⟨rfl, Hq⟩
  · replace H := (if_neg z1h).symm.trans H
    refine w_true S0 rfl (congrArg (!·) (decide_eq_false z1h)) ?_
    refine w_seq ?_
    refine w_region ?_
    refine r_pures [_] S0 rfl ?_
    clear S0; intro a0 S0
    refine wl_nil ?_
    refine nr_then ?_
    refine w_ret ?_
    refine ret_then ?_
    obtain rfl := Option.some.inj H
    refine ret1 S0 rfl rfl ?_
    exact ⟨rfl, Hq⟩

end Go.Proofs.Ythlogangnppghaa.M
