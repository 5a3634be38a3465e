/- (*waybill/draw.stream).below: a plain function, and that the machine's call comes to it: printed by a program of the session's own. -/
import Derived.Test.YthlogangnppghaaK
import Derived.Test.YthlogangnppghaaF61
import Derived.Test.YthlogangnppghaaF62
set_option linter.unusedVariables false
set_option linter.unusedSimpArgs false
namespace Go.Proofs.Ythlogangnppghaa.M
open Go Go.Proofs.Ythlogangnppghaa.Sl
/-! ### (*waybill/draw.stream).below: function 49 -/
def draw_stream_below.f (x_s : Int) (x_n : Int) : Option (Int × Int) := (draw_Next.f x_s).bind fun (z3t, z4t) => ((hash_Share.f z4t x_n).bind fun (z6t, z7t) => (some (z6t, z3t)))
set_option maxRecDepth 100000 in
set_option maxHeartbeats 4000000 in
theorem draw_stream_below.calls (b0 : Nat) (x_s : Int) (x_n : Int) (W0 : World) (X : Heap)  (Hq : HS W0 [bx b0 78 [.int .u64 x_s], isH X] W0) (r : Int × Int) (H : draw_stream_below.f x_s x_n = some r) :
    Calls Try.prog 49 #[.pointer (some ⟨b0, 0, none⟩), .int .i64 x_n] W0 (fun e w => e = .returned (.int .i64 r.1) ∧ HS W0 [bx b0 78 [.int .u64 r.2], isH X] w) := by
  rw [draw_stream_below.f] at H
  refine calls_in Try.func49 rfl rfl ?_
  intro a0 S0
  refine w_seq ?_
  refine w_region ?_
  refine r_pures [_] S0 rfl ?_
  clear S0; intro a0 S0
  refine wl_nil ?_
  refine nr_then ?_
  refine w_seq ?_
  refine w_region ?_
  refine r_pures [_, _] S0 rfl ?_
  clear S0; intro a0 S0
  refine r_ldS [] S0 Hq rfl ti78 _ rfl rfl ?_
  clear S0; intro a0 S0
  obtain ⟨Xz2, HXz2, HPz2, HBz2⟩ := call_frame [] Hq
  dsimp only [List.cons_append, List.nil_append] at HXz2 HBz2
  obtain ⟨⟨z3t, z4t⟩, Hc, H⟩ := Option.bind_eq_some_iff.mp H
  dsimp only at H
  refine r_call S0 rfl rfl goes61 rfl ?_
  refine (draw_Next.calls x_s _ _  HXz2 (z3t, z4t) Hc).mono ?_
  rintro e w ⟨rfl, Hq'⟩
  have Hq : HS W0 [bx b0 78 [.int .u64 x_s], isH X] w := HBz2 [] _ Hq'
  clear HXz2 HPz2 HBz2 Hq'
  refine ⟨.tuple #[.int .u64 z3t, .int .u64 z4t], rfl, ?_⟩; clear S0; intro a0 S0
  refine r_pures [_, _, _, _, _] S0 rfl ?_
  clear S0; intro a0 S0
  refine wl_nil ?_
  refine nr_then ?_
  refine w_seq ?_
  refine w_region ?_
  refine r_pures [_, _, _] S0 rfl ?_
  clear S0; intro a0 S0
  refine r_st [] S0 Hq rfl rfl ti78 [.int .u64 z3t] rfl rfl rfl rfl [.int .u64 z3t] rfl ?_
  clear Hq; intro w Hq; dsimp only [List.cons_append, List.nil_append] at Hq
  refine wl_nil ?_
  refine nr_then ?_
  refine w_seq ?_
  refine w_region ?_
  refine r_pures [_, _] S0 rfl ?_
  clear S0; intro a0 S0
  obtain ⟨Xz5, HXz5, HPz5, HBz5⟩ := call_frame [] Hq
  dsimp only [List.cons_append, List.nil_append] at HXz5 HBz5
  obtain ⟨⟨z6t, z7t⟩, Hc, H⟩ := Option.bind_eq_some_iff.mp H
  dsimp only at H
  refine r_call S0 rfl rfl goes62 rfl ?_
  refine (hash_Share.calls z4t x_n _ _  HXz5 (z6t, z7t) Hc).mono ?_
  rintro e w ⟨rfl, Hq'⟩
  have Hq : HS W0 [bx b0 78 [.int .u64 z3t], isH X] w := HBz5 [] _ Hq'
  clear HXz5 HPz5 HBz5 Hq'
  refine ⟨.tuple #[.int .i64 z6t, .int .i64 z7t], rfl, ?_⟩; clear S0; intro a0 S0
  refine r_pures [_, _, _, _, _] S0 rfl ?_
  clear S0; intro a0 S0
  refine wl_nil ?_
  refine nr_then ?_
  refine w_seq ?_
  refine w_region ?_
  refine r_pures [_, _] S0 rfl ?_
  clear S0; intro a0 S0
  refine wl_nil ?_
  refine nr_then ?_
  refine w_ret ?_
  obtain rfl := Option.some.inj H
  refine ret1 S0 rfl rfl ?_
  replace Hq := HS.pull [_] Hq
  dsimp only [List.cons_append, List.nil_append] at Hq
  replace Hq := HS.pull [_] Hq
  dsimp only [List.cons_append, List.nil_append] at Hq
  exact ⟨rfl, Hq⟩

end Go.Proofs.Ythlogangnppghaa.M
