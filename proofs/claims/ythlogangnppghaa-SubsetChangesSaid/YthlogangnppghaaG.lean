/- The library's functions that this seat's code calls, in the words of chunks. -/
import Derived.Test.YthlogangnppghaaK
import Derived.Test.YthlogangnppghaaSlI
import Derived.Ground.Names2Prog
import Derived.Shelf.Bits.Mul64
import Derived.Shelf.Slices.CompactI
import Derived.Shelf.Slices.Empties
import Derived.Shelf.Slices.In.SortNone
import Derived.Shelf.Slices.SearchI
import Derived.Shelf.Sort.Plain
import Derived.Test.YthlogangnppghaaL
set_option linter.unusedVariables false
set_option linter.unusedSimpArgs false
set_option maxRecDepth 100000
namespace Go.Proofs.Ythlogangnppghaa.M
open Go Go.Shelf Go.Proofs Go.Proofs.Ythlogangnppghaa.Sl
def slices_Clone_int_int.f (x : List Int) : Option (List Int) := if x.length < 17592186044416 then some x else none
theorem slices_Clone_int_int.calls (A : Option Addr) (n c : Nat) (x : List Int) (W0 : World) (X : Heap) (HR : Rd e_i64 X A n c x) (Hq : HS W0 [isH X] W0) (r : List Int) (H : slices_Clone_int_int.f x = some r) :
    Calls Try.prog 32 #[.slice A n c] W0 (fun e w => ∃ Ar nr cr, e = .returned (.slice Ar nr cr) ∧ HS W0 [own e_i64 3 Ar nr cr r, isH X] w) := by
  rw [slices_Clone_int_int.f] at H
  split at H
  · rename_i h; obtain rfl := Option.some.inj H
    obtain rfl := HR.1
    refine calls_in Try.func32 rfl rfl ?_
    intro a0 S0
    refine w_seq ?_
    refine w_region ?_
    refine r_pures [_] S0 rfl ?_
    clear S0; intro a0 S0
    refine wl_nil ?_
    refine nr_then ?_
    refine w_seq ?_
    refine w_seq ?_
    refine w_region ?_
    refine r_pures [_] S0 rfl ?_
    clear S0; intro a0 S0
    refine r_snil S0 rfl rfl sl22 rfl ?_
    clear S0; intro a0 S0
    refine wl_nil ?_
    refine nr_then ?_
    cases A with
    | none =>
      have hx : x = [] := by
        rcases Nat.eq_zero_or_pos x.length with h0 | h0
        · exact List.eq_nil_of_length_eq_zero h0
        · obtain ⟨b, o, hA, _⟩ := HR.2.2.2 h0; cases hA
      subst hx
      refine w_true S0 rfl rfl ?_
      refine w_seq ?_
      refine w_region ?_
      refine r_pures [_] S0 rfl ?_
      clear S0; intro a0 S0
      refine wl_nil ?_
      refine nr_then ?_
      refine w_ret ?_
      refine ret_then ?_
      refine ret1 S0 rfl rfl ?_
      exact ⟨_, _, _, rfl, HS.own_nil _ _ Hq⟩
    | some A =>
      refine w_false S0 rfl rfl ?_
      refine w_skip ?_
      refine nr_then ?_
      refine w_seq ?_
      refine w_region ?_
      refine r_lit (e := e_i64) (l := ([] : List Int)) (m := 0) (vs := []) S0 Hq sl22 ti3 rfl rfl rfl rfl rfl rfl ?_
      clear S0 Hq; intro b1 a0 w S0 Hq
      refine r_pures [_] S0 rfl ?_
      clear S0; intro a0 S0
      refine r_app [] S0 Hq (isH_rd [_] Hq HR) rfl rfl sl22 ti3 rfl (by simpa using h) rfl rfl ?_
      clear S0 Hq; intro A' n' a0 w S0 Hq
      refine r_pures [_] S0 rfl ?_
      clear S0; intro a0 S0
      refine wl_nil ?_
      refine nr_then ?_
      refine w_ret ?_
      refine ret1 S0 rfl rfl ?_
      exact ⟨_, _, _, rfl, Hq⟩
  · cases H

def bits_Mul64.f (x y : Int) : Option (Int × Int) := if 0 ≤ x ∧ x < 18446744073709551616 ∧ 0 ≤ y ∧ y < 18446744073709551616 then some (x * y / 18446744073709551616, x * y % 18446744073709551616) else none
theorem bits_Mul64.calls (x y : Int) (W0 : World) (X : Heap) (Hq : HS W0 [isH X] W0) (r : Int × Int) (H : bits_Mul64.f x y = some r) :
    Calls Try.prog 69 #[.int .u64 x, .int .u64 y] W0 (fun e w => e = .returned (.tuple #[.int .u64 r.1, .int .u64 r.2]) ∧ HS W0 [isH X] w) := by
  rw [bits_Mul64.f] at H
  split at H
  · rename_i h; obtain rfl := Option.some.inj H
    obtain ⟨h1, h2, h3, h4⟩ := h
    obtain ⟨a, rfl⟩ := Int.eq_ofNat_of_zero_le h1
    obtain ⟨b, rfl⟩ := Int.eq_ofNat_of_zero_le h3
    refine (Any.bits_Mul64 YthlogangnppghaaLNm264 a b (by omega) (by omega) W0).mono ?_
    rintro e w ⟨rfl, rfl⟩
    exact ⟨rfl, Hq⟩
  · cases H

def slices_Sort_int_int.f (x : List Int) : Option (List Int) := if x.length < 4611686018427387904 then some (x.mergeSort fun a b => decide (a ≤ b)) else none
theorem slices_Sort_int_int.calls (A : Option Addr) (n c : Nat) (x : List Int) (W0 : World) (X : Heap) (Hq : HS W0 [own e_i64 3 A n c x, isH X] W0) (r : List Int) (H : slices_Sort_int_int.f x = some r) :
    Calls Try.prog 35 #[.slice A n c] W0 (fun e w => e = .returned (.tuple #[]) ∧ HS W0 [own e_i64 3 A n c r, isH X] w) := by
  rw [slices_Sort_int_int.f] at H
  split at H
  · rename_i h; obtain rfl := Option.some.inj H
    exact sort_ints YthlogangnppghaaLNm189 rfl (fun _ => rfl) [] Hq h
  · cases H

def slices_BinarySearch_int_int.f (x : List Int) (t : Int) : Option (Int × Bool) := if x.length < 4611686018427387904 ∧ x.Pairwise (· ≤ ·) then some ((x.countP (· < t) : Nat), x.contains t) else none
theorem slices_BinarySearch_int_int.calls (A : Option Addr) (n c : Nat) (x : List Int) (t : Int) (W0 : World) (X : Heap) (HR : Rd e_i64 X A n c x) (Hq : HS W0 [isH X] W0) (r : Int × Bool) (H : slices_BinarySearch_int_int.f x t = some r) :
    Calls Try.prog 20 #[.slice A n c, .int .i64 t] W0 (fun e w => e = .returned (.tuple #[.int .i64 r.1, .bool r.2]) ∧ HS W0 [isH X] w) := by
  rw [slices_BinarySearch_int_int.f] at H
  split at H
  · rename_i h; obtain rfl := Option.some.inj H
    have R := isH_rd [] Hq HR
    rcases Nat.eq_zero_or_pos n with h0 | h0
    · subst h0
      have : x = [] := List.eq_nil_of_length_eq_zero HR.1
      subst this
      refine (Any.slices_BinarySearch_int_empty YthlogangnppghaaLNm225 A c t W0).mono ?_
      rintro e w ⟨rfl, rfl⟩
      exact ⟨rfl, Hq⟩
    · obtain ⟨b, o, rfl, f⟩ := R.2.2.2 h0
      refine (Any.slices_BinarySearch_int YthlogangnppghaaLNm225 b o n c x t W0 (by rw [HR.1]; exact Nat.le_refl _) (by rw [← HR.1]; exact h.1) (fun j hj => ?_) (by rw [← HR.1, List.take_length]; exact h.2)).mono ?_
      · have := f j 0 (.int .i64 (x.getD j 0)) (by rw [← HR.1]; exact hj) rfl
        rw [cell_hcell]
        simpa [e_i64] using this
      · rintro e w ⟨rfl, q, rfl⟩
        rw [← HR.1, List.take_length]
        exact ⟨rfl, HS.drewN Hq q⟩
  · cases H

def slices_Compact_int_int.f (x : List Int) : Option (List Int) := if x.length < 4611686018427387904 then some (Lib.compact x) else none
theorem slices_Compact_int_int.calls (A : Option Addr) (n c : Nat) (x : List Int) (W0 : World) (X : Heap) (Hq : HS W0 [own e_i64 3 A n c x, isH X] W0) (r : List Int) (H : slices_Compact_int_int.f x = some r) :
    Calls Try.prog 36 #[.slice A n c] W0 (fun e w => ∃ Ar nr cr, e = .returned (.slice Ar nr cr) ∧ HS W0 [own e_i64 3 Ar nr cr r, isH X] w) := by
  rw [slices_Compact_int_int.f] at H
  split at H
  · rename_i h; obtain rfl := Option.some.inj H
    exact compact_ints YthlogangnppghaaLNm220 rfl (fun _ => rfl) [] Hq h
  · cases H
end Go.Proofs.Ythlogangnppghaa.M
