/- Hashes, draws and a shuffle: what the functions of the translation answer. -/
import Derived.Test.YthlogangnppghaaSlP
import Derived.Test.YthlogangnppghaaF39
import Derived.Test.YthlogangnppghaaF40
set_option linter.unusedVariables false
set_option linter.unusedSimpArgs false
namespace Go.Proofs.Ythlogangnppghaa.M
open Go Go.Proofs.Ythlogangnppghaa.Sl

theorem mix_ok (x : Int) : ∃ m, hash_Mix.f x = some m := by simp [hash_Mix.f, hash_fold.f]
theorem share_ok (x : Int) {n : Int} (h1 : 1 ≤ n) (h2 : n ≤ 1048576) : ∃ h, hash_Share.f x n = some (h, 0) ∧ 0 ≤ h ∧ h < n := by
  have e1 : ¬ n < 1 := by omega
  have e2 : ¬ 1048576 < n := by omega
  obtain ⟨a, ha⟩ : ∃ a, a = sh_shl .u64 (sh_shr .u64 x 32) 32 := ⟨_, rfl⟩
  have a0 : 0 ≤ a := by rw [ha]; exact U_lo _
  have a1 : a < 18446744073709551616 := by rw [ha]; exact U_hi _
  have hu : IntKind.u64.wrap n = n := U_eq (by omega) (by omega)
  have q0 : 0 ≤ a * n / 18446744073709551616 := Int.ediv_nonneg (Int.mul_nonneg a0 (by omega)) (by omega)
  have q1 : a * n / 18446744073709551616 < n := by
    apply Int.ediv_lt_of_lt_mul (by omega)
    rw [Int.mul_comm n]
    exact Int.mul_lt_mul_of_pos_right a1 (by omega)
  refine ⟨a * n / 18446744073709551616, ?_, q0, q1⟩
  rw [hash_Share.f, ← ha, hu]
  simp only [e1, e2, if_false, if_true, decide_false, Option.bind_some, bits_Mul64.f]
  rw [if_neg (by simp), if_pos ⟨a0, a1, by omega, by omega⟩]
  simp only [Option.bind_some]
  rw [W_eq (by omega) (by omega)]
theorem below_ok (s : Int) {n : Int} (h1 : 1 ≤ n) (h2 : n ≤ 1048576) : ∃ k s', draw_stream_below.f s n = some (k, s') ∧ 0 ≤ k ∧ k < n := by
  obtain ⟨m, hm⟩ := mix_ok (IntKind.u64.wrap (s + 11400714819323198485))
  obtain ⟨h, hh, h3, h4⟩ := share_ok m h1 h2
  exact ⟨h, IntKind.u64.wrap (s + 11400714819323198485), by simp only [draw_stream_below.f, draw_Next.f, hm, Option.bind_some, hh], h3, h4⟩
theorem shuffle_l0 {n : Nat} (hn : n ≤ 1024) : ∀ (d k i : Nat) (acc : List Int), i + d = n → acc.length = i → d < k → draw_Shuffle.l0 k n i acc = some (acc ++ (List.range' i d).map Int.ofNat)
  | 0, k + 1, i, acc, h1, h2, _ => by rw [draw_Shuffle.l0, if_neg (by omega)]; simp
  | d + 1, k + 1, i, acc, h1, h2, h3 => by
    rw [draw_Shuffle.l0, if_pos (by omega), if_pos (by simp; omega), W_eq (by omega) (by omega)]
    have := shuffle_l0 hn d k (i + 1) (acc ++ [(i : Int)]) (by omega) (by simp [h2]) (by omega)
    rw [show ((i : Int) + 1) = ((i + 1 : Nat) : Int) by omega, this]
    simp [List.range'_succ]
theorem shuffle_l1 {z : List Int} (hz : z.length ≤ 1024) : ∀ (m : Nat) (o : List Int) (s : Int), m ≤ z.length → o.length = z.length → ∃ o' s', (∀ k, m < k → draw_Shuffle.l1 k z m o s = some (o', s')) ∧ o'.Perm o := by
  intro m
  induction m using Nat.strongRecOn with
  | _ m ih =>
    intro o s h1 h2
    by_cases hm : 1 < (m : Int)
    · obtain ⟨b, s', hb, b0, b1⟩ := below_ok s (n := (m : Int)) (by omega) (by omega)
      have hp := swap_perm (e := e_i64) o (i := b) (j := (m : Int) - 1) b0 (by omega) (by omega) (by omega)
      obtain ⟨o', s'', h4, h5⟩ := ih (m - 1) (by omega) ((o.set b.toNat (rd e_i64 o ((m : Int) - 1))).set (((m : Int) - 1)).toNat (rd e_i64 o b)) s' (by omega) (by simp [h2])
      refine ⟨o', s'', fun k hk => ?_, h5.trans hp⟩
      cases k with
      | zero => omega
      | succ k =>
        rw [draw_Shuffle.l1, if_pos hm, hb]
        simp only [Option.bind_some]
        rw [W_eq (by omega) (by omega), if_pos (by omega), if_pos (by omega), if_pos (by omega), if_pos b0, if_pos b1, if_pos (by omega), if_pos (by omega)]
        rw [show ((m : Int) - 1).toNat = m - 1 by omega] at h4 ⊢
        exact h4 k (by omega)
    · refine ⟨o, s, fun k hk => ?_, .refl _⟩
      cases k with
      | zero => omega
      | succ k => rw [draw_Shuffle.l1, if_neg hm]
/-- a shuffle is of the numbers below n -/
theorem shuffle_ok {n : Nat} (hn : n ≤ 1024) (s : Int) : ∃ s' o, (∀ k, n < k → draw_Shuffle.f k s n = some (s', o, 0)) ∧ o.Perm ((List.range n).map Int.ofNat) := by
  obtain ⟨o, s', h1, h2⟩ := shuffle_l1 (z := (List.range n).map Int.ofNat) (by simp; omega) n ((List.range n).map Int.ofNat) s (by simp) rfl
  refine ⟨s', o, fun k hk => ?_, h2⟩
  have h0 := shuffle_l0 hn n k 0 [] (by omega) rfl hk
  simp only [List.nil_append] at h0
  rw [← List.range_eq_range'] at h0
  rw [draw_Shuffle.f]
  have e1 : ¬ (n : Int) < 0 := by omega
  have e2 : ¬ (1024 : Int) < n := by omega
  simp only [e1, e2, if_false, decide_false, Option.bind_some]
  rw [if_neg (by simp)]
  have h0' : draw_Shuffle.l0 k n 0 [] = some ((List.range n).map Int.ofNat) := h0
  rw [h0']
  simp only [Option.bind_some, List.length_map, List.length_range, h1 k hk]
theorem ints_one (seed x : Int) : ∃ h, ∀ k, 1 < k → hash_Ints.f k seed [x] = some h := by
  obtain ⟨m, hm⟩ := mix_ok (IntKind.u64.wrap (seed + (IntKind.u64.wrap x)))
  refine ⟨m, fun k hk => ?_⟩
  match k, hk with
  | k + 2, _ =>
    have e1 : (0 : Int) < (([x] : List Int).length : Int) := by simp
    have e2 : ¬ (IntKind.i64.wrap (0 + 1)) < (([x] : List Int).length : Int) := by rw [W_eq (by omega) (by omega)]; simp
    have e3 : rd e_i64 [x] 0 = x := rfl
    simp only [hash_Ints.f, hash_Ints.l0, e1, e2, e3, if_true, if_false, Int.le_refl, hm, Option.bind_some]
/-- the order of a round -/
theorem order_ok {n : Nat} (hn : n ≤ 1024) (seed x : Int) : ∃ h s' o, (∀ k, n + 1 < k → hash_Ints.f k seed [x] = some h ∧ draw_Shuffle.f k h n = some (s', o, 0)) ∧ o.Perm ((List.range n).map Int.ofNat) := by
  obtain ⟨h, hh⟩ := ints_one seed x
  obtain ⟨s', o, ho, hp⟩ := shuffle_ok hn h
  exact ⟨h, s', o, fun k hk => ⟨hh k (by omega), ho k (by omega)⟩, hp⟩
end Go.Proofs.Ythlogangnppghaa.M
