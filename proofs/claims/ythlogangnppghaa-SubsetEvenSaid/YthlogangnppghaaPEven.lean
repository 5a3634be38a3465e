/- The law SubsetEven, as the translation's plain function: it answers true. -/
import Derived.Test.YthlogangnppghaaPC
set_option linter.unusedVariables false
set_option linter.unusedSimpArgs false
namespace Go.Proofs.Ythlogangnppghaa.M
open Go Go.Proofs.Ythlogangnppghaa.Sl

theorem alive_ok {k : Nat} (hk : 40 < k) : waybilllaw13_alive.f k = some true := by
  obtain ⟨k, rfl⟩ : ∃ j, k = j + 5 := ⟨k - 5, by omega⟩
  have w (x : Int) (h1 : -100 ≤ x) (h2 : x ≤ 100) : IntKind.i64.wrap x = x := W_eq (by omega) (by omega)
  have hc : subset_dealer_check.f (k + 5) ⟨[1, 2, 3], 3, 0⟩ = some 0 := by
    simp [subset_dealer_check.f, subset_dealer_check.l0, w, rd]
  have hr : subset_Round.f 3 0 3 = some (0, 0, 0) := by simp [subset_Round.f]
  have hs : waybillplain_SameInts.f (k + 5) [1, 2, 3] [1, 2, 3] = some true := by
    simp [waybillplain_SameInts.f, waybillplain_SameInts.l0, w, rd]
  simp [waybilllaw13_alive.f, subset_Of.f, subset_dealer_of.f, hc, hr, subset_dealer_hand.f, slices_Clone_int_int.f, waybilllaw13_num.f, hs]
theorem even_l0 (ids : List Int) (rounds size R : Int) (hR0 : 0 ≤ R) (hR1 : R < 6) (hR : (IntKind.i64.wrap ((rounds.tmod 6) + 6)).tmod 6 = R) (out : List Int) (hl : out.length ≤ 1024) (ho : ∀ (j : Nat) (h : j < out.length), 0 ≤ out[j] ∧ out[j] ≤ R)
    (hs : out.sum = IntKind.i64.wrap ((IntKind.i64.wrap (R * (IntKind.i64.wrap ((ids.length : Int).tdiv size)))) * size)) : ∀ (m i k : Nat), i + m = out.length → m < k → waybilllaw13_SubsetEven.l0 k ids rounds size out (out.take i).sum i = some true
  | 0, i, k + 1, h1, h2 => by
    rw [waybilllaw13_SubsetEven.l0, if_neg (by omega), List.take_of_length_le (by omega), hR]
    simp [hs]
  | m + 1, i, k + 1, h1, h2 => by
    have hlt : i < out.length := by omega
    have hr : rd e_i64 out (i : Int) = out[i] := rd_nat _ _ i hlt
    obtain ⟨b0, b1⟩ := ho i hlt
    have hsum : (out.take (i + 1)).sum = (out.take i).sum + out[i] := by rw [List.take_succ_eq_append_getElem hlt, List.sum_append]; simp only [List.sum_cons, List.sum_nil, Int.add_zero]
    have hpre : 0 ≤ (out.take i).sum ∧ (out.take i).sum ≤ 6 * i := by
      have : ∀ (l : List Int), (∀ x ∈ l, 0 ≤ x ∧ x ≤ 6) → 0 ≤ l.sum ∧ l.sum ≤ 6 * (l.length : Int) := by
        intro l
        induction l with
        | nil => simp
        | cons x l ih => intro h; have a := h x (by simp); have b := ih (fun y hy => h y (by simp [hy])); simp; omega
      have := this (out.take i) (fun x hx => by
        obtain ⟨j, hj, rfl⟩ := List.getElem_of_mem (List.mem_of_mem_take hx)
        have := ho j hj; omega)
      rw [List.length_take, Nat.min_eq_left (by omega)] at this
      exact this
    rw [waybilllaw13_SubsetEven.l0, if_pos (by omega), if_pos (by omega), hr, if_neg (by omega), hR]
    simp only [Option.bind_some]
    rw [if_neg (by simpa using b1), if_pos (by omega), W_eq (by omega) (by omega), W_eq (by omega) (by omega), ← hsum, show ((i : Int) + 1) = ((i + 1 : Nat) : Int) by omega]
    exact even_l0 ids rounds size R hR0 hR1 hR out hl ho hs m (i + 1) k (by omega) (by omega)
theorem even_ok (ids : List Int) (rounds size seed : Int) (hr : -9223372036854775808 ≤ rounds ∧ rounds ≤ 9223372036854775807) : ∃ k, waybilllaw13_SubsetEven.f k ids rounds size seed = some true := by
  refine ⟨2000, ?_⟩
  rw [waybilllaw13_SubsetEven.f, alive_ok (by omega)]
  simp only [Option.bind_some, if_true]
  by_cases h1 : 32 < (ids.length : Int)
  · rw [if_pos h1]; rfl
  rw [if_neg h1]
  by_cases h2 : size < 1
  · rw [if_pos h2]; rfl
  rw [if_neg h2]
  by_cases h3 : (ids.length : Int) ≤ size
  · simp [h3]
  simp only [h3, decide_false, Option.bind_some]
  rw [if_neg (by simp), if_neg (by omega)]
  obtain ⟨s, rfl⟩ := Int.eq_ofNat_of_zero_le (show 0 ≤ size by omega)
  have hn : ids.length ≤ 32 := by omega
  have hs1 : 1 ≤ s := by omega
  have hsn : s < ids.length := by omega
  have hd : 1 ≤ ids.length / s := (Nat.one_le_div_iff (by omega)).2 (by omega)
  have hdn : ids.length / s ≤ ids.length := Nat.div_le_self _ _
  have hq : (ids.length : Int).tdiv s = (ids.length / s : Nat) := by rw [Int.tdiv_eq_ediv_of_nonneg (by omega)]; exact (Int.natCast_ediv _ _).symm
  have ht1 : rounds.tmod 6 < 6 := Int.tmod_lt_of_pos _ (by omega)
  have ht2 : -6 < rounds.tmod 6 := by have := Int.lt_tmod_of_pos rounds (show (0 : Int) < 6 by omega); omega
  have hw : IntKind.i64.wrap (rounds.tmod 6 + 6) = rounds.tmod 6 + 6 := W_eq (by omega) (by omega)
  obtain ⟨R, hR⟩ : ∃ R : Nat, (IntKind.i64.wrap (rounds.tmod 6 + 6)).tmod 6 = R := by
    rw [hw]; exact Int.eq_ofNat_of_zero_le (Int.tmod_nonneg _ (by omega))
  have hR6 : R < 6 := by
    have := Int.tmod_lt_of_pos (rounds.tmod 6 + 6) (show (0 : Int) < 6 by omega)
    rw [hw] at hR; omega
  have hprod : R * (ids.length / s) ≤ 5 * 32 := Nat.mul_le_mul (by omega) (by omega)
  have hclients : IntKind.i64.wrap ((IntKind.i64.wrap (rounds.tmod 6 + 6)).tmod 6 * IntKind.i64.wrap ((ids.length : Int).tdiv s)) = ((R * (ids.length / s) : Nat) : Int) := by
    rw [hR, hq, W_eq (x := ((ids.length / s : Nat) : Int)) (by generalize ids.length / s = q at hdn ⊢; omega) (by generalize ids.length / s = q at hdn ⊢; omega), ← Int.natCast_mul]
    generalize R * (ids.length / s) = q at hprod ⊢
    exact W_eq (by omega) (by omega)
  rw [hclients]
  obtain ⟨e, hck, he⟩ := check_ok ⟨ids, (s : Int), seed⟩ hn
  by_cases he0 : e = 0
  · subst he0
    have hs := he rfl
    obtain ⟨l, hof, -⟩ := of_ok ids s seed hn hs1 hsn hck (c := 0) (by omega)
    obtain ⟨out', q1, q2, q3, q4⟩ := counts_l0 ids s (R * (ids.length / s)) seed hn hs1 hsn hs hck (by omega) (R * (ids.length / s)) 0 (List.replicate ids.length 0) (by omega) (by simp) (fun j h => by simp) (by simp)
    have hcnt : subset_Counts.f 2000 ids ((R * (ids.length / s) : Nat) : Int) s seed = some (out', 0) := by
      have hof' : subset_dealer_of.f 2000 ⟨ids, s, seed⟩ 0 = some (l, 0) := hof 2000 (by omega)
      have q1' : subset_Counts.l0 2000 ids ((R * (ids.length / s) : Nat) : Int) s seed 0 (List.replicate ids.length e_i64.z) = some out' := q1 2000 (by omega)
      rw [subset_Counts.f, hof']
      simp only [Option.bind_some, if_true, Int.toNat_natCast]
      generalize R * (ids.length / s) = q at hprod q1' ⊢
      rw [if_neg (by omega), show decide ((256 : Int) < q) = false from by simp; omega]
      simp only [Option.bind_some]
      rw [if_neg (by simp), if_pos (by omega), if_pos (by omega), q1']
      rfl
    rw [hcnt]
    simp only [Option.bind_some, waybilllaw13_num.f, if_true]
    have hdiv : R * (ids.length / s) / (ids.length / s) = R := Nat.mul_div_cancel _ (by omega)
    have hmod : R * (ids.length / s) % (ids.length / s) = 0 := Nat.mul_mod_left _ _
    have hlim : R * (ids.length / s) * s ≤ 5 * 32 * 32 := Nat.mul_le_mul hprod (by omega)
    refine even_l0 ids rounds s R (by omega) (by omega) hR out' (by omega) (fun j h => ?_) ?_ out'.length 0 2000 (by omega) (by omega)
    · have := q4 j h
      rw [hdiv, hmod] at this
      simpa using this
    · rw [q3]
      rw [hR] at hclients
      rw [hclients, ← Int.natCast_mul]
      generalize R * (ids.length / s) * s = q at hlim ⊢
      exact (W_eq (by omega) (by omega)).symm
  · have hcnt : subset_Counts.f 2000 ids ((R * (ids.length / s) : Nat) : Int) s seed = some ([], e) := by
      rw [subset_Counts.f, subset_dealer_of.f, hck 2000 (by omega)]
      simp only [Option.bind_some, he0, if_false]
    rw [hcnt]
    simp only [Option.bind_some, waybilllaw13_num.f, he0, if_false]
    simp
end Go.Proofs.Ythlogangnppghaa.M
