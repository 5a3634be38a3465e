/- A client's subset: the round's order, cut; what the functions of the translation answer. -/
import Derived.Test.YthlogangnppghaaPA
import Derived.Test.YthlogangnppghaaF19
set_option linter.unusedVariables false
set_option linter.unusedSimpArgs false
namespace Go.Proofs.Ythlogangnppghaa.M
open Go Go.Proofs.Ythlogangnppghaa.Sl

theorem check_l0 (d : subset_dealer) (hd : d.ids.length ≤ 32) : ∀ (m i : Nat) (last : Int), i + m = d.ids.length → ∃ e, (∀ k, m < k → subset_dealer_check.l0 k d last i = some e) ∧ (e = 0 → (∀ x ∈ d.ids.drop i, last < x) ∧ (d.ids.drop i).Pairwise (· < ·))
  | 0, i, last, h1 => by
    refine ⟨0, fun k hk => ?_, fun _ => ?_⟩
    · cases k with
      | zero => omega
      | succ k => rw [subset_dealer_check.l0, if_neg (by omega)]
    · rw [List.drop_of_length_le (by omega)]; simp
  | m + 1, i, last, h1 => by
    have hlt : i < d.ids.length := by omega
    have hr : rd e_i64 d.ids (i : Int) = d.ids[i] := rd_nat _ _ i hlt
    by_cases hx : d.ids[i] ≤ last
    · refine ⟨9, fun k hk => ?_, fun h => absurd h (by omega)⟩
      cases k with
      | zero => omega
      | succ k => rw [subset_dealer_check.l0, if_pos (by omega), if_pos (by omega), hr, if_pos hx]
    · obtain ⟨e, h2, h3⟩ := check_l0 d hd m (i + 1) d.ids[i] (by omega)
      refine ⟨e, fun k hk => ?_, fun h => ?_⟩
      · cases k with
        | zero => omega
        | succ k =>
          rw [subset_dealer_check.l0, if_pos (by omega), if_pos (by omega), hr, if_neg hx, W_eq (by omega) (by omega)]
          exact h2 k (by omega)
      · obtain ⟨h4, h5⟩ := h3 h
        rw [List.drop_eq_getElem_cons hlt]
        refine ⟨?_, List.pairwise_cons.2 ⟨h4, h5⟩⟩
        intro x hx'
        rcases List.mem_cons.1 hx' with rfl | h'
        · omega
        · have := h4 x h'; omega
theorem check_ok (d : subset_dealer) (hd : d.ids.length ≤ 32) : ∃ e, (∀ k, 32 < k → subset_dealer_check.f k d = some e) ∧ (e = 0 → d.ids.Pairwise (· < ·)) := by
  obtain ⟨e, h1, h2⟩ := check_l0 d hd d.ids.length 0 (-1) (by omega)
  refine ⟨e, fun k hk => ?_, fun h => ?_⟩
  · rw [subset_dealer_check.f, if_neg (by omega)]; exact h1 k (by omega)
  · simpa using (h2 h).2
/-- a client's round, where there are more backends than a subset has -/
theorem round_ok {n c s : Nat} (hn : n ≤ 32) (hs : 1 ≤ s) (hsn : s < n) (hc : c ≤ 1048576) : subset_Round.f n c s = some (((c / (n / s) : Nat) : Int), ((c % (n / s) : Nat) : Int), 0) := by
  have e1 : ¬ (n : Int) < 0 := by omega
  have e2 : ¬ (32 : Int) < n := by omega
  have e3 : ¬ (c : Int) < 0 := by omega
  have e4 : ¬ (1048576 : Int) < c := by omega
  have e5 : ¬ (s : Int) < 1 := by omega
  have e6 : ¬ (32 : Int) < s := by omega
  have e7 : ¬ (n : Int) ≤ s := by omega
  have e8 : ¬ (s : Int) = 0 := by omega
  have hd : 1 ≤ n / s := (Nat.one_le_div_iff (by omega)).2 (by omega)
  have hdn : n / s ≤ n := Nat.div_le_self _ _
  have hq : (n : Int).tdiv s = (n / s : Nat) := by rw [Int.tdiv_eq_ediv_of_nonneg (by omega)]; rfl
  have hcq : c / (n / s) ≤ c := Nat.div_le_self _ _
  rw [subset_Round.f]
  simp only [e1, e2, e3, e4, e5, e6, if_false, decide_false, Option.bind_some]
  rw [if_neg (by simp), if_neg e7, if_neg e8, hq, W_eq (by omega) (by omega), if_neg (by omega)]
  rw [Int.tdiv_eq_ediv_of_nonneg (by omega), Int.tmod_eq_emod_of_nonneg (by omega)]
  have e9 : (c : Int) / ((n / s : Nat) : Int) = ((c / (n / s) : Nat) : Int) := (Int.natCast_ediv _ _).symm
  have e10 : (c : Int) % ((n / s : Nat) : Int) = ((c % (n / s) : Nat) : Int) := (Int.natCast_emod _ _).symm
  rw [e9, e10]
  generalize c / (n / s) = q at hcq ⊢
  generalize c % (n / s) = q2
  rw [W_eq (by omega) (by omega)]
theorem hand_l0 (d : subset_dealer) (p : subset_place) (o : List Int) (b : List Int) (hb : b = ((o.take (Int.toNat (IntKind.i64.wrap ((IntKind.i64.wrap (p.at_ + 1)) * d.size)))).drop (Int.toNat (IntKind.i64.wrap (p.at_ * d.size)))))
    (hl : b.length ≤ 1024) (ho : ∀ x ∈ b, 0 ≤ x ∧ x < (d.ids.length : Int)) : ∀ (m i k : Nat) (acc : List Int), i + m = b.length → acc.length = i → m < k → subset_dealer_hand.l0 k d p o i acc = some (acc ++ (b.drop i).map (rd e_i64 d.ids))
  | 0, i, k + 1, acc, h1, h2, _ => by
    rw [subset_dealer_hand.l0, ← hb, if_neg (by omega), List.drop_of_length_le (by omega)]; simp
  | m + 1, i, k + 1, acc, h1, h2, h3 => by
    have hlt : i < b.length := by omega
    have hr : rd e_i64 b (i : Int) = b[i] := rd_nat _ _ i hlt
    have hx := ho b[i] (List.getElem_mem hlt)
    rw [subset_dealer_hand.l0, ← hb, if_pos (by omega), if_pos (by omega), hr, if_pos hx.1, if_pos hx.2, if_pos (by simp; omega), W_eq (by omega) (by omega)]
    have := hand_l0 d p o b hb hl ho m (i + 1) k (acc ++ [rd e_i64 d.ids b[i]]) (by omega) (by simp [h2]) (by omega)
    rw [show ((i : Int) + 1) = ((i + 1 : Nat) : Int) by omega, this, List.drop_eq_getElem_cons hlt]
    simp only [List.append_assoc, List.cons_append, List.nil_append, List.map_cons]
/-- the order of a round, told without how long it is looked for -/
theorem ord_ex (n : Nat) (seed r : Int) : ∃ o : List Int, n ≤ 1024 → o.Perm ((List.range n).map Int.ofNat) ∧ ∃ h s', ∀ k, n + 1 < k → hash_Ints.f k seed [r] = some h ∧ draw_Shuffle.f k h n = some (s', o, 0) := by
  by_cases hn : n ≤ 1024
  · obtain ⟨h, s', o, h1, h2⟩ := order_ok hn seed r
    exact ⟨o, fun _ => ⟨h2, h, s', h1⟩⟩
  · exact ⟨[], fun h => absurd h hn⟩
noncomputable def ord (n : Nat) (seed r : Int) : List Int := Classical.choose (ord_ex n seed r)
theorem ord_perm {n : Nat} (hn : n ≤ 1024) (seed r : Int) : (ord n seed r).Perm ((List.range n).map Int.ofNat) := (Classical.choose_spec (ord_ex n seed r) hn).1
theorem ord_runs {n : Nat} (hn : n ≤ 1024) (seed r : Int) : ∃ h s', ∀ k, n + 1 < k → hash_Ints.f k seed [r] = some h ∧ draw_Shuffle.f k h n = some (s', ord n seed r, 0) := (Classical.choose_spec (ord_ex n seed r) hn).2
def block (o : List Int) (a s : Nat) : List Int := (o.take ((a + 1) * s)).drop (a * s)
theorem hand_ok (ids : List Int) (s : Nat) (seed : Int) (hn : ids.length ≤ 32) (hs : 1 ≤ s) (hsn : s < ids.length) {r a : Nat} (ha : a < ids.length / s) :
    ∃ l, (∀ k, 40 < k → subset_dealer_hand.f k ⟨ids, s, seed⟩ ⟨r, a⟩ = some l) ∧ l.Perm ((block (ord ids.length seed r) a s).map (rd e_i64 ids)) := by
  have hm : (a + 1) * s ≤ ids.length := by
    have : (a + 1) * s ≤ (ids.length / s) * s := Nat.mul_le_mul_right _ ha
    exact Nat.le_trans this (Nat.div_mul_le_self _ _)
  have hm' : a * s + s = (a + 1) * s := by rw [Nat.add_mul, Nat.one_mul]
  have hp := ord_perm (n := ids.length) (by omega) seed r
  obtain ⟨h, s', hrun⟩ := ord_runs (n := ids.length) (by omega) seed r
  have hol : (ord ids.length seed r).length = ids.length := by rw [hp.length_eq]; simp
  have w1 : IntKind.i64.wrap ((a : Int) * s) = ((a * s : Nat) : Int) := by rw [← Int.natCast_mul]; exact W_eq (by omega) (by omega)
  have w2 : IntKind.i64.wrap (IntKind.i64.wrap ((a : Int) + 1) * s) = (((a + 1) * s : Nat) : Int) := by
    have : a < 32 := by have := Nat.div_le_self ids.length s; omega
    rw [W_eq (x := (a : Int) + 1) (by omega) (by omega), show ((a : Int) + 1) = ((a + 1 : Nat) : Int) by omega, ← Int.natCast_mul]; exact W_eq (by omega) (by omega)
  have hblk : block (ord ids.length seed r) a s = (((ord ids.length seed r).take (Int.toNat (IntKind.i64.wrap ((IntKind.i64.wrap (((⟨r, a⟩ : subset_place)).at_ + 1)) * (⟨ids, s, seed⟩ : subset_dealer).size)))).drop (Int.toNat (IntKind.i64.wrap ((⟨r, a⟩ : subset_place).at_ * (⟨ids, s, seed⟩ : subset_dealer).size)))) := by
    simp only [w1, w2, Int.toNat_natCast]; rfl
  have hbl : (block (ord ids.length seed r) a s).length = s := by
    rw [block, List.length_drop, List.length_take, hol]; omega
  have hbm : ∀ x ∈ block (ord ids.length seed r) a s, 0 ≤ x ∧ x < (ids.length : Int) := fun x hx => by
    have h1 : x ∈ ord ids.length seed r := List.mem_of_mem_take (List.mem_of_mem_drop hx)
    have h2 := hp.mem_iff.1 h1
    obtain ⟨y, hy, rfl⟩ := List.mem_map.1 h2
    have := List.mem_range.1 hy
    exact ⟨by simp, by simpa using this⟩
  refine ⟨((block (ord ids.length seed r) a s).map (rd e_i64 ids)).mergeSort fun a b => decide (a ≤ b), fun k hk => ?_, ?_⟩
  rotate_left
  · exact List.mergeSort_perm _ _
  · have h0 := hand_l0 ⟨ids, s, seed⟩ ⟨r, a⟩ (ord ids.length seed r) _ hblk (by omega) hbm s 0 k [] (by omega) rfl (by omega)
    simp only [List.drop_zero, List.nil_append] at h0
    rw [subset_dealer_hand.f, if_neg (by simp; omega)]
    obtain ⟨q1, q2⟩ := hrun k (by omega)
    simp only [q1, q2, Option.bind_some, w1, w2]
    rw [if_pos (by omega), if_pos (by omega), if_pos (by omega)]
    have h0' : subset_dealer_hand.l0 k ⟨ids, s, seed⟩ ⟨r, a⟩ (ord ids.length seed r) 0 [] = some ((block (ord ids.length seed r) a s).map (rd e_i64 ids)) := h0
    rw [h0']
    simp only [Option.bind_some, slices_Sort_int_int.f]
    rw [if_pos (by simp [hbl]; omega)]
    rfl
theorem of_ok (ids : List Int) (s : Nat) (seed : Int) (hn : ids.length ≤ 32) (hs : 1 ≤ s) (hsn : s < ids.length) (hck : ∀ k, 32 < k → subset_dealer_check.f k ⟨ids, s, seed⟩ = some 0) {c : Nat} (hc : c ≤ 1048576) :
    ∃ l, (∀ k, 40 < k → subset_dealer_of.f k ⟨ids, s, seed⟩ c = some (l, 0)) ∧ l.Perm ((block (ord ids.length seed (c / (ids.length / s) : Nat)) (c % (ids.length / s)) s).map (rd e_i64 ids)) := by
  have hd : 1 ≤ ids.length / s := (Nat.one_le_div_iff (by omega)).2 (by omega)
  obtain ⟨l, h1, h2⟩ := hand_ok ids s seed hn hs hsn (r := c / (ids.length / s)) (a := c % (ids.length / s)) (Nat.mod_lt _ (by omega))
  refine ⟨l, fun k hk => ?_, h2⟩
  rw [subset_dealer_of.f, hck k (by omega)]
  simp only [Option.bind_some, if_true, round_ok hn hs hsn hc, h1 k hk]
end Go.Proofs.Ythlogangnppghaa.M
