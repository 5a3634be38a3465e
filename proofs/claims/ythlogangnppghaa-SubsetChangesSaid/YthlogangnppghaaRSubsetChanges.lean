/- The row of the law SubsetChanges: whatever the input, the call ends, answers true, and what came in reads as it did. It stands on the walk of the law's code (F4) and on the plain law. -/
import Derived.Test.YthlogangnppghaaRows
import Derived.Test.YthlogangnppghaaChecked
import Derived.Test.YthlogangnppghaaSlR
import Derived.Test.YthlogangnppghaaF4
import Derived.Test.YthlogangnppghaaPChanges
import Derived.WalkKit
import Derived.ProofKit
import Derived.OpenShut
import Derived.ShutString
import Derived.ChangeOld
import Derived.Below
import Derived.SizedLaws
namespace Go.Proofs.Ythlogangnppghaa.subsetChanges
open Go Go.ChangeShapes Go.WideShapes Go.ChangeAt Go.RowKit Go.Proofs Go.Proofs.Ythlogangnppghaa.Sl Go.Proofs.Ythlogangnppghaa.M
set_option linter.unusedVariables false
theorem own : ownKnob Try.prog.godebug = none := by kernel_rfl
theorem laidOut : laidOutB Try.prog = true := by kernel_rfl
set_option maxRecDepth 100000 in
theorem lifted (os : Os) (started : os.Started) (H : Type) (enc : TypeId × Value → H) :
    ReturnsInHanded {} Try.checked os 4 .any (Rows.subsetChangesSpec.pre6 enc Try.prog Try.f4 Rows.subsetChangesRow.domain false) (Rows.subsetChangesSpec.post enc Try.prog Try.f4 false true false false) := by
  refine returnsInHanded_of_change_sized (C := Try.checked) own started (by kernel_rfl) Try.func4
    (ChangeSpec.witness6 (enc := enc) (C := Try.checked) false ⟨#[], #[.slice none 0 0, .slice none 0 0, .int .i64 0], []⟩ 8 (by kernel_rfl) (by kernel_rfl) (by kernel_rfl) (by kernel_rfl)) ?_
  intro W base args ds gs before hval0 hW hcnd hsz0 _
  have hsz : (DataW.weightsEach Try.prog (Try.f4.params.toList ++ Rows.subsetChangesSpec.plain.varTypes Try.prog) (ds ++ gs)).all (· ≤ reachBytes) = true := hsz0
  have hval : ∀ (j : Nat) t v, Try.f4.params[j]? = some t → args[j]? = some v → Value.okWide Try.prog W .any base t v := hval0
  have hW' := hW
  obtain ⟨p, q, hA0, hV, rfl, hfz, hnd⟩ := hW
  have hA : DataW.TrodAll enc Try.prog W 0 (fun _ => true) true Try.f4.params.toList args.toList ds p := hA0
  rw [show Try.f4.params = #[22, 22, 3] by kernel_rfl] at hA hval hsz
  obtain ⟨v0, vs0, d0, ds0, p0, q0, hargs, rfl, rfl, h0, r0⟩ := trodAll_cons hA
  obtain ⟨v1, vs1, d1, ds1, p1, q1, rfl, rfl, rfl, h1, r1⟩ := trodAll_cons r0
  obtain ⟨v2, vs2, d2, ds2, p2, q2, rfl, rfl, rfl, h2, r2⟩ := trodAll_cons r1
  obtain ⟨rfl, rfl, rfl⟩ := trodAll_nil r2
  obtain rfl : args = #[v0, v1, v2] := by cases args; simp_all
  obtain ⟨rfl, rfl⟩ := trodVars_none hV
  obtain ⟨a0, len0, cap0, rfl⟩ := okWide_slice (by kernel_rfl : Try.prog.underlying 22 = some (.slice 3)) (hval 0 22 v0 rfl rfl)
  have k0 := h0
  have lt0 : ∀ x ∈ p0, x.block < W.heap.size := by obtain ⟨m, hm⟩ := k0; exact DataW.trod_lt m _ _ _ hm
  obtain ⟨z0, w0⟩ : ∃ zs, IsRow .i64 W a0 len0 cap0 zs := by
    obtain ⟨fuel, hf⟩ := h0
    rcases open_ints (by kernel_rfl : Try.prog.underlying 22 = some (.slice 3)) (by kernel_rfl : Try.prog.underlying 3 = some (.int .i64)) (by kernel_rfl) hf with ⟨hcs, _⟩ | ⟨x, l, c, zs, hcs, _, hl, hm, hz, _, hcell, hwz⟩
    · simp [Value.cells] at hcs
      obtain ⟨rfl, rfl, rfl⟩ := hcs
      exact ⟨[], .inl ⟨rfl, rfl, rfl, rfl⟩⟩
    · simp [Value.cells] at hcs
      obtain ⟨rfl, rfl, rfl⟩ := hcs
      exact ⟨zs, .inr ⟨_, rfl, hl, hm, by simpa using hz, hcell, hwz⟩⟩
  have y0 : len0 * 8 ≤ 140737488351232 := by
    obtain ⟨fuel, hf⟩ := h0
    rcases open_ints (by kernel_rfl : Try.prog.underlying 22 = some (.slice 3)) (by kernel_rfl : Try.prog.underlying 3 = some (.int .i64)) (by kernel_rfl) hf with ⟨hcs, _⟩ | ⟨x, l, c, zs, hcs, _, hl, _, hz, hx, _, _⟩
    · simp [Value.cells] at hcs; obtain ⟨rfl, rfl, rfl⟩ := hcs; simp
    · simp [Value.cells] at hcs
      obtain ⟨rfl, rfl, rfl⟩ := hcs
      obtain ⟨hx, _⟩ := Prod.mk.inj hx
      rw [hx] at hsz
      have z := sized_slice hsz (j := 0) (t := 22) rfl rfl (by kernel_rfl : Try.prog.underlying 22 = some (.slice 3))
      rw [show Try.prog.bytesOf 3 = 8 by kernel_rfl] at z
      have h1 : (lits (H := H) .i64 (zs.take len0)).length + (lits (H := H) .i64 (zs.drop len0)).length = zs.length := by simp [lits]; omega
      rw [h1] at z
      have hl2 : len0 ≤ zs.length := by rw [hz]; split <;> omega
      exact Nat.le_trans (Nat.mul_le_mul_right _ hl2) z
  obtain ⟨a1, len1, cap1, rfl⟩ := okWide_slice (by kernel_rfl : Try.prog.underlying 22 = some (.slice 3)) (hval 1 22 v1 rfl rfl)
  have k1 := h1
  have lt1 : ∀ x ∈ p1, x.block < W.heap.size := by obtain ⟨m, hm⟩ := k1; exact DataW.trod_lt m _ _ _ hm
  obtain ⟨z1, w1⟩ : ∃ zs, IsRow .i64 W a1 len1 cap1 zs := by
    obtain ⟨fuel, hf⟩ := h1
    rcases open_ints (by kernel_rfl : Try.prog.underlying 22 = some (.slice 3)) (by kernel_rfl : Try.prog.underlying 3 = some (.int .i64)) (by kernel_rfl) hf with ⟨hcs, _⟩ | ⟨x, l, c, zs, hcs, _, hl, hm, hz, _, hcell, hwz⟩
    · simp [Value.cells] at hcs
      obtain ⟨rfl, rfl, rfl⟩ := hcs
      exact ⟨[], .inl ⟨rfl, rfl, rfl, rfl⟩⟩
    · simp [Value.cells] at hcs
      obtain ⟨rfl, rfl, rfl⟩ := hcs
      exact ⟨zs, .inr ⟨_, rfl, hl, hm, by simpa using hz, hcell, hwz⟩⟩
  have y1 : len1 * 8 ≤ 140737488351232 := by
    obtain ⟨fuel, hf⟩ := h1
    rcases open_ints (by kernel_rfl : Try.prog.underlying 22 = some (.slice 3)) (by kernel_rfl : Try.prog.underlying 3 = some (.int .i64)) (by kernel_rfl) hf with ⟨hcs, _⟩ | ⟨x, l, c, zs, hcs, _, hl, _, hz, hx, _, _⟩
    · simp [Value.cells] at hcs; obtain ⟨rfl, rfl, rfl⟩ := hcs; simp
    · simp [Value.cells] at hcs
      obtain ⟨rfl, rfl, rfl⟩ := hcs
      obtain ⟨hx, _⟩ := Prod.mk.inj hx
      rw [hx] at hsz
      have z := sized_slice hsz (j := 1) (t := 22) rfl rfl (by kernel_rfl : Try.prog.underlying 22 = some (.slice 3))
      rw [show Try.prog.bytesOf 3 = 8 by kernel_rfl] at z
      have h1 : (lits (H := H) .i64 (zs.take len1)).length + (lits (H := H) .i64 (zs.drop len1)).length = zs.length := by simp [lits]; omega
      rw [h1] at z
      have hl2 : len1 ≤ zs.length := by rw [hz]; split <;> omega
      exact Nat.le_trans (Nat.mul_le_mul_right _ hl2) z
  obtain ⟨a2, rfl, rfl, rfl, w2⟩ := open_int (by kernel_rfl : Try.prog.underlying 3 = some (.int .i64)) (hval 2 3 v2 rfl rfl) h2
  clear hA0 hval0 hsz0 hsz
  obtain ⟨k, hk⟩ : ∃ k, waybilllaw13_SubsetChanges.f k (z0.take len0) (z1.take len1) a2 = some true := changes_ok (z0.take len0) (z1.take len1) a2 (by have := w0.len; omega) (by have := w1.len; omega)
  refine (waybilllaw13_SubsetChanges.calls k a0 len0 cap0 (z0.take len0) a1 len1 cap1 (z1.take len1) a2 W (hpOf W) (w0.rd rfl (fun _ => rfl)) (w1.rd rfl (fun _ => rfl)) (HS.start W) true hk).mono fun e W' ⟨he, hs⟩ => ?_
  have bel : Below W.heap.size W W' := HS.below (pre := []) hs
  subst he
  exact ⟨_, rfl, _, _, _, [], _, [], hW', trodAll_mk1 (shut_bool (by kernel_rfl : Try.prog.underlying 4 = some .bool) _), (trodAll_cons_mk (Below.trod laidOut (by kernel_rfl) (of_decide_eq_true (by kernel_rfl)) k0 bel lt0) (trodAll_cons_mk (Below.trod laidOut (by kernel_rfl) (of_decide_eq_true (by kernel_rfl)) k1 bel lt1) (trodAll_cons_mk (shut_int (by kernel_rfl : Try.prog.underlying 3 = some (.int .i64)) w2) trodAll_mk0))), rfl, bel.frame _, fun h => by cases h⟩
theorem over : Rows.subsetChangesRow.holds Try.pinned (OpenSpec.ofChange Rows.subsetChangesSpec) :=
  OpenClaim.holds_of_wide 4 Try.f4 rfl rfl rfl rfl rfl rfl rfl ⟨rfl, rfl, rfl, rfl, rfl⟩ rfl rfl rfl rfl rfl (by kernel_rfl) Try.func4 (by kernel_rfl)
    (of_decide_eq_true (by kernel_rfl)) (by unfold Func.isWrapper; first | (rw [if_pos (by decide +kernel)]; kernel_rfl) | (rw [if_neg (by decide +kernel)]; exact ⟨rfl, rfl⟩))
    (fun os started H enc _ => lifted os started H enc)
theorem proved : Rows.SubsetChangesSaid := over
#print axioms proved
end Go.Proofs.Ythlogangnppghaa.subsetChanges
namespace Go.Proofs.Ythlogangnppghaa
/-- The row, under a short name, for the claim. -/
theorem subsetChanges_holds : Rows.SubsetChangesSaid := subsetChanges.proved
end Go.Proofs.Ythlogangnppghaa
