/- Views of rows of one's own: cuts that share; rows that shrink; cuts of no length. -/
import Derived.Test.YthlogangnppghaaSlG
import Derived.Laws.Cover3
set_option linter.unusedVariables false
set_option linter.unusedSimpArgs false
namespace Go.Proofs.Ythlogangnppghaa.Sl
open Go

variable {r : Option Nat} {P : Program} {n : Nat} {D : List Deferred} {L : List (Nat × Value)} {a : Act} {w w0 w' : World} {ops : Array Oper} {Q : Exit → Act → World → Prop} {rest : List Oper}
  {o : Oper} {d : Nat} {v : Value} {cs : List Hp} {pre post : List Hp} {k : Nat} {ty : TypeId} {ps : String} {af : Array Edge} {α : Type} {e : En α} {E : TypeId} {A B : Option Addr} {m c c2 : Nat} {l l2 : List α}
  {dst : Option Nat} {gu : Option (Nat × Bool)}

/-- the front of a row of one's own, read -/
theorem own_rdV (pre : List Hp) (H : HS w0 (pre ++ own e E A m c l :: post) w) {q : Nat} (hq : q ≤ m) : Rd e (hpOf w) A q c (l.take q) := by
  obtain ⟨r1, r2, r3, r4⟩ := own_rd pre H
  refine ⟨by rw [List.length_take, r1]; omega, by omega, r3, fun hpos => ?_⟩
  obtain ⟨b, o, hA, f⟩ := r4 (by omega)
  refine ⟨b, o, hA, fun i j v hi hv => f i j v (by omega) ?_⟩
  rw [← hv]; congr 2
  simp only [List.getD_eq_getElem?_getD, List.getElem?_take]
  rw [if_pos hi]
theorem sl_own_rdV (pre : List Hp) {X : Heap} (H : SL (pre ++ own e E A m c l :: post) X) {q : Nat} (hq : q ≤ m) : Rd e X A q c (l.take q) := by
  obtain ⟨r1, r2, r3, r4⟩ := sl_own_rd pre H
  refine ⟨by rw [List.length_take, r1]; omega, by omega, r3, fun hpos => ?_⟩
  obtain ⟨b, o, hA, f⟩ := r4 (by omega)
  refine ⟨b, o, hA, fun i j v hi hv => f i j v (by omega) ?_⟩
  rw [← hv]; congr 2
  simp only [List.getD_eq_getElem?_getD, List.getElem?_take]
  rw [if_pos hi]
/-- a row of one's own gives its end up -/
theorem HS.shrink (pre : List Hp) (H : HS w0 (pre ++ own e E A m c l :: post) w) {q : Nat} (hq : q ≤ m) : HS w0 (pre ++ own e E A q c (l.take q) :: post) w :=
  H.map fun s => SL.mono1 s fun h qq => by
    obtain ⟨h1, h3⟩ := qq
    refine ⟨by rw [List.length_take, h1]; omega, ?_⟩
    rcases h3 with ⟨hA, rfl, rfl⟩ | ⟨gg, cur, hA, p1, p2, p3, p4, p5⟩
    · exact .inl ⟨hA, by omega, rfl⟩
    · refine .inr ⟨gg, cur, hA, by omega, p2, p3, ?_, p5⟩
      rw [flat_take, ← p4, List.take_take, Nat.min_eq_left]
      exact Nat.mul_le_mul_right _ hq
theorem y_cutV (pre : List Hp) {T : TypeId} {x : Operand} {hi : Operand} {y k : Nat} {g : Bool} {z : List Value} (S : Sl n D L a) (H : HS w0 (pre ++ own e E A m c l :: post) w) (hx : evl L x = some (.slice A k c)) (ht : slE P T = some E) (hE : tyI P E = some (g, e.sz, y, z))
    (q : Int) (hhi : evl L hi = some (.int .i64 q)) (h0 : 0 ≤ q) (h2 : q ≤ m) :
    (execOp a.eval ⟨dst, .slice T x none (some hi) none, ty, ps, af, gu⟩).run P w = .ok (.value (.slice A q.toNat c)) w := by
  have hle := own_le pre H
  have hu := slE_open ht
  obtain ⟨d0, i, zv, q1, q2, q3, q4, q5, q6, q7⟩ := tyI_open hE
  have e1 : (Instr.sliceBounds true k c none (some (a.eval hi)) none).run P w = .ok (0, q.toNat, c) w := by
    have := S.ev hhi
    have hqc : q ≤ c := by omega
    simp [Instr.sliceBounds, Instr.sliceBound, asIntOf, this, Sem.run_bind, Sem.run, Result.andThen, h0, hqc]
  have hA : cutA A c e.sz 0 = A := by
    simp only [cutA]
    split
    · rfl
    · rename_i hc0
      have hA : ∃ g o, A = some ⟨g, o, none⟩ := SL.pure H.sl fun _ q => by
        rcases q.2 with ⟨_, _, h⟩ | ⟨g, cur, h, _⟩
        · exact absurd h hc0
        · exact ⟨g, 0, h⟩
      obtain ⟨g, o', rfl⟩ := hA
      · rw [Nat.zero_mul, Option.map_some, Addr.add_mid, Nat.add_zero]
  rw [show Value.slice A q.toNat c = .slice (cutA A c e.sz 0) (q.toNat - 0) (c - 0) by rw [hA]; rfl]
  simp only [execOp, Option.map_none, Option.map_some, Instr.sliceAt, S.ev hx, Sem.run_bind, run_underlying hu, Result.andThen_ok, Instr.slice, e1, sizeOf, typeInfo, program]
  simp [Sem.run, Result.andThen, Sem.run_bind, q3, q4, cutA]
theorem r_cutV (pre : List Hp) {T : TypeId} {x : Operand} {hi : Operand} {y k : Nat} {g : Bool} {z : List Value} (S : Sl n D L a) (H : HS w0 (pre ++ own e E A m c l :: post) w) (hx : evl L x = some (.slice A k c)) (ht : slE P T = some E) (hE : tyI P E = some (g, e.sz, y, z))
    (q : Int) (hhi : evl L hi = some (.int .i64 q)) (h0 : 0 ≤ q) (h2 : q ≤ m) (hd : Nat.blt d n = true)
    (kk : ∀ a', Sl n D ((d, .slice A q.toNat c) :: L) a' → WL r P ops Q rest a' w) :
    WL r P ops Q (⟨some d, .slice T x none (some hi) none, ty, ps, af, none⟩ :: rest) a w :=
  op_ok S rfl (by intro c h; cases h) rfl (blt_lt hd) (y_cutV pre S H hx ht hE q hhi h0 h2) kk
/-- s[:0:0] -/
theorem r_cut0 {T : TypeId} {x : Operand} {y k : Nat} {g : Bool} {z : List Value} (e : En α) (S : Sl n D L a) (H : HS w0 cs w) (hx : evl L x = some (.slice A k c)) (ht : slE P T = some E) (hE : tyI P E = some (g, e.sz, y, z)) (hd : Nat.blt d n = true)
    (kk : ∀ A' a', Sl n D ((d, .slice A' 0 0) :: L) a' → HS w0 (own e E A' 0 0 [] :: cs) w → WL r P ops Q rest a' w) :
    WL r P ops Q (⟨some d, .slice T x none (some (.const (.int .i64 0))) (some (.const (.int .i64 0))), ty, ps, af, none⟩ :: rest) a w := by
  have hu := slE_open ht
  obtain ⟨d0, i, zv, q1, q2, q3, q4, q5, q6, q7⟩ := tyI_open hE
  have hA' : ∃ A', (execOp a.eval ⟨some d, .slice T x none (some (.const (.int .i64 0))) (some (.const (.int .i64 0))), ty, ps, af, none⟩).run P w = .ok (.value (.slice A' 0 0)) w := by
    refine ⟨A, ?_⟩
    have e1 : (Instr.sliceBounds true k c none (some (a.eval (.const (.int .i64 0)))) (some (a.eval (.const (.int .i64 0))))).run P w = .ok (0, 0, 0) w := by
      simp [Instr.sliceBounds, Instr.sliceBound, asIntOf, Act.eval, Sem.run_bind, Sem.run, Result.andThen]
    simp only [execOp, Option.map_none, Option.map_some, Instr.sliceAt, S.ev hx, Sem.run_bind, run_underlying hu, Result.andThen_ok, Instr.slice, e1, sizeOf, typeInfo, program]
    simp [Sem.run, Result.andThen, Sem.run_bind, q3, q4]
  obtain ⟨A', hr⟩ := hA'
  exact op_ok S rfl (by intro c h; cases h) rfl (blt_lt hd) hr fun a' S' => kk A' a' S' ⟨own_z A' H.sl, H.os, H.tape, H.out, H.size⟩
theorem y_snil {T T' : TypeId} {x y : Operand} (S : Sl n D L a) (hx : evl L x = some (.slice A m c)) (hy : evl L y = some (.slice none 0 0)) (ht : slE P T = some E) :
    (execOp a.eval ⟨dst, .binOp .eql T x y T', ty, ps, af, gu⟩).run P w = .ok (.value (.bool A.isNone)) w := by
  simp [execOp, S.ev hx, S.ev hy, Sem.run_bind, eqGuard, binOp, Result.andThen, Sem.run, run_equal_slice_nil _ T E A m c (slE_open ht)]
theorem r_snil {T T' : TypeId} {x y : Operand} (S : Sl n D L a) (hx : evl L x = some (.slice A m c)) (hy : evl L y = some (.slice none 0 0)) (ht : slE P T = some E) (hd : Nat.blt d n = true)
    (kk : ∀ a', Sl n D ((d, .bool A.isNone) :: L) a' → WL r P ops Q rest a' w) : WL r P ops Q (⟨some d, .binOp .eql T x y T', ty, ps, af, none⟩ :: rest) a w := op_ok S rfl (by intro c h; cases h) rfl (blt_lt hd) (y_snil S hx hy ht) kk
end Go.Proofs.Ythlogangnppghaa.Sl
