/- What surrounds a piece of code; operations told as what they run to; an append in the lists' own lengths. -/
import Derived.Test.YthlogangnppghaaSlF
import Derived.Laws.StructEq
set_option linter.unusedVariables false
set_option linter.unusedSimpArgs false
namespace Go.Proofs.Ythlogangnppghaa.Sl
open Go

variable {r : Option Nat} {P : Program} {n : Nat} {D : List Deferred} {L : List (Nat × Value)} {a : Act} {w w0 w' : World} {ops : Array Oper} {Q : Exit → Act → World → Prop} {rest : List Oper}
  {o : Oper} {d : Nat} {v : Value} {cs : List Hp} {pre post : List Hp} {k : Nat} {ty : TypeId} {ps : String} {af : Array Edge} {α : Type} {e : En α} {E : TypeId} {A B : Option Addr} {m c c2 : Nat} {l l2 : List α}
  {dst : Option Nat} {gu : Option (Nat × Bool)} {I K : Act → World → Prop} {id : Nat}

/-! ### ends of code -/
theorem nr_then (h : I a w) : Exit.then I Q .normal a w := h
theorem nr_in (h : Q .normal a w) : Exit.inBlock id Q .normal a w := h
theorem ex_then {i : Nat} (h : Q (.exit i) a w) : Exit.then I Q (.exit i) a w := h
theorem ex_in (h : Q .normal a w) : Exit.inBlock id Q (.exit id) a w := by simp only [Exit.inBlock, if_true]; exact h
theorem ex_out {i : Nat} (hne : Nat.beq i id = false) (h : Q (.exit i) a w) : Exit.inBlock id Q (.exit i) a w := by have := Nat.ne_of_beq_eq_false hne; simp only [Exit.inBlock, this, if_false]; exact h
theorem ret_then (h : Q .ret a w) : Exit.then I Q .ret a w := h
theorem ret_in (h : Q .ret a w) : Exit.inBlock id Q .ret a w := h
theorem w_cutT {x : Code} (I : Act → World → Prop) (h1 : W r P x (Exit.then I Q) a w) (h2 : ∀ a w, I a w → Q .normal a w) : W r P x Q a w :=
  wpIn_mono h1 fun e a w q => by cases e <;> first | exact h2 _ _ q | exact q

/-! ### bits -/
def bt_and (k : IntKind) (x y : Int) : Int := k.wrap (BitVec.ofInt k.bits x &&& BitVec.ofInt k.bits y).toNat
def bt_or (k : IntKind) (x y : Int) : Int := k.wrap (BitVec.ofInt k.bits x ||| BitVec.ofInt k.bits y).toNat
def bt_xor (k : IntKind) (x y : Int) : Int := k.wrap (BitVec.ofInt k.bits x ^^^ BitVec.ofInt k.bits y).toNat
def bt_andNot (k : IntKind) (x y : Int) : Int := k.wrap (BitVec.ofInt k.bits x &&& ~~~ BitVec.ofInt k.bits y).toNat
def sh_shl (k : IntKind) (p q : Int) : Int := k.wrap (p * 2 ^ min q.toNat k.bits)
def sh_shr (k : IntKind) (p q : Int) : Int := p.fdiv (2 ^ min q.toNat k.bits)

/-! ### append -/
theorem r_app (pre : List Hp) {T : TypeId} {x u : Operand} {y : Nat} {g : Bool} {z : List Value} (S : Sl n D L a) (H : HS w0 (pre ++ own e E A m c l :: post) w) (R : Rd e (hpOf w) B k c2 l2)
    (hx : evl L x = some (.slice A m c)) (hu : evl L u = some (.slice B k c2)) (ht : slE P T = some E) (hE : tyI P E = some (g, e.sz, y, z)) (hz : z.length = e.sz) (hlim : l.length + l2.length < 140737488355328 / y) (hy : Nat.blt 0 y = true) (hd : Nat.blt d n = true)
    (kk : ∀ A' c' a' w', Sl n D ((d, .slice A' (l ++ l2).length c') :: L) a' → HS w0 (pre ++ own e E A' (l ++ l2).length c' (l ++ l2) :: post) w' → WL r P ops Q rest a' w') :
    WL r P ops Q (⟨some d, .call { callee := .builtin .append, args := #[x, u], argTypes := #[T, T] }, ty, ps, af, none⟩ :: rest) a w := by
  refine r_append pre S H R hx hu ht hE hz hlim hy hd ?_
  have e1 : (l ++ l2).length = m + k := by rw [List.length_append, own_len pre H, R.1]
  rw [e1] at kk
  exact kk
/-! ### runs -/
theorem y_of {op : Op} (S : Sl n D L a) (v : Value) (h : pev L op = some v) : (execOp a.eval ⟨dst, op, ty, ps, af, gu⟩).run P w = .ok (.value v) w := (pev_ok (P := P) (w := w) (op := op) S h dst ty ps af).1
theorem y_pick {cnd x y : Operand} {b b0 : Bool} (S : Sl n D L a) (hc : evl L cnd = some (.bool b)) (hb : b = b0) (v : Value)
    (h : evl L (cond b0 x y) = some v) : (execOp a.eval ⟨dst, .pick cnd x y, ty, ps, af, gu⟩).run P w = .ok (.value v) w := by
  subst hb
  cases b <;> simp [execOp, S.ev hc, asBool, Sem.run, Sem.run_bind, Result.andThen, S.ev h] at h ⊢ <;> exact S.ev h
theorem y_quo {x y : Operand} {T T' : TypeId} {k : IntKind} {p q : Int} (S : Sl n D L a) (hx : evl L x = some (.int k p)) (hy : evl L y = some (.int k q)) (hq : q ≠ 0) :
    (execOp a.eval ⟨dst, .binOp .quo T x y T', ty, ps, af, gu⟩).run P w = .ok (.value (.int k (k.wrap (p.tdiv q)))) w := by
  simp [execOp, S.ev hx, S.ev hy, Sem.run_bind, eqGuard_int, binOp, Op.intDiv, hq, Result.andThen, Sem.run]
theorem y_rem {x y : Operand} {T T' : TypeId} {k : IntKind} {p q : Int} (S : Sl n D L a) (hx : evl L x = some (.int k p)) (hy : evl L y = some (.int k q)) (hq : q ≠ 0) :
    (execOp a.eval ⟨dst, .binOp .rem T x y T', ty, ps, af, gu⟩).run P w = .ok (.value (.int k (p.tmod q))) w := by
  simp [execOp, S.ev hx, S.ev hy, Sem.run_bind, eqGuard_int, binOp, Op.intDiv, hq, Result.andThen, Sem.run]
theorem y_shl {x y : Operand} {T T' : TypeId} {k yk : IntKind} {p q : Int} (S : Sl n D L a) (hx : evl L x = some (.int k p)) (hy : evl L y = some (.int yk q)) (hq : ¬ q < 0) :
    (execOp a.eval ⟨dst, .binOp .shl T x y T', ty, ps, af, gu⟩).run P w = .ok (.value (.int k (sh_shl k p q))) w := by
  simp [execOp, S.ev hx, S.ev hy, Sem.run_bind, eqGuard_int, binOp, Op.shift, hq, Result.andThen, Sem.run, sh_shl]
theorem y_shr {x y : Operand} {T T' : TypeId} {k yk : IntKind} {p q : Int} (S : Sl n D L a) (hx : evl L x = some (.int k p)) (hy : evl L y = some (.int yk q)) (hq : ¬ q < 0) :
    (execOp a.eval ⟨dst, .binOp .shr T x y T', ty, ps, af, gu⟩).run P w = .ok (.value (.int k (sh_shr k p q))) w := by
  simp [execOp, S.ev hx, S.ev hy, Sem.run_bind, eqGuard_int, binOp, Op.shift, hq, Result.andThen, Sem.run, sh_shr]
theorem y_conv {T T' : TypeId} {x : Operand} {d0 : TypeDesc} {k k' : IntKind} {p : Int} (S : Sl n D L a) (hx : evl L x = some (.int k p))
    (h0 : P.underlying T = some d0) (h1 : P.underlying T' = some (.int k')) : (execOp a.eval ⟨dst, .convert T T' x, ty, ps, af, gu⟩).run P w = .ok (.value (.int k' (k'.wrap p))) w := by
  simp [execOp, S.ev hx, convert, Sem.run_bind, run_underlying h0, run_underlying h1, Conv.intToInt, Result.andThen, Sem.run]
theorem y_beq {x y : Operand} {T T' : TypeId} {p q : Bool} (S : Sl n D L a) (hx : evl L x = some (.bool p)) (hy : evl L y = some (.bool q)) (h0 : P.underlying T = some .bool) :
    (execOp a.eval ⟨dst, .binOp .eql T x y T', ty, ps, af, gu⟩).run P w = .ok (.value (.bool (decide (p = q)))) w := by
  simp [execOp, S.ev hx, S.ev hy, Sem.run_bind, eqGuard, binOp, Result.andThen, Sem.run, run_equal_bool _ _ _ _ h0]
  cases p <;> cases q <;> rfl
theorem y_bne {x y : Operand} {T T' : TypeId} {p q : Bool} (S : Sl n D L a) (hx : evl L x = some (.bool p)) (hy : evl L y = some (.bool q)) (h0 : P.underlying T = some .bool) :
    (execOp a.eval ⟨dst, .binOp .neq T x y T', ty, ps, af, gu⟩).run P w = .ok (.value (.bool (!decide (p = q)))) w := by
  simp [execOp, S.ev hx, S.ev hy, Sem.run_bind, eqGuard, binOp, Result.andThen, Sem.run, run_equal_bool _ _ _ _ h0]
  cases p <;> cases q <;> rfl
theorem y_loadA {T : TypeId} {x : Operand} {b o m y : Nat} {z vs : List Value} (S : Sl n D L a) (hx : evl L x = some (.pointer (some ⟨b, o, none⟩))) (ht : tyI P T = some (true, m, y, z))
    (hc : w.rangeAt b o vs) (hl : vs.length = m) : (execOp a.eval ⟨dst, .load T x, ty, ps, af, gu⟩).run P w = .ok (.value (.agg vs.toArray)) w := by
  simp only [execOp, S.ev hx, Sem.run_bind, run_load w b o T ht vs hl hc, Result.andThen, Sem.run]; rfl
theorem y_loadS {T : TypeId} {x : Operand} {b o y : Nat} {z : List Value} (S : Sl n D L a) (hx : evl L x = some (.pointer (some ⟨b, o, none⟩))) (ht : tyI P T = some (false, 1, y, z)) (v : Value)
    (hc : w.cell? ⟨b, o, none⟩ = some v) : (execOp a.eval ⟨dst, .load T x, ty, ps, af, gu⟩).run P w = .ok (.value v) w := by
  have hr : w.rangeAt b o [v] := fun j u hu => by
    cases j with
    | zero => simp at hu; subst hu; exact hc
    | succ j => simp at hu
  simp only [execOp, S.ev hx, Sem.run_bind, run_load w b o T ht [v] rfl hr, Result.andThen, Sem.run]; rfl
theorem y_ldA (pre : List Hp) {b : Nat} {T0 T : TypeId} {bs : List Value} {x : Operand} {o m y : Nat} {z : List Value} (S : Sl n D L a) (H : HS w0 (pre ++ bx b T0 bs :: post) w) (hx : evl L x = some (.pointer (some ⟨b, o, none⟩)))
    (ht : tyI P T = some (true, m, y, z)) (vs : List Value) (hv : (bs.drop o).take m = vs) (hl : vs.length = m) : (execOp a.eval ⟨dst, .load T x, ty, ps, af, gu⟩).run P w = .ok (.value (.agg vs.toArray)) w :=
  y_loadA S hx ht (by rw [← hv]; exact bx_range pre H o m) hl
theorem y_ldS (pre : List Hp) {b : Nat} {T0 T : TypeId} {bs : List Value} {x : Operand} {o y : Nat} {z : List Value} (S : Sl n D L a) (H : HS w0 (pre ++ bx b T0 bs :: post) w) (hx : evl L x = some (.pointer (some ⟨b, o, none⟩)))
    (ht : tyI P T = some (false, 1, y, z)) (v : Value) (hv : bs[o]? = some v) : (execOp a.eval ⟨dst, .load T x, ty, ps, af, gu⟩).run P w = .ok (.value v) w :=
  y_loadS S hx ht v (bx_cell pre H hv)
theorem y_elA {T : TypeId} {x : Operand} {b q j k y : Nat} {z vs : List Value} {i : Int} (S : Sl n D L a) (R : Rd e (hpOf w) (some ⟨b, q, none⟩) m c l) (h0 : 0 ≤ i) (h1 : i < m) (hx : evl L x = some (.pointer (some ⟨b, q + i.toNat * e.sz + j, none⟩)))
    (ht : tyI P T = some (true, k, y, z)) (hv : ((e.enc (rd e l i)).drop j).take k = vs) (hl : vs.length = k) : (execOp a.eval ⟨dst, .load T x, ty, ps, af, gu⟩).run P w = .ok (.value (.agg vs.toArray)) w :=
  y_loadA S hx ht (by rw [← hv]; exact R.range h0 h1 j k) hl
theorem y_elS {T : TypeId} {x : Operand} {b q j y : Nat} {z : List Value} {i : Int} (S : Sl n D L a) (R : Rd e (hpOf w) (some ⟨b, q, none⟩) m c l) (h0 : 0 ≤ i) (h1 : i < m) (hx : evl L x = some (.pointer (some ⟨b, q + i.toNat * e.sz + j, none⟩)))
    (ht : tyI P T = some (false, 1, y, z)) (v : Value) (hv : (e.enc (rd e l i))[j]? = some v) : (execOp a.eval ⟨dst, .load T x, ty, ps, af, gu⟩).run P w = .ok (.value v) w :=
  y_loadS S hx ht v (R.cell h0 h1 hv)
theorem y_fieldAddr {T f : Nat} {x : Operand} {b o off : Nat} (S : Sl n D L a) (hx : evl L x = some (.pointer (some ⟨b, o, none⟩))) (hf : fieldOff P T f = some off) (o' : Nat) (ho : o + off = o') :
    (execOp a.eval ⟨dst, .fieldAddr T x f, ty, ps, af, gu⟩).run P w = .ok (.value (.pointer (some ⟨b, o', none⟩))) w := by
  unfold fieldOff at hf
  split at hf
  · rename_i fs h1
    split at hf
    · rename_i g h2
      split at hf
      · rename_i i h3
        cases h4 : Nat.beq i.size 0 with
        | true => rw [h4] at hf; cases hf
        | false =>
          rw [h4] at hf
          have hoff : g.offset = off := by simpa using hf
          have hne : ¬ i.size = 0 := Nat.ne_of_beq_eq_false h4
          have hadd : (⟨b, o, none⟩ : Addr).add g.offset = ⟨b, o', none⟩ := by rw [Addr.add_mid, hoff, ho]
          simp [execOp, Instr.fieldAt, Sem.run_bind, run_underlying h1, h2, S.ev hx, Instr.sureAddr, fieldPlace, sizeOf, typeInfo, program, Sem.run, Result.andThen, h3, hne, hadd]
      · cases hf
    · cases hf
  · cases hf
theorem y_field {T f : Nat} {x : Operand} {off m : Nat} {g : Bool} {bs : List Value} (S : Sl n D L a) (hx : evl L x = some (.agg bs.toArray)) (hf : fieldPart P T f = some (g, off, m)) (v : Value)
    (hv : (match g with | true => some (.agg ((bs.drop off).take m).toArray) | false => bs[off]?) = some v) (hb : Nat.ble (off + m) bs.length = true) :
    (execOp a.eval ⟨dst, .field T x f, ty, ps, af, gu⟩).run P w = .ok (.value v) w := by
  unfold fieldPart at hf
  split at hf
  · rename_i fs h1
    split at hf
    · rename_i gg h2
      split at hf
      · rename_i g' m' y' z' h3
        simp only [Option.some.injEq, Prod.mk.injEq] at hf
        obtain ⟨rfl, rfl, rfl⟩ := hf
        obtain ⟨d0, i, zv, q1, q2, q3, q4, q5, q6, q7⟩ := tyI_open h3
        have hagg : (isAgg gg.type).run P w = .ok g' w := by
          unfold isAgg
          rw [Sem.run_bind, run_underlying q1 w]
          cases d0 <;> simp_all [TypeDesc.isRow, Sem.run, Result.andThen] <;> rw [← q2]
        cases g' with
        | true =>
          simp only [Option.some.injEq] at hv; subst hv
          simp [execOp, Instr.field, Sem.run_bind, run_underlying h1, h2, S.ev hx, asAgg, part, hagg, sizeOf, typeInfo, program, Sem.run, Result.andThen, q3, q4]
        | false =>
          simp only [] at hv
          simp [execOp, Instr.field, Sem.run_bind, run_underlying h1, h2, S.ev hx, asAgg, part, hagg, Sem.run, Result.andThen, hv]
      · cases hf
    · cases hf
  · cases hf
theorem y_build {T : TypeId} {parts : List (Nat × Operand)} {m y : Nat} {g : Bool} {z : List Value} {pl : List (Nat × Nat)} {pv : List (Nat × Value)} (S : Sl n D L a) (ht : tyI P T = some (g, m, y, z)) (hp : places P T = some pl)
    (he : evparts L parts = some pv) (vs : List Value) (hf : Instr.fill (fun i => pl[i]?) z.toArray pv = some vs.toArray) :
    (execOp a.eval ⟨dst, .build T parts.toArray, ty, ps, af, gu⟩).run P w = .ok (.value (.agg vs.toArray)) w := by
  obtain ⟨d0, i, zv, q1, q2, q3, q4, q5, q6, q7⟩ := tyI_open ht
  have hz : zv.cells = z.toArray := by rw [← q7, Array.toArray_toList]
  unfold places at hp
  split at hp
  · rename_i fs h1
    have hm : ∀ (l : List Field) (pl : List (Nat × Nat)), l.mapM (fun g => (P.info? g.type).map fun i => (g.offset, i.size)) = some pl →
        (l.mapM (m := Sem) fun f => do pure (f.offset, ← sizeOf f.type)).run P w = .ok pl w := by
      intro l
      induction l with
      | nil => intro pl h; simp at h; subst h; simp [Sem.run]
      | cons g l ih =>
        intro pl h
        simp only [List.mapM_cons, Option.pure_def, Option.bind_eq_bind, Option.bind_eq_some_iff, Option.some.injEq] at h
        obtain ⟨p, h2, pl', h3, rfl⟩ := h
        obtain ⟨i, h4, rfl⟩ := Option.map_eq_some_iff.1 h2
        have hs : (sizeOf g.type).run P w = .ok i.size w := by simp [sizeOf, typeInfo, program, Sem.run_bind, Sem.run, Result.andThen, h4]
        simp only [List.mapM_cons, Sem.run_bind, hs, Sem.run_pure, Result.andThen_ok, ih pl' h3]
    have hm2 := hm _ _ hp
    have hparts : (parts.toArray.map fun (i, x) => (i, a.eval x)).toList = pv := by rw [← S.evp he]; simp
    have hmA : (fs.mapM (m := Sem) fun f => do pure (f.offset, ← sizeOf f.type)).run P w = .ok pl.toArray w := by
      rw [← Array.toArray_toList (xs := fs), List.mapM_toArray]
      generalize hgg : (fs.toList.mapM (m := Sem) fun f => do pure (f.offset, ← sizeOf f.type)) = gg at hm2 ⊢
      simp [Sem.run_bind, hm2, Sem.run, Result.andThen]
    have hfill : Instr.fill (fun i => pl[i]?) zv.cells pv = some vs.toArray := by rw [hz]; exact hf
    have hz0 : (zeroValue T).run P w = .ok zv w := by simp [zeroValue, typeInfo, program, Sem.run_bind, Sem.run, Result.andThen, q3, q6]
    simp only [execOp, Instr.build, Sem.run_bind, hz0, Result.andThen_ok, run_underlying h1, hmA]
    rw [hparts]
    simp [hfill, Sem.run, Result.andThen]
  · cases hp

theorem y_index {T : TypeId} {x y : Operand} {b q sz yy : Nat} {z : List Value} {g : Bool} {i : Int} {k : IntKind} (S : Sl n D L a) (hx : evl L x = some (.slice (some ⟨b, q, none⟩) m c)) (hy : evl L y = some (.int k i)) (ht : slE P T = some E)
    (hE : tyI P E = some (g, sz, yy, z)) (h0 : 0 ≤ i) (h1 : i < m) : (execOp a.eval ⟨dst, .indexAddr T x y, ty, ps, af, gu⟩).run P w = .ok (.value (.pointer (some ⟨b, q + i.toNat * sz + 0, none⟩))) w := by
  obtain ⟨d0, ii, zv, q1, q2, q3, q4, q5, q6, q7⟩ := tyI_open hE
  have hu := slE_open ht
  simp [execOp, Instr.indexAt, S.ev hx, S.ev hy, asIntOf, Sem.run_bind, run_underlying hu, Sem.run, Result.andThen, h0, h1, sizeOf, typeInfo, program, q3, q4, Addr.add_mid]
theorem y_len {T : TypeId} {x : Operand} (S : Sl n D L a) (hx : evl L x = some (.slice A m c)) (ht : slE P T = some E) :
    (execOp a.eval ⟨dst, .call { callee := .builtin .len, args := #[x], argTypes := #[T] }, ty, ps, af, gu⟩).run P w = .ok (.value (.int .i64 m)) w := by
  have hu := slE_open ht
  simp [execOp, resolve, invoke, builtin, Builtin.len_, S.ev hx, Sem.run_bind, run_underlying hu, Sem.run, Result.andThen, goInt]
theorem y_cap {T : TypeId} {x : Operand} (S : Sl n D L a) (hx : evl L x = some (.slice A m c)) (ht : slE P T = some E) :
    (execOp a.eval ⟨dst, .call { callee := .builtin .cap, args := #[x], argTypes := #[T] }, ty, ps, af, gu⟩).run P w = .ok (.value (.int .i64 c)) w := by
  have hu := slE_open ht
  simp [execOp, resolve, invoke, builtin, Builtin.cap_, S.ev hx, Sem.run_bind, run_underlying hu, Sem.run, Result.andThen, goInt]
theorem fold_mx (P : Program) (w : World) (k : IntKind) : ∀ (qs : List Int) (p : Int), ((qs.map (Value.int k ·)).foldlM (m := Sem) Builtin.max2 (.int k p)).run P w = .ok (.int k (mxs true p qs)) w := by
  intro qs
  induction qs with
  | nil => intro p; simp [mxs, Sem.run]
  | cons q qs ih => intro p; simp [mxs, Builtin.max2, Sem.run, Sem.run_bind, Result.andThen]; rw [ih]; rfl
theorem fold_mn (P : Program) (w : World) (k : IntKind) : ∀ (qs : List Int) (p : Int), ((qs.map (Value.int k ·)).foldlM (m := Sem) Builtin.min2 (.int k p)).run P w = .ok (.int k (mxs false p qs)) w := by
  intro qs
  induction qs with
  | nil => intro p; simp [mxs, Sem.run]
  | cons q qs ih => intro p; simp [mxs, Builtin.min2, Sem.run, Sem.run_bind, Result.andThen]; rw [ih]; rfl
theorem y_max {xs : List Operand} {ts : Array TypeId} {k : IntKind} {p : Int} {qs : List Int} (S : Sl n D L a) (hx : evls L xs = some (.int k p :: qs.map (.int k ·))) :
    (execOp a.eval ⟨dst, .call { callee := .builtin .max, args := xs.toArray, argTypes := ts }, ty, ps, af, gu⟩).run P w = .ok (.value (.int k (mxs true p qs))) w := by
  have e1 := S.evs hx
  simp [execOp, resolve, invoke, builtin, Builtin.max_, e1, Sem.run_bind, Sem.run, Result.andThen, fold_mx]
theorem y_min {xs : List Operand} {ts : Array TypeId} {k : IntKind} {p : Int} {qs : List Int} (S : Sl n D L a) (hx : evls L xs = some (.int k p :: qs.map (.int k ·))) :
    (execOp a.eval ⟨dst, .call { callee := .builtin .min, args := xs.toArray, argTypes := ts }, ty, ps, af, gu⟩).run P w = .ok (.value (.int k (mxs false p qs))) w := by
  have e1 := S.evs hx
  simp [execOp, resolve, invoke, builtin, Builtin.min_, e1, Sem.run_bind, Sem.run, Result.andThen, fold_mn]
theorem r_shl' {x y : Operand} {T T' : TypeId} {k yk : IntKind} {p q : Int} (S : Sl n D L a) (hx : evl L x = some (.int k p)) (hy : evl L y = some (.int yk q)) (hq : ¬ q < 0)
    (hd : Nat.blt d n = true) (kk : ∀ a', Sl n D ((d, .int k (sh_shl k p q)) :: L) a' → WL r P ops Q rest a' w) :
    WL r P ops Q (⟨some d, .binOp .shl T x y T', ty, ps, af, none⟩ :: rest) a w := op_ok S rfl (by intro c h; cases h) rfl (blt_lt hd) (y_shl S hx hy hq) kk
theorem r_shr' {x y : Operand} {T T' : TypeId} {k yk : IntKind} {p q : Int} (S : Sl n D L a) (hx : evl L x = some (.int k p)) (hy : evl L y = some (.int yk q)) (hq : ¬ q < 0)
    (hd : Nat.blt d n = true) (kk : ∀ a', Sl n D ((d, .int k (sh_shr k p q)) :: L) a' → WL r P ops Q rest a' w) :
    WL r P ops Q (⟨some d, .binOp .shr T x y T', ty, ps, af, none⟩ :: rest) a w := op_ok S rfl (by intro c h; cases h) rfl (blt_lt hd) (y_shr S hx hy hq) kk
theorem r_beq {x y : Operand} {T T' : TypeId} {p q : Bool} (S : Sl n D L a) (hx : evl L x = some (.bool p)) (hy : evl L y = some (.bool q)) (h0 : P.underlying T = some .bool) (hd : Nat.blt d n = true)
    (kk : ∀ a', Sl n D ((d, .bool (decide (p = q))) :: L) a' → WL r P ops Q rest a' w) : WL r P ops Q (⟨some d, .binOp .eql T x y T', ty, ps, af, none⟩ :: rest) a w := op_ok S rfl (by intro c h; cases h) rfl (blt_lt hd) (y_beq S hx hy h0) kk
theorem r_bne {x y : Operand} {T T' : TypeId} {p q : Bool} (S : Sl n D L a) (hx : evl L x = some (.bool p)) (hy : evl L y = some (.bool q)) (h0 : P.underlying T = some .bool) (hd : Nat.blt d n = true)
    (kk : ∀ a', Sl n D ((d, .bool (!decide (p = q))) :: L) a' → WL r P ops Q rest a' w) : WL r P ops Q (⟨some d, .binOp .neq T x y T', ty, ps, af, none⟩ :: rest) a w := op_ok S rfl (by intro c h; cases h) rfl (blt_lt hd) (y_bne S hx hy h0) kk
end Go.Proofs.Ythlogangnppghaa.Sl
