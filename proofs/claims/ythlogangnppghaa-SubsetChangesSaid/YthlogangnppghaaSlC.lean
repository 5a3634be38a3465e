/- Memory: variables in blocks of their own, rows of the call's own, rows that are read. A rule for each operation. -/
import Derived.Test.YthlogangnppghaaSlB
set_option linter.unusedVariables false
set_option linter.unusedSimpArgs false
namespace Go.Proofs.Ythlogangnppghaa.Sl
open Go

/-- of a type: is it a struct or an array; its cells; its bytes; its zero value's cells -/
def tyI (P : Program) (T : TypeId) : Option (Bool × Nat × Nat × List Value) :=
  match P.underlying T, P.info? T with
  | some d, some i => match i.zero with
    | some z => some (d.isRow, i.size, i.bytes, z.cells.toList)
    | none => none
  | _, _ => none
def slE (P : Program) (T : TypeId) : Option TypeId := match P.underlying T with
  | some (.slice e) => some e
  | _ => none
def fieldOff (P : Program) (T f : Nat) : Option Nat := match P.underlying T with
  | some (.struct fs) => match fs[f]? with
    | some g => match P.info? g.type with
      | some i => cond (Nat.beq i.size 0) none (some g.offset)
      | none => none
    | none => none
  | _ => none
def fieldPart (P : Program) (T f : Nat) : Option (Bool × Nat × Nat) := match P.underlying T with
  | some (.struct fs) => match fs[f]? with
    | some g => match tyI P g.type with
      | some (b, m, _, _) => some (b, g.offset, m)
      | none => none
    | none => none
  | _ => none
def places (P : Program) (T : Nat) : Option (List (Nat × Nat)) := match P.underlying T with
  | some (.struct fs) => fs.toList.mapM fun g => (P.info? g.type).map fun i => (g.offset, i.size)
  | _ => none

theorem tyI_open {P : Program} {T : TypeId} {b : Bool} {m y : Nat} {z : List Value} (h : tyI P T = some (b, m, y, z)) :
    ∃ d i zv, P.underlying T = some d ∧ d.isRow = b ∧ P.info? T = some i ∧ i.size = m ∧ i.bytes = y ∧ i.zero = some zv ∧ zv.cells.toList = z := by
  unfold tyI at h
  split at h
  · rename_i d i h1 h2
    split at h
    · rename_i zv h3
      simp only [Option.some.injEq, Prod.mk.injEq] at h
      exact ⟨d, i, zv, h1, h.1, h2, h.2.1, h.2.2.1, h3, h.2.2.2⟩
    · cases h
  · cases h
theorem slE_open {P : Program} {T e : TypeId} (h : slE P T = some e) : P.underlying T = some (.slice e) := by
  unfold slE at h; split at h
  · rename_i h1; cases h; exact h1
  · cases h

variable {r : Option Nat} {P : Program} {n : Nat} {D : List Deferred} {L : List (Nat × Value)} {a : Act} {w w0 w' : World} {ops : Array Oper} {Q : Exit → Act → World → Prop} {rest : List Oper}
  {o : Oper} {d : Nat} {v : Value} {cs : List Hp} {pre post : List Hp} {ty : TypeId} {ps : String} {af : Array Edge} {α : Type}

theorem run_load (w : World) (b o : Nat) (T : TypeId) {g : Bool} {m y : Nat} {z : List Value} (ht : tyI P T = some (g, m, y, z)) (vs : List Value) (hl : vs.length = m) (hc : w.rangeAt b o vs) :
    (Instr.loadAt T (.pointer (some ⟨b, o, none⟩))).run P w = match g with | true => .ok (.agg vs.toArray) w | false => match vs with | v :: _ => .ok v w | [] => (Instr.loadAt T (.pointer (some ⟨b, o, none⟩))).run P w := by
  obtain ⟨d, i, zv, h1, h2, h3, h4, h5, h6, h7⟩ := tyI_open ht
  cases g with
  | true => exact run_loadAt_mid w b o T vs d hc h1 h2 (by rw [h3]; simp [h4, hl])
  | false =>
    cases vs with
    | nil => rfl
    | cons v vs =>
      have hagg : (isAgg T).run P w = .ok false w := by
        unfold isAgg
        rw [Sem.run_bind, run_underlying h1 w]
        cases d <;> simp_all [TypeDesc.isRow, Sem.run, Result.andThen]
      have hv := hc 0 v rfl
      simp only [Nat.add_zero] at hv
      simp [Instr.loadAt, Instr.sureAddr, loadVar, Sem.run_bind, hagg, Result.andThen, load, Sem.run, hv]
/-- a load of a struct, a load of one cell -/
theorem r_loadA {T : TypeId} {x : Operand} {b o m y : Nat} {z vs : List Value} (S : Sl n D L a) (hx : evl L x = some (.pointer (some ⟨b, o, none⟩))) (ht : tyI P T = some (true, m, y, z))
    (hc : w.rangeAt b o vs) (hl : vs.length = m) (hd : Nat.blt d n = true) (k : ∀ a', Sl n D ((d, .agg vs.toArray) :: L) a' → WL r P ops Q rest a' w) :
    WL r P ops Q (⟨some d, .load T x, ty, ps, af, none⟩ :: rest) a w := by
  refine op_ok S rfl (by intro c h; cases h) rfl (blt_lt hd) (w' := w) ?_ k
  simp only [execOp, S.ev hx, Sem.run_bind, run_load w b o T ht vs hl hc, Result.andThen, Sem.run]; rfl
theorem r_loadS {T : TypeId} {x : Operand} {b o y : Nat} {z : List Value} (S : Sl n D L a) (hx : evl L x = some (.pointer (some ⟨b, o, none⟩))) (ht : tyI P T = some (false, 1, y, z)) (v : Value)
    (hc : w.cell? ⟨b, o, none⟩ = some v) (hd : Nat.blt d n = true) (k : ∀ a', Sl n D ((d, v) :: L) a' → WL r P ops Q rest a' w) :
    WL r P ops Q (⟨some d, .load T x, ty, ps, af, none⟩ :: rest) a w := by
  refine op_ok S rfl (by intro c h; cases h) rfl (blt_lt hd) (w' := w) ?_ k
  have hr : w.rangeAt b o [v] := fun j u hu => by
    cases j with
    | zero => simp at hu; subst hu; exact hc
    | succ j => simp at hu
  simp only [execOp, S.ev hx, Sem.run_bind, run_load w b o T ht [v] rfl hr, Result.andThen, Sem.run]; rfl

/-! ### variables in blocks of their own -/
theorem bx_range (pre : List Hp) {b : Nat} {T0 : TypeId} {bs : List Value} (H : HS w0 (pre ++ bx b T0 bs :: post) w) (o m : Nat) : w.rangeAt b o ((bs.drop o).take m) := fun j u hu => by
  rw [cell_hcell]
  refine SL.hcell H.sl (bx_hcell (o + j) ?_)
  rw [List.getElem?_take] at hu
  split at hu
  · rw [List.getElem?_drop] at hu; exact hu
  · cases hu
theorem bx_cell (pre : List Hp) {b : Nat} {T0 : TypeId} {bs : List Value} (H : HS w0 (pre ++ bx b T0 bs :: post) w) {o : Nat} {v : Value} (h : bs[o]? = some v) : w.cell? ⟨b, o, none⟩ = some v := by
  rw [cell_hcell]; exact SL.hcell H.sl (bx_hcell o h)
/-- a load out of a variable -/
theorem r_ldA (pre : List Hp) {b : Nat} {T0 T : TypeId} {bs : List Value} {x : Operand} {o m y : Nat} {z : List Value} (S : Sl n D L a) (H : HS w0 (pre ++ bx b T0 bs :: post) w) (hx : evl L x = some (.pointer (some ⟨b, o, none⟩)))
    (ht : tyI P T = some (true, m, y, z)) (vs : List Value) (hv : (bs.drop o).take m = vs) (hl : vs.length = m) (hd : Nat.blt d n = true) (k : ∀ a', Sl n D ((d, .agg vs.toArray) :: L) a' → WL r P ops Q rest a' w) :
    WL r P ops Q (⟨some d, .load T x, ty, ps, af, none⟩ :: rest) a w :=
  r_loadA S hx ht (by rw [← hv]; exact bx_range pre H o m) hl hd k
theorem r_ldS (pre : List Hp) {b : Nat} {T0 T : TypeId} {bs : List Value} {x : Operand} {o y : Nat} {z : List Value} (S : Sl n D L a) (H : HS w0 (pre ++ bx b T0 bs :: post) w) (hx : evl L x = some (.pointer (some ⟨b, o, none⟩)))
    (ht : tyI P T = some (false, 1, y, z)) (v : Value) (hv : bs[o]? = some v) (hd : Nat.blt d n = true) (k : ∀ a', Sl n D ((d, v) :: L) a' → WL r P ops Q rest a' w) :
    WL r P ops Q (⟨some d, .load T x, ty, ps, af, none⟩ :: rest) a w :=
  r_loadS S hx ht v (bx_cell pre H hv) hd k

theorem hpOf_setRow (w : World) (g : Nat) (old new : Array Value) (T : TypeId) (fr : Nat × Nat) (h : w.heap[g]? = some (.cells old T fr)) : hpOf (w.setRow g new) = upd (hpOf w) g (.cells new T fr) := by
  funext k
  simp only [hpOf, upd]
  by_cases e : k = g
  · subst e; rw [if_pos rfl]; exact setRow_heap w k old new T fr h
  · rw [if_neg e]; exact setRow_other w g k new e
theorem run_store_bx {w : World} {b o : Nat} {T T0 : TypeId} {g : Bool} {m y : Nat} {z : List Value} (ht : tyI P T = some (g, m, y, z)) {cur : Array Value} (hg : w.heap[b]? = some (.cells cur T0 (0, 0))) (v : Value)
    (vs : List Value) (hvs : v.cells.toList = vs) (hl : vs.length = m) (h1 : vs.all (·.oneCell') = true) (ho : o + m ≤ cur.size) :
    (Instr.storeAt T (.pointer (some ⟨b, o, none⟩)) v).run P w = .ok () (w.setRow b (cur.toList.take o ++ vs ++ cur.toList.drop (o + vs.length)).toArray) := by
  obtain ⟨d, i, zv, g1, g2, g3, g4, g5, g6, g7⟩ := tyI_open ht
  have hs := run_storeCells_at P b o T0 vs 0 cur w hg (by omega) (by simpa using h1)
  simp only [Nat.add_zero] at hs
  have hsz : v.cells.size = i.size := by rw [← Array.length_toList, hvs, hl, g4]
  simp [Instr.storeAt, Instr.sureAddr, storeVar, sizeOf, typeInfo, program, Sem.run_bind, Sem.run, Result.andThen, g3, hsz, hvs, hs]
theorem HS.setRow {b : Nat} {T0 : TypeId} {c c' : Hp} {cur new : Array Value} (H : HS w0 (pre ++ c :: post) w) (hg : w.heap[b]? = some (.cells cur T0 (0, 0)))
    (f : ∀ h, c h → h b ≠ none ∧ c' (upd h b (.cells new T0 (0, 0)))) : HS w0 (pre ++ c' :: post) (w.setRow b new) :=
  ⟨by rw [hpOf_setRow w b cur new T0 (0, 0) hg]; exact SL.upd H.sl b _ f, H.os, H.tape, H.out, by have := H.size; simpa [World.setRow] using this⟩
/-- a store into a variable -/
theorem r_st (pre : List Hp) {b : Nat} {T0 T : TypeId} {bs : List Value} {x u : Operand} {o m y : Nat} {z : List Value} {g : Bool} (S : Sl n D L a) (H : HS w0 (pre ++ bx b T0 bs :: post) w) (hx : evl L x = some (.pointer (some ⟨b, o, none⟩)))
    (hu : evl L u = some v) (ht : tyI P T = some (g, m, y, z)) (vs : List Value) (hvs : v.cells.toList = vs) (hl : vs.length = m) (h1 : vs.all (·.oneCell') = true) (ho : Nat.ble (o + m) bs.length = true)
    (bs' : List Value) (hb : bs.take o ++ vs ++ bs.drop (o + m) = bs')
    (k : ∀ w', HS w0 (pre ++ bx b T0 bs' :: post) w' → WL r P ops Q rest a w') :
    WL r P ops Q (⟨none, .store T x u, ty, ps, af, none⟩ :: rest) a w := by
  have hg : w.heap[b]? = some (.cells bs.toArray T0 (0, 0)) := SL.block H.sl (fun h e => by rw [show h = _ from e]; simp [one])
  have hr := run_store_bx (P := P) (o := o) ht hg v vs hvs hl h1 (by simpa using Nat.le_of_ble_eq_true ho)
  refine op_skip S rfl (by intro c h; cases h) rfl (w' := w.setRow b bs'.toArray) ?_ (k _ ?_)
  · have e : (bs.toArray.toList.take o ++ vs ++ bs.toArray.toList.drop (o + vs.length)) = bs' := by rw [← hb, hl]
    rw [e] at hr
    simp only [execOp, S.ev hx, S.ev hu, Sem.run_bind, hr, Result.andThen, Sem.run]
    rfl
  · refine HS.setRow H hg fun h e => ?_
    rw [show h = _ from e]
    refine ⟨by simp [one], ?_⟩
    show _ = _
    funext q; simp only [upd, one]; split <;> rfl

/-- a new variable -/
theorem r_alloc {T : TypeId} {m y : Nat} {g : Bool} {z : List Value} (S : Sl n D L a) (H : HS w0 cs w) (ht : tyI P T = some (g, m, y, z)) (hd : Nat.blt d n = true)
    (k : ∀ b a' w', Sl n D ((d, .pointer (some ⟨b, 0, none⟩)) :: L) a' → HS w0 (bx b T z :: cs) w' → WL r P ops Q rest a' w') :
    WL r P ops Q (⟨some d, .alloc T, ty, ps, af, none⟩ :: rest) a w := by
  obtain ⟨d0, i, zv, g1, g2, g3, g4, g5, g6, g7⟩ := tyI_open ht
  refine op_ok S rfl (by intro c h; cases h) rfl (blt_lt hd) (v := .pointer (some ⟨w.heap.size, 0, none⟩)) (w' := w.alloc (.cells zv.cells T)) ?_ fun a' S' => k _ a' _ S' (by have := H.box T zv.cells; rwa [g7] at this)
  simp [execOp, Instr.alloc, zeroValue, typeInfo, program, Sem.run_bind, Sem.run, Result.andThen, g3, g6, newVar, newRow, newObj]
theorem r_box {T : TypeId} {x : Operand} {vs : List Value} (S : Sl n D L a) (H : HS w0 cs w) (hx : evl L x = some v) (hvs : v.cells.toList = vs) (hd : Nat.blt d n = true)
    (k : ∀ b a' w', Sl n D ((d, .pointer (some ⟨b, 0, none⟩)) :: L) a' → HS w0 (bx b T vs :: cs) w' → WL r P ops Q rest a' w') :
    WL r P ops Q (⟨some d, .box T x, ty, ps, af, none⟩ :: rest) a w := by
  refine op_ok S rfl (by intro c h; cases h) rfl (blt_lt hd) (v := .pointer (some ⟨w.heap.size, 0, none⟩)) (w' := w.alloc (.cells v.cells T)) ?_ fun a' S' => k _ a' _ S' (by have := H.box T v.cells; rwa [hvs] at this)
  simp [execOp, Instr.box, S.ev hx, Sem.run_bind, Sem.run, Result.andThen, newVar, newRow, newObj]
/-- addresses of fields; parts of values; values that are built -/
theorem r_fieldAddr {T f : Nat} {x : Operand} {b o off : Nat} (S : Sl n D L a) (hx : evl L x = some (.pointer (some ⟨b, o, none⟩))) (hf : fieldOff P T f = some off) (o' : Nat) (ho : o + off = o') (hd : Nat.blt d n = true)
    (k : ∀ a', Sl n D ((d, .pointer (some ⟨b, o', none⟩)) :: L) a' → WL r P ops Q rest a' w) :
    WL r P ops Q (⟨some d, .fieldAddr T x f, ty, ps, af, none⟩ :: rest) a w := by
  refine op_ok S rfl (by intro c h; cases h) rfl (blt_lt hd) (w' := w) ?_ k
  unfold fieldOff at hf
  split at hf
  · rename_i fs h1
    split at hf
    · rename_i g h2
      split at hf
      · rename_i i h3
        cases h4 : Nat.beq i.size 0 with
        | true => rw [h4] at hf; cases hf
        | false =>
          rw [h4] at hf
          have hoff : g.offset = off := by simpa using hf
          have hne : ¬ i.size = 0 := Nat.ne_of_beq_eq_false h4
          have hadd : (⟨b, o, none⟩ : Addr).add g.offset = ⟨b, o', none⟩ := by rw [Addr.add_mid, hoff, ho]
          simp [execOp, Instr.fieldAt, Sem.run_bind, run_underlying h1, h2, S.ev hx, Instr.sureAddr, fieldPlace, sizeOf, typeInfo, program, Sem.run, Result.andThen, h3, hne, hadd]
      · cases hf
    · cases hf
  · cases hf
theorem r_field {T f : Nat} {x : Operand} {off m : Nat} {g : Bool} {bs : List Value} (S : Sl n D L a) (hx : evl L x = some (.agg bs.toArray)) (hf : fieldPart P T f = some (g, off, m)) (v : Value)
    (hv : (match g with | true => some (.agg ((bs.drop off).take m).toArray) | false => bs[off]?) = some v) (hb : Nat.ble (off + m) bs.length = true) (hd : Nat.blt d n = true)
    (k : ∀ a', Sl n D ((d, v) :: L) a' → WL r P ops Q rest a' w) :
    WL r P ops Q (⟨some d, .field T x f, ty, ps, af, none⟩ :: rest) a w := by
  refine op_ok S rfl (by intro c h; cases h) rfl (blt_lt hd) (w' := w) ?_ k
  unfold fieldPart at hf
  split at hf
  · rename_i fs h1
    split at hf
    · rename_i gg h2
      split at hf
      · rename_i g' m' y' z' h3
        simp only [Option.some.injEq, Prod.mk.injEq] at hf
        obtain ⟨rfl, rfl, rfl⟩ := hf
        obtain ⟨d0, i, zv, q1, q2, q3, q4, q5, q6, q7⟩ := tyI_open h3
        have hagg : (isAgg gg.type).run P w = .ok g' w := by
          unfold isAgg
          rw [Sem.run_bind, run_underlying q1 w]
          cases d0 <;> simp_all [TypeDesc.isRow, Sem.run, Result.andThen] <;> rw [← q2]
        cases g' with
        | true =>
          simp only [Option.some.injEq] at hv; subst hv
          simp [execOp, Instr.field, Sem.run_bind, run_underlying h1, h2, S.ev hx, asAgg, part, hagg, sizeOf, typeInfo, program, Sem.run, Result.andThen, q3, q4]
        | false =>
          simp only [] at hv
          simp [execOp, Instr.field, Sem.run_bind, run_underlying h1, h2, S.ev hx, asAgg, part, hagg, Sem.run, Result.andThen, hv]
      · cases hf
    · cases hf
  · cases hf
def evparts (L : List (Nat × Value)) : List (Nat × Operand) → Option (List (Nat × Value))
  | [] => some []
  | (i, x) :: r => match evl L x, evparts L r with
    | some v, some vs => some ((i, v) :: vs)
    | _, _ => none
theorem Sl.evp (S : Sl n D L a) : ∀ {xs : List (Nat × Operand)} {vs : List (Nat × Value)}, evparts L xs = some vs → xs.map (fun (i, x) => (i, a.eval x)) = vs := by
  intro xs
  induction xs with
  | nil => intro vs h; simpa [evparts] using h.symm
  | cons x xs ih =>
    intro vs h
    obtain ⟨i, x⟩ := x
    simp only [evparts] at h
    split at h
    · rename_i v' vs' h1 h2; cases h; simp [S.ev h1]; simpa using ih h2
    · cases h
theorem r_build {T : TypeId} {parts : List (Nat × Operand)} {m y : Nat} {g : Bool} {z : List Value} {pl : List (Nat × Nat)} {pv : List (Nat × Value)} (S : Sl n D L a) (ht : tyI P T = some (g, m, y, z)) (hp : places P T = some pl)
    (he : evparts L parts = some pv) (vs : List Value) (hf : Instr.fill (fun i => pl[i]?) z.toArray pv = some vs.toArray) (hd : Nat.blt d n = true)
    (k : ∀ a', Sl n D ((d, .agg vs.toArray) :: L) a' → WL r P ops Q rest a' w) :
    WL r P ops Q (⟨some d, .build T parts.toArray, ty, ps, af, none⟩ :: rest) a w := by
  refine op_ok S rfl (by intro c h; cases h) rfl (blt_lt hd) (w' := w) ?_ k
  obtain ⟨d0, i, zv, q1, q2, q3, q4, q5, q6, q7⟩ := tyI_open ht
  have hz : zv.cells = z.toArray := by rw [← q7, Array.toArray_toList]
  unfold places at hp
  split at hp
  · rename_i fs h1
    have hm : ∀ (l : List Field) (pl : List (Nat × Nat)), l.mapM (fun g => (P.info? g.type).map fun i => (g.offset, i.size)) = some pl →
        (l.mapM (m := Sem) fun f => do pure (f.offset, ← sizeOf f.type)).run P w = .ok pl w := by
      intro l
      induction l with
      | nil => intro pl h; simp at h; subst h; simp [Sem.run]
      | cons g l ih =>
        intro pl h
        simp only [List.mapM_cons, Option.pure_def, Option.bind_eq_bind, Option.bind_eq_some_iff, Option.some.injEq] at h
        obtain ⟨p, h2, pl', h3, rfl⟩ := h
        obtain ⟨i, h4, rfl⟩ := Option.map_eq_some_iff.1 h2
        have hs : (sizeOf g.type).run P w = .ok i.size w := by simp [sizeOf, typeInfo, program, Sem.run_bind, Sem.run, Result.andThen, h4]
        simp only [List.mapM_cons, Sem.run_bind, hs, Sem.run_pure, Result.andThen_ok, ih pl' h3]
    have hm2 := hm _ _ hp
    have hparts : (parts.toArray.map fun (i, x) => (i, a.eval x)).toList = pv := by rw [← S.evp he]; simp
    have hmA : (fs.mapM (m := Sem) fun f => do pure (f.offset, ← sizeOf f.type)).run P w = .ok pl.toArray w := by
      rw [← Array.toArray_toList (xs := fs), List.mapM_toArray]
      generalize hgg : (fs.toList.mapM (m := Sem) fun f => do pure (f.offset, ← sizeOf f.type)) = gg at hm2 ⊢
      simp [Sem.run_bind, hm2, Sem.run, Result.andThen]
    have hfill : Instr.fill (fun i => pl[i]?) zv.cells pv = some vs.toArray := by rw [hz]; exact hf
    have hz0 : (zeroValue T).run P w = .ok zv w := by simp [zeroValue, typeInfo, program, Sem.run_bind, Sem.run, Result.andThen, q3, q6]
    simp only [execOp, Instr.build, Sem.run_bind, hz0, Result.andThen_ok, run_underlying h1, hmA]
    rw [hparts]
    simp [hfill, Sem.run, Result.andThen]
  · cases hp
end Go.Proofs.Ythlogangnppghaa.Sl
