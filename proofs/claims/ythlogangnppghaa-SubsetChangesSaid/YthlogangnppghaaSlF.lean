/- Regions whose order is drawn: a plan of steps; what only reads is taken ahead. -/
import Derived.Test.YthlogangnppghaaSlE
set_option linter.unusedVariables false
set_option linter.unusedSimpArgs false
namespace Go.Proofs.Ythlogangnppghaa.Sl
open Go

variable {r : Option Nat} {P : Program} {n : Nat} {D : List Deferred} {L : List (Nat × Value)} {a : Act} {w w0 w' : World} {ops : Array Oper} {Q : Exit → Act → World → Prop} {md : Region.Mode}

def noDefer (ops : Array Oper) : Bool := ops.all fun o => match o.op with | .defer _ => false | _ => true
def NP (Q : Exit → Act → World → Prop) : Exit → Act → World → Prop
  | .panic _, _, _ => False
  | e, a, w => Q e a w
/-- the op yields v wherever S holds, or it isn't wanted -/
def Yg (P : Program) (ops : Array Oper) (S : World → Prop) (o : Oper) (v : Value) (a : Act) : Prop :=
  (Region.wanted o (yielded ops a.tmps) = true ∧ ∀ w, S w → (execOp a.eval o).run P w = .ok (.value v) w) ∨ (Region.wanted o (yielded ops a.tmps) = false ∧ v = undef)

theorem Yg.op {S : World → Prop} {i : Nat} {o : Oper} {v : Value} (hi : ops[i]? = some o) (hnd : ∀ c, o.op ≠ .defer c) (hy : Yg P ops S o v a) (hS : S w) {K : Act → World → Prop} (h : K (a.put o.dst v) w) :
    wpOpIn (Fr r) 0 P ops Q i K a w := by
  unfold wpOpIn
  simp only [hi]
  rcases hy with ⟨h1, h2⟩ | ⟨h1, rfl⟩
  · simp only [h1, if_true, Oper.wpIn]
    rw [Oper.semAt_eq _ _ _ hnd, h2 w hS]
    exact ⟨fun _ _ => trivial, h⟩
  · simp only [h1, Bool.false_eq_true, if_false]
    exact ⟨fun _ _ => trivial, h⟩
theorem Yg.same {S : World → Prop} {o : Oper} {v : Value} {a a' : Act} (hy : Yg P ops S o v a) (hw : Region.wanted o (yielded ops a'.tmps) = Region.wanted o (yielded ops a.tmps)) (he : execOp a'.eval o = execOp a.eval o) : Yg P ops S o v a' := by
  unfold Yg; rw [hw, he]; exact hy
theorem op_put {S : World → Prop} {j : Nat} {oi oj : Oper} {v : Value} (hj : ops[j]? = some oj) (hap : oi.apart ops oj = true)
    (hsi : ∀ cs b, oi.op ≠ .select cs b) (hsj : ∀ cs b, oj.op ≠ .select cs b) (hdj : ∀ c, oj.op ≠ .defer c)
    {K : Act → World → Prop} (hy : Yg P ops S oi v a) (h : wpOpIn (Fr r) 0 P ops (NP Q) j K (a.put oi.dst v) w) :
    wpOpIn (Fr r) 0 P ops (NP Q) j (fun a' w' => Yg P ops S oi v a' ∧ K (a'.put oi.dst v) w') a w := by
  obtain ⟨h1, h2, h3⟩ := Oper.apart_spec hap
  have keep : ∀ (a : Act), Yg P ops S oi v a → ∀ u, Yg P ops S oi v (a.put oj.dst u) := fun a hy u => hy.same (wanted_put oi a oj.dst u h3) (execOp_put oi hsi a oj.dst u h3)
  unfold wpOpIn at *
  simp only [hj] at *
  rw [wanted_put oj a oi.dst v h1] at h
  split
  · rename_i hw
    simp only [hw, if_true] at h
    unfold Oper.wpIn at *
    refine ⟨fun _ _ => trivial, ?_⟩
    have h := h.2
    rw [Oper.semAt_eq _ _ _ hdj, execOp_put oj hsj a oi.dst v h1] at h
    rw [Oper.semAt_eq _ _ _ hdj]
    generalize (execOp a.eval oj).run P w = q at *
    cases q with
    | ok x w' =>
      cases x <;> simp only [Oper.uponIn] at h ⊢
      case value u => exact ⟨keep a hy u, by rw [← Act.put_comm a v u h2]; exact h⟩
      case skip => exact ⟨keep a hy _, by rw [← Act.put_comm a v undef h2]; exact h⟩
      case defer d =>
        refine ⟨?_, ?_⟩
        · exact Yg.same (a := ({ a with defers := d :: a.defers } : Act)) (hy.same rfl rfl) (wanted_put oi _ oj.dst undef h3) (execOp_put oi hsi _ oj.dst undef h3)
        · rw [← Act.put_comm _ v undef h2, ← Act.put_defers]; exact h
      case enter f args =>
        refine ⟨h.1, CallsIn.mono h.2 fun e w'' he => ?_⟩
        cases e with
        | returned u => exact ⟨keep a hy u, by rw [← Act.put_comm a v u h2]; exact he⟩
        | panicked c => exact he
        | outgrown => exact he
      case row row args => exact ⟨h.1, RowsIn.mono h.2 fun u w'' he => ⟨keep a hy u, by rw [← Act.put_comm a v u h2]; exact he⟩⟩
      case round l f tmps assign body =>
        refine ⟨h.1, RoundIn.mono h.2 fun e w'' he => ?_⟩
        cases e with
        | returned u => exact ⟨keep a hy u, by rw [← Act.put_comm a v u h2]; exact he⟩
        | panicked c => exact he
        | outgrown => exact he
    | halt x w' =>
      cases x <;> simp only [Oper.uponIn] at h ⊢
      case panic u => exact h
  · rename_i hw
    simp only [hw] at h
    exact ⟨fun _ _ => trivial, keep a hy _, by rw [← Act.put_comm a v undef h2]; exact h.2⟩


/-- whatever order; T holds at each place up to an operation in 'cl' -/
def anyT (r : Option Nat) (P : Program) (md : Region.Mode) (ops : Array Oper) (Q : Exit → Act → World → Prop) (cl : Nat → Bool) : Nat → (World → Prop) → Array Bool → Act → World → Prop
  | 0, T, listed, a, w => T w ∧ Region.ready md ops listed = [] ∧ Q .normal a w
  | f + 1, T, listed, a, w => T w ∧ (Region.ready md ops listed = [] → Q .normal a w) ∧
    ∀ i ∈ Region.ready md ops listed, wpOpIn (Fr r) 0 P ops Q i (fun a' w' => anyT r P md ops Q cl f (fun w => cl i = true ∨ T w) (listed.setIfInBounds i true) a' w') a w
theorem anyT_any {cl : Nat → Bool} : ∀ (f : Nat) {T : World → Prop} (listed : Array Bool) (a : Act) (w : World), anyT r P md ops Q cl f T listed a w → wpAnyIn (Fr r) 0 P md ops Q f listed a w
  | 0, _, _, _, _, h => h.2
  | f + 1, _, _, _, _, h => ⟨h.2.1, fun i hi => wpOpIn_mono (fun a' w' q => anyT_any f _ a' w' q) (h.2.2 i hi)⟩
theorem anyT_mono {cl : Nat → Bool} : ∀ (f : Nat) {T T' : World → Prop} {listed : Array Bool} {a : Act} {w : World}, (∀ w, T w → T' w) → anyT r P md ops Q cl f T listed a w → anyT r P md ops Q cl f T' listed a w
  | 0, _, _, _, _, _, f, h => ⟨f _ h.1, h.2⟩
  | k + 1, _, _, _, _, _, f, h => ⟨f _ h.1, h.2.1, fun i hi => wpOpIn_mono (fun a' w' q => anyT_mono k (fun w => Or.imp id (f w)) q) (h.2.2 i hi)⟩

theorem takeT {Ti : World → Prop} {cl : Nat → Bool} {i : Nat} {oi : Oper} {v : Value} (hi : ops[i]? = some oi) (hs : Region.noSelect ops = true) (hd : noDefer ops = true) :
    ∀ (f : Nat) {T : World → Prop} (listed : Array Bool) (a : Act) (w : World),
      (∀ j oj, ops[j]? = some oj → j ≠ i → listed.getD j true = false → (∀ e ∈ oj.after, Region.binds md e = true → e.on ≠ i) → oi.apart ops oj = true) →
      ((∀ w, Ti w) ∨ ∀ j oj, ops[j]? = some oj → cl j = true → listed.getD j true = false → ∃ e ∈ oj.after, Region.binds md e = true ∧ e.on = i) →
      i ∈ Region.ready md ops listed → Yg P ops Ti oi v a → Ti w → T w →
      anyT r P md ops (NP Q) cl f (fun w => T w ∧ Ti w) (listed.setIfInBounds i true) (a.put oi.dst v) w → anyT r P md ops (NP Q) cl (f + 1) T listed a w := by
  have nd : ∀ (j : Nat) (o : Oper), ops[j]? = some o → ∀ c, o.op ≠ .defer c := fun j o hj c hc => by
    have := Array.all_eq_true_iff_forall_mem.1 hd o (Array.mem_of_getElem? hj)
    simp [hc] at this
  intro f
  induction f with
  | zero =>
    intro T listed a w _ _ hr hy hTi hT H
    refine ⟨hT, fun h => (by rw [h] at hr; cases hr), fun j hj => ?_⟩
    by_cases hji : j = i
    · subst hji; exact hy.op hi (nd _ _ hi) hTi ⟨.inr hT, H.2⟩
    · have := ready_mono hj hji
      rw [H.2.1] at this
      cases this
  | succ f ih =>
    intro T listed a w hfree hcl hr hy hTi hT H
    refine ⟨hT, fun h => (by rw [h] at hr; cases hr), fun j hj => ?_⟩
    by_cases hji : j = i
    · subst hji; exact hy.op hi (nd _ _ hi) hTi (anyT_mono _ (fun w q => .inr q.1) H)
    · have h1 := H.2.2 j (ready_mono hj hji)
      obtain ⟨hjun, oj, hoj, hall⟩ := mem_ready.1 hj
      have hnot : ∀ e ∈ oj.after, Region.binds md e = true → e.on ≠ i := fun e he hb heq => by
        have h1 := hall e he hb
        have h0 := (mem_ready.1 hr).1
        rw [heq] at h1
        rcases Nat.lt_or_ge i listed.size with h' | h'
        · simp [h'] at h0 h1; rw [h0] at h1; cases h1
        · simp [Array.getElem?_eq_none h'] at h1
      have h2 := op_put hoj (hfree j oj hoj hji hjun hnot) (fun cs b => Region.noSelect_spec hs i oi cs b hi) (fun cs b => Region.noSelect_spec hs j oj cs b hoj) (nd _ _ hoj) hy h1
      have un : ∀ k, k ≠ i → (listed.setIfInBounds j true).getD k true = false → listed.getD k true = false := fun k hki hun => by
        by_cases hjk : j = k
        · subst hjk; exact hjun
        · rw [getD_set_ne true hjk] at hun; exact hun
      have hfree' : ∀ k ok, ops[k]? = some ok → k ≠ i → (listed.setIfInBounds j true).getD k true = false →
          (∀ e ∈ ok.after, Region.binds md e = true → e.on ≠ i) → oi.apart ops ok = true := fun k ok hk hki hun hno => hfree k ok hk hki (un k hki hun) hno
      have iun : listed.getD i true = false := (mem_ready.1 hr).1
      have hcl' : (∀ w, Ti w) ∨ ∀ k ok, ops[k]? = some ok → cl k = true → (listed.setIfInBounds j true).getD k true = false → ∃ e ∈ ok.after, Region.binds md e = true ∧ e.on = i := by
        rcases hcl with h | h
        · exact .inl h
        · refine .inr fun k ok hk hc hun => h k ok hk hc ?_
          by_cases hki : k = i
          · subst hki; exact iun
          · exact un k hki hun
      have imp : ∀ w, (cl j = true ∨ (T w ∧ Ti w)) → ((cl j = true ∨ T w) ∧ Ti w) := fun w q => by
        rcases hcl with h | h
        · exact ⟨q.imp id (·.1), h w⟩
        · rcases q with q | q
          · obtain ⟨e, he, hb, hon⟩ := h j oj hoj q hjun; exact absurd hon (hnot e he hb)
          · exact ⟨.inr q.1, q.2⟩
      refine wpOpIn_mono (fun a' w' h3 => ?_) h2
      obtain ⟨h3, h4⟩ := h3
      have h5 := anyT_mono _ imp h4
      have h6 : (cl j = true ∨ T w') ∧ Ti w' := by cases f <;> exact h5.1
      refine ih (listed.setIfInBounds j true) a' w' hfree' hcl' (ready_mono hr (Ne.symm hji)) h3 h6.2 h6.1 ?_
      rw [Array.setIfInBounds_comm _ _ hji]
      exact h5

/-! ### plans -/
inductive Stp
  | pu (i : Nat)
  | rd (i : Nat)
  | ef (i : Nat)
  | ds (i : Nat)
def lkO : List Oper → Nat → Oper
  | [], _ => default
  | o :: _, 0 => o
  | _ :: l, k + 1 => lkO l k
theorem lkO_get : ∀ (l : List Oper) (i : Nat) (o : Oper), l[i]? = some o → lkO l i = o
  | [], _, _, h => by simp at h
  | x :: l, 0, o, h => by simpa [lkO] using h
  | x :: l, i + 1, o, h => lkO_get l i o (by simpa using h)
def waitsAll (md : Region.Mode) (ops : Array Oper) (cl : Nat → Bool) (listed : Array Bool) (i : Nat) : Bool := (List.range ops.size).all fun j => !cl j || listed.getD j true || match ops[j]? with
  | some oj => oj.after.any fun e => Region.binds md e && e.on == i
  | none => true
def okS (md : Region.Mode) (ops : Array Oper) (cl : Nat → Bool) : List Stp → Array Bool → Bool
  | [], listed => (Region.ready md ops listed).isEmpty
  | .pu i :: l, listed => (Region.ready md ops listed).contains i && Region.free md ops listed i && okS md ops cl l (listed.setIfInBounds i true)
  | .rd i :: l, listed => (Region.ready md ops listed).contains i && Region.free md ops listed i && waitsAll md ops cl listed i && okS md ops cl l (listed.setIfInBounds i true)
  | .ef i :: l, listed => (match Region.ready md ops listed with | [j] => j == i | _ => false) && !cl i && okS md ops cl l (listed.setIfInBounds i true)
  | .ds i :: l, listed => (match Region.ready md ops listed with | [j] => j == i | _ => false) && cl i && okS md ops cl l (listed.setIfInBounds i true)
def cls : List Stp → Nat → Bool
  | [], _ => false
  | .ds j :: l, i => Nat.beq j i || cls l i
  | _ :: l, i => cls l i
def stepsW (r : Option Nat) (P : Program) (ol : List Oper) (Q : Exit → Act → World → Prop) : (World → Prop) → List Stp → Act → World → Prop
  | T, [], a, w => Q .normal a w
  | T, .pu i :: l, a, w => ∃ v, Yg P ol.toArray (fun _ => True) (lkO ol i) v a ∧ stepsW r P ol Q T l (a.put (lkO ol i).dst v) w
  | T, .rd i :: l, a, w => ∃ v, ∃ Ti : World → Prop, Ti w ∧ Yg P ol.toArray Ti (lkO ol i) v a ∧ stepsW r P ol Q (fun w => T w ∧ Ti w) l (a.put (lkO ol i).dst v) w
  | T, .ef i :: l, a, w => WL r P ol.toArray (Exit.then (fun a' w' => T w' ∧ stepsW r P ol Q T l a' w') (NP Q)) [lkO ol i] a w
  | T, .ds i :: l, a, w => WL r P ol.toArray (Exit.then (fun a' w' => stepsW r P ol Q (fun _ => True) l a' w') (NP Q)) [lkO ol i] a w
theorem wl_one {K : Act → World → Prop} {i : Nat} {o : Oper} (hi : ops[i]? = some o) (h : WL r P ops (Exit.then K (NP Q)) [o] a w) : wpOpIn (Fr r) 0 P ops (NP Q) i K a w := by
  unfold WL wpListIn at h
  unfold wpOpIn
  simp only [hi]
  split
  · rename_i hw
    rw [if_pos hw] at h
    unfold Oper.wpIn at h ⊢
    refine ⟨h.1, ?_⟩
    have h := h.2
    generalize (o.semAt (Fr r).round a.eval).run P w = q at *
    cases q with
    | ok x w' =>
      cases x <;> simp only [Oper.uponIn] at h ⊢
      case value u => exact h
      case skip => exact h
      case defer d => exact h
      case enter f args =>
        refine ⟨h.1, CallsIn.mono h.2 fun e w'' he => ?_⟩
        cases e with
        | returned u => exact he
        | panicked c => exact he
        | outgrown => exact he
      case row row args => exact ⟨h.1, RowsIn.mono h.2 fun u w'' he => he⟩
      case round l f tmps assign body =>
        refine ⟨h.1, RoundIn.mono h.2 fun e w'' he => ?_⟩
        cases e with
        | returned u => exact he
        | panicked c => exact he
        | outgrown => exact he
    | halt x w' =>
      cases x <;> simp only [Oper.uponIn] at h ⊢
      case panic u => exact h
  · rename_i hw
    rw [if_neg hw] at h
    exact h
theorem one_ready {listed : Array Bool} {i j : Nat} (h : (match Region.ready md ops listed with | [j] => j == i | _ => false) = true) (hj : j ∈ Region.ready md ops listed) : j = i ∧ ∃ o, ops[i]? = some o := by
  cases hr : Region.ready md ops listed with
  | nil => rw [hr] at h; simp at h
  | cons k q =>
    rw [hr] at h
    cases q with
    | cons => simp at h
    | nil =>
      have : k = i := by simpa using h
      subst this
      rw [hr] at hj
      have : j = k := by simpa using hj
      subst this
      have hm : j ∈ Region.ready md ops listed := by rw [hr]; simp
      obtain ⟨_, o, ho, _⟩ := mem_ready.1 hm
      exact ⟨rfl, o, ho⟩
theorem steps_ok {ol : List Oper} {cl : Nat → Bool} (hs : Region.noSelect ol.toArray = true) (hd : noDefer ol.toArray = true) : ∀ (l : List Stp) (T : World → Prop) (listed : Array Bool) (a : Act) (w : World), okS md ol.toArray cl l listed = true → T w →
    stepsW r P ol Q T l a w → anyT r P md ol.toArray (NP Q) cl l.length T listed a w
  | [], T, listed, a, w, hB, hT, h => ⟨hT, by simpa [okS] using hB, h⟩
  | .pu i :: l, T, listed, a, w, hB, hT, h => by
    obtain ⟨v, hy, h⟩ := h
    simp only [okS, Bool.and_eq_true] at hB
    obtain ⟨⟨h1, h2⟩, h3⟩ := hB
    have hr : i ∈ Region.ready md ol.toArray listed := by simpa using h1
    obtain ⟨_, o, ho, _⟩ := mem_ready.1 hr
    have he : lkO ol i = o := lkO_get ol i o (by simpa using ho)
    rw [he] at hy h
    exact takeT (Ti := fun _ => True) ho hs hd l.length listed a w (Region.free_spec ho h2) (.inl fun _ => trivial) hr hy trivial hT (anyT_mono _ (fun w q => ⟨q, trivial⟩) (steps_ok hs hd l T _ _ _ h3 hT h))
  | .rd i :: l, T, listed, a, w, hB, hT, h => by
    obtain ⟨v, Ti, hTi, hy, h⟩ := h
    simp only [okS, Bool.and_eq_true] at hB
    obtain ⟨⟨⟨h1, h2⟩, h4⟩, h3⟩ := hB
    have hr : i ∈ Region.ready md ol.toArray listed := by simpa using h1
    obtain ⟨_, o, ho, _⟩ := mem_ready.1 hr
    have he : lkO ol i = o := lkO_get ol i o (by simpa using ho)
    rw [he] at hy h
    refine takeT (Ti := Ti) ho hs hd l.length listed a w (Region.free_spec ho h2) (.inr fun j oj hj hc hun => ?_) hr hy hTi hT (steps_ok hs hd l _ _ _ _ h3 ⟨hT, hTi⟩ h)
    simp only [waitsAll, List.all_eq_true, List.mem_range] at h4
    have := h4 j (Array.getElem?_eq_some_iff.1 hj).1
    simp only [hj, hc, hun, Bool.not_true, Bool.false_or, Array.any_eq_true, Bool.and_eq_true, beq_iff_eq] at this
    obtain ⟨k, hk, hb, hon⟩ := this
    exact ⟨oj.after[k], Array.getElem_mem hk, hb, hon⟩
  | .ef i :: l, T, listed, a, w, hB, hT, h => by
    simp only [okS, Bool.and_eq_true] at hB
    obtain ⟨⟨h1, h2⟩, h3⟩ := hB
    refine ⟨hT, fun q => (by rw [q] at h1; simp at h1), fun j hj => ?_⟩
    obtain ⟨rfl, o, ho⟩ := one_ready h1 hj
    have he : lkO ol j = o := lkO_get ol j o (by simpa using ho)
    unfold stepsW at h
    rw [he] at h
    refine wpOpIn_mono (fun a' w' q => anyT_mono _ (fun w q => .inr q) (steps_ok hs hd l T _ _ _ h3 q.1 q.2)) (wl_one ho h)
  | .ds i :: l, T, listed, a, w, hB, hT, h => by
    simp only [okS, Bool.and_eq_true] at hB
    obtain ⟨⟨h1, h2⟩, h3⟩ := hB
    refine ⟨hT, fun q => (by rw [q] at h1; simp at h1), fun j hj => ?_⟩
    obtain ⟨rfl, o, ho⟩ := one_ready h1 hj
    have he : lkO ol j = o := lkO_get ol j o (by simpa using ho)
    unfold stepsW at h
    rw [he] at h
    refine wpOpIn_mono (fun a' w' q => anyT_mono _ (fun w q => .inl h2) (steps_ok hs hd l (fun _ => True) _ _ _ h3 trivial q)) (wl_one ho h)
theorem NP.imp : ∀ (e : Exit) (a : Act) (w : World), NP Q e a w → Q e a w := fun e a w h => by
  cases e <;> first | exact h | exact h.elim
theorem w_draw {id : Nat} {ol : List Oper} (hm : P.follows .mixedOrders = true) (l : List Stp) (h0 : (Region.noSelect ol.toArray && noDefer ol.toArray && okS .any ol.toArray (cls l) l (Array.replicate ol.toArray.size false)) = true)
    (hn : Nat.beq l.length ol.length = true) (h : stepsW r P ol Q (fun _ => True) l a { w with drawn := w.drawn + 1 }) : W r P (.region id ol.toArray true) Q a w := by
  simp only [Bool.and_eq_true] at h0
  obtain ⟨⟨h1, h2⟩, h3⟩ := h0
  have hn' := Nat.eq_of_beq_eq_true hn
  refine wpIn_mono (Q := NP Q) (wpIn_region_any hm (anyT_any (T := fun _ => True) (cl := cls l) _ _ _ _ ?_)) NP.imp
  have := steps_ok (md := .any) (cl := cls l) h1 h2 l (fun _ => True) _ a _ h3 trivial h
  rw [hn'] at this
  simpa using this
variable {ol : List Oper} {T : World → Prop} {l : List Stp} {v : Value} {i d : Nat} {o : Oper}
theorem g_none (ht : o.guard = none) : Region.wanted o (yielded ops a.tmps) = true := by unfold Region.wanted; rw [ht]
theorem g_val {dst : Option Nat} {op : Op} {ty : TypeId} {ps : String} {af : Array Edge} {j : Nat} {b b' : Bool} {t : Nat} (S : Sl n D L a) (hj : (lkO ol j).dst = some t) (hjl : Nat.blt j ol.length = true) (ht : lk t L = some (.bool b')) (htn : Nat.blt t n = true) :
    Region.wanted ⟨dst, op, ty, ps, af, some (j, b)⟩ (yielded ol.toArray a.tmps) = (b' == b) := by
  have hlt := blt_lt hjl
  have hj' : (ol.toArray[j]?).bind (·.dst) = some t := by
    have h1 : ol[j]? = some ol[j] := List.getElem?_eq_getElem hlt
    rw [List.getElem?_toArray, h1, Option.bind_some, ← lkO_get ol j _ h1, hj]
  have e : yielded ol.toArray a.tmps j = some b' := by
    have h1 := S.sl t _ ht
    have h2 : t < a.tmps.size := by rw [S.sz]; exact blt_lt htn
    simp only [yielded, hj', Option.bind_some]
    rw [Array.getElem?_eq_getElem h2]
    simp only [Array.getD, h2, dite_true] at h1
    have h3 : a.tmps[t] = .bool b' := h1
    rw [h3]
  simp only [Region.wanted, e]; cases b <;> cases b' <;> rfl
theorem g_on {dst : Option Nat} {op : Op} {ty : TypeId} {ps : String} {af : Array Edge} {j : Nat} {b b' : Bool} {t : Nat} (S : Sl n D L a) (hj : (lkO ol j).dst = some t) (hjl : Nat.blt j ol.length = true) (ht : lk t L = some (.bool b')) (htn : Nat.blt t n = true) (hb : b' = b) :
    Region.wanted ⟨dst, op, ty, ps, af, some (j, b)⟩ (yielded ol.toArray a.tmps) = true := by rw [g_val S hj hjl ht htn, hb]; simp
theorem g_off {dst : Option Nat} {op : Op} {ty : TypeId} {ps : String} {af : Array Edge} {j : Nat} {b b' : Bool} {t : Nat} (S : Sl n D L a) (hj : (lkO ol j).dst = some t) (hjl : Nat.blt j ol.length = true) (ht : lk t L = some (.bool b')) (htn : Nat.blt t n = true) (hb : b' = !b) :
    Region.wanted ⟨dst, op, ty, ps, af, some (j, b)⟩ (yielded ol.toArray a.tmps) = false := by rw [g_val S hj hjl ht htn, hb]; cases b <;> rfl
theorem g_offU {dst : Option Nat} {op : Op} {ty : TypeId} {ps : String} {af : Array Edge} {j : Nat} {b : Bool} {t : Nat} (S : Sl n D L a) (hj : (lkO ol j).dst = some t) (hjl : Nat.blt j ol.length = true) (ht : lk t L = some undef) (htn : Nat.blt t n = true) :
    Region.wanted ⟨dst, op, ty, ps, af, some (j, b)⟩ (yielded ol.toArray a.tmps) = false := by
  have hlt := blt_lt hjl
  have hj' : (ol.toArray[j]?).bind (·.dst) = some t := by
    have h1 : ol[j]? = some ol[j] := List.getElem?_eq_getElem hlt
    rw [List.getElem?_toArray, h1, Option.bind_some, ← lkO_get ol j _ h1, hj]
  have e : yielded ol.toArray a.tmps j = none := by
    have h1 := S.sl t _ ht
    have h2 : t < a.tmps.size := by rw [S.sz]; exact blt_lt htn
    simp only [yielded, hj', Option.bind_some]
    rw [Array.getElem?_eq_getElem h2]
    simp only [Array.getD, h2, dite_true] at h1
    have h3 : a.tmps[t] = undef := h1
    rw [h3]; rfl
  simp only [Region.wanted, e]; rfl
theorem r_offU {ops : Array Oper} {Q : Exit → Act → World → Prop} {rest : List Oper} {dst : Option Nat} {op : Op} {ty : TypeId} {ps : String} {af : Array Edge} {j : Nat} {b : Bool} {t : Nat} (S : Sl n D L a)
    (hj : (ops[j]?).bind (·.dst) = some t) (ht : lk t L = some undef) (htn : Nat.blt t n = true) (k : ∀ a', Sl n D (match dst with | some d => (d, undef) :: L | none => L) a' → WL r P ops Q rest a' w)
    (hd : (match dst with | some d => Nat.blt d n | none => true) = true) :
    WL r P ops Q (⟨dst, op, ty, ps, af, some (j, b)⟩ :: rest) a w := by
  have e : yielded ops a.tmps j = none := by
    have h1 := S.sl t _ ht
    have h2 : t < a.tmps.size := by rw [S.sz]; exact blt_lt htn
    simp only [yielded, hj, Option.bind_some]
    rw [Array.getElem?_eq_getElem h2]
    simp only [Array.getD, h2, dite_true] at h1
    have h3 : a.tmps[t] = undef := h1
    rw [h3]; rfl
  have hw : Region.wanted ⟨dst, op, ty, ps, af, some (j, b)⟩ (yielded ops a.tmps) = false := by
    simp only [Region.wanted, e]; rfl
  unfold WL wpListIn
  rw [if_neg (by rw [hw]; simp)]
  refine ⟨fun _ _ => trivial, ?_⟩
  cases dst with
  | none => exact k _ S
  | some d => exact k _ (S.put (blt_lt hd) undef)
theorem st_nil (h : Q .normal a w) : stepsW r P ol Q T [] a w := h
theorem st_pu (A : Sl n D L a) (hi : lkO ol i = o) (hw : Region.wanted o (yielded ol.toArray a.tmps) = true) (hdst : o.dst = some d) (hd : Nat.blt d n = true)
    (hy : ∀ w, (execOp a.eval o).run P w = .ok (.value v) w) (k : ∀ a', Sl n D ((d, v) :: L) a' → stepsW r P ol Q T l a' w) : stepsW r P ol Q T (.pu i :: l) a w := by
  subst hi
  exact ⟨v, .inl ⟨hw, fun w _ => hy w⟩, by rw [hdst]; exact k _ (A.put (blt_lt hd) v)⟩
theorem st_puOff (A : Sl n D L a) (hi : lkO ol i = o) (hw : Region.wanted o (yielded ol.toArray a.tmps) = false) (hdst : o.dst = some d) (hd : Nat.blt d n = true)
    (k : ∀ a', Sl n D ((d, undef) :: L) a' → stepsW r P ol Q T l a' w) : stepsW r P ol Q T (.pu i :: l) a w := by
  subst hi
  exact ⟨undef, .inr ⟨hw, rfl⟩, by rw [hdst]; exact k _ (A.put (blt_lt hd) undef)⟩
theorem st_rd (A : Sl n D L a) (hi : lkO ol i = o) (hw : Region.wanted o (yielded ol.toArray a.tmps) = true) (hdst : o.dst = some d) (hd : Nat.blt d n = true)
    (hy : (execOp a.eval o).run P w = .ok (.value v) w) (k : ∀ a', Sl n D ((d, v) :: L) a' → stepsW r P ol Q (fun w => T w ∧ (execOp a.eval o).run P w = .ok (.value v) w) l a' w) : stepsW r P ol Q T (.rd i :: l) a w := by
  subst hi
  exact ⟨v, _, hy, .inl ⟨hw, fun w q => q⟩, by rw [hdst]; exact k _ (A.put (blt_lt hd) v)⟩
theorem st_rdOff (A : Sl n D L a) (hi : lkO ol i = o) (hw : Region.wanted o (yielded ol.toArray a.tmps) = false) (hdst : o.dst = some d) (hd : Nat.blt d n = true)
    (k : ∀ a', Sl n D ((d, undef) :: L) a' → stepsW r P ol Q (fun w => T w ∧ True) l a' w) : stepsW r P ol Q T (.rd i :: l) a w := by
  subst hi
  exact ⟨undef, fun _ => True, trivial, .inr ⟨hw, rfl⟩, by rw [hdst]; exact k _ (A.put (blt_lt hd) undef)⟩
theorem st_ef (hi : lkO ol i = o) (h : WL r P ol.toArray (Exit.then (fun a' w' => T w' ∧ stepsW r P ol Q T l a' w') (NP Q)) [o] a w) : stepsW r P ol Q T (.ef i :: l) a w := by subst hi; exact h
theorem st_ds (hi : lkO ol i = o) (h : WL r P ol.toArray (Exit.then (fun a' w' => stepsW r P ol Q (fun _ => True) l a' w') (NP Q)) [o] a w) : stepsW r P ol Q T (.ds i :: l) a w := by subst hi; exact h
/-- plain ones, many at once -/
def pevsI (n : Nat) (ol : List Oper) : List (Nat × Value) → List Nat → Option (List (Nat × Value))
  | L, [] => some L
  | L, i :: r => match lkO ol i with
    | ⟨some d, op, _, _, _, none⟩ => match pev L op with
      | some v => cond (Nat.blt d n) (pevsI n ol ((d, v) :: L) r) none
      | none => none
    | _ => none
def pus : List Nat → List Stp → List Stp
  | [], l => l
  | i :: is, l => .pu i :: pus is l
theorem st_pures : ∀ (is : List Nat) {L L' : List (Nat × Value)} {a : Act}, Sl n D L a → pevsI n ol L is = some L' →
    (∀ a', Sl n D L' a' → stepsW r P ol Q T l a' w) → stepsW r P ol Q T (pus is l) a w
  | [], L, L', a, S, h, k => by simp only [pevsI, Option.some.injEq] at h; subst h; exact k _ S
  | i :: is, L, L', a, S, h, k => by
    simp only [pevsI] at h
    split at h
    · rename_i d op ty ps af hi
      split at h
      · rename_i v hv
        cases hb : Nat.blt d n with
        | false => rw [hb] at h; cases h
        | true =>
          rw [hb] at h
          exact st_pu S hi (g_none rfl) rfl hb (fun w => (pev_ok S hv (some d) ty ps af).1) fun a' S' => st_pures is S' h k
      · cases h
    · cases h
end Go.Proofs.Ythlogangnppghaa.Sl
