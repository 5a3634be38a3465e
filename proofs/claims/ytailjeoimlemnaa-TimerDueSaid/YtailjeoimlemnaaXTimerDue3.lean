/- The law TimerDue of the seat Ytailjeoimlemnaa: whatever the input, the call ends, answers true, and what came in reads as it did. This text is part 3 of 3, joined out of the session's texts. -/
import Derived.Test.YtailjeoimlemnaaXTimerDue2
import Derived.Test.YtailjeoimlemnaaRows
import Derived.Test.YtailjeoimlemnaaChecked
import Derived.WalkKit
import Derived.ProofKit
import Derived.OpenShut
import Derived.ShutString
import Derived.ChangeOld
import Derived.Below
import Derived.SizedLaws
/- Timers: the check of a queue, by the program and by the page. -/
set_option linter.unusedVariables false
set_option linter.unusedSimpArgs false
namespace Go.Proofs.Ytailjeoimlemnaa.M
open Go Go.Proofs.Ytailjeoimlemnaa.Sl

def mays (l : List T) : Prop := ∀ i, i < l.length → may (g l i)
def dist (l : List T) : Prop := ∀ i, i < l.length → ∀ j, j < i → (g l i).ID ≠ (g l j).ID
structure Good (l : List T) : Prop where
  len : l.length ≤ 1024
  may : mays l
  dist : dist l
  heap : Hp' l

variable {l : List T}
theorem c_l0 (hl : l.length ≤ 1024) {r : Int} (hr : Ev (fun k => (timer_Check.l1 k l 0 ([] : List (Int × Bool))).bind fun v_ => (match v_ with | (Sum.inl q_) => some q_ | (Sum.inr (_)) => (timer_Check.l2 k l 0).bind fun v_ => (match v_ with | (Sum.inl q_) => some q_ | (Sum.inr (_)) => some 0))) r)
    (h : mays l) : Ev (fun k => timer_Check.l0 k l 0) r := by
  refine scan_all (n := l.length) (p := fun i => ¬ may (g l i)) (fun i hi hp r hr => ?_) (fun j hj q => q (h j hj)) ?_
  · refine Ev.succ ?_
    simp only [timer_Check.l0]
    refine Ev.pos (by omega) (Ev.pos (by omega) ?_)
    simp only [g_rd, odd_ok, Option.bind_some]
    refine Ev.neg (by simpa using hp) ?_
    rw [W_succ (by omega)]; exact hr
  · refine Ev.succ ?_
    simp only [timer_Check.l0]
    exact Ev.neg (by omega) hr
theorem c_l0n (hl : l.length ≤ 1024) (h : ¬ mays l) : Ev (fun k => timer_Check.l0 k l 0) 4 := by
  refine scan_hit (n := l.length) (p := fun i => ¬ may (g l i)) (fun i hi hp r hr => ?_) ?_ (fun i hi hp _ => ?_)
  · refine Ev.succ ?_
    simp only [timer_Check.l0]
    refine Ev.pos (by omega) (Ev.pos (by omega) ?_)
    simp only [g_rd, odd_ok, Option.bind_some]
    refine Ev.neg (by simpa using hp) ?_
    rw [W_succ (by omega)]; exact hr
  · simp only [mays, Classical.not_forall] at h
    obtain ⟨i, hi, hp⟩ := h; exact ⟨i, hi, hp⟩
  · refine Ev.succ ?_
    simp only [timer_Check.l0]
    refine Ev.pos (by omega) (Ev.pos (by omega) ?_)
    simp only [g_rd, odd_ok, Option.bind_some]
    exact Ev.pos (by simpa using hp) Ev.ret
/-- what the map knows -/
theorem c_l1 (hl : l.length ≤ 1024) : ∀ (d i : Nat) (m : List (Int × Bool)), i + d = l.length → (∀ x, mget m x false = true ↔ ∃ j, j < i ∧ (g l j).ID = x) → (∀ a, a < i → ∀ j, j < a → (g l a).ID ≠ (g l j).ID) →
    (dist l → Ev (fun k => timer_Check.l1 k l i m) (Sum.inr ())) ∧ (¬ dist l → Ev (fun k => timer_Check.l1 k l i m) (Sum.inl 6))
  | 0, i, m, h1, h2, h3 => by
    refine ⟨fun _ => ?_, fun h => absurd (fun a ha => h3 a (by omega)) h⟩
    refine Ev.succ ?_
    simp only [timer_Check.l1]
    exact Ev.neg (by omega) Ev.ret
  | d + 1, i, m, h1, h2, h3 => by
    by_cases hm : ∃ j, j < i ∧ (g l j).ID = (g l i).ID
    · have hv := (h2 _).2 hm
      refine ⟨fun h => ?_, fun _ => ?_⟩
      · obtain ⟨j, hj, e⟩ := hm
        exact absurd e.symm (h i (by omega) j hj)
      · refine Ev.succ ?_
        simp only [timer_Check.l1]
        refine Ev.pos (by omega) (Ev.pos (by omega) ?_)
        simp only [g_rd]
        exact Ev.pos hv Ev.ret
    · have hv : ¬ mget m (g l i).ID false = true := fun h => hm ((h2 _).1 h)
      have ih := c_l1 hl d (i + 1) (mput m (g l i).ID true) (by omega) (fun x => by
        rw [mget_mput]
        by_cases e : (g l i).ID = x
        · rw [if_pos e]; exact ⟨fun _ => ⟨i, by omega, e⟩, fun _ => rfl⟩
        · rw [if_neg e, h2]
          constructor
          · rintro ⟨j, hj, q⟩; exact ⟨j, by omega, q⟩
          · rintro ⟨j, hj, q⟩
            refine ⟨j, ?_, q⟩
            rcases Nat.lt_or_ge j i with h | h
            · exact h
            · have : j = i := by omega
              subst this; exact absurd q e) (fun a ha j hj q => by
        rcases Nat.lt_or_ge a i with h | h
        · exact h3 a h j hj q
        · have : a = i := by omega
          subst this; exact hm ⟨j, hj, q.symm⟩)
      have step : ∀ r, Ev (fun k => timer_Check.l1 k l ((i + 1 : Nat) : Int) (mput m (g l i).ID true)) r → Ev (fun k => timer_Check.l1 k l i m) r := fun r hr => by
        refine Ev.succ ?_
        simp only [timer_Check.l1]
        refine Ev.pos (by omega) (Ev.pos (by omega) ?_)
        simp only [g_rd]
        refine Ev.neg hv ?_
        rw [W_succ (by omega)]; exact hr
      exact ⟨fun h => step _ (ih.1 h), fun h => step _ (ih.2 h)⟩
theorem c_l2s (hl : l.length ≤ 1024) (i : Nat) (hi : i < l.length) {r : Sum Int Unit} (b : Bool) (hb : b = decide (0 < i ∧ lt (g l i) (g l ((i - 1) / 2))))
    (hr : Ev (fun k => if b = true then (some (Sum.inl 9)) else (timer_Check.l2 k l ((i + 1 : Nat) : Int))) r) : Ev (fun k => timer_Check.l2 k l i) r := by
  refine Ev.succ ?_
  simp only [timer_Check.l2]
  refine Ev.pos (by omega) (Ev.bind (x := b) ?_ ?_)
  · by_cases h0 : 0 < i
    · refine Ev.pos (by omega) ?_
      rw [par_ok h0 (by omega)]
      refine Ev.bind (ahead_ok (i := i) (j := (i - 1) / 2) hi (by omega)) ?_
      have : b = decide (lt (g l i) (g l ((i - 1) / 2))) := by rw [hb]; simp [h0]
      rw [this]; exact Ev.ret
    · refine Ev.neg (by omega) ?_
      have : b = false := by rw [hb]; simp [h0]
      rw [this]; exact Ev.ret
  · rw [W_succ (by omega)]; exact hr
theorem c_l2 (hl : l.length ≤ 1024) (h : Hp' l) : Ev (fun k => timer_Check.l2 k l 0) (Sum.inr ()) := by
  refine scan_all (n := l.length) (p := fun i => 0 < i ∧ lt (g l i) (g l ((i - 1) / 2))) (fun i hi hp r hr => c_l2s hl i hi false (by simpa using hp) (Ev.neg (by simp) hr)) (fun j hj q => h j hj q.1 q.2) ?_
  refine Ev.succ ?_
  simp only [timer_Check.l2]
  exact Ev.neg (by omega) Ev.ret
theorem c_l2n (hl : l.length ≤ 1024) (h : ¬ Hp' l) : Ev (fun k => timer_Check.l2 k l 0) (Sum.inl 9) := by
  refine scan_hit (n := l.length) (p := fun i => 0 < i ∧ lt (g l i) (g l ((i - 1) / 2))) (fun i hi hp r hr => c_l2s hl i hi false (by simpa using hp) (Ev.neg (by simp) hr)) ?_ (fun i hi hp _ => c_l2s hl i hi true (by simpa using hp) (Ev.pos rfl Ev.ret))
  simp only [Hp', Classical.not_forall, Classical.not_not] at h
  obtain ⟨i, hi, h0, hp⟩ := h
  exact ⟨i, hi, h0, hp⟩

/-! ### the page's -/
theorem r_l0 (hl : l.length ≤ 1024) {r : Int} (hr : Ev (fun k => (waybillref20_Check.l1 k l 0).bind fun v_ => (match v_ with | (Sum.inl q_) => some q_ | (Sum.inr (_)) => (waybillref20_Check.l3 k l 1).bind fun v_ => (match v_ with | (Sum.inl q_) => some q_ | (Sum.inr (_)) => some 0))) r)
    (h : mays l) : Ev (fun k => waybillref20_Check.l0 k l 0) r := by
  refine scan_all (n := l.length) (p := fun i => ¬ may (g l i)) (fun i hi hp r hr => ?_) (fun j hj q => q (h j hj)) ?_
  · refine Ev.succ ?_
    simp only [waybillref20_Check.l0]
    refine Ev.pos (by omega) (Ev.pos (by omega) ?_)
    simp only [g_rd, may_ok, Option.bind_some]
    refine Ev.pos (by simpa using hp) ?_
    rw [W_succ (by omega)]; exact hr
  · refine Ev.succ ?_
    simp only [waybillref20_Check.l0]
    exact Ev.neg (by omega) hr
theorem r_l0n (hl : l.length ≤ 1024) (h : ¬ mays l) : Ev (fun k => waybillref20_Check.l0 k l 0) 4 := by
  refine scan_hit (n := l.length) (p := fun i => ¬ may (g l i)) (fun i hi hp r hr => ?_) ?_ (fun i hi hp _ => ?_)
  · refine Ev.succ ?_
    simp only [waybillref20_Check.l0]
    refine Ev.pos (by omega) (Ev.pos (by omega) ?_)
    simp only [g_rd, may_ok, Option.bind_some]
    refine Ev.pos (by simpa using hp) ?_
    rw [W_succ (by omega)]; exact hr
  · simp only [mays, Classical.not_forall] at h
    obtain ⟨i, hi, hp⟩ := h; exact ⟨i, hi, hp⟩
  · refine Ev.succ ?_
    simp only [waybillref20_Check.l0]
    refine Ev.pos (by omega) (Ev.pos (by omega) ?_)
    simp only [g_rd, may_ok, Option.bind_some]
    exact Ev.neg (by simpa using hp) Ev.ret
theorem r_l2 (hl : l.length ≤ 1024) {i : Nat} (hi : i < l.length) (h : ∀ j, j < i → (g l i).ID ≠ (g l j).ID) : Ev (fun k => waybillref20_Check.l2 k l i 0) (Sum.inr ()) := by
  refine scan_all (n := i) (p := fun j => (g l i).ID = (g l j).ID) (fun j hj hp r hr => ?_) (fun j hj q => h j hj q) ?_
  · refine Ev.succ ?_
    simp only [waybillref20_Check.l2]
    refine Ev.pos (by omega) (Ev.pos (by omega) (Ev.pos (by omega) (Ev.pos (by omega) (Ev.pos (by omega) ?_))))
    simp only [g_rd]
    refine Ev.neg hp ?_
    rw [W_succ (by omega)]; exact hr
  · refine Ev.succ ?_
    simp only [waybillref20_Check.l2]
    exact Ev.neg (by omega) Ev.ret
theorem r_l2n (hl : l.length ≤ 1024) {i : Nat} (hi : i < l.length) (h : ¬ ∀ j, j < i → (g l i).ID ≠ (g l j).ID) : Ev (fun k => waybillref20_Check.l2 k l i 0) (Sum.inl 6) := by
  refine scan_hit (n := i) (p := fun j => (g l i).ID = (g l j).ID) (fun j hj hp r hr => ?_) ?_ (fun j hj hp _ => ?_)
  · refine Ev.succ ?_
    simp only [waybillref20_Check.l2]
    refine Ev.pos (by omega) (Ev.pos (by omega) (Ev.pos (by omega) (Ev.pos (by omega) (Ev.pos (by omega) ?_))))
    simp only [g_rd]
    refine Ev.neg hp ?_
    rw [W_succ (by omega)]; exact hr
  · simp only [Classical.not_forall, Classical.not_not] at h
    obtain ⟨j, hj, q⟩ := h; exact ⟨j, hj, q⟩
  · refine Ev.succ ?_
    simp only [waybillref20_Check.l2]
    refine Ev.pos (by omega) (Ev.pos (by omega) (Ev.pos (by omega) (Ev.pos (by omega) (Ev.pos (by omega) ?_))))
    simp only [g_rd]
    exact Ev.pos hp Ev.ret
theorem r_l1s (hl : l.length ≤ 1024) (i : Nat) (hi : i < l.length) (hp : ¬ ¬ ∀ j, j < i → (g l i).ID ≠ (g l j).ID) (r : Sum Int Unit) (hr : Ev (fun k => waybillref20_Check.l1 k l ((i + 1 : Nat) : Int)) r) : Ev (fun k => waybillref20_Check.l1 k l i) r := by
  refine Ev.succ ?_
  simp only [waybillref20_Check.l1]
  refine Ev.pos (by omega) (Ev.bind (Ev.bind (r_l2 hl hi (Classical.not_not.1 hp)) Ev.ret) ?_)
  rw [W_succ (by omega)]; exact hr
theorem r_l1 (hl : l.length ≤ 1024) (h : dist l) : Ev (fun k => waybillref20_Check.l1 k l 0) (Sum.inr ()) := by
  refine scan_all (n := l.length) (p := fun i => ¬ ∀ j, j < i → (g l i).ID ≠ (g l j).ID) (fun i hi hp r hr => r_l1s hl i hi hp r hr) (fun j hj q => q (h j hj)) ?_
  refine Ev.succ ?_
  simp only [waybillref20_Check.l1]
  exact Ev.neg (by omega) Ev.ret
theorem r_l1n (hl : l.length ≤ 1024) (h : ¬ dist l) : Ev (fun k => waybillref20_Check.l1 k l 0) (Sum.inl 6) := by
  refine scan_hit (n := l.length) (p := fun i => ¬ ∀ j, j < i → (g l i).ID ≠ (g l j).ID) (fun i hi hp r hr => r_l1s hl i hi hp r hr) ?_ (fun i hi hp _ => ?_)
  · unfold dist at h
    rw [Classical.not_forall] at h
    obtain ⟨i, h⟩ := h
    rw [Classical.not_imp] at h
    exact ⟨i, h.1, h.2⟩
  · refine Ev.succ ?_
    simp only [waybillref20_Check.l1]
    exact Ev.pos (by omega) (Ev.bind (Ev.bind (r_l2n hl hi hp) Ev.ret) Ev.ret)
theorem r_l3s (hl : l.length ≤ 1024) (i : Nat) (hi : i < l.length) (h0 : 0 < i) {r : Sum Int Unit}
    (hr : Ev (fun k => if decide (lt (g l i) (g l ((i - 1) / 2))) = true then (some (Sum.inl 9)) else (waybillref20_Check.l3 k l ((i + 1 : Nat) : Int))) r) : Ev (fun k => waybillref20_Check.l3 k l i) r := by
  refine Ev.succ ?_
  simp only [waybillref20_Check.l3, par_ok h0 (show i < 4611686018427387904 by omega)]
  refine Ev.pos (by omega) (Ev.pos (by omega) (Ev.pos (by omega) (Ev.pos (by omega) ?_)))
  simp only [g_rd, rahead_ok, Option.bind_some]
  rw [W_succ (by omega)]; exact hr
theorem r_l3e (hl : l.length ≤ 1024) {i : Nat} (hi : l.length ≤ i) : Ev (fun k => waybillref20_Check.l3 k l i) (Sum.inr ()) := by
  refine Ev.succ ?_
  simp only [waybillref20_Check.l3]
  exact Ev.neg (by omega) Ev.ret
theorem r_l3 (hl : l.length ≤ 1024) (h : Hp' l) : Ev (fun k => waybillref20_Check.l3 k l 1) (Sum.inr ()) := by
  have : ∀ (d i : Nat), i + d = l.length → 0 < i → Ev (fun k => waybillref20_Check.l3 k l i) (Sum.inr ()) := by
    intro d
    induction d with
    | zero => intro i h1 h0; exact r_l3e hl (by omega)
    | succ d ih =>
      intro i h1 h0
      exact r_l3s hl i (by omega) h0 (Ev.neg (by simpa using h i (by omega) h0) (ih (i + 1) (by omega) (by omega)))
  by_cases h0 : 0 < l.length
  · exact this (l.length - 1) 1 (by omega) (by omega)
  · exact r_l3e hl (i := 1) (by omega)
theorem r_l3n (hl : l.length ≤ 1024) (h : ¬ Hp' l) : Ev (fun k => waybillref20_Check.l3 k l 1) (Sum.inl 9) := by
  have hex : ∃ i, i < l.length ∧ (0 < i ∧ lt (g l i) (g l ((i - 1) / 2))) := by
    simp only [Hp', Classical.not_forall, Classical.not_not] at h
    obtain ⟨i, hi, h0, hp⟩ := h
    exact ⟨i, hi, h0, hp⟩
  obtain ⟨i, hi, ⟨h0, hp⟩, hf⟩ := first hex
  have : ∀ (d j : Nat), j + d = i → 0 < j → Ev (fun k => waybillref20_Check.l3 k l j) (Sum.inl 9) := by
    intro d
    induction d with
    | zero =>
      intro j h1 j0
      have : j = i := by omega
      subst this
      exact r_l3s hl j hi j0 (Ev.pos (by simpa using hp) Ev.ret)
    | succ d ih =>
      intro j h1 j0
      refine r_l3s hl j (by omega) j0 (Ev.neg ?_ (ih (j + 1) (by omega) (by omega)))
      have := hf j (by omega)
      simpa [j0] using this
  exact this (i - 1) 1 (by omega) (by omega)

/-- both answer one number; it is 0 just where the timers are a queue -/
theorem check_ok (l : List T) : ∃ e, Ev (fun k => timer_Check.f k l) e ∧ Ev (fun k => waybillref20_Check.f k l) e ∧ (e = 0 ↔ Good l) := by
  by_cases hl : l.length ≤ 1024
  · have hn : ¬ (1024 : Int) < (l.length : Int) := by omega
    have P1 : ∀ {e : Int}, Ev (fun k => timer_Check.l0 k l 0) e → Ev (fun k => timer_Check.f k l) e := fun h => by
      simp only [timer_Check.f]; exact Ev.neg hn h
    have P2 : ∀ {e : Int}, Ev (fun k => waybillref20_Check.l0 k l 0) e → Ev (fun k => waybillref20_Check.f k l) e := fun h => by
      simp only [waybillref20_Check.f]; exact Ev.neg hn h
    by_cases h1 : mays l
    · have hm := c_l1 hl l.length 0 [] (by omega) (fun x => by simp [mget_val, mval_nil]) (fun a ha => absurd ha (by omega))
      by_cases h2 : dist l
      · by_cases h3 : Hp' l
        · exact ⟨0, P1 (c_l0 hl (Ev.bind (hm.1 h2) (Ev.bind (c_l2 hl h3) Ev.ret)) h1), P2 (r_l0 hl (Ev.bind (r_l1 hl h2) (Ev.bind (r_l3 hl h3) Ev.ret)) h1), fun _ => ⟨hl, h1, h2, h3⟩, fun _ => rfl⟩
        · exact ⟨9, P1 (c_l0 hl (Ev.bind (hm.1 h2) (Ev.bind (c_l2n hl h3) Ev.ret)) h1), P2 (r_l0 hl (Ev.bind (r_l1 hl h2) (Ev.bind (r_l3n hl h3) Ev.ret)) h1), fun h => absurd h (by omega), fun h => absurd h.heap h3⟩
      · exact ⟨6, P1 (c_l0 hl (Ev.bind (hm.2 h2) Ev.ret) h1), P2 (r_l0 hl (Ev.bind (r_l1n hl h2) Ev.ret) h1), fun h => absurd h (by omega), fun h => absurd h.dist h2⟩
    · exact ⟨4, P1 (c_l0n hl h1), P2 (r_l0n hl h1), fun h => absurd h (by omega), fun h => absurd h.may h1⟩
  · refine ⟨3, ?_, ?_, fun h => absurd h (by omega), fun h => absurd h.len hl⟩
    · simp only [timer_Check.f]; exact Ev.pos (by omega) Ev.ret
    · simp only [waybillref20_Check.f]; exact Ev.pos (by omega) Ev.ret
end Go.Proofs.Ytailjeoimlemnaa.M

/- slices.Index[[]int,int]: a plain function, and that the machine's call comes to it: printed by a program of the session's own. -/
set_option linter.unusedVariables false
set_option linter.unusedSimpArgs false
namespace Go.Proofs.Ytailjeoimlemnaa.M
open Go Go.Proofs.Ytailjeoimlemnaa.Sl
/-! ### slices.Index[[]int,int]: function 40 -/
def slices_Index_int_int.l0 : Nat → (List Int) → Int → Int → Option (Int)
  | 0, _, _, _ => none
  | k + 1, x_s, x_v, z1x => if z1x < (x_s.length : Int) then (if 0 ≤ z1x then (if x_v = (rd e_i64 x_s z1x) then (some z1x) else (slices_Index_int_int.l0 k x_s x_v (IntKind.i64.wrap (z1x + 1)))) else (none)) else (some (-1))
def slices_Index_int_int.f (k : Nat) (x_s : List Int) (x_v : Int) : Option (Int) := (slices_Index_int_int.l0 k x_s x_v 0)
set_option maxRecDepth 100000 in
set_option maxHeartbeats 4000000 in
theorem slices_Index_int_int.calls (k : Nat) (A0 : Option Addr) (n0 c0 : Nat) (x_s : List Int) (x_v : Int) (W0 : World) (X : Heap) (HR0 : Rd e_i64 X A0 n0 c0 x_s) (Hq : HS W0 [isH X] W0) (r : Int) (H : slices_Index_int_int.f k x_s x_v = some r) :
    Calls Try.prog 40 #[.slice A0 n0 c0, .int .i64 x_v] W0 (fun e w => e = .returned (.int .i64 r) ∧ HS W0 [isH X] w) := by
  obtain rfl := HR0.1
  rw [slices_Index_int_int.f] at H
  refine calls_in Try.func40 rfl rfl ?_
  intro a0 S0
  refine w_seq ?_
  refine w_region ?_
  refine r_pures [_] S0 rfl ?_
  clear S0; intro a0 S0
  refine wl_nil ?_
  refine nr_then ?_
  refine w_seq ?_
  refine w_seq ?_
  refine w_region ?_
  refine r_pures [_] S0 rfl ?_
  clear S0; intro a0 S0
  refine r_len S0 rfl sl23 rfl ?_
  clear S0; intro a0 S0
  refine r_pures [_] S0 rfl ?_
  clear S0; intro a0 S0
  refine wl_nil ?_
  refine nr_then ?_
  refine w_block ?_
  refine w_loop (fun kq a w => ∃ z1x, slices_Index_int_int.l0 kq x_s x_v z1x = some r ∧ Sl 19 [] [(0, .slice A0 x_s.length c0), (1, .int .i64 x_v), (7, .int .i64 (x_s.length : Int)), (8, .int .i64 z1x)] a ∧ HS W0 [isH X] w) _ ⟨0, H, S0.sub ⟨rfl, rfl, rfl, rfl, trivial⟩, Hq⟩ ?_
  clear H Hq S0
  rintro k0 a w ⟨z1x, H, S0, Hq⟩
  cases k0 with
  | zero => simp [slices_Index_int_int.l0] at H
  | succ k0 =>
    refine ⟨k0, rfl, ?_⟩
    rw [slices_Index_int_int.l0] at H
    refine w_seq ?_
    refine w_region ?_
    refine r_pures [_] S0 rfl ?_
    clear S0; intro a0 S0
    refine wl_nil ?_
    refine nr_then ?_
    refine w_seq ?_
    by_cases z2h : z1x < (x_s.length : Int)
    · replace H := (if_pos z2h).symm.trans H
      refine w_true S0 rfl (decide_eq_true z2h) ?_
      refine w_skip ?_
      refine nr_then ?_
      refine w_seq ?_
      refine w_block ?_
      refine w_seq ?_
      refine w_region ?_
      refine r_pures [_, _] S0 rfl ?_
      clear S0; intro a0 S0
      refine wl_nil ?_
      refine nr_then ?_
      refine w_seq ?_
      refine w_region ?_
      refine r_pures [_, _, _] S0 rfl ?_
      clear S0; intro a0 S0
      by_cases z3h : 0 ≤ z1x
      · replace H := (if_pos z3h).symm.trans H
        obtain ⟨z4b, z5o, rfl⟩ := (isH_rd [] Hq HR0).at (by omega)
        refine r_index S0 rfl rfl sl23 ti3 z3h z2h rfl ?_
        clear S0; intro a0 S0
        refine r_elS S0 (isH_rd [] Hq HR0) z3h z2h rfl ti3 _ rfl rfl ?_
        clear S0; intro a0 S0
        refine r_pures [_] S0 rfl ?_
        clear S0; intro a0 S0
        refine wl_nil ?_
        refine nr_then ?_
        by_cases z6h : x_v = (rd e_i64 x_s z1x)
        · replace H := (if_pos z6h).symm.trans H
          refine w_true S0 rfl (decide_eq_true z6h) ?_
          refine w_seq ?_
          refine w_region ?_
          refine r_pures [_, _] S0 rfl ?_
          clear S0; intro a0 S0
          refine wl_nil ?_
          refine nr_then ?_
          refine w_ret ?_
          refine ret_in ?_
          refine ret_then ?_
          refine ret_then ?_
          refine ret_in ?_
          refine ret_then ?_
          obtain rfl := Option.some.inj H
          refine ret1 S0 rfl rfl ?_
          exact ⟨rfl, Hq⟩
        · replace H := (if_neg z6h).symm.trans H
          refine w_false S0 rfl (decide_eq_false z6h) ?_
          refine w_skip ?_
          refine nr_in ?_
          refine nr_then ?_
          refine w_region ?_
          refine r_pures [_, _] S0 rfl ?_
          clear S0; intro a0 S0
          refine wl_nil ?_
          refine nr_then ?_
          exact ⟨(IntKind.i64.wrap (z1x + 1)), H, S0.sub ⟨rfl, rfl, rfl, rfl, trivial⟩, Hq⟩
      · replace H := (if_neg z3h).symm.trans H
        exact nomatch H
    · replace H := (if_neg z2h).symm.trans H
      refine w_false S0 rfl (decide_eq_false z2h) ?_
      refine w_exit ?_
      refine ex_then ?_
      refine ex_then ?_
      refine ex_in ?_
      refine nr_then ?_
      refine w_seq ?_
      refine w_region ?_
      refine r_pures [_] S0 rfl ?_
      clear S0; intro a0 S0
      refine wl_nil ?_
      refine nr_then ?_
      refine w_ret ?_
      obtain rfl := Option.some.inj H
      refine ret1 S0 rfl rfl ?_
      exact ⟨rfl, Hq⟩

end Go.Proofs.Ytailjeoimlemnaa.M

/- slices.Contains[[]int,int]: a plain function, and that the machine's call comes to it: printed by a program of the session's own. -/
set_option linter.unusedVariables false
set_option linter.unusedSimpArgs false
namespace Go.Proofs.Ytailjeoimlemnaa.M
open Go Go.Proofs.Ytailjeoimlemnaa.Sl
/-! ### slices.Contains[[]int,int]: function 24 -/
def slices_Contains_int_int.f (k : Nat) (x_s : List Int) (x_v : Int) : Option (Bool) := (slices_Index_int_int.f k x_s x_v).bind fun z2t => (some (decide (0 ≤ z2t)))
set_option maxRecDepth 100000 in
set_option maxHeartbeats 4000000 in
theorem slices_Contains_int_int.calls (k : Nat) (A0 : Option Addr) (n0 c0 : Nat) (x_s : List Int) (x_v : Int) (W0 : World) (X : Heap) (HR0 : Rd e_i64 X A0 n0 c0 x_s) (Hq : HS W0 [isH X] W0) (r : Bool) (H : slices_Contains_int_int.f k x_s x_v = some r) :
    Calls Try.prog 24 #[.slice A0 n0 c0, .int .i64 x_v] W0 (fun e w => e = .returned (.bool r) ∧ HS W0 [isH X] w) := by
  obtain rfl := HR0.1
  rw [slices_Contains_int_int.f] at H
  refine calls_in Try.func24 rfl rfl ?_
  intro a0 S0
  refine w_seq ?_
  refine w_region ?_
  refine r_pures [_] S0 rfl ?_
  clear S0; intro a0 S0
  refine wl_nil ?_
  refine nr_then ?_
  refine w_seq ?_
  refine w_region ?_
  refine r_pures [_, _] S0 rfl ?_
  clear S0; intro a0 S0
  obtain ⟨Xz1, HXz1, HPz1, HBz1⟩ := call_frame [] Hq
  dsimp only [List.cons_append, List.nil_append] at HXz1 HBz1
  obtain ⟨z2t, Hc, H⟩ := Option.bind_eq_some_iff.mp H
  refine r_call S0 rfl rfl goes40 rfl ?_
  refine (slices_Index_int_int.calls _ _ _ _ x_s x_v _ _ (sl_isH_rd [] HPz1 HR0) HXz1 z2t Hc).mono ?_
  rintro e w ⟨rfl, Hq'⟩
  have Hq : HS W0 [isH X] w := HBz1 [] _ Hq'
  clear HXz1 HPz1 HBz1 Hq'
  refine ⟨.int .i64 z2t, rfl, ?_⟩; clear S0; intro a0 S0
  refine r_pures [_, _] S0 rfl ?_
  clear S0; intro a0 S0
  refine wl_nil ?_
  refine nr_then ?_
  refine w_ret ?_
  obtain rfl := Option.some.inj H
  refine ret1 S0 rfl rfl ?_
  exact ⟨rfl, Hq⟩

end Go.Proofs.Ytailjeoimlemnaa.M

/- waybill/timer.Cancel: a plain function, and that the machine's call comes to it: printed by a program of the session's own. -/
set_option linter.unusedVariables false
set_option linter.unusedSimpArgs false
namespace Go.Proofs.Ytailjeoimlemnaa.M
open Go Go.Proofs.Ytailjeoimlemnaa.Sl
/-! ### waybill/timer.Cancel: function 8 -/
def timer_Cancel.l0 : Nat → (List api_Timer) → (List Int) → Int → (List api_Timer) → Option ((List api_Timer))
  | 0, _, _, _, _ => none
  | k + 1, x_l, x_ids, z9x, z10x => if z9x < (x_l.length : Int) then (if 0 ≤ z9x then ((slices_Contains_int_int.f k x_ids ((rd e_api_Timer x_l z9x).ID)).bind fun z20t => (((if z20t = true then (some z10x) else ((timer_heap_push.f k z10x (rd e_api_Timer x_l z9x)).bind fun z27t => (some z27t))) : Option ((List api_Timer))).bind fun z21x => (timer_Cancel.l0 k x_l x_ids (IntKind.i64.wrap (z9x + 1)) z21x))) else (none)) else (some z10x)
def timer_Cancel.f (k : Nat) (x_l : List api_Timer) (x_ids : List Int) : Option ((List api_Timer) × Int × Int) := (timer_Check.f k x_l).bind fun z2t => (if z2t = 0 then ((((timer_Cancel.l0 k x_l x_ids 0 ([] : List api_Timer))) : Option ((List api_Timer))).bind fun z5x => (some (z5x, IntKind.i64.wrap ((x_l.length : Int) - (z5x.length : Int)), 0))) else (some (([] : List api_Timer), 0, z2t)))
set_option maxRecDepth 100000 in
set_option maxHeartbeats 4000000 in
theorem timer_Cancel.calls (k : Nat) (A0 : Option Addr) (n0 c0 : Nat) (x_l : List api_Timer) (A1 : Option Addr) (n1 c1 : Nat) (x_ids : List Int) (W0 : World) (X : Heap) (HR0 : Rd e_api_Timer X A0 n0 c0 x_l) (HR1 : Rd e_i64 X A1 n1 c1 x_ids) (Hq : HS W0 [isH X] W0) (r : (List api_Timer) × Int × Int) (H : timer_Cancel.f k x_l x_ids = some r) :
    Calls Try.prog 8 #[.slice A0 n0 c0, .slice A1 n1 c1] W0 (fun e w => ∃ Ar0 nr0 cr0, e = .returned (.tuple #[.slice Ar0 nr0 cr0, .int .i64 r.2.1, .int .i64 r.2.2]) ∧ HS W0 [own e_api_Timer 32 Ar0 nr0 cr0 r.1, isH X] w) := by
  obtain rfl := HR0.1
  obtain rfl := HR1.1
  rw [timer_Cancel.f] at H
  refine calls_in Try.func8 rfl rfl ?_
  intro a0 S0
  refine w_seq ?_
  refine w_region ?_
  refine r_pures [_, _, _] S0 rfl ?_
  clear S0; intro a0 S0
  refine wl_nil ?_
  refine nr_then ?_
  refine w_seq ?_
  refine w_seq ?_
  refine w_region ?_
  refine r_pures [_] S0 rfl ?_
  clear S0; intro a0 S0
  obtain ⟨Xz1, HXz1, HPz1, HBz1⟩ := call_frame [] Hq
  dsimp only [List.cons_append, List.nil_append] at HXz1 HBz1
  obtain ⟨z2t, Hc, H⟩ := Option.bind_eq_some_iff.mp H
  refine r_call S0 rfl rfl goes22 rfl ?_
  refine (timer_Check.calls _ _ _ _ x_l _ _ (sl_isH_rd [] HPz1 HR0) HXz1 z2t Hc).mono ?_
  rintro e w ⟨rfl, Hq'⟩
  have Hq : HS W0 [isH X] w := HBz1 [] _ Hq'
  clear HXz1 HPz1 HBz1 Hq'
  refine ⟨.int .i64 z2t, rfl, ?_⟩; clear S0; intro a0 S0
  refine r_pures [_] S0 rfl ?_
  clear S0; intro a0 S0
  refine wl_nil ?_
  refine nr_then ?_
  refine w_seq ?_
  refine w_region ?_
  refine r_pures [_, _] S0 rfl ?_
  clear S0; intro a0 S0
  refine wl_nil ?_
  refine nr_then ?_
  by_cases z3h : z2t = 0
  · replace H := (if_pos z3h).symm.trans H
    refine w_false S0 rfl (congrArg (!·) (decide_eq_true z3h)) ?_
    refine w_skip ?_
    refine nr_then ?_
    refine w_seq ?_
    refine w_region ?_
    refine r_alloc S0 Hq ti56 rfl ?_
    clear S0 Hq; intro z4b a0 w S0 Hq
    refine wl_nil ?_
    refine nr_then ?_
    refine w_seq ?_
    refine w_seq ?_
    refine w_region ?_
    refine r_pures [_] S0 rfl ?_
    clear S0; intro a0 S0
    refine r_len S0 rfl sl22 rfl ?_
    clear S0; intro a0 S0
    refine r_pures [_] S0 rfl ?_
    clear S0; intro a0 S0
    refine wl_nil ?_
    refine nr_then ?_
    replace Hq := HS.own_nil e_api_Timer 32 Hq
    obtain ⟨z5x, H, HU1⟩ := Option.bind_eq_some_iff.mp H
    refine w_cutT (fun a w => ∃ z6A z7m z8n, Sl 36 [] [(0, .slice A0 x_l.length c0), (8, .pointer (some ⟨z4b, 0, none⟩))] a ∧ HS W0 [own e_api_Timer 32 z6A z7m z8n z5x, bx z4b 56 [.slice z6A z7m z8n], isH X] w) ?_ ?_
    · skip
      refine w_block ?_
      refine w_loop (fun kq a w => ∃ z9x z10x z11A z12m z13n, timer_Cancel.l0 kq x_l x_ids z9x z10x = some z5x ∧ Sl 36 [] [(0, .slice A0 x_l.length c0), (1, .slice A1 x_ids.length c1), (8, .pointer (some ⟨z4b, 0, none⟩)), (16, .slice A0 x_l.length c0), (17, .int .i64 (x_l.length : Int)), (18, .int .i64 z9x)] a ∧ HS W0 [own e_api_Timer 32 z11A z12m z13n z10x, bx z4b 56 [.slice z11A z12m z13n], isH X] w) _ ⟨0, ([] : List api_Timer), none, 0, 0, H, S0.sub ⟨rfl, rfl, rfl, rfl, rfl, rfl, trivial⟩, Hq⟩ ?_
      clear H Hq S0
      rintro k0 a w ⟨z9x, z10x, z11A, z12m, z13n, H, S0, Hq⟩
      cases k0 with
      | zero => simp [timer_Cancel.l0] at H
      | succ k0 =>
        refine ⟨k0, rfl, ?_⟩
        rw [timer_Cancel.l0] at H
        obtain rfl := own_len [] Hq
        refine w_seq ?_
        refine w_region ?_
        refine r_pures [_] S0 rfl ?_
        clear S0; intro a0 S0
        refine wl_nil ?_
        refine nr_then ?_
        refine w_seq ?_
        by_cases z14h : z9x < (x_l.length : Int)
        · replace H := (if_pos z14h).symm.trans H
          refine w_true S0 rfl (decide_eq_true z14h) ?_
          refine w_skip ?_
          refine nr_then ?_
          refine w_seq ?_
          refine w_block ?_
          refine w_seq ?_
          refine w_region ?_
          by_cases z15h : 0 ≤ z9x
          · replace H := (if_pos z15h).symm.trans H
            obtain ⟨z16b, z17o, rfl⟩ := (isH_rd [_, _] Hq HR0).at (by omega)
            refine r_index S0 rfl rfl sl22 ti32 z15h z14h rfl ?_
            clear S0; intro a0 S0
            refine r_elA (vs := [.int .i64 ((rd e_api_Timer x_l z9x).At), .int .i64 ((rd e_api_Timer x_l z9x).ID)]) S0 (isH_rd [_, _] Hq HR0) z15h z14h rfl ti32 rfl rfl rfl ?_
            clear S0; intro a0 S0
            refine r_alloc S0 Hq ti32 rfl ?_
            clear S0 Hq; intro z18b a0 w S0 Hq
            refine r_st [] S0 Hq rfl rfl ti32 [.int .i64 ((rd e_api_Timer x_l z9x).At), .int .i64 ((rd e_api_Timer x_l z9x).ID)] rfl rfl rfl rfl [.int .i64 ((rd e_api_Timer x_l z9x).At), .int .i64 ((rd e_api_Timer x_l z9x).ID)] rfl ?_
            clear Hq; intro w Hq; dsimp only [List.cons_append, List.nil_append] at Hq
            refine wl_nil ?_
            refine nr_then ?_
            refine w_seq ?_
            refine w_region ?_
            refine r_pures [_] S0 rfl ?_
            clear S0; intro a0 S0
            refine r_fieldAddr S0 rfl fo32x1 (1) rfl rfl ?_
            clear S0; intro a0 S0
            refine r_ldS [] S0 Hq rfl ti3 _ rfl rfl ?_
            clear S0; intro a0 S0
            obtain ⟨Xz19, HXz19, HPz19, HBz19⟩ := call_frame [] Hq
            dsimp only [List.cons_append, List.nil_append] at HXz19 HBz19
            obtain ⟨z20t, Hc, H⟩ := Option.bind_eq_some_iff.mp H
            refine r_call S0 rfl rfl goes24 rfl ?_
            refine (slices_Contains_int_int.calls _ _ _ _ x_ids ((rd e_api_Timer x_l z9x).ID) _ _ (sl_isH_rd [_, _, _] HPz19 HR1) HXz19 z20t Hc).mono ?_
            rintro e w ⟨rfl, Hq'⟩
            have Hq : HS W0 [bx z18b 32 [.int .i64 ((rd e_api_Timer x_l z9x).At), .int .i64 ((rd e_api_Timer x_l z9x).ID)], own e_api_Timer 32 z11A z10x.length z13n z10x, bx z4b 56 [.slice z11A z10x.length z13n], isH X] w := HBz19 [] _ Hq'
            clear HXz19 HPz19 HBz19 Hq'
            refine ⟨.bool z20t, rfl, ?_⟩; clear S0; intro a0 S0
            refine r_pures [_] S0 rfl ?_
            clear S0; intro a0 S0
            refine wl_nil ?_
            refine nr_then ?_
            obtain ⟨z21x, H, HU2⟩ := Option.bind_eq_some_iff.mp H
            refine w_cutT (fun a w => ∃ z22A z23m z24n, Sl 36 [] [(0, .slice (some ⟨z16b, z17o, none⟩) x_l.length c0), (1, .slice A1 x_ids.length c1), (8, .pointer (some ⟨z4b, 0, none⟩)), (16, .slice (some ⟨z16b, z17o, none⟩) x_l.length c0), (17, .int .i64 (x_l.length : Int)), (18, .int .i64 z9x)] a ∧ HS W0 [own e_api_Timer 32 z22A z23m z24n z21x, bx z4b 56 [.slice z22A z23m z24n], isH X] w) ?_ ?_
            · skip
              by_cases z25h : z20t = true
              · replace H := (if_pos z25h).symm.trans H
                refine w_false S0 rfl (congrArg (!·) z25h) ?_
                refine w_skip ?_
                refine nr_then ?_
                replace Hq := HS.pull [_, _, _] Hq
                dsimp only [List.cons_append, List.nil_append] at Hq
                replace Hq := HS.pull [_, _, _] Hq
                dsimp only [List.cons_append, List.nil_append] at Hq
                replace Hq := HS.pull [_, _, _] Hq
                dsimp only [List.cons_append, List.nil_append] at Hq
                replace Hq := HS.keep [_, _, _] Hq
                obtain rfl := Option.some.inj H
                exact ⟨z11A, z10x.length, z13n, S0.sub ⟨rfl, rfl, rfl, rfl, rfl, rfl, trivial⟩, Hq⟩
              · replace H := (if_neg z25h).symm.trans H
                refine w_true S0 rfl (congrArg (!·) (Bool.eq_false_iff.mpr z25h)) ?_
                refine w_region ?_
                refine r_ldA [] S0 Hq rfl ti32 [.int .i64 ((rd e_api_Timer x_l z9x).At), .int .i64 ((rd e_api_Timer x_l z9x).ID)] rfl rfl rfl ?_
                clear S0; intro a0 S0
                replace Hq := HS.pull [_, _] Hq
                dsimp only [List.cons_append, List.nil_append] at Hq
                replace Hq := HS.pull [_, _] Hq
                dsimp only [List.cons_append, List.nil_append] at Hq
                obtain ⟨Xz26, HXz26, HPz26, HBz26⟩ := call_frame [_, _] Hq
                dsimp only [List.cons_append, List.nil_append] at HXz26 HBz26
                obtain ⟨z27t, Hc, H⟩ := Option.bind_eq_some_iff.mp H
                refine r_call S0 rfl rfl goes25 rfl ?_
                refine (timer_heap_push.calls _ _ _ _ _ z10x (rd e_api_Timer x_l z9x) _ _  HXz26 z27t Hc).mono ?_
                rintro e w ⟨z28A, z29m, z30n, rfl, Hq'⟩
                have Hq : HS W0 [own e_api_Timer 32 z28A z29m z30n z27t, bx z4b 56 [.slice z28A z29m z30n], bx z18b 32 [.int .i64 ((rd e_api_Timer x_l z9x).At), .int .i64 ((rd e_api_Timer x_l z9x).ID)], isH X] w := HBz26 [_, _] _ Hq'
                clear HXz26 HPz26 HBz26 Hq'
                obtain rfl := own_len [] Hq
                refine ⟨.tuple #[], rfl, ?_⟩; clear S0; intro a0 S0
                refine wl_nil ?_
                refine nr_then ?_
                replace Hq := HS.pull [_, _, _] Hq
                dsimp only [List.cons_append, List.nil_append] at Hq
                replace Hq := HS.pull [_, _] Hq
                dsimp only [List.cons_append, List.nil_append] at Hq
                replace Hq := HS.pull [_, _] Hq
                dsimp only [List.cons_append, List.nil_append] at Hq
                replace Hq := HS.keep [_, _, _] Hq
                obtain rfl := Option.some.inj H
                exact ⟨z28A, z27t.length, z30n, S0.sub ⟨rfl, rfl, rfl, rfl, rfl, rfl, trivial⟩, Hq⟩
            · clear S0; rintro a w ⟨z22A, z23m, z24n, S0, Hq⟩
              have H := HU2; clear HU2
              obtain rfl := own_len [] Hq
              refine nr_in ?_
              refine nr_then ?_
              refine w_region ?_
              refine r_pures [_, _] S0 rfl ?_
              clear S0; intro a0 S0
              refine wl_nil ?_
              refine nr_then ?_
              exact ⟨(IntKind.i64.wrap (z9x + 1)), z21x, z22A, z21x.length, z24n, H, S0.sub ⟨rfl, rfl, rfl, rfl, rfl, rfl, trivial⟩, Hq⟩
          · replace H := (if_neg z15h).symm.trans H
            exact nomatch H
        · replace H := (if_neg z14h).symm.trans H
          refine w_false S0 rfl (decide_eq_false z14h) ?_
          refine w_exit ?_
          refine ex_then ?_
          refine ex_then ?_
          refine ex_in ?_
          refine nr_then ?_
          obtain rfl := Option.some.inj H
          exact ⟨z11A, z10x.length, z13n, S0.sub ⟨rfl, rfl, trivial⟩, Hq⟩
    · clear S0; rintro a w ⟨z6A, z7m, z8n, S0, Hq⟩
      have H := HU1; clear HU1
      obtain rfl := own_len [] Hq
      refine nr_then ?_
      refine w_seq ?_
      refine w_draw TryM.mixed (.pu 1 (.pu 2 (.rd 0 (.pu 6 (.rd 3 (.pu 4 (.pu 5 (.pu 7 (.pu 8 .done))))))))) (by kernel_rfl) rfl ?_
      replace Hq := Hq.drew
      refine st_pures [1] S0 rfl ?_
      intro az31q Sz31q
      refine st_pu Sz31q rfl (g_none rfl) rfl rfl (fun _ => y_len Sz31q rfl sl22) ?_
      intro az32q Sz32q
      refine st_rd Sz32q rfl (g_none rfl) rfl rfl (y_ldS [_] Sz32q Hq rfl ti56 _ rfl) ?_
      intro az33q Sz33q
      refine st_pures [6] Sz33q rfl ?_
      intro az34q Sz34q
      refine st_rd Sz34q rfl (g_none rfl) rfl rfl (y_ldS [_] Sz34q Hq rfl ti56 _ rfl) ?_
      intro az35q Sz35q
      refine st_pu Sz35q rfl (g_none rfl) rfl rfl (fun _ => y_len Sz35q rfl sl56) ?_
      intro az36q Sz36q
      refine st_pures [5, 7, 8] Sz36q rfl ?_
      intro az37q Sz37q
      refine st_nil ?_
      replace S0 := Sz37q
      refine nr_then ?_
      refine w_ret ?_
      obtain rfl := Option.some.inj H
      refine ret3 S0 rfl rfl rfl rfl ?_
      replace Hq := HS.pull [_, _] Hq
      dsimp only [List.cons_append, List.nil_append] at Hq
      replace Hq := HS.pull [_] Hq
      dsimp only [List.cons_append, List.nil_append] at Hq
      replace Hq := HS.keep [_, _] Hq
      exact ⟨z6A, z5x.length, z8n, rfl, Hq⟩
  · replace H := (if_neg z3h).symm.trans H
    refine w_true S0 rfl (congrArg (!·) (decide_eq_false z3h)) ?_
    refine w_seq ?_
    refine w_region ?_
    refine r_pures [_, _, _, _] S0 rfl ?_
    clear S0; intro a0 S0
    refine wl_nil ?_
    refine nr_then ?_
    refine w_ret ?_
    refine ret_then ?_
    obtain rfl := Option.some.inj H
    replace Hq := HS.own_nil e_api_Timer 32 Hq
    refine ret3 S0 rfl rfl rfl rfl ?_
    replace Hq := HS.pull [_] Hq
    dsimp only [List.cons_append, List.nil_append] at Hq
    replace Hq := HS.pull [_] Hq
    dsimp only [List.cons_append, List.nil_append] at Hq
    exact ⟨none, 0, 0, rfl, Hq⟩

end Go.Proofs.Ytailjeoimlemnaa.M

/- waybill/waybillref20.Own: a plain function, and that the machine's call comes to it: printed by a program of the session's own. -/
set_option linter.unusedVariables false
set_option linter.unusedSimpArgs false
namespace Go.Proofs.Ytailjeoimlemnaa.M
open Go Go.Proofs.Ytailjeoimlemnaa.Sl
/-! ### waybill/waybillref20.Own: function 13 -/
def waybillref20_Own.f (x_l : List api_Timer) : Option (List api_Timer) := if ([] : List api_Timer).length + x_l.length < 8796093022208 then (some (([] : List api_Timer) ++ x_l)) else (none)
set_option maxRecDepth 100000 in
set_option maxHeartbeats 4000000 in
theorem waybillref20_Own.calls (A0 : Option Addr) (n0 c0 : Nat) (x_l : List api_Timer) (W0 : World) (X : Heap) (HR0 : Rd e_api_Timer X A0 n0 c0 x_l) (Hq : HS W0 [isH X] W0) (r : List api_Timer) (H : waybillref20_Own.f x_l = some r) :
    Calls Try.prog 13 #[.slice A0 n0 c0] W0 (fun e w => ∃ Ar0 nr0 cr0, e = .returned (.slice Ar0 nr0 cr0) ∧ HS W0 [own e_api_Timer 32 Ar0 nr0 cr0 r, isH X] w) := by
  obtain rfl := HR0.1
  rw [waybillref20_Own.f] at H
  refine calls_in Try.func13 rfl rfl ?_
  intro a0 S0
  refine w_seq ?_
  refine w_region ?_
  refine r_pures [_] S0 rfl ?_
  clear S0; intro a0 S0
  refine wl_nil ?_
  refine nr_then ?_
  refine w_seq ?_
  refine w_region ?_
  refine r_pures [_] S0 rfl ?_
  clear S0; intro a0 S0
  refine wl_nil ?_
  refine nr_then ?_
  refine w_seq ?_
  refine w_region ?_
  refine r_pures [_, _] S0 rfl ?_
  clear S0; intro a0 S0
  replace Hq := HS.own_nil e_api_Timer 32 Hq
  by_cases z1h : ([] : List api_Timer).length + x_l.length < 8796093022208
  · replace H := (if_pos z1h).symm.trans H
    refine r_app [] S0 Hq (isH_rd [_] Hq HR0) rfl rfl sl22 ti32 rfl z1h rfl rfl ?_
    clear S0 Hq; intro z2A z3n a0 w S0 Hq; dsimp only [List.cons_append, List.nil_append] at Hq
    refine r_pures [_] S0 rfl ?_
    clear S0; intro a0 S0
    refine wl_nil ?_
    refine nr_then ?_
    refine w_ret ?_
    obtain rfl := Option.some.inj H
    refine ret1 S0 rfl rfl ?_
    replace Hq := HS.pull [_] Hq
    dsimp only [List.cons_append, List.nil_append] at Hq
    replace Hq := HS.pull [_] Hq
    dsimp only [List.cons_append, List.nil_append] at Hq
    exact ⟨z2A, ((([] : List api_Timer) ++ x_l).length), z3n, rfl, Hq⟩
  · replace H := (if_neg z1h).symm.trans H
    exact nomatch H

end Go.Proofs.Ytailjeoimlemnaa.M

/- waybill/waybillref20.put: a plain function, and that the machine's call comes to it: printed by a program of the session's own. -/
set_option linter.unusedVariables false
set_option linter.unusedSimpArgs false
namespace Go.Proofs.Ytailjeoimlemnaa.M
open Go Go.Proofs.Ytailjeoimlemnaa.Sl
/-! ### waybill/waybillref20.put: function 35 -/
def waybillref20_put.l0 : Nat → (List api_Timer) → api_Timer → Int → (List api_Timer) → Option ((List api_Timer))
  | 0, _, _, _, _ => none
  | k + 1, x_l, x_t, z8x, z9x => ((if 0 < z8x then (if 0 ≤ z8x then (if z8x < ((x_l ++ ([x_t] : List api_Timer)).length : Int) then (if 0 ≤ (IntKind.i64.wrap ((IntKind.i64.wrap (z8x - 1)).tdiv 2)) then (if (IntKind.i64.wrap ((IntKind.i64.wrap (z8x - 1)).tdiv 2)) < ((x_l ++ ([x_t] : List api_Timer)).length : Int) then ((waybillref20_Ahead.f (rd e_api_Timer z9x z8x) (rd e_api_Timer z9x (IntKind.i64.wrap ((IntKind.i64.wrap (z8x - 1)).tdiv 2)))).bind fun z30t => (some z30t)) else (none)) else (none)) else (none)) else (none)) else (some false)) : Option (Bool)).bind fun z10x => (if z10x = true then (if 0 ≤ (IntKind.i64.wrap ((IntKind.i64.wrap (z8x - 1)).tdiv 2)) then (if (IntKind.i64.wrap ((IntKind.i64.wrap (z8x - 1)).tdiv 2)) < ((x_l ++ ([x_t] : List api_Timer)).length : Int) then (if 0 ≤ z8x then (if z8x < ((x_l ++ ([x_t] : List api_Timer)).length : Int) then (waybillref20_put.l0 k x_l x_t (IntKind.i64.wrap ((IntKind.i64.wrap (z8x - 1)).tdiv 2)) ((z9x.set (Int.toNat z8x) (rd e_api_Timer z9x (IntKind.i64.wrap ((IntKind.i64.wrap (z8x - 1)).tdiv 2)))).set (Int.toNat (IntKind.i64.wrap ((IntKind.i64.wrap (z8x - 1)).tdiv 2))) (rd e_api_Timer z9x z8x))) else (none)) else (none)) else (none)) else (none)) else (some z9x))
def waybillref20_put.f (k : Nat) (x_l : List api_Timer) (x_t : api_Timer) : Option (List api_Timer) := if x_l.length + ([x_t] : List api_Timer).length < 8796093022208 then ((((waybillref20_put.l0 k x_l x_t (IntKind.i64.wrap (((x_l ++ ([x_t] : List api_Timer)).length : Int) - 1)) (x_l ++ ([x_t] : List api_Timer)))) : Option ((List api_Timer))).bind fun z7x => (some z7x)) else (none)
set_option maxRecDepth 100000 in
set_option maxHeartbeats 4000000 in
theorem waybillref20_put.calls (k : Nat) (A0 : Option Addr) (n0 c0 : Nat) (x_l : List api_Timer) (x_t : api_Timer) (W0 : World) (X : Heap)  (Hq : HS W0 [own e_api_Timer 32 A0 n0 c0 x_l, isH X] W0) (r : List api_Timer) (H : waybillref20_put.f k x_l x_t = some r) :
    Calls Try.prog 35 #[.slice A0 n0 c0, .agg #[.int .i64 x_t.At, .int .i64 x_t.ID]] W0 (fun e w => ∃ Ar0 nr0 cr0, e = .returned (.slice Ar0 nr0 cr0) ∧ HS W0 [own e_api_Timer 32 Ar0 nr0 cr0 r, isH X] w) := by
  obtain rfl := own_len [] Hq
  rw [waybillref20_put.f] at H
  refine calls_in Try.func35 rfl rfl ?_
  intro a0 S0
  refine w_seq ?_
  refine w_region ?_
  refine r_box (vs := [.int .i64 x_t.At, .int .i64 x_t.ID]) S0 Hq rfl rfl rfl ?_
  clear S0 Hq; intro z1b a0 w S0 Hq
  refine r_pures [_] S0 rfl ?_
  clear S0; intro a0 S0
  refine wl_nil ?_
  refine nr_then ?_
  refine w_seq ?_
  refine w_region ?_
  refine r_pures [_] S0 rfl ?_
  clear S0; intro a0 S0
  refine r_ldA [] S0 Hq rfl ti32 [.int .i64 x_t.At, .int .i64 x_t.ID] rfl rfl rfl ?_
  clear S0; intro a0 S0
  refine r_lit (e := e_api_Timer) (l := ([x_t] : List api_Timer)) (m := 1) (vs := [.agg #[.int .i64 x_t.At, .int .i64 x_t.ID]]) S0 Hq sl22 ti32 rfl rfl rfl rfl rfl rfl ?_
  clear S0 Hq; intro z2b a0 w S0 Hq
  by_cases z4h : x_l.length + ([x_t] : List api_Timer).length < 8796093022208
  · replace H := (if_pos z4h).symm.trans H
    refine r_app [_, _] S0 Hq (own_rd [] Hq) rfl rfl sl22 ti32 rfl z4h rfl rfl ?_
    clear S0 Hq; intro z5A z6n a0 w S0 Hq; dsimp only [List.cons_append, List.nil_append] at Hq
    refine r_pures [_] S0 rfl ?_
    clear S0; intro a0 S0
    refine wl_nil ?_
    refine nr_then ?_
    refine w_seq ?_
    refine w_seq ?_
    refine w_region ?_
    refine r_pures [_] S0 rfl ?_
    clear S0; intro a0 S0
    refine r_len S0 rfl sl22 rfl ?_
    clear S0; intro a0 S0
    refine r_pures [_, _] S0 rfl ?_
    clear S0; intro a0 S0
    refine wl_nil ?_
    refine nr_then ?_
    obtain ⟨z7x, H, HU1⟩ := Option.bind_eq_some_iff.mp H
    refine w_cutT (fun a w => Sl 50 [] [(0, .slice z5A ((x_l ++ ([x_t] : List api_Timer)).length) z6n)] a ∧ HS W0 [own e_api_Timer 32 z5A ((x_l ++ ([x_t] : List api_Timer)).length) z6n z7x, isH X] w) ?_ ?_
    · skip
      refine w_block ?_
      replace Hq := HS.pull [_, _, _] Hq
      dsimp only [List.cons_append, List.nil_append] at Hq
      replace Hq := HS.pull [_, _, _] Hq
      dsimp only [List.cons_append, List.nil_append] at Hq
      replace Hq := HS.keep [_, _] Hq
      refine w_loop (fun kq a w => ∃ z8x z9x, waybillref20_put.l0 kq x_l x_t z8x z9x = some z7x ∧ Sl 50 [] [(0, .slice z5A ((x_l ++ ([x_t] : List api_Timer)).length) z6n), (5, .int .i64 z8x)] a ∧ HS W0 [own e_api_Timer 32 z5A ((x_l ++ ([x_t] : List api_Timer)).length) z6n z9x, isH X] w) _ ⟨(IntKind.i64.wrap (((x_l ++ ([x_t] : List api_Timer)).length : Int) - 1)), (x_l ++ ([x_t] : List api_Timer)), H, S0.sub ⟨rfl, rfl, trivial⟩, Hq⟩ ?_
      clear H Hq S0
      rintro k0 a w ⟨z8x, z9x, H, S0, Hq⟩
      cases k0 with
      | zero => simp [waybillref20_put.l0] at H
      | succ k0 =>
        refine ⟨k0, rfl, ?_⟩
        rw [waybillref20_put.l0] at H
        refine w_seq ?_
        refine w_seq ?_
        obtain ⟨z10x, H, HU2⟩ := Option.bind_eq_some_iff.mp H
        refine w_cutT (fun a w => Sl 50 [] [(0, .slice z5A ((x_l ++ ([x_t] : List api_Timer)).length) z6n), (5, .int .i64 z8x), (27, .bool z10x)] a ∧ HS W0 [own e_api_Timer 32 z5A ((x_l ++ ([x_t] : List api_Timer)).length) z6n z9x, isH X] w) ?_ ?_
        · skip
          refine w_draw TryM.mixed (.pu 0 (.pu 1 (.pu 2 (.pu 3 (.pu 4 (.pu 5 (.pu 7 (.pu 8 (.pu 9 (.pu 10 (.pu 11 (.rd 6 (.rd 12 (.ds 13 (.pu 14 .done))))))))))))))) (by kernel_rfl) rfl ?_
          replace Hq := Hq.drew
          refine st_pures [0, 1, 2] S0 rfl ?_
          intro az11q Sz11q
          by_cases z12h : 0 < z8x
          · replace H := (if_pos z12h).symm.trans H
            refine st_pu Sz11q rfl (g_on Sz11q rfl rfl rfl rfl (decide_eq_true z12h)) rfl rfl (fun _ => y_of Sz11q _ rfl) ?_
            intro az13q Sz13q
            refine st_pu Sz13q rfl (g_on Sz13q rfl rfl rfl rfl (decide_eq_true z12h)) rfl rfl (fun _ => y_of Sz13q _ rfl) ?_
            intro az14q Sz14q
            by_cases z15h : 0 ≤ z8x
            · replace H := (if_pos z15h).symm.trans H
              by_cases z16h : z8x < ((x_l ++ ([x_t] : List api_Timer)).length : Int)
              · replace H := (if_pos z16h).symm.trans H
                obtain ⟨z17g, rfl⟩ := own_at [] Hq (by omega)
                refine st_pu Sz14q rfl (g_on Sz14q rfl rfl rfl rfl (decide_eq_true z12h)) rfl rfl (fun _ => y_index Sz14q rfl rfl sl22 ti32 z15h z16h) ?_
                intro az18q Sz18q
                refine st_pu Sz18q rfl (g_on Sz18q rfl rfl rfl rfl (decide_eq_true z12h)) rfl rfl (fun _ => y_of Sz18q _ rfl) ?_
                intro az19q Sz19q
                refine st_pu Sz19q rfl (g_on Sz19q rfl rfl rfl rfl (decide_eq_true z12h)) rfl rfl (fun _ => y_of Sz19q _ rfl) ?_
                intro az20q Sz20q
                refine st_pu Sz20q rfl (g_on Sz20q rfl rfl rfl rfl (decide_eq_true z12h)) rfl rfl (fun _ => y_of Sz20q _ rfl) ?_
                intro az21q Sz21q
                refine st_pu Sz21q rfl (g_on Sz21q rfl rfl rfl rfl (decide_eq_true z12h)) rfl rfl (fun _ => y_quo Sz21q rfl rfl (by decide)) ?_
                intro az22q Sz22q
                by_cases z23h : 0 ≤ (IntKind.i64.wrap ((IntKind.i64.wrap (z8x - 1)).tdiv 2))
                · replace H := (if_pos z23h).symm.trans H
                  by_cases z24h : (IntKind.i64.wrap ((IntKind.i64.wrap (z8x - 1)).tdiv 2)) < ((x_l ++ ([x_t] : List api_Timer)).length : Int)
                  · replace H := (if_pos z24h).symm.trans H
                    refine st_pu Sz22q rfl (g_on Sz22q rfl rfl rfl rfl (decide_eq_true z12h)) rfl rfl (fun _ => y_index Sz22q rfl rfl sl22 ti32 z23h z24h) ?_
                    intro az25q Sz25q
                    refine st_rd Sz25q rfl (g_on Sz25q rfl rfl rfl rfl (decide_eq_true z12h)) rfl rfl (y_elA (vs := [.int .i64 ((rd e_api_Timer z9x z8x).At), .int .i64 ((rd e_api_Timer z9x z8x).ID)]) Sz25q (own_rd [] Hq) z15h z16h rfl ti32 rfl rfl) ?_
                    intro az26q Sz26q
                    refine st_rd Sz26q rfl (g_on Sz26q rfl rfl rfl rfl (decide_eq_true z12h)) rfl rfl (y_elA (vs := [.int .i64 ((rd e_api_Timer z9x (IntKind.i64.wrap ((IntKind.i64.wrap (z8x - 1)).tdiv 2))).At), .int .i64 ((rd e_api_Timer z9x (IntKind.i64.wrap ((IntKind.i64.wrap (z8x - 1)).tdiv 2))).ID)]) Sz26q (own_rd [] Hq) z23h z24h rfl ti32 rfl rfl) ?_
                    intro az27q Sz27q
                    refine st_ds rfl ?_
                    refine r_on Sz27q rfl rfl rfl (decide_eq_true z12h) ?_
                    have Sz28q := Sz27q
                    obtain ⟨Xz29, HXz29, HPz29, HBz29⟩ := call_frame [] Hq
                    dsimp only [List.cons_append, List.nil_append] at HXz29 HBz29
                    obtain ⟨z30t, Hc, H⟩ := Option.bind_eq_some_iff.mp H
                    refine r_call Sz28q rfl rfl goes37 rfl ?_
                    refine (waybillref20_Ahead.calls (rd e_api_Timer z9x z8x) (rd e_api_Timer z9x (IntKind.i64.wrap ((IntKind.i64.wrap (z8x - 1)).tdiv 2))) _ _  HXz29 z30t Hc).mono ?_
                    rintro e w ⟨rfl, Hq'⟩
                    have Hq : HS W0 [own e_api_Timer 32 (some ⟨z17g, 0, none⟩) ((x_l ++ ([x_t] : List api_Timer)).length) z6n z9x, isH X] w := HBz29 [] _ Hq'
                    clear HXz29 HPz29 HBz29 Hq'
                    refine ⟨.bool z30t, rfl, ?_⟩; clear Sz28q; intro az27q Sz28q
                    refine wl_nil ?_
                    refine nr_then ?_
                    refine st_pu Sz28q rfl (g_none rfl) rfl rfl (fun _ => y_pick Sz28q rfl (decide_eq_true z12h) _ rfl) ?_
                    intro az31q Sz31q
                    refine st_nil ?_
                    replace S0 := Sz31q
                    refine nr_then ?_
                    obtain rfl := Option.some.inj H
                    exact ⟨S0.sub ⟨rfl, rfl, rfl, trivial⟩, Hq⟩
                  · replace H := (if_neg z24h).symm.trans H
                    exact nomatch H
                · replace H := (if_neg z23h).symm.trans H
                  exact nomatch H
              · replace H := (if_neg z16h).symm.trans H
                exact nomatch H
            · replace H := (if_neg z15h).symm.trans H
              exact nomatch H
          · replace H := (if_neg z12h).symm.trans H
            refine st_puOff Sz11q rfl (g_off Sz11q rfl rfl rfl rfl (decide_eq_false z12h)) rfl rfl ?_
            intro az32q Sz32q
            refine st_puOff Sz32q rfl (g_off Sz32q rfl rfl rfl rfl (decide_eq_false z12h)) rfl rfl ?_
            intro az33q Sz33q
            refine st_puOff Sz33q rfl (g_off Sz33q rfl rfl rfl rfl (decide_eq_false z12h)) rfl rfl ?_
            intro az34q Sz34q
            refine st_puOff Sz34q rfl (g_off Sz34q rfl rfl rfl rfl (decide_eq_false z12h)) rfl rfl ?_
            intro az35q Sz35q
            refine st_puOff Sz35q rfl (g_off Sz35q rfl rfl rfl rfl (decide_eq_false z12h)) rfl rfl ?_
            intro az36q Sz36q
            refine st_puOff Sz36q rfl (g_off Sz36q rfl rfl rfl rfl (decide_eq_false z12h)) rfl rfl ?_
            intro az37q Sz37q
            refine st_puOff Sz37q rfl (g_off Sz37q rfl rfl rfl rfl (decide_eq_false z12h)) rfl rfl ?_
            intro az38q Sz38q
            refine st_puOff Sz38q rfl (g_off Sz38q rfl rfl rfl rfl (decide_eq_false z12h)) rfl rfl ?_
            intro az39q Sz39q
            refine st_rdOff Sz39q rfl (g_off Sz39q rfl rfl rfl rfl (decide_eq_false z12h)) rfl rfl ?_
            intro az40q Sz40q
            refine st_rdOff Sz40q rfl (g_off Sz40q rfl rfl rfl rfl (decide_eq_false z12h)) rfl rfl ?_
            intro az41q Sz41q
            refine st_ds rfl ?_
            refine r_off Sz41q rfl rfl rfl (decide_eq_false z12h) ?_ rfl
            intro az42q Sz42q
            refine wl_nil ?_
            refine nr_then ?_
            refine st_pu Sz42q rfl (g_none rfl) rfl rfl (fun _ => y_pick Sz42q rfl (decide_eq_false z12h) _ rfl) ?_
            intro az43q Sz43q
            refine st_nil ?_
            replace S0 := Sz43q
            refine nr_then ?_
            obtain rfl := Option.some.inj H
            exact ⟨S0.sub ⟨rfl, rfl, rfl, trivial⟩, Hq⟩
        · clear S0; rintro a w ⟨S0, Hq⟩
          have H := HU2; clear HU2
          refine nr_then ?_
          by_cases z44h : z10x = true
          · replace H := (if_pos z44h).symm.trans H
            refine w_true S0 rfl z44h ?_
            refine w_skip ?_
            refine nr_then ?_
            refine w_seq ?_
            refine w_block ?_
            refine w_draw TryM.mixed (.pu 0 (.pu 1 (.pu 2 (.pu 3 (.pu 4 (.pu 5 (.pu 6 (.pu 7 (.pu 8 (.pu 9 (.pu 10 (.pu 12 (.pu 13 (.pu 14 (.rd 11 (.rd 15 (.pu 16 (.ds 17 (.pu 18 (.ds 19 .done)))))))))))))))))))) (by kernel_rfl) rfl ?_
            replace Hq := Hq.drew
            refine st_pures [0, 1, 2, 3, 4] S0 rfl ?_
            intro az45q Sz45q
            refine st_pu Sz45q rfl (g_none rfl) rfl rfl (fun _ => y_quo Sz45q rfl rfl (by decide)) ?_
            intro az46q Sz46q
            refine st_pures [6, 7, 8] Sz46q rfl ?_
            intro az47q Sz47q
            refine st_pu Sz47q rfl (g_none rfl) rfl rfl (fun _ => y_quo Sz47q rfl rfl (by decide)) ?_
            intro az48q Sz48q
            by_cases z49h : 0 ≤ (IntKind.i64.wrap ((IntKind.i64.wrap (z8x - 1)).tdiv 2))
            · replace H := (if_pos z49h).symm.trans H
              by_cases z50h : (IntKind.i64.wrap ((IntKind.i64.wrap (z8x - 1)).tdiv 2)) < ((x_l ++ ([x_t] : List api_Timer)).length : Int)
              · replace H := (if_pos z50h).symm.trans H
                obtain ⟨z51g, rfl⟩ := own_at [] Hq (by omega)
                refine st_pu Sz48q rfl (g_none rfl) rfl rfl (fun _ => y_index Sz48q rfl rfl sl22 ti32 z49h z50h) ?_
                intro az52q Sz52q
                refine st_pures [12, 13] Sz52q rfl ?_
                intro az53q Sz53q
                by_cases z54h : 0 ≤ z8x
                · replace H := (if_pos z54h).symm.trans H
                  by_cases z55h : z8x < ((x_l ++ ([x_t] : List api_Timer)).length : Int)
                  · replace H := (if_pos z55h).symm.trans H
                    refine st_pu Sz53q rfl (g_none rfl) rfl rfl (fun _ => y_index Sz53q rfl rfl sl22 ti32 z54h z55h) ?_
                    intro az56q Sz56q
                    refine st_rd Sz56q rfl (g_none rfl) rfl rfl (y_elA (vs := [.int .i64 ((rd e_api_Timer z9x (IntKind.i64.wrap ((IntKind.i64.wrap (z8x - 1)).tdiv 2))).At), .int .i64 ((rd e_api_Timer z9x (IntKind.i64.wrap ((IntKind.i64.wrap (z8x - 1)).tdiv 2))).ID)]) Sz56q (own_rd [] Hq) z49h z50h rfl ti32 rfl rfl) ?_
                    intro az57q Sz57q
                    refine st_rd Sz57q rfl (g_none rfl) rfl rfl (y_elA (vs := [.int .i64 ((rd e_api_Timer z9x z8x).At), .int .i64 ((rd e_api_Timer z9x z8x).ID)]) Sz57q (own_rd [] Hq) z54h z55h rfl ti32 rfl rfl) ?_
                    intro az58q Sz58q
                    refine st_pu Sz58q rfl (g_none rfl) rfl rfl (fun _ => y_index Sz58q rfl rfl sl22 ti32 z54h z55h) ?_
                    intro az59q Sz59q
                    refine st_ds rfl ?_
                    have Sz60q := Sz59q
                    refine r_elst [] Sz60q Hq z54h z55h rfl rfl ti32 [.int .i64 ((rd e_api_Timer z9x (IntKind.i64.wrap ((IntKind.i64.wrap (z8x - 1)).tdiv 2))).At), .int .i64 ((rd e_api_Timer z9x (IntKind.i64.wrap ((IntKind.i64.wrap (z8x - 1)).tdiv 2))).ID)] rfl rfl rfl rfl (rd e_api_Timer z9x (IntKind.i64.wrap ((IntKind.i64.wrap (z8x - 1)).tdiv 2))) rfl ?_
                    clear Hq; intro w Hq; dsimp only [List.cons_append, List.nil_append] at Hq
                    refine wl_nil ?_
                    refine nr_then ?_
                    refine st_pu Sz60q rfl (g_none rfl) rfl rfl (fun _ => y_index Sz60q rfl rfl sl22 ti32 z49h z50h) ?_
                    intro az61q Sz61q
                    refine st_ds rfl ?_
                    have Sz62q := Sz61q
                    refine r_elst [] Sz62q Hq z49h z50h rfl rfl ti32 [.int .i64 ((rd e_api_Timer z9x z8x).At), .int .i64 ((rd e_api_Timer z9x z8x).ID)] rfl rfl rfl rfl (rd e_api_Timer z9x z8x) rfl ?_
                    clear Hq; intro w Hq; dsimp only [List.cons_append, List.nil_append] at Hq
                    refine wl_nil ?_
                    refine nr_then ?_
                    refine st_nil ?_
                    replace S0 := Sz62q
                    refine nr_in ?_
                    refine nr_then ?_
                    refine w_region ?_
                    refine r_pures [_, _] S0 rfl ?_
                    clear S0; intro a0 S0
                    refine r_quo S0 rfl rfl (by decide) rfl ?_
                    clear S0; intro a0 S0
                    refine r_pures [_] S0 rfl ?_
                    clear S0; intro a0 S0
                    refine wl_nil ?_
                    refine nr_then ?_
                    exact ⟨(IntKind.i64.wrap ((IntKind.i64.wrap (z8x - 1)).tdiv 2)), ((z9x.set (Int.toNat z8x) (rd e_api_Timer z9x (IntKind.i64.wrap ((IntKind.i64.wrap (z8x - 1)).tdiv 2)))).set (Int.toNat (IntKind.i64.wrap ((IntKind.i64.wrap (z8x - 1)).tdiv 2))) (rd e_api_Timer z9x z8x)), H, S0.sub ⟨rfl, rfl, trivial⟩, Hq⟩
                  · replace H := (if_neg z55h).symm.trans H
                    exact nomatch H
                · replace H := (if_neg z54h).symm.trans H
                  exact nomatch H
              · replace H := (if_neg z50h).symm.trans H
                exact nomatch H
            · replace H := (if_neg z49h).symm.trans H
              exact nomatch H
          · replace H := (if_neg z44h).symm.trans H
            refine w_false S0 rfl (Bool.eq_false_iff.mpr z44h) ?_
            refine w_exit ?_
            refine ex_then ?_
            refine ex_then ?_
            refine ex_in ?_
            refine nr_then ?_
            obtain rfl := Option.some.inj H
            exact ⟨S0.sub ⟨rfl, trivial⟩, Hq⟩
    · clear S0; rintro a w ⟨S0, Hq⟩
      have H := HU1; clear HU1
      refine nr_then ?_
      refine w_seq ?_
      refine w_region ?_
      refine r_pures [_, _] S0 rfl ?_
      clear S0; intro a0 S0
      refine wl_nil ?_
      refine nr_then ?_
      refine w_ret ?_
      obtain rfl := Option.some.inj H
      refine ret1 S0 rfl rfl ?_
      replace Hq := HS.pull [_] Hq
      dsimp only [List.cons_append, List.nil_append] at Hq
      replace Hq := HS.pull [_] Hq
      dsimp only [List.cons_append, List.nil_append] at Hq
      exact ⟨z5A, ((x_l ++ ([x_t] : List api_Timer)).length), z6n, rfl, Hq⟩
  · replace H := (if_neg z4h).symm.trans H
    exact nomatch H

end Go.Proofs.Ytailjeoimlemnaa.M

/- waybill/waybillref20.Add: a plain function, and that the machine's call comes to it: printed by a program of the session's own. -/
set_option linter.unusedVariables false
set_option linter.unusedSimpArgs false
namespace Go.Proofs.Ytailjeoimlemnaa.M
open Go Go.Proofs.Ytailjeoimlemnaa.Sl
/-! ### waybill/waybillref20.Add: function 15 -/
def waybillref20_Add.l1 : Nat → (List api_Timer) → Int → (List api_Timer) → Int → Option (Sum ((List api_Timer) × Int) (Unit))
  | 0, _, _, _, _ => none
  | k + 1, x_more, z9x, z10x, z26x => if z26x < (z10x.length : Int) then (if 0 ≤ z26x then (if 0 ≤ z9x then (if z9x < (x_more.length : Int) then (if ((rd e_api_Timer z10x z26x).ID) = ((rd e_api_Timer x_more z9x).ID) then (some (Sum.inl (([] : List api_Timer), 6))) else (waybillref20_Add.l1 k x_more z9x z10x (IntKind.i64.wrap (z26x + 1)))) else (none)) else (none)) else (none)) else (some (Sum.inr (())))
def waybillref20_Add.l0 : Nat → (List api_Timer) → Int → (List api_Timer) → Option ((List api_Timer) × Int)
  | 0, _, _, _ => none
  | k + 1, x_more, z9x, z10x => if z9x < (x_more.length : Int) then (((if (z10x.length : Int) = 1024 then (some (Sum.inl (([] : List api_Timer), 3))) else (if 0 ≤ z9x then ((waybillref20_may.f (rd e_api_Timer x_more z9x)).bind fun z24t => (if z24t = true then ((((waybillref20_Add.l1 k x_more z9x z10x 0)) : Option (Sum ((List api_Timer) × Int) (Unit))).bind fun v_ => (match v_ with | (Sum.inl q_) => some (Sum.inl q_) | (Sum.inr (_)) => (waybillref20_put.f k z10x (rd e_api_Timer x_more z9x)).bind fun z43t => (some (Sum.inr (z43t))))) else (some (Sum.inl (([] : List api_Timer), 4))))) else (none))) : Option (Sum ((List api_Timer) × Int) ((List api_Timer)))).bind fun v_ => (match v_ with | (Sum.inl q_) => some q_ | (Sum.inr (z15x)) => waybillref20_Add.l0 k x_more (IntKind.i64.wrap (z9x + 1)) z15x)) else (some (z10x, 0))
def waybillref20_Add.f (k : Nat) (x_l : List api_Timer) (x_more : List api_Timer) : Option ((List api_Timer) × Int) := (waybillref20_Check.f k x_l).bind fun z2t => (if z2t = 0 then ((waybillref20_Own.f x_l).bind fun z5t => ((waybillref20_Add.l0 k x_more 0 z5t))) else (some (([] : List api_Timer), z2t)))
set_option maxRecDepth 100000 in
set_option maxHeartbeats 4000000 in
theorem waybillref20_Add.calls (k : Nat) (A0 : Option Addr) (n0 c0 : Nat) (x_l : List api_Timer) (A1 : Option Addr) (n1 c1 : Nat) (x_more : List api_Timer) (W0 : World) (X : Heap) (HR0 : Rd e_api_Timer X A0 n0 c0 x_l) (HR1 : Rd e_api_Timer X A1 n1 c1 x_more) (Hq : HS W0 [isH X] W0) (r : (List api_Timer) × Int) (H : waybillref20_Add.f k x_l x_more = some r) :
    Calls Try.prog 15 #[.slice A0 n0 c0, .slice A1 n1 c1] W0 (fun e w => ∃ Ar0 nr0 cr0, e = .returned (.tuple #[.slice Ar0 nr0 cr0, .int .i64 r.2]) ∧ HS W0 [own e_api_Timer 32 Ar0 nr0 cr0 r.1, isH X] w) := by
  obtain rfl := HR0.1
  obtain rfl := HR1.1
  rw [waybillref20_Add.f] at H
  refine calls_in Try.func15 rfl rfl ?_
  intro a0 S0
  refine w_seq ?_
  refine w_region ?_
  refine r_pures [_, _] S0 rfl ?_
  clear S0; intro a0 S0
  refine wl_nil ?_
  refine nr_then ?_
  refine w_seq ?_
  refine w_region ?_
  refine r_pures [_] S0 rfl ?_
  clear S0; intro a0 S0
  obtain ⟨Xz1, HXz1, HPz1, HBz1⟩ := call_frame [] Hq
  dsimp only [List.cons_append, List.nil_append] at HXz1 HBz1
  obtain ⟨z2t, Hc, H⟩ := Option.bind_eq_some_iff.mp H
  refine r_call S0 rfl rfl goes23 rfl ?_
  refine (waybillref20_Check.calls _ _ _ _ x_l _ _ (sl_isH_rd [] HPz1 HR0) HXz1 z2t Hc).mono ?_
  rintro e w ⟨rfl, Hq'⟩
  have Hq : HS W0 [isH X] w := HBz1 [] _ Hq'
  clear HXz1 HPz1 HBz1 Hq'
  refine ⟨.int .i64 z2t, rfl, ?_⟩; clear S0; intro a0 S0
  refine r_pures [_] S0 rfl ?_
  clear S0; intro a0 S0
  refine wl_nil ?_
  refine nr_then ?_
  refine w_seq ?_
  refine w_seq ?_
  refine w_region ?_
  refine r_pures [_, _] S0 rfl ?_
  clear S0; intro a0 S0
  refine wl_nil ?_
  refine nr_then ?_
  by_cases z3h : z2t = 0
  · replace H := (if_pos z3h).symm.trans H
    refine w_false S0 rfl (congrArg (!·) (decide_eq_true z3h)) ?_
    refine w_skip ?_
    refine nr_then ?_
    refine w_seq ?_
    refine w_region ?_
    refine r_pures [_] S0 rfl ?_
    clear S0; intro a0 S0
    obtain ⟨Xz4, HXz4, HPz4, HBz4⟩ := call_frame [] Hq
    dsimp only [List.cons_append, List.nil_append] at HXz4 HBz4
    obtain ⟨z5t, Hc, H⟩ := Option.bind_eq_some_iff.mp H
    refine r_call S0 rfl rfl goes13 rfl ?_
    refine (waybillref20_Own.calls _ _ _ x_l _ _ (sl_isH_rd [] HPz4 HR0) HXz4 z5t Hc).mono ?_
    rintro e w ⟨z6A, z7m, z8n, rfl, Hq'⟩
    have Hq : HS W0 [own e_api_Timer 32 z6A z7m z8n z5t, isH X] w := HBz4 [_] _ Hq'
    clear HXz4 HPz4 HBz4 Hq'
    obtain rfl := own_len [] Hq
    refine ⟨.slice z6A z5t.length z8n, rfl, ?_⟩; clear S0; intro a0 S0
    refine r_pures [_] S0 rfl ?_
    clear S0; intro a0 S0
    refine wl_nil ?_
    refine nr_then ?_
    refine w_seq ?_
    refine w_seq ?_
    refine w_region ?_
    refine r_pures [_] S0 rfl ?_
    clear S0; intro a0 S0
    refine wl_nil ?_
    refine nr_then ?_
    refine w_block ?_
    refine w_loop (fun kq a w => ∃ z9x z10x z11A z12m z13n, waybillref20_Add.l0 kq x_more z9x z10x = some r ∧ Sl 58 [] [(1, .slice A1 x_more.length c1), (7, .slice z11A z12m z13n), (8, .int .i64 z9x)] a ∧ HS W0 [own e_api_Timer 32 z11A z12m z13n z10x, isH X] w) _ ⟨0, z5t, z6A, z5t.length, z8n, H, S0.sub ⟨rfl, rfl, rfl, trivial⟩, Hq⟩ ?_
    clear H Hq S0
    rintro k0 a w ⟨z9x, z10x, z11A, z12m, z13n, H, S0, Hq⟩
    cases k0 with
    | zero => simp [waybillref20_Add.l0] at H
    | succ k0 =>
      refine ⟨k0, rfl, ?_⟩
      rw [waybillref20_Add.l0] at H
      obtain rfl := own_len [] Hq
      refine w_seq ?_
      refine w_seq ?_
      refine w_region ?_
      refine r_pures [_, _] S0 rfl ?_
      clear S0; intro a0 S0
      refine r_len S0 rfl sl22 rfl ?_
      clear S0; intro a0 S0
      refine r_pures [_] S0 rfl ?_
      clear S0; intro a0 S0
      refine wl_nil ?_
      refine nr_then ?_
      by_cases z14h : z9x < (x_more.length : Int)
      · replace H := (if_pos z14h).symm.trans H
        refine w_true S0 rfl (decide_eq_true z14h) ?_
        refine w_skip ?_
        refine nr_then ?_
        refine w_seq ?_
        obtain ⟨v1, H, HU1⟩ := Option.bind_eq_some_iff.mp H
        refine w_cutT (fun a w => ∃ z15x z16A z17m z18n, v1 = (Sum.inr (z15x)) ∧ Sl 58 [] [(1, .slice A1 x_more.length c1), (7, .slice z16A z17m z18n), (8, .int .i64 z9x)] a ∧ HS W0 [own e_api_Timer 32 z16A z17m z18n z15x, isH X] w) ?_ ?_
        · skip
          refine w_block ?_
          refine w_seq ?_
          refine w_block ?_
          refine w_seq ?_
          refine w_region ?_
          refine r_pures [_] S0 rfl ?_
          clear S0; intro a0 S0
          refine r_len S0 rfl sl22 rfl ?_
          clear S0; intro a0 S0
          refine r_pures [_, _] S0 rfl ?_
          clear S0; intro a0 S0
          refine wl_nil ?_
          refine nr_then ?_
          by_cases z19h : (z10x.length : Int) = 1024
          · replace H := (if_pos z19h).symm.trans H
            refine w_true S0 rfl (decide_eq_true z19h) ?_
            refine w_seq ?_
            refine w_region ?_
            refine r_pures [_, _] S0 rfl ?_
            clear S0; intro a0 S0
            refine wl_nil ?_
            refine nr_then ?_
            refine w_ret ?_
            refine ret_in ?_
            refine ret_then ?_
            refine ret_in ?_
            refine ret_then ?_
            obtain rfl := Option.some.inj H
            have H := HU1; clear HU1; dsimp only at H
            refine ret_then ?_
            refine ret_then ?_
            refine ret_in ?_
            refine ret_then ?_
            obtain rfl := Option.some.inj H
            replace Hq := HS.own_nil e_api_Timer 32 Hq
            refine ret2 S0 rfl rfl rfl ?_
            replace Hq := HS.pull [_, _] Hq
            dsimp only [List.cons_append, List.nil_append] at Hq
            replace Hq := HS.pull [_] Hq
            dsimp only [List.cons_append, List.nil_append] at Hq
            replace Hq := HS.keep [_, _] Hq
            exact ⟨none, 0, 0, rfl, Hq⟩
          · replace H := (if_neg z19h).symm.trans H
            refine w_false S0 rfl (decide_eq_false z19h) ?_
            refine w_seq ?_
            refine w_region ?_
            refine r_pures [_, _] S0 rfl ?_
            clear S0; intro a0 S0
            by_cases z20h : 0 ≤ z9x
            · replace H := (if_pos z20h).symm.trans H
              obtain ⟨z21b, z22o, rfl⟩ := (isH_rd [_] Hq HR1).at (by omega)
              refine r_index S0 rfl rfl sl22 ti32 z20h z14h rfl ?_
              clear S0; intro a0 S0
              refine r_elA (vs := [.int .i64 ((rd e_api_Timer x_more z9x).At), .int .i64 ((rd e_api_Timer x_more z9x).ID)]) S0 (isH_rd [_] Hq HR1) z20h z14h rfl ti32 rfl rfl rfl ?_
              clear S0; intro a0 S0
              obtain ⟨Xz23, HXz23, HPz23, HBz23⟩ := call_frame [] Hq
              dsimp only [List.cons_append, List.nil_append] at HXz23 HBz23
              obtain ⟨z24t, Hc, H⟩ := Option.bind_eq_some_iff.mp H
              refine r_call S0 rfl rfl goes34 rfl ?_
              refine (waybillref20_may.calls (rd e_api_Timer x_more z9x) _ _  HXz23 z24t Hc).mono ?_
              rintro e w ⟨rfl, Hq'⟩
              have Hq : HS W0 [own e_api_Timer 32 z11A z10x.length z13n z10x, isH X] w := HBz23 [] _ Hq'
              clear HXz23 HPz23 HBz23 Hq'
              refine ⟨.bool z24t, rfl, ?_⟩; clear S0; intro a0 S0
              refine r_pures [_, _] S0 rfl ?_
              clear S0; intro a0 S0
              refine wl_nil ?_
              refine nr_then ?_
              by_cases z25h : z24t = true
              · replace H := (if_pos z25h).symm.trans H
                refine w_false S0 rfl (congrArg (!·) z25h) ?_
                refine w_skip ?_
                refine nr_in ?_
                refine nr_then ?_
                refine w_seq ?_
                refine w_seq ?_
                refine w_region ?_
                refine r_pures [_] S0 rfl ?_
                clear S0; intro a0 S0
                refine wl_nil ?_
                refine nr_then ?_
                obtain ⟨v2, H, HU2⟩ := Option.bind_eq_some_iff.mp H
                refine w_cutT (fun a w => v2 = (Sum.inr (())) ∧ Sl 58 [] [(1, .slice (some ⟨z21b, z22o, none⟩) x_more.length c1), (7, .slice z11A z10x.length z13n), (8, .int .i64 z9x)] a ∧ HS W0 [own e_api_Timer 32 z11A z10x.length z13n z10x, isH X] w) ?_ ?_
                · skip
                  refine w_block ?_
                  refine w_loop (fun kq a w => ∃ z26x, waybillref20_Add.l1 kq x_more z9x z10x z26x = some v2 ∧ Sl 58 [] [(1, .slice (some ⟨z21b, z22o, none⟩) x_more.length c1), (7, .slice z11A z10x.length z13n), (8, .int .i64 z9x), (9, .int .i64 z26x)] a ∧ HS W0 [own e_api_Timer 32 z11A z10x.length z13n z10x, isH X] w) _ ⟨0, H, S0.sub ⟨rfl, rfl, rfl, rfl, trivial⟩, Hq⟩ ?_
                  clear H Hq S0
                  rintro k1 a w ⟨z26x, H, S0, Hq⟩
                  cases k1 with
                  | zero => simp [waybillref20_Add.l1] at H
                  | succ k1 =>
                    refine ⟨k1, rfl, ?_⟩
                    rw [waybillref20_Add.l1] at H
                    refine w_seq ?_
                    refine w_seq ?_
                    refine w_region ?_
                    refine r_pures [_, _] S0 rfl ?_
                    clear S0; intro a0 S0
                    refine r_len S0 rfl sl22 rfl ?_
                    clear S0; intro a0 S0
                    refine r_pures [_] S0 rfl ?_
                    clear S0; intro a0 S0
                    refine wl_nil ?_
                    refine nr_then ?_
                    by_cases z27h : z26x < (z10x.length : Int)
                    · replace H := (if_pos z27h).symm.trans H
                      refine w_true S0 rfl (decide_eq_true z27h) ?_
                      refine w_skip ?_
                      refine nr_then ?_
                      refine w_seq ?_
                      refine w_block ?_
                      refine w_seq ?_
                      refine w_draw TryM.mixed (.pu 0 (.pu 1 (.pu 2 (.pu 3 (.pu 5 (.pu 6 (.pu 7 (.pu 8 (.rd 4 (.rd 9 (.pu 10 .done))))))))))) (by kernel_rfl) rfl ?_
                      replace Hq := Hq.drew
                      refine st_pures [0, 1] S0 rfl ?_
                      intro az28q Sz28q
                      by_cases z29h : 0 ≤ z26x
                      · replace H := (if_pos z29h).symm.trans H
                        obtain ⟨z30g, rfl⟩ := own_at [] Hq (by omega)
                        refine st_pu Sz28q rfl (g_none rfl) rfl rfl (fun _ => y_index Sz28q rfl rfl sl22 ti32 z29h z27h) ?_
                        intro az31q Sz31q
                        refine st_pu Sz31q rfl (g_none rfl) rfl rfl (fun _ => y_fieldAddr Sz31q rfl fo32x1 (0 + Int.toNat z26x * 2 + 1) rfl) ?_
                        intro az32q Sz32q
                        refine st_pures [5, 6] Sz32q rfl ?_
                        intro az33q Sz33q
                        by_cases z34h : 0 ≤ z9x
                        · replace H := (if_pos z34h).symm.trans H
                          by_cases z35h : z9x < (x_more.length : Int)
                          · replace H := (if_pos z35h).symm.trans H
                            refine st_pu Sz33q rfl (g_none rfl) rfl rfl (fun _ => y_index Sz33q rfl rfl sl22 ti32 z34h z35h) ?_
                            intro az36q Sz36q
                            refine st_pu Sz36q rfl (g_none rfl) rfl rfl (fun _ => y_fieldAddr Sz36q rfl fo32x1 (z22o + Int.toNat z9x * 2 + 1) rfl) ?_
                            intro az37q Sz37q
                            refine st_rd Sz37q rfl (g_none rfl) rfl rfl (y_elS Sz37q (own_rd [] Hq) z29h z27h rfl ti3 _ rfl) ?_
                            intro az38q Sz38q
                            refine st_rd Sz38q rfl (g_none rfl) rfl rfl (y_elS Sz38q (isH_rd [_] Hq HR1) z34h z35h rfl ti3 _ rfl) ?_
                            intro az39q Sz39q
                            refine st_pures [10] Sz39q rfl ?_
                            intro az40q Sz40q
                            refine st_nil ?_
                            replace S0 := Sz40q
                            refine nr_then ?_
                            by_cases z41h : ((rd e_api_Timer z10x z26x).ID) = ((rd e_api_Timer x_more z9x).ID)
                            · replace H := (if_pos z41h).symm.trans H
                              refine w_true S0 rfl (decide_eq_true z41h) ?_
                              refine w_seq ?_
                              refine w_region ?_
                              refine r_pures [_, _] S0 rfl ?_
                              clear S0; intro a0 S0
                              refine wl_nil ?_
                              refine nr_then ?_
                              refine w_ret ?_
                              refine ret_in ?_
                              refine ret_then ?_
                              refine ret_then ?_
                              refine ret_in ?_
                              refine ret_then ?_
                              obtain rfl := Option.some.inj H
                              have H := HU2; clear HU2; dsimp only at H
                              refine ret_then ?_
                              refine ret_in ?_
                              refine ret_then ?_
                              obtain rfl := Option.some.inj H
                              have H := HU1; clear HU1; dsimp only at H
                              refine ret_then ?_
                              refine ret_then ?_
                              refine ret_in ?_
                              refine ret_then ?_
                              obtain rfl := Option.some.inj H
                              replace Hq := HS.own_nil e_api_Timer 32 Hq
                              refine ret2 S0 rfl rfl rfl ?_
                              replace Hq := HS.pull [_, _] Hq
                              dsimp only [List.cons_append, List.nil_append] at Hq
                              replace Hq := HS.pull [_] Hq
                              dsimp only [List.cons_append, List.nil_append] at Hq
                              replace Hq := HS.keep [_, _] Hq
                              exact ⟨none, 0, 0, rfl, Hq⟩
                            · replace H := (if_neg z41h).symm.trans H
                              refine w_false S0 rfl (decide_eq_false z41h) ?_
                              refine w_skip ?_
                              refine nr_in ?_
                              refine nr_then ?_
                              refine w_region ?_
                              refine r_pures [_, _, _] S0 rfl ?_
                              clear S0; intro a0 S0
                              refine wl_nil ?_
                              refine nr_then ?_
                              exact ⟨(IntKind.i64.wrap (z26x + 1)), H, S0.sub ⟨rfl, rfl, rfl, rfl, trivial⟩, Hq⟩
                          · replace H := (if_neg z35h).symm.trans H
                            exact nomatch H
                        · replace H := (if_neg z34h).symm.trans H
                          exact nomatch H
                      · replace H := (if_neg z29h).symm.trans H
                        exact nomatch H
                    · replace H := (if_neg z27h).symm.trans H
                      refine w_false S0 rfl (decide_eq_false z27h) ?_
                      refine w_exit ?_
                      refine ex_then ?_
                      refine ex_then ?_
                      refine ex_in ?_
                      refine nr_then ?_
                      obtain rfl := Option.some.inj H
                      exact ⟨rfl, S0.sub ⟨rfl, rfl, rfl, trivial⟩, Hq⟩
                · clear S0; rintro a w ⟨rfl, S0, Hq⟩
                  have H := HU2; clear HU2; dsimp only at H
                  refine nr_then ?_
                  refine w_region ?_
                  refine r_pures [_, _, _] S0 rfl ?_
                  clear S0; intro a0 S0
                  refine r_index S0 rfl rfl sl22 ti32 z20h z14h rfl ?_
                  clear S0; intro a0 S0
                  refine r_elA (vs := [.int .i64 ((rd e_api_Timer x_more z9x).At), .int .i64 ((rd e_api_Timer x_more z9x).ID)]) S0 (isH_rd [_] Hq HR1) z20h z14h rfl ti32 rfl rfl rfl ?_
                  clear S0; intro a0 S0
                  obtain ⟨Xz42, HXz42, HPz42, HBz42⟩ := call_frame [_] Hq
                  dsimp only [List.cons_append, List.nil_append] at HXz42 HBz42
                  obtain ⟨z43t, Hc, H⟩ := Option.bind_eq_some_iff.mp H
                  refine r_call S0 rfl rfl goes35 rfl ?_
                  refine (waybillref20_put.calls _ _ _ _ z10x (rd e_api_Timer x_more z9x) _ _  HXz42 z43t Hc).mono ?_
                  rintro e w ⟨z44A, z45m, z46n, rfl, Hq'⟩
                  have Hq : HS W0 [own e_api_Timer 32 z44A z45m z46n z43t, isH X] w := HBz42 [_] _ Hq'
                  clear HXz42 HPz42 HBz42 Hq'
                  obtain rfl := own_len [] Hq
                  refine ⟨.slice z44A z43t.length z46n, rfl, ?_⟩; clear S0; intro a0 S0
                  refine r_pures [_] S0 rfl ?_
                  clear S0; intro a0 S0
                  refine wl_nil ?_
                  refine nr_in ?_
                  refine nr_then ?_
                  obtain rfl := Option.some.inj H
                  exact ⟨z43t, z44A, z43t.length, z46n, rfl, S0.sub ⟨rfl, rfl, rfl, trivial⟩, Hq⟩
              · replace H := (if_neg z25h).symm.trans H
                refine w_true S0 rfl (congrArg (!·) (Bool.eq_false_iff.mpr z25h)) ?_
                refine w_seq ?_
                refine w_region ?_
                refine r_pures [_, _] S0 rfl ?_
                clear S0; intro a0 S0
                refine wl_nil ?_
                refine nr_then ?_
                refine w_ret ?_
                refine ret_in ?_
                refine ret_then ?_
                refine ret_in ?_
                refine ret_then ?_
                obtain rfl := Option.some.inj H
                have H := HU1; clear HU1; dsimp only at H
                refine ret_then ?_
                refine ret_then ?_
                refine ret_in ?_
                refine ret_then ?_
                obtain rfl := Option.some.inj H
                replace Hq := HS.own_nil e_api_Timer 32 Hq
                refine ret2 S0 rfl rfl rfl ?_
                replace Hq := HS.pull [_, _] Hq
                dsimp only [List.cons_append, List.nil_append] at Hq
                replace Hq := HS.pull [_] Hq
                dsimp only [List.cons_append, List.nil_append] at Hq
                replace Hq := HS.keep [_, _] Hq
                exact ⟨none, 0, 0, rfl, Hq⟩
            · replace H := (if_neg z20h).symm.trans H
              exact nomatch H
        · clear S0; rintro a w ⟨z15x, z16A, z17m, z18n, rfl, S0, Hq⟩
          have H := HU1; clear HU1; dsimp only at H
          obtain rfl := own_len [] Hq
          refine nr_then ?_
          refine w_region ?_
          refine r_pures [_, _, _] S0 rfl ?_
          clear S0; intro a0 S0
          refine wl_nil ?_
          refine nr_then ?_
          exact ⟨(IntKind.i64.wrap (z9x + 1)), z15x, z16A, z15x.length, z18n, H, S0.sub ⟨rfl, rfl, rfl, trivial⟩, Hq⟩
      · replace H := (if_neg z14h).symm.trans H
        refine w_false S0 rfl (decide_eq_false z14h) ?_
        refine w_exit ?_
        refine ex_then ?_
        refine ex_then ?_
        refine ex_in ?_
        refine nr_then ?_
        refine w_seq ?_
        refine w_region ?_
        refine r_pures [_, _, _] S0 rfl ?_
        clear S0; intro a0 S0
        refine wl_nil ?_
        refine nr_then ?_
        refine w_ret ?_
        obtain rfl := Option.some.inj H
        refine ret2 S0 rfl rfl rfl ?_
        replace Hq := HS.pull [_] Hq
        dsimp only [List.cons_append, List.nil_append] at Hq
        replace Hq := HS.pull [_] Hq
        dsimp only [List.cons_append, List.nil_append] at Hq
        exact ⟨z11A, z10x.length, z13n, rfl, Hq⟩
  · replace H := (if_neg z3h).symm.trans H
    refine w_true S0 rfl (congrArg (!·) (decide_eq_false z3h)) ?_
    refine w_seq ?_
    refine w_region ?_
    refine r_pures [_, _, _] S0 rfl ?_
    clear S0; intro a0 S0
    refine wl_nil ?_
    refine nr_then ?_
    refine w_ret ?_
    refine ret_then ?_
    obtain rfl := Option.some.inj H
    replace Hq := HS.own_nil e_api_Timer 32 Hq
    refine ret2 S0 rfl rfl rfl ?_
    replace Hq := HS.pull [_] Hq
    dsimp only [List.cons_append, List.nil_append] at Hq
    replace Hq := HS.pull [_] Hq
    dsimp only [List.cons_append, List.nil_append] at Hq
    exact ⟨none, 0, 0, rfl, Hq⟩

end Go.Proofs.Ytailjeoimlemnaa.M

/- waybill/waybillref20.take: a plain function, and that the machine's call comes to it: printed by a program of the session's own. -/
set_option linter.unusedVariables false
set_option linter.unusedSimpArgs false
namespace Go.Proofs.Ytailjeoimlemnaa.M
open Go Go.Proofs.Ytailjeoimlemnaa.Sl
/-! ### waybill/waybillref20.take: function 36 -/
def waybillref20_take.l0 : Nat → (List api_Timer) → Int → (List api_Timer) → Option (List api_Timer)
  | 0, _, _, _ => none
  | k + 1, x_l, z6x, z7x => if (IntKind.i64.wrap ((x_l.length : Int) - 1)) ≤ (IntKind.i64.wrap ((IntKind.i64.wrap (2 * z6x)) + 1)) then (if (Int.toNat (IntKind.i64.wrap ((x_l.length : Int) - 1))) ≤ x_l.length then (some (z7x.take (Int.toNat (IntKind.i64.wrap ((x_l.length : Int) - 1))))) else (none)) else (((if (IntKind.i64.wrap ((IntKind.i64.wrap ((IntKind.i64.wrap (2 * z6x)) + 1)) + 1)) < (IntKind.i64.wrap ((x_l.length : Int) - 1)) then (if 0 ≤ (IntKind.i64.wrap ((IntKind.i64.wrap ((IntKind.i64.wrap (2 * z6x)) + 1)) + 1)) then (if (IntKind.i64.wrap ((IntKind.i64.wrap ((IntKind.i64.wrap (2 * z6x)) + 1)) + 1)) < (Int.toNat (IntKind.i64.wrap ((x_l.length : Int) - 1)) : Int) then (if (IntKind.i64.wrap ((IntKind.i64.wrap ((IntKind.i64.wrap (2 * z6x)) + 1)) + 1)) < (x_l.length : Int) then (if 0 ≤ (IntKind.i64.wrap ((IntKind.i64.wrap (2 * z6x)) + 1)) then (if (IntKind.i64.wrap ((IntKind.i64.wrap (2 * z6x)) + 1)) < (Int.toNat (IntKind.i64.wrap ((x_l.length : Int) - 1)) : Int) then (if (IntKind.i64.wrap ((IntKind.i64.wrap (2 * z6x)) + 1)) < (x_l.length : Int) then ((waybillref20_Ahead.f (rd e_api_Timer z7x (IntKind.i64.wrap ((IntKind.i64.wrap ((IntKind.i64.wrap (2 * z6x)) + 1)) + 1))) (rd e_api_Timer z7x (IntKind.i64.wrap ((IntKind.i64.wrap (2 * z6x)) + 1)))).bind fun z30t => (some z30t)) else (none)) else (none)) else (none)) else (none)) else (none)) else (none)) else (some false)) : Option (Bool)).bind fun z10x => (((if z10x = true then (some (IntKind.i64.wrap ((IntKind.i64.wrap ((IntKind.i64.wrap (2 * z6x)) + 1)) + 1))) else (some (IntKind.i64.wrap ((IntKind.i64.wrap (2 * z6x)) + 1)))) : Option (Int)).bind fun z43x => (if 0 ≤ z43x then (if z43x < (Int.toNat (IntKind.i64.wrap ((x_l.length : Int) - 1)) : Int) then (if z43x < (x_l.length : Int) then (if 0 ≤ z6x then (if z6x < (Int.toNat (IntKind.i64.wrap ((x_l.length : Int) - 1)) : Int) then (if z6x < (x_l.length : Int) then ((waybillref20_Ahead.f (rd e_api_Timer z7x z43x) (rd e_api_Timer z7x z6x)).bind fun z59t => (if z59t = true then (waybillref20_take.l0 k x_l z43x ((z7x.set (Int.toNat z6x) (rd e_api_Timer z7x z43x)).set (Int.toNat z43x) (rd e_api_Timer z7x z6x))) else (if (Int.toNat (IntKind.i64.wrap ((x_l.length : Int) - 1))) ≤ x_l.length then (some (z7x.take (Int.toNat (IntKind.i64.wrap ((x_l.length : Int) - 1))))) else (none)))) else (none)) else (none)) else (none)) else (none)) else (none)) else (none))))
def waybillref20_take.f (k : Nat) (x_l : List api_Timer) : Option (List api_Timer) := if 0 ≤ (IntKind.i64.wrap ((x_l.length : Int) - 1)) then (if (IntKind.i64.wrap ((x_l.length : Int) - 1)) < (x_l.length : Int) then (if 0 < (x_l.length : Int) then (if (IntKind.i64.wrap ((x_l.length : Int) - 1)) ≤ (x_l.length : Int) then ((waybillref20_take.l0 k x_l 0 (x_l.set (Int.toNat 0) (rd e_api_Timer x_l (IntKind.i64.wrap ((x_l.length : Int) - 1)))))) else (none)) else (none)) else (none)) else (none)
set_option maxRecDepth 100000 in
set_option maxHeartbeats 4000000 in
theorem waybillref20_take.calls (k : Nat) (A0 : Option Addr) (n0 c0 : Nat) (x_l : List api_Timer) (W0 : World) (X : Heap)  (Hq : HS W0 [own e_api_Timer 32 A0 n0 c0 x_l, isH X] W0) (r : List api_Timer) (H : waybillref20_take.f k x_l = some r) :
    Calls Try.prog 36 #[.slice A0 n0 c0] W0 (fun e w => ∃ Ar0 nr0 cr0, e = .returned (.slice Ar0 nr0 cr0) ∧ HS W0 [own e_api_Timer 32 Ar0 nr0 cr0 r, isH X] w) := by
  obtain rfl := own_len [] Hq
  rw [waybillref20_take.f] at H
  refine calls_in Try.func36 rfl rfl ?_
  intro a0 S0
  refine w_seq ?_
  refine w_region ?_
  refine r_pures [_] S0 rfl ?_
  clear S0; intro a0 S0
  refine wl_nil ?_
  refine nr_then ?_
  refine w_seq ?_
  refine w_region ?_
  refine r_pures [_] S0 rfl ?_
  clear S0; intro a0 S0
  refine r_len S0 rfl sl22 rfl ?_
  clear S0; intro a0 S0
  refine r_pures [_, _] S0 rfl ?_
  clear S0; intro a0 S0
  refine wl_nil ?_
  refine nr_then ?_
  refine w_seq ?_
  refine w_region ?_
  refine r_pures [_, _, _] S0 rfl ?_
  clear S0; intro a0 S0
  by_cases z1h : 0 ≤ (IntKind.i64.wrap ((x_l.length : Int) - 1))
  · replace H := (if_pos z1h).symm.trans H
    by_cases z2h : (IntKind.i64.wrap ((x_l.length : Int) - 1)) < (x_l.length : Int)
    · replace H := (if_pos z2h).symm.trans H
      obtain ⟨z3g, rfl⟩ := own_at [] Hq (by omega)
      refine r_index S0 rfl rfl sl22 ti32 z1h z2h rfl ?_
      clear S0; intro a0 S0
      refine r_elA (vs := [.int .i64 ((rd e_api_Timer x_l (IntKind.i64.wrap ((x_l.length : Int) - 1))).At), .int .i64 ((rd e_api_Timer x_l (IntKind.i64.wrap ((x_l.length : Int) - 1))).ID)]) S0 (own_rd [] Hq) z1h z2h rfl ti32 rfl rfl rfl ?_
      clear S0; intro a0 S0
      by_cases z4h : 0 < (x_l.length : Int)
      · replace H := (if_pos z4h).symm.trans H
        refine r_index S0 rfl rfl sl22 ti32 (by decide : (0:Int) ≤ 0) z4h rfl ?_
        clear S0; intro a0 S0
        refine r_elst [] S0 Hq (by decide : (0:Int) ≤ 0) z4h rfl rfl ti32 [.int .i64 ((rd e_api_Timer x_l (IntKind.i64.wrap ((x_l.length : Int) - 1))).At), .int .i64 ((rd e_api_Timer x_l (IntKind.i64.wrap ((x_l.length : Int) - 1))).ID)] rfl rfl rfl rfl (rd e_api_Timer x_l (IntKind.i64.wrap ((x_l.length : Int) - 1))) rfl ?_
        clear Hq; intro w Hq; dsimp only [List.cons_append, List.nil_append] at Hq
        refine wl_nil ?_
        refine nr_then ?_
        refine w_seq ?_
        refine w_region ?_
        refine r_pures [_, _] S0 rfl ?_
        clear S0; intro a0 S0
        by_cases z5h : (IntKind.i64.wrap ((x_l.length : Int) - 1)) ≤ (x_l.length : Int)
        · replace H := (if_pos z5h).symm.trans H
          refine r_cutV [] S0 Hq rfl sl22 ti32 _ rfl z1h z5h rfl ?_
          clear S0; intro a0 S0
          refine r_pures [_] S0 rfl ?_
          clear S0; intro a0 S0
          refine wl_nil ?_
          refine nr_then ?_
          refine w_seq ?_
          refine w_region ?_
          refine r_pures [_] S0 rfl ?_
          clear S0; intro a0 S0
          refine wl_nil ?_
          refine nr_then ?_
          refine w_block ?_
          refine w_loop (fun kq a w => ∃ z6x z7x, waybillref20_take.l0 kq x_l z6x z7x = some r ∧ Sl 69 [] [(0, .slice (some ⟨z3g, 0, none⟩) (Int.toNat (IntKind.i64.wrap ((x_l.length : Int) - 1))) c0), (3, .int .i64 (IntKind.i64.wrap ((x_l.length : Int) - 1))), (4, .int .i64 z6x)] a ∧ HS W0 [own e_api_Timer 32 (some ⟨z3g, 0, none⟩) x_l.length c0 z7x, isH X] w) _ ⟨0, (x_l.set (Int.toNat 0) (rd e_api_Timer x_l (IntKind.i64.wrap ((x_l.length : Int) - 1)))), H, S0.sub ⟨rfl, rfl, rfl, trivial⟩, Hq⟩ ?_
          clear H Hq S0
          rintro k0 a w ⟨z6x, z7x, H, S0, Hq⟩
          cases k0 with
          | zero => simp [waybillref20_take.l0] at H
          | succ k0 =>
            refine ⟨k0, rfl, ?_⟩
            rw [waybillref20_take.l0] at H
            refine w_block ?_
            refine w_seq ?_
            refine w_region ?_
            refine r_pures [_, _, _, _] S0 rfl ?_
            clear S0; intro a0 S0
            refine wl_nil ?_
            refine nr_then ?_
            refine w_seq ?_
            refine w_seq ?_
            refine w_region ?_
            refine r_pures [_, _, _] S0 rfl ?_
            clear S0; intro a0 S0
            refine wl_nil ?_
            refine nr_then ?_
            by_cases z8h : (IntKind.i64.wrap ((x_l.length : Int) - 1)) ≤ (IntKind.i64.wrap ((IntKind.i64.wrap (2 * z6x)) + 1))
            · replace H := (if_pos z8h).symm.trans H
              refine w_true S0 rfl (decide_eq_true z8h) ?_
              refine w_seq ?_
              refine w_region ?_
              refine r_pures [_, _] S0 rfl ?_
              clear S0; intro a0 S0
              refine wl_nil ?_
              refine nr_then ?_
              refine w_ret ?_
              refine ret_then ?_
              refine ret_in ?_
              refine ret_then ?_
              refine ret_in ?_
              by_cases z9h : (Int.toNat (IntKind.i64.wrap ((x_l.length : Int) - 1))) ≤ x_l.length
              · replace H := (if_pos z9h).symm.trans H
                replace Hq := HS.shrink [] Hq z9h
                dsimp only [List.cons_append, List.nil_append] at Hq
                obtain rfl := Option.some.inj H
                refine ret1 S0 rfl rfl ?_
                replace Hq := HS.pull [_] Hq
                dsimp only [List.cons_append, List.nil_append] at Hq
                replace Hq := HS.pull [_] Hq
                dsimp only [List.cons_append, List.nil_append] at Hq
                exact ⟨(some ⟨z3g, 0, none⟩), (Int.toNat (IntKind.i64.wrap ((x_l.length : Int) - 1))), c0, rfl, Hq⟩
              · replace H := (if_neg z9h).symm.trans H
                exact nomatch H
            · replace H := (if_neg z8h).symm.trans H
              refine w_false S0 rfl (decide_eq_false z8h) ?_
              refine w_skip ?_
              refine nr_then ?_
              refine w_seq ?_
              refine w_seq ?_
              obtain ⟨z10x, H, HU1⟩ := Option.bind_eq_some_iff.mp H
              refine w_cutT (fun a w => Sl 69 [] [(0, .slice (some ⟨z3g, 0, none⟩) (Int.toNat (IntKind.i64.wrap ((x_l.length : Int) - 1))) c0), (3, .int .i64 (IntKind.i64.wrap ((x_l.length : Int) - 1))), (4, .int .i64 z6x), (5, .int .i64 (IntKind.i64.wrap ((IntKind.i64.wrap (2 * z6x)) + 1))), (40, .bool z10x)] a ∧ HS W0 [own e_api_Timer 32 (some ⟨z3g, 0, none⟩) x_l.length c0 z7x, isH X] w) ?_ ?_
              · skip
                refine w_draw TryM.mixed (.pu 0 (.pu 1 (.pu 2 (.pu 3 (.pu 4 (.pu 5 (.pu 6 (.pu 7 (.pu 8 (.pu 10 (.pu 11 (.pu 12 (.rd 9 (.rd 13 (.ds 14 (.pu 15 .done)))))))))))))))) (by kernel_rfl) rfl ?_
                replace Hq := Hq.drew
                refine st_pures [0, 1, 2, 3, 4] S0 rfl ?_
                intro az11q Sz11q
                by_cases z12h : (IntKind.i64.wrap ((IntKind.i64.wrap ((IntKind.i64.wrap (2 * z6x)) + 1)) + 1)) < (IntKind.i64.wrap ((x_l.length : Int) - 1))
                · replace H := (if_pos z12h).symm.trans H
                  refine st_pu Sz11q rfl (g_on Sz11q rfl rfl rfl rfl (decide_eq_true z12h)) rfl rfl (fun _ => y_of Sz11q _ rfl) ?_
                  intro az13q Sz13q
                  refine st_pu Sz13q rfl (g_on Sz13q rfl rfl rfl rfl (decide_eq_true z12h)) rfl rfl (fun _ => y_of Sz13q _ rfl) ?_
                  intro az14q Sz14q
                  refine st_pu Sz14q rfl (g_on Sz14q rfl rfl rfl rfl (decide_eq_true z12h)) rfl rfl (fun _ => y_of Sz14q _ rfl) ?_
                  intro az15q Sz15q
                  by_cases z16h : 0 ≤ (IntKind.i64.wrap ((IntKind.i64.wrap ((IntKind.i64.wrap (2 * z6x)) + 1)) + 1))
                  · replace H := (if_pos z16h).symm.trans H
                    by_cases z17h : (IntKind.i64.wrap ((IntKind.i64.wrap ((IntKind.i64.wrap (2 * z6x)) + 1)) + 1)) < (Int.toNat (IntKind.i64.wrap ((x_l.length : Int) - 1)) : Int)
                    · replace H := (if_pos z17h).symm.trans H
                      by_cases z18h : (IntKind.i64.wrap ((IntKind.i64.wrap ((IntKind.i64.wrap (2 * z6x)) + 1)) + 1)) < (x_l.length : Int)
                      · replace H := (if_pos z18h).symm.trans H
                        refine st_pu Sz15q rfl (g_on Sz15q rfl rfl rfl rfl (decide_eq_true z12h)) rfl rfl (fun _ => y_index Sz15q rfl rfl sl22 ti32 z16h z17h) ?_
                        intro az19q Sz19q
                        refine st_pu Sz19q rfl (g_on Sz19q rfl rfl rfl rfl (decide_eq_true z12h)) rfl rfl (fun _ => y_of Sz19q _ rfl) ?_
                        intro az20q Sz20q
                        refine st_pu Sz20q rfl (g_on Sz20q rfl rfl rfl rfl (decide_eq_true z12h)) rfl rfl (fun _ => y_of Sz20q _ rfl) ?_
                        intro az21q Sz21q
                        by_cases z22h : 0 ≤ (IntKind.i64.wrap ((IntKind.i64.wrap (2 * z6x)) + 1))
                        · replace H := (if_pos z22h).symm.trans H
                          by_cases z23h : (IntKind.i64.wrap ((IntKind.i64.wrap (2 * z6x)) + 1)) < (Int.toNat (IntKind.i64.wrap ((x_l.length : Int) - 1)) : Int)
                          · replace H := (if_pos z23h).symm.trans H
                            by_cases z24h : (IntKind.i64.wrap ((IntKind.i64.wrap (2 * z6x)) + 1)) < (x_l.length : Int)
                            · replace H := (if_pos z24h).symm.trans H
                              refine st_pu Sz21q rfl (g_on Sz21q rfl rfl rfl rfl (decide_eq_true z12h)) rfl rfl (fun _ => y_index Sz21q rfl rfl sl22 ti32 z22h z23h) ?_
                              intro az25q Sz25q
                              refine st_rd Sz25q rfl (g_on Sz25q rfl rfl rfl rfl (decide_eq_true z12h)) rfl rfl (y_elA (vs := [.int .i64 ((rd e_api_Timer z7x (IntKind.i64.wrap ((IntKind.i64.wrap ((IntKind.i64.wrap (2 * z6x)) + 1)) + 1))).At), .int .i64 ((rd e_api_Timer z7x (IntKind.i64.wrap ((IntKind.i64.wrap ((IntKind.i64.wrap (2 * z6x)) + 1)) + 1))).ID)]) Sz25q (own_rd [] Hq) z16h z18h rfl ti32 rfl rfl) ?_
                              intro az26q Sz26q
                              refine st_rd Sz26q rfl (g_on Sz26q rfl rfl rfl rfl (decide_eq_true z12h)) rfl rfl (y_elA (vs := [.int .i64 ((rd e_api_Timer z7x (IntKind.i64.wrap ((IntKind.i64.wrap (2 * z6x)) + 1))).At), .int .i64 ((rd e_api_Timer z7x (IntKind.i64.wrap ((IntKind.i64.wrap (2 * z6x)) + 1))).ID)]) Sz26q (own_rd [] Hq) z22h z24h rfl ti32 rfl rfl) ?_
                              intro az27q Sz27q
                              refine st_ds rfl ?_
                              refine r_on Sz27q rfl rfl rfl (decide_eq_true z12h) ?_
                              have Sz28q := Sz27q
                              obtain ⟨Xz29, HXz29, HPz29, HBz29⟩ := call_frame [] Hq
                              dsimp only [List.cons_append, List.nil_append] at HXz29 HBz29
                              obtain ⟨z30t, Hc, H⟩ := Option.bind_eq_some_iff.mp H
                              refine r_call Sz28q rfl rfl goes37 rfl ?_
                              refine (waybillref20_Ahead.calls (rd e_api_Timer z7x (IntKind.i64.wrap ((IntKind.i64.wrap ((IntKind.i64.wrap (2 * z6x)) + 1)) + 1))) (rd e_api_Timer z7x (IntKind.i64.wrap ((IntKind.i64.wrap (2 * z6x)) + 1))) _ _  HXz29 z30t Hc).mono ?_
                              rintro e w ⟨rfl, Hq'⟩
                              have Hq : HS W0 [own e_api_Timer 32 (some ⟨z3g, 0, none⟩) x_l.length c0 z7x, isH X] w := HBz29 [] _ Hq'
                              clear HXz29 HPz29 HBz29 Hq'
                              refine ⟨.bool z30t, rfl, ?_⟩; clear Sz28q; intro az27q Sz28q
                              refine wl_nil ?_
                              refine nr_then ?_
                              refine st_pu Sz28q rfl (g_none rfl) rfl rfl (fun _ => y_pick Sz28q rfl (decide_eq_true z12h) _ rfl) ?_
                              intro az31q Sz31q
                              refine st_nil ?_
                              replace S0 := Sz31q
                              refine nr_then ?_
                              obtain rfl := Option.some.inj H
                              exact ⟨S0.sub ⟨rfl, rfl, rfl, rfl, rfl, trivial⟩, Hq⟩
                            · replace H := (if_neg z24h).symm.trans H
                              exact nomatch H
                          · replace H := (if_neg z23h).symm.trans H
                            exact nomatch H
                        · replace H := (if_neg z22h).symm.trans H
                          exact nomatch H
                      · replace H := (if_neg z18h).symm.trans H
                        exact nomatch H
                    · replace H := (if_neg z17h).symm.trans H
                      exact nomatch H
                  · replace H := (if_neg z16h).symm.trans H
                    exact nomatch H
                · replace H := (if_neg z12h).symm.trans H
                  refine st_puOff Sz11q rfl (g_off Sz11q rfl rfl rfl rfl (decide_eq_false z12h)) rfl rfl ?_
                  intro az32q Sz32q
                  refine st_puOff Sz32q rfl (g_off Sz32q rfl rfl rfl rfl (decide_eq_false z12h)) rfl rfl ?_
                  intro az33q Sz33q
                  refine st_puOff Sz33q rfl (g_off Sz33q rfl rfl rfl rfl (decide_eq_false z12h)) rfl rfl ?_
                  intro az34q Sz34q
                  refine st_puOff Sz34q rfl (g_off Sz34q rfl rfl rfl rfl (decide_eq_false z12h)) rfl rfl ?_
                  intro az35q Sz35q
                  refine st_puOff Sz35q rfl (g_off Sz35q rfl rfl rfl rfl (decide_eq_false z12h)) rfl rfl ?_
                  intro az36q Sz36q
                  refine st_puOff Sz36q rfl (g_off Sz36q rfl rfl rfl rfl (decide_eq_false z12h)) rfl rfl ?_
                  intro az37q Sz37q
                  refine st_puOff Sz37q rfl (g_off Sz37q rfl rfl rfl rfl (decide_eq_false z12h)) rfl rfl ?_
                  intro az38q Sz38q
                  refine st_rdOff Sz38q rfl (g_off Sz38q rfl rfl rfl rfl (decide_eq_false z12h)) rfl rfl ?_
                  intro az39q Sz39q
                  refine st_rdOff Sz39q rfl (g_off Sz39q rfl rfl rfl rfl (decide_eq_false z12h)) rfl rfl ?_
                  intro az40q Sz40q
                  refine st_ds rfl ?_
                  refine r_off Sz40q rfl rfl rfl (decide_eq_false z12h) ?_ rfl
                  intro az41q Sz41q
                  refine wl_nil ?_
                  refine nr_then ?_
                  refine st_pu Sz41q rfl (g_none rfl) rfl rfl (fun _ => y_pick Sz41q rfl (decide_eq_false z12h) _ rfl) ?_
                  intro az42q Sz42q
                  refine st_nil ?_
                  replace S0 := Sz42q
                  refine nr_then ?_
                  obtain rfl := Option.some.inj H
                  exact ⟨S0.sub ⟨rfl, rfl, rfl, rfl, rfl, trivial⟩, Hq⟩
              · clear S0; rintro a w ⟨S0, Hq⟩
                have H := HU1; clear HU1
                refine nr_then ?_
                obtain ⟨z43x, H, HU2⟩ := Option.bind_eq_some_iff.mp H
                refine w_cutT (fun a w => Sl 69 [] [(0, .slice (some ⟨z3g, 0, none⟩) (Int.toNat (IntKind.i64.wrap ((x_l.length : Int) - 1))) c0), (3, .int .i64 (IntKind.i64.wrap ((x_l.length : Int) - 1))), (4, .int .i64 z6x), (5, .int .i64 z43x)] a ∧ HS W0 [own e_api_Timer 32 (some ⟨z3g, 0, none⟩) x_l.length c0 z7x, isH X] w) ?_ ?_
                · skip
                  by_cases z44h : z10x = true
                  · replace H := (if_pos z44h).symm.trans H
                    refine w_true S0 rfl z44h ?_
                    refine w_region ?_
                    refine r_pures [_, _, _] S0 rfl ?_
                    clear S0; intro a0 S0
                    refine wl_nil ?_
                    refine nr_then ?_
                    obtain rfl := Option.some.inj H
                    exact ⟨S0.sub ⟨rfl, rfl, rfl, rfl, trivial⟩, Hq⟩
                  · replace H := (if_neg z44h).symm.trans H
                    refine w_false S0 rfl (Bool.eq_false_iff.mpr z44h) ?_
                    refine w_skip ?_
                    refine nr_then ?_
                    obtain rfl := Option.some.inj H
                    exact ⟨S0.sub ⟨rfl, rfl, rfl, rfl, trivial⟩, Hq⟩
                · clear S0; rintro a w ⟨S0, Hq⟩
                  have H := HU2; clear HU2
                  refine nr_then ?_
                  refine w_seq ?_
                  refine w_seq ?_
                  refine w_draw TryM.mixed (.pu 0 (.pu 1 (.pu 2 (.pu 4 (.pu 5 (.pu 6 (.rd 3 (.rd 7 (.ds 8 (.pu 9 .done)))))))))) (by kernel_rfl) rfl ?_
                  replace Hq := Hq.drew
                  refine st_pures [0, 1] S0 rfl ?_
                  intro az45q Sz45q
                  by_cases z46h : 0 ≤ z43x
                  · replace H := (if_pos z46h).symm.trans H
                    by_cases z47h : z43x < (Int.toNat (IntKind.i64.wrap ((x_l.length : Int) - 1)) : Int)
                    · replace H := (if_pos z47h).symm.trans H
                      by_cases z48h : z43x < (x_l.length : Int)
                      · replace H := (if_pos z48h).symm.trans H
                        refine st_pu Sz45q rfl (g_none rfl) rfl rfl (fun _ => y_index Sz45q rfl rfl sl22 ti32 z46h z47h) ?_
                        intro az49q Sz49q
                        refine st_pures [4, 5] Sz49q rfl ?_
                        intro az50q Sz50q
                        by_cases z51h : 0 ≤ z6x
                        · replace H := (if_pos z51h).symm.trans H
                          by_cases z52h : z6x < (Int.toNat (IntKind.i64.wrap ((x_l.length : Int) - 1)) : Int)
                          · replace H := (if_pos z52h).symm.trans H
                            by_cases z53h : z6x < (x_l.length : Int)
                            · replace H := (if_pos z53h).symm.trans H
                              refine st_pu Sz50q rfl (g_none rfl) rfl rfl (fun _ => y_index Sz50q rfl rfl sl22 ti32 z51h z52h) ?_
                              intro az54q Sz54q
                              refine st_rd Sz54q rfl (g_none rfl) rfl rfl (y_elA (vs := [.int .i64 ((rd e_api_Timer z7x z43x).At), .int .i64 ((rd e_api_Timer z7x z43x).ID)]) Sz54q (own_rd [] Hq) z46h z48h rfl ti32 rfl rfl) ?_
                              intro az55q Sz55q
                              refine st_rd Sz55q rfl (g_none rfl) rfl rfl (y_elA (vs := [.int .i64 ((rd e_api_Timer z7x z6x).At), .int .i64 ((rd e_api_Timer z7x z6x).ID)]) Sz55q (own_rd [] Hq) z51h z53h rfl ti32 rfl rfl) ?_
                              intro az56q Sz56q
                              refine st_ds rfl ?_
                              have Sz57q := Sz56q
                              obtain ⟨Xz58, HXz58, HPz58, HBz58⟩ := call_frame [] Hq
                              dsimp only [List.cons_append, List.nil_append] at HXz58 HBz58
                              obtain ⟨z59t, Hc, H⟩ := Option.bind_eq_some_iff.mp H
                              refine r_call Sz57q rfl rfl goes37 rfl ?_
                              refine (waybillref20_Ahead.calls (rd e_api_Timer z7x z43x) (rd e_api_Timer z7x z6x) _ _  HXz58 z59t Hc).mono ?_
                              rintro e w ⟨rfl, Hq'⟩
                              have Hq : HS W0 [own e_api_Timer 32 (some ⟨z3g, 0, none⟩) x_l.length c0 z7x, isH X] w := HBz58 [] _ Hq'
                              clear HXz58 HPz58 HBz58 Hq'
                              refine ⟨.bool z59t, rfl, ?_⟩; clear Sz57q; intro az56q Sz57q
                              refine wl_nil ?_
                              refine nr_then ?_
                              refine st_pures [9] Sz57q rfl ?_
                              intro az60q Sz60q
                              refine st_nil ?_
                              replace S0 := Sz60q
                              refine nr_then ?_
                              by_cases z61h : z59t = true
                              · replace H := (if_pos z61h).symm.trans H
                                refine w_false S0 rfl (congrArg (!·) z61h) ?_
                                refine w_skip ?_
                                refine nr_then ?_
                                refine w_seq ?_
                                refine w_draw TryM.mixed (.pu 0 (.pu 1 (.pu 2 (.pu 3 (.pu 4 (.pu 5 (.pu 6 (.pu 8 (.pu 9 (.pu 10 (.rd 7 (.rd 11 (.pu 12 (.ds 13 (.pu 14 (.ds 15 .done)))))))))))))))) (by kernel_rfl) rfl ?_
                                replace Hq := Hq.drew
                                refine st_pures [0, 1, 2, 3, 4, 5] S0 rfl ?_
                                intro az62q Sz62q
                                refine st_pu Sz62q rfl (g_none rfl) rfl rfl (fun _ => y_index Sz62q rfl rfl sl22 ti32 z46h z47h) ?_
                                intro az63q Sz63q
                                refine st_pures [8, 9] Sz63q rfl ?_
                                intro az64q Sz64q
                                refine st_pu Sz64q rfl (g_none rfl) rfl rfl (fun _ => y_index Sz64q rfl rfl sl22 ti32 z51h z52h) ?_
                                intro az65q Sz65q
                                refine st_rd Sz65q rfl (g_none rfl) rfl rfl (y_elA (vs := [.int .i64 ((rd e_api_Timer z7x z43x).At), .int .i64 ((rd e_api_Timer z7x z43x).ID)]) Sz65q (own_rd [] Hq) z46h z48h rfl ti32 rfl rfl) ?_
                                intro az66q Sz66q
                                refine st_rd Sz66q rfl (g_none rfl) rfl rfl (y_elA (vs := [.int .i64 ((rd e_api_Timer z7x z6x).At), .int .i64 ((rd e_api_Timer z7x z6x).ID)]) Sz66q (own_rd [] Hq) z51h z53h rfl ti32 rfl rfl) ?_
                                intro az67q Sz67q
                                refine st_pu Sz67q rfl (g_none rfl) rfl rfl (fun _ => y_index Sz67q rfl rfl sl22 ti32 z51h z52h) ?_
                                intro az68q Sz68q
                                refine st_ds rfl ?_
                                have Sz69q := Sz68q
                                refine r_elst [] Sz69q Hq z51h z53h rfl rfl ti32 [.int .i64 ((rd e_api_Timer z7x z43x).At), .int .i64 ((rd e_api_Timer z7x z43x).ID)] rfl rfl rfl rfl (rd e_api_Timer z7x z43x) rfl ?_
                                clear Hq; intro w Hq; dsimp only [List.cons_append, List.nil_append] at Hq
                                refine wl_nil ?_
                                refine nr_then ?_
                                refine st_pu Sz69q rfl (g_none rfl) rfl rfl (fun _ => y_index Sz69q rfl rfl sl22 ti32 z46h z47h) ?_
                                intro az70q Sz70q
                                refine st_ds rfl ?_
                                have Sz71q := Sz70q
                                refine r_elst [] Sz71q Hq z46h z48h rfl rfl ti32 [.int .i64 ((rd e_api_Timer z7x z6x).At), .int .i64 ((rd e_api_Timer z7x z6x).ID)] rfl rfl rfl rfl (rd e_api_Timer z7x z6x) rfl ?_
                                clear Hq; intro w Hq; dsimp only [List.cons_append, List.nil_append] at Hq
                                refine wl_nil ?_
                                refine nr_then ?_
                                refine st_nil ?_
                                replace S0 := Sz71q
                                refine nr_then ?_
                                refine w_region ?_
                                refine r_pures [_, _] S0 rfl ?_
                                clear S0; intro a0 S0
                                refine wl_nil ?_
                                refine nr_in ?_
                                refine nr_then ?_
                                exact ⟨z43x, ((z7x.set (Int.toNat z6x) (rd e_api_Timer z7x z43x)).set (Int.toNat z43x) (rd e_api_Timer z7x z6x)), H, S0.sub ⟨rfl, rfl, rfl, trivial⟩, Hq⟩
                              · replace H := (if_neg z61h).symm.trans H
                                refine w_true S0 rfl (congrArg (!·) (Bool.eq_false_iff.mpr z61h)) ?_
                                refine w_seq ?_
                                refine w_region ?_
                                refine r_pures [_, _] S0 rfl ?_
                                clear S0; intro a0 S0
                                refine wl_nil ?_
                                refine nr_then ?_
                                refine w_ret ?_
                                refine ret_then ?_
                                refine ret_in ?_
                                refine ret_then ?_
                                refine ret_in ?_
                                by_cases z72h : (Int.toNat (IntKind.i64.wrap ((x_l.length : Int) - 1))) ≤ x_l.length
                                · replace H := (if_pos z72h).symm.trans H
                                  replace Hq := HS.shrink [] Hq z72h
                                  dsimp only [List.cons_append, List.nil_append] at Hq
                                  obtain rfl := Option.some.inj H
                                  refine ret1 S0 rfl rfl ?_
                                  replace Hq := HS.pull [_] Hq
                                  dsimp only [List.cons_append, List.nil_append] at Hq
                                  replace Hq := HS.pull [_] Hq
                                  dsimp only [List.cons_append, List.nil_append] at Hq
                                  exact ⟨(some ⟨z3g, 0, none⟩), (Int.toNat (IntKind.i64.wrap ((x_l.length : Int) - 1))), c0, rfl, Hq⟩
                                · replace H := (if_neg z72h).symm.trans H
                                  exact nomatch H
                            · replace H := (if_neg z53h).symm.trans H
                              exact nomatch H
                          · replace H := (if_neg z52h).symm.trans H
                            exact nomatch H
                        · replace H := (if_neg z51h).symm.trans H
                          exact nomatch H
                      · replace H := (if_neg z48h).symm.trans H
                        exact nomatch H
                    · replace H := (if_neg z47h).symm.trans H
                      exact nomatch H
                  · replace H := (if_neg z46h).symm.trans H
                    exact nomatch H
        · replace H := (if_neg z5h).symm.trans H
          exact nomatch H
      · replace H := (if_neg z4h).symm.trans H
        exact nomatch H
    · replace H := (if_neg z2h).symm.trans H
      exact nomatch H
  · replace H := (if_neg z1h).symm.trans H
    exact nomatch H

end Go.Proofs.Ytailjeoimlemnaa.M

/- waybill/waybillref20.Due: a plain function, and that the machine's call comes to it: printed by a program of the session's own. -/
set_option linter.unusedVariables false
set_option linter.unusedSimpArgs false
namespace Go.Proofs.Ytailjeoimlemnaa.M
open Go Go.Proofs.Ytailjeoimlemnaa.Sl
/-! ### waybill/waybillref20.Due: function 16 -/
def waybillref20_Due.l0 : Nat → Int → (List Int) → (List api_Timer) → Option ((List Int) × (List api_Timer))
  | 0, _, _, _ => none
  | k + 1, x_tick, z17x, z21x => ((if 0 < (z21x.length : Int) then (some (decide (((rd e_api_Timer z21x 0).At) ≤ x_tick))) else (some false)) : Option (Bool)).bind fun z25x => (if z25x = true then (if 0 < (z21x.length : Int) then (if z17x.length + ([(rd e_api_Timer z21x 0).ID] : List Int).length < 17592186044416 then ((waybillref20_take.f k z21x).bind fun z37t => (waybillref20_Due.l0 k x_tick (z17x ++ ([(rd e_api_Timer z21x 0).ID] : List Int)) z37t)) else (none)) else (none)) else (some (z17x, z21x)))
def waybillref20_Due.f (k : Nat) (x_l : List api_Timer) (x_tick : Int) : Option ((List api_Timer) × (List Int) × Int) := (waybillref20_Check.f k x_l).bind fun z2t => (if z2t = 0 then ((waybillref20_Own.f x_l).bind fun z5t => ((((waybillref20_Due.l0 k x_tick ([] : List Int) z5t)) : Option ((List Int) × (List api_Timer))).bind fun (z9x, z13x) => (some (z13x, z9x, 0)))) else (some (([] : List api_Timer), ([] : List Int), z2t)))
set_option maxRecDepth 100000 in
set_option maxHeartbeats 4000000 in
theorem waybillref20_Due.calls (k : Nat) (A0 : Option Addr) (n0 c0 : Nat) (x_l : List api_Timer) (x_tick : Int) (W0 : World) (X : Heap) (HR0 : Rd e_api_Timer X A0 n0 c0 x_l) (Hq : HS W0 [isH X] W0) (r : (List api_Timer) × (List Int) × Int) (H : waybillref20_Due.f k x_l x_tick = some r) :
    Calls Try.prog 16 #[.slice A0 n0 c0, .int .i64 x_tick] W0 (fun e w => ∃ Ar0 nr0 cr0 Ar1 nr1 cr1, e = .returned (.tuple #[.slice Ar0 nr0 cr0, .slice Ar1 nr1 cr1, .int .i64 r.2.2]) ∧ HS W0 [own e_api_Timer 32 Ar0 nr0 cr0 r.1, own e_i64 3 Ar1 nr1 cr1 r.2.1, isH X] w) := by
  obtain rfl := HR0.1
  rw [waybillref20_Due.f] at H
  refine calls_in Try.func16 rfl rfl ?_
  intro a0 S0
  refine w_seq ?_
  refine w_region ?_
  refine r_pures [_, _, _] S0 rfl ?_
  clear S0; intro a0 S0
  refine wl_nil ?_
  refine nr_then ?_
  refine w_seq ?_
  refine w_region ?_
  refine r_pures [_] S0 rfl ?_
  clear S0; intro a0 S0
  obtain ⟨Xz1, HXz1, HPz1, HBz1⟩ := call_frame [] Hq
  dsimp only [List.cons_append, List.nil_append] at HXz1 HBz1
  obtain ⟨z2t, Hc, H⟩ := Option.bind_eq_some_iff.mp H
  refine r_call S0 rfl rfl goes23 rfl ?_
  refine (waybillref20_Check.calls _ _ _ _ x_l _ _ (sl_isH_rd [] HPz1 HR0) HXz1 z2t Hc).mono ?_
  rintro e w ⟨rfl, Hq'⟩
  have Hq : HS W0 [isH X] w := HBz1 [] _ Hq'
  clear HXz1 HPz1 HBz1 Hq'
  refine ⟨.int .i64 z2t, rfl, ?_⟩; clear S0; intro a0 S0
  refine r_pures [_] S0 rfl ?_
  clear S0; intro a0 S0
  refine wl_nil ?_
  refine nr_then ?_
  refine w_seq ?_
  refine w_seq ?_
  refine w_region ?_
  refine r_pures [_, _] S0 rfl ?_
  clear S0; intro a0 S0
  refine wl_nil ?_
  refine nr_then ?_
  by_cases z3h : z2t = 0
  · replace H := (if_pos z3h).symm.trans H
    refine w_false S0 rfl (congrArg (!·) (decide_eq_true z3h)) ?_
    refine w_skip ?_
    refine nr_then ?_
    refine w_seq ?_
    refine w_region ?_
    refine r_pures [_] S0 rfl ?_
    clear S0; intro a0 S0
    obtain ⟨Xz4, HXz4, HPz4, HBz4⟩ := call_frame [] Hq
    dsimp only [List.cons_append, List.nil_append] at HXz4 HBz4
    obtain ⟨z5t, Hc, H⟩ := Option.bind_eq_some_iff.mp H
    refine r_call S0 rfl rfl goes13 rfl ?_
    refine (waybillref20_Own.calls _ _ _ x_l _ _ (sl_isH_rd [] HPz4 HR0) HXz4 z5t Hc).mono ?_
    rintro e w ⟨z6A, z7m, z8n, rfl, Hq'⟩
    have Hq : HS W0 [own e_api_Timer 32 z6A z7m z8n z5t, isH X] w := HBz4 [_] _ Hq'
    clear HXz4 HPz4 HBz4 Hq'
    obtain rfl := own_len [] Hq
    refine ⟨.slice z6A z5t.length z8n, rfl, ?_⟩; clear S0; intro a0 S0
    refine r_pures [_] S0 rfl ?_
    clear S0; intro a0 S0
    refine wl_nil ?_
    refine nr_then ?_
    refine w_seq ?_
    refine w_region ?_
    refine r_pures [_] S0 rfl ?_
    clear S0; intro a0 S0
    refine wl_nil ?_
    refine nr_then ?_
    refine w_seq ?_
    replace Hq := HS.own_nil e_i64 3 Hq
    obtain ⟨⟨z9x, z13x⟩, H, HU1⟩ := Option.bind_eq_some_iff.mp H
    dsimp only at HU1
    refine w_cutT (fun a w => ∃ z10A z11m z12n z14A z15m z16n, Sl 39 [] [(8, .slice z14A z15m z16n), (9, .slice z10A z11m z12n)] a ∧ HS W0 [own e_i64 3 z10A z11m z12n z9x, own e_api_Timer 32 z14A z15m z16n z13x, isH X] w) ?_ ?_
    · skip
      refine w_block ?_
      refine w_loop (fun kq a w => ∃ z17x z21x z18A z19m z20n z22A z23m z24n, waybillref20_Due.l0 kq x_tick z17x z21x = some (z9x, z13x) ∧ Sl 39 [] [(1, .int .i64 x_tick), (8, .slice z22A z23m z24n), (9, .slice z18A z19m z20n)] a ∧ HS W0 [own e_i64 3 z18A z19m z20n z17x, own e_api_Timer 32 z22A z23m z24n z21x, isH X] w) _ ⟨([] : List Int), z5t, none, 0, 0, z6A, z5t.length, z8n, H, S0.sub ⟨rfl, rfl, rfl, trivial⟩, Hq⟩ ?_
      clear H Hq S0
      rintro k0 a w ⟨z17x, z21x, z18A, z19m, z20n, z22A, z23m, z24n, H, S0, Hq⟩
      cases k0 with
      | zero => simp [waybillref20_Due.l0] at H
      | succ k0 =>
        refine ⟨k0, rfl, ?_⟩
        rw [waybillref20_Due.l0] at H
        obtain rfl := own_len [] Hq
        obtain rfl := own_len [_] Hq
        refine w_seq ?_
        refine w_seq ?_
        obtain ⟨z25x, H, HU2⟩ := Option.bind_eq_some_iff.mp H
        refine w_cutT (fun a w => Sl 39 [] [(1, .int .i64 x_tick), (8, .slice z22A z21x.length z24n), (9, .slice z18A z17x.length z20n), (27, .bool z25x)] a ∧ HS W0 [own e_i64 3 z18A z17x.length z20n z17x, own e_api_Timer 32 z22A z21x.length z24n z21x, isH X] w) ?_ ?_
        · skip
          refine w_region ?_
          refine r_pures [_] S0 rfl ?_
          clear S0; intro a0 S0
          refine r_len S0 rfl sl22 rfl ?_
          clear S0; intro a0 S0
          refine r_pures [_, _] S0 rfl ?_
          clear S0; intro a0 S0
          by_cases z26h : 0 < (z21x.length : Int)
          · replace H := (if_pos z26h).symm.trans H
            refine r_on S0 rfl rfl rfl (decide_eq_true z26h) ?_
            refine r_pures [_] S0 rfl ?_
            clear S0; intro a0 S0
            refine r_on S0 rfl rfl rfl (decide_eq_true z26h) ?_
            obtain ⟨z27g, rfl⟩ := own_at [_] Hq (by omega)
            refine r_index S0 rfl rfl sl22 ti32 (by decide : (0:Int) ≤ 0) z26h rfl ?_
            clear S0; intro a0 S0
            refine r_on S0 rfl rfl rfl (decide_eq_true z26h) ?_
            refine r_fieldAddr S0 rfl fo32x0 (0 + Int.toNat 0 * 2 + 0) rfl rfl ?_
            clear S0; intro a0 S0
            refine r_on S0 rfl rfl rfl (decide_eq_true z26h) ?_
            refine r_elS S0 (own_rd [_] Hq) (by decide : (0:Int) ≤ 0) z26h rfl ti3 _ rfl rfl ?_
            clear S0; intro a0 S0
            refine r_on S0 rfl rfl rfl (decide_eq_true z26h) ?_
            refine r_pures [_] S0 rfl ?_
            clear S0; intro a0 S0
            refine r_on S0 rfl rfl rfl (decide_eq_true z26h) ?_
            refine r_pures [_] S0 rfl ?_
            clear S0; intro a0 S0
            refine r_pick S0 rfl (decide_eq_true z26h) _ rfl rfl ?_
            clear S0; intro a0 S0
            refine wl_nil ?_
            refine nr_then ?_
            obtain rfl := Option.some.inj H
            exact ⟨S0.sub ⟨rfl, rfl, rfl, rfl, trivial⟩, Hq⟩
          · replace H := (if_neg z26h).symm.trans H
            refine r_off S0 rfl rfl rfl (decide_eq_false z26h) ?_ rfl
            clear S0; intro a0 S0
            refine r_off S0 rfl rfl rfl (decide_eq_false z26h) ?_ rfl
            clear S0; intro a0 S0
            refine r_off S0 rfl rfl rfl (decide_eq_false z26h) ?_ rfl
            clear S0; intro a0 S0
            refine r_off S0 rfl rfl rfl (decide_eq_false z26h) ?_ rfl
            clear S0; intro a0 S0
            refine r_off S0 rfl rfl rfl (decide_eq_false z26h) ?_ rfl
            clear S0; intro a0 S0
            refine r_off S0 rfl rfl rfl (decide_eq_false z26h) ?_ rfl
            clear S0; intro a0 S0
            refine r_pick S0 rfl (decide_eq_false z26h) _ rfl rfl ?_
            clear S0; intro a0 S0
            refine wl_nil ?_
            refine nr_then ?_
            obtain rfl := Option.some.inj H
            exact ⟨S0.sub ⟨rfl, rfl, rfl, rfl, trivial⟩, Hq⟩
        · clear S0; rintro a w ⟨S0, Hq⟩
          have H := HU2; clear HU2
          refine nr_then ?_
          by_cases z28h : z25x = true
          · replace H := (if_pos z28h).symm.trans H
            refine w_true S0 rfl z28h ?_
            refine w_skip ?_
            refine nr_then ?_
            refine w_block ?_
            refine w_seq ?_
            refine w_region ?_
            refine r_pures [_, _] S0 rfl ?_
            clear S0; intro a0 S0
            by_cases z29h : 0 < (z21x.length : Int)
            · replace H := (if_pos z29h).symm.trans H
              obtain ⟨z30g, rfl⟩ := own_at [_] Hq (by omega)
              refine r_index S0 rfl rfl sl22 ti32 (by decide : (0:Int) ≤ 0) z29h rfl ?_
              clear S0; intro a0 S0
              refine r_fieldAddr S0 rfl fo32x1 (0 + Int.toNat 0 * 2 + 1) rfl rfl ?_
              clear S0; intro a0 S0
              refine r_elS S0 (own_rd [_] Hq) (by decide : (0:Int) ≤ 0) z29h rfl ti3 _ rfl rfl ?_
              clear S0; intro a0 S0
              refine r_lit (e := e_i64) (l := ([(rd e_api_Timer z21x 0).ID] : List Int)) (m := 1) (vs := [.int .i64 ((rd e_api_Timer z21x 0).ID)]) S0 Hq sl23 ti3 rfl rfl rfl rfl rfl rfl ?_
              clear S0 Hq; intro z31b a0 w S0 Hq
              by_cases z33h : z17x.length + ([(rd e_api_Timer z21x 0).ID] : List Int).length < 17592186044416
              · replace H := (if_pos z33h).symm.trans H
                refine r_app [_] S0 Hq (own_rd [] Hq) rfl rfl sl23 ti3 rfl z33h rfl rfl ?_
                clear S0 Hq; intro z34A z35n a0 w S0 Hq; dsimp only [List.cons_append, List.nil_append] at Hq
                refine r_pures [_] S0 rfl ?_
                clear S0; intro a0 S0
                refine wl_nil ?_
                refine nr_then ?_
                refine w_region ?_
                refine r_pures [_] S0 rfl ?_
                clear S0; intro a0 S0
                replace Hq := HS.pull [_, _] Hq
                dsimp only [List.cons_append, List.nil_append] at Hq
                obtain ⟨Xz36, HXz36, HPz36, HBz36⟩ := call_frame [_] Hq
                dsimp only [List.cons_append, List.nil_append] at HXz36 HBz36
                obtain ⟨z37t, Hc, H⟩ := Option.bind_eq_some_iff.mp H
                refine r_call S0 rfl rfl goes36 rfl ?_
                refine (waybillref20_take.calls _ _ _ _ z21x _ _  HXz36 z37t Hc).mono ?_
                rintro e w ⟨z38A, z39m, z40n, rfl, Hq'⟩
                have Hq : HS W0 [own e_api_Timer 32 z38A z39m z40n z37t, own e_i64 3 (some ⟨z31b, 0, none⟩) 1 1 ([(rd e_api_Timer z21x 0).ID] : List Int), own e_i64 3 z34A ((z17x ++ ([(rd e_api_Timer z21x 0).ID] : List Int)).length) z35n (z17x ++ ([(rd e_api_Timer z21x 0).ID] : List Int)), isH X] w := HBz36 [_] _ Hq'
                clear HXz36 HPz36 HBz36 Hq'
                obtain rfl := own_len [] Hq
                refine ⟨.slice z38A z37t.length z40n, rfl, ?_⟩; clear S0; intro a0 S0
                refine r_pures [_] S0 rfl ?_
                clear S0; intro a0 S0
                refine wl_nil ?_
                refine nr_in ?_
                refine nr_then ?_
                replace Hq := HS.pull [_, _, _] Hq
                dsimp only [List.cons_append, List.nil_append] at Hq
                replace Hq := HS.pull [_] Hq
                dsimp only [List.cons_append, List.nil_append] at Hq
                replace Hq := HS.pull [_, _, _] Hq
                dsimp only [List.cons_append, List.nil_append] at Hq
                replace Hq := HS.keep [_, _, _] Hq
                exact ⟨(z17x ++ ([(rd e_api_Timer z21x 0).ID] : List Int)), z37t, z34A, ((z17x ++ ([(rd e_api_Timer z21x 0).ID] : List Int)).length), z35n, z38A, z37t.length, z40n, H, S0.sub ⟨rfl, rfl, rfl, trivial⟩, Hq⟩
              · replace H := (if_neg z33h).symm.trans H
                exact nomatch H
            · replace H := (if_neg z29h).symm.trans H
              exact nomatch H
          · replace H := (if_neg z28h).symm.trans H
            refine w_false S0 rfl (Bool.eq_false_iff.mpr z28h) ?_
            refine w_exit ?_
            refine ex_then ?_
            refine ex_then ?_
            refine ex_in ?_
            refine nr_then ?_
            simp only [Option.some.injEq, Prod.mk.injEq] at H; obtain ⟨rfl, rfl⟩ := H
            exact ⟨z18A, z17x.length, z20n, z22A, z21x.length, z24n, S0.sub ⟨rfl, rfl, trivial⟩, Hq⟩
    · clear S0; rintro a w ⟨z10A, z11m, z12n, z14A, z15m, z16n, S0, Hq⟩
      have H := HU1; clear HU1
      obtain rfl := own_len [] Hq
      obtain rfl := own_len [_] Hq
      refine nr_then ?_
      refine w_seq ?_
      refine w_region ?_
      refine r_pures [_, _, _, _, _] S0 rfl ?_
      clear S0; intro a0 S0
      refine wl_nil ?_
      refine nr_then ?_
      refine w_ret ?_
      obtain rfl := Option.some.inj H
      refine ret3 S0 rfl rfl rfl rfl ?_
      replace Hq := HS.pull [_, _] Hq
      dsimp only [List.cons_append, List.nil_append] at Hq
      replace Hq := HS.pull [_] Hq
      dsimp only [List.cons_append, List.nil_append] at Hq
      replace Hq := HS.pull [_, _] Hq
      dsimp only [List.cons_append, List.nil_append] at Hq
      exact ⟨z14A, z13x.length, z16n, z10A, z9x.length, z12n, rfl, Hq⟩
  · replace H := (if_neg z3h).symm.trans H
    refine w_true S0 rfl (congrArg (!·) (decide_eq_false z3h)) ?_
    refine w_seq ?_
    refine w_region ?_
    refine r_pures [_, _, _, _] S0 rfl ?_
    clear S0; intro a0 S0
    refine wl_nil ?_
    refine nr_then ?_
    refine w_ret ?_
    refine ret_then ?_
    obtain rfl := Option.some.inj H
    replace Hq := HS.own_nil e_api_Timer 32 Hq
    replace Hq := HS.own_nil e_i64 3 Hq
    refine ret3 S0 rfl rfl rfl rfl ?_
    replace Hq := HS.pull [_, _] Hq
    dsimp only [List.cons_append, List.nil_append] at Hq
    replace Hq := HS.pull [_] Hq
    dsimp only [List.cons_append, List.nil_append] at Hq
    replace Hq := HS.pull [_, _] Hq
    dsimp only [List.cons_append, List.nil_append] at Hq
    exact ⟨none, 0, 0, none, 0, 0, rfl, Hq⟩

end Go.Proofs.Ytailjeoimlemnaa.M

/- waybill/waybillref20.First: a plain function, and that the machine's call comes to it: printed by a program of the session's own. -/
set_option linter.unusedVariables false
set_option linter.unusedSimpArgs false
namespace Go.Proofs.Ytailjeoimlemnaa.M
open Go Go.Proofs.Ytailjeoimlemnaa.Sl
/-! ### waybill/waybillref20.First: function 19 -/
def waybillref20_First.f (k : Nat) (x_l : List api_Timer) : Option (api_Timer × Int) := (waybillref20_Check.f k x_l).bind fun z3t => (if z3t = 0 then (if (x_l.length : Int) = 0 then (some ((⟨0, 0⟩ : api_Timer), 71)) else (if 0 < (x_l.length : Int) then (some ((rd e_api_Timer x_l 0), 0)) else (none))) else (some ((⟨0, 0⟩ : api_Timer), z3t)))
set_option maxRecDepth 100000 in
set_option maxHeartbeats 4000000 in
theorem waybillref20_First.calls (k : Nat) (A0 : Option Addr) (n0 c0 : Nat) (x_l : List api_Timer) (W0 : World) (X : Heap) (HR0 : Rd e_api_Timer X A0 n0 c0 x_l) (Hq : HS W0 [isH X] W0) (r : api_Timer × Int) (H : waybillref20_First.f k x_l = some r) :
    Calls Try.prog 19 #[.slice A0 n0 c0] W0 (fun e w => e = .returned (.tuple #[.agg #[.int .i64 r.1.At, .int .i64 r.1.ID], .int .i64 r.2]) ∧ HS W0 [isH X] w) := by
  obtain rfl := HR0.1
  rw [waybillref20_First.f] at H
  refine calls_in Try.func19 rfl rfl ?_
  intro a0 S0
  refine w_seq ?_
  refine w_region ?_
  refine r_alloc S0 Hq ti32 rfl ?_
  clear S0 Hq; intro z1b a0 w S0 Hq
  refine r_pures [_] S0 rfl ?_
  clear S0; intro a0 S0
  refine wl_nil ?_
  refine nr_then ?_
  refine w_seq ?_
  refine w_region ?_
  refine r_pures [_] S0 rfl ?_
  clear S0; intro a0 S0
  obtain ⟨Xz2, HXz2, HPz2, HBz2⟩ := call_frame [] Hq
  dsimp only [List.cons_append, List.nil_append] at HXz2 HBz2
  obtain ⟨z3t, Hc, H⟩ := Option.bind_eq_some_iff.mp H
  refine r_call S0 rfl rfl goes23 rfl ?_
  refine (waybillref20_Check.calls _ _ _ _ x_l _ _ (sl_isH_rd [_] HPz2 HR0) HXz2 z3t Hc).mono ?_
  rintro e w ⟨rfl, Hq'⟩
  have Hq : HS W0 [bx z1b 32 [.int .i64 0, .int .i64 0], isH X] w := HBz2 [] _ Hq'
  clear HXz2 HPz2 HBz2 Hq'
  refine ⟨.int .i64 z3t, rfl, ?_⟩; clear S0; intro a0 S0
  refine r_pures [_] S0 rfl ?_
  clear S0; intro a0 S0
  refine wl_nil ?_
  refine nr_then ?_
  refine w_seq ?_
  refine w_block ?_
  refine w_seq ?_
  refine w_region ?_
  refine r_pures [_, _, _] S0 rfl ?_
  clear S0; intro a0 S0
  refine wl_nil ?_
  refine nr_then ?_
  by_cases z4h : z3t = 0
  · replace H := (if_pos z4h).symm.trans H
    refine w_false S0 rfl (congrArg (!·) (decide_eq_true z4h)) ?_
    refine w_seq ?_
    refine w_region ?_
    refine r_pures [_] S0 rfl ?_
    clear S0; intro a0 S0
    refine r_len S0 rfl sl22 rfl ?_
    clear S0; intro a0 S0
    refine r_pures [_, _] S0 rfl ?_
    clear S0; intro a0 S0
    refine wl_nil ?_
    refine nr_then ?_
    by_cases z5h : (x_l.length : Int) = 0
    · replace H := (if_pos z5h).symm.trans H
      refine w_true S0 rfl (decide_eq_true z5h) ?_
      refine w_seq ?_
      refine w_region ?_
      refine r_build S0 ti32 pl32 rfl [.int .i64 0, .int .i64 0] rfl rfl ?_
      clear S0; intro a0 S0
      refine r_st [] S0 Hq rfl rfl ti32 [.int .i64 0, .int .i64 0] rfl rfl rfl rfl [.int .i64 0, .int .i64 0] rfl ?_
      clear Hq; intro w Hq; dsimp only [List.cons_append, List.nil_append] at Hq
      refine r_pures [_] S0 rfl ?_
      clear S0; intro a0 S0
      refine wl_nil ?_
      refine nr_then ?_
      refine w_ret ?_
      refine ret_in ?_
      refine ret_then ?_
      obtain rfl := Option.some.inj H
      refine retL [.cell 2 32, .tmp 3] [.agg #[.int .i64 0, .int .i64 0], .int .i64 71] S0 rfl ⟨rv_cell [] Hq rfl ti32 rfl rfl, rfl, trivial⟩ (.tuple #[.agg #[.int .i64 0, .int .i64 0], .int .i64 71]) rfl ?_
      replace Hq := HS.pull [_] Hq
      dsimp only [List.cons_append, List.nil_append] at Hq
      replace Hq := HS.keep [_] Hq
      exact ⟨rfl, Hq⟩
    · replace H := (if_neg z5h).symm.trans H
      refine w_false S0 rfl (decide_eq_false z5h) ?_
      refine w_skip ?_
      refine nr_in ?_
      refine nr_then ?_
      refine w_seq ?_
      refine w_region ?_
      refine r_pures [_] S0 rfl ?_
      clear S0; intro a0 S0
      by_cases z6h : 0 < (x_l.length : Int)
      · replace H := (if_pos z6h).symm.trans H
        obtain ⟨z7b, z8o, rfl⟩ := (isH_rd [_] Hq HR0).at (by omega)
        refine r_index S0 rfl rfl sl22 ti32 (by decide : (0:Int) ≤ 0) z6h rfl ?_
        clear S0; intro a0 S0
        refine r_elA (vs := [.int .i64 ((rd e_api_Timer x_l 0).At), .int .i64 ((rd e_api_Timer x_l 0).ID)]) S0 (isH_rd [_] Hq HR0) (by decide : (0:Int) ≤ 0) z6h rfl ti32 rfl rfl rfl ?_
        clear S0; intro a0 S0
        refine r_st [] S0 Hq rfl rfl ti32 [.int .i64 ((rd e_api_Timer x_l 0).At), .int .i64 ((rd e_api_Timer x_l 0).ID)] rfl rfl rfl rfl [.int .i64 ((rd e_api_Timer x_l 0).At), .int .i64 ((rd e_api_Timer x_l 0).ID)] rfl ?_
        clear Hq; intro w Hq; dsimp only [List.cons_append, List.nil_append] at Hq
        refine r_pures [_] S0 rfl ?_
        clear S0; intro a0 S0
        refine wl_nil ?_
        refine nr_then ?_
        refine w_ret ?_
        obtain rfl := Option.some.inj H
        refine retL [.cell 2 32, .tmp 3] [.agg #[.int .i64 ((rd e_api_Timer x_l 0).At), .int .i64 ((rd e_api_Timer x_l 0).ID)], .int .i64 0] S0 rfl ⟨rv_cell [] Hq rfl ti32 rfl rfl, rfl, trivial⟩ (.tuple #[.agg #[.int .i64 ((rd e_api_Timer x_l 0).At), .int .i64 ((rd e_api_Timer x_l 0).ID)], .int .i64 0]) rfl ?_
        replace Hq := HS.pull [_] Hq
        dsimp only [List.cons_append, List.nil_append] at Hq
        replace Hq := HS.keep [_] Hq
        exact ⟨rfl, Hq⟩
      · replace H := (if_neg z6h).symm.trans H
        exact nomatch H
  · replace H := (if_neg z4h).symm.trans H
    refine w_true S0 rfl (congrArg (!·) (decide_eq_false z4h)) ?_
    refine w_seq ?_
    refine w_region ?_
    refine r_build S0 ti32 pl32 rfl [.int .i64 0, .int .i64 0] rfl rfl ?_
    clear S0; intro a0 S0
    refine r_pures [_] S0 rfl ?_
    clear S0; intro a0 S0
    refine r_st [] S0 Hq rfl rfl ti32 [.int .i64 0, .int .i64 0] rfl rfl rfl rfl [.int .i64 0, .int .i64 0] rfl ?_
    clear Hq; intro w Hq; dsimp only [List.cons_append, List.nil_append] at Hq
    refine r_pures [_] S0 rfl ?_
    clear S0; intro a0 S0
    refine wl_nil ?_
    refine nr_then ?_
    refine w_ret ?_
    refine ret_in ?_
    refine ret_then ?_
    obtain rfl := Option.some.inj H
    refine retL [.cell 2 32, .tmp 3] [.agg #[.int .i64 0, .int .i64 0], .int .i64 z3t] S0 rfl ⟨rv_cell [] Hq rfl ti32 rfl rfl, rfl, trivial⟩ (.tuple #[.agg #[.int .i64 0, .int .i64 0], .int .i64 z3t]) rfl ?_
    replace Hq := HS.pull [_] Hq
    dsimp only [List.cons_append, List.nil_append] at Hq
    replace Hq := HS.keep [_] Hq
    exact ⟨rfl, Hq⟩

end Go.Proofs.Ytailjeoimlemnaa.M

/- waybill/waybillref20.Cancel: a plain function, and that the machine's call comes to it: printed by a program of the session's own. -/
set_option linter.unusedVariables false
set_option linter.unusedSimpArgs false
namespace Go.Proofs.Ytailjeoimlemnaa.M
open Go Go.Proofs.Ytailjeoimlemnaa.Sl
/-! ### waybill/waybillref20.Cancel: function 20 -/
def waybillref20_Cancel.l1 : Nat → (List api_Timer) → (List Int) → Int → Bool → Int → Option (Bool)
  | 0, _, _, _, _, _ => none
  | k + 1, x_l, x_ids, z10x, z22x, z23x => if z23x < (x_ids.length : Int) then (((if z22x = true then (some true) else (if 0 ≤ z23x then (if 0 ≤ z10x then (if z10x < (x_l.length : Int) then (some (decide ((rd e_i64 x_ids z23x) = ((rd e_api_Timer x_l z10x).ID)))) else (none)) else (none)) else (none))) : Option (Bool)).bind fun z25x => (waybillref20_Cancel.l1 k x_l x_ids z10x z25x (IntKind.i64.wrap (z23x + 1)))) else (some z22x)
def waybillref20_Cancel.l0 : Nat → (List api_Timer) → (List Int) → Int → Int → (List api_Timer) → Option (Int × (List api_Timer))
  | 0, _, _, _, _, _ => none
  | k + 1, x_l, x_ids, z9x, z10x, z11x => if z10x < (x_l.length : Int) then ((((((waybillref20_Cancel.l1 k x_l x_ids z10x false 0)) : Option (Bool)).bind fun z21x => (((if z21x = true then (some (IntKind.i64.wrap (z9x + 1), z11x)) else (if 0 ≤ z10x then ((waybillref20_put.f k z11x (rd e_api_Timer x_l z10x)).bind fun z69t => (some (z9x, z69t))) else (none))) : Option (Int × (List api_Timer))).bind fun (z59x, z60x) => (some (z59x, z60x)))) : Option (Int × (List api_Timer))).bind fun (z16x, z17x) => (waybillref20_Cancel.l0 k x_l x_ids z16x (IntKind.i64.wrap (z10x + 1)) z17x)) else (some (z9x, z11x))
def waybillref20_Cancel.f (k : Nat) (x_l : List api_Timer) (x_ids : List Int) : Option ((List api_Timer) × Int × Int) := (waybillref20_Check.f k x_l).bind fun z2t => (if z2t = 0 then ((((waybillref20_Cancel.l0 k x_l x_ids 0 0 ([] : List api_Timer))) : Option (Int × (List api_Timer))).bind fun (z4x, z5x) => (some (z5x, z4x, 0))) else (some (([] : List api_Timer), 0, z2t)))
set_option maxRecDepth 100000 in
set_option maxHeartbeats 4000000 in
theorem waybillref20_Cancel.calls (k : Nat) (A0 : Option Addr) (n0 c0 : Nat) (x_l : List api_Timer) (A1 : Option Addr) (n1 c1 : Nat) (x_ids : List Int) (W0 : World) (X : Heap) (HR0 : Rd e_api_Timer X A0 n0 c0 x_l) (HR1 : Rd e_i64 X A1 n1 c1 x_ids) (Hq : HS W0 [isH X] W0) (r : (List api_Timer) × Int × Int) (H : waybillref20_Cancel.f k x_l x_ids = some r) :
    Calls Try.prog 20 #[.slice A0 n0 c0, .slice A1 n1 c1] W0 (fun e w => ∃ Ar0 nr0 cr0, e = .returned (.tuple #[.slice Ar0 nr0 cr0, .int .i64 r.2.1, .int .i64 r.2.2]) ∧ HS W0 [own e_api_Timer 32 Ar0 nr0 cr0 r.1, isH X] w) := by
  obtain rfl := HR0.1
  obtain rfl := HR1.1
  rw [waybillref20_Cancel.f] at H
  refine calls_in Try.func20 rfl rfl ?_
  intro a0 S0
  refine w_seq ?_
  refine w_region ?_
  refine r_pures [_, _, _] S0 rfl ?_
  clear S0; intro a0 S0
  refine wl_nil ?_
  refine nr_then ?_
  refine w_seq ?_
  refine w_region ?_
  refine r_pures [_] S0 rfl ?_
  clear S0; intro a0 S0
  obtain ⟨Xz1, HXz1, HPz1, HBz1⟩ := call_frame [] Hq
  dsimp only [List.cons_append, List.nil_append] at HXz1 HBz1
  obtain ⟨z2t, Hc, H⟩ := Option.bind_eq_some_iff.mp H
  refine r_call S0 rfl rfl goes23 rfl ?_
  refine (waybillref20_Check.calls _ _ _ _ x_l _ _ (sl_isH_rd [] HPz1 HR0) HXz1 z2t Hc).mono ?_
  rintro e w ⟨rfl, Hq'⟩
  have Hq : HS W0 [isH X] w := HBz1 [] _ Hq'
  clear HXz1 HPz1 HBz1 Hq'
  refine ⟨.int .i64 z2t, rfl, ?_⟩; clear S0; intro a0 S0
  refine r_pures [_] S0 rfl ?_
  clear S0; intro a0 S0
  refine wl_nil ?_
  refine nr_then ?_
  refine w_seq ?_
  refine w_seq ?_
  refine w_region ?_
  refine r_pures [_, _] S0 rfl ?_
  clear S0; intro a0 S0
  refine wl_nil ?_
  refine nr_then ?_
  by_cases z3h : z2t = 0
  · replace H := (if_pos z3h).symm.trans H
    refine w_false S0 rfl (congrArg (!·) (decide_eq_true z3h)) ?_
    refine w_skip ?_
    refine nr_then ?_
    refine w_seq ?_
    refine w_region ?_
    refine r_pures [_] S0 rfl ?_
    clear S0; intro a0 S0
    refine wl_nil ?_
    refine nr_then ?_
    refine w_seq ?_
    refine w_region ?_
    refine r_pures [_] S0 rfl ?_
    clear S0; intro a0 S0
    refine wl_nil ?_
    refine nr_then ?_
    refine w_seq ?_
    refine w_seq ?_
    refine w_region ?_
    refine r_pures [_] S0 rfl ?_
    clear S0; intro a0 S0
    refine wl_nil ?_
    refine nr_then ?_
    replace Hq := HS.own_nil e_api_Timer 32 Hq
    obtain ⟨⟨z4x, z5x⟩, H, HU1⟩ := Option.bind_eq_some_iff.mp H
    dsimp only at HU1
    refine w_cutT (fun a w => ∃ z6A z7m z8n, Sl 54 [] [(8, .slice z6A z7m z8n), (9, .int .i64 z4x)] a ∧ HS W0 [own e_api_Timer 32 z6A z7m z8n z5x, isH X] w) ?_ ?_
    · skip
      refine w_block ?_
      refine w_loop (fun kq a w => ∃ z9x z10x z11x z12A z13m z14n, waybillref20_Cancel.l0 kq x_l x_ids z9x z10x z11x = some (z4x, z5x) ∧ Sl 54 [] [(0, .slice A0 x_l.length c0), (1, .slice A1 x_ids.length c1), (8, .slice z12A z13m z14n), (9, .int .i64 z9x), (10, .int .i64 z10x)] a ∧ HS W0 [own e_api_Timer 32 z12A z13m z14n z11x, isH X] w) _ ⟨0, 0, ([] : List api_Timer), none, 0, 0, H, S0.sub ⟨rfl, rfl, rfl, rfl, rfl, trivial⟩, Hq⟩ ?_
      clear H Hq S0
      rintro k0 a w ⟨z9x, z10x, z11x, z12A, z13m, z14n, H, S0, Hq⟩
      cases k0 with
      | zero => simp [waybillref20_Cancel.l0] at H
      | succ k0 =>
        refine ⟨k0, rfl, ?_⟩
        rw [waybillref20_Cancel.l0] at H
        obtain rfl := own_len [] Hq
        refine w_seq ?_
        refine w_seq ?_
        refine w_region ?_
        refine r_pures [_, _] S0 rfl ?_
        clear S0; intro a0 S0
        refine r_len S0 rfl sl22 rfl ?_
        clear S0; intro a0 S0
        refine r_pures [_] S0 rfl ?_
        clear S0; intro a0 S0
        refine wl_nil ?_
        refine nr_then ?_
        by_cases z15h : z10x < (x_l.length : Int)
        · replace H := (if_pos z15h).symm.trans H
          refine w_true S0 rfl (decide_eq_true z15h) ?_
          refine w_skip ?_
          refine nr_then ?_
          refine w_seq ?_
          obtain ⟨⟨z16x, z17x⟩, H, HU2⟩ := Option.bind_eq_some_iff.mp H
          dsimp only at HU2
          refine w_cutT (fun a w => ∃ z18A z19m z20n, Sl 54 [] [(0, .slice A0 x_l.length c0), (1, .slice A1 x_ids.length c1), (8, .slice z18A z19m z20n), (9, .int .i64 z16x), (10, .int .i64 z10x)] a ∧ HS W0 [own e_api_Timer 32 z18A z19m z20n z17x, isH X] w) ?_ ?_
          · skip
            refine w_block ?_
            refine w_seq ?_
            refine w_region ?_
            refine r_pures [_] S0 rfl ?_
            clear S0; intro a0 S0
            refine wl_nil ?_
            refine nr_then ?_
            refine w_seq ?_
            refine w_seq ?_
            refine w_region ?_
            refine r_pures [_] S0 rfl ?_
            clear S0; intro a0 S0
            refine wl_nil ?_
            refine nr_then ?_
            obtain ⟨z21x, H, HU3⟩ := Option.bind_eq_some_iff.mp H
            refine w_cutT (fun a w => Sl 54 [] [(0, .slice A0 x_l.length c0), (1, .slice A1 x_ids.length c1), (8, .slice z12A z11x.length z14n), (9, .int .i64 z9x), (10, .int .i64 z10x), (11, .bool z21x)] a ∧ HS W0 [own e_api_Timer 32 z12A z11x.length z14n z11x, isH X] w) ?_ ?_
            · skip
              refine w_block ?_
              refine w_loop (fun kq a w => ∃ z22x z23x, waybillref20_Cancel.l1 kq x_l x_ids z10x z22x z23x = some z21x ∧ Sl 54 [] [(0, .slice A0 x_l.length c0), (1, .slice A1 x_ids.length c1), (8, .slice z12A z11x.length z14n), (9, .int .i64 z9x), (10, .int .i64 z10x), (11, .bool z22x), (12, .int .i64 z23x)] a ∧ HS W0 [own e_api_Timer 32 z12A z11x.length z14n z11x, isH X] w) _ ⟨false, 0, H, S0.sub ⟨rfl, rfl, rfl, rfl, rfl, rfl, rfl, trivial⟩, Hq⟩ ?_
              clear H Hq S0
              rintro k1 a w ⟨z22x, z23x, H, S0, Hq⟩
              cases k1 with
              | zero => simp [waybillref20_Cancel.l1] at H
              | succ k1 =>
                refine ⟨k1, rfl, ?_⟩
                rw [waybillref20_Cancel.l1] at H
                refine w_seq ?_
                refine w_seq ?_
                refine w_region ?_
                refine r_pures [_, _] S0 rfl ?_
                clear S0; intro a0 S0
                refine r_len S0 rfl sl23 rfl ?_
                clear S0; intro a0 S0
                refine r_pures [_] S0 rfl ?_
                clear S0; intro a0 S0
                refine wl_nil ?_
                refine nr_then ?_
                by_cases z24h : z23x < (x_ids.length : Int)
                · replace H := (if_pos z24h).symm.trans H
                  refine w_true S0 rfl (decide_eq_true z24h) ?_
                  refine w_skip ?_
                  refine nr_then ?_
                  refine w_seq ?_
                  refine w_block ?_
                  obtain ⟨z25x, H, HU4⟩ := Option.bind_eq_some_iff.mp H
                  refine w_cutT (fun a w => Sl 54 [] [(0, .slice A0 x_l.length c0), (1, .slice A1 x_ids.length c1), (8, .slice z12A z11x.length z14n), (9, .int .i64 z9x), (10, .int .i64 z10x), (11, .bool z25x), (12, .int .i64 z23x)] a ∧ HS W0 [own e_api_Timer 32 z12A z11x.length z14n z11x, isH X] w) ?_ ?_
                  · skip
                    refine w_draw TryM.mixed (.pu 0 (.pu 1 (.pu 2 (.pu 3 (.pu 4 (.pu 6 (.pu 7 (.pu 8 (.pu 9 (.rd 5 (.rd 10 (.pu 11 (.pu 12 (.pu 13 .done)))))))))))))) (by kernel_rfl) rfl ?_
                    replace Hq := Hq.drew
                    refine st_pures [0, 1] S0 rfl ?_
                    intro az26q Sz26q
                    by_cases z27h : z22x = true
                    · replace H := (if_pos z27h).symm.trans H
                      refine st_puOff Sz26q rfl (g_off Sz26q rfl rfl rfl rfl z27h) rfl rfl ?_
                      intro az28q Sz28q
                      refine st_puOff Sz28q rfl (g_off Sz28q rfl rfl rfl rfl z27h) rfl rfl ?_
                      intro az29q Sz29q
                      refine st_puOff Sz29q rfl (g_off Sz29q rfl rfl rfl rfl z27h) rfl rfl ?_
                      intro az30q Sz30q
                      refine st_puOff Sz30q rfl (g_off Sz30q rfl rfl rfl rfl z27h) rfl rfl ?_
                      intro az31q Sz31q
                      refine st_puOff Sz31q rfl (g_off Sz31q rfl rfl rfl rfl z27h) rfl rfl ?_
                      intro az32q Sz32q
                      refine st_puOff Sz32q rfl (g_off Sz32q rfl rfl rfl rfl z27h) rfl rfl ?_
                      intro az33q Sz33q
                      refine st_puOff Sz33q rfl (g_off Sz33q rfl rfl rfl rfl z27h) rfl rfl ?_
                      intro az34q Sz34q
                      refine st_rdOff Sz34q rfl (g_off Sz34q rfl rfl rfl rfl z27h) rfl rfl ?_
                      intro az35q Sz35q
                      refine st_rdOff Sz35q rfl (g_off Sz35q rfl rfl rfl rfl z27h) rfl rfl ?_
                      intro az36q Sz36q
                      refine st_puOff Sz36q rfl (g_off Sz36q rfl rfl rfl rfl z27h) rfl rfl ?_
                      intro az37q Sz37q
                      refine st_pu Sz37q rfl (g_none rfl) rfl rfl (fun _ => y_pick Sz37q rfl z27h _ rfl) ?_
                      intro az38q Sz38q
                      refine st_pures [13] Sz38q rfl ?_
                      intro az39q Sz39q
                      refine st_nil ?_
                      replace S0 := Sz39q
                      refine nr_then ?_
                      obtain rfl := Option.some.inj H
                      exact ⟨S0.sub ⟨rfl, rfl, rfl, rfl, rfl, rfl, rfl, trivial⟩, Hq⟩
                    · replace H := (if_neg z27h).symm.trans H
                      refine st_pu Sz26q rfl (g_on Sz26q rfl rfl rfl rfl (Bool.eq_false_iff.mpr z27h)) rfl rfl (fun _ => y_of Sz26q _ rfl) ?_
                      intro az40q Sz40q
                      refine st_pu Sz40q rfl (g_on Sz40q rfl rfl rfl rfl (Bool.eq_false_iff.mpr z27h)) rfl rfl (fun _ => y_of Sz40q _ rfl) ?_
                      intro az41q Sz41q
                      by_cases z42h : 0 ≤ z23x
                      · replace H := (if_pos z42h).symm.trans H
                        obtain ⟨z43b, z44o, rfl⟩ := (isH_rd [_] Hq HR1).at (by omega)
                        refine st_pu Sz41q rfl (g_on Sz41q rfl rfl rfl rfl (Bool.eq_false_iff.mpr z27h)) rfl rfl (fun _ => y_index Sz41q rfl rfl sl23 ti3 z42h z24h) ?_
                        intro az45q Sz45q
                        refine st_pu Sz45q rfl (g_on Sz45q rfl rfl rfl rfl (Bool.eq_false_iff.mpr z27h)) rfl rfl (fun _ => y_of Sz45q _ rfl) ?_
                        intro az46q Sz46q
                        refine st_pu Sz46q rfl (g_on Sz46q rfl rfl rfl rfl (Bool.eq_false_iff.mpr z27h)) rfl rfl (fun _ => y_of Sz46q _ rfl) ?_
                        intro az47q Sz47q
                        by_cases z48h : 0 ≤ z10x
                        · replace H := (if_pos z48h).symm.trans H
                          by_cases z49h : z10x < (x_l.length : Int)
                          · replace H := (if_pos z49h).symm.trans H
                            obtain ⟨z50b, z51o, rfl⟩ := (isH_rd [_] Hq HR0).at (by omega)
                            refine st_pu Sz47q rfl (g_on Sz47q rfl rfl rfl rfl (Bool.eq_false_iff.mpr z27h)) rfl rfl (fun _ => y_index Sz47q rfl rfl sl22 ti32 z48h z49h) ?_
                            intro az52q Sz52q
                            refine st_pu Sz52q rfl (g_on Sz52q rfl rfl rfl rfl (Bool.eq_false_iff.mpr z27h)) rfl rfl (fun _ => y_fieldAddr Sz52q rfl fo32x1 (z51o + Int.toNat z10x * 2 + 1) rfl) ?_
                            intro az53q Sz53q
                            refine st_rd Sz53q rfl (g_on Sz53q rfl rfl rfl rfl (Bool.eq_false_iff.mpr z27h)) rfl rfl (y_elS Sz53q (isH_rd [_] Hq HR1) z42h z24h rfl ti3 _ rfl) ?_
                            intro az54q Sz54q
                            refine st_rd Sz54q rfl (g_on Sz54q rfl rfl rfl rfl (Bool.eq_false_iff.mpr z27h)) rfl rfl (y_elS Sz54q (isH_rd [_] Hq HR0) z48h z49h rfl ti3 _ rfl) ?_
                            intro az55q Sz55q
                            refine st_pu Sz55q rfl (g_on Sz55q rfl rfl rfl rfl (Bool.eq_false_iff.mpr z27h)) rfl rfl (fun _ => y_of Sz55q _ rfl) ?_
                            intro az56q Sz56q
                            refine st_pu Sz56q rfl (g_none rfl) rfl rfl (fun _ => y_pick Sz56q rfl (Bool.eq_false_iff.mpr z27h) _ rfl) ?_
                            intro az57q Sz57q
                            refine st_pures [13] Sz57q rfl ?_
                            intro az58q Sz58q
                            refine st_nil ?_
                            replace S0 := Sz58q
                            refine nr_then ?_
                            obtain rfl := Option.some.inj H
                            exact ⟨S0.sub ⟨rfl, rfl, rfl, rfl, rfl, rfl, rfl, trivial⟩, Hq⟩
                          · replace H := (if_neg z49h).symm.trans H
                            exact nomatch H
                        · replace H := (if_neg z48h).symm.trans H
                          exact nomatch H
                      · replace H := (if_neg z42h).symm.trans H
                        exact nomatch H
                  · clear S0; rintro a w ⟨S0, Hq⟩
                    have H := HU4; clear HU4
                    refine nr_in ?_
                    refine nr_then ?_
                    refine w_region ?_
                    refine r_pures [_, _, _] S0 rfl ?_
                    clear S0; intro a0 S0
                    refine wl_nil ?_
                    refine nr_then ?_
                    exact ⟨z25x, (IntKind.i64.wrap (z23x + 1)), H, S0.sub ⟨rfl, rfl, rfl, rfl, rfl, rfl, rfl, trivial⟩, Hq⟩
                · replace H := (if_neg z24h).symm.trans H
                  refine w_false S0 rfl (decide_eq_false z24h) ?_
                  refine w_exit ?_
                  refine ex_then ?_
                  refine ex_then ?_
                  refine ex_in ?_
                  refine nr_then ?_
                  obtain rfl := Option.some.inj H
                  exact ⟨S0.sub ⟨rfl, rfl, rfl, rfl, rfl, rfl, trivial⟩, Hq⟩
            · clear S0; rintro a w ⟨S0, Hq⟩
              have H := HU3; clear HU3
              refine nr_then ?_
              refine w_seq ?_
              refine w_region ?_
              refine r_pures [_] S0 rfl ?_
              clear S0; intro a0 S0
              refine wl_nil ?_
              refine nr_then ?_
              obtain ⟨⟨z59x, z60x⟩, H, HU5⟩ := Option.bind_eq_some_iff.mp H
              dsimp only at HU5
              refine w_cutT (fun a w => ∃ z61A z62m z63n, Sl 54 [] [(0, .slice A0 x_l.length c0), (1, .slice A1 x_ids.length c1), (8, .slice z61A z62m z63n), (9, .int .i64 z59x), (10, .int .i64 z10x)] a ∧ HS W0 [own e_api_Timer 32 z61A z62m z63n z60x, isH X] w) ?_ ?_
              · skip
                by_cases z64h : z21x = true
                · replace H := (if_pos z64h).symm.trans H
                  refine w_true S0 rfl z64h ?_
                  refine w_region ?_
                  refine r_pures [_, _, _] S0 rfl ?_
                  clear S0; intro a0 S0
                  refine wl_nil ?_
                  refine nr_then ?_
                  simp only [Option.some.injEq, Prod.mk.injEq] at H; obtain ⟨rfl, rfl⟩ := H
                  exact ⟨z12A, z11x.length, z14n, S0.sub ⟨rfl, rfl, rfl, rfl, rfl, trivial⟩, Hq⟩
                · replace H := (if_neg z64h).symm.trans H
                  refine w_false S0 rfl (Bool.eq_false_iff.mpr z64h) ?_
                  refine w_region ?_
                  refine r_pures [_, _, _] S0 rfl ?_
                  clear S0; intro a0 S0
                  by_cases z65h : 0 ≤ z10x
                  · replace H := (if_pos z65h).symm.trans H
                    obtain ⟨z66b, z67o, rfl⟩ := (isH_rd [_] Hq HR0).at (by omega)
                    refine r_index S0 rfl rfl sl22 ti32 z65h z15h rfl ?_
                    clear S0; intro a0 S0
                    refine r_elA (vs := [.int .i64 ((rd e_api_Timer x_l z10x).At), .int .i64 ((rd e_api_Timer x_l z10x).ID)]) S0 (isH_rd [_] Hq HR0) z65h z15h rfl ti32 rfl rfl rfl ?_
                    clear S0; intro a0 S0
                    obtain ⟨Xz68, HXz68, HPz68, HBz68⟩ := call_frame [_] Hq
                    dsimp only [List.cons_append, List.nil_append] at HXz68 HBz68
                    obtain ⟨z69t, Hc, H⟩ := Option.bind_eq_some_iff.mp H
                    refine r_call S0 rfl rfl goes35 rfl ?_
                    refine (waybillref20_put.calls _ _ _ _ z11x (rd e_api_Timer x_l z10x) _ _  HXz68 z69t Hc).mono ?_
                    rintro e w ⟨z70A, z71m, z72n, rfl, Hq'⟩
                    have Hq : HS W0 [own e_api_Timer 32 z70A z71m z72n z69t, isH X] w := HBz68 [_] _ Hq'
                    clear HXz68 HPz68 HBz68 Hq'
                    obtain rfl := own_len [] Hq
                    refine ⟨.slice z70A z69t.length z72n, rfl, ?_⟩; clear S0; intro a0 S0
                    refine r_pures [_] S0 rfl ?_
                    clear S0; intro a0 S0
                    refine wl_nil ?_
                    refine nr_then ?_
                    simp only [Option.some.injEq, Prod.mk.injEq] at H; obtain ⟨rfl, rfl⟩ := H
                    exact ⟨z70A, z69t.length, z72n, S0.sub ⟨rfl, rfl, rfl, rfl, rfl, trivial⟩, Hq⟩
                  · replace H := (if_neg z65h).symm.trans H
                    exact nomatch H
              · clear S0; rintro a w ⟨z61A, z62m, z63n, S0, Hq⟩
                have H := HU5; clear HU5
                obtain rfl := own_len [] Hq
                refine nr_in ?_
                refine nr_then ?_
                simp only [Option.some.injEq, Prod.mk.injEq] at H; obtain ⟨rfl, rfl⟩ := H
                exact ⟨z61A, z60x.length, z63n, S0.sub ⟨rfl, rfl, rfl, rfl, rfl, trivial⟩, Hq⟩
          · clear S0; rintro a w ⟨z18A, z19m, z20n, S0, Hq⟩
            have H := HU2; clear HU2
            obtain rfl := own_len [] Hq
            refine nr_then ?_
            refine w_region ?_
            refine r_pures [_, _, _] S0 rfl ?_
            clear S0; intro a0 S0
            refine wl_nil ?_
            refine nr_then ?_
            exact ⟨z16x, (IntKind.i64.wrap (z10x + 1)), z17x, z18A, z17x.length, z20n, H, S0.sub ⟨rfl, rfl, rfl, rfl, rfl, trivial⟩, Hq⟩
        · replace H := (if_neg z15h).symm.trans H
          refine w_false S0 rfl (decide_eq_false z15h) ?_
          refine w_exit ?_
          refine ex_then ?_
          refine ex_then ?_
          refine ex_in ?_
          refine nr_then ?_
          simp only [Option.some.injEq, Prod.mk.injEq] at H; obtain ⟨rfl, rfl⟩ := H
          exact ⟨z12A, z11x.length, z14n, S0.sub ⟨rfl, rfl, trivial⟩, Hq⟩
    · clear S0; rintro a w ⟨z6A, z7m, z8n, S0, Hq⟩
      have H := HU1; clear HU1
      obtain rfl := own_len [] Hq
      refine nr_then ?_
      refine w_seq ?_
      refine w_region ?_
      refine r_pures [_, _, _, _, _] S0 rfl ?_
      clear S0; intro a0 S0
      refine wl_nil ?_
      refine nr_then ?_
      refine w_ret ?_
      obtain rfl := Option.some.inj H
      refine ret3 S0 rfl rfl rfl rfl ?_
      replace Hq := HS.pull [_] Hq
      dsimp only [List.cons_append, List.nil_append] at Hq
      replace Hq := HS.pull [_] Hq
      dsimp only [List.cons_append, List.nil_append] at Hq
      exact ⟨z6A, z5x.length, z8n, rfl, Hq⟩
  · replace H := (if_neg z3h).symm.trans H
    refine w_true S0 rfl (congrArg (!·) (decide_eq_false z3h)) ?_
    refine w_seq ?_
    refine w_region ?_
    refine r_pures [_, _, _, _] S0 rfl ?_
    clear S0; intro a0 S0
    refine wl_nil ?_
    refine nr_then ?_
    refine w_ret ?_
    refine ret_then ?_
    obtain rfl := Option.some.inj H
    replace Hq := HS.own_nil e_api_Timer 32 Hq
    refine ret3 S0 rfl rfl rfl rfl ?_
    replace Hq := HS.pull [_] Hq
    dsimp only [List.cons_append, List.nil_append] at Hq
    replace Hq := HS.pull [_] Hq
    dsimp only [List.cons_append, List.nil_append] at Hq
    exact ⟨none, 0, 0, rfl, Hq⟩

end Go.Proofs.Ytailjeoimlemnaa.M

/- Timers: what more make of a queue, the first one, those that are due, what is left without some, all in order: by the program and by the page. -/
set_option linter.unusedVariables false
set_option linter.unusedSimpArgs false
namespace Go.Proofs.Ytailjeoimlemnaa.M
open Go Go.Proofs.Ytailjeoimlemnaa.Sl

/-! ### push, put -/
theorem push_l0 (i : Nat) : ∀ (l : List T), i < l.length → l.length ≤ 4194304 → Ev (fun k => timer_heap_push.l0 k i l) (up l i) := by
  induction i using Nat.strongRecOn with
  | _ i ih =>
    intro l hi hl
    refine Ev.succ ?_
    simp only [timer_heap_push.l0]
    by_cases h0 : 0 < i
    · rw [par_ok h0 (by omega)]
      refine Ev.bind (x := decide (lt (g l i) (g l ((i - 1) / 2)))) (Ev.pos (by omega) (Ev.bind (ahead_ok hi (by omega)) Ev.ret)) ?_
      by_cases h1 : lt (g l i) (g l ((i - 1) / 2))
      · rw [up_pos ⟨h0, h1⟩]
        refine Ev.pos (by simpa using h1) (Ev.bind (Ev.of (swap_ok hi (by omega))) ?_)
        exact ih _ (by omega) _ (by rw [sw_len]; omega) (by rw [sw_len]; omega)
      · rw [up_neg (fun h => h1 h.2)]
        exact Ev.neg (by simpa using h1) Ev.ret
    · rw [up_neg (fun h => h0 h.1)]
      exact Ev.bind (x := false) (Ev.neg (by omega) Ev.ret) (Ev.neg (by simp) Ev.ret)
theorem push_ok (l : List T) (t : T) (hl : l.length < 4194304) : Ev (fun k => timer_heap_push.f k l t) (push l t) := by
  simp only [timer_heap_push.f]
  refine Ev.pos (by simp; omega) ?_
  have e : IntKind.i64.wrap (((l ++ ([t] : List T)).length : Int) - 1) = (l.length : Int) := by
    rw [W_pred (by simp; omega) (by simp)]; simp
  rw [e]
  exact Ev.bind (push_l0 _ _ (by simp) (by simp; omega)) Ev.ret
theorem put_l0 (q : List T) (t : T) (i : Nat) : ∀ (l : List T), i < l.length → l.length = q.length + 1 → l.length ≤ 4194304 → Ev (fun k => waybillref20_put.l0 k q t i l) (up l i) := by
  induction i using Nat.strongRecOn with
  | _ i ih =>
    intro l hi hq hl
    refine Ev.succ ?_
    simp only [waybillref20_put.l0]
    have hlen : (q ++ ([t] : List T)).length = l.length := by simp [hq]
    simp only [hlen]
    by_cases h0 : 0 < i
    · rw [par_ok h0 (by omega)]
      refine Ev.bind (x := decide (lt (g l i) (g l ((i - 1) / 2)))) (Ev.pos (by omega) (Ev.pos (by omega) (Ev.pos (by omega) (Ev.pos (by omega) (Ev.pos (by omega) ?_))))) ?_
      · simp only [g_rd, rahead_ok, Option.bind_some]; exact Ev.ret
      by_cases h1 : lt (g l i) (g l ((i - 1) / 2))
      · rw [up_pos ⟨h0, h1⟩]
        refine Ev.pos (by simpa using h1) (Ev.pos (by omega) (Ev.pos (by omega) (Ev.pos (by omega) (Ev.pos (by omega) ?_))))
        exact ih _ (by omega) (sw l i ((i - 1) / 2)) (by rw [sw_len]; omega) (by rw [sw_len]; exact hq) (by rw [sw_len]; omega)
      · rw [up_neg (fun h => h1 h.2)]
        exact Ev.neg (by simpa using h1) Ev.ret
    · rw [up_neg (fun h => h0 h.1)]
      exact Ev.bind (x := false) (Ev.neg (by omega) Ev.ret) (Ev.neg (by simp) Ev.ret)
theorem put_ok (l : List T) (t : T) (hl : l.length < 4194304) : Ev (fun k => waybillref20_put.f k l t) (push l t) := by
  simp only [waybillref20_put.f]
  refine Ev.pos (by simp; omega) ?_
  have e : IntKind.i64.wrap (((l ++ ([t] : List T)).length : Int) - 1) = (l.length : Int) := by
    rw [W_pred (by simp; omega) (by simp)]; simp
  rw [e]
  exact Ev.bind (put_l0 l t _ _ (by simp) (by simp) (by simp; omega)) Ev.ret

/-! ### pop, take -/
theorem kid1 {i : Nat} (h : i < 1073741824) : IntKind.i64.wrap ((IntKind.i64.wrap (2 * (i : Int))) + 1) = ((2 * i + 1 : Nat) : Int) := by
  rw [W_eq (x := 2 * (i : Int)) (by omega) (by omega), W_eq (by omega) (by omega)]; omega
theorem kid2 {i : Nat} (h : i < 1073741824) : IntKind.i64.wrap (((2 * i + 1 : Nat) : Int) + 1) = ((2 * i + 2 : Nat) : Int) := by
  rw [W_eq (by omega) (by omega)]; omega
theorem sink_l0 : ∀ (d n i : Nat) (h l : List T), n - i ≤ d → n = l.length → h.length = n → n ≤ 4194304 → i < 1073741824 → Ev (fun k => timer_heap_sink.l0 k h i l) (down l n i) := by
  intro d
  induction d with
  | zero =>
    intro n i h l hd hn hh hl hi
    refine Ev.succ ?_
    simp only [timer_heap_sink.l0, kid1 hi]
    rw [down_neg (fun h => absurd h.1 (by omega))]
    exact Ev.pos (by omega) Ev.ret
  | succ d ih =>
    intro n i h l hd hn hh hl hi
    refine Ev.succ ?_
    simp only [timer_heap_sink.l0, kid1 hi, kid2 hi]
    by_cases h0 : 2 * i + 1 < n
    · refine Ev.neg (by omega) ?_
      refine Ev.bind (x := decide (2 * i + 2 < n ∧ lt (g l (2 * i + 2)) (g l (2 * i + 1)))) ?_ ?_
      · by_cases h2 : 2 * i + 2 < n
        · refine Ev.pos (by omega) (Ev.bind (ahead_ok (by omega) (by omega)) ?_)
          have : decide (2 * i + 2 < n ∧ lt (g l (2 * i + 2)) (g l (2 * i + 1))) = decide (lt (g l (2 * i + 2)) (g l (2 * i + 1))) := by simp [h2]
          rw [this]; exact Ev.ret
        · refine Ev.neg (by omega) ?_
          have : decide (2 * i + 2 < n ∧ lt (g l (2 * i + 2)) (g l (2 * i + 1))) = false := by simp [h2]
          rw [this]; exact Ev.ret
      have hk := kid_le l n i h0
      refine Ev.bind (x := ((kid l n i : Nat) : Int)) ?_ ?_
      · unfold kid
        by_cases h2 : 2 * i + 2 < n ∧ lt (g l (2 * i + 2)) (g l (2 * i + 1))
        · rw [if_pos h2]; exact Ev.pos (by simpa using h2) Ev.ret
        · rw [if_neg h2]; exact Ev.neg (by simpa using h2) Ev.ret
      refine Ev.bind (ahead_ok (h := l) (i := kid l n i) (j := i) (by omega) (by omega)) ?_
      by_cases h3 : lt (g l (kid l n i)) (g l i)
      · rw [down_pos ⟨h0, h3⟩]
        refine Ev.pos (by simpa using h3) (Ev.bind (Ev.of (swap_ok (h := l) (i := i) (j := kid l n i) (by omega) (by omega))) ?_)
        exact ih n (kid l n i) h _ (by omega) (by rw [sw_len]; exact hn) hh hl (by omega)
      · rw [down_neg (fun h => h3 h.2)]
        exact Ev.neg (by simpa using h3) Ev.ret
    · rw [down_neg (fun h => h0 h.1)]
      exact Ev.pos (by omega) Ev.ret
theorem pop_ok (l : List T) (h0 : 0 < l.length) (hl : l.length ≤ 4194304) : Ev (fun k => timer_heap_pop.f k l) (g l 0, pop l) := by
  simp only [timer_heap_pop.f, W_pred (show l.length < 4611686018427387904 by omega) h0]
  refine Ev.pos (by omega) (Ev.pos (by omega) (Ev.pos (by omega) (Ev.pos (by omega) (Ev.pos (by omega) ?_))))
  refine Ev.bind ?_ Ev.ret
  simp only [timer_heap_sink.f]
  refine sink_l0 _ (l.length - 1) 0 _ _ (Nat.le_refl _) ?_ ?_ (by omega) (by omega) <;> simp <;> omega
theorem down_take : ∀ (d n i : Nat) (l : List T), n - i ≤ d → n ≤ l.length → (down l n i).take n = down (l.take n) n i := by
  intro d
  induction d with
  | zero => intro n i l hd hn; rw [down_neg (fun h => absurd h.1 (by omega)), down_neg (fun h => absurd h.1 (by omega))]
  | succ d ih =>
    intro n i l hd hn
    have ge : ∀ j, j < n → g (l.take n) j = g l j := fun j hj => getD_take _ _ _ _ hj
    rw [down, down.eq_def (l.take n)]
    by_cases h0 : 2 * i + 1 < n
    · have hk := kid_le l n i h0
      have ek : kid (l.take n) n i = kid l n i := by
        unfold kid
        by_cases h2 : 2 * i + 2 < n
        · rw [ge _ h2, ge _ (by omega)]
        · rw [if_neg (fun h => h2 h.1), if_neg (fun h => h2 h.1)]
      rw [ek, ge _ (by omega), ge _ (by omega)]
      by_cases h3 : lt (g l (kid l n i)) (g l i)
      · rw [if_pos ⟨h0, h3⟩, if_pos ⟨h0, h3⟩, ih n _ _ (by omega) (by rw [sw_len]; exact hn)]
        congr 1
        unfold sw
        rw [ge _ (by omega), ge _ (by omega), List.take_set, List.take_set]
      · rw [if_neg (fun h => h3 h.2), if_neg (fun h => h3 h.2)]
    · rw [if_neg (fun h => h0 h.1), if_neg (fun h => h0 h.1)]
theorem take_l0 (q : List T) : ∀ (d n i : Nat) (l : List T), n - i ≤ d → n + 1 = q.length → l.length = q.length → n ≤ 4194304 → i < 1073741824 → Ev (fun k => waybillref20_take.l0 k q i l) ((down l n i).take n) := by
  intro d
  induction d with
  | zero =>
    intro n i l hd hq hlq hl hi
    have e1 : IntKind.i64.wrap ((q.length : Int) - 1) = (n : Int) := by rw [W_pred (by omega) (by omega)]; omega
    refine Ev.succ ?_
    simp only [waybillref20_take.l0, kid1 hi, e1, Int.toNat_natCast]
    rw [down_neg (fun h => absurd h.1 (by omega))]
    exact Ev.pos (by omega) (Ev.pos (by omega) Ev.ret)
  | succ d ih =>
    intro n i l hd hq hlq hl hi
    have e1 : IntKind.i64.wrap ((q.length : Int) - 1) = (n : Int) := by rw [W_pred (by omega) (by omega)]; omega
    refine Ev.succ ?_
    simp only [waybillref20_take.l0, kid1 hi, kid2 hi, e1, Int.toNat_natCast]
    by_cases h0 : 2 * i + 1 < n
    · refine Ev.neg (by omega) ?_
      refine Ev.bind (x := decide (2 * i + 2 < n ∧ lt (g l (2 * i + 2)) (g l (2 * i + 1)))) ?_ ?_
      · by_cases h2 : 2 * i + 2 < n
        · refine Ev.pos (by omega) (Ev.pos (by omega) (Ev.pos (by omega) (Ev.pos (by omega) (Ev.pos (by omega) (Ev.pos (by omega) (Ev.pos (by omega) ?_))))))
          simp only [g_rd, rahead_ok, Option.bind_some]
          have : decide (2 * i + 2 < n ∧ lt (g l (2 * i + 2)) (g l (2 * i + 1))) = decide (lt (g l (2 * i + 2)) (g l (2 * i + 1))) := by simp [h2]
          rw [this]; exact Ev.ret
        · refine Ev.neg (by omega) ?_
          have : decide (2 * i + 2 < n ∧ lt (g l (2 * i + 2)) (g l (2 * i + 1))) = false := by simp [h2]
          rw [this]; exact Ev.ret
      have hk := kid_le l n i h0
      refine Ev.bind (x := ((kid l n i : Nat) : Int)) ?_ ?_
      · unfold kid
        by_cases h2 : 2 * i + 2 < n ∧ lt (g l (2 * i + 2)) (g l (2 * i + 1))
        · rw [if_pos h2]; exact Ev.pos (by simpa using h2) Ev.ret
        · rw [if_neg h2]; exact Ev.neg (by simpa using h2) Ev.ret
      refine Ev.pos (by omega) (Ev.pos (by omega) (Ev.pos (by omega) (Ev.pos (by omega) (Ev.pos (by omega) (Ev.pos (by omega) ?_)))))
      simp only [g_rd, rahead_ok, Option.bind_some]
      by_cases h3 : lt (g l (kid l n i)) (g l i)
      · rw [down_pos ⟨h0, h3⟩]
        refine Ev.pos (by simpa using h3) ?_
        exact ih n (kid l n i) (sw l i (kid l n i)) (by omega) hq (by rw [sw_len]; exact hlq) hl (by omega)
      · rw [down_neg (fun h => h3 h.2)]
        exact Ev.neg (by simpa using h3) (Ev.pos (by omega) Ev.ret)
    · rw [down_neg (fun h => h0 h.1)]
      exact Ev.pos (by omega) (Ev.pos (by omega) Ev.ret)
theorem take_ok (l : List T) (h0 : 0 < l.length) (hl : l.length ≤ 4194304) : Ev (fun k => waybillref20_take.f k l) (pop l) := by
  simp only [waybillref20_take.f, W_pred (show l.length < 4611686018427387904 by omega) h0]
  refine Ev.pos (by omega) (Ev.pos (by omega) (Ev.pos (by omega) (Ev.pos (by omega) ?_)))
  have := take_l0 l _ (l.length - 1) 0 (l.set 0 (g l (l.length - 1))) (Nat.le_refl _) (by omega) (by simp) (by omega) (by omega)
  rw [down_take _ _ _ _ (Nat.le_refl _) (by simp)] at this
  exact this

/-! ### Add -/
theorem add_l1 (more : List T) {i : Nat} (l : List T) (hl : l.length ≤ 1024) : 
    ((∃ j, j < l.length ∧ (g l j).ID = (g more i).ID) → ∃ j : Nat, Ev (fun k => timer_Add.l1 k more i l 0) (Sum.inl (j : Int))) ∧
    ((¬ ∃ j, j < l.length ∧ (g l j).ID = (g more i).ID) → Ev (fun k => timer_Add.l1 k more i l 0) (Sum.inr ())) := by
  have step : ∀ j : Nat, j < l.length → ¬ (g l j).ID = (g more i).ID → ∀ r, Ev (fun k => timer_Add.l1 k more i l ((j + 1 : Nat) : Int)) r → Ev (fun k => timer_Add.l1 k more i l (j : Int)) r := fun j hj hp r hr => by
    refine Ev.succ ?_
    simp only [timer_Add.l1]
    refine Ev.pos (by omega) (Ev.pos (by omega) ?_)
    simp only [g_rd]
    refine Ev.neg hp ?_
    rw [W_succ (by omega)]; exact hr
  constructor
  · intro h
    obtain ⟨j, hj, hp, hf⟩ := first h
    refine ⟨j, ?_⟩
    have := scan (n := l.length) step j 0 (by omega) (fun q _ hq => hf q (by omega)) (Sum.inl (j : Int)) (by
      rw [Nat.zero_add]
      refine Ev.succ ?_
      simp only [timer_Add.l1]
      refine Ev.pos (by omega) (Ev.pos (by omega) ?_)
      simp only [g_rd]
      exact Ev.pos hp Ev.ret)
    exact this
  · intro h
    refine scan_all (n := l.length) step (fun j hj hp => h ⟨j, hj, hp⟩) ?_
    refine Ev.succ ?_
    simp only [timer_Add.l1]
    exact Ev.neg (by omega) Ev.ret
theorem radd_l1 (more : List T) {i : Nat} (l : List T) (hl : l.length ≤ 1024) (hi : i < more.length) :
    ((∃ j, j < l.length ∧ (g l j).ID = (g more i).ID) → Ev (fun k => waybillref20_Add.l1 k more i l 0) (Sum.inl ([], 6))) ∧
    ((¬ ∃ j, j < l.length ∧ (g l j).ID = (g more i).ID) → Ev (fun k => waybillref20_Add.l1 k more i l 0) (Sum.inr ())) := by
  have step : ∀ j : Nat, j < l.length → ¬ (g l j).ID = (g more i).ID → ∀ r, Ev (fun k => waybillref20_Add.l1 k more i l ((j + 1 : Nat) : Int)) r → Ev (fun k => waybillref20_Add.l1 k more i l (j : Int)) r := fun j hj hp r hr => by
    refine Ev.succ ?_
    simp only [waybillref20_Add.l1]
    refine Ev.pos (by omega) (Ev.pos (by omega) (Ev.pos (by omega) (Ev.pos (by omega) ?_)))
    simp only [g_rd]
    refine Ev.neg hp ?_
    rw [W_succ (by omega)]; exact hr
  constructor
  · intro h
    refine scan_hit (n := l.length) step h (fun j hj hp _ => ?_)
    refine Ev.succ ?_
    simp only [waybillref20_Add.l1]
    refine Ev.pos (by omega) (Ev.pos (by omega) (Ev.pos (by omega) (Ev.pos (by omega) ?_)))
    simp only [g_rd]
    exact Ev.pos hp Ev.ret
  · intro h
    refine scan_all (n := l.length) step (fun j hj hp => h ⟨j, hj, hp⟩) ?_
    refine Ev.succ ?_
    simp only [waybillref20_Add.l1]
    exact Ev.neg (by omega) Ev.ret
theorem add_l0 (more : List T) (hm : more.length < 4611686018427387904) : ∀ (d i : Nat) (l : List T), i + d = more.length → l.length ≤ 1024 →
    ∃ q e, Ev (fun k => timer_Add.l0 k more i l) (q, e) ∧ Ev (fun k => waybillref20_Add.l0 k more i l) (q, e) ∧ q.length ≤ 1024
  | 0, i, l, h1, h2 => by
    refine ⟨l, 0, ?_, ?_, h2⟩
    · refine Ev.succ ?_
      simp only [timer_Add.l0]
      exact Ev.neg (by omega) Ev.ret
    · refine Ev.succ ?_
      simp only [waybillref20_Add.l0]
      exact Ev.neg (by omega) Ev.ret
  | d + 1, i, l, h1, h2 => by
    by_cases c1 : l.length = 1024
    · refine ⟨[], 3, ?_, ?_, by simp⟩
      · refine Ev.succ ?_
        simp only [timer_Add.l0]
        exact Ev.pos (by omega) (Ev.pos (by omega) (Ev.pos (by omega) Ev.ret))
      · refine Ev.succ ?_
        simp only [waybillref20_Add.l0]
        exact Ev.pos (by omega) (Ev.bind (Ev.pos (by omega) Ev.ret) Ev.ret)
    · by_cases c2 : may (g more i)
      · by_cases c3 : ∃ j, j < l.length ∧ (g l j).ID = (g more i).ID
        · obtain ⟨j, hj⟩ := (add_l1 more l h2).1 c3
          refine ⟨[], 6, ?_, ?_, by simp⟩
          · refine Ev.succ ?_
            simp only [timer_Add.l0]
            refine Ev.pos (by omega) (Ev.pos (by omega) (Ev.neg (by omega) ?_))
            simp only [g_rd, odd_ok, Option.bind_some]
            refine Ev.bind (x := Sum.inl ([], 6)) (Ev.neg (by simpa using c2) (Ev.bind hj (Ev.pos (by omega) Ev.ret))) Ev.ret
          · refine Ev.succ ?_
            simp only [waybillref20_Add.l0]
            refine Ev.pos (by omega) (Ev.bind (x := Sum.inl ([], 6)) (Ev.neg (by omega) (Ev.pos (by omega) ?_)) Ev.ret)
            simp only [g_rd, may_ok, Option.bind_some]
            exact Ev.pos (by simpa using c2) (Ev.bind ((radd_l1 more l h2 (by omega)).1 c3) Ev.ret)
        · obtain ⟨q, e, hq1, hq2, hq3⟩ := add_l0 more hm d (i + 1) (push l (g more i)) (by omega) (by rw [push_len]; omega)
          refine ⟨q, e, ?_, ?_, hq3⟩
          · refine Ev.succ ?_
            simp only [timer_Add.l0]
            refine Ev.pos (by omega) (Ev.pos (by omega) (Ev.neg (by omega) ?_))
            simp only [g_rd, odd_ok, Option.bind_some]
            refine Ev.bind (x := Sum.inr ()) (Ev.neg (by simpa using c2) (Ev.bind ((add_l1 more l h2).2 c3) Ev.ret)) ?_
            refine Ev.bind (push_ok l _ (by omega)) ?_
            rw [W_succ (by omega)]; exact hq1
          · refine Ev.succ ?_
            simp only [waybillref20_Add.l0]
            refine Ev.pos (by omega) (Ev.bind (x := Sum.inr (push l (g more i))) (Ev.neg (by omega) (Ev.pos (by omega) ?_)) ?_)
            · simp only [g_rd, may_ok, Option.bind_some]
              exact Ev.pos (by simpa using c2) (Ev.bind ((radd_l1 more l h2 (by omega)).2 c3) (Ev.bind (put_ok l _ (by omega)) Ev.ret))
            · rw [W_succ (by omega)]; exact hq2
      · refine ⟨[], 4, ?_, ?_, by simp⟩
        · refine Ev.succ ?_
          simp only [timer_Add.l0]
          refine Ev.pos (by omega) (Ev.pos (by omega) (Ev.neg (by omega) ?_))
          simp only [g_rd, odd_ok, Option.bind_some]
          exact Ev.bind (x := Sum.inl ([], 4)) (Ev.pos (by simpa using c2) Ev.ret) Ev.ret
        · refine Ev.succ ?_
          simp only [waybillref20_Add.l0]
          refine Ev.pos (by omega) (Ev.bind (x := Sum.inl ([], 4)) (Ev.neg (by omega) (Ev.pos (by omega) ?_)) Ev.ret)
          simp only [g_rd, may_ok, Option.bind_some]
          exact Ev.neg (by simpa using c2) Ev.ret
theorem clone_ok (l : List T) (hl : l.length ≤ 1024) : slices_Clone_api_Timer_api_Timer.f l = some l := by
  unfold slices_Clone_api_Timer_api_Timer.f; rw [if_pos (by omega)]
theorem own_ok (l : List T) (hl : l.length < 8796093022208) : waybillref20_Own.f l = some l := by
  unfold waybillref20_Own.f; rw [if_pos (by simpa using hl)]; rfl
theorem add_ok (l more : List T) (hm : more.length < 4611686018427387904) : ∃ q e, Ev (fun k => timer_Add.f k l more) (q, e) ∧ Ev (fun k => waybillref20_Add.f k l more) (q, e) ∧ q.length ≤ 1024 := by
  obtain ⟨e, h1, h2, h3⟩ := check_ok l
  by_cases c : e = 0
  · have G := h3.1 c
    obtain ⟨q, e', hq1, hq2, hq3⟩ := add_l0 more hm more.length 0 l (by omega) G.len
    refine ⟨q, e', ?_, ?_, hq3⟩
    · simp only [timer_Add.f]
      exact Ev.bind h1 (Ev.pos c (Ev.bind (Ev.of (clone_ok l G.len)) hq1))
    · simp only [waybillref20_Add.f]
      exact Ev.bind h2 (Ev.pos c (Ev.bind (Ev.of (own_ok l (by have := G.len; omega))) hq2))
  · refine ⟨[], e, ?_, ?_, by simp⟩
    · simp only [timer_Add.f]; exact Ev.bind h1 (Ev.neg c Ev.ret)
    · simp only [waybillref20_Add.f]; exact Ev.bind h2 (Ev.neg c Ev.ret)
theorem first_ok (l : List T) : ∃ x e, Ev (fun k => timer_First.f k l) (x, e) ∧ Ev (fun k => waybillref20_First.f k l) (x, e) := by
  obtain ⟨e, h1, h2, h3⟩ := check_ok l
  simp only [timer_First.f, waybillref20_First.f]
  by_cases c : e = 0
  · by_cases c2 : (l.length : Int) = 0
    · exact ⟨_, _, Ev.bind h1 (Ev.pos c (Ev.pos c2 Ev.ret)), Ev.bind h2 (Ev.pos c (Ev.pos c2 Ev.ret))⟩
    · exact ⟨_, _, Ev.bind h1 (Ev.pos c (Ev.neg c2 (Ev.pos (by omega) Ev.ret))), Ev.bind h2 (Ev.pos c (Ev.neg c2 (Ev.pos (by omega) Ev.ret)))⟩
  · exact ⟨_, _, Ev.bind h1 (Ev.neg c Ev.ret), Ev.bind h2 (Ev.neg c Ev.ret)⟩

/-! ### Due -/
/-- what is popped, what is left -/
def dueP (tick : Int) (l : List T) : List T × List T := if 0 < l.length ∧ (g l 0).At ≤ tick then (g l 0 :: (dueP tick (pop l)).1, (dueP tick (pop l)).2) else ([], l)
termination_by l.length
decreasing_by all_goals (rw [pop_len]; omega)
theorem due_l0 (tick : Int) : ∀ (n : Nat) (l : List T) (ids : List Int), l.length = n → n ≤ 1024 → ids.length + n ≤ 1024 →
    Ev (fun k => timer_Due.l0 k tick ids l) (ids ++ (dueP tick l).1.map (·.ID), (dueP tick l).2) ∧ Ev (fun k => waybillref20_Due.l0 k tick ids l) (ids ++ (dueP tick l).1.map (·.ID), (dueP tick l).2) := by
  intro n
  induction n with
  | zero =>
    intro l ids h1 h2 h3
    rw [dueP, if_neg (by omega)]
    constructor
    · refine Ev.succ ?_
      simp only [timer_Due.l0]
      refine Ev.bind (x := false) (Ev.neg (by omega) Ev.ret) (Ev.neg (by simp) ?_)
      simpa using Ev.ret
    · refine Ev.succ ?_
      simp only [waybillref20_Due.l0]
      refine Ev.bind (x := false) (Ev.neg (by omega) Ev.ret) (Ev.neg (by simp) ?_)
      simpa using Ev.ret
  | succ n ih =>
    intro l ids h1 h2 h3
    rw [dueP]
    by_cases c : (g l 0).At ≤ tick
    · rw [if_pos ⟨by omega, c⟩]
      obtain ⟨i1, i2⟩ := ih (pop l) (ids ++ [(g l 0).ID]) (by rw [pop_len]; omega) (by omega) (by simp; omega)
      simp only [List.map_cons]
      rw [show ids ++ (g l 0).ID :: (dueP tick (pop l)).1.map (·.ID) = ids ++ [(g l 0).ID] ++ (dueP tick (pop l)).1.map (·.ID) by simp]
      constructor
      · refine Ev.succ ?_
        simp only [timer_Due.l0]
        refine Ev.bind (x := true) (Ev.pos (by omega) (Ev.of (by rw [show rd e_api_Timer l 0 = g l 0 from rfl]; simp [c]))) (Ev.pos rfl ?_)
        exact Ev.bind (pop_ok l (by omega) (by omega)) (Ev.pos (by simp; omega) i1)
      · refine Ev.succ ?_
        simp only [waybillref20_Due.l0]
        refine Ev.bind (x := true) (Ev.pos (by omega) (Ev.of (by rw [show rd e_api_Timer l 0 = g l 0 from rfl]; simp [c]))) (Ev.pos rfl (Ev.pos (by omega) ?_))
        exact Ev.pos (by simp; omega) (Ev.bind (take_ok l (by omega) (by omega)) i2)
    · rw [if_neg (fun h => c h.2)]
      constructor
      · refine Ev.succ ?_
        simp only [timer_Due.l0]
        refine Ev.bind (x := false) (Ev.pos (by omega) (Ev.of (by rw [show rd e_api_Timer l 0 = g l 0 from rfl]; simp [c]))) (Ev.neg (by simp) ?_)
        simpa using Ev.ret
      · refine Ev.succ ?_
        simp only [waybillref20_Due.l0]
        refine Ev.bind (x := false) (Ev.pos (by omega) (Ev.of (by rw [show rd e_api_Timer l 0 = g l 0 from rfl]; simp [c]))) (Ev.neg (by simp) ?_)
        simpa using Ev.ret
theorem due_ok (l : List T) (tick : Int) : ∃ q ids e, Ev (fun k => timer_Due.f k l tick) (q, ids, e) ∧ Ev (fun k => waybillref20_Due.f k l tick) (q, ids, e) ∧ (e = 0 ↔ Good l) ∧ (e = 0 → q = (dueP tick l).2 ∧ ids = (dueP tick l).1.map (·.ID)) ∧ (e ≠ 0 → q = [] ∧ ids = [] ∧ Ev (fun k => timer_Check.f k l) e) := by
  obtain ⟨e, h1, h2, h3⟩ := check_ok l
  by_cases c : e = 0
  · have G := h3.1 c
    obtain ⟨d1, d2⟩ := due_l0 tick l.length l [] rfl G.len (by simpa using G.len)
    refine ⟨(dueP tick l).2, (dueP tick l).1.map (·.ID), 0, ?_, ?_, ⟨fun _ => G, fun _ => rfl⟩, fun _ => ⟨rfl, rfl⟩, fun h => absurd rfl h⟩
    · simp only [timer_Due.f]
      exact Ev.bind h1 (Ev.pos c (Ev.bind (Ev.of (clone_ok l G.len)) (Ev.bind d1 Ev.ret)))
    · simp only [waybillref20_Due.f]
      exact Ev.bind h2 (Ev.pos c (Ev.bind (Ev.of (own_ok l (by have := G.len; omega))) (Ev.bind d2 Ev.ret)))
  · refine ⟨[], [], e, ?_, ?_, h3, fun h => absurd h c, fun _ => ⟨rfl, rfl, h1⟩⟩
    · simp only [timer_Due.f]; exact Ev.bind h1 (Ev.neg c Ev.ret)
    · simp only [waybillref20_Due.f]; exact Ev.bind h2 (Ev.neg c Ev.ret)

/-! ### Cancel -/
theorem index_ok (ids : List Int) (v : Int) (hl : ids.length < 4611686018427387904) : Ev (fun k => slices_Contains_int_int.f k ids v) (decide (v ∈ ids)) := by
  have step : ∀ j : Nat, j < ids.length → ¬ v = ids.getD j 0 → ∀ r, Ev (fun k => slices_Index_int_int.l0 k ids v ((j + 1 : Nat) : Int)) r → Ev (fun k => slices_Index_int_int.l0 k ids v (j : Int)) r := fun j hj hp r hr => by
    refine Ev.succ ?_
    simp only [slices_Index_int_int.l0]
    refine Ev.pos (by omega) (Ev.pos (by omega) ?_)
    refine Ev.neg hp ?_
    rw [W_succ (by omega)]; exact hr
  simp only [slices_Contains_int_int.f, slices_Index_int_int.f]
  by_cases h : v ∈ ids
  · obtain ⟨i, hi, e⟩ := mem_getD 0 h
    obtain ⟨j, hj, hp, hf⟩ := first (p := fun j => v = ids.getD j 0) ⟨i, hi, e.symm⟩
    have := scan (n := ids.length) step j 0 (by omega) (fun q _ hq => hf q (by omega)) (j : Int) (by
      rw [Nat.zero_add]
      refine Ev.succ ?_
      simp only [slices_Index_int_int.l0]
      exact Ev.pos (by omega) (Ev.pos (by omega) (Ev.pos hp Ev.ret)))
    refine Ev.bind this ?_
    have e : decide (v ∈ ids) = decide ((0 : Int) ≤ (j : Int)) := by simp [h]
    rw [e]; exact Ev.ret
  · refine Ev.bind (x := -1) (scan_all (n := ids.length) step (fun j hj hp => h (by rw [hp]; exact getD_mem _ _ _ hj)) ?_) ?_
    · refine Ev.succ ?_
      simp only [slices_Index_int_int.l0]
      exact Ev.neg (by omega) Ev.ret
    · have e : decide (v ∈ ids) = decide ((0 : Int) ≤ -1) := by simp [h]
      rw [e]; exact Ev.ret
theorem offs_ok (l : List T) (ids : List Int) {i : Nat} (hi : i < l.length) (hl : ids.length < 4611686018427387904) : ∀ (d j : Nat) (b : Bool), j + d = ids.length → b = decide ((g l i).ID ∈ ids.take j) → Ev (fun k => waybillref20_Cancel.l1 k l ids i b j) (decide ((g l i).ID ∈ ids))
  | 0, j, b, h1, h2 => by
    refine Ev.succ ?_
    simp only [waybillref20_Cancel.l1]
    rw [List.take_of_length_le (by omega)] at h2
    rw [← h2]
    exact Ev.neg (by omega) Ev.ret
  | d + 1, j, b, h1, h2 => by
    refine Ev.succ ?_
    simp only [waybillref20_Cancel.l1]
    refine Ev.pos (by omega) (Ev.bind (x := decide ((g l i).ID ∈ ids.take (j + 1))) ?_ ?_)
    · have ht : ids.take (j + 1) = ids.take j ++ [ids.getD j 0] := by
        rw [List.take_add_one, List.getElem?_eq_getElem (by omega : j < ids.length), getD_get _ _ _ (by omega)]; rfl
      cases b with
      | true =>
        have : (g l i).ID ∈ ids.take j := by simpa using h2
        refine Ev.pos rfl ?_
        rw [ht]
        have e : decide ((g l i).ID ∈ ids.take j ++ [ids.getD j 0]) = true := by simp [this]
        rw [e]; exact Ev.ret
      | false =>
        have : ¬ (g l i).ID ∈ ids.take j := by simpa using h2
        refine Ev.neg (by simp) (Ev.pos (by omega) (Ev.pos (by omega) (Ev.pos (by omega) ?_)))
        rw [ht, g_rd, rd_def]
        have e : decide ((g l i).ID ∈ ids.take j ++ [ids.getD j 0]) = decide (ids.getD j 0 = (g l i).ID) := by
          rw [decide_eq_decide, List.mem_append, List.mem_singleton]
          exact ⟨fun h => (h.resolve_left this).symm, fun h => .inr h.symm⟩
        rw [e]; exact Ev.ret
    · rw [W_succ (by omega)]
      exact offs_ok l ids hi hl d (j + 1) _ (by omega) rfl
def left (ids : List Int) (l : List T) : List T := l.filter fun t => decide (t.ID ∉ ids)
def pushes (h l : List T) : List T := l.foldl push h
theorem pushes_len : ∀ (l h : List T), (pushes h l).length = h.length + l.length := by
  intro l
  induction l with
  | nil => intro h; rfl
  | cons x l ih => intro h; show (pushes (push h x) l).length = _; rw [ih, push_len]; simp; omega
theorem pushes_perm : ∀ (l h : List T), (pushes h l).Perm (h ++ l) := by
  intro l
  induction l with
  | nil => intro h; simp [pushes]
  | cons x l ih =>
    intro h
    refine (ih (push h x)).trans ?_
    refine ((push_perm h x).append_right l).trans ?_
    simp
theorem pushes_heap : ∀ (l h : List T), Hp' h → Hp' (pushes h l) := by
  intro l
  induction l with
  | nil => intro h hh; exact hh
  | cons x l ih => intro h hh; exact ih _ (push_heap hh x)
theorem drop_g (l : List T) {i : Nat} (hi : i < l.length) : l.drop i = g l i :: l.drop (i + 1) := by
  rw [List.drop_eq_getElem_cons hi, g, getD_get _ _ _ hi]
theorem cancel_l0 (l : List T) (ids : List Int) (hl : l.length ≤ 1024) (hi : ids.length < 4611686018427387904) : ∀ (d i n : Nat) (h : List T), i + d = l.length → h.length ≤ i → n ≤ i → 
    Ev (fun k => timer_Cancel.l0 k l ids i h) (pushes h (left ids (l.drop i))) ∧ Ev (fun k => waybillref20_Cancel.l0 k l ids n i h) (((n + (d - (left ids (l.drop i)).length) : Nat) : Int), pushes h (left ids (l.drop i)))
  | 0, i, n, h, h1, h2, hn => by
    rw [List.drop_of_length_le (by omega)]
    constructor
    · refine Ev.succ ?_
      simp only [timer_Cancel.l0]
      exact Ev.neg (by omega) Ev.ret
    · refine Ev.succ ?_
      simp only [waybillref20_Cancel.l0]
      exact Ev.neg (by omega) Ev.ret
  | d + 1, i, n, h, h1, h2, hn => by
    have hlt : i < l.length := by omega
    rw [drop_g l hlt]
    have hle : (left ids (l.drop (i + 1))).length ≤ d := by
      unfold left
      refine Nat.le_trans (List.length_filter_le _ _) ?_
      rw [List.length_drop]; omega
    by_cases c : (g l i).ID ∈ ids
    · have e : left ids (g l i :: l.drop (i + 1)) = left ids (l.drop (i + 1)) := by simp [left, c]
      rw [e]
      obtain ⟨a1, a2⟩ := cancel_l0 l ids hl hi d (i + 1) (n + 1) h (by omega) (by omega) (by omega)
      constructor
      · refine Ev.succ ?_
        simp only [timer_Cancel.l0]
        refine Ev.pos (by omega) (Ev.pos (by omega) (Ev.bind (index_ok ids _ hi) (Ev.bind (x := h) (Ev.dpos c Ev.ret) ?_)))
        rw [W_succ (by omega)]; exact a1
      · refine Ev.succ ?_
        simp only [waybillref20_Cancel.l0]
        refine Ev.pos (by omega) (Ev.bind (x := (((n + 1 : Nat) : Int), h)) (Ev.bind (offs_ok l ids hlt hi _ 0 false (Nat.zero_add _) (by simp)) (Ev.bind (x := (((n + 1 : Nat) : Int), h)) (Ev.dpos c ?_) Ev.ret)) ?_)
        · rw [W_succ (by omega)]; exact Ev.ret
        · rw [W_succ (i := i) (by omega)]
          rw [show n + (d + 1 - (left ids (l.drop (i + 1))).length) = n + 1 + (d - (left ids (l.drop (i + 1))).length) by omega]
          exact a2
    · have e : left ids (g l i :: l.drop (i + 1)) = g l i :: left ids (l.drop (i + 1)) := by simp [left, c]
      rw [e]
      obtain ⟨a1, a2⟩ := cancel_l0 l ids hl hi d (i + 1) n (push h (g l i)) (by omega) (by rw [push_len]; omega) (by omega)
      constructor
      · refine Ev.succ ?_
        simp only [timer_Cancel.l0]
        refine Ev.pos (by omega) (Ev.pos (by omega) (Ev.bind (index_ok ids _ hi) (Ev.bind (x := push h (g l i)) (Ev.dneg c (Ev.bind (push_ok h _ (by omega)) Ev.ret)) ?_)))
        rw [W_succ (by omega)]; exact a1
      · refine Ev.succ ?_
        simp only [waybillref20_Cancel.l0]
        refine Ev.pos (by omega) (Ev.bind (x := ((n : Int), push h (g l i))) (Ev.bind (offs_ok l ids hlt hi _ 0 false (Nat.zero_add _) (by simp)) (Ev.bind (x := ((n : Int), push h (g l i))) (Ev.dneg c (Ev.pos (by omega) (Ev.bind (put_ok h _ (by omega)) Ev.ret))) Ev.ret)) ?_)
        rw [W_succ (i := i) (by omega)]
        rw [show n + (d + 1 - (g l i :: left ids (l.drop (i + 1))).length) = n + (d - (left ids (l.drop (i + 1))).length) by rw [List.length_cons]; omega]
        exact a2
theorem cancel_ok (l : List T) (ids : List Int) (hi : ids.length < 4611686018427387904) : ∃ q n e, Ev (fun k => timer_Cancel.f k l ids) (q, n, e) ∧ Ev (fun k => waybillref20_Cancel.f k l ids) (q, n, e) ∧ (e = 0 ↔ Good l) ∧
    (e = 0 → q = pushes [] (left ids l) ∧ n = ((l.length - (left ids l).length : Nat) : Int)) ∧ (e ≠ 0 → q = [] ∧ n = 0 ∧ Ev (fun k => timer_Check.f k l) e) := by
  obtain ⟨e, h1, h2, h3⟩ := check_ok l
  by_cases c : e = 0
  · have G := h3.1 c
    have hl := G.len
    obtain ⟨a1, a2⟩ := cancel_l0 l ids G.len hi l.length 0 0 [] (by omega) (by simp) (by omega)
    rw [List.drop_zero, Nat.zero_add] at *
    have hle : (left ids l).length ≤ l.length := List.length_filter_le _ _
    refine ⟨_, _, 0, ?_, ?_, ⟨fun _ => G, fun _ => rfl⟩, fun _ => ⟨rfl, rfl⟩, fun h => absurd rfl h⟩
    · simp only [timer_Cancel.f]
      refine Ev.bind h1 (Ev.pos c (Ev.bind a1 ?_))
      rw [pushes_len, W_eq (by simp; omega) (by simp; omega)]
      rw [show (l.length : Int) - ((([] : List T).length + (left ids l).length : Nat) : Int) = ((l.length - (left ids l).length : Nat) : Int) by simp; omega]
      exact Ev.ret
    · simp only [waybillref20_Cancel.f]
      exact Ev.bind h2 (Ev.pos c (Ev.bind a2 Ev.ret))
  · refine ⟨[], 0, e, ?_, ?_, h3, fun h => absurd h c, fun _ => ⟨rfl, rfl, h1⟩⟩
    · simp only [timer_Cancel.f]; exact Ev.bind h1 (Ev.neg c Ev.ret)
    · simp only [waybillref20_Cancel.f]; exact Ev.bind h2 (Ev.neg c Ev.ret)
end Go.Proofs.Ytailjeoimlemnaa.M

/- waybill/waybillref20.Order: a plain function, and that the machine's call comes to it: printed by a program of the session's own. -/
set_option linter.unusedVariables false
set_option linter.unusedSimpArgs false
namespace Go.Proofs.Ytailjeoimlemnaa.M
open Go Go.Proofs.Ytailjeoimlemnaa.Sl
/-! ### waybill/waybillref20.Order: function 17 -/
def waybillref20_Order.l1 : Nat → (List api_Timer) → Int → (List api_Timer) → Int → (List api_Timer) → Option (Int × (List api_Timer))
  | 0, _, _, _, _, _ => none
  | k + 1, x_l, z8x, z9x, z28x, z29x => ((if 0 < z28x then (if 0 ≤ z8x then (if z8x < (x_l.length : Int) then (if 0 ≤ (IntKind.i64.wrap (z28x - 1)) then (if (IntKind.i64.wrap (z28x - 1)) < ((z9x ++ ([(rd e_api_Timer x_l z8x)] : List api_Timer)).length : Int) then ((waybillref20_Ahead.f (rd e_api_Timer x_l z8x) (rd e_api_Timer z29x (IntKind.i64.wrap (z28x - 1)))).bind fun z49t => (some z49t)) else (none)) else (none)) else (none)) else (none)) else (some false)) : Option (Bool)).bind fun z30x => (if z30x = true then (if 0 ≤ (IntKind.i64.wrap (z28x - 1)) then (if (IntKind.i64.wrap (z28x - 1)) < ((z9x ++ ([(rd e_api_Timer x_l z8x)] : List api_Timer)).length : Int) then (if 0 ≤ z28x then (if z28x < ((z9x ++ ([(rd e_api_Timer x_l z8x)] : List api_Timer)).length : Int) then (waybillref20_Order.l1 k x_l z8x z9x (IntKind.i64.wrap (z28x - 1)) (z29x.set (Int.toNat z28x) (rd e_api_Timer z29x (IntKind.i64.wrap (z28x - 1))))) else (none)) else (none)) else (none)) else (none)) else (some (z28x, z29x)))
def waybillref20_Order.l0 : Nat → (List api_Timer) → Int → (List api_Timer) → Option ((List api_Timer))
  | 0, _, _, _ => none
  | k + 1, x_l, z8x, z9x => if z8x < (x_l.length : Int) then (((if 0 ≤ z8x then (if z9x.length + ([(rd e_api_Timer x_l z8x)] : List api_Timer).length < 8796093022208 then ((((waybillref20_Order.l1 k x_l z8x z9x (z9x.length : Int) (z9x ++ ([(rd e_api_Timer x_l z8x)] : List api_Timer)))) : Option (Int × (List api_Timer))).bind fun (z26x, z27x) => (if 0 ≤ z26x then (if z26x < ((z9x ++ ([(rd e_api_Timer x_l z8x)] : List api_Timer)).length : Int) then (some (z27x.set (Int.toNat z26x) (rd e_api_Timer x_l z8x))) else (none)) else (none))) else (none)) else (none)) : Option ((List api_Timer))).bind fun z14x => (waybillref20_Order.l0 k x_l (IntKind.i64.wrap (z8x + 1)) z14x)) else (some z9x)
def waybillref20_Order.f (k : Nat) (x_l : List api_Timer) : Option ((List api_Timer) × Int) := (waybillref20_Check.f k x_l).bind fun z2t => (if z2t = 0 then ((((waybillref20_Order.l0 k x_l 0 ([] : List api_Timer))) : Option ((List api_Timer))).bind fun z4x => (some (z4x, 0))) else (some (([] : List api_Timer), z2t)))
set_option maxRecDepth 100000 in
set_option maxHeartbeats 4000000 in
theorem waybillref20_Order.calls (k : Nat) (A0 : Option Addr) (n0 c0 : Nat) (x_l : List api_Timer) (W0 : World) (X : Heap) (HR0 : Rd e_api_Timer X A0 n0 c0 x_l) (Hq : HS W0 [isH X] W0) (r : (List api_Timer) × Int) (H : waybillref20_Order.f k x_l = some r) :
    Calls Try.prog 17 #[.slice A0 n0 c0] W0 (fun e w => ∃ Ar0 nr0 cr0, e = .returned (.tuple #[.slice Ar0 nr0 cr0, .int .i64 r.2]) ∧ HS W0 [own e_api_Timer 32 Ar0 nr0 cr0 r.1, isH X] w) := by
  obtain rfl := HR0.1
  rw [waybillref20_Order.f] at H
  refine calls_in Try.func17 rfl rfl ?_
  intro a0 S0
  refine w_seq ?_
  refine w_region ?_
  refine r_pures [_, _] S0 rfl ?_
  clear S0; intro a0 S0
  refine wl_nil ?_
  refine nr_then ?_
  refine w_seq ?_
  refine w_region ?_
  refine r_pures [_] S0 rfl ?_
  clear S0; intro a0 S0
  obtain ⟨Xz1, HXz1, HPz1, HBz1⟩ := call_frame [] Hq
  dsimp only [List.cons_append, List.nil_append] at HXz1 HBz1
  obtain ⟨z2t, Hc, H⟩ := Option.bind_eq_some_iff.mp H
  refine r_call S0 rfl rfl goes23 rfl ?_
  refine (waybillref20_Check.calls _ _ _ _ x_l _ _ (sl_isH_rd [] HPz1 HR0) HXz1 z2t Hc).mono ?_
  rintro e w ⟨rfl, Hq'⟩
  have Hq : HS W0 [isH X] w := HBz1 [] _ Hq'
  clear HXz1 HPz1 HBz1 Hq'
  refine ⟨.int .i64 z2t, rfl, ?_⟩; clear S0; intro a0 S0
  refine r_pures [_] S0 rfl ?_
  clear S0; intro a0 S0
  refine wl_nil ?_
  refine nr_then ?_
  refine w_seq ?_
  refine w_seq ?_
  refine w_region ?_
  refine r_pures [_, _] S0 rfl ?_
  clear S0; intro a0 S0
  refine wl_nil ?_
  refine nr_then ?_
  by_cases z3h : z2t = 0
  · replace H := (if_pos z3h).symm.trans H
    refine w_false S0 rfl (congrArg (!·) (decide_eq_true z3h)) ?_
    refine w_skip ?_
    refine nr_then ?_
    refine w_seq ?_
    refine w_region ?_
    refine r_pures [_] S0 rfl ?_
    clear S0; intro a0 S0
    refine wl_nil ?_
    refine nr_then ?_
    refine w_seq ?_
    refine w_seq ?_
    refine w_region ?_
    refine r_pures [_] S0 rfl ?_
    clear S0; intro a0 S0
    refine wl_nil ?_
    refine nr_then ?_
    replace Hq := HS.own_nil e_api_Timer 32 Hq
    obtain ⟨z4x, H, HU1⟩ := Option.bind_eq_some_iff.mp H
    refine w_cutT (fun a w => ∃ z5A z6m z7n, Sl 60 [] [(5, .slice z5A z6m z7n)] a ∧ HS W0 [own e_api_Timer 32 z5A z6m z7n z4x, isH X] w) ?_ ?_
    · skip
      refine w_block ?_
      refine w_loop (fun kq a w => ∃ z8x z9x z10A z11m z12n, waybillref20_Order.l0 kq x_l z8x z9x = some z4x ∧ Sl 60 [] [(0, .slice A0 x_l.length c0), (5, .slice z10A z11m z12n), (6, .int .i64 z8x)] a ∧ HS W0 [own e_api_Timer 32 z10A z11m z12n z9x, isH X] w) _ ⟨0, ([] : List api_Timer), none, 0, 0, H, S0.sub ⟨rfl, rfl, rfl, trivial⟩, Hq⟩ ?_
      clear H Hq S0
      rintro k0 a w ⟨z8x, z9x, z10A, z11m, z12n, H, S0, Hq⟩
      cases k0 with
      | zero => simp [waybillref20_Order.l0] at H
      | succ k0 =>
        refine ⟨k0, rfl, ?_⟩
        rw [waybillref20_Order.l0] at H
        obtain rfl := own_len [] Hq
        refine w_seq ?_
        refine w_seq ?_
        refine w_region ?_
        refine r_pures [_, _] S0 rfl ?_
        clear S0; intro a0 S0
        refine r_len S0 rfl sl22 rfl ?_
        clear S0; intro a0 S0
        refine r_pures [_] S0 rfl ?_
        clear S0; intro a0 S0
        refine wl_nil ?_
        refine nr_then ?_
        by_cases z13h : z8x < (x_l.length : Int)
        · replace H := (if_pos z13h).symm.trans H
          refine w_true S0 rfl (decide_eq_true z13h) ?_
          refine w_skip ?_
          refine nr_then ?_
          refine w_seq ?_
          obtain ⟨z14x, H, HU2⟩ := Option.bind_eq_some_iff.mp H
          refine w_cutT (fun a w => ∃ z15A z16m z17n, Sl 60 [] [(0, .slice A0 x_l.length c0), (5, .slice z15A z16m z17n), (6, .int .i64 z8x)] a ∧ HS W0 [own e_api_Timer 32 z15A z16m z17n z14x, isH X] w) ?_ ?_
          · skip
            refine w_block ?_
            refine w_seq ?_
            refine w_region ?_
            refine r_pures [_] S0 rfl ?_
            clear S0; intro a0 S0
            refine r_len S0 rfl sl22 rfl ?_
            clear S0; intro a0 S0
            refine r_pures [_] S0 rfl ?_
            clear S0; intro a0 S0
            refine wl_nil ?_
            refine nr_then ?_
            refine w_seq ?_
            refine w_region ?_
            refine r_pures [_, _, _] S0 rfl ?_
            clear S0; intro a0 S0
            by_cases z18h : 0 ≤ z8x
            · replace H := (if_pos z18h).symm.trans H
              obtain ⟨z19b, z20o, rfl⟩ := (isH_rd [_] Hq HR0).at (by omega)
              refine r_index S0 rfl rfl sl22 ti32 z18h z13h rfl ?_
              clear S0; intro a0 S0
              refine r_elA (vs := [.int .i64 ((rd e_api_Timer x_l z8x).At), .int .i64 ((rd e_api_Timer x_l z8x).ID)]) S0 (isH_rd [_] Hq HR0) z18h z13h rfl ti32 rfl rfl rfl ?_
              clear S0; intro a0 S0
              refine r_lit (e := e_api_Timer) (l := ([(rd e_api_Timer x_l z8x)] : List api_Timer)) (m := 1) (vs := [.agg #[.int .i64 ((rd e_api_Timer x_l z8x).At), .int .i64 ((rd e_api_Timer x_l z8x).ID)]]) S0 Hq sl22 ti32 rfl rfl rfl rfl rfl rfl ?_
              clear S0 Hq; intro z21b a0 w S0 Hq
              by_cases z23h : z9x.length + ([(rd e_api_Timer x_l z8x)] : List api_Timer).length < 8796093022208
              · replace H := (if_pos z23h).symm.trans H
                refine r_app [_] S0 Hq (own_rd [] Hq) rfl rfl sl22 ti32 rfl z23h rfl rfl ?_
                clear S0 Hq; intro z24A z25n a0 w S0 Hq; dsimp only [List.cons_append, List.nil_append] at Hq
                refine r_pures [_] S0 rfl ?_
                clear S0; intro a0 S0
                refine wl_nil ?_
                refine nr_then ?_
                refine w_seq ?_
                obtain ⟨⟨z26x, z27x⟩, H, HU3⟩ := Option.bind_eq_some_iff.mp H
                dsimp only at HU3
                refine w_cutT (fun a w => Sl 60 [] [(0, .slice (some ⟨z19b, z20o, none⟩) x_l.length c0), (5, .slice z24A ((z9x ++ ([(rd e_api_Timer x_l z8x)] : List api_Timer)).length) z25n), (6, .int .i64 z8x), (7, .int .i64 z26x)] a ∧ HS W0 [own e_api_Timer 32 z24A ((z9x ++ ([(rd e_api_Timer x_l z8x)] : List api_Timer)).length) z25n z27x, isH X] w) ?_ ?_
                · skip
                  refine w_block ?_
                  replace Hq := HS.pull [_, _] Hq
                  dsimp only [List.cons_append, List.nil_append] at Hq
                  replace Hq := HS.pull [_, _] Hq
                  dsimp only [List.cons_append, List.nil_append] at Hq
                  replace Hq := HS.keep [_, _] Hq
                  refine w_loop (fun kq a w => ∃ z28x z29x, waybillref20_Order.l1 kq x_l z8x z9x z28x z29x = some (z26x, z27x) ∧ Sl 60 [] [(0, .slice (some ⟨z19b, z20o, none⟩) x_l.length c0), (5, .slice z24A ((z9x ++ ([(rd e_api_Timer x_l z8x)] : List api_Timer)).length) z25n), (6, .int .i64 z8x), (7, .int .i64 z28x)] a ∧ HS W0 [own e_api_Timer 32 z24A ((z9x ++ ([(rd e_api_Timer x_l z8x)] : List api_Timer)).length) z25n z29x, isH X] w) _ ⟨(z9x.length : Int), (z9x ++ ([(rd e_api_Timer x_l z8x)] : List api_Timer)), H, S0.sub ⟨rfl, rfl, rfl, rfl, trivial⟩, Hq⟩ ?_
                  clear H Hq S0
                  rintro k1 a w ⟨z28x, z29x, H, S0, Hq⟩
                  cases k1 with
                  | zero => simp [waybillref20_Order.l1] at H
                  | succ k1 =>
                    refine ⟨k1, rfl, ?_⟩
                    rw [waybillref20_Order.l1] at H
                    refine w_seq ?_
                    refine w_seq ?_
                    obtain ⟨z30x, H, HU4⟩ := Option.bind_eq_some_iff.mp H
                    refine w_cutT (fun a w => Sl 60 [] [(0, .slice (some ⟨z19b, z20o, none⟩) x_l.length c0), (5, .slice z24A ((z9x ++ ([(rd e_api_Timer x_l z8x)] : List api_Timer)).length) z25n), (6, .int .i64 z8x), (7, .int .i64 z28x), (41, .bool z30x)] a ∧ HS W0 [own e_api_Timer 32 z24A ((z9x ++ ([(rd e_api_Timer x_l z8x)] : List api_Timer)).length) z25n z29x, isH X] w) ?_ ?_
                    · skip
                      refine w_draw TryM.mixed (.pu 0 (.pu 1 (.pu 2 (.pu 3 (.pu 4 (.pu 5 (.pu 7 (.pu 8 (.pu 9 (.pu 10 (.rd 6 (.rd 11 (.ds 12 (.pu 13 .done)))))))))))))) (by kernel_rfl) rfl ?_
                      replace Hq := Hq.drew
                      refine st_pures [0, 1, 2] S0 rfl ?_
                      intro az31q Sz31q
                      by_cases z32h : 0 < z28x
                      · replace H := (if_pos z32h).symm.trans H
                        refine st_pu Sz31q rfl (g_on Sz31q rfl rfl rfl rfl (decide_eq_true z32h)) rfl rfl (fun _ => y_of Sz31q _ rfl) ?_
                        intro az33q Sz33q
                        refine st_pu Sz33q rfl (g_on Sz33q rfl rfl rfl rfl (decide_eq_true z32h)) rfl rfl (fun _ => y_of Sz33q _ rfl) ?_
                        intro az34q Sz34q
                        by_cases z35h : 0 ≤ z8x
                        · replace H := (if_pos z35h).symm.trans H
                          by_cases z36h : z8x < (x_l.length : Int)
                          · replace H := (if_pos z36h).symm.trans H
                            refine st_pu Sz34q rfl (g_on Sz34q rfl rfl rfl rfl (decide_eq_true z32h)) rfl rfl (fun _ => y_index Sz34q rfl rfl sl22 ti32 z35h z36h) ?_
                            intro az37q Sz37q
                            refine st_pu Sz37q rfl (g_on Sz37q rfl rfl rfl rfl (decide_eq_true z32h)) rfl rfl (fun _ => y_of Sz37q _ rfl) ?_
                            intro az38q Sz38q
                            refine st_pu Sz38q rfl (g_on Sz38q rfl rfl rfl rfl (decide_eq_true z32h)) rfl rfl (fun _ => y_of Sz38q _ rfl) ?_
                            intro az39q Sz39q
                            refine st_pu Sz39q rfl (g_on Sz39q rfl rfl rfl rfl (decide_eq_true z32h)) rfl rfl (fun _ => y_of Sz39q _ rfl) ?_
                            intro az40q Sz40q
                            by_cases z41h : 0 ≤ (IntKind.i64.wrap (z28x - 1))
                            · replace H := (if_pos z41h).symm.trans H
                              by_cases z42h : (IntKind.i64.wrap (z28x - 1)) < ((z9x ++ ([(rd e_api_Timer x_l z8x)] : List api_Timer)).length : Int)
                              · replace H := (if_pos z42h).symm.trans H
                                obtain ⟨z43g, rfl⟩ := own_at [] Hq (by omega)
                                refine st_pu Sz40q rfl (g_on Sz40q rfl rfl rfl rfl (decide_eq_true z32h)) rfl rfl (fun _ => y_index Sz40q rfl rfl sl22 ti32 z41h z42h) ?_
                                intro az44q Sz44q
                                refine st_rd Sz44q rfl (g_on Sz44q rfl rfl rfl rfl (decide_eq_true z32h)) rfl rfl (y_elA (vs := [.int .i64 ((rd e_api_Timer x_l z8x).At), .int .i64 ((rd e_api_Timer x_l z8x).ID)]) Sz44q (isH_rd [_] Hq HR0) z35h z36h rfl ti32 rfl rfl) ?_
                                intro az45q Sz45q
                                refine st_rd Sz45q rfl (g_on Sz45q rfl rfl rfl rfl (decide_eq_true z32h)) rfl rfl (y_elA (vs := [.int .i64 ((rd e_api_Timer z29x (IntKind.i64.wrap (z28x - 1))).At), .int .i64 ((rd e_api_Timer z29x (IntKind.i64.wrap (z28x - 1))).ID)]) Sz45q (own_rd [] Hq) z41h z42h rfl ti32 rfl rfl) ?_
                                intro az46q Sz46q
                                refine st_ds rfl ?_
                                refine r_on Sz46q rfl rfl rfl (decide_eq_true z32h) ?_
                                have Sz47q := Sz46q
                                obtain ⟨Xz48, HXz48, HPz48, HBz48⟩ := call_frame [] Hq
                                dsimp only [List.cons_append, List.nil_append] at HXz48 HBz48
                                obtain ⟨z49t, Hc, H⟩ := Option.bind_eq_some_iff.mp H
                                refine r_call Sz47q rfl rfl goes37 rfl ?_
                                refine (waybillref20_Ahead.calls (rd e_api_Timer x_l z8x) (rd e_api_Timer z29x (IntKind.i64.wrap (z28x - 1))) _ _  HXz48 z49t Hc).mono ?_
                                rintro e w ⟨rfl, Hq'⟩
                                have Hq : HS W0 [own e_api_Timer 32 (some ⟨z43g, 0, none⟩) ((z9x ++ ([(rd e_api_Timer x_l z8x)] : List api_Timer)).length) z25n z29x, isH X] w := HBz48 [] _ Hq'
                                clear HXz48 HPz48 HBz48 Hq'
                                refine ⟨.bool z49t, rfl, ?_⟩; clear Sz47q; intro az46q Sz47q
                                refine wl_nil ?_
                                refine nr_then ?_
                                refine st_pu Sz47q rfl (g_none rfl) rfl rfl (fun _ => y_pick Sz47q rfl (decide_eq_true z32h) _ rfl) ?_
                                intro az50q Sz50q
                                refine st_nil ?_
                                replace S0 := Sz50q
                                refine nr_then ?_
                                obtain rfl := Option.some.inj H
                                exact ⟨S0.sub ⟨rfl, rfl, rfl, rfl, rfl, trivial⟩, Hq⟩
                              · replace H := (if_neg z42h).symm.trans H
                                exact nomatch H
                            · replace H := (if_neg z41h).symm.trans H
                              exact nomatch H
                          · replace H := (if_neg z36h).symm.trans H
                            exact nomatch H
                        · replace H := (if_neg z35h).symm.trans H
                          exact nomatch H
                      · replace H := (if_neg z32h).symm.trans H
                        refine st_puOff Sz31q rfl (g_off Sz31q rfl rfl rfl rfl (decide_eq_false z32h)) rfl rfl ?_
                        intro az51q Sz51q
                        refine st_puOff Sz51q rfl (g_off Sz51q rfl rfl rfl rfl (decide_eq_false z32h)) rfl rfl ?_
                        intro az52q Sz52q
                        refine st_puOff Sz52q rfl (g_off Sz52q rfl rfl rfl rfl (decide_eq_false z32h)) rfl rfl ?_
                        intro az53q Sz53q
                        refine st_puOff Sz53q rfl (g_off Sz53q rfl rfl rfl rfl (decide_eq_false z32h)) rfl rfl ?_
                        intro az54q Sz54q
                        refine st_puOff Sz54q rfl (g_off Sz54q rfl rfl rfl rfl (decide_eq_false z32h)) rfl rfl ?_
                        intro az55q Sz55q
                        refine st_puOff Sz55q rfl (g_off Sz55q rfl rfl rfl rfl (decide_eq_false z32h)) rfl rfl ?_
                        intro az56q Sz56q
                        refine st_puOff Sz56q rfl (g_off Sz56q rfl rfl rfl rfl (decide_eq_false z32h)) rfl rfl ?_
                        intro az57q Sz57q
                        refine st_rdOff Sz57q rfl (g_off Sz57q rfl rfl rfl rfl (decide_eq_false z32h)) rfl rfl ?_
                        intro az58q Sz58q
                        refine st_rdOff Sz58q rfl (g_off Sz58q rfl rfl rfl rfl (decide_eq_false z32h)) rfl rfl ?_
                        intro az59q Sz59q
                        refine st_ds rfl ?_
                        refine r_off Sz59q rfl rfl rfl (decide_eq_false z32h) ?_ rfl
                        intro az60q Sz60q
                        refine wl_nil ?_
                        refine nr_then ?_
                        refine st_pu Sz60q rfl (g_none rfl) rfl rfl (fun _ => y_pick Sz60q rfl (decide_eq_false z32h) _ rfl) ?_
                        intro az61q Sz61q
                        refine st_nil ?_
                        replace S0 := Sz61q
                        refine nr_then ?_
                        obtain rfl := Option.some.inj H
                        exact ⟨S0.sub ⟨rfl, rfl, rfl, rfl, rfl, trivial⟩, Hq⟩
                    · clear S0; rintro a w ⟨S0, Hq⟩
                      have H := HU4; clear HU4
                      refine nr_then ?_
                      by_cases z62h : z30x = true
                      · replace H := (if_pos z62h).symm.trans H
                        refine w_true S0 rfl z62h ?_
                        refine w_skip ?_
                        refine nr_then ?_
                        refine w_block ?_
                        refine w_seq ?_
                        refine w_region ?_
                        refine r_pures [_, _, _, _, _] S0 rfl ?_
                        clear S0; intro a0 S0
                        by_cases z63h : 0 ≤ (IntKind.i64.wrap (z28x - 1))
                        · replace H := (if_pos z63h).symm.trans H
                          by_cases z64h : (IntKind.i64.wrap (z28x - 1)) < ((z9x ++ ([(rd e_api_Timer x_l z8x)] : List api_Timer)).length : Int)
                          · replace H := (if_pos z64h).symm.trans H
                            obtain ⟨z65g, rfl⟩ := own_at [] Hq (by omega)
                            refine r_index S0 rfl rfl sl22 ti32 z63h z64h rfl ?_
                            clear S0; intro a0 S0
                            refine r_elA (vs := [.int .i64 ((rd e_api_Timer z29x (IntKind.i64.wrap (z28x - 1))).At), .int .i64 ((rd e_api_Timer z29x (IntKind.i64.wrap (z28x - 1))).ID)]) S0 (own_rd [] Hq) z63h z64h rfl ti32 rfl rfl rfl ?_
                            clear S0; intro a0 S0
                            by_cases z66h : 0 ≤ z28x
                            · replace H := (if_pos z66h).symm.trans H
                              by_cases z67h : z28x < ((z9x ++ ([(rd e_api_Timer x_l z8x)] : List api_Timer)).length : Int)
                              · replace H := (if_pos z67h).symm.trans H
                                refine r_index S0 rfl rfl sl22 ti32 z66h z67h rfl ?_
                                clear S0; intro a0 S0
                                refine r_elst [] S0 Hq z66h z67h rfl rfl ti32 [.int .i64 ((rd e_api_Timer z29x (IntKind.i64.wrap (z28x - 1))).At), .int .i64 ((rd e_api_Timer z29x (IntKind.i64.wrap (z28x - 1))).ID)] rfl rfl rfl rfl (rd e_api_Timer z29x (IntKind.i64.wrap (z28x - 1))) rfl ?_
                                clear Hq; intro w Hq; dsimp only [List.cons_append, List.nil_append] at Hq
                                refine wl_nil ?_
                                refine nr_then ?_
                                refine w_region ?_
                                refine r_pures [_, _, _] S0 rfl ?_
                                clear S0; intro a0 S0
                                refine wl_nil ?_
                                refine nr_in ?_
                                refine nr_then ?_
                                exact ⟨(IntKind.i64.wrap (z28x - 1)), (z29x.set (Int.toNat z28x) (rd e_api_Timer z29x (IntKind.i64.wrap (z28x - 1)))), H, S0.sub ⟨rfl, rfl, rfl, rfl, trivial⟩, Hq⟩
                              · replace H := (if_neg z67h).symm.trans H
                                exact nomatch H
                            · replace H := (if_neg z66h).symm.trans H
                              exact nomatch H
                          · replace H := (if_neg z64h).symm.trans H
                            exact nomatch H
                        · replace H := (if_neg z63h).symm.trans H
                          exact nomatch H
                      · replace H := (if_neg z62h).symm.trans H
                        refine w_false S0 rfl (Bool.eq_false_iff.mpr z62h) ?_
                        refine w_exit ?_
                        refine ex_then ?_
                        refine ex_then ?_
                        refine ex_in ?_
                        refine nr_then ?_
                        simp only [Option.some.injEq, Prod.mk.injEq] at H; obtain ⟨rfl, rfl⟩ := H
                        exact ⟨S0.sub ⟨rfl, rfl, rfl, rfl, trivial⟩, Hq⟩
                · clear S0; rintro a w ⟨S0, Hq⟩
                  have H := HU3; clear HU3
                  refine nr_then ?_
                  refine w_region ?_
                  refine r_pures [_, _, _, _] S0 rfl ?_
                  clear S0; intro a0 S0
                  refine r_index S0 rfl rfl sl22 ti32 z18h z13h rfl ?_
                  clear S0; intro a0 S0
                  refine r_elA (vs := [.int .i64 ((rd e_api_Timer x_l z8x).At), .int .i64 ((rd e_api_Timer x_l z8x).ID)]) S0 (isH_rd [_] Hq HR0) z18h z13h rfl ti32 rfl rfl rfl ?_
                  clear S0; intro a0 S0
                  by_cases z68h : 0 ≤ z26x
                  · replace H := (if_pos z68h).symm.trans H
                    by_cases z69h : z26x < ((z9x ++ ([(rd e_api_Timer x_l z8x)] : List api_Timer)).length : Int)
                    · replace H := (if_pos z69h).symm.trans H
                      obtain ⟨z70g, rfl⟩ := own_at [] Hq (by omega)
                      refine r_index S0 rfl rfl sl22 ti32 z68h z69h rfl ?_
                      clear S0; intro a0 S0
                      refine r_elst [] S0 Hq z68h z69h rfl rfl ti32 [.int .i64 ((rd e_api_Timer x_l z8x).At), .int .i64 ((rd e_api_Timer x_l z8x).ID)] rfl rfl rfl rfl (rd e_api_Timer x_l z8x) rfl ?_
                      clear Hq; intro w Hq; dsimp only [List.cons_append, List.nil_append] at Hq
                      refine wl_nil ?_
                      refine nr_in ?_
                      refine nr_then ?_
                      obtain rfl := Option.some.inj H
                      exact ⟨(some ⟨z70g, 0, none⟩), ((z9x ++ ([(rd e_api_Timer x_l z8x)] : List api_Timer)).length), z25n, S0.sub ⟨rfl, rfl, rfl, trivial⟩, Hq⟩
                    · replace H := (if_neg z69h).symm.trans H
                      exact nomatch H
                  · replace H := (if_neg z68h).symm.trans H
                    exact nomatch H
              · replace H := (if_neg z23h).symm.trans H
                exact nomatch H
            · replace H := (if_neg z18h).symm.trans H
              exact nomatch H
          · clear S0; rintro a w ⟨z15A, z16m, z17n, S0, Hq⟩
            have H := HU2; clear HU2
            obtain rfl := own_len [] Hq
            refine nr_then ?_
            refine w_region ?_
            refine r_pures [_, _, _] S0 rfl ?_
            clear S0; intro a0 S0
            refine wl_nil ?_
            refine nr_then ?_
            exact ⟨(IntKind.i64.wrap (z8x + 1)), z14x, z15A, z14x.length, z17n, H, S0.sub ⟨rfl, rfl, rfl, trivial⟩, Hq⟩
        · replace H := (if_neg z13h).symm.trans H
          refine w_false S0 rfl (decide_eq_false z13h) ?_
          refine w_exit ?_
          refine ex_then ?_
          refine ex_then ?_
          refine ex_in ?_
          refine nr_then ?_
          obtain rfl := Option.some.inj H
          exact ⟨z10A, z9x.length, z12n, S0.sub ⟨rfl, trivial⟩, Hq⟩
    · clear S0; rintro a w ⟨z5A, z6m, z7n, S0, Hq⟩
      have H := HU1; clear HU1
      obtain rfl := own_len [] Hq
      refine nr_then ?_
      refine w_seq ?_
      refine w_region ?_
      refine r_pures [_, _, _] S0 rfl ?_
      clear S0; intro a0 S0
      refine wl_nil ?_
      refine nr_then ?_
      refine w_ret ?_
      obtain rfl := Option.some.inj H
      refine ret2 S0 rfl rfl rfl ?_
      replace Hq := HS.pull [_] Hq
      dsimp only [List.cons_append, List.nil_append] at Hq
      replace Hq := HS.pull [_] Hq
      dsimp only [List.cons_append, List.nil_append] at Hq
      exact ⟨z5A, z4x.length, z7n, rfl, Hq⟩
  · replace H := (if_neg z3h).symm.trans H
    refine w_true S0 rfl (congrArg (!·) (decide_eq_false z3h)) ?_
    refine w_seq ?_
    refine w_region ?_
    refine r_pures [_, _, _] S0 rfl ?_
    clear S0; intro a0 S0
    refine wl_nil ?_
    refine nr_then ?_
    refine w_ret ?_
    refine ret_then ?_
    obtain rfl := Option.some.inj H
    replace Hq := HS.own_nil e_api_Timer 32 Hq
    refine ret2 S0 rfl rfl rfl ?_
    replace Hq := HS.pull [_] Hq
    dsimp only [List.cons_append, List.nil_append] at Hq
    replace Hq := HS.pull [_] Hq
    dsimp only [List.cons_append, List.nil_append] at Hq
    exact ⟨none, 0, 0, rfl, Hq⟩

end Go.Proofs.Ytailjeoimlemnaa.M

/- waybill/waybillplain.SameInts: a plain function, and that the machine's call comes to it: printed by a program of the session's own. -/
set_option linter.unusedVariables false
set_option linter.unusedSimpArgs false
namespace Go.Proofs.Ytailjeoimlemnaa.M
open Go Go.Proofs.Ytailjeoimlemnaa.Sl
/-! ### waybill/waybillplain.SameInts: function 21 -/
def waybillplain_SameInts.l0 : Nat → (List Int) → (List Int) → Int → Option (Bool)
  | 0, _, _, _ => none
  | k + 1, x_a, x_b, z2x => if z2x < (x_a.length : Int) then (if 0 ≤ z2x then (if z2x < (x_b.length : Int) then (if (rd e_i64 x_a z2x) = (rd e_i64 x_b z2x) then (waybillplain_SameInts.l0 k x_a x_b (IntKind.i64.wrap (z2x + 1))) else (some false)) else (none)) else (none)) else (some true)
def waybillplain_SameInts.f (k : Nat) (x_a : List Int) (x_b : List Int) : Option (Bool) := if (x_a.length : Int) = (x_b.length : Int) then ((waybillplain_SameInts.l0 k x_a x_b 0)) else (some false)
set_option maxRecDepth 100000 in
set_option maxHeartbeats 4000000 in
theorem waybillplain_SameInts.calls (k : Nat) (A0 : Option Addr) (n0 c0 : Nat) (x_a : List Int) (A1 : Option Addr) (n1 c1 : Nat) (x_b : List Int) (W0 : World) (X : Heap) (HR0 : Rd e_i64 X A0 n0 c0 x_a) (HR1 : Rd e_i64 X A1 n1 c1 x_b) (Hq : HS W0 [isH X] W0) (r : Bool) (H : waybillplain_SameInts.f k x_a x_b = some r) :
    Calls Try.prog 21 #[.slice A0 n0 c0, .slice A1 n1 c1] W0 (fun e w => e = .returned (.bool r) ∧ HS W0 [isH X] w) := by
  obtain rfl := HR0.1
  obtain rfl := HR1.1
  rw [waybillplain_SameInts.f] at H
  refine calls_in Try.func21 rfl rfl ?_
  intro a0 S0
  refine w_seq ?_
  refine w_region ?_
  refine r_pures [_] S0 rfl ?_
  clear S0; intro a0 S0
  refine wl_nil ?_
  refine nr_then ?_
  refine w_seq ?_
  refine w_seq ?_
  refine w_region ?_
  refine r_pures [_] S0 rfl ?_
  clear S0; intro a0 S0
  refine r_len S0 rfl sl23 rfl ?_
  clear S0; intro a0 S0
  refine r_pures [_] S0 rfl ?_
  clear S0; intro a0 S0
  refine r_len S0 rfl sl23 rfl ?_
  clear S0; intro a0 S0
  refine r_pures [_] S0 rfl ?_
  clear S0; intro a0 S0
  refine wl_nil ?_
  refine nr_then ?_
  by_cases z1h : (x_a.length : Int) = (x_b.length : Int)
  · replace H := (if_pos z1h).symm.trans H
    refine w_false S0 rfl (congrArg (!·) (decide_eq_true z1h)) ?_
    refine w_skip ?_
    refine nr_then ?_
    refine w_seq ?_
    refine w_seq ?_
    refine w_region ?_
    refine r_pures [_] S0 rfl ?_
    clear S0; intro a0 S0
    refine wl_nil ?_
    refine nr_then ?_
    refine w_block ?_
    refine w_loop (fun kq a w => ∃ z2x, waybillplain_SameInts.l0 kq x_a x_b z2x = some r ∧ Sl 26 [] [(0, .slice A0 x_a.length c0), (1, .slice A1 x_b.length c1), (5, .int .i64 z2x)] a ∧ HS W0 [isH X] w) _ ⟨0, H, S0.sub ⟨rfl, rfl, rfl, trivial⟩, Hq⟩ ?_
    clear H Hq S0
    rintro k0 a w ⟨z2x, H, S0, Hq⟩
    cases k0 with
    | zero => simp [waybillplain_SameInts.l0] at H
    | succ k0 =>
      refine ⟨k0, rfl, ?_⟩
      rw [waybillplain_SameInts.l0] at H
      refine w_seq ?_
      refine w_seq ?_
      refine w_region ?_
      refine r_pures [_, _] S0 rfl ?_
      clear S0; intro a0 S0
      refine r_len S0 rfl sl23 rfl ?_
      clear S0; intro a0 S0
      refine r_pures [_] S0 rfl ?_
      clear S0; intro a0 S0
      refine wl_nil ?_
      refine nr_then ?_
      by_cases z3h : z2x < (x_a.length : Int)
      · replace H := (if_pos z3h).symm.trans H
        refine w_true S0 rfl (decide_eq_true z3h) ?_
        refine w_skip ?_
        refine nr_then ?_
        refine w_seq ?_
        refine w_block ?_
        refine w_seq ?_
        refine w_draw TryM.mixed (.pu 0 (.pu 1 (.pu 2 (.pu 4 (.pu 5 (.pu 6 (.rd 3 (.rd 7 (.pu 8 .done))))))))) (by kernel_rfl) rfl ?_
        replace Hq := Hq.drew
        refine st_pures [0, 1] S0 rfl ?_
        intro az4q Sz4q
        by_cases z5h : 0 ≤ z2x
        · replace H := (if_pos z5h).symm.trans H
          obtain ⟨z6b, z7o, rfl⟩ := (isH_rd [] Hq HR0).at (by omega)
          refine st_pu Sz4q rfl (g_none rfl) rfl rfl (fun _ => y_index Sz4q rfl rfl sl23 ti3 z5h z3h) ?_
          intro az8q Sz8q
          refine st_pures [4, 5] Sz8q rfl ?_
          intro az9q Sz9q
          by_cases z10h : z2x < (x_b.length : Int)
          · replace H := (if_pos z10h).symm.trans H
            obtain ⟨z11b, z12o, rfl⟩ := (isH_rd [] Hq HR1).at (by omega)
            refine st_pu Sz9q rfl (g_none rfl) rfl rfl (fun _ => y_index Sz9q rfl rfl sl23 ti3 z5h z10h) ?_
            intro az13q Sz13q
            refine st_rd Sz13q rfl (g_none rfl) rfl rfl (y_elS Sz13q (isH_rd [] Hq HR0) z5h z3h rfl ti3 _ rfl) ?_
            intro az14q Sz14q
            refine st_rd Sz14q rfl (g_none rfl) rfl rfl (y_elS Sz14q (isH_rd [] Hq HR1) z5h z10h rfl ti3 _ rfl) ?_
            intro az15q Sz15q
            refine st_pures [8] Sz15q rfl ?_
            intro az16q Sz16q
            refine st_nil ?_
            replace S0 := Sz16q
            refine nr_then ?_
            by_cases z17h : (rd e_i64 x_a z2x) = (rd e_i64 x_b z2x)
            · replace H := (if_pos z17h).symm.trans H
              refine w_false S0 rfl (congrArg (!·) (decide_eq_true z17h)) ?_
              refine w_skip ?_
              refine nr_in ?_
              refine nr_then ?_
              refine w_region ?_
              refine r_pures [_, _, _] S0 rfl ?_
              clear S0; intro a0 S0
              refine wl_nil ?_
              refine nr_then ?_
              exact ⟨(IntKind.i64.wrap (z2x + 1)), H, S0.sub ⟨rfl, rfl, rfl, trivial⟩, Hq⟩
            · replace H := (if_neg z17h).symm.trans H
              refine w_true S0 rfl (congrArg (!·) (decide_eq_false z17h)) ?_
              refine w_seq ?_
              refine w_region ?_
              refine r_pures [_] S0 rfl ?_
              clear S0; intro a0 S0
              refine wl_nil ?_
              refine nr_then ?_
              refine w_ret ?_
              refine ret_in ?_
              refine ret_then ?_
              refine ret_then ?_
              refine ret_in ?_
              refine ret_then ?_
              obtain rfl := Option.some.inj H
              refine ret1 S0 rfl rfl ?_
              exact ⟨rfl, Hq⟩
          · replace H := (if_neg z10h).symm.trans H
            exact nomatch H
        · replace H := (if_neg z5h).symm.trans H
          exact nomatch H
      · replace H := (if_neg z3h).symm.trans H
        refine w_false S0 rfl (decide_eq_false z3h) ?_
        refine w_exit ?_
        refine ex_then ?_
        refine ex_then ?_
        refine ex_in ?_
        refine nr_then ?_
        refine w_seq ?_
        refine w_region ?_
        refine r_pures [_] S0 rfl ?_
        clear S0; intro a0 S0
        refine wl_nil ?_
        refine nr_then ?_
        refine w_ret ?_
        obtain rfl := Option.some.inj H
        refine ret1 S0 rfl rfl ?_
        exact ⟨rfl, Hq⟩
  · replace H := (if_neg z1h).symm.trans H
    refine w_true S0 rfl (congrArg (!·) (decide_eq_false z1h)) ?_
    refine w_seq ?_
    refine w_region ?_
    refine r_pures [_] S0 rfl ?_
    clear S0; intro a0 S0
    refine wl_nil ?_
    refine nr_then ?_
    refine w_ret ?_
    refine ret_then ?_
    obtain rfl := Option.some.inj H
    refine ret1 S0 rfl rfl ?_
    exact ⟨rfl, Hq⟩

end Go.Proofs.Ytailjeoimlemnaa.M

/- Timers: all in order; a queue that is emptied in order; the page's example. -/
set_option linter.unusedVariables false
set_option linter.unusedSimpArgs false
namespace Go.Proofs.Ytailjeoimlemnaa.M
open Go Go.Proofs.Ytailjeoimlemnaa.Sl

def srt (l : List T) : List T := l.mergeSort fun x y => !(ltOf slices_SortFunc_api_Timer_api_Timer.cf) y x
theorem le_iff (a b : T) : (!(ltOf slices_SortFunc_api_Timer_api_Timer.cf) b a) = true ↔ ¬ lt b a := by
  rw [Bool.not_eq_true', slices_SortFunc_api_Timer_api_Timer.lt_iff']; rfl
theorem srt_perm (l : List T) : (srt l).Perm l := List.mergeSort_perm _ _
theorem srt_sorted (l : List T) : (srt l).Pairwise fun a b => ¬ lt b a := by
  have := List.pairwise_mergeSort (le := fun x y => !(ltOf slices_SortFunc_api_Timer_api_Timer.cf) y x) (fun a b c h1 h2 => by
    rw [le_iff] at *; exact le_trans h1 h2) (fun a b => by
    rw [Bool.or_eq_true, le_iff, le_iff]
    by_cases h : lt b a
    · exact .inr (lt_le h)
    · exact .inl h) l
  exact this.imp fun h => (le_iff _ _).1 h
theorem srt_uniq {l m : List T} (h : m.Perm l) (hs : m.Pairwise fun a b => ¬ lt b a) : m = srt l :=
  List.Perm.eq_of_pairwise (fun a b _ _ h1 h2 => le_antisymm h2 h1) hs (srt_sorted l) (h.trans (srt_perm l).symm)
theorem srt_congr {l m : List T} (h : m.Perm l) : srt m = srt l := srt_uniq ((srt_perm m).trans h) (srt_sorted m)
theorem srt_len (l : List T) : (srt l).length = l.length := (srt_perm l).length_eq

theorem copy_l0 (l : List T) (hl : l.length ≤ 1024) : ∀ (d i : Nat) (q : List T), i + d = l.length → q = l.take i → Ev (fun k => timer_Order.l0 k l i q) l
  | 0, i, q, h1, h2 => by
    refine Ev.succ ?_
    simp only [timer_Order.l0]
    rw [h2, List.take_of_length_le (by omega)]
    exact Ev.neg (by omega) Ev.ret
  | d + 1, i, q, h1, h2 => by
    refine Ev.succ ?_
    simp only [timer_Order.l0]
    have hlen : q.length = i := by rw [h2, List.length_take]; omega
    refine Ev.pos (by omega) (Ev.pos (by omega) (Ev.pos (by simp; omega) ?_))
    rw [W_succ (by omega), g_rd]
    refine copy_l0 l hl d (i + 1) _ (by omega) ?_
    rw [h2, List.take_add_one, List.getElem?_eq_getElem (by omega : i < l.length), g, getD_get _ _ _ (by omega)]; rfl
theorem order_prog (l : List T) (G : Good l) : Ev (fun k => timer_Order.f k l) (srt l, 0) := by
  obtain ⟨e, h1, h2, h3⟩ := check_ok l
  have := G.len
  simp only [timer_Order.f]
  refine Ev.bind h1 (Ev.pos (h3.2 G) (Ev.bind (copy_l0 l G.len _ 0 [] (Nat.zero_add _) (by simp)) (Ev.bind (Ev.of (r := srt l) ?_) Ev.ret)))
  unfold slices_SortFunc_api_Timer_api_Timer.f
  rw [if_pos (by omega)]; rfl

/-! ### the page's: by insertion -/
theorem ins_l1 (l : List T) {i : Nat} (hi : i < l.length) (q : List T) (hq : q.length ≤ 1024) (hs : q.Pairwise fun a b => ¬ lt b a) : ∀ (at_ : Nat) (z : List T), at_ ≤ q.length → z.length = q.length + 1 → z.take at_ = q.take at_ → z.drop (at_ + 1) = q.drop at_ →
    (∀ x ∈ q.drop at_, lt (g l i) x) → ∃ (a : Nat) (y : List T), Ev (fun k => waybillref20_Order.l1 k l i q at_ z) ((a : Int), y) ∧ a < y.length ∧ y.length = q.length + 1 ∧ y.set a (g l i) = q.take a ++ g l i :: q.drop a ∧ (∀ x ∈ q.take a, ¬ lt (g l i) x) ∧ (∀ x ∈ q.drop a, lt (g l i) x)
  | 0, z, h1, h2, h3, h4, h5 => by
    refine ⟨0, z, ?_, by omega, h2, ?_, by simp, h5⟩
    · refine Ev.succ ?_
      simp only [waybillref20_Order.l1]
      exact Ev.bind (x := false) (Ev.neg (by omega) Ev.ret) (Ev.neg (by simp) Ev.ret)
    · cases z with
      | nil => simp at h2
      | cons a z => simp at h4; simp [h4]
  | at_ + 1, z, h1, h2, h3, h4, h5 => by
    have hzq : (q ++ ([g l i] : List T)).length = q.length + 1 := by simp
    have hg : g z at_ = g q at_ := by
      have e1 := congrArg (fun w => w.getD at_ api_Timer.zero) h3
      simp only [getD_take _ _ _ _ (Nat.lt_succ_self at_)] at e1
      exact e1
    by_cases c : lt (g l i) (g q at_)
    · obtain ⟨a, y, r1, r2, r3, r4, r5, r6⟩ := ins_l1 l hi q hq hs at_ (z.set (at_ + 1) (g z at_)) (by omega) (by simp [h2]) (by
        rw [List.take_set, List.set_eq_of_length_le (by simp; omega)]
        have := congrArg (List.take at_) h3
        rwa [List.take_take, List.take_take, Nat.min_eq_left (by omega)] at this) (by
        rw [List.drop_set, if_neg (by omega)]
        rw [drop_g z (i := at_ + 1) (by omega), h4, Nat.sub_self, List.set_cons_zero, hg, ← drop_g q (by omega)]) (fun x hx => by
        rw [drop_g q (by omega)] at hx
        rcases List.mem_cons.1 hx with rfl | hx
        · exact c
        · exact h5 x hx)
      refine ⟨a, y, ?_, r2, r3, r4, r5, r6⟩
      refine Ev.succ ?_
      simp only [waybillref20_Order.l1, W_pred (show at_ + 1 < 4611686018427387904 by omega) (Nat.succ_pos _), g_rd, hzq]
      refine Ev.bind (x := true) (Ev.pos (by omega) (Ev.pos (by omega) (Ev.pos (by omega) (Ev.pos (by omega) (Ev.pos (by omega) ?_))))) (Ev.pos rfl (Ev.pos (by omega) (Ev.pos (by omega) (Ev.pos (by omega) (Ev.pos (by omega) ?_)))))
      · rw [rahead_ok, show at_ + 1 - 1 = at_ by omega, hg]; simp only [Option.bind_some]; exact Ev.of (by simp [c])
      · simpa using r1
    · have hle : ∀ x ∈ q.take (at_ + 1), ¬ lt (g l i) x := by
        intro x hx
        rw [List.take_add_one, List.getElem?_eq_getElem (by omega : at_ < q.length)] at hx
        rcases List.mem_append.1 hx with hx | hx
        · have hp : ¬ lt (g q at_) x := by
            rw [← List.take_append_drop at_ q, drop_g q (by omega)] at hs
            exact (List.pairwise_append.1 hs).2.2 x hx _ List.mem_cons_self
          exact le_trans hp c
        · simp at hx; subst hx
          have e : g q at_ = q[at_] := getD_get _ _ _ (by omega)
          rw [e] at c; exact c
      refine ⟨at_ + 1, z, ?_, by omega, h2, ?_, hle, h5⟩
      · refine Ev.succ ?_
        simp only [waybillref20_Order.l1, W_pred (show at_ + 1 < 4611686018427387904 by omega) (Nat.succ_pos _), g_rd, hzq]
        refine Ev.bind (x := false) (Ev.pos (by omega) (Ev.pos (by omega) (Ev.pos (by omega) (Ev.pos (by omega) (Ev.pos (by omega) ?_))))) (Ev.neg (by simp) Ev.ret)
        rw [rahead_ok, show at_ + 1 - 1 = at_ by omega, hg]; simp only [Option.bind_some]; exact Ev.of (by simp [c])
      · rw [List.set_eq_take_append_cons_drop, if_pos (by omega), h3, h4]
theorem ins_l0 (l : List T) (hl : l.length ≤ 1024) : ∀ (d i : Nat) (q : List T), i + d = l.length → q.length = i → (q.Pairwise fun a b => ¬ lt b a) → ∃ y, Ev (fun k => waybillref20_Order.l0 k l i q) y ∧ (y.Pairwise fun a b => ¬ lt b a) ∧ y.Perm (q ++ l.drop i)
  | 0, i, q, h1, h2, h3 => by
    refine ⟨q, ?_, h3, by rw [List.drop_of_length_le (by omega)]; simp⟩
    refine Ev.succ ?_
    simp only [waybillref20_Order.l0]
    exact Ev.neg (by omega) Ev.ret
  | d + 1, i, q, h1, h2, h3 => by
    obtain ⟨a, y, r1, r2, r3, r4, r5, r6⟩ := ins_l1 l (i := i) (by omega) q (by omega) h3 q.length (q ++ [g l i]) (Nat.le_refl _) (by simp) (by simp) (by simp) (by simp)
    have hp : (y.set a (g l i)).Pairwise fun a b => ¬ lt b a := by
      rw [r4, List.pairwise_append]
      refine ⟨h3.sublist (List.take_sublist _ _), List.pairwise_cons.2 ⟨fun x hx => lt_le (r6 x hx), h3.sublist (List.drop_sublist _ _)⟩, fun x hx z hz => ?_⟩
      rcases List.mem_cons.1 hz with rfl | hz
      · exact r5 x hx
      · exact lt_le (lt_of x z (r5 x hx) (r6 z hz))
    obtain ⟨w, w1, w2, w3⟩ := ins_l0 l hl d (i + 1) (y.set a (g l i)) (by omega) (by rw [List.length_set, r3, h2]) hp
    refine ⟨w, ?_, w2, ?_⟩
    · refine Ev.succ ?_
      simp only [waybillref20_Order.l0, g_rd]
      refine Ev.pos (by omega) (Ev.bind (x := y.set a (g l i)) (Ev.pos (by omega) (Ev.pos (by simp; omega) (Ev.bind r1 (Ev.pos (by omega) (Ev.pos (by simp; omega) Ev.ret))))) ?_)
      rw [W_succ (by omega)]; exact w1
    · refine w3.trans ?_
      rw [drop_g l (by omega : i < l.length), r4]
      refine (List.Perm.append_right _ (List.perm_middle)).trans ?_
      rw [List.take_append_drop, List.cons_append]
      exact List.perm_middle.symm
where lt_of (x z : T) {t : T} (h1 : ¬ lt t x) (h2 : lt t z) : lt x z := by unfold lt at *; omega
theorem order_ref (l : List T) (G : Good l) : Ev (fun k => waybillref20_Order.f k l) (srt l, 0) := by
  obtain ⟨e, h1, h2, h3⟩ := check_ok l
  obtain ⟨y, y1, y2, y3⟩ := ins_l0 l G.len l.length 0 [] (Nat.zero_add _) rfl List.Pairwise.nil
  have : y = srt l := srt_uniq (by simpa using y3) y2
  subst this
  simp only [waybillref20_Order.f]
  exact Ev.bind h2 (Ev.pos (h3.2 G) (Ev.bind y1 Ev.ret))
theorem order_both (l : List T) : ∃ q e, Ev (fun k => timer_Order.f k l) (q, e) ∧ Ev (fun k => waybillref20_Order.f k l) (q, e) ∧ (e = 0 ↔ Good l) ∧ (e = 0 → q = srt l) ∧ Ev (fun k => timer_Check.f k l) e ∧ (e ≠ 0 → q = []) := by
  obtain ⟨e, h1, h2, h3⟩ := check_ok l
  by_cases c : e = 0
  · have G := h3.1 c
    subst c
    exact ⟨srt l, 0, order_prog l G, order_ref l G, ⟨fun _ => G, fun _ => rfl⟩, fun _ => rfl, h1, fun h => absurd rfl h⟩
  · refine ⟨[], e, ?_, ?_, h3, fun h => absurd h c, h1, fun _ => rfl⟩
    · simp only [timer_Order.f]; exact Ev.bind h1 (Ev.neg c Ev.ret)
    · simp only [waybillref20_Order.f]; exact Ev.bind h2 (Ev.neg c Ev.ret)

/-! ### rows that are one -/
theorem same_ok (l : List T) (hl : l.length < 4611686018427387904) : Ev (fun k => waybillplain_SameTimers.f k l l) true := by
  simp only [waybillplain_SameTimers.f]
  refine Ev.pos trivial ?_
  refine scan_all (n := l.length) (p := fun _ => False) (fun i hi hp r hr => ?_) (fun j _ h => h) ?_
  · refine Ev.succ ?_
    simp only [waybillplain_SameTimers.l0]
    refine Ev.pos (by omega) (Ev.pos (by omega) (Ev.pos (by omega) (Ev.pos trivial ?_)))
    rw [W_succ (by omega)]; exact hr
  · refine Ev.succ ?_
    simp only [waybillplain_SameTimers.l0]
    exact Ev.neg (by omega) Ev.ret
theorem sameI_ok (l : List Int) (hl : l.length < 4611686018427387904) : Ev (fun k => waybillplain_SameInts.f k l l) true := by
  simp only [waybillplain_SameInts.f]
  refine Ev.pos trivial ?_
  refine scan_all (n := l.length) (p := fun _ => False) (fun i hi hp r hr => ?_) (fun j _ h => h) ?_
  · refine Ev.succ ?_
    simp only [waybillplain_SameInts.l0]
    refine Ev.pos (by omega) (Ev.pos (by omega) (Ev.pos (by omega) (Ev.pos trivial ?_)))
    rw [W_succ (by omega)]; exact hr
  · refine Ev.succ ?_
    simp only [waybillplain_SameInts.l0]
    exact Ev.neg (by omega) Ev.ret

/-! ### a queue that is emptied in order -/
theorem good_of_perm {l m : List T} (G : Good l) (hs : ∃ q, l.Perm (q ++ m)) (hh : Hp' m) : Good m := by
  obtain ⟨q, hq⟩ := hs
  have hlen := hq.length_eq
  rw [List.length_append] at hlen
  have hn : (l.map (·.ID)).Nodup := by
    refine List.pairwise_iff_getElem.2 fun i j hi hj hij => ?_
    simp only [List.length_map] at hi hj
    have := G.dist j hj i hij
    rw [g, g, getD_get _ _ _ hj, getD_get _ _ _ hi] at this
    simpa using Ne.symm this
  have hn2 : (m.map (·.ID)).Nodup := by
    have h2 := (hq.map (·.ID)).nodup_iff.1 hn
    rw [List.map_append, List.nodup_append] at h2
    exact h2.2.1
  refine ⟨by have := G.len; omega, fun i hi => ?_, fun i hi j hj => ?_, hh⟩
  · have : g m i ∈ l := hq.mem_iff.2 (List.mem_append_right _ (getD_mem _ _ _ hi))
    obtain ⟨j, hj, e⟩ := mem_getD api_Timer.zero this
    have := G.may j hj
    rw [g, e] at this
    exact this
  · have := List.pairwise_iff_getElem.1 hn2 j i (by simp; omega) (by simpa using hi) hj
    rw [g, g, getD_get _ _ _ hi, getD_get _ _ _ (by omega)]
    simpa using Ne.symm this
theorem dueP_ok (tick : Int) : ∀ (n : Nat) (l : List T), l.length = n → Hp' l → l.Perm ((dueP tick l).1 ++ (dueP tick l).2) ∧ Hp' (dueP tick l).2 ∧ srt l = (dueP tick l).1 ++ srt (dueP tick l).2 ∧ (∀ x ∈ (dueP tick l).1, x.At ≤ tick) ∧ (∀ x ∈ (dueP tick l).2, ¬ x.At ≤ tick) := by
  intro n
  induction n with
  | zero =>
    intro l h hh
    have : l = [] := List.eq_nil_of_length_eq_zero h
    subst this
    rw [dueP, if_neg (by simp)]
    exact ⟨.refl _, hh, by simp, by simp, by simp⟩
  | succ n ih =>
    intro l h hh
    rw [dueP]
    by_cases c : (g l 0).At ≤ tick
    · rw [if_pos ⟨by omega, c⟩]
      have hp := pop_perm (l := l) (by omega)
      obtain ⟨i1, i2, i3, i4, i5⟩ := ih (pop l) (by rw [pop_len]; omega) (pop_heap hh)
      refine ⟨hp.trans (i1.cons _), i2, ?_, fun x hx => ?_, i5⟩
      · rw [List.cons_append, ← i3]
        refine (srt_uniq ?_ (List.pairwise_cons.2 ⟨fun x hx => ?_, srt_sorted _⟩)).symm
        · exact ((srt_perm (pop l)).cons _).trans hp.symm
        · have hx' : x ∈ l := hp.mem_iff.2 (List.mem_cons_of_mem _ ((srt_perm _).mem_iff.1 hx))
          obtain ⟨j, hj, e⟩ := mem_getD api_Timer.zero hx'
          have := heap_min hh j hj
          rwa [g, e] at this
      · rcases List.mem_cons.1 hx with rfl | hx
        · exact c
        · exact i4 x hx
    · rw [if_neg (fun h => c h.2)]
      refine ⟨.refl _, hh, by simp, by simp, fun x hx hle => ?_⟩
      obtain ⟨j, hj, e⟩ := mem_getD api_Timer.zero hx
      have := heap_min hh j hj
      rw [g, e] at this
      unfold lt at this
      omega

theorem alive_ok : Ev (fun k => waybilllaw20_alive.f k) true := Ev.add 12 fun k => by kernel_rfl
end Go.Proofs.Ytailjeoimlemnaa.M

/- The law TimerDue, over the translation's plain functions: true of every input. -/
set_option linter.unusedVariables false
set_option linter.unusedSimpArgs false
namespace Go.Proofs.Ytailjeoimlemnaa.M
open Go Go.Proofs.Ytailjeoimlemnaa.Sl

theorem due_n (tick : Int) (p q : List T) (hl : (p ++ q).length ≤ 1024) (hp : ∀ x ∈ p, x.At ≤ tick) (hq : ∀ x ∈ q, ¬ x.At ≤ tick) : Ev (fun k => waybilllaw20_TimerDue.l0 k tick (p ++ q) 0) (p.length : Int) := by
  have hlen : (p ++ q).length = p.length + q.length := List.length_append
  refine scan_all (n := p.length) (p := fun _ => False) (fun i hi _ r hr => ?_) (fun j _ h => h) ?_
  · have hm : (g (p ++ q) i).At ≤ tick := by
      refine hp _ ?_
      rw [g, getD_append_left _ _ _ _ hi]; exact getD_mem _ _ _ hi
    refine Ev.succ ?_
    simp only [waybilllaw20_TimerDue.l0, g_rd]
    refine Ev.bind (x := true) (Ev.pos (by omega) (Ev.pos (by omega) (Ev.of (by simp [hm])))) (Ev.pos rfl ?_)
    rw [W_succ (by omega)]; exact hr
  · refine Ev.succ ?_
    simp only [waybilllaw20_TimerDue.l0, g_rd]
    refine Ev.bind (x := false) ?_ (Ev.neg (by simp) Ev.ret)
    by_cases c : 0 < q.length
    · have hm : ¬ (g (p ++ q) p.length).At ≤ tick := by
        refine hq _ ?_
        rw [g, getD_get _ _ _ (by omega), List.getElem_append_right (Nat.le_refl _)]
        exact List.getElem_mem _
      exact Ev.pos (by omega) (Ev.pos (by omega) (Ev.of (by simp [hm])))
    · exact Ev.neg (by omega) Ev.ret
theorem due_ids (p q : List T) (hl : (p ++ q).length ≤ 1024) : Ev (fun k => waybilllaw20_TimerDue.l1 k (p.map (·.ID)) (p ++ q) (p.length : Int) 0) (Sum.inr ()) := by
  have hlen : (p ++ q).length = p.length + q.length := List.length_append
  refine scan_all (n := p.length) (p := fun _ => False) (fun i hi _ r hr => ?_) (fun j _ h => h) ?_
  · refine Ev.succ ?_
    simp only [waybilllaw20_TimerDue.l1, g_rd]
    refine Ev.pos (by omega) (Ev.pos (by omega) (Ev.pos (by simp; omega) (Ev.pos (by omega) (Ev.pos ?_ ?_))))
    · rw [rd_def, getD_get _ _ _ (by simpa using hi), g, getD_append_left _ _ _ _ hi, getD_get _ _ _ hi]; simp
    · rw [W_succ (by omega)]; exact hr
  · refine Ev.succ ?_
    simp only [waybilllaw20_TimerDue.l1]
    exact Ev.neg (by omega) Ev.ret
theorem timerDue_ok (l : List T) (tick : Int) : ∃ k, waybilllaw20_TimerDue.f k l tick = some true := by
  refine Ev.some (f := fun k => waybilllaw20_TimerDue.f k l tick) ?_
  obtain ⟨q, ids, e, c1, -, c3, c4, c5⟩ := due_ok l tick
  obtain ⟨s, e', o1, -, o3, o4, o5, o6⟩ := order_both l
  simp only [waybilllaw20_TimerDue.f]
  refine Ev.bind alive_ok (Ev.pos rfl (Ev.bind c1 (Ev.bind o1 (Ev.bind (Ev.of (r := e) rfl) ?_))))
  dsimp only
  by_cases c : e = 0
  · subst c
    have G := c3.1 rfl
    have he : e' = 0 := o3.2 G
    subst he
    obtain ⟨rfl, rfl⟩ := c4 rfl
    obtain rfl := o4 rfl
    obtain ⟨d1, d2, d3, d4, d5⟩ := dueP_ok tick l.length l rfl G.heap
    have hG := good_of_perm G ⟨_, d1⟩ d2
    have hlen := G.len
    have hl2 : ((dueP tick l).1 ++ srt (dueP tick l).2).length ≤ 1024 := by rw [← d3, srt_len]; exact hlen
    have h5 : ∀ x ∈ srt (dueP tick l).2, ¬ x.At ≤ tick := fun x hx => d5 x ((srt_perm _).mem_iff.1 hx)
    rw [d3]
    generalize dueP tick l = P at *
    have hsum : (P.1 ++ srt P.2).length = P.1.length + P.2.length := by rw [List.length_append, srt_len]
    refine Ev.pos rfl (Ev.bind (order_prog _ hG) ?_)
    dsimp only
    refine Ev.bind (due_n tick P.1 _ hl2 d4 h5) ?_
    refine Ev.bind (x := false) (Ev.bind (Ev.of (r := 0) rfl) (Ev.bind (Ev.of (r := 0) rfl) (Ev.pos (by decide) (Ev.pos (by simp) (Ev.pos (by omega) (Ev.pos (by omega) ?_)))))) (Ev.neg (by simp) ?_)
    · rw [Int.toNat_natCast, List.drop_left]
      exact Ev.bind (same_ok _ (by rw [srt_len]; omega)) (Ev.of rfl)
    · exact Ev.bind (due_ids P.1 _ hl2) Ev.ret
  · obtain ⟨rfl, rfl, k1⟩ := c5 c
    have : e' = e := o5.uniq k1
    subst this
    exact Ev.neg c (Ev.bind (x := true) (Ev.pos rfl (Ev.pos (by simp) (Ev.of (by simp)))) Ev.ret)
end Go.Proofs.Ytailjeoimlemnaa.M

/- The row of the law TimerDue: whatever the input, the call ends, answers true, and what came in reads as it did. It stands on the walk of the law's code (F4) and on the plain law. -/
namespace Go.Proofs.Ytailjeoimlemnaa.timerDue
open Go Go.ChangeShapes Go.WideShapes Go.ChangeAt Go.RowKit Go.Proofs Go.Proofs.Ytailjeoimlemnaa.Sl Go.Proofs.Ytailjeoimlemnaa.M
set_option linter.unusedVariables false
set_option linter.unusedSimpArgs false
theorem own : ownKnob Try.prog.godebug = none := by kernel_rfl
theorem laidOut : laidOutB Try.prog = true := by kernel_rfl
theorem dec32 {H : Type} {enc : TypeId × Value → H} {W : World} (cs : List Value) (h : Mt enc Try.prog W [.int .i64, .int .i64] cs) : ∃ x : api_Timer, cs = e_api_Timer.enc x := by
  obtain ⟨c0, cs0, rfl, -, h⟩ := h.int
  obtain ⟨c1, cs1, rfl, -, h⟩ := h.int
  obtain rfl := h.nil
  exact ⟨⟨c0, c1⟩, rfl⟩
set_option maxRecDepth 100000 in
theorem lifted (os : Os) (started : os.Started) (H : Type) (enc : TypeId × Value → H) :
    ReturnsInHanded {} Try.checked os 4 .any (Rows.timerDueSpec.pre6 enc Try.prog Try.f4 Rows.timerDueRow.domain false) (Rows.timerDueSpec.post enc Try.prog Try.f4 false true false false) := by
  refine returnsInHanded_of_change_sized (C := Try.checked) own started (by kernel_rfl) Try.func4
    (ChangeSpec.witness6 (enc := enc) (C := Try.checked) false ⟨#[], #[.slice none 0 0, .int .i64 0], []⟩ 8 (by kernel_rfl) (by kernel_rfl) (by kernel_rfl) (by kernel_rfl)) ?_
  intro W base args ds gs before hval0 hW hcnd hsz0 _
  have hsz : (DataW.weightsEach Try.prog (Try.f4.params.toList ++ Rows.timerDueSpec.plain.varTypes Try.prog) (ds ++ gs)).all (· ≤ reachBytes) = true := hsz0
  have hval : ∀ (j : Nat) t v, Try.f4.params[j]? = some t → args[j]? = some v → Value.okWide Try.prog W .any base t v := hval0
  have hW' := hW
  obtain ⟨p, q, hA0, hV, rfl, hfz, hnd⟩ := hW
  have hA : DataW.TrodAll enc Try.prog W 0 (fun _ => true) true Try.f4.params.toList args.toList ds p := hA0
  rw [show Try.f4.params = #[22, 3] by kernel_rfl] at hA hval hsz
  obtain ⟨v0, vs0, d0, ds0, p0, q0, hargs, rfl, rfl, h0, r0⟩ := trodAll_cons hA
  obtain ⟨v1, vs1, d1, ds1, p1, q1, rfl, rfl, rfl, h1, r1⟩ := trodAll_cons r0
  obtain ⟨rfl, rfl, rfl⟩ := trodAll_nil r1
  obtain rfl : args = #[v0, v1] := by cases args; simp_all
  obtain ⟨rfl, rfl⟩ := trodVars_none hV
  have hw0 := own_weights hsz (j := 0) (t := 22) rfl rfl
  obtain ⟨a0, n0, c0, rfl⟩ := okWide_slice (by kernel_rfl : Try.prog.underlying 22 = some (.slice 32)) (hval 0 22 v0 rfl rfl)
  have k0 := h0
  have lt0 : ∀ x ∈ p0, x.block < W.heap.size := by obtain ⟨m, hm⟩ := k0; exact DataW.trod_lt m _ _ _ hm
  obtain ⟨m0, hm0⟩ := h0
  obtain ⟨A0, len0, cap0, l0, hv0, R0, M0, y0⟩ := row_of (e := e_api_Timer) (by kernel_rfl : Try.prog.underlying 22 = some (.slice 32)) (by kernel_rfl : leafKs Try.prog 12 32 = some [.int .i64, .int .i64]) (by kernel_rfl) dec32 hm0 hw0
  obtain ⟨rfl, rfl, rfl⟩ := Value.slice.inj hv0
  rw [show Try.prog.bytesOf 32 = 16 by kernel_rfl] at y0
  obtain ⟨a1, rfl, rfl, rfl, w1⟩ := open_int (by kernel_rfl : Try.prog.underlying 3 = some (.int .i64)) (hval 1 3 v1 rfl rfl) h1
  clear hA0 hval0 hsz0 hsz
  obtain ⟨k, hk⟩ : ∃ k, waybilllaw20_TimerDue.f k l0 a1 = some true := timerDue_ok l0 a1
  refine (waybilllaw20_TimerDue.calls k a0 n0 c0 l0 a1 W (hpOf W) R0 (HS.start W) true hk).mono fun e W' ⟨he, hs⟩ => ?_
  have bel : Below W.heap.size W W' := HS.below (pre := []) hs
  subst he
  exact ⟨_, rfl, _, _, _, [], _, [], hW', trodAll_mk1 (shut_bool (by kernel_rfl : Try.prog.underlying 4 = some .bool) _), (trodAll_cons_mk (Below.trod laidOut (by kernel_rfl) (of_decide_eq_true (by kernel_rfl)) k0 bel lt0) (trodAll_cons_mk (shut_int (by kernel_rfl : Try.prog.underlying 3 = some (.int .i64)) w1) trodAll_mk0)), rfl, bel.frame _, fun h => by cases h⟩
theorem over : Rows.timerDueRow.holds Try.pinned (OpenSpec.ofChange Rows.timerDueSpec) :=
  OpenClaim.holds_of_wide 4 Try.f4 rfl rfl rfl rfl rfl rfl rfl ⟨rfl, rfl, rfl, rfl, rfl⟩ rfl rfl rfl rfl rfl (by kernel_rfl) Try.func4 (by kernel_rfl)
    (of_decide_eq_true (by kernel_rfl)) (by unfold Func.isWrapper; first | (rw [if_pos (by decide +kernel)]; kernel_rfl) | (rw [if_neg (by decide +kernel)]; exact ⟨rfl, rfl⟩))
    (fun os started H enc _ => lifted os started H enc)
theorem proved : Rows.TimerDueSaid := over
#print axioms proved
end Go.Proofs.Ytailjeoimlemnaa.timerDue
namespace Go.Proofs.Ytailjeoimlemnaa
/-- The row, under a short name, for the claim. -/
theorem timerDue_holds : Rows.TimerDueSaid := timerDue.proved
end Go.Proofs.Ytailjeoimlemnaa

