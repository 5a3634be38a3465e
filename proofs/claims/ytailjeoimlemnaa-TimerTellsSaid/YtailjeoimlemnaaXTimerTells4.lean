/- The law TimerTells of the seat Ytailjeoimlemnaa: whatever the input, the call ends, answers true, and what came in reads as it did. This text is part 4 of 4, joined out of the session's texts. -/
import Derived.Test.YtailjeoimlemnaaXTimerTells3
import Derived.Test.YtailjeoimlemnaaRows
import Derived.Test.YtailjeoimlemnaaChecked
import Derived.WalkKit
import Derived.ProofKit
import Derived.OpenShut
import Derived.ShutString
import Derived.ChangeOld
import Derived.Below
import Derived.SizedLaws
/- Timers: what more make of a queue, the first one, those that are due, what is left without some, all in order: by the program and by the page. -/
set_option linter.unusedVariables false
set_option linter.unusedSimpArgs false
namespace Go.Proofs.Ytailjeoimlemnaa.M
open Go Go.Proofs.Ytailjeoimlemnaa.Sl

/-! ### push, put -/
theorem push_l0 (i : Nat) : ∀ (l : List T), i < l.length → l.length ≤ 4194304 → Ev (fun k => timer_heap_push.l0 k i l) (up l i) := by
  induction i using Nat.strongRecOn with
  | _ i ih =>
    intro l hi hl
    refine Ev.succ ?_
    simp only [timer_heap_push.l0]
    by_cases h0 : 0 < i
    · rw [par_ok h0 (by omega)]
      refine Ev.bind (x := decide (lt (g l i) (g l ((i - 1) / 2)))) (Ev.pos (by omega) (Ev.bind (ahead_ok hi (by omega)) Ev.ret)) ?_
      by_cases h1 : lt (g l i) (g l ((i - 1) / 2))
      · rw [up_pos ⟨h0, h1⟩]
        refine Ev.pos (by simpa using h1) (Ev.bind (Ev.of (swap_ok hi (by omega))) ?_)
        exact ih _ (by omega) _ (by rw [sw_len]; omega) (by rw [sw_len]; omega)
      · rw [up_neg (fun h => h1 h.2)]
        exact Ev.neg (by simpa using h1) Ev.ret
    · rw [up_neg (fun h => h0 h.1)]
      exact Ev.bind (x := false) (Ev.neg (by omega) Ev.ret) (Ev.neg (by simp) Ev.ret)
theorem push_ok (l : List T) (t : T) (hl : l.length < 4194304) : Ev (fun k => timer_heap_push.f k l t) (push l t) := by
  simp only [timer_heap_push.f]
  refine Ev.pos (by simp; omega) ?_
  have e : IntKind.i64.wrap (((l ++ ([t] : List T)).length : Int) - 1) = (l.length : Int) := by
    rw [W_pred (by simp; omega) (by simp)]; simp
  rw [e]
  exact Ev.bind (push_l0 _ _ (by simp) (by simp; omega)) Ev.ret
theorem put_l0 (q : List T) (t : T) (i : Nat) : ∀ (l : List T), i < l.length → l.length = q.length + 1 → l.length ≤ 4194304 → Ev (fun k => waybillref20_put.l0 k q t i l) (up l i) := by
  induction i using Nat.strongRecOn with
  | _ i ih =>
    intro l hi hq hl
    refine Ev.succ ?_
    simp only [waybillref20_put.l0]
    have hlen : (q ++ ([t] : List T)).length = l.length := by simp [hq]
    simp only [hlen]
    by_cases h0 : 0 < i
    · rw [par_ok h0 (by omega)]
      refine Ev.bind (x := decide (lt (g l i) (g l ((i - 1) / 2)))) (Ev.pos (by omega) (Ev.pos (by omega) (Ev.pos (by omega) (Ev.pos (by omega) (Ev.pos (by omega) ?_))))) ?_
      · simp only [g_rd, rahead_ok, Option.bind_some]; exact Ev.ret
      by_cases h1 : lt (g l i) (g l ((i - 1) / 2))
      · rw [up_pos ⟨h0, h1⟩]
        refine Ev.pos (by simpa using h1) (Ev.pos (by omega) (Ev.pos (by omega) (Ev.pos (by omega) (Ev.pos (by omega) ?_))))
        exact ih _ (by omega) (sw l i ((i - 1) / 2)) (by rw [sw_len]; omega) (by rw [sw_len]; exact hq) (by rw [sw_len]; omega)
      · rw [up_neg (fun h => h1 h.2)]
        exact Ev.neg (by simpa using h1) Ev.ret
    · rw [up_neg (fun h => h0 h.1)]
      exact Ev.bind (x := false) (Ev.neg (by omega) Ev.ret) (Ev.neg (by simp) Ev.ret)
theorem put_ok (l : List T) (t : T) (hl : l.length < 4194304) : Ev (fun k => waybillref20_put.f k l t) (push l t) := by
  simp only [waybillref20_put.f]
  refine Ev.pos (by simp; omega) ?_
  have e : IntKind.i64.wrap (((l ++ ([t] : List T)).length : Int) - 1) = (l.length : Int) := by
    rw [W_pred (by simp; omega) (by simp)]; simp
  rw [e]
  exact Ev.bind (put_l0 l t _ _ (by simp) (by simp) (by simp; omega)) Ev.ret

/-! ### pop, take -/
theorem kid1 {i : Nat} (h : i < 1073741824) : IntKind.i64.wrap ((IntKind.i64.wrap (2 * (i : Int))) + 1) = ((2 * i + 1 : Nat) : Int) := by
  rw [W_eq (x := 2 * (i : Int)) (by omega) (by omega), W_eq (by omega) (by omega)]; omega
theorem kid2 {i : Nat} (h : i < 1073741824) : IntKind.i64.wrap (((2 * i + 1 : Nat) : Int) + 1) = ((2 * i + 2 : Nat) : Int) := by
  rw [W_eq (by omega) (by omega)]; omega
theorem sink_l0 : ∀ (d n i : Nat) (h l : List T), n - i ≤ d → n = l.length → h.length = n → n ≤ 4194304 → i < 1073741824 → Ev (fun k => timer_heap_sink.l0 k h i l) (down l n i) := by
  intro d
  induction d with
  | zero =>
    intro n i h l hd hn hh hl hi
    refine Ev.succ ?_
    simp only [timer_heap_sink.l0, kid1 hi]
    rw [down_neg (fun h => absurd h.1 (by omega))]
    exact Ev.pos (by omega) Ev.ret
  | succ d ih =>
    intro n i h l hd hn hh hl hi
    refine Ev.succ ?_
    simp only [timer_heap_sink.l0, kid1 hi, kid2 hi]
    by_cases h0 : 2 * i + 1 < n
    · refine Ev.neg (by omega) ?_
      refine Ev.bind (x := decide (2 * i + 2 < n ∧ lt (g l (2 * i + 2)) (g l (2 * i + 1)))) ?_ ?_
      · by_cases h2 : 2 * i + 2 < n
        · refine Ev.pos (by omega) (Ev.bind (ahead_ok (by omega) (by omega)) ?_)
          have : decide (2 * i + 2 < n ∧ lt (g l (2 * i + 2)) (g l (2 * i + 1))) = decide (lt (g l (2 * i + 2)) (g l (2 * i + 1))) := by simp [h2]
          rw [this]; exact Ev.ret
        · refine Ev.neg (by omega) ?_
          have : decide (2 * i + 2 < n ∧ lt (g l (2 * i + 2)) (g l (2 * i + 1))) = false := by simp [h2]
          rw [this]; exact Ev.ret
      have hk := kid_le l n i h0
      refine Ev.bind (x := ((kid l n i : Nat) : Int)) ?_ ?_
      · unfold kid
        by_cases h2 : 2 * i + 2 < n ∧ lt (g l (2 * i + 2)) (g l (2 * i + 1))
        · rw [if_pos h2]; exact Ev.pos (by simpa using h2) Ev.ret
        · rw [if_neg h2]; exact Ev.neg (by simpa using h2) Ev.ret
      refine Ev.bind (ahead_ok (h := l) (i := kid l n i) (j := i) (by omega) (by omega)) ?_
      by_cases h3 : lt (g l (kid l n i)) (g l i)
      · rw [down_pos ⟨h0, h3⟩]
        refine Ev.pos (by simpa using h3) (Ev.bind (Ev.of (swap_ok (h := l) (i := i) (j := kid l n i) (by omega) (by omega))) ?_)
        exact ih n (kid l n i) h _ (by omega) (by rw [sw_len]; exact hn) hh hl (by omega)
      · rw [down_neg (fun h => h3 h.2)]
        exact Ev.neg (by simpa using h3) Ev.ret
    · rw [down_neg (fun h => h0 h.1)]
      exact Ev.pos (by omega) Ev.ret
theorem pop_ok (l : List T) (h0 : 0 < l.length) (hl : l.length ≤ 4194304) : Ev (fun k => timer_heap_pop.f k l) (g l 0, pop l) := by
  simp only [timer_heap_pop.f, W_pred (show l.length < 4611686018427387904 by omega) h0]
  refine Ev.pos (by omega) (Ev.pos (by omega) (Ev.pos (by omega) (Ev.pos (by omega) (Ev.pos (by omega) ?_))))
  refine Ev.bind ?_ Ev.ret
  simp only [timer_heap_sink.f]
  refine sink_l0 _ (l.length - 1) 0 _ _ (Nat.le_refl _) ?_ ?_ (by omega) (by omega) <;> simp <;> omega
theorem down_take : ∀ (d n i : Nat) (l : List T), n - i ≤ d → n ≤ l.length → (down l n i).take n = down (l.take n) n i := by
  intro d
  induction d with
  | zero => intro n i l hd hn; rw [down_neg (fun h => absurd h.1 (by omega)), down_neg (fun h => absurd h.1 (by omega))]
  | succ d ih =>
    intro n i l hd hn
    have ge : ∀ j, j < n → g (l.take n) j = g l j := fun j hj => getD_take _ _ _ _ hj
    rw [down, down.eq_def (l.take n)]
    by_cases h0 : 2 * i + 1 < n
    · have hk := kid_le l n i h0
      have ek : kid (l.take n) n i = kid l n i := by
        unfold kid
        by_cases h2 : 2 * i + 2 < n
        · rw [ge _ h2, ge _ (by omega)]
        · rw [if_neg (fun h => h2 h.1), if_neg (fun h => h2 h.1)]
      rw [ek, ge _ (by omega), ge _ (by omega)]
      by_cases h3 : lt (g l (kid l n i)) (g l i)
      · rw [if_pos ⟨h0, h3⟩, if_pos ⟨h0, h3⟩, ih n _ _ (by omega) (by rw [sw_len]; exact hn)]
        congr 1
        unfold sw
        rw [ge _ (by omega), ge _ (by omega), List.take_set, List.take_set]
      · rw [if_neg (fun h => h3 h.2), if_neg (fun h => h3 h.2)]
    · rw [if_neg (fun h => h0 h.1), if_neg (fun h => h0 h.1)]
theorem take_l0 (q : List T) : ∀ (d n i : Nat) (l : List T), n - i ≤ d → n + 1 = q.length → l.length = q.length → n ≤ 4194304 → i < 1073741824 → Ev (fun k => waybillref20_take.l0 k q i l) ((down l n i).take n) := by
  intro d
  induction d with
  | zero =>
    intro n i l hd hq hlq hl hi
    have e1 : IntKind.i64.wrap ((q.length : Int) - 1) = (n : Int) := by rw [W_pred (by omega) (by omega)]; omega
    refine Ev.succ ?_
    simp only [waybillref20_take.l0, kid1 hi, e1, Int.toNat_natCast]
    rw [down_neg (fun h => absurd h.1 (by omega))]
    exact Ev.pos (by omega) (Ev.pos (by omega) Ev.ret)
  | succ d ih =>
    intro n i l hd hq hlq hl hi
    have e1 : IntKind.i64.wrap ((q.length : Int) - 1) = (n : Int) := by rw [W_pred (by omega) (by omega)]; omega
    refine Ev.succ ?_
    simp only [waybillref20_take.l0, kid1 hi, kid2 hi, e1, Int.toNat_natCast]
    by_cases h0 : 2 * i + 1 < n
    · refine Ev.neg (by omega) ?_
      refine Ev.bind (x := decide (2 * i + 2 < n ∧ lt (g l (2 * i + 2)) (g l (2 * i + 1)))) ?_ ?_
      · by_cases h2 : 2 * i + 2 < n
        · refine Ev.pos (by omega) (Ev.pos (by omega) (Ev.pos (by omega) (Ev.pos (by omega) (Ev.pos (by omega) (Ev.pos (by omega) (Ev.pos (by omega) ?_))))))
          simp only [g_rd, rahead_ok, Option.bind_some]
          have : decide (2 * i + 2 < n ∧ lt (g l (2 * i + 2)) (g l (2 * i + 1))) = decide (lt (g l (2 * i + 2)) (g l (2 * i + 1))) := by simp [h2]
          rw [this]; exact Ev.ret
        · refine Ev.neg (by omega) ?_
          have : decide (2 * i + 2 < n ∧ lt (g l (2 * i + 2)) (g l (2 * i + 1))) = false := by simp [h2]
          rw [this]; exact Ev.ret
      have hk := kid_le l n i h0
      refine Ev.bind (x := ((kid l n i : Nat) : Int)) ?_ ?_
      · unfold kid
        by_cases h2 : 2 * i + 2 < n ∧ lt (g l (2 * i + 2)) (g l (2 * i + 1))
        · rw [if_pos h2]; exact Ev.pos (by simpa using h2) Ev.ret
        · rw [if_neg h2]; exact Ev.neg (by simpa using h2) Ev.ret
      refine Ev.pos (by omega) (Ev.pos (by omega) (Ev.pos (by omega) (Ev.pos (by omega) (Ev.pos (by omega) (Ev.pos (by omega) ?_)))))
      simp only [g_rd, rahead_ok, Option.bind_some]
      by_cases h3 : lt (g l (kid l n i)) (g l i)
      · rw [down_pos ⟨h0, h3⟩]
        refine Ev.pos (by simpa using h3) ?_
        exact ih n (kid l n i) (sw l i (kid l n i)) (by omega) hq (by rw [sw_len]; exact hlq) hl (by omega)
      · rw [down_neg (fun h => h3 h.2)]
        exact Ev.neg (by simpa using h3) (Ev.pos (by omega) Ev.ret)
    · rw [down_neg (fun h => h0 h.1)]
      exact Ev.pos (by omega) (Ev.pos (by omega) Ev.ret)
theorem take_ok (l : List T) (h0 : 0 < l.length) (hl : l.length ≤ 4194304) : Ev (fun k => waybillref20_take.f k l) (pop l) := by
  simp only [waybillref20_take.f, W_pred (show l.length < 4611686018427387904 by omega) h0]
  refine Ev.pos (by omega) (Ev.pos (by omega) (Ev.pos (by omega) (Ev.pos (by omega) ?_)))
  have := take_l0 l _ (l.length - 1) 0 (l.set 0 (g l (l.length - 1))) (Nat.le_refl _) (by omega) (by simp) (by omega) (by omega)
  rw [down_take _ _ _ _ (Nat.le_refl _) (by simp)] at this
  exact this

/-! ### Add -/
theorem add_l1 (more : List T) {i : Nat} (l : List T) (hl : l.length ≤ 1024) : 
    ((∃ j, j < l.length ∧ (g l j).ID = (g more i).ID) → ∃ j : Nat, Ev (fun k => timer_Add.l1 k more i l 0) (Sum.inl (j : Int))) ∧
    ((¬ ∃ j, j < l.length ∧ (g l j).ID = (g more i).ID) → Ev (fun k => timer_Add.l1 k more i l 0) (Sum.inr ())) := by
  have step : ∀ j : Nat, j < l.length → ¬ (g l j).ID = (g more i).ID → ∀ r, Ev (fun k => timer_Add.l1 k more i l ((j + 1 : Nat) : Int)) r → Ev (fun k => timer_Add.l1 k more i l (j : Int)) r := fun j hj hp r hr => by
    refine Ev.succ ?_
    simp only [timer_Add.l1]
    refine Ev.pos (by omega) (Ev.pos (by omega) ?_)
    simp only [g_rd]
    refine Ev.neg hp ?_
    rw [W_succ (by omega)]; exact hr
  constructor
  · intro h
    obtain ⟨j, hj, hp, hf⟩ := first h
    refine ⟨j, ?_⟩
    have := scan (n := l.length) step j 0 (by omega) (fun q _ hq => hf q (by omega)) (Sum.inl (j : Int)) (by
      rw [Nat.zero_add]
      refine Ev.succ ?_
      simp only [timer_Add.l1]
      refine Ev.pos (by omega) (Ev.pos (by omega) ?_)
      simp only [g_rd]
      exact Ev.pos hp Ev.ret)
    exact this
  · intro h
    refine scan_all (n := l.length) step (fun j hj hp => h ⟨j, hj, hp⟩) ?_
    refine Ev.succ ?_
    simp only [timer_Add.l1]
    exact Ev.neg (by omega) Ev.ret
theorem radd_l1 (more : List T) {i : Nat} (l : List T) (hl : l.length ≤ 1024) (hi : i < more.length) :
    ((∃ j, j < l.length ∧ (g l j).ID = (g more i).ID) → Ev (fun k => waybillref20_Add.l1 k more i l 0) (Sum.inl ([], 6))) ∧
    ((¬ ∃ j, j < l.length ∧ (g l j).ID = (g more i).ID) → Ev (fun k => waybillref20_Add.l1 k more i l 0) (Sum.inr ())) := by
  have step : ∀ j : Nat, j < l.length → ¬ (g l j).ID = (g more i).ID → ∀ r, Ev (fun k => waybillref20_Add.l1 k more i l ((j + 1 : Nat) : Int)) r → Ev (fun k => waybillref20_Add.l1 k more i l (j : Int)) r := fun j hj hp r hr => by
    refine Ev.succ ?_
    simp only [waybillref20_Add.l1]
    refine Ev.pos (by omega) (Ev.pos (by omega) (Ev.pos (by omega) (Ev.pos (by omega) ?_)))
    simp only [g_rd]
    refine Ev.neg hp ?_
    rw [W_succ (by omega)]; exact hr
  constructor
  · intro h
    refine scan_hit (n := l.length) step h (fun j hj hp _ => ?_)
    refine Ev.succ ?_
    simp only [waybillref20_Add.l1]
    refine Ev.pos (by omega) (Ev.pos (by omega) (Ev.pos (by omega) (Ev.pos (by omega) ?_)))
    simp only [g_rd]
    exact Ev.pos hp Ev.ret
  · intro h
    refine scan_all (n := l.length) step (fun j hj hp => h ⟨j, hj, hp⟩) ?_
    refine Ev.succ ?_
    simp only [waybillref20_Add.l1]
    exact Ev.neg (by omega) Ev.ret
theorem add_l0 (more : List T) (hm : more.length < 4611686018427387904) : ∀ (d i : Nat) (l : List T), i + d = more.length → l.length ≤ 1024 →
    ∃ q e, Ev (fun k => timer_Add.l0 k more i l) (q, e) ∧ Ev (fun k => waybillref20_Add.l0 k more i l) (q, e) ∧ q.length ≤ 1024
  | 0, i, l, h1, h2 => by
    refine ⟨l, 0, ?_, ?_, h2⟩
    · refine Ev.succ ?_
      simp only [timer_Add.l0]
      exact Ev.neg (by omega) Ev.ret
    · refine Ev.succ ?_
      simp only [waybillref20_Add.l0]
      exact Ev.neg (by omega) Ev.ret
  | d + 1, i, l, h1, h2 => by
    by_cases c1 : l.length = 1024
    · refine ⟨[], 3, ?_, ?_, by simp⟩
      · refine Ev.succ ?_
        simp only [timer_Add.l0]
        exact Ev.pos (by omega) (Ev.pos (by omega) (Ev.pos (by omega) Ev.ret))
      · refine Ev.succ ?_
        simp only [waybillref20_Add.l0]
        exact Ev.pos (by omega) (Ev.bind (Ev.pos (by omega) Ev.ret) Ev.ret)
    · by_cases c2 : may (g more i)
      · by_cases c3 : ∃ j, j < l.length ∧ (g l j).ID = (g more i).ID
        · obtain ⟨j, hj⟩ := (add_l1 more l h2).1 c3
          refine ⟨[], 6, ?_, ?_, by simp⟩
          · refine Ev.succ ?_
            simp only [timer_Add.l0]
            refine Ev.pos (by omega) (Ev.pos (by omega) (Ev.neg (by omega) ?_))
            simp only [g_rd, odd_ok, Option.bind_some]
            refine Ev.bind (x := Sum.inl ([], 6)) (Ev.neg (by simpa using c2) (Ev.bind hj (Ev.pos (by omega) Ev.ret))) Ev.ret
          · refine Ev.succ ?_
            simp only [waybillref20_Add.l0]
            refine Ev.pos (by omega) (Ev.bind (x := Sum.inl ([], 6)) (Ev.neg (by omega) (Ev.pos (by omega) ?_)) Ev.ret)
            simp only [g_rd, may_ok, Option.bind_some]
            exact Ev.pos (by simpa using c2) (Ev.bind ((radd_l1 more l h2 (by omega)).1 c3) Ev.ret)
        · obtain ⟨q, e, hq1, hq2, hq3⟩ := add_l0 more hm d (i + 1) (push l (g more i)) (by omega) (by rw [push_len]; omega)
          refine ⟨q, e, ?_, ?_, hq3⟩
          · refine Ev.succ ?_
            simp only [timer_Add.l0]
            refine Ev.pos (by omega) (Ev.pos (by omega) (Ev.neg (by omega) ?_))
            simp only [g_rd, odd_ok, Option.bind_some]
            refine Ev.bind (x := Sum.inr ()) (Ev.neg (by simpa using c2) (Ev.bind ((add_l1 more l h2).2 c3) Ev.ret)) ?_
            refine Ev.bind (push_ok l _ (by omega)) ?_
            rw [W_succ (by omega)]; exact hq1
          · refine Ev.succ ?_
            simp only [waybillref20_Add.l0]
            refine Ev.pos (by omega) (Ev.bind (x := Sum.inr (push l (g more i))) (Ev.neg (by omega) (Ev.pos (by omega) ?_)) ?_)
            · simp only [g_rd, may_ok, Option.bind_some]
              exact Ev.pos (by simpa using c2) (Ev.bind ((radd_l1 more l h2 (by omega)).2 c3) (Ev.bind (put_ok l _ (by omega)) Ev.ret))
            · rw [W_succ (by omega)]; exact hq2
      · refine ⟨[], 4, ?_, ?_, by simp⟩
        · refine Ev.succ ?_
          simp only [timer_Add.l0]
          refine Ev.pos (by omega) (Ev.pos (by omega) (Ev.neg (by omega) ?_))
          simp only [g_rd, odd_ok, Option.bind_some]
          exact Ev.bind (x := Sum.inl ([], 4)) (Ev.pos (by simpa using c2) Ev.ret) Ev.ret
        · refine Ev.succ ?_
          simp only [waybillref20_Add.l0]
          refine Ev.pos (by omega) (Ev.bind (x := Sum.inl ([], 4)) (Ev.neg (by omega) (Ev.pos (by omega) ?_)) Ev.ret)
          simp only [g_rd, may_ok, Option.bind_some]
          exact Ev.neg (by simpa using c2) Ev.ret
theorem clone_ok (l : List T) (hl : l.length ≤ 1024) : slices_Clone_api_Timer_api_Timer.f l = some l := by
  unfold slices_Clone_api_Timer_api_Timer.f; rw [if_pos (by omega)]
theorem own_ok (l : List T) (hl : l.length < 8796093022208) : waybillref20_Own.f l = some l := by
  unfold waybillref20_Own.f; rw [if_pos (by simpa using hl)]; rfl
theorem add_ok (l more : List T) (hm : more.length < 4611686018427387904) : ∃ q e, Ev (fun k => timer_Add.f k l more) (q, e) ∧ Ev (fun k => waybillref20_Add.f k l more) (q, e) ∧ q.length ≤ 1024 := by
  obtain ⟨e, h1, h2, h3⟩ := check_ok l
  by_cases c : e = 0
  · have G := h3.1 c
    obtain ⟨q, e', hq1, hq2, hq3⟩ := add_l0 more hm more.length 0 l (by omega) G.len
    refine ⟨q, e', ?_, ?_, hq3⟩
    · simp only [timer_Add.f]
      exact Ev.bind h1 (Ev.pos c (Ev.bind (Ev.of (clone_ok l G.len)) hq1))
    · simp only [waybillref20_Add.f]
      exact Ev.bind h2 (Ev.pos c (Ev.bind (Ev.of (own_ok l (by have := G.len; omega))) hq2))
  · refine ⟨[], e, ?_, ?_, by simp⟩
    · simp only [timer_Add.f]; exact Ev.bind h1 (Ev.neg c Ev.ret)
    · simp only [waybillref20_Add.f]; exact Ev.bind h2 (Ev.neg c Ev.ret)
theorem first_ok (l : List T) : ∃ x e, Ev (fun k => timer_First.f k l) (x, e) ∧ Ev (fun k => waybillref20_First.f k l) (x, e) := by
  obtain ⟨e, h1, h2, h3⟩ := check_ok l
  simp only [timer_First.f, waybillref20_First.f]
  by_cases c : e = 0
  · by_cases c2 : (l.length : Int) = 0
    · exact ⟨_, _, Ev.bind h1 (Ev.pos c (Ev.pos c2 Ev.ret)), Ev.bind h2 (Ev.pos c (Ev.pos c2 Ev.ret))⟩
    · exact ⟨_, _, Ev.bind h1 (Ev.pos c (Ev.neg c2 (Ev.pos (by omega) Ev.ret))), Ev.bind h2 (Ev.pos c (Ev.neg c2 (Ev.pos (by omega) Ev.ret)))⟩
  · exact ⟨_, _, Ev.bind h1 (Ev.neg c Ev.ret), Ev.bind h2 (Ev.neg c Ev.ret)⟩

/-! ### Due -/
/-- what is popped, what is left -/
def dueP (tick : Int) (l : List T) : List T × List T := if 0 < l.length ∧ (g l 0).At ≤ tick then (g l 0 :: (dueP tick (pop l)).1, (dueP tick (pop l)).2) else ([], l)
termination_by l.length
decreasing_by all_goals (rw [pop_len]; omega)
theorem due_l0 (tick : Int) : ∀ (n : Nat) (l : List T) (ids : List Int), l.length = n → n ≤ 1024 → ids.length + n ≤ 1024 →
    Ev (fun k => timer_Due.l0 k tick ids l) (ids ++ (dueP tick l).1.map (·.ID), (dueP tick l).2) ∧ Ev (fun k => waybillref20_Due.l0 k tick ids l) (ids ++ (dueP tick l).1.map (·.ID), (dueP tick l).2) := by
  intro n
  induction n with
  | zero =>
    intro l ids h1 h2 h3
    rw [dueP, if_neg (by omega)]
    constructor
    · refine Ev.succ ?_
      simp only [timer_Due.l0]
      refine Ev.bind (x := false) (Ev.neg (by omega) Ev.ret) (Ev.neg (by simp) ?_)
      simpa using Ev.ret
    · refine Ev.succ ?_
      simp only [waybillref20_Due.l0]
      refine Ev.bind (x := false) (Ev.neg (by omega) Ev.ret) (Ev.neg (by simp) ?_)
      simpa using Ev.ret
  | succ n ih =>
    intro l ids h1 h2 h3
    rw [dueP]
    by_cases c : (g l 0).At ≤ tick
    · rw [if_pos ⟨by omega, c⟩]
      obtain ⟨i1, i2⟩ := ih (pop l) (ids ++ [(g l 0).ID]) (by rw [pop_len]; omega) (by omega) (by simp; omega)
      simp only [List.map_cons]
      rw [show ids ++ (g l 0).ID :: (dueP tick (pop l)).1.map (·.ID) = ids ++ [(g l 0).ID] ++ (dueP tick (pop l)).1.map (·.ID) by simp]
      constructor
      · refine Ev.succ ?_
        simp only [timer_Due.l0]
        refine Ev.bind (x := true) (Ev.pos (by omega) (Ev.of (by rw [show rd e_api_Timer l 0 = g l 0 from rfl]; simp [c]))) (Ev.pos rfl ?_)
        exact Ev.bind (pop_ok l (by omega) (by omega)) (Ev.pos (by simp; omega) i1)
      · refine Ev.succ ?_
        simp only [waybillref20_Due.l0]
        refine Ev.bind (x := true) (Ev.pos (by omega) (Ev.of (by rw [show rd e_api_Timer l 0 = g l 0 from rfl]; simp [c]))) (Ev.pos rfl (Ev.pos (by omega) ?_))
        exact Ev.pos (by simp; omega) (Ev.bind (take_ok l (by omega) (by omega)) i2)
    · rw [if_neg (fun h => c h.2)]
      constructor
      · refine Ev.succ ?_
        simp only [timer_Due.l0]
        refine Ev.bind (x := false) (Ev.pos (by omega) (Ev.of (by rw [show rd e_api_Timer l 0 = g l 0 from rfl]; simp [c]))) (Ev.neg (by simp) ?_)
        simpa using Ev.ret
      · refine Ev.succ ?_
        simp only [waybillref20_Due.l0]
        refine Ev.bind (x := false) (Ev.pos (by omega) (Ev.of (by rw [show rd e_api_Timer l 0 = g l 0 from rfl]; simp [c]))) (Ev.neg (by simp) ?_)
        simpa using Ev.ret
theorem due_ok (l : List T) (tick : Int) : ∃ q ids e, Ev (fun k => timer_Due.f k l tick) (q, ids, e) ∧ Ev (fun k => waybillref20_Due.f k l tick) (q, ids, e) ∧ (e = 0 ↔ Good l) ∧ (e = 0 → q = (dueP tick l).2 ∧ ids = (dueP tick l).1.map (·.ID)) ∧ (e ≠ 0 → q = [] ∧ ids = [] ∧ Ev (fun k => timer_Check.f k l) e) := by
  obtain ⟨e, h1, h2, h3⟩ := check_ok l
  by_cases c : e = 0
  · have G := h3.1 c
    obtain ⟨d1, d2⟩ := due_l0 tick l.length l [] rfl G.len (by simpa using G.len)
    refine ⟨(dueP tick l).2, (dueP tick l).1.map (·.ID), 0, ?_, ?_, ⟨fun _ => G, fun _ => rfl⟩, fun _ => ⟨rfl, rfl⟩, fun h => absurd rfl h⟩
    · simp only [timer_Due.f]
      exact Ev.bind h1 (Ev.pos c (Ev.bind (Ev.of (clone_ok l G.len)) (Ev.bind d1 Ev.ret)))
    · simp only [waybillref20_Due.f]
      exact Ev.bind h2 (Ev.pos c (Ev.bind (Ev.of (own_ok l (by have := G.len; omega))) (Ev.bind d2 Ev.ret)))
  · refine ⟨[], [], e, ?_, ?_, h3, fun h => absurd h c, fun _ => ⟨rfl, rfl, h1⟩⟩
    · simp only [timer_Due.f]; exact Ev.bind h1 (Ev.neg c Ev.ret)
    · simp only [waybillref20_Due.f]; exact Ev.bind h2 (Ev.neg c Ev.ret)

/-! ### Cancel -/
theorem index_ok (ids : List Int) (v : Int) (hl : ids.length < 4611686018427387904) : Ev (fun k => slices_Contains_int_int.f k ids v) (decide (v ∈ ids)) := by
  have step : ∀ j : Nat, j < ids.length → ¬ v = ids.getD j 0 → ∀ r, Ev (fun k => slices_Index_int_int.l0 k ids v ((j + 1 : Nat) : Int)) r → Ev (fun k => slices_Index_int_int.l0 k ids v (j : Int)) r := fun j hj hp r hr => by
    refine Ev.succ ?_
    simp only [slices_Index_int_int.l0]
    refine Ev.pos (by omega) (Ev.pos (by omega) ?_)
    refine Ev.neg hp ?_
    rw [W_succ (by omega)]; exact hr
  simp only [slices_Contains_int_int.f, slices_Index_int_int.f]
  by_cases h : v ∈ ids
  · obtain ⟨i, hi, e⟩ := mem_getD 0 h
    obtain ⟨j, hj, hp, hf⟩ := first (p := fun j => v = ids.getD j 0) ⟨i, hi, e.symm⟩
    have := scan (n := ids.length) step j 0 (by omega) (fun q _ hq => hf q (by omega)) (j : Int) (by
      rw [Nat.zero_add]
      refine Ev.succ ?_
      simp only [slices_Index_int_int.l0]
      exact Ev.pos (by omega) (Ev.pos (by omega) (Ev.pos hp Ev.ret)))
    refine Ev.bind this ?_
    have e : decide (v ∈ ids) = decide ((0 : Int) ≤ (j : Int)) := by simp [h]
    rw [e]; exact Ev.ret
  · refine Ev.bind (x := -1) (scan_all (n := ids.length) step (fun j hj hp => h (by rw [hp]; exact getD_mem _ _ _ hj)) ?_) ?_
    · refine Ev.succ ?_
      simp only [slices_Index_int_int.l0]
      exact Ev.neg (by omega) Ev.ret
    · have e : decide (v ∈ ids) = decide ((0 : Int) ≤ -1) := by simp [h]
      rw [e]; exact Ev.ret
theorem offs_ok (l : List T) (ids : List Int) {i : Nat} (hi : i < l.length) (hl : ids.length < 4611686018427387904) : ∀ (d j : Nat) (b : Bool), j + d = ids.length → b = decide ((g l i).ID ∈ ids.take j) → Ev (fun k => waybillref20_Cancel.l1 k l ids i b j) (decide ((g l i).ID ∈ ids))
  | 0, j, b, h1, h2 => by
    refine Ev.succ ?_
    simp only [waybillref20_Cancel.l1]
    rw [List.take_of_length_le (by omega)] at h2
    rw [← h2]
    exact Ev.neg (by omega) Ev.ret
  | d + 1, j, b, h1, h2 => by
    refine Ev.succ ?_
    simp only [waybillref20_Cancel.l1]
    refine Ev.pos (by omega) (Ev.bind (x := decide ((g l i).ID ∈ ids.take (j + 1))) ?_ ?_)
    · have ht : ids.take (j + 1) = ids.take j ++ [ids.getD j 0] := by
        rw [List.take_add_one, List.getElem?_eq_getElem (by omega : j < ids.length), getD_get _ _ _ (by omega)]; rfl
      cases b with
      | true =>
        have : (g l i).ID ∈ ids.take j := by simpa using h2
        refine Ev.pos rfl ?_
        rw [ht]
        have e : decide ((g l i).ID ∈ ids.take j ++ [ids.getD j 0]) = true := by simp [this]
        rw [e]; exact Ev.ret
      | false =>
        have : ¬ (g l i).ID ∈ ids.take j := by simpa using h2
        refine Ev.neg (by simp) (Ev.pos (by omega) (Ev.pos (by omega) (Ev.pos (by omega) ?_)))
        rw [ht, g_rd, rd_def]
        have e : decide ((g l i).ID ∈ ids.take j ++ [ids.getD j 0]) = decide (ids.getD j 0 = (g l i).ID) := by
          rw [decide_eq_decide, List.mem_append, List.mem_singleton]
          exact ⟨fun h => (h.resolve_left this).symm, fun h => .inr h.symm⟩
        rw [e]; exact Ev.ret
    · rw [W_succ (by omega)]
      exact offs_ok l ids hi hl d (j + 1) _ (by omega) rfl
def left (ids : List Int) (l : List T) : List T := l.filter fun t => decide (t.ID ∉ ids)
def pushes (h l : List T) : List T := l.foldl push h
theorem pushes_len : ∀ (l h : List T), (pushes h l).length = h.length + l.length := by
  intro l
  induction l with
  | nil => intro h; rfl
  | cons x l ih => intro h; show (pushes (push h x) l).length = _; rw [ih, push_len]; simp; omega
theorem pushes_perm : ∀ (l h : List T), (pushes h l).Perm (h ++ l) := by
  intro l
  induction l with
  | nil => intro h; simp [pushes]
  | cons x l ih =>
    intro h
    refine (ih (push h x)).trans ?_
    refine ((push_perm h x).append_right l).trans ?_
    simp
theorem pushes_heap : ∀ (l h : List T), Hp' h → Hp' (pushes h l) := by
  intro l
  induction l with
  | nil => intro h hh; exact hh
  | cons x l ih => intro h hh; exact ih _ (push_heap hh x)
theorem drop_g (l : List T) {i : Nat} (hi : i < l.length) : l.drop i = g l i :: l.drop (i + 1) := by
  rw [List.drop_eq_getElem_cons hi, g, getD_get _ _ _ hi]
theorem cancel_l0 (l : List T) (ids : List Int) (hl : l.length ≤ 1024) (hi : ids.length < 4611686018427387904) : ∀ (d i n : Nat) (h : List T), i + d = l.length → h.length ≤ i → n ≤ i → 
    Ev (fun k => timer_Cancel.l0 k l ids i h) (pushes h (left ids (l.drop i))) ∧ Ev (fun k => waybillref20_Cancel.l0 k l ids n i h) (((n + (d - (left ids (l.drop i)).length) : Nat) : Int), pushes h (left ids (l.drop i)))
  | 0, i, n, h, h1, h2, hn => by
    rw [List.drop_of_length_le (by omega)]
    constructor
    · refine Ev.succ ?_
      simp only [timer_Cancel.l0]
      exact Ev.neg (by omega) Ev.ret
    · refine Ev.succ ?_
      simp only [waybillref20_Cancel.l0]
      exact Ev.neg (by omega) Ev.ret
  | d + 1, i, n, h, h1, h2, hn => by
    have hlt : i < l.length := by omega
    rw [drop_g l hlt]
    have hle : (left ids (l.drop (i + 1))).length ≤ d := by
      unfold left
      refine Nat.le_trans (List.length_filter_le _ _) ?_
      rw [List.length_drop]; omega
    by_cases c : (g l i).ID ∈ ids
    · have e : left ids (g l i :: l.drop (i + 1)) = left ids (l.drop (i + 1)) := by simp [left, c]
      rw [e]
      obtain ⟨a1, a2⟩ := cancel_l0 l ids hl hi d (i + 1) (n + 1) h (by omega) (by omega) (by omega)
      constructor
      · refine Ev.succ ?_
        simp only [timer_Cancel.l0]
        refine Ev.pos (by omega) (Ev.pos (by omega) (Ev.bind (index_ok ids _ hi) (Ev.bind (x := h) (Ev.dpos c Ev.ret) ?_)))
        rw [W_succ (by omega)]; exact a1
      · refine Ev.succ ?_
        simp only [waybillref20_Cancel.l0]
        refine Ev.pos (by omega) (Ev.bind (x := (((n + 1 : Nat) : Int), h)) (Ev.bind (offs_ok l ids hlt hi _ 0 false (Nat.zero_add _) (by simp)) (Ev.bind (x := (((n + 1 : Nat) : Int), h)) (Ev.dpos c ?_) Ev.ret)) ?_)
        · rw [W_succ (by omega)]; exact Ev.ret
        · rw [W_succ (i := i) (by omega)]
          rw [show n + (d + 1 - (left ids (l.drop (i + 1))).length) = n + 1 + (d - (left ids (l.drop (i + 1))).length) by omega]
          exact a2
    · have e : left ids (g l i :: l.drop (i + 1)) = g l i :: left ids (l.drop (i + 1)) := by simp [left, c]
      rw [e]
      obtain ⟨a1, a2⟩ := cancel_l0 l ids hl hi d (i + 1) n (push h (g l i)) (by omega) (by rw [push_len]; omega) (by omega)
      constructor
      · refine Ev.succ ?_
        simp only [timer_Cancel.l0]
        refine Ev.pos (by omega) (Ev.pos (by omega) (Ev.bind (index_ok ids _ hi) (Ev.bind (x := push h (g l i)) (Ev.dneg c (Ev.bind (push_ok h _ (by omega)) Ev.ret)) ?_)))
        rw [W_succ (by omega)]; exact a1
      · refine Ev.succ ?_
        simp only [waybillref20_Cancel.l0]
        refine Ev.pos (by omega) (Ev.bind (x := ((n : Int), push h (g l i))) (Ev.bind (offs_ok l ids hlt hi _ 0 false (Nat.zero_add _) (by simp)) (Ev.bind (x := ((n : Int), push h (g l i))) (Ev.dneg c (Ev.pos (by omega) (Ev.bind (put_ok h _ (by omega)) Ev.ret))) Ev.ret)) ?_)
        rw [W_succ (i := i) (by omega)]
        rw [show n + (d + 1 - (g l i :: left ids (l.drop (i + 1))).length) = n + (d - (left ids (l.drop (i + 1))).length) by rw [List.length_cons]; omega]
        exact a2
theorem cancel_ok (l : List T) (ids : List Int) (hi : ids.length < 4611686018427387904) : ∃ q n e, Ev (fun k => timer_Cancel.f k l ids) (q, n, e) ∧ Ev (fun k => waybillref20_Cancel.f k l ids) (q, n, e) ∧ (e = 0 ↔ Good l) ∧
    (e = 0 → q = pushes [] (left ids l) ∧ n = ((l.length - (left ids l).length : Nat) : Int)) ∧ (e ≠ 0 → q = [] ∧ n = 0 ∧ Ev (fun k => timer_Check.f k l) e) := by
  obtain ⟨e, h1, h2, h3⟩ := check_ok l
  by_cases c : e = 0
  · have G := h3.1 c
    have hl := G.len
    obtain ⟨a1, a2⟩ := cancel_l0 l ids G.len hi l.length 0 0 [] (by omega) (by simp) (by omega)
    rw [List.drop_zero, Nat.zero_add] at *
    have hle : (left ids l).length ≤ l.length := List.length_filter_le _ _
    refine ⟨_, _, 0, ?_, ?_, ⟨fun _ => G, fun _ => rfl⟩, fun _ => ⟨rfl, rfl⟩, fun h => absurd rfl h⟩
    · simp only [timer_Cancel.f]
      refine Ev.bind h1 (Ev.pos c (Ev.bind a1 ?_))
      rw [pushes_len, W_eq (by simp; omega) (by simp; omega)]
      rw [show (l.length : Int) - ((([] : List T).length + (left ids l).length : Nat) : Int) = ((l.length - (left ids l).length : Nat) : Int) by simp; omega]
      exact Ev.ret
    · simp only [waybillref20_Cancel.f]
      exact Ev.bind h2 (Ev.pos c (Ev.bind a2 Ev.ret))
  · refine ⟨[], 0, e, ?_, ?_, h3, fun h => absurd h c, fun _ => ⟨rfl, rfl, h1⟩⟩
    · simp only [timer_Cancel.f]; exact Ev.bind h1 (Ev.neg c Ev.ret)
    · simp only [waybillref20_Cancel.f]; exact Ev.bind h2 (Ev.neg c Ev.ret)
end Go.Proofs.Ytailjeoimlemnaa.M

/- Timers: all in order; a queue that is emptied in order; the page's example. -/
set_option linter.unusedVariables false
set_option linter.unusedSimpArgs false
namespace Go.Proofs.Ytailjeoimlemnaa.M
open Go Go.Proofs.Ytailjeoimlemnaa.Sl

def srt (l : List T) : List T := l.mergeSort fun x y => !(ltOf slices_SortFunc_api_Timer_api_Timer.cf) y x
theorem le_iff (a b : T) : (!(ltOf slices_SortFunc_api_Timer_api_Timer.cf) b a) = true ↔ ¬ lt b a := by
  rw [Bool.not_eq_true', slices_SortFunc_api_Timer_api_Timer.lt_iff']; rfl
theorem srt_perm (l : List T) : (srt l).Perm l := List.mergeSort_perm _ _
theorem srt_sorted (l : List T) : (srt l).Pairwise fun a b => ¬ lt b a := by
  have := List.pairwise_mergeSort (le := fun x y => !(ltOf slices_SortFunc_api_Timer_api_Timer.cf) y x) (fun a b c h1 h2 => by
    rw [le_iff] at *; exact le_trans h1 h2) (fun a b => by
    rw [Bool.or_eq_true, le_iff, le_iff]
    by_cases h : lt b a
    · exact .inr (lt_le h)
    · exact .inl h) l
  exact this.imp fun h => (le_iff _ _).1 h
theorem srt_uniq {l m : List T} (h : m.Perm l) (hs : m.Pairwise fun a b => ¬ lt b a) : m = srt l :=
  List.Perm.eq_of_pairwise (fun a b _ _ h1 h2 => le_antisymm h2 h1) hs (srt_sorted l) (h.trans (srt_perm l).symm)
theorem srt_congr {l m : List T} (h : m.Perm l) : srt m = srt l := srt_uniq ((srt_perm m).trans h) (srt_sorted m)
theorem srt_len (l : List T) : (srt l).length = l.length := (srt_perm l).length_eq

theorem copy_l0 (l : List T) (hl : l.length ≤ 1024) : ∀ (d i : Nat) (q : List T), i + d = l.length → q = l.take i → Ev (fun k => timer_Order.l0 k l i q) l
  | 0, i, q, h1, h2 => by
    refine Ev.succ ?_
    simp only [timer_Order.l0]
    rw [h2, List.take_of_length_le (by omega)]
    exact Ev.neg (by omega) Ev.ret
  | d + 1, i, q, h1, h2 => by
    refine Ev.succ ?_
    simp only [timer_Order.l0]
    have hlen : q.length = i := by rw [h2, List.length_take]; omega
    refine Ev.pos (by omega) (Ev.pos (by omega) (Ev.pos (by simp; omega) ?_))
    rw [W_succ (by omega), g_rd]
    refine copy_l0 l hl d (i + 1) _ (by omega) ?_
    rw [h2, List.take_add_one, List.getElem?_eq_getElem (by omega : i < l.length), g, getD_get _ _ _ (by omega)]; rfl
theorem order_prog (l : List T) (G : Good l) : Ev (fun k => timer_Order.f k l) (srt l, 0) := by
  obtain ⟨e, h1, h2, h3⟩ := check_ok l
  have := G.len
  simp only [timer_Order.f]
  refine Ev.bind h1 (Ev.pos (h3.2 G) (Ev.bind (copy_l0 l G.len _ 0 [] (Nat.zero_add _) (by simp)) (Ev.bind (Ev.of (r := srt l) ?_) Ev.ret)))
  unfold slices_SortFunc_api_Timer_api_Timer.f
  rw [if_pos (by omega)]; rfl

/-! ### the page's: by insertion -/
theorem ins_l1 (l : List T) {i : Nat} (hi : i < l.length) (q : List T) (hq : q.length ≤ 1024) (hs : q.Pairwise fun a b => ¬ lt b a) : ∀ (at_ : Nat) (z : List T), at_ ≤ q.length → z.length = q.length + 1 → z.take at_ = q.take at_ → z.drop (at_ + 1) = q.drop at_ →
    (∀ x ∈ q.drop at_, lt (g l i) x) → ∃ (a : Nat) (y : List T), Ev (fun k => waybillref20_Order.l1 k l i q at_ z) ((a : Int), y) ∧ a < y.length ∧ y.length = q.length + 1 ∧ y.set a (g l i) = q.take a ++ g l i :: q.drop a ∧ (∀ x ∈ q.take a, ¬ lt (g l i) x) ∧ (∀ x ∈ q.drop a, lt (g l i) x)
  | 0, z, h1, h2, h3, h4, h5 => by
    refine ⟨0, z, ?_, by omega, h2, ?_, by simp, h5⟩
    · refine Ev.succ ?_
      simp only [waybillref20_Order.l1]
      exact Ev.bind (x := false) (Ev.neg (by omega) Ev.ret) (Ev.neg (by simp) Ev.ret)
    · cases z with
      | nil => simp at h2
      | cons a z => simp at h4; simp [h4]
  | at_ + 1, z, h1, h2, h3, h4, h5 => by
    have hzq : (q ++ ([g l i] : List T)).length = q.length + 1 := by simp
    have hg : g z at_ = g q at_ := by
      have e1 := congrArg (fun w => w.getD at_ api_Timer.zero) h3
      simp only [getD_take _ _ _ _ (Nat.lt_succ_self at_)] at e1
      exact e1
    by_cases c : lt (g l i) (g q at_)
    · obtain ⟨a, y, r1, r2, r3, r4, r5, r6⟩ := ins_l1 l hi q hq hs at_ (z.set (at_ + 1) (g z at_)) (by omega) (by simp [h2]) (by
        rw [List.take_set, List.set_eq_of_length_le (by simp; omega)]
        have := congrArg (List.take at_) h3
        rwa [List.take_take, List.take_take, Nat.min_eq_left (by omega)] at this) (by
        rw [List.drop_set, if_neg (by omega)]
        rw [drop_g z (i := at_ + 1) (by omega), h4, Nat.sub_self, List.set_cons_zero, hg, ← drop_g q (by omega)]) (fun x hx => by
        rw [drop_g q (by omega)] at hx
        rcases List.mem_cons.1 hx with rfl | hx
        · exact c
        · exact h5 x hx)
      refine ⟨a, y, ?_, r2, r3, r4, r5, r6⟩
      refine Ev.succ ?_
      simp only [waybillref20_Order.l1, W_pred (show at_ + 1 < 4611686018427387904 by omega) (Nat.succ_pos _), g_rd, hzq]
      refine Ev.bind (x := true) (Ev.pos (by omega) (Ev.pos (by omega) (Ev.pos (by omega) (Ev.pos (by omega) (Ev.pos (by omega) ?_))))) (Ev.pos rfl (Ev.pos (by omega) (Ev.pos (by omega) (Ev.pos (by omega) (Ev.pos (by omega) ?_)))))
      · rw [rahead_ok, show at_ + 1 - 1 = at_ by omega, hg]; simp only [Option.bind_some]; exact Ev.of (by simp [c])
      · simpa using r1
    · have hle : ∀ x ∈ q.take (at_ + 1), ¬ lt (g l i) x := by
        intro x hx
        rw [List.take_add_one, List.getElem?_eq_getElem (by omega : at_ < q.length)] at hx
        rcases List.mem_append.1 hx with hx | hx
        · have hp : ¬ lt (g q at_) x := by
            rw [← List.take_append_drop at_ q, drop_g q (by omega)] at hs
            exact (List.pairwise_append.1 hs).2.2 x hx _ List.mem_cons_self
          exact le_trans hp c
        · simp at hx; subst hx
          have e : g q at_ = q[at_] := getD_get _ _ _ (by omega)
          rw [e] at c; exact c
      refine ⟨at_ + 1, z, ?_, by omega, h2, ?_, hle, h5⟩
      · refine Ev.succ ?_
        simp only [waybillref20_Order.l1, W_pred (show at_ + 1 < 4611686018427387904 by omega) (Nat.succ_pos _), g_rd, hzq]
        refine Ev.bind (x := false) (Ev.pos (by omega) (Ev.pos (by omega) (Ev.pos (by omega) (Ev.pos (by omega) (Ev.pos (by omega) ?_))))) (Ev.neg (by simp) Ev.ret)
        rw [rahead_ok, show at_ + 1 - 1 = at_ by omega, hg]; simp only [Option.bind_some]; exact Ev.of (by simp [c])
      · rw [List.set_eq_take_append_cons_drop, if_pos (by omega), h3, h4]
theorem ins_l0 (l : List T) (hl : l.length ≤ 1024) : ∀ (d i : Nat) (q : List T), i + d = l.length → q.length = i → (q.Pairwise fun a b => ¬ lt b a) → ∃ y, Ev (fun k => waybillref20_Order.l0 k l i q) y ∧ (y.Pairwise fun a b => ¬ lt b a) ∧ y.Perm (q ++ l.drop i)
  | 0, i, q, h1, h2, h3 => by
    refine ⟨q, ?_, h3, by rw [List.drop_of_length_le (by omega)]; simp⟩
    refine Ev.succ ?_
    simp only [waybillref20_Order.l0]
    exact Ev.neg (by omega) Ev.ret
  | d + 1, i, q, h1, h2, h3 => by
    obtain ⟨a, y, r1, r2, r3, r4, r5, r6⟩ := ins_l1 l (i := i) (by omega) q (by omega) h3 q.length (q ++ [g l i]) (Nat.le_refl _) (by simp) (by simp) (by simp) (by simp)
    have hp : (y.set a (g l i)).Pairwise fun a b => ¬ lt b a := by
      rw [r4, List.pairwise_append]
      refine ⟨h3.sublist (List.take_sublist _ _), List.pairwise_cons.2 ⟨fun x hx => lt_le (r6 x hx), h3.sublist (List.drop_sublist _ _)⟩, fun x hx z hz => ?_⟩
      rcases List.mem_cons.1 hz with rfl | hz
      · exact r5 x hx
      · exact lt_le (lt_of x z (r5 x hx) (r6 z hz))
    obtain ⟨w, w1, w2, w3⟩ := ins_l0 l hl d (i + 1) (y.set a (g l i)) (by omega) (by rw [List.length_set, r3, h2]) hp
    refine ⟨w, ?_, w2, ?_⟩
    · refine Ev.succ ?_
      simp only [waybillref20_Order.l0, g_rd]
      refine Ev.pos (by omega) (Ev.bind (x := y.set a (g l i)) (Ev.pos (by omega) (Ev.pos (by simp; omega) (Ev.bind r1 (Ev.pos (by omega) (Ev.pos (by simp; omega) Ev.ret))))) ?_)
      rw [W_succ (by omega)]; exact w1
    · refine w3.trans ?_
      rw [drop_g l (by omega : i < l.length), r4]
      refine (List.Perm.append_right _ (List.perm_middle)).trans ?_
      rw [List.take_append_drop, List.cons_append]
      exact List.perm_middle.symm
where lt_of (x z : T) {t : T} (h1 : ¬ lt t x) (h2 : lt t z) : lt x z := by unfold lt at *; omega
theorem order_ref (l : List T) (G : Good l) : Ev (fun k => waybillref20_Order.f k l) (srt l, 0) := by
  obtain ⟨e, h1, h2, h3⟩ := check_ok l
  obtain ⟨y, y1, y2, y3⟩ := ins_l0 l G.len l.length 0 [] (Nat.zero_add _) rfl List.Pairwise.nil
  have : y = srt l := srt_uniq (by simpa using y3) y2
  subst this
  simp only [waybillref20_Order.f]
  exact Ev.bind h2 (Ev.pos (h3.2 G) (Ev.bind y1 Ev.ret))
theorem order_both (l : List T) : ∃ q e, Ev (fun k => timer_Order.f k l) (q, e) ∧ Ev (fun k => waybillref20_Order.f k l) (q, e) ∧ (e = 0 ↔ Good l) ∧ (e = 0 → q = srt l) ∧ Ev (fun k => timer_Check.f k l) e ∧ (e ≠ 0 → q = []) := by
  obtain ⟨e, h1, h2, h3⟩ := check_ok l
  by_cases c : e = 0
  · have G := h3.1 c
    subst c
    exact ⟨srt l, 0, order_prog l G, order_ref l G, ⟨fun _ => G, fun _ => rfl⟩, fun _ => rfl, h1, fun h => absurd rfl h⟩
  · refine ⟨[], e, ?_, ?_, h3, fun h => absurd h c, h1, fun _ => rfl⟩
    · simp only [timer_Order.f]; exact Ev.bind h1 (Ev.neg c Ev.ret)
    · simp only [waybillref20_Order.f]; exact Ev.bind h2 (Ev.neg c Ev.ret)

/-! ### rows that are one -/
theorem same_ok (l : List T) (hl : l.length < 4611686018427387904) : Ev (fun k => waybillplain_SameTimers.f k l l) true := by
  simp only [waybillplain_SameTimers.f]
  refine Ev.pos trivial ?_
  refine scan_all (n := l.length) (p := fun _ => False) (fun i hi hp r hr => ?_) (fun j _ h => h) ?_
  · refine Ev.succ ?_
    simp only [waybillplain_SameTimers.l0]
    refine Ev.pos (by omega) (Ev.pos (by omega) (Ev.pos (by omega) (Ev.pos trivial ?_)))
    rw [W_succ (by omega)]; exact hr
  · refine Ev.succ ?_
    simp only [waybillplain_SameTimers.l0]
    exact Ev.neg (by omega) Ev.ret
theorem sameI_ok (l : List Int) (hl : l.length < 4611686018427387904) : Ev (fun k => waybillplain_SameInts.f k l l) true := by
  simp only [waybillplain_SameInts.f]
  refine Ev.pos trivial ?_
  refine scan_all (n := l.length) (p := fun _ => False) (fun i hi hp r hr => ?_) (fun j _ h => h) ?_
  · refine Ev.succ ?_
    simp only [waybillplain_SameInts.l0]
    refine Ev.pos (by omega) (Ev.pos (by omega) (Ev.pos (by omega) (Ev.pos trivial ?_)))
    rw [W_succ (by omega)]; exact hr
  · refine Ev.succ ?_
    simp only [waybillplain_SameInts.l0]
    exact Ev.neg (by omega) Ev.ret

/-! ### a queue that is emptied in order -/
theorem good_of_perm {l m : List T} (G : Good l) (hs : ∃ q, l.Perm (q ++ m)) (hh : Hp' m) : Good m := by
  obtain ⟨q, hq⟩ := hs
  have hlen := hq.length_eq
  rw [List.length_append] at hlen
  have hn : (l.map (·.ID)).Nodup := by
    refine List.pairwise_iff_getElem.2 fun i j hi hj hij => ?_
    simp only [List.length_map] at hi hj
    have := G.dist j hj i hij
    rw [g, g, getD_get _ _ _ hj, getD_get _ _ _ hi] at this
    simpa using Ne.symm this
  have hn2 : (m.map (·.ID)).Nodup := by
    have h2 := (hq.map (·.ID)).nodup_iff.1 hn
    rw [List.map_append, List.nodup_append] at h2
    exact h2.2.1
  refine ⟨by have := G.len; omega, fun i hi => ?_, fun i hi j hj => ?_, hh⟩
  · have : g m i ∈ l := hq.mem_iff.2 (List.mem_append_right _ (getD_mem _ _ _ hi))
    obtain ⟨j, hj, e⟩ := mem_getD api_Timer.zero this
    have := G.may j hj
    rw [g, e] at this
    exact this
  · have := List.pairwise_iff_getElem.1 hn2 j i (by simp; omega) (by simpa using hi) hj
    rw [g, g, getD_get _ _ _ hi, getD_get _ _ _ (by omega)]
    simpa using Ne.symm this
theorem dueP_ok (tick : Int) : ∀ (n : Nat) (l : List T), l.length = n → Hp' l → l.Perm ((dueP tick l).1 ++ (dueP tick l).2) ∧ Hp' (dueP tick l).2 ∧ srt l = (dueP tick l).1 ++ srt (dueP tick l).2 ∧ (∀ x ∈ (dueP tick l).1, x.At ≤ tick) ∧ (∀ x ∈ (dueP tick l).2, ¬ x.At ≤ tick) := by
  intro n
  induction n with
  | zero =>
    intro l h hh
    have : l = [] := List.eq_nil_of_length_eq_zero h
    subst this
    rw [dueP, if_neg (by simp)]
    exact ⟨.refl _, hh, by simp, by simp, by simp⟩
  | succ n ih =>
    intro l h hh
    rw [dueP]
    by_cases c : (g l 0).At ≤ tick
    · rw [if_pos ⟨by omega, c⟩]
      have hp := pop_perm (l := l) (by omega)
      obtain ⟨i1, i2, i3, i4, i5⟩ := ih (pop l) (by rw [pop_len]; omega) (pop_heap hh)
      refine ⟨hp.trans (i1.cons _), i2, ?_, fun x hx => ?_, i5⟩
      · rw [List.cons_append, ← i3]
        refine (srt_uniq ?_ (List.pairwise_cons.2 ⟨fun x hx => ?_, srt_sorted _⟩)).symm
        · exact ((srt_perm (pop l)).cons _).trans hp.symm
        · have hx' : x ∈ l := hp.mem_iff.2 (List.mem_cons_of_mem _ ((srt_perm _).mem_iff.1 hx))
          obtain ⟨j, hj, e⟩ := mem_getD api_Timer.zero hx'
          have := heap_min hh j hj
          rwa [g, e] at this
      · rcases List.mem_cons.1 hx with rfl | hx
        · exact c
        · exact i4 x hx
    · rw [if_neg (fun h => c h.2)]
      refine ⟨.refl _, hh, by simp, by simp, fun x hx hle => ?_⟩
      obtain ⟨j, hj, e⟩ := mem_getD api_Timer.zero hx
      have := heap_min hh j hj
      rw [g, e] at this
      unfold lt at this
      omega

theorem alive_ok : Ev (fun k => waybilllaw20_alive.f k) true := Ev.add 12 fun k => by kernel_rfl
end Go.Proofs.Ytailjeoimlemnaa.M

/- The law TimerTells, over the translation's plain functions: true of every input. -/
set_option linter.unusedVariables false
set_option linter.unusedSimpArgs false
namespace Go.Proofs.Ytailjeoimlemnaa.M
open Go Go.Proofs.Ytailjeoimlemnaa.Sl

theorem timerTells_ok (l more : List T) (tick : Int) (ids : List Int) (hl : l.length < 8796093022208) (hm : more.length < 4611686018427387904) (hi : ids.length < 4611686018427387904) : ∃ k, waybilllaw20_TimerTells.f k l more tick ids = some true := by
  refine Ev.some (f := fun k => waybilllaw20_TimerTells.f k l more tick ids) ?_
  obtain ⟨a, e, a1, a2, a3⟩ := add_ok l more hm
  obtain ⟨x, xe, x1, x2⟩ := first_ok l
  obtain ⟨q, is, f, c1, c2, c3, c4, c5⟩ := due_ok l tick
  obtain ⟨u, n, ue, u1, u2, u3, u4, u5⟩ := cancel_ok l ids hi
  obtain ⟨s, h, o1, o2, o3, o4, o5, o6⟩ := order_both l
  obtain ⟨ce, k1, k2, -⟩ := check_ok l
  have hq : q.length < 4611686018427387904 ∧ is.length < 4611686018427387904 := by
    by_cases c : f = 0
    · obtain ⟨rfl, rfl⟩ := c4 c
      have G := c3.1 c
      have := (dueP_ok tick l.length l rfl G.heap).1.length_eq
      rw [List.length_append] at this
      have := G.len
      constructor
      · omega
      · rw [List.length_map]; omega
    · obtain ⟨rfl, rfl, -⟩ := c5 c; simp
  have hu : u.length < 4611686018427387904 := by
    by_cases c : ue = 0
    · obtain ⟨rfl, rfl⟩ := u4 c
      have hle : (left ids l).length ≤ l.length := List.length_filter_le _ _
      rw [pushes_len]; simp; omega
    · obtain ⟨rfl, -⟩ := u5 c; simp
  have hs : s.length < 4611686018427387904 := by
    by_cases c : h = 0
    · rw [o4 c, srt_len]; omega
    · rw [o6 c]; simp
  simp only [waybilllaw20_TimerTells.f]
  refine Ev.bind (Ev.of (own_ok l hl)) (Ev.bind a1 (Ev.bind a2 (Ev.bind x1 (Ev.bind x2 (Ev.bind c1 (Ev.bind c2 (Ev.bind u1 (Ev.bind u2 (Ev.bind o1 (Ev.bind o2 ?_))))))))))
  dsimp only
  refine Ev.bind (x := false) ?_ (Ev.neg (by simp) ?_)
  · refine Ev.bind (same_ok a (by omega)) (Ev.pos rfl (Ev.bind (Ev.of (r := e) rfl) (Ev.pos rfl (Ev.pos rfl (Ev.bind (Ev.of (r := xe) rfl) (Ev.pos rfl ?_))))))
    refine Ev.bind (same_ok q hq.1) (Ev.pos rfl (Ev.bind (sameI_ok is hq.2) (Ev.pos rfl (Ev.bind (Ev.of (r := f) rfl) (Ev.pos rfl ?_)))))
    exact Ev.bind (same_ok u hu) (Ev.pos rfl (Ev.pos rfl (Ev.bind (Ev.of (r := ue) rfl) (Ev.of (by simp)))))
  · refine Ev.bind (x := true) ?_ Ev.ret
    refine Ev.bind (same_ok s hs) (Ev.pos rfl (Ev.bind (Ev.of (r := h) rfl) (Ev.pos rfl ?_)))
    refine Ev.bind k1 (Ev.bind (Ev.of (r := ce) rfl) (Ev.bind k2 (Ev.pos rfl ?_)))
    exact Ev.bind (same_ok l (by omega)) (Ev.pos rfl (Ev.bind alive_ok Ev.ret))
end Go.Proofs.Ytailjeoimlemnaa.M

/- The row of the law TimerTells: whatever the input, the call ends, answers true, and what came in reads as it did. It stands on the walk of the law's code (F6) and on the plain law. -/
namespace Go.Proofs.Ytailjeoimlemnaa.timerTells
open Go Go.ChangeShapes Go.WideShapes Go.ChangeAt Go.RowKit Go.Proofs Go.Proofs.Ytailjeoimlemnaa.Sl Go.Proofs.Ytailjeoimlemnaa.M
set_option linter.unusedVariables false
set_option linter.unusedSimpArgs false
theorem own : ownKnob Try.prog.godebug = none := by kernel_rfl
theorem laidOut : laidOutB Try.prog = true := by kernel_rfl
theorem dec32 {H : Type} {enc : TypeId × Value → H} {W : World} (cs : List Value) (h : Mt enc Try.prog W [.int .i64, .int .i64] cs) : ∃ x : api_Timer, cs = e_api_Timer.enc x := by
  obtain ⟨c0, cs0, rfl, -, h⟩ := h.int
  obtain ⟨c1, cs1, rfl, -, h⟩ := h.int
  obtain rfl := h.nil
  exact ⟨⟨c0, c1⟩, rfl⟩
theorem dec3 {H : Type} {enc : TypeId × Value → H} {W : World} (cs : List Value) (h : Mt enc Try.prog W [.int .i64] cs) : ∃ x : Int, cs = e_i64.enc x := by
  obtain ⟨c0, cs0, rfl, -, h⟩ := h.int
  obtain rfl := h.nil
  exact ⟨c0, rfl⟩
set_option maxRecDepth 100000 in
theorem lifted (os : Os) (started : os.Started) (H : Type) (enc : TypeId × Value → H) :
    ReturnsInHanded {} Try.checked os 6 .any (Rows.timerTellsSpec.pre6 enc Try.prog Try.f6 Rows.timerTellsRow.domain false) (Rows.timerTellsSpec.post enc Try.prog Try.f6 false true false false) := by
  refine returnsInHanded_of_change_sized (C := Try.checked) own started (by kernel_rfl) Try.func6
    (ChangeSpec.witness6 (enc := enc) (C := Try.checked) false ⟨#[], #[.slice none 0 0, .slice none 0 0, .int .i64 0, .slice none 0 0], []⟩ 8 (by kernel_rfl) (by kernel_rfl) (by kernel_rfl) (by kernel_rfl)) ?_
  intro W base args ds gs before hval0 hW hcnd hsz0 _
  have hsz : (DataW.weightsEach Try.prog (Try.f6.params.toList ++ Rows.timerTellsSpec.plain.varTypes Try.prog) (ds ++ gs)).all (· ≤ reachBytes) = true := hsz0
  have hval : ∀ (j : Nat) t v, Try.f6.params[j]? = some t → args[j]? = some v → Value.okWide Try.prog W .any base t v := hval0
  have hW' := hW
  obtain ⟨p, q, hA0, hV, rfl, hfz, hnd⟩ := hW
  have hA : DataW.TrodAll enc Try.prog W 0 (fun _ => true) true Try.f6.params.toList args.toList ds p := hA0
  rw [show Try.f6.params = #[22, 22, 3, 23] by kernel_rfl] at hA hval hsz
  obtain ⟨v0, vs0, d0, ds0, p0, q0, hargs, rfl, rfl, h0, r0⟩ := trodAll_cons hA
  obtain ⟨v1, vs1, d1, ds1, p1, q1, rfl, rfl, rfl, h1, r1⟩ := trodAll_cons r0
  obtain ⟨v2, vs2, d2, ds2, p2, q2, rfl, rfl, rfl, h2, r2⟩ := trodAll_cons r1
  obtain ⟨v3, vs3, d3, ds3, p3, q3, rfl, rfl, rfl, h3, r3⟩ := trodAll_cons r2
  obtain ⟨rfl, rfl, rfl⟩ := trodAll_nil r3
  obtain rfl : args = #[v0, v1, v2, v3] := by cases args; simp_all
  obtain ⟨rfl, rfl⟩ := trodVars_none hV
  have hw0 := own_weights hsz (j := 0) (t := 22) rfl rfl
  obtain ⟨a0, n0, c0, rfl⟩ := okWide_slice (by kernel_rfl : Try.prog.underlying 22 = some (.slice 32)) (hval 0 22 v0 rfl rfl)
  have k0 := h0
  have lt0 : ∀ x ∈ p0, x.block < W.heap.size := by obtain ⟨m, hm⟩ := k0; exact DataW.trod_lt m _ _ _ hm
  obtain ⟨m0, hm0⟩ := h0
  obtain ⟨A0, len0, cap0, l0, hv0, R0, M0, y0⟩ := row_of (e := e_api_Timer) (by kernel_rfl : Try.prog.underlying 22 = some (.slice 32)) (by kernel_rfl : leafKs Try.prog 12 32 = some [.int .i64, .int .i64]) (by kernel_rfl) dec32 hm0 hw0
  obtain ⟨rfl, rfl, rfl⟩ := Value.slice.inj hv0
  rw [show Try.prog.bytesOf 32 = 16 by kernel_rfl] at y0
  have hw1 := own_weights hsz (j := 1) (t := 22) rfl rfl
  obtain ⟨a1, n1, c1, rfl⟩ := okWide_slice (by kernel_rfl : Try.prog.underlying 22 = some (.slice 32)) (hval 1 22 v1 rfl rfl)
  have k1 := h1
  have lt1 : ∀ x ∈ p1, x.block < W.heap.size := by obtain ⟨m, hm⟩ := k1; exact DataW.trod_lt m _ _ _ hm
  obtain ⟨m1, hm1⟩ := h1
  obtain ⟨A1, len1, cap1, l1, hv1, R1, M1, y1⟩ := row_of (e := e_api_Timer) (by kernel_rfl : Try.prog.underlying 22 = some (.slice 32)) (by kernel_rfl : leafKs Try.prog 12 32 = some [.int .i64, .int .i64]) (by kernel_rfl) dec32 hm1 hw1
  obtain ⟨rfl, rfl, rfl⟩ := Value.slice.inj hv1
  rw [show Try.prog.bytesOf 32 = 16 by kernel_rfl] at y1
  obtain ⟨a2, rfl, rfl, rfl, w2⟩ := open_int (by kernel_rfl : Try.prog.underlying 3 = some (.int .i64)) (hval 2 3 v2 rfl rfl) h2
  have hw3 := own_weights hsz (j := 3) (t := 23) rfl rfl
  obtain ⟨a3, n3, c3, rfl⟩ := okWide_slice (by kernel_rfl : Try.prog.underlying 23 = some (.slice 3)) (hval 3 23 v3 rfl rfl)
  have k3 := h3
  have lt3 : ∀ x ∈ p3, x.block < W.heap.size := by obtain ⟨m, hm⟩ := k3; exact DataW.trod_lt m _ _ _ hm
  obtain ⟨m3, hm3⟩ := h3
  obtain ⟨A3, len3, cap3, l3, hv3, R3, M3, y3⟩ := row_of (e := e_i64) (by kernel_rfl : Try.prog.underlying 23 = some (.slice 3)) (by kernel_rfl : leafKs Try.prog 12 3 = some [.int .i64]) (by kernel_rfl) dec3 hm3 hw3
  obtain ⟨rfl, rfl, rfl⟩ := Value.slice.inj hv3
  rw [show Try.prog.bytesOf 3 = 8 by kernel_rfl] at y3
  clear hA0 hval0 hsz0 hsz
  obtain ⟨k, hk⟩ : ∃ k, waybilllaw20_TimerTells.f k l0 l1 a2 l3 = some true := timerTells_ok l0 l1 a2 l3 (by omega) (by omega) (by omega)
  refine (waybilllaw20_TimerTells.calls k a0 n0 c0 l0 a1 n1 c1 l1 a2 a3 n3 c3 l3 W (hpOf W) R0 R1 R3 (HS.start W) true hk).mono fun e W' ⟨he, hs⟩ => ?_
  have bel : Below W.heap.size W W' := HS.below (pre := []) hs
  subst he
  exact ⟨_, rfl, _, _, _, [], _, [], hW', trodAll_mk1 (shut_bool (by kernel_rfl : Try.prog.underlying 4 = some .bool) _), (trodAll_cons_mk (Below.trod laidOut (by kernel_rfl) (of_decide_eq_true (by kernel_rfl)) k0 bel lt0) (trodAll_cons_mk (Below.trod laidOut (by kernel_rfl) (of_decide_eq_true (by kernel_rfl)) k1 bel lt1) (trodAll_cons_mk (shut_int (by kernel_rfl : Try.prog.underlying 3 = some (.int .i64)) w2) (trodAll_cons_mk (Below.trod laidOut (by kernel_rfl) (of_decide_eq_true (by kernel_rfl)) k3 bel lt3) trodAll_mk0)))), rfl, bel.frame _, fun h => by cases h⟩
theorem over : Rows.timerTellsRow.holds Try.pinned (OpenSpec.ofChange Rows.timerTellsSpec) :=
  OpenClaim.holds_of_wide 6 Try.f6 rfl rfl rfl rfl rfl rfl rfl ⟨rfl, rfl, rfl, rfl, rfl⟩ rfl rfl rfl rfl rfl (by kernel_rfl) Try.func6 (by kernel_rfl)
    (of_decide_eq_true (by kernel_rfl)) (by unfold Func.isWrapper; first | (rw [if_pos (by decide +kernel)]; kernel_rfl) | (rw [if_neg (by decide +kernel)]; exact ⟨rfl, rfl⟩))
    (fun os started H enc _ => lifted os started H enc)
theorem proved : Rows.TimerTellsSaid := over
#print axioms proved
end Go.Proofs.Ytailjeoimlemnaa.timerTells
namespace Go.Proofs.Ytailjeoimlemnaa
/-- The row, under a short name, for the claim. -/
theorem timerTells_holds : Rows.TimerTellsSaid := timerTells.proved
end Go.Proofs.Ytailjeoimlemnaa

