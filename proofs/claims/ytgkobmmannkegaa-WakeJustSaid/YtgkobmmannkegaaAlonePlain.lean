/-
  What the epoch's, the waker's and the parker's tasks come to, done alone: plain.
-/
import Derived.Test.YtgkobmmannkegaaAlone
import Derived.Test.YtgkobmmannkegaaEpochRef
import Derived.Test.YtgkobmmannkegaaWake
import Derived.Test.YtgkobmmannkegaaPark
import Derived.Test.YtgkobmmannkegaaBlankPlain
namespace Go.Proofs.Ytgkobmmannkegaa
open Go Go.RowKit
set_option linter.unusedVariables false

/-! ### The epoch -/
def allOk (P : Nat → Int) (e : Int) (n : Nat) : Bool := (List.range n).all fun j => P j == 0 || P j == e
theorem allOk_zero (P : Nat → Int) (e : Int) : allOk P e 0 = true := rfl
theorem allOk_succ (P : Nat → Int) (e : Int) (n : Nat) : allOk P e (n + 1) = (allOk P e n && (P n == 0 || P n == e)) := by simp [allOk, List.range_succ]
theorem allOk_bad {P : Nat → Int} {e : Int} {i n : Nat} (h : i < n) (hb : ¬ (P i = 0 ∨ P i = e)) : allOk P e n = false := by
  unfold allOk
  rw [List.all_eq_false]
  exact ⟨i, List.mem_range.2 h, by simpa using hb⟩
theorem wrap_lo (x : Int) (h0 : 0 ≤ x) (h1 : x < 9223372036854775808) : wrap64 x = x := by rw [wrap64_def]; omega
theorem ep_alone_from (T : Nat) (e : Int) (ws : List Int) (P : Nat → Int) (hT : T ≤ 8) (h0 : wget ws 0 = e) (hP : ∀ i, i < T → wget ws ((4 + i : Nat) : Int) = P i) :
    ∀ (m i n : Nat), i + m = T → m + 1 ≤ n → allOk P e i = true →
    ∃ st, runs (epM T) n (epHead T i e) ws = (st, if allOk P e T then wset ws 0 (epU e) else ws) ∧ st.won = allOk P e T ∧ (epM T).more st = false
  | 0, i, n, hi, hn, hok => by
    obtain rfl : i = T := by omega
    obtain ⟨n, rfl⟩ : ∃ q, n = q + 1 := ⟨n - 1, by omega⟩
    rw [runs_more _ (ep_head_more _ _ _), ep_head_deed3 _ _ _ (by omega), dGet_swap, dDo_swap, ep_head_tell3 _ _ _ _ (by omega), h0, hok]
    refine ⟨⟨0, i, e, true⟩, ?_, rfl, by simp [epM]⟩
    rw [runs_done _ (by simp [epM])]
    simp [swp]
  | m + 1, i, n, hi, hn, hok => by
    obtain ⟨n, rfl⟩ : ∃ q, n = q + 1 := ⟨n - 1, by omega⟩
    have hw : wrap64 (4 + (i : Int)) = ((4 + i : Nat) : Int) := by rw [wrap_lo _ (by omega) (by omega)]; omega
    have hw2 : wrap64 ((i : Int) + 1) = ((i + 1 : Nat) : Int) := by rw [wrap_lo _ (by omega) (by omega)]; omega
    rw [runs_more _ (ep_head_more _ _ _), ep_head_deed _ _ _ (by omega), dGet_load, dDo_load, hw, hP i (by omega)]
    by_cases hx : P i = 0 ∨ P i = e
    · rw [ep_head_next _ _ _ _ (by omega) hx, hw2]
      exact ep_alone_from T e ws P hT h0 hP m (i + 1) n (by omega) (by omega) (by rw [allOk_succ, hok]; simpa using hx)
    · rw [ep_head_bad _ _ _ _ (by omega) hx, allOk_bad (n := T) (by omega) hx]
      refine ⟨_, runs_done _ (by simp [epM]), rfl, by simp [epM]⟩
theorem ep_alone (T : Nat) (e : Int) (ws : List Int) (P : Nat → Int) (hT : T ≤ 8) (h0 : wget ws 0 = e) (hP : ∀ i, i < T → wget ws ((4 + i : Nat) : Int) = P i) :
    ∃ st, runs (epM T) 20 ⟨1, 0, 0, false⟩ ws = (st, if allOk P e T then wset ws 0 (epU e) else ws) ∧ st.won = allOk P e T ∧ (epM T).more st = false := by
  rw [show 20 = 19 + 1 from rfl, runs_more _ (by simp [epM])]
  have hd : (epM (T : Int)).deed ⟨1, 0, 0, false⟩ = ⟨1, 0, 0, 0, 0⟩ := by simp [epM, epDeed]
  rw [hd, dGet_load, dDo_load, h0, ep_head0]
  exact ep_alone_from T e ws P hT h0 hP T 0 19 (by omega) (by omega) (allOk_zero _ _)

/-! ### The waker -/
/-- The words, where the semaphores of the first n threads who are late have gone up. -/
def bump (T : Nat) (late : Nat → Bool) (f : Nat → Int) (n p : Nat) : Int := if 4 + 2 * T ≤ p ∧ p < 4 + 2 * T + n ∧ late (p - (4 + 2 * T)) = true then (f p + 1) % 18446744073709551616 else f p
theorem bump_zero (T : Nat) (late : Nat → Bool) (f : Nat → Int) (p : Nat) : bump T late f 0 p = f p := by unfold bump; rw [if_neg (by omega)]
theorem bump_skip (T : Nat) (late : Nat → Bool) (f : Nat → Int) (n p : Nat) (h : late n = false) : bump T late f (n + 1) p = bump T late f n p := by
  unfold bump
  by_cases e : p = 4 + 2 * T + n
  · subst e
    rw [if_neg (by rw [show 4 + 2 * T + n - (4 + 2 * T) = n by omega, h]; simp), if_neg (by omega)]
  · have : (4 + 2 * T ≤ p ∧ p < 4 + 2 * T + (n + 1) ∧ late (p - (4 + 2 * T)) = true) ↔ (4 + 2 * T ≤ p ∧ p < 4 + 2 * T + n ∧ late (p - (4 + 2 * T)) = true) := ⟨fun h => ⟨h.1, by omega, h.2.2⟩, fun h => ⟨h.1, by omega, h.2.2⟩⟩
    simp only [this]
theorem bump_take (T : Nat) (late : Nat → Bool) (f : Nat → Int) (n p : Nat) (h : late n = true) : bump T late f (n + 1) p = upd (bump T late f n) (4 + 2 * T + n) ((f (4 + 2 * T + n) + 1) % 18446744073709551616) p := by
  unfold bump upd
  by_cases e : p = 4 + 2 * T + n
  · subst e
    rw [if_pos rfl, if_pos ⟨by omega, by omega, by rw [show 4 + 2 * T + n - (4 + 2 * T) = n by omega]; exact h⟩]
  · rw [if_neg e]
    have : (4 + 2 * T ≤ p ∧ p < 4 + 2 * T + (n + 1) ∧ late (p - (4 + 2 * T)) = true) ↔ (4 + 2 * T ≤ p ∧ p < 4 + 2 * T + n ∧ late (p - (4 + 2 * T)) = true) := ⟨fun h => ⟨h.1, by omega, h.2.2⟩, fun h => ⟨h.1, by omega, h.2.2⟩⟩
    simp only [this]
theorem bump_at (T : Nat) (late : Nat → Bool) (f : Nat → Int) (n : Nat) : bump T late f n (4 + 2 * T + n) = f (4 + 2 * T + n) := by unfold bump; rw [if_neg (by omega)]
theorem bump_low (T : Nat) (late : Nat → Bool) (f : Nat → Int) (n p : Nat) (h : p < 4 + 2 * T) : bump T late f n p = f p := by unfold bump; rw [if_neg (by omega)]
/-- Who is woken. -/
def isLate (T : Nat) (f : Nat → Int) (dl : Int) (i : Nat) : Bool := decide (f (4 + T + i) ≠ 0 ∧ IntKind.u64.wrap (dl + 1) < f (4 + T + i))
theorem wk_alone_from (T N : Nat) (dl : Int) (f : Nat → Int) (hT : T ≤ 8) (hN : 4 + 3 * T ≤ N) :
    ∀ (m i n : Nat), i + m = T → 2 * m ≤ n → runs (wkM T dl) n ⟨i, false⟩ (vals N (bump T (isLate T f dl) f i)) = (⟨T, false⟩, vals N (bump T (isLate T f dl) f T))
  | 0, i, n, hi, hn => by
    obtain rfl : i = T := by omega
    exact runs_done _ (by simp [wkM])
  | m + 1, i, n, hi, hn => by
    obtain ⟨n, rfl⟩ : ∃ q, n = q + 2 := ⟨n - 2, by omega⟩
    have hm : ∀ b, (wkM (T : Int) dl).more ⟨(i : Int), b⟩ = true := fun b => by simp [wkM]; omega
    have hd : (wkM (T : Int) dl).deed ⟨(i : Int), false⟩ = ⟨1, ((4 + T + i : Nat) : Int), 0, 0, 0⟩ := by
      have e : wrap64 (4 + (T : Int) + i) = ((4 + T + i : Nat) : Int) := by rw [wrap_lo _ (by omega) (by omega)]; omega
      simp only [wkM, wkDeed, e]
      rfl
    have hd2 : (wkM (T : Int) dl).deed ⟨(i : Int), true⟩ = ⟨4, ((4 + 2 * T + i : Nat) : Int), 1, 0, 0⟩ := by
      have e : wrap64 (4 + 2 * (T : Int) + i) = ((4 + 2 * T + i : Nat) : Int) := by rw [wrap_lo _ (by omega) (by omega)]; omega
      simp only [wkM, wkDeed, e]
      rfl
    have hn1 : wrap64 ((i : Int) + 1) = ((i + 1 : Nat) : Int) := by rw [wrap_lo _ (by omega) (by omega)]; omega
    have hTi : ¬ (T : Int) ≤ (i : Int) := by omega
    have hg : wget (vals N (bump T (isLate T f dl) f i)) ((4 + T + i : Nat) : Int) = f (4 + T + i) := by rw [vals_wget _ _ _ (by omega), bump_low _ _ _ _ _ (by omega)]
    rw [show n + 2 = (n + 1) + 1 from rfl, runs_more _ (hm false), hd, dGet_load, dDo_load, hg]
    cases hl : isLate T f dl i with
    | true =>
      have hl2 := of_decide_eq_true hl
      have ht : (wkM (T : Int) dl).tell ⟨(i : Int), false⟩ (f (4 + T + i)) = ⟨(i : Int), true⟩ := by simp only [wkM, wkTell, hTi, if_false]; rw [if_pos ⟨trivial, hl2⟩]
      have ht2 : ∀ x, (wkM (T : Int) dl).tell ⟨(i : Int), true⟩ x = ⟨((i + 1 : Nat) : Int), false⟩ := fun x => by simp [wkM, wkTell, hTi, hn1]
      rw [ht, runs_more _ (hm true), hd2, ht2, dDo_add, vals_wget _ _ _ (by omega), bump_at, vals_wset _ _ _ (by omega)]
      rw [vals_ext (fun p _ => (bump_take T (isLate T f dl) f i p hl).symm)]
      exact wk_alone_from T N dl f hT hN m (i + 1) n (by omega) (by omega)
    | false =>
      have hl2 := of_decide_eq_false hl
      have ht : (wkM (T : Int) dl).tell ⟨(i : Int), false⟩ (f (4 + T + i)) = ⟨((i + 1 : Nat) : Int), false⟩ := by simp only [wkM, wkTell, hTi, if_false]; rw [if_neg (fun h => hl2 h.2), hn1]
      rw [ht, vals_ext (fun p _ => (bump_skip T (isLate T f dl) f i p hl).symm)]
      exact wk_alone_from T N dl f hT hN m (i + 1) (n + 1) (by omega) (by omega)
theorem wk_alone (T N : Nat) (dl : Int) (f : Nat → Int) (hT : T ≤ 8) (hN : 4 + 3 * T ≤ N) : runs (wkM T dl) 30 ⟨0, false⟩ (vals N f) = (⟨T, false⟩, vals N (bump T (isLate T f dl) f T)) := by
  have := wk_alone_from T N dl f hT hN T 0 30 (by omega) (by omega)
  rw [vals_ext (fun p _ => bump_zero T (isLate T f dl) f p)] at this
  exact this

/-! ### The parker -/
theorem pk_alone_yes (sem un : Int) (ws : List Int) (h : wget ws sem ≠ 0) : runs (pkM sem un) 20 (pkLook sem) ws = (⟨0, (pkLook sem).d⟩, wset ws sem ((wget ws sem + 18446744073709551615) % 18446744073709551616)) ∧ runN (pkM sem un) 20 (pkLook sem) ws = 2 := by
  have h1 : (pkM sem un).more (pkLook sem) = true := by simp [pkM, pkLook]
  have hd : (pkM sem un).deed (pkLook sem) = ⟨1, sem, 0, 0, 0⟩ := rfl
  have ht : (pkM sem un).tell (pkLook sem) (wget ws sem) = ⟨3, ⟨4, sem, 18446744073709551615, 0, 0⟩⟩ := by simp [pkM, pkTell, pkLook, h]
  have h2 : (pkM sem un).more ⟨3, ⟨4, sem, 18446744073709551615, 0, 0⟩⟩ = true := by simp [pkM]
  have hd2 : (pkM sem un).deed ⟨3, ⟨4, sem, 18446744073709551615, 0, 0⟩⟩ = ⟨4, sem, 18446744073709551615, 0, 0⟩ := rfl
  have ht2 : ∀ x, (pkM sem un).tell ⟨3, ⟨4, sem, 18446744073709551615, 0, 0⟩⟩ x = ⟨0, (pkLook sem).d⟩ := fun x => by simp [pkM, pkTell]
  have h3 : (pkM sem un).more ⟨0, (pkLook sem).d⟩ = false := by simp [pkM]
  constructor
  · rw [show 20 = 18 + 1 + 1 from rfl, runs_more _ h1, hd, dGet_load, dDo_load, ht, runs_more _ h2, hd2, ht2, dDo_add, runs_done _ h3]
  · rw [show 20 = 18 + 1 + 1 from rfl, runN_more _ h1, hd, dGet_load, dDo_load, ht, runN_more _ h2, hd2, ht2, runN_done _ h3]
theorem pk_alone_time (sem un now : Int) (ws : List Int) (h : wget ws sem = 0) (hn : wget ws 1 = now) (hu : un ≤ wrap64 now) : runs (pkM sem un) 20 (pkLook sem) ws = (⟨0, (pkLook sem).d⟩, ws) ∧ runN (pkM sem un) 20 (pkLook sem) ws = 2 := by
  have h1 : (pkM sem un).more (pkLook sem) = true := by simp [pkM, pkLook]
  have hd : (pkM sem un).deed (pkLook sem) = ⟨1, sem, 0, 0, 0⟩ := rfl
  have ht : (pkM sem un).tell (pkLook sem) 0 = ⟨2, ⟨1, 1, 0, 0, 0⟩⟩ := by simp [pkM, pkTell, pkLook]
  have h2 : (pkM sem un).more ⟨2, ⟨1, 1, 0, 0, 0⟩⟩ = true := by simp [pkM]
  have hd2 : (pkM sem un).deed ⟨2, ⟨1, 1, 0, 0, 0⟩⟩ = ⟨1, 1, 0, 0, 0⟩ := rfl
  have ht2 : (pkM sem un).tell ⟨2, ⟨1, 1, 0, 0, 0⟩⟩ now = ⟨0, (pkLook sem).d⟩ := by simp [pkM, pkTell, hu]
  have h3 : (pkM sem un).more ⟨0, (pkLook sem).d⟩ = false := by simp [pkM]
  constructor
  · rw [show 20 = 18 + 1 + 1 from rfl, runs_more _ h1, hd, dGet_load, dDo_load, h, ht, runs_more _ h2, hd2, dGet_load, dDo_load, hn, ht2, runs_done _ h3]
  · rw [show 20 = 18 + 1 + 1 from rfl, runN_more _ h1, hd, dGet_load, dDo_load, h, ht, runN_more _ h2, hd2, dGet_load, dDo_load, hn, ht2, runN_done _ h3]
theorem pk_alone_wait (sem un now : Int) (ws : List Int) (h : wget ws sem = 0) (hn : wget ws 1 = now) (hu : ¬ un ≤ wrap64 now) : ∀ m, runs (pkM sem un) (2 * m) (pkLook sem) ws = (pkLook sem, ws) ∧ runN (pkM sem un) (2 * m) (pkLook sem) ws = 2 * m
  | 0 => ⟨rfl, rfl⟩
  | m + 1 => by
    have h1 : (pkM sem un).more (pkLook sem) = true := by simp [pkM, pkLook]
    have hd : (pkM sem un).deed (pkLook sem) = ⟨1, sem, 0, 0, 0⟩ := rfl
    have ht : (pkM sem un).tell (pkLook sem) 0 = ⟨2, ⟨1, 1, 0, 0, 0⟩⟩ := by simp [pkM, pkTell, pkLook]
    have h2 : (pkM sem un).more ⟨2, ⟨1, 1, 0, 0, 0⟩⟩ = true := by simp [pkM]
    have hd2 : (pkM sem un).deed ⟨2, ⟨1, 1, 0, 0, 0⟩⟩ = ⟨1, 1, 0, 0, 0⟩ := rfl
    have ht2 : (pkM sem un).tell ⟨2, ⟨1, 1, 0, 0, 0⟩⟩ now = pkLook sem := by simp [pkM, pkTell, hu]
    have ih := pk_alone_wait sem un now ws h hn hu m
    constructor
    · rw [show 2 * (m + 1) = 2 * m + 1 + 1 by omega, runs_more _ h1, hd, dGet_load, dDo_load, h, ht, runs_more _ h2, hd2, dGet_load, dDo_load, hn, ht2]; exact ih.1
    · rw [show 2 * (m + 1) = 2 * m + 1 + 1 by omega, runN_more _ h1, hd, dGet_load, dDo_load, h, ht, runN_more _ h2, hd2, dGet_load, dDo_load, hn, ht2, ih.2]
end Go.Proofs.Ytgkobmmannkegaa
