/-
  What plan's functions, and the document's (sundialref08), compute of any plan: sums that wrap round. Each only makes memory.
-/
import Derived.Test.YtgkobmmannkegaaProg
import Derived.Test.YtgkobmmannkegaaLib
namespace Go.Proofs.Ytgkobmmannkegaa
set_option linter.unusedVariables false
open Go Go.RowKit

/-! ### Numbers that wrap round -/
theorem wrap64_def (x : Int) : wrap64 x = (x + 9223372036854775808) % 18446744073709551616 - 9223372036854775808 := by unfold wrap64; rfl
theorem wrap64_eq {a b : Int} (h : ∃ k : Int, a = b + 18446744073709551616 * k) : wrap64 a = wrap64 b := by
  obtain ⟨k, rfl⟩ := h
  rw [wrap64_def, wrap64_def]; omega
theorem wrap64_to (a : Int) : ∃ k : Int, wrap64 a = a + 18446744073709551616 * k := ⟨-((a + 9223372036854775808) / 18446744073709551616), by rw [wrap64_def]; omega⟩
theorem wrap64_addl (a b : Int) : wrap64 (wrap64 a + b) = wrap64 (a + b) := by
  obtain ⟨k, hk⟩ := wrap64_to a
  exact wrap64_eq ⟨k, by rw [hk]; omega⟩
theorem wrap64_addr (a b : Int) : wrap64 (a + wrap64 b) = wrap64 (a + b) := by rw [Int.add_comm, wrap64_addl, Int.add_comm]
theorem wrap64_subl (a b : Int) : wrap64 (wrap64 a - b) = wrap64 (a - b) := by rw [Int.sub_eq_add_neg, wrap64_addl, ← Int.sub_eq_add_neg]
theorem wrap64_mull (a b : Int) : wrap64 (wrap64 a * b) = wrap64 (a * b) := by
  obtain ⟨k, hk⟩ := wrap64_to a
  exact wrap64_eq ⟨k * b, by rw [hk, Int.add_mul, Int.mul_assoc]⟩
theorem wrap64_mulr (a b : Int) : wrap64 (a * wrap64 b) = wrap64 (a * b) := by rw [Int.mul_comm, wrap64_mull, Int.mul_comm]
theorem wrap64_id (a : Int) : wrap64 (wrap64 a) = wrap64 a := by have := wrap64_addl a 0; simpa using this

abbrev planV (T S L G : Int) : Value := .agg #[.int .i64 T, .int .i64 S, .int .i64 L, .int .u64 G]

/-- A function that computes a number, and at most makes memory. -/
abbrev Gives (f : FuncId) (args : Array Value) (v : Value) : Prop := ∀ w : World, Calls Try.prog f args w fun e w' => e = .returned v ∧ Below w.heap.size w w'

theorem ret_i64 {a b : Int} (h : a = b) : Ending.returned (.int .i64 a) = .returned (.int .i64 b) := by rw [h]
theorem Below.step {w w1 : World} (o : Obj) (hb : Below (w.alloc o).heap.size (w.alloc o) w1) : Below w.heap.size w w1 :=
  ((Below.refl _ _).alloc (Nat.le_refl _) _).trans (hb.mono (by simp))

section
variable (T S L G : Int)

theorem pin_calls (i : Int) : Gives 42 #[planV T S L G, .int .i64 i] (.int .i64 (wrap64 (4 + i))) := by
  intro w
  go_enter Try.func42, Try.ntmps42
  go_wp2
  go_ret
  exact ⟨rfl, (Below.refl _ _).alloc (Nat.le_refl _) _⟩
theorem rpin_calls (i : Int) : Gives 43 #[planV T S L G, .int .i64 i] (.int .i64 (wrap64 (4 + i))) := by
  intro w
  go_enter Try.func43, Try.ntmps43
  go_wp2
  go_ret
  exact ⟨rfl, (Below.refl _ _).alloc (Nat.le_refl _) _⟩
theorem sleep_calls (i : Int) : Gives 44 #[planV T S L G, .int .i64 i] (.int .i64 (wrap64 (4 + T + i))) := by
  intro w
  go_enter Try.func44, Try.ntmps44
  go_wp2_with fail
  refine (pin_calls T S L G _ _).mono ?_
  rintro e w1 ⟨rfl, hb⟩
  go_wp2_with fail
  go_ret
  exact ⟨ret_i64 (wrap64_addl _ _), Below.step _ hb⟩
theorem rsleep_calls (i : Int) : Gives 45 #[planV T S L G, .int .i64 i] (.int .i64 (wrap64 (4 + T + i))) := by
  intro w
  go_enter Try.func45, Try.ntmps45
  go_wp2
  go_ret
  exact ⟨ret_i64 (wrap64_addl _ _), (Below.refl _ _).alloc (Nat.le_refl _) _⟩
theorem sem_calls (i : Int) : Gives 46 #[planV T S L G, .int .i64 i] (.int .i64 (wrap64 (4 + 2 * T + i))) := by
  intro w
  go_enter Try.func46, Try.ntmps46
  go_wp2_with fail
  refine (sleep_calls T S L G _ _).mono ?_
  rintro e w1 ⟨rfl, hb⟩
  go_wp2_with fail
  go_ret
  refine ⟨ret_i64 ?_, Below.step _ hb⟩
  rw [wrap64_addl]; congr 1; omega
theorem rsem_calls (i : Int) : Gives 47 #[planV T S L G, .int .i64 i] (.int .i64 (wrap64 (4 + 2 * T + i))) := by
  intro w
  go_enter Try.func47, Try.ntmps47
  go_wp2
  go_ret
  refine ⟨ret_i64 ?_, (Below.refl _ _).alloc (Nat.le_refl _) _⟩
  simp only [wrap64_addl, wrap64_addr]
theorem head_calls : Gives 149 #[planV T S L G] (.int .i64 (wrap64 (4 + 3 * T))) := by
  intro w
  go_enter Try.func149, Try.ntmps149
  go_wp2_with fail
  refine (sem_calls T S L G _ _).mono ?_
  rintro e w1 ⟨rfl, hb⟩
  go_wp2_with fail
  go_ret
  refine ⟨ret_i64 ?_, Below.step _ hb⟩
  congr 1; omega
theorem rhead_calls (i : Int) : Gives 151 #[planV T S L G, .int .i64 i] (.int .i64 (wrap64 (4 + 3 * T + i))) := by
  intro w
  go_enter Try.func151, Try.ntmps151
  go_wp2
  go_ret
  refine ⟨ret_i64 ?_, (Below.refl _ _).alloc (Nat.le_refl _) _⟩
  simp only [wrap64_addl, wrap64_addr]
theorem slots_calls : Gives 148 #[planV T S L G] (.int .i64 (wrap64 (4 + 3 * T + L))) := by
  intro w
  go_enter Try.func148, Try.ntmps148
  go_wp2_with fail
  have C := (Blk.new w [.int .i64 T, .int .i64 S, .int .i64 L, .int .u64 G] 24).cell
  refine wp_region_reads (by kernel_rfl) (by kernel_rfl) ?_
  repeat (quiet_step ((go_at_call 149; exact calls_later (head_calls _ _ _ _ _))))
  refine wpQuiet_nil ?_
  intro w1 hb
  go_wp2_with fail
  go_ret
  refine ⟨ret_i64 ?_, Below.step _ hb⟩
  simp only [wrap64_addl, IntWalk.i64_left]
theorem words_calls : Gives 40 #[planV T S L G] (.int .i64 (wrap64 (4 + 3 * T + L + S * (6 + L)))) := by
  intro w
  go_enter Try.func40, Try.ntmps40
  go_wp2_with fail
  refine wp_region_reads (by kernel_rfl) (by kernel_rfl) ?_
  repeat (quiet_step ((go_at_call 148; exact calls_later (slots_calls _ _ _ _ _))))
  refine wpQuiet_nil ?_
  intro w1 hb
  go_wp2_with fail
  go_ret
  refine ⟨ret_i64 ?_, Below.step _ hb⟩
  simp only [wrap64_addl, wrap64_addr, wrap64_mulr, IntWalk.i64_left]
theorem word_calls (slot k : Int) : Gives 150 #[planV T S L G, .int .i64 slot, .int .i64 k] (.int .i64 (wrap64 (4 + 3 * T + L + (slot - 1) * (6 + L) + k))) := by
  intro w
  go_enter Try.func150, Try.ntmps150
  go_wp2_with fail
  refine wp_region_reads (by kernel_rfl) (by kernel_rfl) ?_
  repeat (quiet_step ((go_at_call 148; exact calls_later (slots_calls _ _ _ _ _))))
  refine wpQuiet_nil ?_
  intro w1 hb
  go_wp2_with fail
  go_ret
  refine ⟨ret_i64 ?_, Below.step _ hb⟩
  simp only [wrap64_addl, wrap64_addr, wrap64_mulr, wrap64_mull, IntWalk.i64_left]
theorem rslot_calls (slot k : Int) : Gives 56 #[planV T S L G, .int .i64 slot, .int .i64 k] (.int .i64 (wrap64 (4 + 3 * T + L + (slot - 1) * (6 + L) + k))) := by
  intro w
  go_enter Try.func56, Try.ntmps56
  go_wp2
  go_ret
  refine ⟨ret_i64 ?_, (Below.refl _ _).alloc (Nat.le_refl _) _⟩
  simp only [wrap64_addl, wrap64_addr, wrap64_mulr, wrap64_mull]
theorem rwords_calls : Gives 41 #[planV T S L G] (.int .i64 (wrap64 (4 + 3 * T + L + S * (6 + L)))) := by
  intro w
  go_enter Try.func41, Try.ntmps41
  go_wp2_with fail
  refine (rslot_calls T S L G _ _ _).mono ?_
  rintro e w1 ⟨rfl, hb⟩
  go_wp2_with fail
  go_ret
  refine ⟨ret_i64 ?_, Below.step _ hb⟩
  obtain ⟨k, hk⟩ := wrap64_to (S + 1)
  refine wrap64_eq ⟨k * (6 + L), ?_⟩
  rw [hk, show S + 1 + 18446744073709551616 * k - 1 = S + 18446744073709551616 * k from by omega, Int.add_mul, Int.mul_assoc]; omega

/-- plan.Next ¦ sundialref08.Next. -/
def nextP (T L slot level : Int) : Int := if slot = 0 then wrap64 (4 + 3 * T + level) else wrap64 (4 + 3 * T + L + (slot - 1) * (6 + L) + 6 + level)
theorem next_calls (slot level : Int) : Gives 48 #[planV T S L G, .int .i64 slot, .int .i64 level] (.int .i64 (nextP T L slot level)) := by
  intro w
  by_cases h : slot = 0
  · subst h
    go_enter Try.func48, Try.ntmps48
    go_wp2_with fail
    refine (head_calls T S L G _).mono ?_
    rintro e w1 ⟨rfl, hb⟩
    go_wp2_with fail
    go_ret
    exact ⟨ret_i64 (by simp only [nextP, ↓reduceIte, wrap64_addl]), Below.step _ hb⟩
  · have hd : (slot == 0) = false := by simpa using h
    go_enter Try.func48, Try.ntmps48
    go_wp2_with fail
    refine (word_calls T S L G _ _ _).mono ?_
    rintro e w1 ⟨rfl, hb⟩
    go_wp2_with fail
    go_ret
    exact ⟨ret_i64 (by simp only [nextP, h, ↓reduceIte, wrap64_addl]), Below.step _ hb⟩
theorem rnext_calls (slot level : Int) : Gives 49 #[planV T S L G, .int .i64 slot, .int .i64 level] (.int .i64 (nextP T L slot level)) := by
  intro w
  by_cases h : slot = 0
  · subst h
    go_enter Try.func49, Try.ntmps49
    go_wp2_with fail
    refine (rhead_calls T S L G _ _).mono ?_
    rintro e w1 ⟨rfl, hb⟩
    go_wp2_with fail
    go_ret
    exact ⟨ret_i64 (by simp only [nextP, ↓reduceIte]), Below.step _ hb⟩
  · have hd : (slot == 0) = false := by simpa using h
    go_enter Try.func49, Try.ntmps49
    go_wp2_with fail
    refine (rslot_calls T S L G _ _ _).mono ?_
    rintro e w1 ⟨rfl, hb⟩
    go_wp2_with fail
    go_ret
    refine ⟨ret_i64 ?_, Below.step _ hb⟩
    simp only [nextP, h, ↓reduceIte, wrap64_addr]
    congr 1; omega

/-- The k-th word of a slot. -/
def slotP (T L slot k : Int) : Int := wrap64 (4 + 3 * T + L + (slot - 1) * (6 + L) + k)
theorem state_calls (slot : Int) : Gives 50 #[planV T S L G, .int .i64 slot] (.int .i64 (slotP T L slot 0)) := by
  intro w
  go_enter Try.func50, Try.ntmps50
  go_wp2_with fail
  refine (word_calls T S L G _ _ _).mono ?_
  rintro e w1 ⟨rfl, hb⟩
  go_wp2_with fail
  go_ret
  exact ⟨ret_i64 (by simp only [slotP, Int.add_zero]), Below.step _ hb⟩
theorem dead_calls (slot : Int) : Gives 51 #[planV T S L G, .int .i64 slot] (.int .i64 (slotP T L slot 1)) := by
  intro w
  go_enter Try.func51, Try.ntmps51
  go_wp2_with fail
  refine (word_calls T S L G _ _ _).mono ?_
  rintro e w1 ⟨rfl, hb⟩
  go_wp2_with fail
  go_ret
  exact ⟨rfl, Below.step _ hb⟩
theorem seq_calls (slot : Int) : Gives 52 #[planV T S L G, .int .i64 slot] (.int .i64 (slotP T L slot 2)) := by
  intro w
  go_enter Try.func52, Try.ntmps52
  go_wp2_with fail
  refine (word_calls T S L G _ _ _).mono ?_
  rintro e w1 ⟨rfl, hb⟩
  go_wp2_with fail
  go_ret
  exact ⟨rfl, Below.step _ hb⟩
theorem tall_calls (slot : Int) : Gives 53 #[planV T S L G, .int .i64 slot] (.int .i64 (slotP T L slot 3)) := by
  intro w
  go_enter Try.func53, Try.ntmps53
  go_wp2_with fail
  refine (word_calls T S L G _ _ _).mono ?_
  rintro e w1 ⟨rfl, hb⟩
  go_wp2_with fail
  go_ret
  exact ⟨rfl, Below.step _ hb⟩
theorem hold_calls (slot : Int) : Gives 54 #[planV T S L G, .int .i64 slot] (.int .i64 (slotP T L slot 4)) := by
  intro w
  go_enter Try.func54, Try.ntmps54
  go_wp2_with fail
  refine (word_calls T S L G _ _ _).mono ?_
  rintro e w1 ⟨rfl, hb⟩
  go_wp2_with fail
  go_ret
  exact ⟨rfl, Below.step _ hb⟩
theorem succ_calls (slot : Int) : Gives 55 #[planV T S L G, .int .i64 slot] (.int .i64 (slotP T L slot 5)) := by
  intro w
  go_enter Try.func55, Try.ntmps55
  go_wp2_with fail
  refine (word_calls T S L G _ _ _).mono ?_
  rintro e w1 ⟨rfl, hb⟩
  go_wp2_with fail
  go_ret
  exact ⟨rfl, Below.step _ hb⟩

/-- A right plan. -/
def PRight (T S L G : Int) : Prop := (1 ≤ T ∧ T ≤ 8) ∧ (1 ≤ S ∧ S ≤ 64) ∧ (1 ≤ L ∧ L ≤ 8) ∧ G ≤ 4294967295
instance : Decidable (PRight T S L G) := by unfold PRight; infer_instance
theorem within_yes (n m : Int) (h1 : 1 ≤ n) (h2 : n ≤ m) : Gives 147 #[.int .i64 n, .int .i64 m] (.bool true) := by
  intro w
  have hd : decide (n ≤ m) = true := by simpa using h2
  go_enter Try.func147, Try.ntmps147
  go_wp2
  go_ret
  exact ⟨by simp, Below.refl _ _⟩
theorem within_no (n m : Int) (h : ¬ (1 ≤ n ∧ n ≤ m)) : Gives 147 #[.int .i64 n, .int .i64 m] (.bool false) := by
  intro w
  by_cases h1 : 1 ≤ n
  · have h2 : ¬ n ≤ m := fun h2 => h ⟨h1, h2⟩
    go_enter Try.func147, Try.ntmps147
    go_wp2
    go_ret
    exact ⟨by simp, Below.refl _ _⟩
  · go_enter Try.func147, Try.ntmps147
    go_wp2
    go_ret
    exact ⟨rfl, Below.refl _ _⟩

theorem right_yes (h : PRight T S L G) : Gives 38 #[planV T S L G] (.int .i64 0) := by
  intro w
  obtain ⟨hT, hS, hL, hG⟩ := h
  go_enter Try.func38, Try.ntmps38
  go_wp2_with fail
  refine (within_yes _ _ hT.1 hT.2 _).mono ?_
  rintro e w1 ⟨rfl, hb⟩
  have C1 := ((Blk.new _ _ _).below' hb).cell
  go_wp2_with fail
  refine (within_yes _ _ hS.1 hS.2 _).mono ?_
  rintro e w2 ⟨rfl, hb2⟩
  have C2 := (((Blk.new _ _ _).below' hb).below' hb2).cell
  clear C1
  go_wp2_with fail
  refine (within_yes _ _ hL.1 hL.2 _).mono ?_
  rintro e w3 ⟨rfl, hb3⟩
  have C3 := ((((Blk.new _ _ _).below' hb).below' hb2).below' hb3).cell
  clear C2
  have hGd : decide (G ≤ 4294967295) = true := by simpa using hG
  go_wp2_with fail
  go_ret
  exact ⟨rfl, Below.step _ ((hb.trans (hb2.mono hb.size)).trans (hb3.mono (Nat.le_trans hb.size hb2.size)))⟩
theorem right_no (h : ¬ PRight T S L G) : Gives 38 #[planV T S L G] (.int .i64 1) := by
  intro w
  by_cases hT : 1 ≤ T ∧ T ≤ 8
  · by_cases hS : 1 ≤ S ∧ S ≤ 64
    · by_cases hL : 1 ≤ L ∧ L ≤ 8
      · have hG : ¬ G ≤ 4294967295 := fun hG => h ⟨hT, hS, hL, hG⟩
        go_enter Try.func38, Try.ntmps38
        go_wp2_with fail
        refine (within_yes _ _ hT.1 hT.2 _).mono ?_
        rintro e w1 ⟨rfl, hb⟩
        have C1 := ((Blk.new _ _ _).below' hb).cell
        go_wp2_with fail
        refine (within_yes _ _ hS.1 hS.2 _).mono ?_
        rintro e w2 ⟨rfl, hb2⟩
        have C2 := (((Blk.new _ _ _).below' hb).below' hb2).cell
        clear C1
        go_wp2_with fail
        refine (within_yes _ _ hL.1 hL.2 _).mono ?_
        rintro e w3 ⟨rfl, hb3⟩
        have C3 := ((((Blk.new _ _ _).below' hb).below' hb2).below' hb3).cell
        clear C2
        have hGd : decide (G ≤ 4294967295) = false := by simpa using hG
        go_wp2_with fail
        go_ret
        exact ⟨rfl, Below.step _ ((hb.trans (hb2.mono hb.size)).trans (hb3.mono (Nat.le_trans hb.size hb2.size)))⟩
      · go_enter Try.func38, Try.ntmps38
        go_wp2_with fail
        refine (within_yes _ _ hT.1 hT.2 _).mono ?_
        rintro e w1 ⟨rfl, hb⟩
        have C1 := ((Blk.new _ _ _).below' hb).cell
        go_wp2_with fail
        refine (within_yes _ _ hS.1 hS.2 _).mono ?_
        rintro e w2 ⟨rfl, hb2⟩
        have C2 := (((Blk.new _ _ _).below' hb).below' hb2).cell
        clear C1
        go_wp2_with fail
        refine (within_no _ _ hL _).mono ?_
        rintro e w3 ⟨rfl, hb3⟩
        go_wp2_with fail
        go_ret
        exact ⟨rfl, Below.step _ ((hb.trans (hb2.mono hb.size)).trans (hb3.mono (Nat.le_trans hb.size hb2.size)))⟩
    · go_enter Try.func38, Try.ntmps38
      go_wp2_with fail
      refine (within_yes _ _ hT.1 hT.2 _).mono ?_
      rintro e w1 ⟨rfl, hb⟩
      have C1 := ((Blk.new _ _ _).below' hb).cell
      go_wp2_with fail
      refine (within_no _ _ hS _).mono ?_
      rintro e w2 ⟨rfl, hb2⟩
      go_wp2_with fail
      go_ret
      exact ⟨rfl, Below.step _ (hb.trans (hb2.mono hb.size))⟩
  · go_enter Try.func38, Try.ntmps38
    go_wp2_with fail
    refine (within_no _ _ hT _).mono ?_
    rintro e w1 ⟨rfl, hb⟩
    go_wp2_with fail
    go_ret
    exact ⟨rfl, Below.step _ hb⟩
theorem rright_yes (h : PRight T S L G) : Gives 39 #[planV T S L G] (.bool true) := by
  intro w
  obtain ⟨⟨a, b⟩, ⟨c, d⟩, ⟨e, f⟩, g⟩ := h
  go_enter Try.func39, Try.ntmps39
  go_wp2
  go_ret
  exact ⟨by simp, (Below.refl _ _).alloc (Nat.le_refl _) _⟩
set_option maxHeartbeats 1000000 in
theorem rright_no (h : ¬ PRight T S L G) : Gives 39 #[planV T S L G] (.bool false) := by
  intro w
  by_cases h1 : 1 ≤ T
  · by_cases h2 : T ≤ 8
    · by_cases h3 : 1 ≤ S
      · by_cases h4 : S ≤ 64
        · by_cases h5 : 1 ≤ L
          · by_cases h6 : L ≤ 8
            · have h7 : ¬ G ≤ 4294967295 := fun hG => h ⟨⟨h1, h2⟩, ⟨h3, h4⟩, ⟨h5, h6⟩, hG⟩
              clear h
              go_enter Try.func39, Try.ntmps39
              go_wp2
              go_ret
              exact ⟨by simp, (Below.refl _ _).alloc (Nat.le_refl _) _⟩
            · clear h
              go_enter Try.func39, Try.ntmps39
              go_wp2
              go_ret
              exact ⟨rfl, (Below.refl _ _).alloc (Nat.le_refl _) _⟩
          · clear h
            go_enter Try.func39, Try.ntmps39
            go_wp2
            go_ret
            exact ⟨rfl, (Below.refl _ _).alloc (Nat.le_refl _) _⟩
        · clear h
          go_enter Try.func39, Try.ntmps39
          go_wp2
          go_ret
          exact ⟨rfl, (Below.refl _ _).alloc (Nat.le_refl _) _⟩
      · clear h
        go_enter Try.func39, Try.ntmps39
        go_wp2
        go_ret
        exact ⟨rfl, (Below.refl _ _).alloc (Nat.le_refl _) _⟩
    · clear h
      go_enter Try.func39, Try.ntmps39
      go_wp2
      go_ret
      exact ⟨rfl, (Below.refl _ _).alloc (Nat.le_refl _) _⟩
  · clear h
    go_enter Try.func39, Try.ntmps39
    go_wp2
    go_ret
    exact ⟨rfl, (Below.refl _ _).alloc (Nat.le_refl _) _⟩
end
end Go.Proofs.Ytgkobmmannkegaa
