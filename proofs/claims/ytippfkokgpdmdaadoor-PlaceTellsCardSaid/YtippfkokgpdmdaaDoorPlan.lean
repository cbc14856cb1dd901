/-
  What plan's functions, and the document's (sundialref08), compute of any plan: sums that wrap round. Each only makes memory.
-/
import Derived.Test.YtippfkokgpdmdaaDoorProg
import Derived.Test.YtippfkokgpdmdaaDoorLib
namespace Go.Proofs.YtippfkokgpdmdaaDoor
set_option linter.unusedVariables false
open Go Go.RowKit

/-! ### Numbers that wrap round -/
theorem wrap64_def (x : Int) : wrap64 x = (x + 9223372036854775808) % 18446744073709551616 - 9223372036854775808 := by unfold wrap64; rfl
theorem wrap64_eq {a b : Int} (h : ∃ k : Int, a = b + 18446744073709551616 * k) : wrap64 a = wrap64 b := by
  obtain ⟨k, rfl⟩ := h
  rw [wrap64_def, wrap64_def]; omega
theorem wrap64_to (a : Int) : ∃ k : Int, wrap64 a = a + 18446744073709551616 * k := ⟨-((a + 9223372036854775808) / 18446744073709551616), by rw [wrap64_def]; omega⟩
theorem wrap64_addl (a b : Int) : wrap64 (wrap64 a + b) = wrap64 (a + b) := by
  obtain ⟨k, hk⟩ := wrap64_to a
  exact wrap64_eq ⟨k, by rw [hk]; omega⟩
theorem wrap64_addr (a b : Int) : wrap64 (a + wrap64 b) = wrap64 (a + b) := by rw [Int.add_comm, wrap64_addl, Int.add_comm]
theorem wrap64_subl (a b : Int) : wrap64 (wrap64 a - b) = wrap64 (a - b) := by rw [Int.sub_eq_add_neg, wrap64_addl, ← Int.sub_eq_add_neg]
theorem wrap64_mull (a b : Int) : wrap64 (wrap64 a * b) = wrap64 (a * b) := by
  obtain ⟨k, hk⟩ := wrap64_to a
  exact wrap64_eq ⟨k * b, by rw [hk, Int.add_mul, Int.mul_assoc]⟩
theorem wrap64_mulr (a b : Int) : wrap64 (a * wrap64 b) = wrap64 (a * b) := by rw [Int.mul_comm, wrap64_mull, Int.mul_comm]
theorem wrap64_id (a : Int) : wrap64 (wrap64 a) = wrap64 a := by have := wrap64_addl a 0; simpa using this

abbrev planV (T S L G : Int) : Value := .agg #[.int .i64 T, .int .i64 S, .int .i64 L, .int .u64 G]

/-- A function that computes a number, and at most makes memory. -/
abbrev Gives (f : FuncId) (args : Array Value) (v : Value) : Prop := ∀ w : World, Calls Tryd.prog f args w fun e w' => e = .returned v ∧ Below w.heap.size w w'

theorem ret_i64 {a b : Int} (h : a = b) : Ending.returned (.int .i64 a) = .returned (.int .i64 b) := by rw [h]
theorem Below.step {w w1 : World} (o : Obj) (hb : Below (w.alloc o).heap.size (w.alloc o) w1) : Below w.heap.size w w1 :=
  ((Below.refl _ _).alloc (Nat.le_refl _) _).trans (hb.mono (by simp))

section
variable (T S L G : Int)

theorem pin_calls (i : Int) : Gives 76 #[planV T S L G, .int .i64 i] (.int .i64 (wrap64 (4 + i))) := by
  intro w
  go_enter Tryd.func76, Tryd.ntmps76
  go_wp2
  go_ret
  exact ⟨rfl, (Below.refl _ _).alloc (Nat.le_refl _) _⟩
theorem sleep_calls (i : Int) : Gives 65 #[planV T S L G, .int .i64 i] (.int .i64 (wrap64 (4 + T + i))) := by
  intro w
  go_enter Tryd.func65, Tryd.ntmps65
  go_wp2_with fail
  refine (pin_calls T S L G _ _).mono ?_
  rintro e w1 ⟨rfl, hb⟩
  go_wp2_with fail
  go_ret
  exact ⟨ret_i64 (wrap64_addl _ _), Below.step _ hb⟩
theorem sem_calls (i : Int) : Gives 37 #[planV T S L G, .int .i64 i] (.int .i64 (wrap64 (4 + 2 * T + i))) := by
  intro w
  go_enter Tryd.func37, Tryd.ntmps37
  go_wp2_with fail
  refine (sleep_calls T S L G _ _).mono ?_
  rintro e w1 ⟨rfl, hb⟩
  go_wp2_with fail
  go_ret
  refine ⟨ret_i64 ?_, Below.step _ hb⟩
  rw [wrap64_addl]; congr 1; omega
theorem head_calls : Gives 64 #[planV T S L G] (.int .i64 (wrap64 (4 + 3 * T))) := by
  intro w
  go_enter Tryd.func64, Tryd.ntmps64
  go_wp2_with fail
  refine (sem_calls T S L G _ _).mono ?_
  rintro e w1 ⟨rfl, hb⟩
  go_wp2_with fail
  go_ret
  refine ⟨ret_i64 ?_, Below.step _ hb⟩
  congr 1; omega
theorem slots_calls : Gives 62 #[planV T S L G] (.int .i64 (wrap64 (4 + 3 * T + L))) := by
  intro w
  go_enter Tryd.func62, Tryd.ntmps62
  go_wp2_with fail
  have C := (Blk.new w [.int .i64 T, .int .i64 S, .int .i64 L, .int .u64 G] 34).cell
  refine wp_region_reads (by kernel_rfl) (by kernel_rfl) ?_
  repeat (quiet_step ((go_at_call 64; exact calls_later (head_calls _ _ _ _ _))))
  refine wpQuiet_nil ?_
  intro w1 hb
  go_wp2_with fail
  go_ret
  refine ⟨ret_i64 ?_, Below.step _ hb⟩
  simp only [wrap64_addl, IntWalk.i64_left]
theorem words_calls : Gives 33 #[planV T S L G] (.int .i64 (wrap64 (4 + 3 * T + L + S * (6 + L)))) := by
  intro w
  go_enter Tryd.func33, Tryd.ntmps33
  go_wp2_with fail
  refine wp_region_reads (by kernel_rfl) (by kernel_rfl) ?_
  repeat (quiet_step ((go_at_call 62; exact calls_later (slots_calls _ _ _ _ _))))
  refine wpQuiet_nil ?_
  intro w1 hb
  go_wp2_with fail
  go_ret
  refine ⟨ret_i64 ?_, Below.step _ hb⟩
  simp only [wrap64_addl, wrap64_addr, wrap64_mulr, IntWalk.i64_left]
theorem word_calls (slot k : Int) : Gives 63 #[planV T S L G, .int .i64 slot, .int .i64 k] (.int .i64 (wrap64 (4 + 3 * T + L + (slot - 1) * (6 + L) + k))) := by
  intro w
  go_enter Tryd.func63, Tryd.ntmps63
  go_wp2_with fail
  refine wp_region_reads (by kernel_rfl) (by kernel_rfl) ?_
  repeat (quiet_step ((go_at_call 62; exact calls_later (slots_calls _ _ _ _ _))))
  refine wpQuiet_nil ?_
  intro w1 hb
  go_wp2_with fail
  go_ret
  refine ⟨ret_i64 ?_, Below.step _ hb⟩
  simp only [wrap64_addl, wrap64_addr, wrap64_mulr, wrap64_mull, IntWalk.i64_left]
/-- plan.Next ¦ sundialref08.Next. -/
def nextP (T L slot level : Int) : Int := if slot = 0 then wrap64 (4 + 3 * T + level) else wrap64 (4 + 3 * T + L + (slot - 1) * (6 + L) + 6 + level)
theorem next_calls (slot level : Int) : Gives 36 #[planV T S L G, .int .i64 slot, .int .i64 level] (.int .i64 (nextP T L slot level)) := by
  intro w
  by_cases h : slot = 0
  · subst h
    go_enter Tryd.func36, Tryd.ntmps36
    go_wp2_with fail
    refine (head_calls T S L G _).mono ?_
    rintro e w1 ⟨rfl, hb⟩
    go_wp2_with fail
    go_ret
    exact ⟨ret_i64 (by simp only [nextP, ↓reduceIte, wrap64_addl]), Below.step _ hb⟩
  · have hd : (slot == 0) = false := by simpa using h
    go_enter Tryd.func36, Tryd.ntmps36
    go_wp2_with fail
    refine (word_calls T S L G _ _ _).mono ?_
    rintro e w1 ⟨rfl, hb⟩
    go_wp2_with fail
    go_ret
    exact ⟨ret_i64 (by simp only [nextP, h, ↓reduceIte, wrap64_addl]), Below.step _ hb⟩
/-- The k-th word of a slot. -/
def slotP (T L slot k : Int) : Int := wrap64 (4 + 3 * T + L + (slot - 1) * (6 + L) + k)
theorem state_calls (slot : Int) : Gives 34 #[planV T S L G, .int .i64 slot] (.int .i64 (slotP T L slot 0)) := by
  intro w
  go_enter Tryd.func34, Tryd.ntmps34
  go_wp2_with fail
  refine (word_calls T S L G _ _ _).mono ?_
  rintro e w1 ⟨rfl, hb⟩
  go_wp2_with fail
  go_ret
  exact ⟨ret_i64 (by simp only [slotP, Int.add_zero]), Below.step _ hb⟩
theorem hold_calls (slot : Int) : Gives 35 #[planV T S L G, .int .i64 slot] (.int .i64 (slotP T L slot 4)) := by
  intro w
  go_enter Tryd.func35, Tryd.ntmps35
  go_wp2_with fail
  refine (word_calls T S L G _ _ _).mono ?_
  rintro e w1 ⟨rfl, hb⟩
  go_wp2_with fail
  go_ret
  exact ⟨rfl, Below.step _ hb⟩
theorem succ_calls (slot : Int) : Gives 38 #[planV T S L G, .int .i64 slot] (.int .i64 (slotP T L slot 5)) := by
  intro w
  go_enter Tryd.func38, Tryd.ntmps38
  go_wp2_with fail
  refine (word_calls T S L G _ _ _).mono ?_
  rintro e w1 ⟨rfl, hb⟩
  go_wp2_with fail
  go_ret
  exact ⟨rfl, Below.step _ hb⟩

/-- A right plan. -/
def PRight (T S L G : Int) : Prop := (1 ≤ T ∧ T ≤ 8) ∧ (1 ≤ S ∧ S ≤ 64) ∧ (1 ≤ L ∧ L ≤ 8) ∧ G ≤ 4294967295
instance : Decidable (PRight T S L G) := by unfold PRight; infer_instance
theorem within_yes (n m : Int) (h1 : 1 ≤ n) (h2 : n ≤ m) : Gives 61 #[.int .i64 n, .int .i64 m] (.bool true) := by
  intro w
  have hd : decide (n ≤ m) = true := by simpa using h2
  go_enter Tryd.func61, Tryd.ntmps61
  go_wp2
  go_ret
  exact ⟨by simp, Below.refl _ _⟩
theorem within_no (n m : Int) (h : ¬ (1 ≤ n ∧ n ≤ m)) : Gives 61 #[.int .i64 n, .int .i64 m] (.bool false) := by
  intro w
  by_cases h1 : 1 ≤ n
  · have h2 : ¬ n ≤ m := fun h2 => h ⟨h1, h2⟩
    go_enter Tryd.func61, Tryd.ntmps61
    go_wp2
    go_ret
    exact ⟨by simp, Below.refl _ _⟩
  · go_enter Tryd.func61, Tryd.ntmps61
    go_wp2
    go_ret
    exact ⟨rfl, Below.refl _ _⟩

theorem right_yes (h : PRight T S L G) : Gives 32 #[planV T S L G] (.int .i64 0) := by
  intro w
  obtain ⟨hT, hS, hL, hG⟩ := h
  go_enter Tryd.func32, Tryd.ntmps32
  go_wp2_with fail
  refine (within_yes _ _ hT.1 hT.2 _).mono ?_
  rintro e w1 ⟨rfl, hb⟩
  have C1 := ((Blk.new _ _ _).below' hb).cell
  go_wp2_with fail
  refine (within_yes _ _ hS.1 hS.2 _).mono ?_
  rintro e w2 ⟨rfl, hb2⟩
  have C2 := (((Blk.new _ _ _).below' hb).below' hb2).cell
  clear C1
  go_wp2_with fail
  refine (within_yes _ _ hL.1 hL.2 _).mono ?_
  rintro e w3 ⟨rfl, hb3⟩
  have C3 := ((((Blk.new _ _ _).below' hb).below' hb2).below' hb3).cell
  clear C2
  have hGd : decide (G ≤ 4294967295) = true := by simpa using hG
  go_wp2_with fail
  go_ret
  exact ⟨rfl, Below.step _ ((hb.trans (hb2.mono hb.size)).trans (hb3.mono (Nat.le_trans hb.size hb2.size)))⟩
theorem right_no (h : ¬ PRight T S L G) : Gives 32 #[planV T S L G] (.int .i64 1) := by
  intro w
  by_cases hT : 1 ≤ T ∧ T ≤ 8
  · by_cases hS : 1 ≤ S ∧ S ≤ 64
    · by_cases hL : 1 ≤ L ∧ L ≤ 8
      · have hG : ¬ G ≤ 4294967295 := fun hG => h ⟨hT, hS, hL, hG⟩
        go_enter Tryd.func32, Tryd.ntmps32
        go_wp2_with fail
        refine (within_yes _ _ hT.1 hT.2 _).mono ?_
        rintro e w1 ⟨rfl, hb⟩
        have C1 := ((Blk.new _ _ _).below' hb).cell
        go_wp2_with fail
        refine (within_yes _ _ hS.1 hS.2 _).mono ?_
        rintro e w2 ⟨rfl, hb2⟩
        have C2 := (((Blk.new _ _ _).below' hb).below' hb2).cell
        clear C1
        go_wp2_with fail
        refine (within_yes _ _ hL.1 hL.2 _).mono ?_
        rintro e w3 ⟨rfl, hb3⟩
        have C3 := ((((Blk.new _ _ _).below' hb).below' hb2).below' hb3).cell
        clear C2
        have hGd : decide (G ≤ 4294967295) = false := by simpa using hG
        go_wp2_with fail
        go_ret
        exact ⟨rfl, Below.step _ ((hb.trans (hb2.mono hb.size)).trans (hb3.mono (Nat.le_trans hb.size hb2.size)))⟩
      · go_enter Tryd.func32, Tryd.ntmps32
        go_wp2_with fail
        refine (within_yes _ _ hT.1 hT.2 _).mono ?_
        rintro e w1 ⟨rfl, hb⟩
        have C1 := ((Blk.new _ _ _).below' hb).cell
        go_wp2_with fail
        refine (within_yes _ _ hS.1 hS.2 _).mono ?_
        rintro e w2 ⟨rfl, hb2⟩
        have C2 := (((Blk.new _ _ _).below' hb).below' hb2).cell
        clear C1
        go_wp2_with fail
        refine (within_no _ _ hL _).mono ?_
        rintro e w3 ⟨rfl, hb3⟩
        go_wp2_with fail
        go_ret
        exact ⟨rfl, Below.step _ ((hb.trans (hb2.mono hb.size)).trans (hb3.mono (Nat.le_trans hb.size hb2.size)))⟩
    · go_enter Tryd.func32, Tryd.ntmps32
      go_wp2_with fail
      refine (within_yes _ _ hT.1 hT.2 _).mono ?_
      rintro e w1 ⟨rfl, hb⟩
      have C1 := ((Blk.new _ _ _).below' hb).cell
      go_wp2_with fail
      refine (within_no _ _ hS _).mono ?_
      rintro e w2 ⟨rfl, hb2⟩
      go_wp2_with fail
      go_ret
      exact ⟨rfl, Below.step _ (hb.trans (hb2.mono hb.size))⟩
  · go_enter Tryd.func32, Tryd.ntmps32
    go_wp2_with fail
    refine (within_no _ _ hT _).mono ?_
    rintro e w1 ⟨rfl, hb⟩
    go_wp2_with fail
    go_ret
    exact ⟨rfl, Below.step _ hb⟩
theorem rright_yes (h : PRight T S L G) : Gives 74 #[planV T S L G] (.bool true) := by
  intro w
  obtain ⟨⟨a, b⟩, ⟨c, d⟩, ⟨e, f⟩, g⟩ := h
  go_enter Tryd.func74, Tryd.ntmps74
  go_wp2
  go_ret
  exact ⟨by simp, (Below.refl _ _).alloc (Nat.le_refl _) _⟩
set_option maxHeartbeats 1000000 in
theorem rright_no (h : ¬ PRight T S L G) : Gives 74 #[planV T S L G] (.bool false) := by
  intro w
  by_cases h1 : 1 ≤ T
  · by_cases h2 : T ≤ 8
    · by_cases h3 : 1 ≤ S
      · by_cases h4 : S ≤ 64
        · by_cases h5 : 1 ≤ L
          · by_cases h6 : L ≤ 8
            · have h7 : ¬ G ≤ 4294967295 := fun hG => h ⟨⟨h1, h2⟩, ⟨h3, h4⟩, ⟨h5, h6⟩, hG⟩
              clear h
              go_enter Tryd.func74, Tryd.ntmps74
              go_wp2
              go_ret
              exact ⟨by simp, (Below.refl _ _).alloc (Nat.le_refl _) _⟩
            · clear h
              go_enter Tryd.func74, Tryd.ntmps74
              go_wp2
              go_ret
              exact ⟨rfl, (Below.refl _ _).alloc (Nat.le_refl _) _⟩
          · clear h
            go_enter Tryd.func74, Tryd.ntmps74
            go_wp2
            go_ret
            exact ⟨rfl, (Below.refl _ _).alloc (Nat.le_refl _) _⟩
        · clear h
          go_enter Tryd.func74, Tryd.ntmps74
          go_wp2
          go_ret
          exact ⟨rfl, (Below.refl _ _).alloc (Nat.le_refl _) _⟩
      · clear h
        go_enter Tryd.func74, Tryd.ntmps74
        go_wp2
        go_ret
        exact ⟨rfl, (Below.refl _ _).alloc (Nat.le_refl _) _⟩
    · clear h
      go_enter Tryd.func74, Tryd.ntmps74
      go_wp2
      go_ret
      exact ⟨rfl, (Below.refl _ _).alloc (Nat.le_refl _) _⟩
  · clear h
    go_enter Tryd.func74, Tryd.ntmps74
    go_wp2
    go_ret
    exact ⟨rfl, (Below.refl _ _).alloc (Nat.le_refl _) _⟩
end
end Go.Proofs.YtippfkokgpdmdaaDoor
