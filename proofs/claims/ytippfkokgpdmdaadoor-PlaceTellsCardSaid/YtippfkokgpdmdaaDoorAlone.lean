/-
  A task that is done alone: each deed is done to a list of words, as a plain function; deed.Do's plain function.
-/
import Derived.Test.YtippfkokgpdmdaaDoorCellsDo
import Derived.Test.YtippfkokgpdmdaaDoorDrive
namespace Go.Proofs.YtippfkokgpdmdaaDoor
open Go Go.RowKit
set_option linter.unusedVariables false

/-- What a deed finds. -/
def dGet (ws : List Int) (d : D) : Int := if 1 ≤ d.k ∧ d.k ≤ 4 then wget ws d.at_ else 0
/-- The words behind a deed. -/
def dDo (ws : List Int) (d : D) : List Int := if 1 ≤ d.k ∧ d.k ≤ 4 then opDo ws d.k d.at_ d.a d.b else ws
theorem dDo_length (ws : List Int) (d : D) : (dDo ws d).length = ws.length := by unfold dDo; split <;> simp [opDo_length]
theorem dGet_load (ws : List Int) (at_ a b by_ : Int) : dGet ws ⟨1, at_, a, b, by_⟩ = wget ws at_ := by simp [dGet]
theorem dDo_load (ws : List Int) (at_ a b by_ : Int) : dDo ws ⟨1, at_, a, b, by_⟩ = ws := by simp [dDo, opDo, opNew, wset_self]
theorem dGet_store (ws : List Int) (at_ a b by_ : Int) : dGet ws ⟨2, at_, a, b, by_⟩ = wget ws at_ := by simp [dGet]
theorem dDo_store (ws : List Int) (at_ a b by_ : Int) : dDo ws ⟨2, at_, a, b, by_⟩ = wset ws at_ a := by simp [dDo, opDo, opNew]
theorem dGet_swap (ws : List Int) (at_ a b by_ : Int) : dGet ws ⟨3, at_, a, b, by_⟩ = wget ws at_ := by simp [dGet]
theorem dDo_swap (ws : List Int) (at_ a b by_ : Int) : dDo ws ⟨3, at_, a, b, by_⟩ = wset ws at_ (swp (wget ws at_) a b) := by simp [dDo, opDo, opNew]
theorem dGet_add (ws : List Int) (at_ a b by_ : Int) : dGet ws ⟨4, at_, a, b, by_⟩ = wget ws at_ := by simp [dGet]
theorem dDo_add (ws : List Int) (at_ a b by_ : Int) : dDo ws ⟨4, at_, a, b, by_⟩ = wset ws at_ ((wget ws at_ + a) % 18446744073709551616) := by simp [dDo, opDo, opNew]

/-- Where the task and the words are, when it is done alone, n deeds at most. -/
def runs {S : Type} (M : Mach S) : Nat → S → List Int → S × List Int
  | 0, s, ws => (s, ws)
  | n + 1, s, ws => if M.more s then runs M n (M.tell s (dGet ws (M.deed s))) (dDo ws (M.deed s)) else (s, ws)
/-- How many deeds these are. -/
def runN {S : Type} (M : Mach S) : Nat → S → List Int → Nat
  | 0, _, _ => 0
  | n + 1, s, ws => if M.more s then runN M n (M.tell s (dGet ws (M.deed s))) (dDo ws (M.deed s)) + 1 else 0
section
variable {S : Type} {M : Mach S} {N k : Nat} {s : S} {ws : List Int} {p : S × List Int} {c : Nat}
theorem runs_done (n : Nat) (h : M.more s = false) : runs M n s ws = (s, ws) := by cases n <;> simp [runs, h]
theorem runs_more (n : Nat) (h : M.more s = true) : runs M (n + 1) s ws = runs M n (M.tell s (dGet ws (M.deed s))) (dDo ws (M.deed s)) := by simp [runs, h]
theorem runN_done (n : Nat) (h : M.more s = false) : runN M n s ws = 0 := by cases n <;> simp [runN, h]
theorem runN_more (n : Nat) (h : M.more s = true) : runN M (n + 1) s ws = runN M n (M.tell s (dGet ws (M.deed s))) (dDo ws (M.deed s)) + 1 := by simp [runN, h]
theorem runs_length : ∀ (n : Nat) (s : S) (ws : List Int), (runs M n s ws).2.length = ws.length
  | 0, _, _ => rfl
  | n + 1, s, ws => by
    unfold runs
    split
    · rw [runs_length n, dDo_length]
    · rfl
/-- Behind k rounds of N at most. -/
def Left (M : Mach S) (N k : Nat) (s : S) (ws : List Int) (p : S × List Int) : Prop := runs M (N - k) s ws = p
theorem Left.start (M : Mach S) (N : Nat) (s : S) (ws : List Int) : Left M N 0 s ws (runs M N s ws) := rfl
theorem Left.step (h : Left M N k s ws p) (hk : k < N) (hm : M.more s = true) : Left M N (k + 1) (M.tell s (dGet ws (M.deed s))) (dDo ws (M.deed s)) p := by
  unfold Left at *
  rw [show N - k = (N - (k + 1)) + 1 by omega, runs_more _ hm] at h
  exact h
theorem Left.stop (h : Left M N k s ws p) (hm : M.more s = false) : p = (s, ws) := by
  unfold Left at h
  rw [runs_done _ hm] at h; exact h.symm
theorem Left.out (h : Left M N k s ws p) (hk : N ≤ k) : p = (s, ws) := by
  unfold Left at h
  rw [show N - k = 0 by omega] at h; exact h.symm
/-- The same, with the number of deeds. -/
def LeftN (M : Mach S) (N k : Nat) (s : S) (ws : List Int) (c : Nat) : Prop := k + runN M (N - k) s ws = c
theorem LeftN.start (M : Mach S) (N : Nat) (s : S) (ws : List Int) : LeftN M N 0 s ws (runN M N s ws) := by simp [LeftN]
theorem LeftN.step (h : LeftN M N k s ws c) (hk : k < N) (hm : M.more s = true) : LeftN M N (k + 1) (M.tell s (dGet ws (M.deed s))) (dDo ws (M.deed s)) c := by
  unfold LeftN at *
  rw [show N - k = (N - (k + 1)) + 1 by omega, runN_more _ hm] at h
  omega
theorem LeftN.stop (h : LeftN M N k s ws c) (hm : M.more s = false) : c = k := by
  unfold LeftN at h
  rw [runN_done _ hm] at h; omega
theorem LeftN.out (h : LeftN M N k s ws c) (hk : N ≤ k) : c = k := by
  unfold LeftN at h
  rw [show N - k = 0 by omega] at h; simp [runN] at h; omega
end
end Go.Proofs.YtippfkokgpdmdaaDoor
