/-
  A task that is asked for deeds and told what was found, driven by a list: as a plain function; what a task's Next and Tell must do in memory.
-/
import Derived.Test.YtippfkokgpdmdaaDoorTape
import Derived.Test.YtippfkokgpdmdaaDoorPlan
namespace Go.Proofs.YtippfkokgpdmdaaDoor
set_option linter.unusedVariables false
open Go Go.RowKit

structure Mach (S : Type) where
  more : S → Bool
  deed : S → D
  tell : S → Int → S

/-- The deeds that are asked for while the list lasts, and once more; and the state then. -/
def drive {S : Type} (M : Mach S) : List Int → S → List D × S
  | [], s => if M.more s then ([M.deed s], s) else ([], s)
  | x :: xs, s => if M.more s then (M.deed s :: (drive M xs (M.tell s x)).1, (drive M xs (M.tell s x)).2) else ([], s)

section
variable {S : Type} {M : Mach S}
theorem drive_done (l : List Int) {s : S} (h : M.more s = false) : drive M l s = ([], s) := by cases l <;> simp [drive, h]
theorem drive_nil {s : S} (h : M.more s = true) : drive M [] s = ([M.deed s], s) := by simp [drive, h]
theorem drive_cons (x : Int) (l : List Int) {s : S} (h : M.more s = true) : drive M (x :: l) s = (M.deed s :: (drive M l (M.tell s x)).1, (drive M l (M.tell s x)).2) := by simp [drive, h]
theorem drive_len (l : List Int) (s : S) : (drive M l s).1.length ≤ l.length + 1 := by
  induction l generalizing s with
  | nil => simp only [drive]; split <;> simp
  | cons x l ih => simp only [drive]; split <;> simp; exact ih _

/-- Behind k rounds: what has been asked for, and where the task is; or all is over. -/
def Driven (M : Mach S) (ins : List Int) (s0 : S) (k : Nat) (ds : List D) (s : S) : Prop :=
  ds.length = k ∧ ((k ≤ ins.length ∧ drive M ins s0 = (ds ++ (drive M (ins.drop k) s).1, (drive M (ins.drop k) s).2)) ∨ (k = ins.length + 1 ∧ drive M ins s0 = (ds, s)))
theorem Driven.start (ins : List Int) (s0 : S) : Driven M ins s0 0 [] s0 := ⟨rfl, .inl ⟨Nat.zero_le _, by simp⟩⟩
theorem Driven.done {ins : List Int} {s0 : S} {k : Nat} {ds : List D} {s : S} (h : Driven M ins s0 k ds s) (hm : M.more s = false) : drive M ins s0 = (ds, s) := by
  rcases h.2 with ⟨_, h⟩ | ⟨_, h⟩
  · rw [h, drive_done _ hm, List.append_nil]
  · exact h
theorem Driven.out {ins : List Int} {s0 : S} {k : Nat} {ds : List D} {s : S} (h : Driven M ins s0 k ds s) (hk : ¬ k ≤ ins.length) : drive M ins s0 = (ds, s) := by
  rcases h.2 with ⟨h1, _⟩ | ⟨_, h⟩
  · exact absurd h1 hk
  · exact h
theorem Driven.told {ins : List Int} {s0 : S} {k : Nat} {ds : List D} {s : S} (h : Driven M ins s0 k ds s) (hm : M.more s = true) (hk : k < ins.length) : Driven M ins s0 (k + 1) (ds ++ [M.deed s]) (M.tell s (ins[k])) := by
  refine ⟨by simp [h.1], .inl ⟨hk, ?_⟩⟩
  rcases h.2 with ⟨_, h2⟩ | ⟨h1, _⟩
  · rw [h2, List.drop_eq_getElem_cons hk, drive_cons _ _ hm]; simp
  · omega
theorem Driven.last {ins : List Int} {s0 : S} {k : Nat} {ds : List D} {s : S} (h : Driven M ins s0 k ds s) (hm : M.more s = true) (hk : k = ins.length) : Driven M ins s0 (k + 1) (ds ++ [M.deed s]) s := by
  refine ⟨by simp [h.1], .inr ⟨by omega, ?_⟩⟩
  rcases h.2 with ⟨_, h2⟩ | ⟨h1, _⟩
  · rw [h2, hk, List.drop_length, drive_nil hm]
  · omega
end

/-- The document's text and the task go side by side: the tape has not stopped, the task is in st. -/
def Sync {S : Type} (M : Mach S) (ins : List Int) (s0 st : S) (s : TapeS) : Prop :=
  s.stop = false ∧ s.out.length ≤ ins.length ∧ drive M ins s0 = (s.out ++ (drive M (ins.drop s.out.length) st).1, (drive M (ins.drop s.out.length) st).2)
/-- The tape has stopped, as the task was in st. -/
def Fin {S : Type} (M : Mach S) (ins : List Int) (s0 st : S) (s : TapeS) : Prop := s = ⟨(drive M ins s0).1, true⟩ ∧ (drive M ins s0).2 = st ∧ M.more st = true
section
variable {S : Type} {M : Mach S} {ins : List Int} {s0 st : S} {s : TapeS}
theorem Sync.start (M : Mach S) (ins : List Int) (s0 : S) : Sync M ins s0 s0 ⟨[], false⟩ := ⟨rfl, Nat.zero_le _, by simp⟩
theorem Sync.ask (h : Sync M ins s0 st s) (hm : M.more st = true) (d : D) (hd : M.deed st = d) :
    (∃ v, tdo ins s d = (v, ⟨s.out ++ [d], false⟩) ∧ v ∈ ins ∧ Sync M ins s0 (M.tell st v) (tdo ins s d).2) ∨ (tdo ins s d = (0, ⟨s.out ++ [d], true⟩) ∧ Fin M ins s0 st (tdo ins s d).2) := by
  obtain ⟨h1, h2, h3⟩ := h
  subst hd
  by_cases hlt : s.out.length < ins.length
  · have e : tdo ins s (M.deed st) = (ins[s.out.length], ⟨s.out ++ [M.deed st], false⟩) := by simp [tdo, h1, hlt, List.getD]
    refine .inl ⟨_, e, List.getElem_mem _, ?_⟩
    rw [e]
    refine ⟨rfl, by simp; omega, ?_⟩
    rw [h3, List.drop_eq_getElem_cons hlt, drive_cons _ _ hm]; simp
  · have e : tdo ins s (M.deed st) = (0, ⟨s.out ++ [M.deed st], true⟩) := by simp [tdo, h1, hlt]
    refine .inr ⟨e, ?_⟩
    rw [e]
    have hl : s.out.length = ins.length := by omega
    rw [hl, List.drop_length, drive_nil hm] at h3
    refine ⟨by rw [h3], by rw [h3], hm⟩
theorem Fin.ask (h : Fin M ins s0 st s) (d : D) : tdo ins s d = (0, s) := by
  rw [h.1]; simp [tdo]
theorem Sync.done (h : Sync M ins s0 st s) (hm : M.more st = false) : s = ⟨(drive M ins s0).1, M.more (drive M ins s0).2⟩ ∧ (drive M ins s0).2 = st := by
  obtain ⟨h1, h2, h3⟩ := h
  rw [drive_done _ hm, List.append_nil] at h3
  obtain ⟨o, b⟩ := s
  simp only at h1 h3
  rw [h3]
  simp [h1, hm]
theorem Fin.done (h : Fin M ins s0 st s) : s = ⟨(drive M ins s0).1, M.more (drive M ins s0).2⟩ ∧ (drive M ins s0).2 = st := by
  refine ⟨?_, h.2.1⟩
  rw [h.2.1, h.2.2]; exact h.1
theorem Sync.few (h : Sync M ins s0 st s) (hn : ins.length ≤ 4000) : s.out.length ≤ 4096 := by have := h.2.1; omega
theorem Fin.few (h : Fin M ins s0 st s) (hn : ins.length ≤ 4000) : s.out.length ≤ 4096 := by
  rw [h.1]; have := drive_len (M := M) ins s0; simp only; omega
end

/-- A task in memory, behind the pointer tp: its Next is function N, its Tell function T; it lies in the blocks of F. -/
structure MachRep (N T : FuncId) (tp : Value) {S : Type} (M : Mach S) (R : World → S → Prop) (F : Nat → Prop) : Prop where
  keep : ∀ (w w' : World) (s : S) (X : Nat → Prop), R w s → Mod X w w' → (∀ k, F k → ¬ X k) → R w' s
  nextY : ∀ (w : World) (s : S), R w s → M.more s = true → Calls Tryd.prog N #[tp] w fun e w' => e = .returned (.tuple #[(M.deed s).val, .bool true]) ∧ Below w.heap.size w w'
  nextN : ∀ (w : World) (s : S), R w s → M.more s = false → Calls Tryd.prog N #[tp] w fun e w' => e = .returned (.tuple #[.agg #[.int .i64 0, .int .i64 0, .int .u64 0, .int .u64 0, .int .u64 0], .bool false]) ∧ Below w.heap.size w w'
  tell : ∀ (w : World) (s : S) (x : Int), R w s → Calls Tryd.prog T #[tp, .int .u64 x] w fun e w' => e = .returned (.tuple #[]) ∧ R w' (M.tell s x) ∧ Mod F w w'
end Go.Proofs.YtippfkokgpdmdaaDoor
