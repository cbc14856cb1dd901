/-
  A range over a function that does deeds of its own between two rounds (chapter 11, Steps): what the function promises, and the law for the statement.
-/
import Derived.Test.YtippfkokgpdmdaaDoorLib
import Derived.RangeFuncFrom
import Derived.RangeFuncCalls
namespace Go.Proofs.YtippfkokgpdmdaaDoor
open Go Go.RowKit
set_option linter.unusedVariables false

/-- What a function that is ranged over promises, which keeps a state of its own in cells (own s: its blocks; Ka pre s: what they hold behind the rounds pre): every one of all is handed to yield, in order, until a round says no. -/
def SeqTask {α σ : Type} (F : Fence) (n : Nat) (P : Program) (g : Nat) (lb : Array Value) (encs : α → Array Value) (own : σ → Nat → Prop) (Ka : List α → σ → World → Prop) (all : List α) : Prop :=
  ∀ (l : Nat) (J Jx : List α → σ → World → Prop) (s0 : σ) (W : World),
    (∀ pre s s' W1 W2, J pre s W1 → Mod (own s) W1 W2 → (∀ k, own s' k → own s k ∨ W1.heap.size ≤ k) → J pre s' W2) →
    (∀ pre x rest s W1, all = pre ++ x :: rest → J pre s W1 → Ka (pre ++ [x]) s W1 → YieldAt F (n - 1) P l (encs x) W1 fun e W' =>
      (e = .returned (.bool true) ∧ J (pre ++ [x]) s W' ∧ Ka (pre ++ [x]) s W') ∨ (e = .returned (.bool false) ∧ Jx (pre ++ [x]) s W')) →
    J [] s0 W → Ka [] s0 W →
    CallsIn F n P g (#[.func (.yield l) #[] #[]] ++ lb) W fun e W' => (∃ v, e = .returned v) ∧ ((∃ s, J all s W' ∧ Ka all s W') ∨ (∃ pre s, pre <+: all ∧ Jx pre s W'))

/-- How the body of a round may be left. -/
def taskPost {α σ : Type} (I : List α → σ → World → Prop) (Ix : Code → List α → σ → World → Prop) (Ka : List α → σ → World → Prop) (xs : List α) (s : σ) (W : World) : Exit → Act → World → Prop
  | .normal, _, W' => KeepsOthers W W' ∧ I xs s W' ∧ Ka xs s W'
  | .ret, _, W' => KeepsOthers W W' ∧ Ix .ret xs s W'
  | .exit id, _, W' => KeepsOthers W W' ∧ Ix (.exit id) xs s W'
  | .goto t, _, W' => KeepsOthers W W' ∧ Ix (.goto t) xs s W'
  | .panic _, _, _ => False
  | .outgrown, _, _ => False

/-- What is said at (xs, s) abides a turn of one block that holds no cells and lies at or beyond B. -/
def Keeps {α σ : Type} (B : Nat) (I : List α → σ → World → Prop) : Prop :=
  ∀ xs s W W' row, I xs s W → W.grownBy W' row → (∀ r, row = some r → B ≤ r ∧ ∃ o : Obj, W.heap[r]? = some o ∧ o.isCells = false) → I xs s W'
theorem Keeps.putObj {α σ : Type} {B : Nat} {I : List α → σ → World → Prop} (h : Keeps B I) {xs : List α} {s : σ} {W : World} {l : Nat} {o : Obj} (o' : Obj) (hs : I xs s W) (hB : B ≤ l) (hl : W.heap[l]? = some o) (ho : o.isCells = false) : I xs s (W.putObj l o') :=
  h xs s W _ (some l) hs (grownBy_putObj' W l o') (fun r e => by cases e; exact ⟨hB, o, hl, ho⟩)
theorem Keeps.alloc {α σ : Type} {B : Nat} {I : List α → σ → World → Prop} (h : Keeps B I) {xs : List α} {s : σ} {W : World} (o : Obj) (hs : I xs s W) : I xs s (W.alloc o) :=
  h xs s W _ none hs (World.grownBy_alloc W o none) (fun r e => by cases e)

/-- The statement 'for .. := range g' over such a function. -/
theorem wpIn_rangeFunc_task {F : Fence} {n : Nat} {P : Program} {α σ : Type} {g : Operand} {ps : Array Tmp} {assign body : Code} {Q : Exit → Act → World → Prop} {a : Act} {w : World}
    (hro : F.round = none) (h1 : 1 ≤ n) {gf : Nat} {lb : Array Value} (hg : a.eval g = .func (.func gf) #[] lb) (hFg : F.fn gf) (eg : ∀ args w, (callFunc gf args).run P w = .ok (.enter gf args) w)
    {encs : α → Array Value} {own : σ → Nat → Prop} {Ka : List α → σ → World → Prop} {all : List α} (hseq : SeqTask F (n - 1) P gf lb encs own Ka all) (hKa : Keeps w.heap.size Ka) (hps : ∀ x, (encs x).size = ps.size)
    (s0 : σ) (hs0 : ∀ k, own s0 k → k < w.heap.size)
    (I : List α → σ → World → Prop) (Ix : Code → List α → σ → World → Prop) (hI : Keeps w.heap.size I) (hIx : ∀ c, Keeps w.heap.size (Ix c))
    (hIm : ∀ pre s s' W1 W2, I pre s W1 → Mod (own s) W1 W2 → (∀ k, own s' k → own s k ∨ W1.heap.size ≤ k) → I pre s' W2)
    (h0 : I [] s0 w) (hk0 : Ka [] s0 w) (Ax : α → Act → World → Prop) (hAx : ∀ x a' W l o o', Ax x a' W → W.heap[l]? = some o → o.isCells = false → Ax x a' (W.putObj l o'))
    (hassign : ∀ (l : Nat) (pre : List α) (x : α) (rest : List α) (s : σ) (W : World) (K : Act → World → Prop), all = pre ++ x :: rest → I pre s W → Ka (pre ++ [x]) s W →
      (∀ a' W', KeepsOthers W W' → I pre s W' → Ka (pre ++ [x]) s W' → Ax x a' W' → K a' W') →
      assign.wpIn (F.inRound l) (n - 1 - 1) P (Exit.then K (fun _ _ _ => False)) { tmps := (ps.zip (encs x)).foldl (fun t (p, v) => t.setIfInBounds p v) a.tmps, defers := [] } W)
    (hbody : ∀ (l : Nat) (pre : List α) (x : α) (rest : List α) (s : σ) (a' : Act) (W : World), all = pre ++ x :: rest → I pre s W → Ka (pre ++ [x]) s W → Ax x a' W → body.wpIn (F.inRound l) (n - 1 - 1) P (taskPost I Ix Ka (pre ++ [x]) s W) a' W)
    (hdone : ∀ (D : Nat) (s : σ) (W : World), w.heap.size ≤ D → I all s W → Ka all s W → W.heap[D]? = some (.deferred (some [])) → Q .normal { a with defers := { target := .collected D, args := #[] } :: a.defers } W)
    (hstop : ∀ (D : Nat) (c : Code) (pre : List α) (s : σ) (W : World), w.heap.size ≤ D → pre <+: all → Ix c pre s W → W.heap[D]? = some (.deferred (some [])) → c.wpIn F n P Q { a with defers := { target := .collected D, args := #[] } :: a.defers } W) :
    (Code.rangeFunc g ps assign body).wpIn F n P Q a w := by
  refine wpIn_rangeFunc ?_
  intro fn hfn
  rw [hro]
  obtain ⟨rec, hrec⟩ : ∃ rec : LoopState → Option Code → Loop, rec = fun st pe => { state := st, pending := pe, fn, tmps := a.tmps, params := ps, assign, body, defers := w.heap.size } := ⟨_, rfl⟩
  obtain ⟨W1, hW1⟩ : ∃ W1, (w.alloc (.deferred (some []))).alloc (.loop (rec .ready none)) = W1 := ⟨_, rfl⟩
  have hL1 : W1.heap[w.heap.size + 1]? = some (.loop (rec .ready none)) := by
    rw [← hW1]
    have := World.alloc_heap_new (w.alloc (.deferred (some []))) (.loop (rec .ready none))
    rwa [World.size_alloc] at this
  have hK1 : W1.heap[w.heap.size]? = some (.deferred (some [])) := by
    rw [← hW1]
    exact (Below.heap_alloc _ _ _ (by simp)).trans (World.alloc_heap_new w _)
  refine ⟨w.heap.size + 1, [{ target := .collected w.heap.size, args := #[] }], W1, { target := .fn (.func gf) lb, args := #[.func (.yield (w.heap.size + 1)) #[] #[]] }, W1, gf,
    #[.func (.yield (w.heap.size + 1)) #[] #[]] ++ lb, W1, ?_, ?_, ?_, ?_, fun _ => h1, ?_⟩
  · rw [← hW1, hrec]
    exact run_enterLoop_outer _ _ _ _ _
  · simp only [resolve, hg]
    simp [go_sem]
  · intro f' hf'
    simp [Target.leads] at hf'
    subst hf'
    exact hFg
  · simp [invoke, go_sem, eg]
  · refine (hseq (w.heap.size + 1)
      (fun pre s W => I pre s W ∧ W.heap[w.heap.size + 1]? = some (.loop (rec .ready none)) ∧ W.heap[w.heap.size]? = some (.deferred (some [])) ∧ ¬ own s (w.heap.size + 1) ∧ ¬ own s w.heap.size)
      (fun pre s W => ∃ c, Ix c pre s W ∧ W.heap[w.heap.size + 1]? = some (.loop (rec .done (some c))) ∧ W.heap[w.heap.size]? = some (.deferred (some [])))
      s0 W1 ?_ ?_ ⟨by rw [← hW1]; exact hI.alloc _ (hI.alloc _ h0), hL1, hK1, fun h => by have := hs0 _ h; omega, fun h => by have := hs0 _ h; omega⟩ (by rw [← hW1]; exact hKa.alloc _ (hKa.alloc _ hk0))).mono ?_
    · rintro pre s s' A B ⟨hi, hl, hk, n1, n2⟩ hm hs
      have l1 := (Array.getElem?_eq_some_iff.1 hl).1
      have l2 := (Array.getElem?_eq_some_iff.1 hk).1
      exact ⟨hIm pre s s' A B hi hm hs, (hm.block _ l1 n1).trans hl, (hm.block _ l2 n2).trans hk, fun h => by rcases hs _ h with h | h; exact n1 h; omega, fun h => by rcases hs _ h with h | h; exact n2 h; omega⟩
    · rintro pre x rest s W hall ⟨hi, hl, hk, n1, n2⟩ hka
      have hy := run_yield (P := P) (args := encs x) hl (by rw [hrec]; exact hps x)
      rw [hrec] at hy
      refine ⟨fn, _, assign, body, hy, roundIn_of_wpIn hfn (hassign _ pre x rest s W _ hall hi hka ?_)⟩
      intro a' Wa hko hia hkaa hax
      have hla := hko.same _ _ hl rfl
      have hka0 := hko.same _ _ hk rfl
      have hlt : w.heap.size + 1 < Wa.heap.size := (Array.getElem?_eq_some_iff.1 hla).1
      refine ⟨_, run_beginRound hla (by rw [hrec]), ?_⟩
      have hl2 : (Wa.putObj (w.heap.size + 1) (.loop { rec .ready none with state := .busy })).heap[w.heap.size + 1]? = some (.loop { rec .ready none with state := .busy }) := World.putObj_heap_same hlt
      have hk2 : (Wa.putObj (w.heap.size + 1) (.loop { rec .ready none with state := .busy })).heap[w.heap.size]? = some (.deferred (some [])) := (World.putObj_heap_other (by omega)).trans hka0
      refine wpIn_mono (hbody _ pre x rest s a' _ hall (hI.putObj _ hia (by omega) hla rfl) (hKa.putObj _ hkaa (by omega) hla rfl) (hAx _ _ _ _ _ _ hax hla rfl)) ?_
      have fin : ∀ (jump : Option Code) (W3 : World), KeepsOthers (Wa.putObj (w.heap.size + 1) (.loop { rec .ready none with state := .busy })) W3 →
          (Instr.endRound (w.heap.size + 1) jump).run P W3 = .ok (.bool jump.isNone) (W3.putObj (w.heap.size + 1) (.loop (rec (if jump.isNone then .ready else .done) jump))) ∧
          W3.heap[w.heap.size + 1]? = some (.loop { rec .ready none with state := .busy }) ∧
          (W3.putObj (w.heap.size + 1) (.loop (rec (if jump.isNone then .ready else .done) jump))).heap[w.heap.size + 1]? = some (.loop (rec (if jump.isNone then .ready else .done) jump)) ∧
          (W3.putObj (w.heap.size + 1) (.loop (rec (if jump.isNone then .ready else .done) jump))).heap[w.heap.size]? = some (.deferred (some [])) := fun jump W3 hk3 => by
        have hl3 := hk3.same _ _ hl2 rfl
        have h3 := run_endRound (P := P) jump hl3
        rw [hrec] at h3 ⊢
        exact ⟨h3, by rw [hrec] at hl3; exact hl3, World.putObj_heap_same (Array.getElem?_eq_some_iff.1 hl3).1, (World.putObj_heap_other (by omega)).trans (hk3.same _ _ hk2 rfl)⟩
      rintro e a3 W3 hp
      cases e with
      | normal =>
        obtain ⟨hk3, hi3, hka3⟩ := hp
        obtain ⟨hr, hl3, hl4, hk4⟩ := fin none W3 hk3
        exact ⟨_, _, hr, .inl ⟨rfl, ⟨hI.putObj _ hi3 (by omega) hl3 rfl, hl4, hk4, n1, n2⟩, hKa.putObj _ hka3 (by omega) hl3 rfl⟩⟩
      | ret =>
        obtain ⟨hk3, hi3⟩ := hp
        obtain ⟨hr, hl3, hl4, hk4⟩ := fin (some .ret) W3 hk3
        exact ⟨_, _, hr, .inr ⟨rfl, .ret, (hIx _).putObj _ hi3 (by omega) hl3 rfl, hl4, hk4⟩⟩
      | exit id =>
        obtain ⟨hk3, hi3⟩ := hp
        obtain ⟨hr, hl3, hl4, hk4⟩ := fin (some (.exit id)) W3 hk3
        exact ⟨_, _, hr, .inr ⟨rfl, .exit id, (hIx _).putObj _ hi3 (by omega) hl3 rfl, hl4, hk4⟩⟩
      | goto t =>
        obtain ⟨hk3, hi3⟩ := hp
        obtain ⟨hr, hl3, hl4, hk4⟩ := fin (some (.goto t)) W3 hk3
        exact ⟨_, _, hr, .inr ⟨rfl, .goto t, (hIx _).putObj _ hi3 (by omega) hl3 rfl, hl4, hk4⟩⟩
      | panic ch => exact hp.elim
      | outgrown => exact hp.elim
    · rintro e W2 ⟨⟨v, rfl⟩, (⟨s, ⟨hi, hl, hk, _, _⟩, hka⟩ | ⟨pre, s, hpre, c, hi, hl, hk⟩)⟩
      · exact ⟨none, _, by have := run_endLoop (P := P) hl (by rw [hrec]; simp); rw [hrec] at this; exact this, hdone _ s _ (Nat.le_refl _) (hI.putObj _ hi (by omega) hl rfl) (hKa.putObj _ hka (by omega) hl rfl) ((World.putObj_heap_other (by omega)).trans hk)⟩
      · exact ⟨some c, _, by have := run_endLoop (P := P) hl (by rw [hrec]; simp); rw [hrec] at this; exact this, hstop _ c pre s _ (Nat.le_refl _) hpre ((hIx c).putObj _ hi (by omega) hl rfl) ((World.putObj_heap_other (by omega)).trans hk)⟩
end Go.Proofs.YtippfkokgpdmdaaDoor
