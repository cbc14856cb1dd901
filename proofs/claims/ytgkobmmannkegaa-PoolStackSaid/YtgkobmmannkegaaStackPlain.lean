/-
  The free slots as a stack in the memory's words (chapter 12), plain: what taking and giving a slot, done alone, makes of it.
-/
import Derived.Test.YtgkobmmannkegaaPoolPlain
import Derived.Test.YtgkobmmannkegaaAlone
import Derived.Test.YtgkobmmannkegaaBlankAll
namespace Go.Proofs.Ytgkobmmannkegaa
open Go Go.RowKit
set_option linter.unusedVariables false

/-- The chain from a top on is the list. -/
def LnkS (ws : List Int) (T L : Nat) : Int → List Nat → Prop
  | top, [] => top = 0
  | top, i :: r => top = (i : Int) ∧ LnkS ws T L (wget ws (pWord T L i 5 : Nat)) r
theorem LnkS.congr {ws ws' : List Int} {T L : Nat} : ∀ (st : List Nat) (top : Int), LnkS ws T L top st → (∀ i ∈ st, wget ws' (pWord T L i 5 : Nat) = wget ws (pWord T L i 5 : Nat)) → LnkS ws' T L top st
  | [], _, h, _ => h
  | i :: r, _, ⟨h1, h2⟩, hc => ⟨h1, by rw [hc i (by simp)]; exact LnkS.congr r _ h2 (fun j hj => hc j (by simp [hj]))⟩
/-- st: the free ones, the top first; hl: who are held. -/
structure Stk (T S L : Nat) (ws : List Int) (st hl : List Nat) : Prop where
  len : ws.length = pCount T S L
  wide : Wide ws
  lnk : LnkS ws T L (wget ws 3 % 4294967296) st
  nd : (st ++ hl).Nodup
  bd : ∀ i ∈ st ++ hl, 1 ≤ i ∧ i ≤ S
theorem wide_wset {ws : List Int} (h : Wide ws) (at_ x : Int) (h0 : 0 ≤ x) (h1 : x < 18446744073709551616) : Wide (wset ws at_ x) := by
  intro y hy
  unfold wset at hy
  split at hy
  · rcases List.mem_or_eq_of_mem_set hy with hy | rfl
    · exact h y hy
    · exact ⟨h0, h1⟩
  · exact h y hy
section
variable {T S L : Nat} {ws : List Int} {st hl : List Nat}
theorem Stk.few (h : Stk T S L ws st hl) : st.length ≤ S ∧ hl.length ≤ S := by
  have h1 := few_of_nodup S (st ++ hl) h.nd h.bd
  rw [List.length_append] at h1
  omega
theorem pWord_inj {i j : Nat} (hi : 0 < i) (hj : 0 < j) (h : pWord T L i 5 = pWord T L j 5) : i = j := by
  have h1 := slot_of T L (p := pWord T L i 5) hi (k := 5) (by omega) rfl
  have h2 := slot_of T L (p := pWord T L i 5) hj (k := 5) (by omega) h
  omega
theorem pWord_big (i : Nat) : 4 ≤ pWord T L i 5 := by unfold pWord; omega
theorem Stk.start (T S L : Nat) (G : Int) (hP : PRight T S L G) (hG : 0 ≤ G) : Stk T S L (blankW T S L G) (List.range' 1 S) [] := by
  have hS : 1 ≤ S := by have := hP.2.1; omega
  have hS2 : S ≤ 64 := by have := hP.2.1; omega
  refine ⟨blankW_length T S L G, blankW_wide T S L G hG hP.2.2.2 hS2, ?_, by simpa using List.nodup_range', fun i hi => ?_⟩
  · rw [blankW_top T S L G hS]
    have key : ∀ m k, k + m = S → LnkS (blankW T S L G) T L (belowP S k) (List.range' (k + 1) m) := by
      intro m
      induction m with
      | zero => intro k hk; show _ = _; unfold belowP; rw [if_neg (by omega)]
      | succ m ih =>
        intro k hk
        rw [List.range'_succ]
        refine ⟨by unfold belowP; rw [if_pos (by omega)], ?_⟩
        have := blankW_next T S L G (k + 1) (by omega) (by omega)
        unfold nextOf at this
        rw [this]
        exact ih (k + 1) (by omega)
    have := key S 0 (by omega)
    unfold belowP at this
    rw [if_pos (by omega)] at this
    exact this
  · rw [List.append_nil, List.mem_range'_1] at hi
    omega
theorem free_lnk (next : Nat → Int) (S : Nat) : ∀ (st : List Nat) (f : Nat) (top : Int) (out : List Nat) (ws : List Int) (T L : Nat) (hn : ∀ i, next i = wget ws (pWord T L i 5 : Nat)), LnkS ws T L top st → (out ++ st).Nodup → (∀ i ∈ st, 1 ≤ i ∧ i ≤ S) → st.length < f → freeFrom next S f top out = out ++ st
  | [], f + 1, top, out, ws, T, L, hn, h, _, _, _ => by
    have h' : top = 0 := h
    subst h'
    rw [freeFrom, if_neg (by omega), List.append_nil]
  | i :: r, f + 1, top, out, ws, T, L, hn, ⟨h1, h2⟩, hnd, hb, hf => by
    subst h1
    have hi := hb i (by simp)
    have hni : i ∉ out := fun hm => by
      rw [List.nodup_append] at hnd
      exact hnd.2.2 i hm i (by simp) rfl
    rw [freeFrom, if_pos ⟨by omega, by omega, by rw [Int.toNat_natCast]; exact hni⟩, Int.toNat_natCast, hn i]
    rw [free_lnk next S r f _ (out ++ [i]) ws T L hn h2 (by rw [List.append_assoc]; exact hnd) (fun j hj => hb j (by simp [hj])) (by simp at hf; omega), List.append_assoc]
    rfl
theorem Stk.free (h : Stk T S L ws st hl) : freeFrom (nextOf ws T L) S (S + 1) (wget ws 3 % 4294967296) [] = st := by
  have := free_lnk (nextOf ws T L) S st (S + 1) _ [] ws T L (fun i => rfl) h.lnk (by have := h.nd; rw [List.nodup_append] at this; simpa using this.1) (fun i hi => h.bd i (by simp [hi])) (by have := h.few; omega)
  simpa using this
variable (hT : T ≤ 8) (hS : S ≤ 64) (hL : L ≤ 8)
theorem Stk.pop_none (h : Stk T S L ws [] hl) : ∃ s, runs (popM T L) 19 pop0 ws = (s, ws) ∧ (popM T L).more s = false ∧ popIndex s = 0 := by
  have h0 : wget ws 3 % 4294967296 = 0 := h.lnk
  refine ⟨⟨0, wget ws 3, 0, 0⟩, ?_, by simp [popM], rfl⟩
  rw [show 19 = 18 + 1 from rfl, runs_more _ (by simp [popM])]
  rw [show (popM (T : Int) L).deed pop0 = ⟨1, 3, 0, 0, 0⟩ by simp [popM, popDeed], dGet_load, dDo_load]
  rw [show (popM (T : Int) L).tell pop0 (wget ws 3) = ⟨0, wget ws 3, 0, 0⟩ by simp [popM, popTell, h0]]
  exact runs_done _ (by simp [popM])
include hT hS hL
theorem Stk.pop {i : Nat} {r : List Nat} (h : Stk T S L ws (i :: r) hl) : ∃ s ws', runs (popM T L) 19 pop0 ws = (s, ws') ∧ (popM T L).more s = false ∧ popIndex s = i ∧ Stk T S L ws' r (hl ++ [i]) := by
  obtain ⟨h0, h1⟩ := h.lnk
  have hi := h.bd i (by simp)
  have hw3 := h.wide.get 3
  have hsl : slotP (T : Int) L (i : Int) 5 = ((pWord T L i 5 : Nat) : Int) := slotP_eq T S L hT hS hL i 5 hi.2 hi.1 (by omega)
  have hbig := pWord_big (T := T) (L := L) i
  have hlt := pWord_lt T S L i 5 hi.1 hi.2 (by omega)
  have hpc := pCount_le T S L hT hS hL
  have hwb := h.wide.get (pWord T L i 5 : Nat)
  have hlen := h.len
  refine ⟨⟨0, wget ws 3, wget ws (pWord T L i 5 : Nat), i⟩, wset ws 3 (turnedP (wget ws 3) (wget ws (pWord T L i 5 : Nat))), ?_, by simp [popM], rfl, ?_⟩
  · rw [show 19 = 16 + 1 + 1 + 1 from rfl, runs_more _ (by simp [popM])]
    rw [show (popM (T : Int) L).deed pop0 = ⟨1, 3, 0, 0, 0⟩ by simp [popM, popDeed], dGet_load, dDo_load]
    rw [show (popM (T : Int) L).tell pop0 (wget ws 3) = ⟨2, wget ws 3, 0, i⟩ by
      simp only [popM, popTell, h0]
      rw [if_pos trivial, if_neg (by omega)]]
    rw [runs_more _ (by simp [popM])]
    rw [show (popM (T : Int) L).deed ⟨2, wget ws 3, 0, i⟩ = ⟨1, (pWord T L i 5 : Nat), 0, 0, 0⟩ by simp [popM, popDeed, hsl], dGet_load, dDo_load]
    rw [show (popM (T : Int) L).tell ⟨2, wget ws 3, 0, i⟩ (wget ws (pWord T L i 5 : Nat)) = ⟨3, wget ws 3, wget ws (pWord T L i 5 : Nat), i⟩ by simp [popM, popTell]]
    rw [runs_more _ (by simp [popM])]
    rw [show (popM (T : Int) L).deed ⟨3, wget ws 3, wget ws (pWord T L i 5 : Nat), i⟩ = ⟨3, 3, wget ws 3, turnedP (wget ws 3) (wget ws (pWord T L i 5 : Nat)), 0⟩ by simp [popM, popDeed], dGet_swap, dDo_swap]
    rw [show (popM (T : Int) L).tell ⟨3, wget ws 3, wget ws (pWord T L i 5 : Nat), i⟩ (wget ws 3) = ⟨0, wget ws 3, wget ws (pWord T L i 5 : Nat), i⟩ by simp [popM, popTell]]
    rw [runs_done _ (by simp [popM])]
    simp [swp]
  · have hb64 : wget ws (pWord T L i 5 : Nat) % 4294967296 = wget ws (pWord T L i 5 : Nat) := by
      cases r with
      | nil => have h1' : wget ws (pWord T L i 5 : Nat) = 0 := h1; rw [h1']; rfl
      | cons j r =>
        obtain ⟨e, _⟩ := h1
        have := h.bd j (by simp)
        rw [e]; omega
    refine ⟨by rw [wset_length]; exact h.len, wide_wset h.wide _ _ (pairP_bd _ _).1 (pairP_bd _ _).2, ?_, ?_, ?_⟩
    · rw [wget_wset_same _ (by rw [hlen]; omega)]
      have e : turnedP (wget ws 3) (wget ws (pWord T L i 5 : Nat)) % 4294967296 = wget ws (pWord T L i 5 : Nat) := by
        unfold turnedP pairP
        omega
      rw [e]
      exact LnkS.congr r _ h1 (fun j hj => by have := pWord_big (T := T) (L := L) j; rw [wget_wset_other _ (by omega)])
    · have hnd := h.nd
      have hp : (i :: r ++ hl).Perm (r ++ (hl ++ [i])) := by
        rw [List.cons_append, ← List.append_assoc]
        exact (List.perm_append_singleton i (r ++ hl)).symm
      exact hp.nodup_iff.1 hnd
    · intro j hj
      refine h.bd j ?_
      simp at hj ⊢
      rcases hj with hj | hj | hj <;> simp [hj]
theorem Stk.push {i : Nat} {r : List Nat} (h : Stk T S L ws st (i :: r)) : ∃ s ws', runs (pushM T L i) 19 push0 ws = (s, ws') ∧ (pushM T L i).more s = false ∧ Stk T S L ws' (i :: st) r := by
  have hi := h.bd i (by simp)
  have hw3 := h.wide.get 3
  have hsl : slotP (T : Int) L (i : Int) 5 = ((pWord T L i 5 : Nat) : Int) := slotP_eq T S L hT hS hL i 5 hi.2 hi.1 (by omega)
  have hbig := pWord_big (T := T) (L := L) i
  have hlt := pWord_lt T S L i 5 hi.1 hi.2 (by omega)
  have hlen := h.len
  have hpc : 4 ≤ pCount T S L := by omega
  have hwi : IntKind.u64.wrap (i : Int) = (i : Int) := by rw [wrapu]; omega
  have h3 : wget (wset ws (pWord T L i 5 : Nat) (wget ws 3 % 4294967296)) 3 = wget ws 3 := wget_wset_other _ (by omega)
  refine ⟨⟨0, wget ws 3⟩, wset (wset ws (pWord T L i 5 : Nat) (wget ws 3 % 4294967296)) 3 (turnedP (wget ws 3) i), ?_, by simp [pushM], ?_⟩
  · rw [show 19 = 16 + 1 + 1 + 1 from rfl, runs_more _ (by simp [pushM])]
    rw [show (pushM (T : Int) L i).deed push0 = ⟨1, 3, 0, 0, 0⟩ by simp [pushM, pushDeed], dGet_load, dDo_load]
    rw [show (pushM (T : Int) L i).tell push0 (wget ws 3) = ⟨2, wget ws 3⟩ by simp [pushM, pushTell]]
    rw [runs_more _ (by simp [pushM])]
    rw [show (pushM (T : Int) L i).deed ⟨2, wget ws 3⟩ = ⟨2, (pWord T L i 5 : Nat), wget ws 3 % 4294967296, 0, 0⟩ by simp [pushM, pushDeed, hsl], dGet_store, dDo_store]
    rw [show ∀ x, (pushM (T : Int) L i).tell ⟨2, wget ws 3⟩ x = ⟨3, wget ws 3⟩ from fun x => by simp [pushM, pushTell]]
    rw [runs_more _ (by simp [pushM])]
    rw [show (pushM (T : Int) L i).deed ⟨3, wget ws 3⟩ = ⟨3, 3, wget ws 3, turnedP (wget ws 3) i, 0⟩ by simp [pushM, pushDeed, hwi], dGet_swap, dDo_swap, h3]
    rw [show (pushM (T : Int) L i).tell ⟨3, wget ws 3⟩ (wget ws 3) = ⟨0, wget ws 3⟩ by simp [pushM, pushTell]]
    rw [runs_done _ (by simp [pushM])]
    simp [swp]
  · have hnd := h.nd
    have hni : i ∉ st := fun hm => by
      rw [List.nodup_append] at hnd
      exact hnd.2.2 i hm i (by simp) rfl
    refine ⟨by rw [wset_length, wset_length]; exact h.len, wide_wset (wide_wset h.wide _ _ (by omega) (by omega)) _ _ (pairP_bd _ _).1 (pairP_bd _ _).2, ?_, ?_, ?_⟩
    · rw [wget_wset_same _ (by rw [wset_length, hlen]; omega)]
      have e : turnedP (wget ws 3) i % 4294967296 = (i : Int) := by
        unfold turnedP pairP
        omega
      rw [e]
      refine ⟨rfl, ?_⟩
      rw [wget_wset_other _ (by omega), wget_wset_same _ (by rw [hlen]; omega)]
      refine LnkS.congr st _ h.lnk (fun j hj => ?_)
      have hj2 := h.bd j (by simp [hj])
      have hb := pWord_big (T := T) (L := L) j
      have hne : pWord T L j 5 ≠ pWord T L i 5 := fun e => by
        have := pWord_inj (by omega) (by omega) e
        subst this
        exact hni hj
      rw [wget_wset_other _ (by omega), wget_wset_other _ (by omega)]
    · have hp : (st ++ i :: r).Perm (i :: st ++ r) := List.perm_middle
      exact hp.nodup_iff.1 hnd
    · intro j hj
      refine h.bd j ?_
      simp at hj ⊢
      rcases hj with hj | hj | hj <;> simp [hj]
end
end Go.Proofs.Ytgkobmmannkegaa
