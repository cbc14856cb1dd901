/-
  The pool's tasks (chapter 12) as plain machines; the document's text over a tape, round by round.
-/
import Derived.Test.YtgkobmmannkegaaFieldAny
import Derived.Test.YtgkobmmannkegaaDrive
namespace Go.Proofs.Ytgkobmmannkegaa
open Go Go.RowKit
set_option linter.unusedVariables false

structure PopS where
  at_ : Int
  head : Int
  below : Int
  index : Int
def popDeed (T L : Int) (s : PopS) : D := if s.at_ = 1 then ⟨1, 3, 0, 0, 0⟩ else if s.at_ = 2 then ⟨1, slotP T L s.index 5, 0, 0, 0⟩ else ⟨3, 3, s.head, turnedP s.head s.below, 0⟩
def popTell (s : PopS) (x : Int) : PopS :=
  if s.at_ = 1 then ⟨if x % 4294967296 = 0 then 0 else 2, x, s.below, x % 4294967296⟩
  else if s.at_ = 2 then ⟨3, s.head, x, s.index⟩
  else if s.at_ = 3 ∧ x ≠ s.head then ⟨1, s.head, s.below, s.index⟩
  else ⟨0, s.head, s.below, s.index⟩
def popM (T L : Int) : Mach PopS := { more := fun s => decide (s.at_ = 1 ∨ s.at_ = 2 ∨ s.at_ = 3), deed := popDeed T L, tell := popTell }
def popIndex (s : PopS) : Int := if s.at_ = 0 then s.index else 0
abbrev pop0 : PopS := ⟨1, 0, 0, 0⟩
structure PushS where
  at_ : Int
  head : Int
def pushDeed (T L i : Int) (s : PushS) : D := if s.at_ = 1 then ⟨1, 3, 0, 0, 0⟩ else if s.at_ = 2 then ⟨2, slotP T L i 5, s.head % 4294967296, 0, 0⟩ else ⟨3, 3, s.head, turnedP s.head (IntKind.u64.wrap i), 0⟩
def pushTell (s : PushS) (x : Int) : PushS :=
  if s.at_ = 1 then ⟨2, x⟩ else if s.at_ = 2 then ⟨3, s.head⟩ else if s.at_ = 3 then ⟨if x = s.head then 0 else 1, s.head⟩ else s
def pushM (T L i : Int) : Mach PushS := { more := fun s => decide (s.at_ = 1 ∨ s.at_ = 2 ∨ s.at_ = 3), deed := pushDeed T L i, tell := pushTell }
abbrev push0 : PushS := ⟨1, 0⟩

section
variable {T L : Int} {ins : List Int}
abbrev popEnd (T L : Int) (ins : List Int) : TapeS := ⟨(drive (popM T L) ins pop0).1, (popM T L).more (drive (popM T L) ins pop0).2⟩
abbrev popOut (T L : Int) (ins : List Int) : Int := popIndex (drive (popM T L) ins pop0).2
def PopLoop (T L : Int) (ins : List Int) (s : TapeS) : Prop := (∃ st : PopS, st.at_ = 1 ∧ Sync (popM T L) ins pop0 st s) ∨ ∃ st : PopS, Fin (popM T L) ins pop0 st s
theorem PopLoop.start : PopLoop T L ins ⟨[], false⟩ := .inl ⟨pop0, rfl, Sync.start _ _ _⟩
theorem pop_more {st : PopS} (h : (popM T L).more st = true) : popIndex st = 0 := by
  simp only [popM, decide_eq_true_eq] at h
  unfold popIndex
  rw [if_neg (by omega)]
theorem pop_fin {st : PopS} {s : TapeS} (h : Fin (popM T L) ins pop0 st s) : s = popEnd T L ins ∧ popOut T L ins = 0 := by
  refine ⟨h.done.1, ?_⟩
  show popIndex _ = 0
  rw [h.done.2]
  exact pop_more h.2.2
theorem pop_stopped {s : TapeS} (h : PopLoop T L ins s) (hs : s.stop = true) : s = popEnd T L ins ∧ popOut T L ins = 0 := by
  rcases h with ⟨st, _, h⟩ | ⟨st, h⟩
  · rw [h.1] at hs; cases hs
  · exact pop_fin h
theorem pop_few {s : TapeS} (h : PopLoop T L ins s) (hn : ins.length ≤ 4000) : s.out.length ≤ 4096 := by
  rcases h with ⟨st, _, h⟩ | ⟨st, h⟩
  · exact h.few hn
  · exact h.few hn
theorem pop_round {s : TapeS} (hL : PopLoop T L ins s) (hs : s.stop = false) : s.out.length ≤ ins.length ∧ ∃ v s1, tdo ins s ⟨1, 3, 0, 0, 0⟩ = (v, s1) ∧ s1.out.length ≤ ins.length + 1 ∧ (v = 0 ∨ v ∈ ins) ∧
    (((s1.stop = true ∨ v % 4294967296 = 0) ∧ s1 = popEnd T L ins ∧ popOut T L ins = 0 ∧ (s1.stop = true → v = 0)) ∨
     (s1.stop = false ∧ v % 4294967296 ≠ 0 ∧ ∃ b s2, tdo ins s1 ⟨1, slotP T L (v % 4294967296) 5, 0, 0, 0⟩ = (b, s2) ∧ s2.out.length ≤ ins.length + 1 ∧ (b = 0 ∨ b ∈ ins) ∧
       ∃ y s3, tdo ins s2 ⟨3, 3, v, turnedP v b, 0⟩ = (y, s3) ∧ s3.out.length ≤ ins.length + 1 ∧
       ((s3.stop = false ∧ y = v ∧ s3 = popEnd T L ins ∧ popOut T L ins = v % 4294967296) ∨ (s3.stop = true ∧ PopLoop T L ins s3) ∨ (s3.stop = false ∧ y ≠ v ∧ PopLoop T L ins s3 ∧ s.out.length < s3.out.length)))) := by
  rcases hL with ⟨st, ha, h⟩ | ⟨st, h⟩
  · have hn := h.2.1
    refine ⟨hn, ?_⟩
    have hm : (popM T L).more st = true := by simp [popM, ha]
    rcases h.ask hm ⟨1, 3, 0, 0, 0⟩ (by simp [popM, popDeed, ha]) with ⟨v, h1, hv, h3⟩ | ⟨h1, h3⟩
    · rw [h1] at h3
      have e : (popM T L).tell st v = ⟨if v % 4294967296 = 0 then 0 else 2, v, st.below, v % 4294967296⟩ := by simp [popM, popTell, ha]
      rw [e] at h3
      refine ⟨v, _, h1, Nat.le_succ_of_le h3.2.1, .inr hv, ?_⟩
      by_cases h0 : v % 4294967296 = 0
      · simp only [h0, if_true] at h3
        have hd := h3.done (by simp [popM])
        refine .inl ⟨.inr h0, hd.1, ?_, fun h => by simp at h⟩
        show popIndex _ = 0
        rw [hd.2]; rfl
      · simp only [h0, if_false] at h3
        refine .inr ⟨rfl, h0, ?_⟩
        rcases h3.ask (by simp [popM]) ⟨1, slotP T L (v % 4294967296) 5, 0, 0, 0⟩ (by simp [popM, popDeed]) with ⟨b, g1, hb, g3⟩ | ⟨g1, g3⟩
        · rw [g1] at g3
          have e2 : (popM T L).tell ⟨2, v, st.below, v % 4294967296⟩ b = ⟨3, v, b, v % 4294967296⟩ := by simp [popM, popTell]
          rw [e2] at g3
          refine ⟨b, _, g1, Nat.le_succ_of_le g3.2.1, .inr hb, ?_⟩
          rcases g3.ask (by simp [popM]) ⟨3, 3, v, turnedP v b, 0⟩ (by simp [popM, popDeed]) with ⟨y, k1, _, k3⟩ | ⟨k1, k3⟩
          · rw [k1] at k3
            refine ⟨y, _, k1, Nat.le_succ_of_le k3.2.1, ?_⟩
            by_cases hy : y = v
            · have e3 : (popM T L).tell ⟨3, v, b, v % 4294967296⟩ y = ⟨0, v, b, v % 4294967296⟩ := by simp [popM, popTell, hy]
              rw [e3] at k3
              have hd := k3.done (by simp [popM])
              refine .inl ⟨rfl, hy, hd.1, ?_⟩
              show popIndex _ = _
              rw [hd.2]; rfl
            · have e3 : (popM T L).tell ⟨3, v, b, v % 4294967296⟩ y = ⟨1, v, b, v % 4294967296⟩ := by simp [popM, popTell, hy]
              rw [e3] at k3
              exact .inr (.inr ⟨rfl, hy, .inl ⟨_, rfl, k3⟩, by simp⟩)
          · rw [k1] at k3
            refine ⟨0, _, k1, ?_, .inr (.inl ⟨rfl, .inr ⟨_, k3⟩⟩)⟩
            have := g3.2.1; simp at this ⊢; omega
        · rw [g1] at g3
          have k1 := g3.ask ⟨3, 3, v, turnedP v 0, 0⟩
          have hl : (s.out ++ [(⟨1, 3, 0, 0, 0⟩ : D)] ++ [(⟨1, slotP T L (v % 4294967296) 5, 0, 0, 0⟩ : D)]).length ≤ ins.length + 1 := by have := h3.2.1; simp at this ⊢; omega
          exact ⟨0, _, g1, hl, .inl rfl, 0, _, k1, hl, .inr (.inl ⟨rfl, .inr ⟨_, g3⟩⟩)⟩
    · rw [h1] at h3
      refine ⟨0, _, h1, by simp; omega, .inl rfl, .inl ⟨.inl rfl, (pop_fin h3).1, (pop_fin h3).2, fun _ => rfl⟩⟩
  · have : s.stop = true := by rw [h.1]
    rw [this] at hs; cases hs
end
section
variable {T L i : Int} {ins : List Int}
abbrev pushEnd (T L i : Int) (ins : List Int) : TapeS := ⟨(drive (pushM T L i) ins push0).1, (pushM T L i).more (drive (pushM T L i) ins push0).2⟩
def PushLoop (T L i : Int) (ins : List Int) (s : TapeS) : Prop := (∃ st : PushS, st.at_ = 1 ∧ Sync (pushM T L i) ins push0 st s) ∨ ∃ st : PushS, Fin (pushM T L i) ins push0 st s
theorem PushLoop.start : PushLoop T L i ins ⟨[], false⟩ := .inl ⟨push0, rfl, Sync.start _ _ _⟩
theorem push_stopped {s : TapeS} (h : PushLoop T L i ins s) (hs : s.stop = true) : s = pushEnd T L i ins := by
  rcases h with ⟨st, _, h⟩ | ⟨st, h⟩
  · rw [h.1] at hs; cases hs
  · exact h.done.1
theorem push_few {s : TapeS} (h : PushLoop T L i ins s) (hn : ins.length ≤ 4000) : s.out.length ≤ 4096 := by
  rcases h with ⟨st, _, h⟩ | ⟨st, h⟩
  · exact h.few hn
  · exact h.few hn
theorem push_round {s : TapeS} (hL : PushLoop T L i ins s) (hs : s.stop = false) : s.out.length ≤ ins.length ∧ ∃ v s1, tdo ins s ⟨1, 3, 0, 0, 0⟩ = (v, s1) ∧ s1.out.length ≤ ins.length + 1 ∧ (v = 0 ∨ v ∈ ins) ∧
    ∃ b s2, tdo ins s1 ⟨2, slotP T L i 5, v % 4294967296, 0, 0⟩ = (b, s2) ∧ s2.out.length ≤ ins.length + 1 ∧
    ∃ y s3, tdo ins s2 ⟨3, 3, v, turnedP v (IntKind.u64.wrap i), 0⟩ = (y, s3) ∧ s3.out.length ≤ ins.length + 1 ∧
    ((s3.stop = false ∧ y = v ∧ s3 = pushEnd T L i ins) ∨ (s3.stop = true ∧ PushLoop T L i ins s3) ∨ (s3.stop = false ∧ y ≠ v ∧ PushLoop T L i ins s3 ∧ s.out.length < s3.out.length)) := by
  rcases hL with ⟨st, ha, h⟩ | ⟨st, h⟩
  · have hn := h.2.1
    refine ⟨hn, ?_⟩
    have hm : (pushM T L i).more st = true := by simp [pushM, ha]
    rcases h.ask hm ⟨1, 3, 0, 0, 0⟩ (by simp [pushM, pushDeed, ha]) with ⟨v, h1, hv, h3⟩ | ⟨h1, h3⟩
    · rw [h1] at h3
      have e : (pushM T L i).tell st v = ⟨2, v⟩ := by simp [pushM, pushTell, ha]
      rw [e] at h3
      refine ⟨v, _, h1, Nat.le_succ_of_le h3.2.1, .inr hv, ?_⟩
      rcases h3.ask (by simp [pushM]) ⟨2, slotP T L i 5, v % 4294967296, 0, 0⟩ (by simp [pushM, pushDeed]) with ⟨b, g1, hb, g3⟩ | ⟨g1, g3⟩
      · rw [g1] at g3
        have e2 : (pushM T L i).tell ⟨2, v⟩ b = ⟨3, v⟩ := by simp [pushM, pushTell]
        rw [e2] at g3
        refine ⟨b, _, g1, Nat.le_succ_of_le g3.2.1, ?_⟩
        rcases g3.ask (by simp [pushM]) ⟨3, 3, v, turnedP v (IntKind.u64.wrap i), 0⟩ (by simp [pushM, pushDeed]) with ⟨y, k1, _, k3⟩ | ⟨k1, k3⟩
        · rw [k1] at k3
          refine ⟨y, _, k1, Nat.le_succ_of_le k3.2.1, ?_⟩
          by_cases hy : y = v
          · have e3 : (pushM T L i).tell ⟨3, v⟩ y = ⟨0, v⟩ := by simp [pushM, pushTell, hy]
            rw [e3] at k3
            exact .inl ⟨rfl, hy, (k3.done (by simp [pushM])).1⟩
          · have e3 : (pushM T L i).tell ⟨3, v⟩ y = ⟨1, v⟩ := by simp [pushM, pushTell, hy]
            rw [e3] at k3
            exact .inr (.inr ⟨rfl, hy, .inl ⟨_, rfl, k3⟩, by simp⟩)
        · rw [k1] at k3
          refine ⟨0, _, k1, ?_, .inr (.inl ⟨rfl, .inr ⟨_, k3⟩⟩)⟩
          have := g3.2.1; simp at this ⊢; omega
      · rw [g1] at g3
        have k1 := g3.ask ⟨3, 3, v, turnedP v (IntKind.u64.wrap i), 0⟩
        have hl : (s.out ++ [(⟨1, 3, 0, 0, 0⟩ : D)] ++ [(⟨2, slotP T L i 5, v % 4294967296, 0, 0⟩ : D)]).length ≤ ins.length + 1 := by have := h3.2.1; simp at this ⊢; omega
        exact ⟨0, _, g1, hl, 0, _, k1, hl, .inr (.inl ⟨rfl, .inr ⟨_, g3⟩⟩)⟩
    · rw [h1] at h3
      have g1 := h3.ask ⟨2, slotP T L i 5, 0 % 4294967296, 0, 0⟩
      have k1 := h3.ask ⟨3, 3, 0, turnedP 0 (IntKind.u64.wrap i), 0⟩
      have hl : (s.out ++ [(⟨1, 3, 0, 0, 0⟩ : D)]).length ≤ ins.length + 1 := by simp; omega
      exact ⟨0, _, h1, hl, .inl rfl, 0, _, g1, hl, 0, _, k1, hl, .inr (.inl ⟨rfl, .inr ⟨_, h3⟩⟩)⟩
  · have : s.stop = true := by rw [h.1]
    rw [this] at hs; cases hs
end
end Go.Proofs.Ytgkobmmannkegaa
