/-
  Slots that wait: a copy (limbo.Copy); ripe slots, joined.
-/
import Derived.Test.YtgkobmmannkegaaLimboRipe
namespace Go.Proofs.Ytgkobmmannkegaa
open Go Go.RowKit
set_option linter.unusedVariables false

theorem limbo_copy_nil (w : World) : Calls Try.prog 113 #[.pointer none] w fun e w' => e = .returned (.pointer none) ∧ w = w' := by
  go_enter Try.func113, Try.ntmps113
  go_wp2_with fail
  go_ret
  exact ⟨rfl, rfl⟩
/-- What is kept while the copy is made: of the new lists the first k are laid. -/
structure CK (w0 : World) (c k : Nat) (us : Nat → Value) (ls : Nat → List Rt) (w : World) : Prop where
  blk : Blk w c [selv (fun _ => .slice none 0 0) us k 0, selv (fun _ => .slice none 0 0) us k 1, selv (fun _ => .slice none 0 0) us k 2] 190
  new : ∀ i, i < k → RL w (us i) (ls i)
  fresh : ∀ i, i < k → ∀ q, (us i).ownBlock = some q → w0.heap.size ≤ q ∧ q ≠ c
  apart : ∀ i j, i < k → j < k → i ≠ j → ∀ q, (us i).ownBlock = some q → (us j).ownBlock ≠ some q
  bel : Below w0.heap.size w0 w
theorem CK.below {w0 w w' : World} {c k : Nat} {us : Nat → Value} {ls : Nat → List Rt} (h : CK w0 c k us ls w) (hb : Below w.heap.size w w') : CK w0 c k us ls w' :=
  ⟨h.blk.below' hb, fun i hi => (h.new i hi).below hb, h.fresh, h.apart, h.bel.trans (hb.mono h.bel.size)⟩
theorem CK.next {w0 w w2 : World} {c k : Nat} {us : Nat → Value} {ls : Nat → List Rt} {v : Value} (h : CK w0 c k us ls w) (hk : k < 3) (hc : w0.heap.size ≤ c) (hb : Below w.heap.size w w2) (hR : RL w2 v (ls k)) (hA : ∀ q, v.ownBlock = some q → w.heap.size ≤ q) :
    CK w0 c (k + 1) (updv us k v) ls (w2.setCell ⟨c, k, none⟩ v) := by
  have h2 := h.below hb
  have ho : Only c w2 (w2.setCell ⟨c, k, none⟩ v) := (Only.refl c w2).set k v
  have hus : ∀ i, i < k → updv us k v i = us i := fun i hi => by unfold updv; rw [if_neg (by omega)]
  have huk : updv us k v k = v := by unfold updv; rw [if_pos rfl]
  have hcl := h.blk.lt
  have hz := h.bel.size
  refine ⟨?_, fun i hi => ?_, fun i hi q hq => ?_, fun i j hi hj hij q hq hq2 => ?_, ho.below h2.bel hc⟩
  · have hB := h2.blk.set k v
    have : k = 0 ∨ k = 1 ∨ k = 2 := by omega
    rcases this with rfl | rfl | rfl <;> simpa [selv, updv] using hB
  · by_cases e : i = k
    · subst e; rw [huk]; exact hR.mod ho.mod (fun q hq e => by have := hA q hq; omega)
    · rw [hus i (by omega)]; exact (h2.new i (by omega)).mod ho.mod (fun q hq e => (h.fresh i (by omega) q hq).2 e)
  · by_cases e : i = k
    · subst e; rw [huk] at hq; have := hA q hq; exact ⟨by omega, by omega⟩
    · rw [hus i (by omega)] at hq; exact h.fresh i (by omega) q hq
  · by_cases e : i = k
    · subst e
      rw [huk] at hq
      rw [hus j (by omega)] at hq2
      have := (h.new j (by omega)).lt hq2
      have := hA q hq
      omega
    · rw [hus i (by omega)] at hq
      by_cases e2 : j = k
      · subst e2
        rw [huk] at hq2
        have := (h.new i (by omega)).lt hq
        have := hA q hq2
        omega
      · rw [hus j (by omega)] at hq2
        exact h.apart i j (by omega) (by omega) hij q hq hq2
theorem RL.recB {w : World} {v : Value} {l : List Rt} (h : RL w v l) : ∃ g, RecB retR w g v l := by
  obtain ⟨r, h⟩ := h
  exact ⟨r, h.recB⟩
/-- A clone of a list. -/
def Cloned (w : World) (l : List Rt) (e : Ending) (w' : World) : Prop := ∃ va vc, e = .returned (.slice va l.length vc) ∧ RL w' (.slice va l.length vc) l ∧ (∀ q, Value.ownBlock (.slice va l.length vc) = some q → w.heap.size ≤ q) ∧ Below w.heap.size w w'
theorem clone_rl (w : World) (v : Value) (l : List Rt) (h : RL w v l) (hn : l.length ≤ 60000) : Calls Try.prog 170 #[v] w (Cloned w l) := by
  obtain ⟨g, hg⟩ := h.recB
  refine (cloneRt g v l w hg hn).mono ?_
  rintro e w' ⟨va, vc, rfl, ho, hb⟩
  obtain ⟨r, hr⟩ := RowOf.of_own ho
  exact ⟨va, vc, rfl, ⟨r, hr.lower (Nat.zero_le _)⟩, own_ge ho, hb⟩
set_option maxHeartbeats 4000000 in
set_option maxRecDepth 100000 in
theorem limbo_copy_from (w : World) (b : Nat) (vs : Nat → Value) (ls : Nat → List Rt) (hB : Blk w b [vs 0, vs 1, vs 2] 190) (hL : ∀ i, i < 3 → RL w (vs i) (ls i)) (hn : (catL ls 3).length ≤ 1000) :
    Calls Try.prog 113 #[.pointer (some ⟨b, 0, none⟩)] w fun e w' => ∃ c us, e = .returned (.pointer (some ⟨c, 0, none⟩)) ∧ w.heap.size ≤ c ∧ CK w c 3 us ls w' := by
  have C := hB.cell
  have hbl := hB.lt
  have HS : Hid (∀ k, k < 3 → ∃ a c, vs k = .slice a (ls k).length c ∧ ∀ W, (Instr.index 188 (.agg #[vs 0, vs 1, vs 2]) (.int .i64 (k : Int))).run Try.prog W = .ok (.slice a (ls k).length c) W) := fun k hk => by
    obtain ⟨a, c, hv⟩ := (hL k hk).shape
    refine ⟨a, c, hv, fun W => ?_⟩
    rw [← hv]
    have : k = 0 ∨ k = 1 ∨ k = 2 := by omega
    rcases this with rfl | rfl | rfl <;> rfl
  have HN : Hid (∀ k, k < 3 → (ls k).length ≤ 1000) := fun k hk => by have := catL_mono ls (k + 1) (by omega); have := catL_len ls k; omega
  have HL := Lib.hid hL
  have HB := Lib.hid hB
  clear hB hL hn
  go_enter Try.func113, Try.ntmps113
  go_wp2_with fail
  refine (limbo_new w).mono ?_
  rintro e w1 ⟨rfl, hA, rfl⟩
  have C1 := (HB.out.alloc (.cells #[.slice none 0 0, .slice none 0 0, .slice none 0 0] 190)).cell
  have K0 : Hid (CK w w.heap.size 0 (fun _ => .slice none 0 0) ls (w.alloc (.cells #[.slice none 0 0, .slice none 0 0, .slice none 0 0] 190))) := ⟨hA.blk, fun i hi => by omega, fun i hi => by omega, fun i j hi => by omega, (Below.refl _ _).alloc (Nat.le_refl _) _⟩
  clear hA C
  dsimp only
  go_wp2_with fail
  generalize w.alloc (.cells #[.slice none 0 0, .slice none 0 0, .slice none 0 0] 190) = w1 at *
  clear C1
  go_loopw [13] (fun i wr => ∃ (k : Nat) (us : Nat → Value), k ≤ 3 ∧ i = .int .i64 k ∧ Hid (CK w w.heap.size k us ls wr)) (fun i _ => 3 - (intOf i).toNat)
  case atStart => exact ⟨0, _, by omega, rfl, K0⟩
  case round =>
    obtain ⟨k, us, hk, rfl, hK⟩ := hrel
    clear K0
    by_cases hlt : k < 3
    · obtain ⟨ak, ck, hvk, hidx⟩ := HS.out k hlt
      have hnk := HN.out k hlt
      have b3 : (k : Int) < 3 := by omega
      have CL : Hid (∀ W, Below wr.heap.size wr W → Calls Try.prog 170 #[.slice ak (ls k).length ck] W (Cloned W (ls k))) := fun W hW => by
        have h1 := HL.out k hlt
        rw [hvk] at h1
        exact clone_rl W _ _ ((h1.below hK.out.bel).below ⟨hW.os, hW.tape, hW.output, hW.size, hW.block⟩) (by omega)
      have NX : Hid (∀ W w2 v, Below wr.heap.size wr W → Below W.heap.size W w2 → RL w2 v (ls k) → (∀ q, v.ownBlock = some q → W.heap.size ≤ q) → CK w w.heap.size (k + 1) (updv us k v) ls (w2.setCell ⟨w.heap.size, k, none⟩ v)) := fun W w2 v h1 h2 h3 h4 =>
        (hK.out.below h1).next hlt (Nat.le_refl _) h2 h3 h4
      have CB : ∀ W, Below wr.heap.size wr W → W.cell? ⟨w.heap.size, k, none⟩ = some (selv (fun _ => .slice none 0 0) us k k) ∧ W.frozen? ⟨w.heap.size, k, none⟩ = false := fun W hW => by
        have hb := (hK.out.below hW).blk
        refine ⟨?_, hb.frozen k⟩
        rw [hb.cell]
        have : k = 0 ∨ k = 1 ∨ k = 2 := by omega
        rcases this with rfl | rfl | rfl <;> rfl
      have CX : Hid (∀ W, Below wr.heap.size wr W → Calls Try.prog 170 #[.slice ak (ls k).length ck] W fun e w2 => ∃ va vc, e = .returned (.slice va (ls k).length vc) ∧ (w2.cell? ⟨w.heap.size, k, none⟩ = some (selv (fun _ => .slice none 0 0) us k k) ∧ w2.frozen? ⟨w.heap.size, k, none⟩ = false) ∧
          Hid (CK w w.heap.size (k + 1) (updv us k (.slice va (ls k).length vc)) ls (w2.setCell ⟨w.heap.size, k, none⟩ (.slice va (ls k).length vc)))) := fun W hW =>
        (CL.out W hW).mono fun e w2 ⟨va, vc, he, hR, hA, hb2⟩ => ⟨va, vc, he, CB w2 (hW.trans (hb2.mono hW.size)), Lib.hid (NX.out W w2 _ hW hb2 hR hA)⟩
      have hb0 : Below wr.heap.size wr wr.drew := (Below.refl _ _).drew
      clear CB hvk hnk CL NX
      generalize (ls k).length = m at *
      generalize selv (fun _ => .slice none 0 0) us k k = old at *
      go_wp2_with fail
      go_region_with ((go_at_call 170; refine (CX.out _ hb0).mono ?_; rintro e w2 ⟨va, vc, rfl, ⟨CB2, FB2⟩, HK2⟩))
      all_goals
        go_wp2_with fail
        go_roundw
        case rel => exact ⟨k + 1, _, by omega, by go_num, HK2⟩
        case measure => simp [intOf]; omega
    · have hk3 : k = 3 := by omega
      subst hk3
      go_wp2_with fail
      go_ret
      exact ⟨w.heap.size, us, rfl, Nat.le_refl _, hK.out⟩
end Go.Proofs.Ytgkobmmannkegaa
