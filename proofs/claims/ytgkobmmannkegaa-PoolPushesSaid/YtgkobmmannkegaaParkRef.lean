/-
  Parking: the document's text over a tape.
-/
import Derived.Test.YtgkobmmannkegaaPark
import Derived.Test.YtgkobmmannkegaaDParkAsks
import Derived.Test.YtgkobmmannkegaaPin
namespace Go.Proofs.Ytgkobmmannkegaa
open Go Go.RowKit
set_option linter.unusedVariables false

/-- What is left of a tape, read off its block. -/
def tapeLeft (n x : Nat) (w : World) : Nat := match w.cell? ⟨x, 2, none⟩, w.cell? ⟨x, 1, none⟩ with
  | some (.bool false), some (.slice _ k _) => n + 1 - k
  | _, _ => 0
theorem tapeLeft_eq {w : World} {x lo : Nat} {inV : Value} {ins : List Int} {s : TapeS} (n : Nat) (h : TapeIn w x lo inV ins s) : tapeLeft n x w = if s.stop then 0 else n + 1 - s.out.length := by
  obtain ⟨_, _, v, hB, hD⟩ := h.tape
  obtain ⟨a, c, rfl⟩ := owns_shape hD
  have C := hB.cell
  unfold tapeLeft
  rw [C, C]
  simp
  cases s.stop <;> simp
abbrev pkEnd (sem un : Int) (ins : List Int) : TapeS := ⟨(drive (pkM sem un) ins (pkLook sem)).1, (pkM sem un).more (drive (pkM sem un) ins (pkLook sem)).2⟩
def PkLoop (sem un : Int) (ins : List Int) (s : TapeS) : Prop := Sync (pkM sem un) ins (pkLook sem) (pkLook sem) s ∨ ∃ st : PkS, Fin (pkM sem un) ins (pkLook sem) st s
theorem pk_stopped {sem un : Int} {ins : List Int} {s : TapeS} (h : PkLoop sem un ins s) (hs : s.stop = true) : s = pkEnd sem un ins := by
  rcases h with h | ⟨st, h⟩
  · rw [h.1] at hs; cases hs
  · exact h.done.1
theorem pk_round {sem un : Int} {ins : List Int} {s : TapeS} (hL : PkLoop sem un ins s) (hs : s.stop = false) : s.out.length ≤ ins.length ∧ ∃ v s1, tdo ins s ⟨1, sem, 0, 0, 0⟩ = (v, s1) ∧ s1.out.length ≤ ins.length + 1 ∧
    ((s1.stop = true ∧ s1 = pkEnd sem un ins) ∨
     (s1.stop = false ∧ v ≠ 0 ∧ ∃ y s2, tdo ins s1 ⟨4, sem, 18446744073709551615, 0, 0⟩ = (y, s2) ∧ s2 = pkEnd sem un ins) ∨
     (s1.stop = false ∧ v = 0 ∧ ∃ c s2, tdo ins s1 ⟨1, 1, 0, 0, 0⟩ = (c, s2) ∧ s2.out.length ≤ ins.length + 1 ∧
       ((s2.stop = false ∧ un ≤ wrap64 c ∧ s2 = pkEnd sem un ins) ∨ (s2.stop = true ∧ PkLoop sem un ins s2) ∨ (s2.stop = false ∧ wrap64 c < un ∧ PkLoop sem un ins s2 ∧ s.out.length < s2.out.length)))) := by
  rcases hL with h | ⟨st, h⟩
  · refine ⟨h.2.1, ?_⟩
    have hn := h.2.1
    rcases h.ask (by simp [pkM, pkLook]) ⟨1, sem, 0, 0, 0⟩ (by simp [pkM, pkLook]) with ⟨v, h1, _, h3⟩ | ⟨h1, h3⟩
    · rw [h1] at h3
      refine ⟨v, _, h1, Nat.le_succ_of_le h3.2.1, .inr ?_⟩
      by_cases hv : v = 0
      · have e : (pkM sem un).tell (pkLook sem) v = ⟨2, ⟨1, 1, 0, 0, 0⟩⟩ := by simp [pkM, pkLook, pkTell, hv]
        rw [e] at h3
        refine .inr ⟨rfl, hv, ?_⟩
        rcases h3.ask (by simp [pkM]) ⟨1, 1, 0, 0, 0⟩ (by simp [pkM]) with ⟨c, g1, _, g3⟩ | ⟨g1, g3⟩
        · rw [g1] at g3
          refine ⟨c, _, g1, Nat.le_succ_of_le g3.2.1, ?_⟩
          by_cases hu : un ≤ wrap64 c
          · have e2 : (pkM sem un).tell ⟨2, ⟨1, 1, 0, 0, 0⟩⟩ c = ⟨0, (pkLook sem).d⟩ := by simp [pkM, pkTell, hu]
            rw [e2] at g3
            exact .inl ⟨rfl, hu, (g3.done (by simp [pkM])).1⟩
          · have e2 : (pkM sem un).tell ⟨2, ⟨1, 1, 0, 0, 0⟩⟩ c = pkLook sem := by simp [pkM, pkTell, hu]
            rw [e2] at g3
            exact .inr (.inr ⟨rfl, by omega, .inl g3, by simp⟩)
        · rw [g1] at g3
          refine ⟨0, _, g1, ?_, .inr (.inl ⟨rfl, .inr ⟨⟨2, ⟨1, 1, 0, 0, 0⟩⟩, g3⟩⟩)⟩
          have := h3.2.1; simp at this ⊢; omega
      · have e : (pkM sem un).tell (pkLook sem) v = ⟨3, ⟨4, sem, 18446744073709551615, 0, 0⟩⟩ := by simp [pkM, pkLook, pkTell, hv]
        rw [e] at h3
        refine .inl ⟨rfl, hv, ?_⟩
        rcases h3.ask (by simp [pkM]) ⟨4, sem, 18446744073709551615, 0, 0⟩ (by simp [pkM]) with ⟨y, g1, _, g3⟩ | ⟨g1, g3⟩
        · rw [g1] at g3
          have e2 : (pkM sem un).tell ⟨3, ⟨4, sem, 18446744073709551615, 0, 0⟩⟩ y = ⟨0, (pkLook sem).d⟩ := by simp [pkM, pkTell]
          rw [e2] at g3
          exact ⟨y, _, g1, (g3.done (by simp [pkM])).1⟩
        · rw [g1] at g3
          exact ⟨0, _, g1, g3.done.1⟩
    · rw [h1] at h3
      refine ⟨0, _, h1, by simp; omega, .inl ⟨rfl, h3.done.1⟩⟩
  · have : s.stop = true := by rw [h.1]
    rw [this] at hs; cases hs
set_option maxHeartbeats 4000000 in
set_option maxRecDepth 100000 in
theorem pk_ref (T S L G th un : Int) (w : World) (x lo : Nat) (inV : Value) (ins : List Int) (hF : FreshTape w x inV ins) (hlo : w.heap.size = lo) (hn : ins.length ≤ 300) :
    TapeCalls 63 #[.pointer (some ⟨x, 0, none⟩), planV T S L G, .int .i64 th, .int .i64 un] w x lo inV (.tuple #[]) (pkEnd (wrap64 (4 + 2 * T + th)) un ins) := by
  subst hlo
  have HF := Lib.hid hF
  have hx := hF.blk.lt
  clear hF
  generalize hsem : wrap64 (4 + 2 * T + th) = sem
  have few : ∀ s, PkLoop sem un ins s → s.out.length ≤ 4096 := by
    rintro s (h | ⟨st, h⟩)
    · exact h.few (by omega)
    · exact h.few (by omega)
  have FEW := Lib.hid few
  clear few
  go_enter Try.func63, Try.ntmps63
  go_wp2_with fail
  refine (rsem_calls T S L G _ _).mono ?_
  rw [hsem]
  rintro e w1 ⟨rfl, hb⟩
  have T1 := Lib.hid ((HF.out.alloc _).below hb).tape
  have W1 := Lib.hid (Below.step _ hb)
  have hz := hb.size
  rw [World.size_alloc] at hz
  clear hb hsem
  have HL : Hid (PkLoop sem un ins ⟨[], false⟩) := .inl (Sync.start _ _ _)
  go_wp2_with fail
  go_loopw [9, 10] (fun sv cv wr => ∃ (s : TapeS), Hid (PkLoop sem un ins s) ∧ Hid (TapeIn wr x w1.heap.size inV ins s) ∧ Hid (Mod (TapeMod x w1.heap.size) w1 wr)) (fun _ _ wr => tapeLeft ins.length x wr)
  case atStart => exact ⟨⟨[], false⟩, HL, T1, Mod.refl _ _⟩
  case round =>
    obtain ⟨s, hL, hT, hM⟩ := hrel
    have hleft := tapeLeft_eq ins.length hT.out
    obtain ⟨_, _, vo, hB, _⟩ := hT.out.tape
    have CB := hB.cell
    have HLe := Lib.hid hleft
    clear hleft
    obtain ⟨so, sb⟩ := s
    cases sb with
    | true =>
      have g3 := Lib.hid (pk_stopped hL.out rfl)
      go_wp2_with fail
      go_returns
      exact ⟨rfl, g3.out ▸ hT.out.tape.lower (by omega) hx, TapeMod.lower hM.out (Mod.of_below (S := fun _ => False) W1.out) (by omega)⟩
    | false =>
      obtain ⟨hso, v, s1, g1, gl, g2⟩ := pk_round hL.out rfl
      have G1 := Lib.hid g1
      have G2 := Lib.hid g2
      clear g1 g2
      go_wp2_with fail
      refine (tape_load_eq hT.out G1.out).mono ?_
      rintro e w3 ⟨rfl, ht3, hM3⟩
      have M3 := Lib.hid (hM.out.trans' hM3)
      have T3 := Lib.hid (hT.out.step ht3 hM3 (by omega))
      obtain ⟨_, _, vo3, hB3, _⟩ := ht3
      have C3 := hB3.cell
      clear hM3 CB hB hB3
      obtain ⟨o1, b1⟩ := s1
      rcases G2.out with ⟨hb1, he⟩ | ⟨hb1, hv, y, s2, hd, he⟩ | ⟨hb1, hv, c, s2, hd, hl2, h4⟩
      · simp only at hb1
        subst hb1
        have HE := Lib.hid he
        clear he
        go_wp2_with fail
        go_returns
        exact ⟨rfl, HE.out ▸ T3.out.tape.lower (by omega) hx, TapeMod.lower M3.out (Mod.of_below (S := fun _ => False) W1.out) (by omega)⟩
      · simp only at hb1
        subst hb1
        have HE := Lib.hid he
        have HD := Lib.hid hd
        have e0 : (v != 0) = true := by simpa using hv
        clear he hd hv
        go_wp2_with fail
        refine (tape_do_eq T3.out HD.out).mono ?_
        rintro e w4 ⟨rfl, ht4, hM4⟩
        go_wp2_with fail
        go_returns
        exact ⟨rfl, HE.out ▸ ht4.lower (by omega) hx, TapeMod.lower (M3.out.trans' hM4) (Mod.of_below (S := fun _ => False) W1.out) (by omega)⟩
      · simp only at hb1
        subst hb1
        subst hv
        have HD := Lib.hid hd
        have H4 := Lib.hid h4
        clear hd h4
        go_wp2_with fail
        refine (tape_load_eq T3.out HD.out).mono ?_
        rintro e w4 ⟨rfl, ht4, hM4⟩
        have M4 := Lib.hid (M3.out.trans' hM4)
        have T4 := Lib.hid (T3.out.step ht4 hM4 (by omega))
        obtain ⟨_, _, vo4, hB4, _⟩ := ht4
        have C4 := hB4.cell
        have HL4 := Lib.hid (tapeLeft_eq ins.length T4.out)
        clear hM4 hB4 C3
        obtain ⟨o2, b2⟩ := s2
        rcases H4.out with ⟨hb2, hu, he⟩ | ⟨hb2, hn2⟩ | ⟨hb2, hu, hn2, hlt⟩
        · simp only at hb2
          subst hb2
          have HE := Lib.hid he
          clear he
          go_wp2_with fail
          go_returns
          exact ⟨rfl, HE.out ▸ T4.out.tape.lower (by omega) hx, TapeMod.lower M4.out (Mod.of_below (S := fun _ => False) W1.out) (by omega)⟩
        · simp only at hb2
          subst hb2
          have HN := Lib.hid hn2
          clear hn2
          go_wp2_with fail
          go_roundw
          case rel => exact ⟨⟨o2, true⟩, HN, T4, M4⟩
          case measure => rw [HLe.out, HL4.out]; simp; omega
        · simp only at hb2
          subst hb2
          have HN := Lib.hid hn2
          clear hn2
          go_wp2_with fail
          go_roundw
          case rel => exact ⟨⟨o2, false⟩, HN, T4, M4⟩
          case measure => rw [HLe.out, HL4.out]; simp at hlt hso ⊢; omega
end Go.Proofs.Ytgkobmmannkegaa
