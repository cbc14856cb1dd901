/-
  BlankFree (chapter 10), walked.
-/
import Derived.Test.YtgkobmmannkegaaBlankClaims
import Derived.Test.YtgkobmmannkegaaFreeRef
import Derived.WalkMore
namespace Go.Proofs.Ytgkobmmannkegaa
open Go Go.RowKit
set_option linter.unusedVariables false

theorem blankFree_long (a : Option Addr) (n c : Nat) (T S L G : Int) (w : World) (hn : 2000 < n) : Calls Try.prog 21 #[.slice a n c, planV T S L G] w fun e w' => e = .returned (.bool true) ∧ Below w.heap.size w w' := by
  have V0 : Below w.heap.size w (w.alloc (.cells #[.int .i64 T, .int .i64 S, .int .i64 L, .int .u64 G] 24)) := (Below.refl _ _).alloc (Nat.le_refl _) _
  go_enter Try.func21, Try.ntmps21
  go_wp2_with fail
  refine (bl_awake _).mono ?_
  rintro e w3 ⟨rfl, hb3⟩
  dsimp only
  go_wp2_with fail
  go_ret
  exact ⟨rfl, V0.trans (hb3.mono V0.size)⟩
/-- What is kept: the plan, the memory, the list. -/
def Kb (w0 : World) (cs : List Value) (b g : Nat) (ws : List Int) (v : Value) (w : World) : Prop := Blk w w0.heap.size cs 24 ∧ CellsAt w b g ws ∧ U64s w w0.heap.size v ws ∧ Below w0.heap.size w0 w
section
variable {w0 w w' : World} {cs : List Value} {b g : Nat} {ws : List Int} {v : Value}
theorem Kb.start (h1 : Blk w w0.heap.size cs 24) (h2 : CellsAt w b g ws) (h3 : U64s w w0.heap.size v ws) (h4 : Below w0.heap.size w0 w) : Kb w0 cs b g ws v w.drew ∧ ∀ i, w.drew.cell? ⟨w0.heap.size, i, none⟩ = cs[i]? :=
  have hb : Below w.heap.size w w.drew := (Below.refl _ _).drew
  ⟨⟨h1.below' hb, h2.below hb, h3.below hb, h4.trans (hb.mono h4.size)⟩, (h1.below' hb).cell⟩
theorem Kb.below (h : Kb w0 cs b g ws v w ∧ ∀ i, w.cell? ⟨w0.heap.size, i, none⟩ = cs[i]?) (hb : Below w.heap.size w w') : Kb w0 cs b g ws v w' ∧ ∀ i, w'.cell? ⟨w0.heap.size, i, none⟩ = cs[i]? :=
  ⟨⟨h.1.1.below' hb, h.1.2.1.below hb, h.1.2.2.1.below hb, h.1.2.2.2.trans (hb.mono h.1.2.2.2.size)⟩, (h.1.1.below' hb).cell⟩
end
/-- What both come to. -/
def Frees (n : Nat) (res : List Nat) (e : Ending) (w w' : World) : Prop := ∃ va vc r, e = .returned (.slice va n vc) ∧ RecB natR w' r (.slice va n vc) res ∧ Below w.heap.size w w'
theorem same_ab {wa wb : World} {ra rb n : Nat} {va vb : Option Addr} {vc vd : Nat} {res : List Nat} (hl : n = res.length) (hn : n ≤ 60000) (h1 : RecB natR wa ra (.slice va n vc) res) (hb : Below wa.heap.size wa wb) (h2 : RecB natR wb rb (.slice vb n vd) res) :
    Calls Try.prog 125 #[.slice va n vc, .slice vb n vd] wb fun e w' => e = .returned (.bool true) ∧ Below wb.heap.size wb w' := by
  subst hl
  exact same_nats _ _ _ _ _ _ _ _ (h1.below hb) h2 hn
theorem same_ba {wa wb : World} {ra rb n : Nat} {va vb : Option Addr} {vc vd : Nat} {res : List Nat} (hl : n = res.length) (hn : n ≤ 60000) (h1 : RecB natR wa ra (.slice va n vc) res) (hb : Below wb.heap.size wb wa) (h2 : RecB natR wb rb (.slice vb n vd) res) :
    Calls Try.prog 125 #[.slice va n vc, .slice vb n vd] wa fun e w' => e = .returned (.bool true) ∧ Below wa.heap.size wa w' := by
  subst hl
  exact same_nats _ _ _ _ _ _ _ _ h1 (h2.below hb) hn
set_option maxHeartbeats 4000000 in
set_option maxRecDepth 100000 in
/-- The walk, whatever both writings come to. -/
theorem blankFree_by (T S L G : Int) (v : Value) (ws : List Int) (w : World) (hI : U64s w w.heap.size v ws) (hn : ws.length ≤ 2000) (n : Nat) (res : List Nat) (hl : n = res.length) (hr : n ≤ 60000)
    (H1 : ∀ b g W, CellsAt W b g ws → Calls Try.prog 123 #[.pointer (some ⟨b, 0, none⟩), planV T S L G] W fun e w' => Frees n res e W w')
    (H2 : ∀ W, U64s W W.heap.size v ws → Calls Try.prog 126 #[v, planV T S L G] W fun e w' => Frees n res e W w') :
    Calls Try.prog 21 #[v, planV T S L G] w fun e w' => e = .returned (.bool true) ∧ Below w.heap.size w w' := by
  have hx := hI
  obtain ⟨av, c, rfl, _⟩ := hx.ex
  have B0 := Blk.new w [.int .i64 T, .int .i64 S, .int .i64 L, .int .u64 G] 24
  have C0 := B0.cell
  have V0 : Below w.heap.size w (w.alloc (.cells #[.int .i64 T, .int .i64 S, .int .i64 L, .int .u64 G] 24)) := (Below.refl _ _).alloc (Nat.le_refl _) _
  have U0 := Lib.hid (hI.below V0)
  have HA := Lib.hid bl_awake
  have K1 := Lib.hid (fun W b g (h : Kb w [.int .i64 T, .int .i64 S, .int .i64 L, .int .u64 G] b g ws (.slice av ws.length c) W) => H1 b g W h.2.1)
  have K2 := Lib.hid (fun W b g (h : Kb w [.int .i64 T, .int .i64 S, .int .i64 L, .int .u64 G] b g ws (.slice av ws.length c) W) => H2 W (h.2.2.1.mono h.2.2.2.size))
  have HL := Lib.hid hl
  clear hI hx H1 H2 hl
  go_enter Try.func21, Try.ntmps21
  go_wp2_with fail
  refine (cells_of _ _ _ _ U0.out (by omega)).mono ?_
  rintro e w1 ⟨b, g, rfl, hC, hb, hg, hb1⟩
  have B1 := B0.below' hb1
  have C1 := B1.cell
  have D1 := Lib.hid hC
  have U1 := Lib.hid (U0.out.below hb1)
  have V1 := Lib.hid (V0.trans (hb1.mono V0.size))
  clear B0 C0 hC hb1 V0 U0 hb hg
  dsimp only
  go_wp2_with fail
  go_region_held3 (fun w' => Kb w [.int .i64 T, .int .i64 S, .int .i64 L, .int .u64 G] b g ws (.slice av ws.length c) w' ∧ ∀ i, w'.cell? ⟨w.heap.size, i, none⟩ = [Value.int .i64 T, .int .i64 S, .int .i64 L, .int .u64 G][i]?)
    ((first | (with_reducible exact Kb.start B1 D1.out U1.out V1.out) | ((with_reducible refine Kb.below ?_ hba); assumption) | ((with_reducible refine Kb.below ?_ hbb); assumption) | ((with_reducible refine Kb.below ?_ hbc); assumption) | ((with_reducible refine Kb.below ?_ hbd); assumption)))
    (first | (go_at_call 123; (with_reducible refine (K1.out _ b g ?_).mono ?_); (first | assumption | exact (by assumption : _ ∧ _).1); rintro e w' ⟨va, vc, ra, rfl, hRa, hba⟩) | (go_at_call 126; (with_reducible refine (K2.out _ b g ?_).mono ?_); (first | assumption | exact (by assumption : _ ∧ _).1); rintro e w' ⟨vb, vd, rb, rfl, hRb, hbb⟩) |
      (go_at_call 125; (with_reducible refine (same_ab HL.out hr hRa hbb hRb).mono ?_); rintro e w' ⟨rfl, hbc⟩) | (go_at_call 125; (with_reducible refine (same_ba HL.out hr hRa hba hRb).mono ?_); rintro e w' ⟨rfl, hbc⟩) | (go_at_call 124; refine (HA.out _).mono ?_; rintro e w' ⟨rfl, hbd⟩))
  all_goals go_wp2_with fail
  all_goals go_ret
  all_goals exact ⟨rfl, (by assumption : Kb _ _ _ _ _ _ _ ∧ _).1.2.2.2⟩
theorem freeFrom_len (next : Nat → Int) (S : Nat) : ∀ (f : Nat) (top : Int) (out : List Nat), (freeFrom next S f top out).length ≤ out.length + f
  | 0, _, _ => by simp [freeFrom]
  | f + 1, top, out => by
    unfold freeFrom
    split
    · have := freeFrom_len next S f (next top.toNat) (out ++ [top.toNat])
      simp at this
      omega
    · omega
theorem recB_nil (w : World) : RecB natR w 0 (.slice none 0 0) [] := ⟨⟨none, 0, rfl, Nat.le_refl _, fun h => by simp at h⟩⟩
theorem blankFree_walk (T S L G : Int) (v : Value) (ws : List Int) (w : World) (hI : U64s w w.heap.size v ws) (hn : ws.length ≤ 2000) (hW : Wide ws) :
    Calls Try.prog 21 #[v, planV T S L G] w fun e w' => e = .returned (.bool true) ∧ Below w.heap.size w w' := by
  by_cases h : PRight T S L G
  · have h' := h
    obtain ⟨⟨a, b⟩, ⟨c, d⟩, ⟨e, f⟩, _⟩ := h'
    obtain ⟨T, rfl⟩ : ∃ m : Nat, T = m := ⟨T.toNat, by omega⟩
    obtain ⟨S, rfl⟩ : ∃ m : Nat, S = m := ⟨S.toNat, by omega⟩
    obtain ⟨L, rfl⟩ : ∃ m : Nat, L = m := ⟨L.toNat, by omega⟩
    have hl := freeFrom_len (nextOf ws T L) S (S + 1) (wget ws 3 % 4294967296) []
    refine blankFree_by T S L G v ws w hI hn _ (freeFrom (nextOf ws T L) S (S + 1) (wget ws 3 % 4294967296) []) rfl (by simp at hl; omega) (fun b g W hC => ?_) (fun W hU => ?_)
    · refine (free_calls T S L G (by omega) (by omega) (by omega) h b g ws hW W hC).mono ?_
      rintro e w' ⟨va, vc, r, rfl, hR, hb⟩
      exact ⟨va, vc, r, rfl, hR.recB, hb⟩
    · refine (rfree_calls T S L G (by omega) (by omega) (by omega) h v ws hW W hU (by omega)).mono ?_
      rintro e w' ⟨va, vc, r, rfl, hR, hb⟩
      exact ⟨va, vc, r, rfl, hR.recB, hb⟩
  · refine blankFree_by T S L G v ws w hI hn 0 [] rfl (by omega) (fun b g W hC => ?_) (fun W hU => ?_)
    · refine (free_no T S L G h _ W).mono ?_
      rintro e w' ⟨rfl, hb⟩
      exact ⟨none, 0, 0, rfl, recB_nil _, hb⟩
    · refine (rfree_no T S L G h _ W).mono ?_
      rintro e w' ⟨rfl, hb⟩
      exact ⟨none, 0, 0, rfl, recB_nil _, hb⟩
end Go.Proofs.Ytgkobmmannkegaa
