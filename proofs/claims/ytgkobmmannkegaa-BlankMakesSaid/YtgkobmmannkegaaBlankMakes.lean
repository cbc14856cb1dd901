/-
  The law BlankMakes (chapter 10), walked.
-/
import Derived.Test.YtgkobmmannkegaaBlankWords
namespace Go.Proofs.Ytgkobmmannkegaa
open Go Go.RowKit
set_option linter.unusedVariables false

theorem blankMakes_no (T S L G : Int) (h : ¬ PRight T S L G) (w : World) : Calls Try.prog 22 #[planV T S L G] w fun e w' => e = .returned (.bool true) ∧ Below w.heap.size w w' := by
  have H := Lib.hid h
  have B0 := Blk.new w [.int .i64 T, .int .i64 S, .int .i64 L, .int .u64 G] 24
  have C0 := B0.cell
  have V0 : Below w.heap.size w (w.alloc (.cells #[.int .i64 T, .int .i64 S, .int .i64 L, .int .u64 G] 24)) := (Below.refl _ _).alloc (Nat.le_refl _) _
  clear h
  go_enter Try.func22, Try.ntmps22
  go_wp2_with fail
  refine (make_no T S L G H.out _).mono ?_
  rintro e w1 ⟨rfl, hb1⟩
  have B1 := B0.below' hb1
  have C1 := B1.cell
  have V1 := V0.trans (hb1.mono V0.size)
  clear B0 C0 hb1 V0
  dsimp only
  go_wp2_with fail
  refine (rright_no T S L G H.out _).mono ?_
  rintro e w2 ⟨rfl, hb2⟩
  have V2 := V1.trans (hb2.mono V1.size)
  clear B1 C1 hb2 V1
  dsimp only
  go_wp2_with fail
  refine (bl_awake _).mono ?_
  rintro e w3 ⟨rfl, hb3⟩
  have V3 := V2.trans (hb3.mono V2.size)
  dsimp only
  go_wp2_with fail
  go_ret
  exact ⟨rfl, V3⟩
/-- What is kept: the plan, the memory. -/
def Km (w0 : World) (cs : List Value) (b g : Nat) (ws : List Int) (w : World) : Prop := Blk w w0.heap.size cs 24 ∧ CellsAt w b g ws ∧ Below w0.heap.size w0 w
section
variable {w0 w w' : World} {cs : List Value} {b g : Nat} {ws : List Int}
theorem Km.start (h1 : Blk w w0.heap.size cs 24) (h2 : CellsAt w b g ws) (h4 : Below w0.heap.size w0 w) : Km w0 cs b g ws w.drew ∧ ∀ i, w.drew.cell? ⟨w0.heap.size, i, none⟩ = cs[i]? :=
  have hb : Below w.heap.size w w.drew := (Below.refl _ _).drew
  ⟨⟨h1.below' hb, h2.below hb, h4.trans (hb.mono h4.size)⟩, (h1.below' hb).cell⟩
theorem Km.below (h : Km w0 cs b g ws w ∧ ∀ i, w.cell? ⟨w0.heap.size, i, none⟩ = cs[i]?) (hb : Below w.heap.size w w') : Km w0 cs b g ws w' ∧ ∀ i, w'.cell? ⟨w0.heap.size, i, none⟩ = cs[i]? :=
  ⟨⟨h.1.1.below' hb, h.1.2.1.below hb, h.1.2.2.trans (hb.mono h.1.2.2.size)⟩, (h.1.1.below' hb).cell⟩
end
theorem rows_ab {wa wb : World} {ga gb n : Nat} {va vb : Option Addr} {vc vd : Nat} {ws : List Int} (hl : n = ws.length) (hn : n ≤ 60000) (h1 : Row wa ga (.slice va n vc) ws) (hg : 0 < ws.length → ga < wa.heap.size) (hb : Below wa.heap.size wa wb) (h2 : Row wb gb (.slice vb n vd) ws) (hg2 : 0 < ws.length → gb < wb.heap.size) :
    Calls Try.prog 88 #[.slice va n vc, .slice vb n vd] wb fun e w' => e = .returned (.bool true) ∧ Below wb.heap.size wb w' :=
  same64_true wb wb.heap.size wb.heap.size _ _ ws ((h1.below hb).reads (fun h => by have := hg h; have := hb.size; omega)) (h2.reads hg2) (by omega)
theorem rows_ba {wa wb : World} {ga gb n : Nat} {va vb : Option Addr} {vc vd : Nat} {ws : List Int} (hl : n = ws.length) (hn : n ≤ 60000) (h1 : Row wa ga (.slice va n vc) ws) (hg : 0 < ws.length → ga < wa.heap.size) (hb : Below wb.heap.size wb wa) (h2 : Row wb gb (.slice vb n vd) ws) (hg2 : 0 < ws.length → gb < wb.heap.size) :
    Calls Try.prog 88 #[.slice va n vc, .slice vb n vd] wa fun e w' => e = .returned (.bool true) ∧ Below wa.heap.size wa w' :=
  same64_true wa wa.heap.size wa.heap.size _ _ ws (h1.reads hg) ((h2.below hb).reads (fun h => by have := hg2 h; have := hb.size; omega)) (by omega)
/-- A new row of n words. -/
def RowsN (w : World) (n : Nat) (ws : List Int) (e : Ending) (w' : World) : Prop := ∃ va vc g, e = .returned (.slice va n vc) ∧ Row w' g (.slice va n vc) ws ∧ (0 < ws.length → g < w'.heap.size) ∧ Below w.heap.size w w'
section
variable (T S L : Nat) (G : Int) (hT : T ≤ 8) (hS : S ≤ 64) (hL : L ≤ 8)
include hT hS hL
set_option maxHeartbeats 4000000 in
set_option maxRecDepth 100000 in
theorem blankMakes_yes (hP : PRight T S L G) (hG : 0 ≤ G) (w : World) : Calls Try.prog 22 #[planV T S L G] w fun e w' => e = .returned (.bool true) ∧ Below w.heap.size w w' := by
  have HP := Lib.hid hP
  have B0 := Blk.new w [.int .i64 T, .int .i64 S, .int .i64 L, .int .u64 G] 24
  have C0 := B0.cell
  have V0 : Below w.heap.size w (w.alloc (.cells #[.int .i64 T, .int .i64 S, .int .i64 L, .int .u64 G] 24)) := (Below.refl _ _).alloc (Nat.le_refl _) _
  have HA := Lib.hid bl_awake
  have hN := pCount_le T S L hT hS hL
  have hl : pCount T S L = (blankW T S L G).length := (blankW_length T S L G).symm
  have K1 : Hid (∀ W b g, Km w [.int .i64 T, .int .i64 S, .int .i64 L, .int .u64 G] b g (blankW T S L G) W → Calls Try.prog 94 #[.pointer (some ⟨b, 0, none⟩)] W (RowsN W (pCount T S L) (blankW T S L G))) := fun W b g h => (cells_words W b g _ h.2.1).mono fun e w' ⟨va, vc, g', he, hr, _, hg, hb⟩ => ⟨va, vc, g', by rw [he, hl], by rw [hl]; exact hr, hg, hb⟩
  have K2 : Hid (∀ W, Calls Try.prog 127 #[planV T S L G] W (RowsN W (pCount T S L) (blankW T S L G))) := fun W => (rblank_words T S L G hT hS hL hP hG W).mono fun e w' ⟨va, vc, g', he, hr, _, hg, hb⟩ => ⟨va, vc, g', by rw [he, hl], by rw [hl]; exact hr, hg, hb⟩
  have HL := Lib.hid hl
  have hr : pCount T S L ≤ 60000 := by omega
  clear hP hl
  generalize pCount T S L = N at *
  go_enter Try.func22, Try.ntmps22
  go_wp2_with fail
  refine (make_calls T S L G hT hS hL HP.out hG _).mono ?_
  rintro e w1 ⟨b, g, rfl, hC, hb, hg, hb1⟩
  have B1 := B0.below' hb1
  have C1 := B1.cell
  have D1 := Lib.hid hC
  have V1 := V0.trans (hb1.mono V0.size)
  clear B0 C0 hC hb1 V0 hb hg
  dsimp only
  go_wp2_with fail
  refine (rright_yes T S L G HP.out _).mono ?_
  rintro e w2 ⟨rfl, hb2⟩
  have B2 := B1.below' hb2
  have C2 := B2.cell
  have D2 := Lib.hid (D1.out.below hb2)
  have V2 := Lib.hid (V1.trans (hb2.mono V1.size))
  clear B1 C1 D1 hb2 V1
  dsimp only
  go_wp2_with fail
  go_region_held3 (fun w' => Km w [.int .i64 T, .int .i64 S, .int .i64 L, .int .u64 G] b g (blankW T S L G) w' ∧ ∀ i, w'.cell? ⟨w.heap.size, i, none⟩ = [Value.int .i64 T, .int .i64 S, .int .i64 L, .int .u64 G][i]?)
    ((first | (with_reducible exact Km.start B2 D2.out V2.out) | ((with_reducible refine Km.below ?_ hba); assumption) | ((with_reducible refine Km.below ?_ hbb); assumption) | ((with_reducible refine Km.below ?_ hbc); assumption) | ((with_reducible refine Km.below ?_ hbd); assumption)))
    (first | (go_at_call 94; (with_reducible refine (K1.out _ b g ?_).mono ?_); (first | assumption | exact (by assumption : _ ∧ _).1); rintro e w' ⟨va, vc, ra, rfl, hRa, hga, hba⟩) | (go_at_call 127; (with_reducible refine (K2.out _).mono ?_); rintro e w' ⟨vb, vd, rb, rfl, hRb, hgb, hbb⟩) |
      (go_at_call 88; (with_reducible refine (rows_ab HL.out hr hRa hga hbb hRb hgb).mono ?_); rintro e w' ⟨rfl, hbc⟩) | (go_at_call 88; (with_reducible refine (rows_ba HL.out hr hRa hga hba hRb hgb).mono ?_); rintro e w' ⟨rfl, hbc⟩) | (go_at_call 124; refine (HA.out _).mono ?_; rintro e w' ⟨rfl, hbd⟩))
  all_goals go_wp2_with fail
  all_goals go_ret
  all_goals exact ⟨rfl, (by assumption : Km _ _ _ _ _ _ ∧ _).1.2.2⟩
end
theorem blankMakes_walk (T S L G : Int) (hG : 0 ≤ G) (w : World) : Calls Try.prog 22 #[planV T S L G] w fun e w' => e = .returned (.bool true) ∧ Below w.heap.size w w' := by
  by_cases h : PRight T S L G
  · have h' := h
    obtain ⟨⟨a, b⟩, ⟨c, d⟩, ⟨e, f⟩, _⟩ := h'
    obtain ⟨T, rfl⟩ : ∃ m : Nat, T = m := ⟨T.toNat, by omega⟩
    obtain ⟨S, rfl⟩ : ∃ m : Nat, S = m := ⟨S.toNat, by omega⟩
    obtain ⟨L, rfl⟩ : ∃ m : Nat, L = m := ⟨L.toNat, by omega⟩
    exact blankMakes_yes T S L G (by omega) (by omega) (by omega) h hG w
  · exact blankMakes_no T S L G h w
end Go.Proofs.Ytgkobmmannkegaa
