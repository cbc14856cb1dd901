/-
  A flow of tasks (chapter 11): what is left of it, Next and Tell of any flow.
-/
import Derived.Test.YtgkobmmannkegaaFlowNew
import Derived.Test.YtgkobmmannkegaaFlowTell
namespace Go.Proofs.Ytgkobmmannkegaa
open Go Go.RowKit
set_option linter.unusedVariables false

/-- What a flow has left: nothing; a script alone; or a script and a second one behind it. All blocks that it leans on are of O. -/
def FL (w : World) (f b r : Nat) (O : Nat → Prop) (m : Nat) (all : List D) : Prop :=
  (O f ∧ O b ∧ O r ∧ ∀ q, O q → q < w.heap.size) ∧
  ((all = [] ∧ Over w f) ∨
  (all ≠ [] ∧ ∃ g found, O g ∧ found.length ≤ m ∧ FlowAt w f b g r .nilFunc all found) ∨
  (∃ left bs, left ≠ [] ∧ all = left ++ bs ∧ bs.length ≤ 65000 ∧ ∃ g c x g2 found, (O g ∧ O c ∧ O x ∧ O g2) ∧ found.length ≤ m ∧ (c ≠ b ∧ c ≠ r ∧ x ≠ b ∧ x ≠ r ∧ g2 ≠ b ∧ g2 ≠ r) ∧ FlowAt w f b g r (nextFn c x) left found ∧ NextAt w f c x g2 bs))
theorem FlowAt.mod {w w' : World} {f b g r : Nat} {fn : Value} {left : List D} {found : List Int} {S : Nat → Prop} (h : FlowAt w f b g r fn left found) (hm : Mod S w w') (hf : ¬ S f) (hb : ¬ S b) (hg : ¬ S g) (hr : ¬ S r) : FlowAt w' f b g r fn left found :=
  ⟨hm.blk h.blk hf, h.sc.mod hm hb hg hr, h.nb, h.ng, h.nr⟩
section
variable {w w' : World} {lo f b r m : Nat} {O O' : Nat → Prop} {all : List D} {S : Nat → Prop}
theorem FL.mod (h : FL w f b r O m all) (hm : Mod S w w') (hS : ∀ q, O q → ¬ S q) : FL w' f b r O m all := by
  obtain ⟨⟨z1, z2, z3, z4⟩, h⟩ := h
  refine ⟨⟨z1, z2, z3, fun q hq => Nat.lt_of_lt_of_le (z4 q hq) hm.size⟩, ?_⟩
  rcases h with ⟨h0, h1⟩ | ⟨h0, g, found, h3, h4, h5⟩ | ⟨left, bs, h0, h1, h2, g, c, x, g2, found, ⟨y1, y2, y3, y4⟩, h5, h6, h7, h8⟩
  · exact .inl ⟨h0, hm.blk h1 (hS _ z1)⟩
  · exact .inr (.inl ⟨h0, g, found, h3, h4, h5.mod hm (hS _ z1) (hS _ z2) (hS _ h3) (hS _ z3)⟩)
  · exact .inr (.inr ⟨left, bs, h0, h1, h2, g, c, x, g2, found, ⟨y1, y2, y3, y4⟩, h5, h6, h7.mod hm (hS _ z1) (hS _ z2) (hS _ y1) (hS _ z3), h8.mod hm (hS _ y2) (hS _ y3) (hS _ y4)⟩)
theorem FL.below (h : FL w f b r O m all) (hb : Below w.heap.size w w') : FL w' f b r O m all := h.mod (Mod.of_below (S := fun _ => False) hb) (fun _ _ => id)
theorem FL.wider (h : FL w f b r O m all) (hO : ∀ q, O q → O' q) (hO' : ∀ q, O' q → q < w.heap.size) : FL w f b r O' m all := by
  obtain ⟨⟨z1, z2, z3, z4⟩, h⟩ := h
  refine ⟨⟨hO _ z1, hO _ z2, hO _ z3, hO'⟩, ?_⟩
  rcases h with h | ⟨h0, g, found, h3, h4, h5⟩ | ⟨left, bs, h0, h1, h2, g, c, x, g2, found, ⟨y1, y2, y3, y4⟩, h5⟩
  · exact .inl h
  · exact .inr (.inl ⟨h0, g, found, hO _ h3, h4, h5⟩)
  · exact .inr (.inr ⟨left, bs, h0, h1, h2, g, c, x, g2, found, ⟨hO _ y1, hO _ y2, hO _ y3, hO _ y4⟩, h5⟩)
theorem FL.of_st {found : List Int} (h : FlowSt w lo f all found) (hm : found.length ≤ m) : ∃ b r, FL w f b r (fun q => q = f ∨ lo ≤ q ∧ q < w.heap.size) m all ∧ (b = f ∨ lo ≤ b) ∧ (r = f ∨ lo ≤ r) := by
  rcases h with h | ⟨h0, b, g, r, h1, h2, h3, h4⟩
  · have hl := Blk.lt h.2
    refine ⟨f, f, ⟨⟨.inl rfl, .inl rfl, .inl rfl, ?_⟩, .inl h⟩, .inl rfl, .inl rfl⟩
    rintro q (rfl | hq)
    · exact hl
    · exact hq.2
  · have hl := h4.sc.lt
    have hf := h4.blk.lt
    have hg := hl.2.2 (List.length_pos_iff.2 h0)
    refine ⟨b, r, ⟨⟨.inl rfl, .inr ⟨h1, hl.1⟩, .inr ⟨h3, hl.2.1⟩, ?_⟩, .inr (.inl ⟨h0, g, found, .inr ⟨h2, hg⟩, hm, h4⟩)⟩, .inr h1, .inr h3⟩
    rintro q (rfl | hq)
    · exact hf
    · exact hq.2
theorem FL.of_two {left bs : List D} (h : Flow2 w lo f left bs []) (hn : bs.length ≤ 65000) : ∃ b r, FL w f b r (fun q => q < w.heap.size) 0 (left ++ bs) ∧ (b = f ∨ lo ≤ b) ∧ (r = f ∨ lo ≤ r) := by
  rcases h with ⟨rfl, h⟩ | ⟨h0, b, g, r, c, x, g2, h1, h2, h3, h4⟩
  · obtain ⟨b, r, h1, h2⟩ := FL.of_st (m := 0) h (by simp)
    exact ⟨b, r, by simpa using h1.wider h1.1.2.2.2 (fun q hq => hq), h2⟩
  · have hl := h3.sc.lt
    have hg := hl.2.2 (List.length_pos_iff.2 h0)
    obtain ⟨bv, hx, _⟩ := h4.xb
    exact ⟨b, r, ⟨⟨h3.blk.lt, hl.1, hl.2.1, fun q hq => hq⟩, .inr (.inr ⟨left, bs, h0, rfl, hn, g, c, x, g2, [], ⟨hg, h4.cb.lt, hx.lt, h2.2.2.2.2.2.2⟩, by simp, ⟨h2.1, h2.2.1, h2.2.2.1, h2.2.2.2.1, h2.2.2.2.2.1, h2.2.2.2.2.2.1⟩, h3, h4⟩)⟩, .inr h1.1, .inr h1.2.2.1⟩
theorem FL.blk (h : FL w f b r O m all) : ∃ u v, Blk w f [u, v] 198 := by
  obtain ⟨_, h⟩ := h
  rcases h with ⟨h0, h1⟩ | ⟨h0, g, found, h3, h4, h5⟩ | ⟨left, bs, h0, h1, h2, g, c, x, g2, found, _, h5, h6, h7, h8⟩
  · exact ⟨_, _, h1⟩
  · exact ⟨_, _, h5.blk⟩
  · exact ⟨_, _, h7.blk⟩
end
theorem fl_nextY (w : World) (f b r : Nat) (O : Nat → Prop) (m : Nat) (d : D) (rest : List D) (h : FL w f b r O m (d :: rest)) : Calls Try.prog 119 #[.pointer (some ⟨f, 0, none⟩)] w fun e w' => e = .returned (.tuple #[d.val, .bool true]) ∧ Below w.heap.size w w' := by
  obtain ⟨_, h⟩ := h
  rcases h with ⟨h0, h1⟩ | ⟨h0, g, found, h3, h4, h5⟩ | ⟨left, bs, h0, h1, h2, g, c, x, g2, found, _, h5, h6, h7, h8⟩
  · simp at h0
  · exact flow_nextY w f b g r _ d rest found h5
  · cases left with
    | nil => exact absurd rfl h0
    | cons d' rest' =>
      simp only [List.cons_append, List.cons.injEq] at h1
      obtain ⟨rfl, _⟩ := h1
      exact flow_nextY w f b g r _ d rest' found h7
theorem fl_nextN (w : World) (f b r : Nat) (O : Nat → Prop) (m : Nat) (h : FL w f b r O m []) : Calls Try.prog 119 #[.pointer (some ⟨f, 0, none⟩)] w fun e w' => e = .returned (.tuple #[noD, .bool false]) ∧ Below w.heap.size w w' := by
  obtain ⟨_, h⟩ := h
  rcases h with ⟨h0, h1⟩ | ⟨h0, g, found, h3, h4, h5⟩ | ⟨left, bs, h0, h1, h2, g, c, x, g2, found, _, h5, h6, h7, h8⟩
  · exact flow_next_end w f _ h1
  · exact absurd rfl h0
  · simp at h1
    exact absurd h1.1 h0
theorem fl_tell (w : World) (f b r : Nat) (O : Nat → Prop) (m : Nat) (d : D) (rest : List D) (x : Int) (h : FL w f b r O m (d :: rest)) (hm : m ≤ 60000) :
    Calls Try.prog 120 #[.pointer (some ⟨f, 0, none⟩), .int .u64 x] w fun e w' => e = .returned (.tuple #[]) ∧ ∃ b' r', FL w' f b' r' (fun q => O q ∨ w.heap.size ≤ q ∧ q < w'.heap.size) (m + 1) rest ∧ (b' = b ∨ b' = f ∨ w.heap.size ≤ b') ∧ (r' = r ∨ r' = f ∨ w.heap.size ≤ r') ∧ Mod (fun q => q = f ∨ q = b ∨ q = r) w w' := by
  obtain ⟨⟨z1, z2, z3, z4⟩, h⟩ := h
  have hO : ∀ w' : World, w.heap.size ≤ w'.heap.size → ∀ q, (O q ∨ w.heap.size ≤ q ∧ q < w'.heap.size) → q < w'.heap.size := by
    rintro w' hz q (hq | hq)
    · exact Nat.lt_of_lt_of_le (z4 q hq) hz
    · exact hq.2
  rcases h with ⟨h0, h1⟩ | ⟨h0, g, found, h3, h4, h5⟩ | ⟨left, bs, h0, h1, h2, g, c, y, g2, found, ⟨y1, y2, y3, y4⟩, h5, h6, h7, h8⟩
  · simp at h0
  · cases rest with
    | nil =>
      refine (flow_tellN w f b g r d found x h5 (by omega)).mono ?_
      rintro e w' ⟨rfl, ho, hM⟩
      exact ⟨rfl, f, f, ⟨⟨.inl z1, .inl z1, .inl z1, hO _ hM.size⟩, .inl ⟨rfl, ho⟩⟩, .inr (.inl rfl), .inr (.inl rfl), hM⟩
    | cons d2 rest =>
      refine (flow_tellY w f b g r .nilFunc d d2 rest found x h5 (by omega)).mono ?_
      rintro e w' ⟨rfl, r', hF, hr', hM⟩
      have hl := hF.sc.lt
      have hr2 : O r' ∨ w.heap.size ≤ r' ∧ r' < w'.heap.size := by
        rcases hr' with rfl | h
        · exact .inl z3
        · exact .inr ⟨h, hl.2.1⟩
      exact ⟨rfl, b, r', ⟨⟨.inl z1, .inl z2, hr2, hO _ hM.size⟩, .inr (.inl ⟨by simp, g, _, .inl h3, by simp; omega, hF⟩)⟩, .inl rfl, by omega, hM.mono (fun q _ e => .inr e)⟩
  · cases left with
    | nil => exact absurd rfl h0
    | cons d' rest' =>
      simp only [List.cons_append, List.cons.injEq] at h1
      obtain ⟨rfl, rfl⟩ := h1
      have lc := h8.cb.lt
      obtain ⟨bv, hxb, hxd⟩ := h8.xb
      have lx := hxb.lt
      have l2 := z4 _ y4
      cases rest' with
      | nil =>
        refine (flow_tellF w f b g r d c y g2 bs found x h7 h8 (by omega) (by omega) (by omega) h2 (by omega)).mono ?_
        rintro e w' ⟨rfl, hS, hM⟩
        obtain ⟨b', r', hF, hb', hr'⟩ := FL.of_st (m := m + 1) hS (by simp)
        refine ⟨rfl, b', r', hF.wider ?_ (hO _ hM.size), .inr hb', .inr hr', hM⟩
        rintro q (rfl | hq)
        · exact .inl z1
        · exact .inr hq
      | cons d2 rest =>
        refine (flow_tellY w f b g r (nextFn c y) d d2 rest found x h7 (by omega)).mono ?_
        rintro e w' ⟨rfl, r', hF, hr', hM⟩
        have hz := hM.size
        have hl := hF.sc.lt
        have hr2 : O r' ∨ w.heap.size ≤ r' ∧ r' < w'.heap.size := by
          rcases hr' with rfl | h
          · exact .inl z3
          · exact .inr ⟨h, hl.2.1⟩
        refine ⟨rfl, b, r', ⟨⟨.inl z1, .inl z2, hr2, hO _ hM.size⟩, .inr (.inr ⟨d2 :: rest, bs, by simp, rfl, h2, g, c, y, g2, _, ⟨.inl y1, .inl y2, .inl y3, .inl y4⟩, by simp; omega, by omega, hF, h8.mod hM (by omega) (by omega) (by omega)⟩)⟩, .inl rfl, by omega, hM.mono (fun q _ e => .inr e)⟩
end Go.Proofs.Ytgkobmmannkegaa
