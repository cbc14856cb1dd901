/-
  Slots that wait (chapter 15): limbo.Limbo in memory, three lists of records; New, Add.
-/
import Derived.Test.YtgkobmmannkegaaRecs
import Derived.Test.YtgkobmmannkegaaScriptTell
namespace Go.Proofs.Ytgkobmmannkegaa
open Go Go.RowKit
set_option linter.unusedVariables false

structure Rt where
  ref : Int
  ep : Int
def retR : Rec Rt := { cells := fun r => [.int .u64 r.ref, .int .u64 r.ep], size := 2, len := fun _ => rfl, one := fun a u hu => by simp at hu; rcases hu with rfl | rfl <;> rfl, pos := by decide }
theorem info102 : (Try.prog.info? 102).map (fun i => (i.zero, i.size, i.bytes)) = some (some (.agg #[.int .u64 0, .int .u64 0]), retR.size, 16) := by kernel_rfl
/-- A list in memory of the call's own. -/
def RL (w : World) (v : Value) (l : List Rt) : Prop := ∃ r, RowOf retR 102 w 0 r v l
section
variable {w w' : World} {v : Value} {l : List Rt} {S : Nat → Prop}
theorem RL.nil (w : World) : RL w (.slice none 0 0) [] := ⟨0, RowOf.nil _ _ _ _⟩
theorem RL.mod (h : RL w v l) (hm : Mod S w w') (hS : ∀ k, v.ownBlock = some k → ¬ S k) : RL w' v l := by
  obtain ⟨r, h⟩ := h
  exact ⟨r, h.mod' hm hS⟩
theorem RL.below (h : RL w v l) (hb : Below w.heap.size w w') : RL w' v l := h.mod (Mod.of_below (S := fun _ => False) hb) (fun _ _ => id)
theorem RL.shape (h : RL w v l) : ∃ a c, v = .slice a l.length c := by
  obtain ⟨r, h⟩ := h
  obtain ⟨a, c, hv⟩ := h.recB.ex
  exact ⟨a, c, hv.1⟩
theorem RL.lt (h : RL w v l) {k : Nat} (hk : v.ownBlock = some k) : k < w.heap.size := by
  obtain ⟨r, h⟩ := h
  exact (World.ownsRow.lt h.1 k hk).2
theorem RL.ne_blk {b : Nat} {cs : List Value} {T : TypeId} (h : RL w v l) (hB : Blk w b cs T) (hT : T ≠ 102) : v.ownBlock ≠ some b := by
  obtain ⟨r, h⟩ := h
  intro e
  exact own_ne h.1 hB hT b e rfl
end
/-- In memory: block b holds three slices, whose rows lie apart. -/
structure LimboAt (w : World) (b : Nat) (v0 v1 v2 : Value) (l0 l1 l2 : List Rt) : Prop where
  blk : Blk w b [v0, v1, v2] 190
  r0 : RL w v0 l0
  r1 : RL w v1 l1
  r2 : RL w v2 l2
  s01 : ∀ k, v0.ownBlock = some k → v1.ownBlock ≠ some k
  s02 : ∀ k, v0.ownBlock = some k → v2.ownBlock ≠ some k
  s12 : ∀ k, v1.ownBlock = some k → v2.ownBlock ≠ some k
/-- The limbo's own blocks. -/
def LB (b : Nat) (v0 v1 v2 : Value) (k : Nat) : Prop := k = b ∨ v0.ownBlock = some k ∨ v1.ownBlock = some k ∨ v2.ownBlock = some k
section
variable {w w' : World} {b : Nat} {v0 v1 v2 : Value} {l0 l1 l2 : List Rt} {S : Nat → Prop}
theorem LimboAt.mod (h : LimboAt w b v0 v1 v2 l0 l1 l2) (hm : Mod S w w') (hS : ∀ k, LB b v0 v1 v2 k → ¬ S k) : LimboAt w' b v0 v1 v2 l0 l1 l2 :=
  ⟨hm.blk h.blk (hS b (.inl rfl)), h.r0.mod hm (fun k hk => hS k (.inr (.inl hk))), h.r1.mod hm (fun k hk => hS k (.inr (.inr (.inl hk)))), h.r2.mod hm (fun k hk => hS k (.inr (.inr (.inr hk)))), h.s01, h.s02, h.s12⟩
theorem LimboAt.below (h : LimboAt w b v0 v1 v2 l0 l1 l2) (hb : Below w.heap.size w w') : LimboAt w' b v0 v1 v2 l0 l1 l2 := h.mod (Mod.of_below (S := fun _ => False) hb) (fun _ _ => id)
theorem LimboAt.lt (h : LimboAt w b v0 v1 v2 l0 l1 l2) {k : Nat} (hk : LB b v0 v1 v2 k) : k < w.heap.size := by
  rcases hk with rfl | hk | hk | hk
  · exact h.blk.lt
  · exact h.r0.lt hk
  · exact h.r1.lt hk
  · exact h.r2.lt hk
end
theorem limbo_new (w : World) : Calls Try.prog 105 #[] w fun e w' => e = .returned (.pointer (some ⟨w.heap.size, 0, none⟩)) ∧ LimboAt w' w.heap.size (.slice none 0 0) (.slice none 0 0) (.slice none 0 0) [] [] [] ∧ w' = w.alloc (.cells #[.slice none 0 0, .slice none 0 0, .slice none 0 0] 190) := by
  go_enter Try.func105, Try.ntmps105
  go_wp2_with fail
  go_ret
  exact ⟨rfl, ⟨Blk.new w [.slice none 0 0, .slice none 0 0, .slice none 0 0] 190, RL.nil _, RL.nil _, RL.nil _, fun k hk => by simp [Value.ownBlock] at hk, fun k hk => by simp [Value.ownBlock] at hk, fun k hk => by simp [Value.ownBlock] at hk⟩, rfl⟩
theorem limbo_add_nil (x e : Int) (w : World) : Calls Try.prog 106 #[.pointer none, .int .u64 x, .int .u64 e] w fun e w' => e = .returned (.tuple #[]) ∧ w = w' := by
  go_enter Try.func106, Try.ntmps106
  go_wp2_with fail
  go_returns
  exact ⟨rfl, rfl⟩
/-- What Add does to one of the lists. -/
def Added (w : World) (v : Value) (l : List Rt) (x : Rt) (b : Nat) (w' : World) (v' : Value) : Prop :=
  RL w' v' (l ++ [x]) ∧ (∀ q, v'.ownBlock = some q → v.ownBlock = some q ∨ w.heap.size ≤ q) ∧ Mod (fun q => q = b ∨ v.ownBlock = some q) w w'
theorem added0 {w w3 : World} {b r3 vc : Nat} {v0 v1 v2 : Value} {l0 l1 l2 : List Rt} {x : Rt} {va : Option Addr} {o : Obj} (H : LimboAt w b v0 v1 v2 l0 l1 l2) (hR3 : RowOf retR 102 w3 0 r3 (.slice va (l0.length + 1) vc) (l0 ++ [x])) (hg3 : (w.alloc o).drew.grownBy w3 v0.ownBlock)
    (hq3 : v0.ownBlock = some r3 ∨ r3 = (w.alloc o).drew.heap.size) (B3 : Blk w3 b [v0, v1, v2] 190) :
    ∃ v', LimboAt (w3.setCell ⟨b, 0, none⟩ (.slice va (l0.length + 1) vc)) b v' v1 v2 (l0 ++ [x]) l1 l2 ∧ Added w v0 l0 x b (w3.setCell ⟨b, 0, none⟩ (.slice va (l0.length + 1) vc)) v' := by
  have M1 : Mod (fun q => v0.ownBlock = some q) w w3 := (((Mod.refl _ w).alloc o).drew).grown hg3 (fun k hk _ => hk)
  have M2 : Mod (fun q => q = b ∨ v0.ownBlock = some q) w (w3.setCell ⟨b, 0, none⟩ (.slice va (l0.length + 1) vc)) := (M1.mono (fun q _ h => .inr h)).setCell (a := ⟨b, 0, none⟩) (fun _ => .inl rfl) _
  have ho : Only b w3 (w3.setCell ⟨b, 0, none⟩ (.slice va (l0.length + 1) vc)) := (Only.refl b w3).set 0 _
  have hsz : (w.alloc o).drew.heap.size = w.heap.size + 1 := by simp
  have NW : ∀ (u : Value) (q : Nat), Value.ownBlock (.slice va (l0.length + 1) vc) = some q → u.ownBlock = some q → (v0.ownBlock = some q → u.ownBlock = some q → False) → (u.ownBlock = some q → q < w.heap.size) → False := fun u q hq h f g => by
    have e := hR3.2 q hq
    subst e
    rcases hq3 with h3 | h3
    · exact f h3 h
    · have := g h; omega
  refine ⟨_, ⟨B3.set 0 _, ⟨r3, hR3.mod' ho.mod (fun q hq h => own_ne hR3.1 B3 (by decide) q hq h)⟩, H.r1.mod M2 (fun q hq h => by rcases h with rfl | h; exact H.r1.ne_blk H.blk (by decide) hq; exact H.s01 q h hq), H.r2.mod M2 (fun q hq h => by rcases h with rfl | h; exact H.r2.ne_blk H.blk (by decide) hq; exact H.s02 q h hq), fun q hq h => NW v1 q hq h (fun a b => H.s01 q a b) (fun a => H.r1.lt a), fun q hq h => NW v2 q hq h (fun a b => H.s02 q a b) (fun a => H.r2.lt a), H.s12⟩, ⟨r3, hR3.mod' ho.mod (fun q hq h => own_ne hR3.1 B3 (by decide) q hq h)⟩, fun q hq => ?_, M2⟩
  have e := hR3.2 q hq
  subst e
  rcases hq3 with h3 | h3
  · exact .inl h3
  · right; omega
set_option maxHeartbeats 2000000 in
set_option maxRecDepth 100000 in
theorem limbo_add0 (w : World) (b : Nat) (v0 v1 v2 : Value) (l0 l1 l2 : List Rt) (h : LimboAt w b v0 v1 v2 l0 l1 l2) (hn : l0.length ≤ 60000) (x e : Int) (he0 : 0 ≤ e) (he : e % 3 = 0) :
    Calls Try.prog 106 #[.pointer (some ⟨b, 0, none⟩), .int .u64 x, .int .u64 e] w fun e' w' => e' = .returned (.tuple #[]) ∧ ∃ v', LimboAt w' b v' v1 v2 (l0 ++ [⟨x, e⟩]) l1 l2 ∧ Added w v0 l0 ⟨x, e⟩ b w' v' := by
  have H := Lib.hid h
  obtain ⟨r, hr⟩ := h.r0
  have C := h.blk.cell
  have F := h.blk.frozen
  have HR := Lib.hid hr
  have HN := Lib.hid (h.r0.ne_blk h.blk (by decide))
  have HB := Lib.hid h.blk
  clear h hr
  go_enter Try.func106, Try.ntmps106
  go_wp2_with fail
  go_region_law ((refine step_append_rec (R := retR) (by rfl) (.tmp 18) (.tmp 22) 100 102 _ 16 (by rfl) Try.underlying100 info102 rfl (by omega) 0 r v0 l0 (by rfl) (HR.out.mod (((Mod.refl (fun _ => False) w).alloc _).drew) id) ⟨x, e⟩ w.heap.size (by rfl) ((Blk.new w [.int .u64 x, .int .u64 e] 102).drew) hn (Nat.zero_le _) ?_; intro va vc w3 r3 hR3 hg3 hq3 hz3; have B3 := grown_blk hg3 ((HB.out.alloc _).drew) (fun k hk e => HN.out (by rw [hk, e])); have C3 := B3.cell; have F3 := B3.frozen))
  all_goals
    go_end0
    exact ⟨rfl, added0 H.out hR3 hg3 hq3 B3⟩
theorem added1 {w w3 : World} {b r3 vc : Nat} {v0 v1 v2 : Value} {l0 l1 l2 : List Rt} {x : Rt} {va : Option Addr} {o : Obj} (H : LimboAt w b v0 v1 v2 l0 l1 l2) (hR3 : RowOf retR 102 w3 0 r3 (.slice va (l1.length + 1) vc) (l1 ++ [x])) (hg3 : (w.alloc o).drew.grownBy w3 v1.ownBlock)
    (hq3 : v1.ownBlock = some r3 ∨ r3 = (w.alloc o).drew.heap.size) (B3 : Blk w3 b [v0, v1, v2] 190) :
    ∃ v', LimboAt (w3.setCell ⟨b, 1, none⟩ (.slice va (l1.length + 1) vc)) b v0 v' v2 l0 (l1 ++ [x]) l2 ∧ Added w v1 l1 x b (w3.setCell ⟨b, 1, none⟩ (.slice va (l1.length + 1) vc)) v' := by
  have M1 : Mod (fun q => v1.ownBlock = some q) w w3 := (((Mod.refl _ w).alloc o).drew).grown hg3 (fun k hk _ => hk)
  have M2 : Mod (fun q => q = b ∨ v1.ownBlock = some q) w (w3.setCell ⟨b, 1, none⟩ (.slice va (l1.length + 1) vc)) := (M1.mono (fun q _ h => .inr h)).setCell (a := ⟨b, 1, none⟩) (fun _ => .inl rfl) _
  have ho : Only b w3 (w3.setCell ⟨b, 1, none⟩ (.slice va (l1.length + 1) vc)) := (Only.refl b w3).set 1 _
  have hsz : (w.alloc o).drew.heap.size = w.heap.size + 1 := by simp
  have NW : ∀ (u : Value) (q : Nat), Value.ownBlock (.slice va (l1.length + 1) vc) = some q → u.ownBlock = some q → (v1.ownBlock = some q → u.ownBlock = some q → False) → (u.ownBlock = some q → q < w.heap.size) → False := fun u q hq h f g => by
    have e := hR3.2 q hq
    subst e
    rcases hq3 with h3 | h3
    · exact f h3 h
    · have := g h; omega
  refine ⟨_, ⟨B3.set 1 _, H.r0.mod M2 (fun q hq h => by rcases h with rfl | h; exact H.r0.ne_blk H.blk (by decide) hq; exact H.s01 q hq h), ⟨r3, hR3.mod' ho.mod (fun q hq h => own_ne hR3.1 B3 (by decide) q hq h)⟩, H.r2.mod M2 (fun q hq h => by rcases h with rfl | h; exact H.r2.ne_blk H.blk (by decide) hq; exact H.s12 q h hq), fun q hq h => NW v0 q h hq (fun a b => H.s01 q b a) (fun a => H.r0.lt a), H.s02, fun q hq h => NW v2 q hq h (fun a b => H.s12 q a b) (fun a => H.r2.lt a)⟩, ⟨r3, hR3.mod' ho.mod (fun q hq h => own_ne hR3.1 B3 (by decide) q hq h)⟩, fun q hq => ?_, M2⟩
  have e := hR3.2 q hq
  subst e
  rcases hq3 with h3 | h3
  · exact .inl h3
  · right; omega
set_option maxHeartbeats 2000000 in
set_option maxRecDepth 100000 in
theorem limbo_add1 (w : World) (b : Nat) (v0 v1 v2 : Value) (l0 l1 l2 : List Rt) (h : LimboAt w b v0 v1 v2 l0 l1 l2) (hn : l1.length ≤ 60000) (x e : Int) (he0 : 0 ≤ e) (he : e % 3 = 1) :
    Calls Try.prog 106 #[.pointer (some ⟨b, 0, none⟩), .int .u64 x, .int .u64 e] w fun e' w' => e' = .returned (.tuple #[]) ∧ ∃ v', LimboAt w' b v0 v' v2 l0 (l1 ++ [⟨x, e⟩]) l2 ∧ Added w v1 l1 ⟨x, e⟩ b w' v' := by
  have H := Lib.hid h
  obtain ⟨r, hr⟩ := h.r1
  have C := h.blk.cell
  have F := h.blk.frozen
  have HR := Lib.hid hr
  have HN := Lib.hid (h.r1.ne_blk h.blk (by decide))
  have HB := Lib.hid h.blk
  clear h hr
  go_enter Try.func106, Try.ntmps106
  go_wp2_with fail
  go_region_law ((refine step_append_rec (R := retR) (by rfl) (.tmp 18) (.tmp 22) 100 102 _ 16 (by rfl) Try.underlying100 info102 rfl (by omega) 0 r v1 l1 (by rfl) (HR.out.mod (((Mod.refl (fun _ => False) w).alloc _).drew) id) ⟨x, e⟩ w.heap.size (by rfl) ((Blk.new w [.int .u64 x, .int .u64 e] 102).drew) hn (Nat.zero_le _) ?_; intro va vc w3 r3 hR3 hg3 hq3 hz3; have B3 := grown_blk hg3 ((HB.out.alloc _).drew) (fun k hk e => HN.out (by rw [hk, e])); have C3 := B3.cell; have F3 := B3.frozen))
  all_goals
    go_end0
    exact ⟨rfl, added1 H.out hR3 hg3 hq3 B3⟩
theorem added2 {w w3 : World} {b r3 vc : Nat} {v0 v1 v2 : Value} {l0 l1 l2 : List Rt} {x : Rt} {va : Option Addr} {o : Obj} (H : LimboAt w b v0 v1 v2 l0 l1 l2) (hR3 : RowOf retR 102 w3 0 r3 (.slice va (l2.length + 1) vc) (l2 ++ [x])) (hg3 : (w.alloc o).drew.grownBy w3 v2.ownBlock)
    (hq3 : v2.ownBlock = some r3 ∨ r3 = (w.alloc o).drew.heap.size) (B3 : Blk w3 b [v0, v1, v2] 190) :
    ∃ v', LimboAt (w3.setCell ⟨b, 2, none⟩ (.slice va (l2.length + 1) vc)) b v0 v1 v' l0 l1 (l2 ++ [x]) ∧ Added w v2 l2 x b (w3.setCell ⟨b, 2, none⟩ (.slice va (l2.length + 1) vc)) v' := by
  have M1 : Mod (fun q => v2.ownBlock = some q) w w3 := (((Mod.refl _ w).alloc o).drew).grown hg3 (fun k hk _ => hk)
  have M2 : Mod (fun q => q = b ∨ v2.ownBlock = some q) w (w3.setCell ⟨b, 2, none⟩ (.slice va (l2.length + 1) vc)) := (M1.mono (fun q _ h => .inr h)).setCell (a := ⟨b, 2, none⟩) (fun _ => .inl rfl) _
  have ho : Only b w3 (w3.setCell ⟨b, 2, none⟩ (.slice va (l2.length + 1) vc)) := (Only.refl b w3).set 2 _
  have hsz : (w.alloc o).drew.heap.size = w.heap.size + 1 := by simp
  have NW : ∀ (u : Value) (q : Nat), Value.ownBlock (.slice va (l2.length + 1) vc) = some q → u.ownBlock = some q → (v2.ownBlock = some q → u.ownBlock = some q → False) → (u.ownBlock = some q → q < w.heap.size) → False := fun u q hq h f g => by
    have e := hR3.2 q hq
    subst e
    rcases hq3 with h3 | h3
    · exact f h3 h
    · have := g h; omega
  refine ⟨_, ⟨B3.set 2 _, H.r0.mod M2 (fun q hq h => by rcases h with rfl | h; exact H.r0.ne_blk H.blk (by decide) hq; exact H.s02 q hq h), H.r1.mod M2 (fun q hq h => by rcases h with rfl | h; exact H.r1.ne_blk H.blk (by decide) hq; exact H.s12 q hq h), ⟨r3, hR3.mod' ho.mod (fun q hq h => own_ne hR3.1 B3 (by decide) q hq h)⟩, H.s01, fun q hq h => NW v0 q h hq (fun a b => H.s02 q b a) (fun a => H.r0.lt a), fun q hq h => NW v1 q h hq (fun a b => H.s12 q b a) (fun a => H.r1.lt a)⟩, ⟨r3, hR3.mod' ho.mod (fun q hq h => own_ne hR3.1 B3 (by decide) q hq h)⟩, fun q hq => ?_, M2⟩
  have e := hR3.2 q hq
  subst e
  rcases hq3 with h3 | h3
  · exact .inl h3
  · right; omega
set_option maxHeartbeats 2000000 in
set_option maxRecDepth 100000 in
theorem limbo_add2 (w : World) (b : Nat) (v0 v1 v2 : Value) (l0 l1 l2 : List Rt) (h : LimboAt w b v0 v1 v2 l0 l1 l2) (hn : l2.length ≤ 60000) (x e : Int) (he0 : 0 ≤ e) (he : e % 3 = 2) :
    Calls Try.prog 106 #[.pointer (some ⟨b, 0, none⟩), .int .u64 x, .int .u64 e] w fun e' w' => e' = .returned (.tuple #[]) ∧ ∃ v', LimboAt w' b v0 v1 v' l0 l1 (l2 ++ [⟨x, e⟩]) ∧ Added w v2 l2 ⟨x, e⟩ b w' v' := by
  have H := Lib.hid h
  obtain ⟨r, hr⟩ := h.r2
  have C := h.blk.cell
  have F := h.blk.frozen
  have HR := Lib.hid hr
  have HN := Lib.hid (h.r2.ne_blk h.blk (by decide))
  have HB := Lib.hid h.blk
  clear h hr
  go_enter Try.func106, Try.ntmps106
  go_wp2_with fail
  go_region_law ((refine step_append_rec (R := retR) (by rfl) (.tmp 18) (.tmp 22) 100 102 _ 16 (by rfl) Try.underlying100 info102 rfl (by omega) 0 r v2 l2 (by rfl) (HR.out.mod (((Mod.refl (fun _ => False) w).alloc _).drew) id) ⟨x, e⟩ w.heap.size (by rfl) ((Blk.new w [.int .u64 x, .int .u64 e] 102).drew) hn (Nat.zero_le _) ?_; intro va vc w3 r3 hR3 hg3 hq3 hz3; have B3 := grown_blk hg3 ((HB.out.alloc _).drew) (fun k hk e => HN.out (by rw [hk, e])); have C3 := B3.cell; have F3 := B3.frozen))
  all_goals
    go_end0
    exact ⟨rfl, added2 H.out hR3 hg3 hq3 B3⟩
end Go.Proofs.Ytgkobmmannkegaa
