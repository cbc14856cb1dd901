/-
  The laws PinAsks and PinLeaves: the driver's walk joined with the tasks' machines.
-/
import Derived.Test.YtgkobmmannkegaaPin
import Derived.Test.YtgkobmmannkegaaDPinAsks
import Derived.Test.YtgkobmmannkegaaDPinLeaves
namespace Go.Proofs.Ytgkobmmannkegaa
open Go Go.RowKit
set_option linter.unusedVariables false

theorem pinner_new' (T S L G th : Int) (w : World) : Calls Try.prog 65 #[planV T S L G, .int .i64 th] w fun e w' => ∃ b, e = .returned (.pointer (some ⟨b, 0, none⟩)) ∧ b < w'.heap.size ∧ w.heap.size + 1 < b ∧ pinnerAt w.heap.size b w' ⟨1, wrap64 (4 + th), 0⟩ ∧ Below w.heap.size w w' := by
  go_enter Try.func65, Try.ntmps65
  go_wp2_with fail
  refine (pin_calls T S L G _ _).mono ?_
  rintro e w1 ⟨rfl, hb⟩
  have hz := hb.size
  rw [World.size_alloc] at hz
  go_wp2_with fail
  go_ret
  refine ⟨w1.heap.size + 1, rfl, by simp, by omega, ⟨by omega, Blk.new2 _ _ _ _, (Blk.new w1 _ _).alloc _⟩, ((Below.step _ hb).alloc (by omega) _).alloc (by simp; omega) _⟩
set_option maxHeartbeats 1000000 in
theorem pin_awake : Gives 64 #[] (.bool true) := by
  intro w
  have h5 : wrap64 (4 + 1) = 5 := by rw [wrap64_def]; decide
  go_enter Try.func64, Try.ntmps64
  go_wp2_with fail
  refine (pinner_new' 2 1 1 0 1 w).mono ?_
  rintro e w1 ⟨b, rfl, hbl, hlo, hR, hb1⟩
  rw [h5] at hR
  have R1 := Lib.hid hR
  clear hR
  go_wp2_with fail
  refine (pinner_tell _ _ _ _ 4 R1.out).mono ?_
  rintro e w2 ⟨rfl, hR2, hM2⟩
  rw [show pinM.tell ⟨1, 5, 0⟩ 4 = ⟨2, 5, 4⟩ by simp [pinM, pinTell]] at hR2
  have R2 := Lib.hid hR2
  clear hR2
  go_wp2_with fail
  refine (pinner_nextY _ _ _ _ R2.out (by simp [pinM])).mono ?_
  rw [show pinM.deed ⟨2, 5, 4⟩ = ⟨2, 5, 4, 0, 0⟩ by simp [pinM, pinDeed]]
  rintro e w3 ⟨rfl, hb3⟩
  have z3 : b < w3.heap.size := by have := hM2.size; have := hb3.size; omega
  have R3 : Hid (pinnerAt w.heap.size b w3 _) := (pinner_rep _ b).keep _ _ _ (fun _ => False) R2.out (Mod.of_below hb3) (fun _ _ => id)
  have W3 := below_mod (below_mod hb1 hM2 hb1.size (fun q hq => by omega)) (Mod.of_below (S := fun _ => False) hb3) (by have := hb1.size; have := hM2.size; omega) (fun _ _ => id)
  clear hM2 hb3 R2 R1
  go_wp2_with fail
  refine (pinner_tell _ _ _ _ 0 (((pinner_rep _ b).keep _ _ _ (fun _ => False) R3.out ((Mod.refl _ _).alloc _) (fun _ _ => id)))).mono ?_
  rintro e w4 ⟨rfl, hR4, hM4⟩
  rw [show pinM.tell ⟨2, 5, 4⟩ 0 = ⟨0, 5, 4⟩ by simp [pinM, pinTell]] at hR4
  have PB := hM4.blk (Blk.new w3 _ 31) (by omega)
  have C4 := PB.cell
  have R4 := Lib.hid hR4
  have W4 := below_mod (W3.alloc (by have := W3.size; omega) _) hM4 (by have := W3.size; simp; omega) (fun q hq => by omega)
  clear hR4 hM4
  go_wp2_with fail
  refine (pinner_epoch _ _ _ _ R4.out).mono ?_
  rw [show pinEpoch ⟨0, 5, 4⟩ = 4 by simp [pinEpoch]]
  rintro e w5 ⟨rfl, hb5⟩
  go_wp2_with fail
  go_ret
  exact ⟨rfl, below_mod W4 (Mod.of_below (S := fun _ => False) hb5) W4.size (fun _ _ => id)⟩
theorem pinLeaves_walk (T S L G th : Int) (inV : Value) (ins : List Int) (w : World) (hI : U64s w w.heap.size inV ins) (hn : ins.length ≤ 300) :
    Calls Try.prog 9 #[planV T S L G, .int .i64 th, inV] w fun e w' => e = .returned (.bool true) ∧ Below w.heap.size w w' :=
  PinLeaves_drive T S L G th inV ins w hI hn ⟨2, wrap64 (4 + th), 0⟩ (unpinnerAt w.heap.size) (fun b k => (k = b ∨ k + 1 = b) ∧ w.heap.size < k) (fun b k h => by omega)
    (unpinner_rep w.heap.size) (fun w1 h1 => unpinner_new T S L G th _ w1 h1) (fun w1 x lo hF hlo => unpin_ref T S L G th w1 x lo inV ins hF hlo (by omega)) pin_awake
theorem pinAsks_walk (T S L G th : Int) (inV : Value) (ins : List Int) (w : World) (hI : U64s w w.heap.size inV ins) (hn : ins.length ≤ 300) :
    Calls Try.prog 7 #[planV T S L G, .int .i64 th, inV] w fun e w' => e = .returned (.bool true) ∧ Below w.heap.size w w' :=
  PinAsks_drive T S L G th inV ins w hI hn ⟨1, wrap64 (4 + th), 0⟩ (pinnerAt w.heap.size) (fun b k => (k = b ∨ k + 1 = b) ∧ w.heap.size < k) (fun b k h => by omega)
    (pinner_rep w.heap.size) (fun w1 h1 => pinner_new T S L G th _ w1 h1) pinEpoch (fun b w1 s h => pinner_epoch _ _ _ _ h) (fun w1 x lo hF hlo => pin_ref T S L G th w1 x lo inV ins hF hlo (by omega)) pin_awake
end Go.Proofs.Ytgkobmmannkegaa
