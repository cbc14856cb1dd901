/-
  The law EpochAsks: the driver's walk joined with the task's machine; the fixed course; any length of the list.
-/
import Derived.Test.YtgkobmmannkegaaEpochRef
namespace Go.Proofs.Ytgkobmmannkegaa
open Go Go.RowKit
set_option linter.unusedVariables false

set_option maxHeartbeats 1000000 in
theorem ep_awake : Gives 70 #[] (.bool true) := by
  intro w
  go_enter Try.func70, Try.ntmps70
  go_wp2_with fail
  refine (ep_new 2 1 1 0 w).mono ?_
  rintro e w1 ⟨b, rfl, hlo, hbl, hR, hb1⟩
  have R1 := Lib.hid hR
  clear hR
  go_wp2_with fail
  refine (ep_tell 2 1 1 0 _ _ _ 4 R1.out).mono ?_
  rw [show (epM 2).tell ⟨1, 0, 0, false⟩ 4 = ⟨2, 0, 4, false⟩ by simp [epM, epTell]]
  rintro e w2 ⟨rfl, hR2, hM2⟩
  have R2 := Lib.hid hR2
  clear hR2
  go_wp2_with fail
  refine (ep_nextY 2 1 1 0 _ _ _ R2.out (by simp [epM])).mono ?_
  rw [show (epM 2).deed ⟨2, 0, 4, false⟩ = ⟨1, 4, 0, 0, 0⟩ by simp [epM, epDeed]; rw [wrap64_def]; decide]
  rintro e w3 ⟨rfl, hb3⟩
  have R3 : Hid (Blk w3 b (epCells 2 1 1 0 ⟨2, 0, 4, false⟩) 172) := R2.out.below' hb3
  have W3 := below_mod (below_mod hb1 hM2 hb1.size (fun q hq => by omega)) (Mod.of_below (S := fun _ => False) hb3) (by have := hb1.size; have := hM2.size; omega) (fun _ _ => id)
  have z3 : b < w3.heap.size := by have := hM2.size; have := hb3.size; omega
  clear hM2 hb3 R2 R1
  go_wp2_with fail
  refine (ep_tell 2 1 1 0 _ _ _ 3 (R3.out.alloc _)).mono ?_
  rw [show (epM 2).tell ⟨2, 0, 4, false⟩ 3 = ⟨0, 1, 4, false⟩ by simp [epM, epTell]; rw [wrap64_def]; decide]
  rintro e w4 ⟨rfl, hR4, hM4⟩
  have PB := hM4.blk (Blk.new w3 _ 31) (by omega)
  have R4 := Lib.hid hR4
  have W4 := below_mod (W3.alloc (by have := W3.size; omega) _) hM4 (by have := W3.size; simp; omega) (fun q hq => by omega)
  clear hR4 hM4
  go_wp2_with fail
  refine (ep_nextN 2 1 1 0 _ _ _ R4.out (by simp [epM])).mono ?_
  rintro e w5 ⟨rfl, hb5⟩
  have R5 : Hid (Blk w5 b (epCells 2 1 1 0 ⟨0, 1, 4, false⟩) 172) := R4.out.below' hb5
  have PB5 := PB.below' hb5
  have W5 := below_mod W4 (Mod.of_below (S := fun _ => False) hb5) W4.size (fun _ _ => id)
  have C5 := (PB5.alloc (.cells #[.int .i64 0, .int .i64 0, .int .u64 0, .int .u64 0, .int .u64 0] 31)).cell
  clear hb5 PB
  go_wp2_with fail
  refine (ep_won 2 1 1 0 _ _ _ (R5.out.alloc _)).mono ?_
  rintro e w6 ⟨rfl, hb6⟩
  go_wp2_with fail
  go_ret
  exact ⟨rfl, below_mod (W5.alloc W5.size _) (Mod.of_below (S := fun _ => False) hb6) (by have := W5.size; simp; omega) (fun _ _ => id)⟩
theorem epochAsks_walk (T S L G : Int) (hTb : T < 9223372036854775808) (inV : Value) (ins : List Int) (w : World) (hI : U64s w w.heap.size inV ins) (hn : ins.length ≤ 300) :
    Calls Try.prog 8 #[planV T S L G, inV] w fun e w' => e = .returned (.bool true) ∧ Below w.heap.size w w' :=
  EpochAsks_drive T S L G inV ins w hI hn ⟨1, 0, 0, false⟩ (fun b w1 s => w.heap.size < b ∧ Blk w1 b (epCells T S L G s) 172) (fun b k => k = b ∧ w.heap.size < k) (fun b k h => by omega)
    (mach_block w.heap.size (fun w b s => ep_nextY T S L G w b s) (fun w b s => ep_nextN T S L G w b s) (fun w b s x => ep_tell T S L G w b s x))
    (fun w1 h1 => (ep_new T S L G w1).mono fun e w' ⟨b, he, h2, h3, h4, h5⟩ => ⟨b, he, h3, ⟨by omega, h4⟩, h5⟩) (fun s => s.won) (fun b w1 s h => ep_won T S L G _ _ _ h.2)
    (fun w1 x lo hF hlo => ep_ref T S L G w1 x lo inV ins hF hlo hn hTb) ep_awake
theorem epochAsks_long (T S L G : Int) (a : Option Addr) (n c : Nat) (w : World) (hn : 300 < n) :
    Calls Try.prog 8 #[planV T S L G, .slice a n c] w fun e w' => e = .returned (.bool true) ∧ Below w.heap.size w w' := by
  go_enter Try.func8, Try.ntmps8
  go_wp2_with fail
  refine (ep_awake _).mono ?_
  rintro e w1 ⟨rfl, hb⟩
  go_wp2_with fail
  go_ret
  exact ⟨rfl, Below.step _ hb⟩
end Go.Proofs.Ytgkobmmannkegaa
