/-
  Parking: the fixed course.
-/
import Derived.Test.YtgkobmmannkegaaParkRef
namespace Go.Proofs.Ytgkobmmannkegaa
open Go Go.RowKit
set_option linter.unusedVariables false
set_option maxHeartbeats 2000000 in
set_option maxRecDepth 100000 in
theorem pk_awake : Gives 59 #[] (.bool true) := by
  intro w
  go_enter Try.func59, Try.ntmps59
  go_wp2_with fail
  have B2 : Blk (w.alloc (.cells #[.int .i64 1, .int .i64 1, .int .i64 1, .int .u64 0] 24)) w.heap.size [.int .i64 1, .int .i64 1, .int .i64 1, .int .u64 0] 24 := Blk.new _ _ _
  go_region_held3 (fun w' => Blk w' w.heap.size [.int .i64 1, .int .i64 1, .int .i64 1, .int .u64 0] 24 ∧ ∀ i, w'.cell? ⟨w.heap.size, i, none⟩ = [Value.int .i64 1, .int .i64 1, .int .i64 1, .int .u64 0][i]?)
    ((first | exact keepD B2 | exact keepB (by assumption) (by assumption) | exact keepB (keepD B2) (by assumption))) (first | (go_at_call 60; refine (pk_new 1 1 1 0 _ _ 0 _ (Nat.zero_le _)).mono ?_; rintro e w' ⟨b, rfl, hl, hu, hp, hb'⟩))
  rename_i wa ba hla hua hpa hba wb bb hlb hub hpb hbb hH
  rw [show wrap64 (4 + 2 * 1 + 0) = 6 by rw [wrap64_def]; decide] at hpa hpb hp
  have za := hba.size
  have zb := hbb.size
  have zc := hb'.size
  simp only [World.size_drew, World.size_alloc] at za hla
  have V0 : Below w.heap.size w (w.alloc (.cells #[.int .i64 1, .int .i64 1, .int .i64 1, .int .u64 0] 24)).drew := ((Below.refl _ _).alloc (Nat.le_refl _) _).drew
  have Va := V0.trans (hba.mono (by simp))
  have Vb := Va.trans (hbb.mono (by omega))
  have Vc := Vb.trans (hb'.mono (by omega))
  have Mn : ∀ {u u' : World}, Below u.heap.size u u' → Mod (fun _ => False) u u' := fun h => Mod.of_below h
  have A3 := Lib.hid ((pk_rep 6 9 0 ba).keep _ _ _ (fun _ => False) ((pk_rep 6 9 0 ba).keep _ _ _ (fun _ => False) hpa (Mn hbb) (fun _ _ => id)) (Mn hb') (fun _ _ => id))
  have B3 := Lib.hid ((pk_rep 6 4 0 bb).keep _ _ _ (fun _ => False) hpb (Mn hb') (fun _ _ => id))
  have C3 := Lib.hid hp
  have Q3 := hH.1
  have U3 := Lib.hid Vc
  clear hpa hpb hp hba hbb hb' V0 Va Vb Vc hH Mn B2
  go_wp2_with fail
  refine (pk_tell 6 9 0 _ _ _ 2 A3.out).mono ?_
  rw [show (pkM 6 9).tell (pkLook 6) 2 = ⟨3, ⟨4, 6, 18446744073709551615, 0, 0⟩⟩ by simp [pkM, pkLook, pkTell]]
  rintro e w4 ⟨rfl, hA4, hM4⟩
  have A4 := Lib.hid hA4
  have B4 := Lib.hid ((pk_rep 6 4 0 bb).keep _ _ _ _ B3.out hM4 (fun k hk hf => by omega))
  have C4 := Lib.hid ((pk_rep 6 5 0 b).keep _ _ _ _ C3.out hM4 (fun k hk hf => by omega))
  have Q4 := hM4.blk Q3 (by omega)
  have z4 := hM4.size
  have U4 := Lib.hid (below_mod U3.out hM4 (by omega) (fun q hq => by omega))
  clear hA4 hM4 A3 B3 C3 Q3
  go_wp2_with fail
  refine (pk_nextY 6 9 0 _ _ _ A4.out (by simp [pkM])).mono ?_
  rw [show (pkM 6 9).deed ⟨3, ⟨4, 6, 18446744073709551615, 0, 0⟩⟩ = ⟨4, 6, 18446744073709551615, 0, 0⟩ from rfl]
  rintro e w5 ⟨rfl, hb5⟩
  have M5 := (Mod.of_below (S := fun _ => False) hb5).alloc (.cells #[.int .i64 4, .int .i64 6, .int .u64 18446744073709551615, .int .u64 0, .int .u64 0] 31)
  have B5 := Lib.hid ((pk_rep 6 4 0 bb).keep _ _ _ _ B4.out M5 (fun _ _ => id))
  have C5 := Lib.hid ((pk_rep 6 5 0 b).keep _ _ _ _ C4.out M5 (fun _ _ => id))
  have Q5 := M5.blk Q4 id
  have z5 := hb5.size
  have U5 := Lib.hid (below_mod U4.out M5 (by omega) (fun _ _ => id))
  clear M5 hb5 A4 B4 C4 Q4
  go_wp2_with fail
  refine (pk_tell 6 4 0 _ _ _ 0 B5.out).mono ?_
  rw [show (pkM 6 4).tell (pkLook 6) 0 = ⟨2, ⟨1, 1, 0, 0, 0⟩⟩ by simp [pkM, pkLook, pkTell]]
  rintro e w6 ⟨rfl, hB6, hM6⟩
  have B6 := Lib.hid hB6
  have C6 := Lib.hid ((pk_rep 6 5 0 b).keep _ _ _ _ C5.out hM6 (fun k hk hf => by omega))
  have Q6 := hM6.blk Q5 (by omega)
  have D6 := hM6.blk (Blk.new w5 [.int .i64 4, .int .i64 6, .int .u64 18446744073709551615, .int .u64 0, .int .u64 0] 31) (by omega)
  have z6 := hM6.size
  simp only [World.size_alloc] at z6
  have U6 := Lib.hid (below_mod U5.out hM6 (by simp; omega) (fun q hq => by omega))
  clear hB6 hM6 B5 C5 Q5
  go_wp2_with fail
  refine (pk_tell 6 4 0 _ _ _ 4 B6.out).mono ?_
  rw [show (pkM 6 4).tell ⟨2, ⟨1, 1, 0, 0, 0⟩⟩ 4 = ⟨0, (pkLook 6).d⟩ by simp [pkM, pkTell, wrap64_def]]
  rintro e w7 ⟨rfl, hB7, hM7⟩
  have B7 := Lib.hid hB7
  have C7 := Lib.hid ((pk_rep 6 5 0 b).keep _ _ _ _ C6.out hM7 (fun k hk hf => by omega))
  have Q7 := hM7.blk Q6 (by omega)
  have D7 := hM7.blk D6 (by omega)
  have z7 := hM7.size
  have U7 := Lib.hid (below_mod U6.out hM7 (by omega) (fun q hq => by omega))
  clear hB7 hM7 B6 C6 Q6 D6
  go_wp2_with fail
  refine (pk_tell 6 5 0 _ _ _ 0 C7.out).mono ?_
  rw [show (pkM 6 5).tell (pkLook 6) 0 = ⟨2, ⟨1, 1, 0, 0, 0⟩⟩ by simp [pkM, pkLook, pkTell]]
  rintro e w8 ⟨rfl, hC8, hM8⟩
  have C8 := Lib.hid hC8
  have B8 := Lib.hid ((pk_rep 6 4 0 bb).keep _ _ _ _ B7.out hM8 (fun k hk hf => by omega))
  have Q8 := hM8.blk Q7 (by omega)
  have D8 := hM8.blk D7 (by omega)
  have z8 := hM8.size
  have U8 := Lib.hid (below_mod U7.out hM8 (by omega) (fun q hq => by omega))
  clear hC8 hM8 B7 C7 Q7 D7
  go_wp2_with fail
  refine (pk_tell 6 5 0 _ _ _ 4 C8.out).mono ?_
  rw [show (pkM 6 5).tell ⟨2, ⟨1, 1, 0, 0, 0⟩⟩ 4 = pkLook 6 by simp [pkM, pkTell, wrap64_def]]
  rintro e w9 ⟨rfl, hC9, hM9⟩
  have C9 := Lib.hid hC9
  have B9 := Lib.hid ((pk_rep 6 4 0 bb).keep _ _ _ _ B8.out hM9 (fun k hk hf => by omega))
  have Q9 := hM9.blk Q8 (by omega)
  have D9 := hM9.blk D8 (by omega)
  have z9 := hM9.size
  have U9 := Lib.hid (below_mod U8.out hM9 (by omega) (fun q hq => by omega))
  clear hC9 hM9 B8 C8 Q8 D8
  go_wp2_with fail
  refine (pk_nextN 6 4 0 _ _ _ B9.out (by simp [pkM])).mono ?_
  rintro e w10 ⟨rfl, hb10⟩
  have M10 := (Mod.of_below (S := fun _ => False) hb10).alloc (.cells #[.int .i64 0, .int .i64 0, .int .u64 0, .int .u64 0, .int .u64 0] 31)
  have C10 := Lib.hid ((pk_rep 6 5 0 b).keep _ _ _ _ C9.out M10 (fun _ _ => id))
  have Q10 := M10.blk Q9 id
  have D10 := M10.blk D9 id
  have z10 := hb10.size
  have U10 := Lib.hid (below_mod U9.out M10 (by omega) (fun _ _ => id))
  clear M10 hb10 B9 C9 Q9 D9
  go_wp2_with fail
  refine (pk_nextY 6 5 0 _ _ _ C10.out (by simp [pkM, pkLook])).mono ?_
  rw [show (pkM 6 5).deed (pkLook 6) = ⟨1, 6, 0, 0, 0⟩ from rfl]
  rintro e w11 ⟨rfl, hb11⟩
  have M11 := (Mod.of_below (S := fun _ => False) hb11).alloc (.cells #[.int .i64 1, .int .i64 6, .int .u64 0, .int .u64 0, .int .u64 0] 31)
  have Q11 := M11.blk Q10 id
  have D11 := M11.blk D10 id
  have E11 := Blk.new w11 [.int .i64 1, .int .i64 6, .int .u64 0, .int .u64 0, .int .u64 0] 31
  have U11 := Lib.hid (below_mod U10.out M11 (by simp; omega) (fun _ _ => id))
  have K11 := Q11.cell
  clear M11 C10 Q10 D10
  go_wp2_with fail
  refine (sem_calls 1 1 1 0 _ _).mono ?_
  rw [show wrap64 (4 + 2 * 1 + 0) = 6 by rw [wrap64_def]; decide]
  rintro e w12 ⟨rfl, hb12⟩
  have D12 := (D11.below' hb12).cell
  have E12 := (E11.below' hb12).cell
  have U12 := below_mod U11.out (Mod.of_below (S := fun _ => False) hb12) U11.out.size (fun _ _ => id)
  clear K11 D11 E11 Q11
  go_wp2_with fail
  go_ret
  exact ⟨by simp [deedEq], U12⟩
end Go.Proofs.Ytgkobmmannkegaa
