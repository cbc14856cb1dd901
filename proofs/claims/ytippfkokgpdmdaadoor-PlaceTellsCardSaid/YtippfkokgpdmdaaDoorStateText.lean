/-
  Chapter 4: the text of any word as a state, by the program (state.Text) and by the document.
-/
import Derived.Test.YtippfkokgpdmdaaDoorStateRef
import Derived.Test.YtippfkokgpdmdaaDoorDigits
namespace Go.Proofs.YtippfkokgpdmdaaDoor
open Go Go.RowKit
set_option linter.unusedVariables false

def digS (n : Int) : ByteArray := ⟨(Lib.decDigits n.toNat).toArray⟩
theorem digS_small (n : Int) (h : n < 18446744073709551616) : (digS n).size ≤ 20 := by
  show (Lib.decDigits n.toNat).toArray.size ≤ 20
  rw [List.size_toArray]
  by_cases h0 : n.toNat < 10
  · rw [Lib.decDigits_one h0]; simp
  · rw [Lib.decDigits_length]
    have := Lib.numDigits_eq n.toNat (by omega) (by omega)
    split at this <;> omega
def freeS : ByteArray := { data := #[102, 114, 101, 101] }
def makingS : ByteArray := { data := #[109, 97, 107, 105, 110, 103] }
def takenS : ByteArray := { data := #[116, 97, 107, 101, 110] }
def goneS : ByteArray := { data := #[103, 111, 110, 101] }
def wordS (s : Int) : ByteArray := if s = 0 then freeS else if s = 1 then makingS else if s = 2 then liveS else if s = 3 then takenS else if s = 4 then goneS else digS s
theorem wordS_small (s : Int) (h : s < 18446744073709551616) : (wordS s).size ≤ 20 := by
  unfold wordS
  have := digS_small s h
  repeat' split
  all_goals first | assumption | decide
theorem word0 (w : World) : Calls Tryd.prog 55 #[.int .i64 0] w fun e w' => e = .returned (.string freeS) ∧ Below w.heap.size w w' := by
  go_enter Tryd.func55, Tryd.ntmps55
  go_wp2_with fail
  go_ret
  exact ⟨rfl, (Below.refl _ _).alloc (Nat.le_refl _) _⟩
theorem word1 (w : World) : Calls Tryd.prog 55 #[.int .i64 1] w fun e w' => e = .returned (.string makingS) ∧ Below w.heap.size w w' := by
  go_enter Tryd.func55, Tryd.ntmps55
  go_wp2_with fail
  go_ret
  exact ⟨rfl, (Below.refl _ _).alloc (Nat.le_refl _) _⟩
theorem word3 (w : World) : Calls Tryd.prog 55 #[.int .i64 3] w fun e w' => e = .returned (.string takenS) ∧ Below w.heap.size w w' := by
  go_enter Tryd.func55, Tryd.ntmps55
  go_wp2_with fail
  go_ret
  exact ⟨rfl, (Below.refl _ _).alloc (Nat.le_refl _) _⟩
theorem word4 (w : World) : Calls Tryd.prog 55 #[.int .i64 4] w fun e w' => e = .returned (.string goneS) ∧ Below w.heap.size w w' := by
  go_enter Tryd.func55, Tryd.ntmps55
  go_wp2_with fail
  go_ret
  exact ⟨rfl, (Below.refl _ _).alloc (Nat.le_refl _) _⟩
theorem sword_calls (s : Int) (h0 : 0 ≤ s) (h1 : s < 9223372036854775808) (w : World) (ht : Tab w) : Calls Tryd.prog 55 #[.int .i64 s] w fun e w' => e = .returned (.string (wordS s)) ∧ Below w.heap.size w w' := by
  by_cases h : s < 5
  · have hc : s = 0 ∨ s = 1 ∨ s = 2 ∨ s = 3 ∨ s = 4 := by omega
    rcases hc with rfl | rfl | rfl | rfl | rfl
    · exact word0 w
    · exact word1 w
    · exact word_two w
    · exact word3 w
    · exact word4 w
  · have e1 : decide (s < 5) = false := decide_eq_false h
    have HS : Hid (wordS s = ⟨(Lib.itoa s).toArray⟩) := by
      show _ = _
      unfold wordS digS
      obtain ⟨n, rfl⟩ : ∃ n : Nat, s = n := ⟨s.toNat, by omega⟩
      rw [if_neg (by omega), if_neg (by omega), if_neg (by omega), if_neg (by omega), if_neg (by omega), Lib.itoa_nonneg]
      simp
    generalize wordS s = v at *
    have IT := Lib.hid (fun W (hb : Below w.heap.size w W) => itoa_calls s (by omega) (by omega) W (ht.below hb))
    have hbd := Lib.hid h0
    have hbd1 := Lib.hid h1
    clear ht h0 h1 h
    go_enter Tryd.func55, Tryd.ntmps55
    go_wp2_with fail
    refine (IT.out _ ((Below.refl _ _).alloc (Nat.le_refl _) _)).mono ?_
    rintro e w' ⟨rfl, hb⟩
    go_wp2_with fail
    go_ret
    exact ⟨(show Ending.returned (Value.string ⟨(Lib.itoa s).toArray⟩) = _ by rw [HS.out]), ((Below.refl _ _).alloc (Nat.le_refl _) _).trans (hb.mono (by simp))⟩
def textS (x : Int) : ByteArray := digS (x / 4294967296) ++ ⟨#[32]⟩ ++ wordS (x % 4294967296)
theorem text_calls (x : Int) (h0 : 0 ≤ x) (h1 : x < 18446744073709551616) (w : World) (ht : Tab w) : Calls Tryd.prog 22 #[.int .u64 x] w fun e w' => e = .returned (.string (textS x)) ∧ Below w.heap.size w w' := by
  have G := Lib.hid (fun w => gen_calls x w)
  have S := Lib.hid (fun w => status_calls x h0 h1 w)
  have F := Lib.hid (formatUint_calls (x / 4294967296) (by omega) (by omega) w ht)
  have W := Lib.hid (fun W (hb : Below w.heap.size w W) => sword_calls (x % 4294967296) (by omega) (by omega) W (ht.below hb))
  have HT : Hid (textS x = digS (x / 4294967296) ++ ⟨#[32]⟩ ++ wordS (x % 4294967296)) := rfl
  have z1 := digS_small (x / 4294967296) (by omega)
  have z2 := wordS_small (x % 4294967296) (by omega)
  rw [show (⟨(Lib.decDigits (x / 4294967296).toNat).toArray⟩ : ByteArray) = digS (x / 4294967296) from rfl] at F
  generalize textS x = t at *
  generalize digS (x / 4294967296) = A at *
  generalize wordS (x % 4294967296) = V at *
  generalize x / 4294967296 = g at *
  generalize x % 4294967296 = s at *
  have n1 : ¬ 9223372036854775807 < A.size + 1 := by omega
  have n2 : ¬ 9223372036854775807 < A.size + 1 + V.size := by omega
  clear ht h0 h1 z1 z2
  go_enter Tryd.func22, Tryd.ntmps22
  go_wp2_with fail
  refine (G.out _).mono ?_
  rintro e w1 ⟨rfl, rfl⟩
  go_wp2_with fail
  refine F.out.mono ?_
  rintro e w1 ⟨rfl, hb⟩
  go_wp2_with fail
  refine (S.out _).mono ?_
  rintro e w2 ⟨rfl, rfl⟩
  go_wp2_with fail
  refine (W.out _ hb).mono ?_
  rintro e w2 ⟨rfl, hb2⟩
  go_wp2_with fail
  go_ret
  exact ⟨(show Ending.returned (Value.string (A ++ ⟨#[32]⟩ ++ V)) = _ by rw [HT.out]), hb.trans (hb2.mono hb.size)⟩

set_option maxHeartbeats 2000000 in
theorem rtext_calls (x : Int) (h0 : 0 ≤ x) (h1 : x < 18446744073709551616) (w : World) : Calls Tryd.prog 23 #[.int .u64 x] w fun e w' => e = .returned (.string (textS x)) ∧ Below w.heap.size w w' := by
  have G := Lib.hid (fun w => rgen_calls x w h0 h1)
  have S := Lib.hid (fun w => rstatus_calls x h0 h1 w)
  have D := Lib.hid (digits_calls (x / 4294967296).toNat (by omega))
  rw [Int.toNat_of_nonneg (by omega)] at D
  rw [show (⟨(Lib.decDigits (x / 4294967296).toNat).toArray⟩ : ByteArray) = digS (x / 4294967296) from rfl] at D
  have HT : Hid (textS x = digS (x / 4294967296) ++ ⟨#[32]⟩ ++ wordS (x % 4294967296)) := rfl
  have z1 := digS_small (x / 4294967296) (by omega)
  have hs0 : 0 ≤ x % 4294967296 := by omega
  have hs1 : x % 4294967296 < 4294967296 := by omega
  generalize textS x = t at *
  generalize digS (x / 4294967296) = A at *
  generalize x / 4294967296 = g at *
  generalize x % 4294967296 = s at *
  have n1 : ¬ 9223372036854775807 < A.size + 1 := by omega
  have n2 : ¬ 9223372036854775807 < A.size + 1 + 4 := by omega
  have n3 : ¬ 9223372036854775807 < A.size + 1 + 5 := by omega
  have n4 : ¬ 9223372036854775807 < A.size + 1 + 6 := by omega
  clear h0 h1
  by_cases c0 : s = 0
  · subst c0; clear z1 hs0 hs1
    go_enter Tryd.func23, Tryd.ntmps23
    go_wp2_with fail
    refine (G.out _).mono ?_
    rintro e w1 ⟨rfl, rfl⟩
    go_wp2_with fail
    refine (D.out _).mono ?_
    rintro e w1 ⟨rfl, hb⟩
    go_wp2_with fail
    refine (S.out _).mono ?_
    rintro e w2 ⟨rfl, rfl⟩
    go_wp2_with fail
    go_ret
    exact ⟨(show Ending.returned (Value.string (A ++ ⟨#[32]⟩ ++ _)) = _ by rw [HT.out]; rfl), hb⟩
  by_cases c1 : s = 1
  · subst c1; clear z1 hs0 hs1
    go_enter Tryd.func23, Tryd.ntmps23
    go_wp2_with fail
    refine (G.out _).mono ?_
    rintro e w1 ⟨rfl, rfl⟩
    go_wp2_with fail
    refine (D.out _).mono ?_
    rintro e w1 ⟨rfl, hb⟩
    go_wp2_with fail
    refine (S.out _).mono ?_
    rintro e w2 ⟨rfl, rfl⟩
    go_wp2_with fail
    go_ret
    exact ⟨(show Ending.returned (Value.string (A ++ ⟨#[32]⟩ ++ _)) = _ by rw [HT.out]; rfl), hb⟩
  by_cases c2 : s = 2
  · subst c2; clear z1 hs0 hs1
    go_enter Tryd.func23, Tryd.ntmps23
    go_wp2_with fail
    refine (G.out _).mono ?_
    rintro e w1 ⟨rfl, rfl⟩
    go_wp2_with fail
    refine (D.out _).mono ?_
    rintro e w1 ⟨rfl, hb⟩
    go_wp2_with fail
    refine (S.out _).mono ?_
    rintro e w2 ⟨rfl, rfl⟩
    go_wp2_with fail
    go_ret
    exact ⟨(show Ending.returned (Value.string (A ++ ⟨#[32]⟩ ++ _)) = _ by rw [HT.out]; rfl), hb⟩
  by_cases c3 : s = 3
  · subst c3; clear z1 hs0 hs1
    go_enter Tryd.func23, Tryd.ntmps23
    go_wp2_with fail
    refine (G.out _).mono ?_
    rintro e w1 ⟨rfl, rfl⟩
    go_wp2_with fail
    refine (D.out _).mono ?_
    rintro e w1 ⟨rfl, hb⟩
    go_wp2_with fail
    refine (S.out _).mono ?_
    rintro e w2 ⟨rfl, rfl⟩
    go_wp2_with fail
    go_ret
    exact ⟨(show Ending.returned (Value.string (A ++ ⟨#[32]⟩ ++ _)) = _ by rw [HT.out]; rfl), hb⟩
  by_cases c4 : s = 4
  · subst c4; clear z1 hs0 hs1
    go_enter Tryd.func23, Tryd.ntmps23
    go_wp2_with fail
    refine (G.out _).mono ?_
    rintro e w1 ⟨rfl, rfl⟩
    go_wp2_with fail
    refine (D.out _).mono ?_
    rintro e w1 ⟨rfl, hb⟩
    go_wp2_with fail
    refine (S.out _).mono ?_
    rintro e w2 ⟨rfl, rfl⟩
    go_wp2_with fail
    go_ret
    exact ⟨(show Ending.returned (Value.string (A ++ ⟨#[32]⟩ ++ _)) = _ by rw [HT.out]; rfl), hb⟩
  have z2 := digS_small s (by omega)
  have hw : IntKind.u64.wrap s = s := by rw [swrapu]; omega
  have q0 : (s == 0) = false := by simpa using c0
  have q1 : (s == 1) = false := by simpa using c1
  have q2 : (s == 2) = false := by simpa using c2
  have q3 : (s == 3) = false := by simpa using c3
  have q4 : (s == 4) = false := by simpa using c4
  have E := Lib.hid (digits_calls s.toNat (by omega))
  rw [Int.toNat_of_nonneg (by omega)] at E
  rw [show (⟨(Lib.decDigits s.toNat).toArray⟩ : ByteArray) = digS s from rfl] at E
  have HV : Hid (wordS s = digS s) := by
    show _ = _
    unfold wordS
    rw [if_neg c0, if_neg c1, if_neg c2, if_neg c3, if_neg c4]
  rw [HV.out] at HT
  generalize digS s = V at *
  have n5 : ¬ 9223372036854775807 < A.size + 1 + V.size := by omega
  clear z1 z2 hs0 hs1 c0 c1 c2 c3 c4
  go_enter Tryd.func23, Tryd.ntmps23
  go_wp2_with fail
  refine (G.out _).mono ?_
  rintro e w1 ⟨rfl, rfl⟩
  go_wp2_with fail
  refine (D.out _).mono ?_
  rintro e w1 ⟨rfl, hb⟩
  go_wp2_with fail
  refine (S.out _).mono ?_
  rintro e w2 ⟨rfl, rfl⟩
  go_wp2_with fail
  refine (S.out _).mono ?_
  rintro e w2 ⟨rfl, rfl⟩
  go_wp2_with fail
  try rw [hw]
  refine (E.out _).mono ?_
  rintro e w2 ⟨rfl, hb2⟩
  go_wp2_with fail
  go_ret
  exact ⟨(show Ending.returned (Value.string (A ++ ⟨#[32]⟩ ++ V)) = _ by rw [HT.out]), hb.trans (hb2.mono hb.size)⟩
end Go.Proofs.YtippfkokgpdmdaaDoor
