/-
  sundialref04.Digits: the decimal numeral, by the document.
-/
import Derived.Test.YtippfkokgpdmdaaDoorUint
import Derived.Deep.RegionHeld3
namespace Go.Proofs.YtippfkokgpdmdaaDoor
open Go Go.RowKit
set_option linter.unusedVariables false

theorem one_byte (W : World) (x : Int) (b : UInt8) (h : x = (b.toNat : Int)) : (convert 90 9 (.slice (some ⟨W.heap.size, 0, none⟩) 1 1)).run Tryd.prog (W.alloc (.cells #[.int .u8 x] 5)) = .ok (.string ⟨#[b]⟩) (W.alloc (.cells #[.int .u8 x] 5)) := by
  have := run_convert_bytes_back (P := Tryd.prog) (W.alloc (.cells #[.int .u8 x] 5)) 90 9 5 ⟨W.heap.size, 0, none⟩ 1 [b] Tryd.underlying90 Tryd.underlying5 Tryd.underlying9 (fun j hj => by
    obtain rfl : j = 0 := by simpa using hj
    rw [Lib.add_plain, World.cell?_alloc_new, h]
    rfl)
  exact this
theorem one_byte_below (k : Nat) (W W' : World) (x : Int) (b : UInt8) (h : x = (b.toNat : Int)) (hb : Below (W.alloc (.cells #[.int .u8 x] 5)).drew.heap.size (W.alloc (.cells #[.int .u8 x] 5)).drew W') (hk : k = W.heap.size) : (convert 90 9 (.slice (some ⟨k, 0, none⟩) 1 1)).run Tryd.prog W' = .ok (.string ⟨#[b]⟩) W' := by
  subst hk
  have := run_convert_bytes_back (P := Tryd.prog) W' 90 9 5 ⟨W.heap.size, 0, none⟩ 1 [b] Tryd.underlying90 Tryd.underlying5 Tryd.underlying9 (fun j hj => by
    obtain rfl : j = 0 := by simpa using hj
    rw [Lib.add_plain, hb.cell (p := ⟨W.heap.size, 0 + 0, none⟩) (by simp)]
    show (W.alloc (.cells #[.int .u8 x] 5)).cell? ⟨W.heap.size, 0, none⟩ = _
    rw [World.cell?_alloc_new, h]
    rfl)
  exact this
theorem byte_wrap (u : Nat) (h : u < 10) : IntKind.u8.wrap (IntKind.u64.wrap (48 + (u : Int))) = ((UInt8.ofNat (48 + u)).toNat : Int) := by
  have h1 : IntKind.u64.wrap (48 + (u : Int)) = 48 + u := by rw [IntKind.wrap_u64]; omega
  have h2 : IntKind.u8.wrap (48 + (u : Int)) = 48 + u := by
    have : IntKind.u8.wrap (48 + (u : Int)) = (48 + (u : Int)) % 256 := by simp [IntKind.wrap, IntKind.bits, IntKind.signed]
    rw [this]; omega
  rw [h1, h2]
  have : (UInt8.ofNat (48 + u)).toNat = 48 + u := by
    simp
    omega
  rw [this]; omega
theorem byte_wrap' (u : Nat) : IntKind.u8.wrap (IntKind.u64.wrap (48 + (u : Int).tmod 10)) = ((UInt8.ofNat (48 + u % 10)).toNat : Int) := by
  rw [← byte_wrap (u % 10) (by omega)]
  rw [Int.tmod_eq_emod_of_nonneg (by omega)]
  rfl
set_option maxHeartbeats 2000000 in
set_option maxRecDepth 100000 in
theorem digits_step (u : Nat) (hu : u < 18446744073709551616) (h10 : ¬ u < 10) (w : World) (ih : ∀ w, Calls Tryd.prog 56 #[.int .u64 ((u / 10 : Nat) : Int)] w fun e w' => e = .returned (.string ⟨(Lib.decDigits (u / 10)).toArray⟩) ∧ Below w.heap.size w w') :
    Calls Tryd.prog 56 #[.int .u64 u] w fun e w' => e = .returned (.string ⟨(Lib.decDigits u).toArray⟩) ∧ Below w.heap.size w w' := by
  have IH : Hid (∀ w, Calls Tryd.prog 56 #[.int .u64 (IntKind.u64.wrap ((u : Int) / 10))] w fun e w' => e = .returned (.string ⟨(Lib.decDigits (u / 10)).toArray⟩) ∧ Below w.heap.size w w') := by
    rw [show IntKind.u64.wrap ((u : Int) / 10) = ((u / 10 : Nat) : Int) by rw [IntKind.wrap_u64]; omega]
    exact ih
  have e1 : decide ((u : Int) < 10) = false := by simp; omega
  have ED : Lib.decDigits u = Lib.decDigits (u / 10) ++ [UInt8.ofNat (48 + u % 10)] := by
    rw [Lib.decDigits]
    rw [dif_neg h10]
  have HED := Lib.hid ED
  have hcv := fun W => one_byte W _ _ (byte_wrap' u)
  have hnl : ¬ 9223372036854775807 < (Lib.decDigits (u / 10)).length + 1 := by
    rw [Lib.decDigits_length]
    by_cases h0 : u / 10 = 0
    · omega
    · have := Lib.numDigits_eq (u / 10) (by omega) (by omega)
      split at this <;> omega
  obtain ⟨b, hb⟩ : ∃ b : UInt8, b = UInt8.ofNat (48 + u % 10) := ⟨_, rfl⟩
  have HX := Lib.hid (byte_wrap' u)
  rw [← hb] at hcv HED HX
  have hcvd := fun W => one_byte_below W.heap.size W _ _ b HX.out (Below.refl _ _) rfl
  have HS : Hid ((⟨(Lib.decDigits (u / 10)).toArray⟩ : ByteArray) ++ ⟨#[b]⟩ = ⟨(Lib.decDigits u).toArray⟩) := by
    show _ = _
    rw [HED.out]
    apply ByteArray.ext
    simp
  clear ih ED h10 hb HED
  go_enter Tryd.func56, Tryd.ntmps56
  go_wp2_with fail
  go_region_with ((go_at_call 56; refine (IH.out _).mono ?_; rintro e w2 ⟨rfl, hb2⟩; (try (have hcw := one_byte_below w.heap.size _ _ _ _ HX.out hb2 rfl))))
  all_goals (
    go_wp2_with fail
    go_ret
    refine ⟨(show Ending.returned (Value.string ((⟨(Lib.decDigits (u / 10)).toArray⟩ : ByteArray) ++ ⟨#[b]⟩)) = _ by rw [HS.out]), ?_⟩
    first
      | exact (((Below.refl _ w).drew).trans (hb2.mono (by simp))).alloc (by have := hb2.size; simpa using this) _
      | exact (((Below.refl _ w).alloc (Nat.le_refl _) _).drew).trans (hb2.mono (by simp)))
set_option maxRecDepth 100000 in
theorem digits_calls : ∀ (u : Nat), u < 18446744073709551616 → ∀ w, Calls Tryd.prog 56 #[.int .u64 u] w fun e w' => e = .returned (.string ⟨(Lib.decDigits u).toArray⟩) ∧ Below w.heap.size w w' := by
  intro u
  induction u using Nat.strongRecOn with
  | _ u ih =>
    intro hu w
    by_cases h10 : u < 10
    · have e1 : decide ((u : Int) < 10) = true := by simp; omega
      have HX : 48 + (u : Int) = ((UInt8.ofNat (48 + u)).toNat : Int) := by
        rw [← byte_wrap u h10]
        have h1 : IntKind.u64.wrap (48 + (u : Int)) = 48 + u := by rw [IntKind.wrap_u64]; omega
        have h2 : IntKind.u8.wrap (48 + (u : Int)) = (48 + (u : Int)) % 256 := by simp [IntKind.wrap, IntKind.bits, IntKind.signed]
        rw [h1, h2]; omega
      have HD : Lib.decDigits u = [UInt8.ofNat (48 + u)] := Lib.decDigits_one h10
      obtain ⟨b, hb⟩ : ∃ b : UInt8, b = UInt8.ofNat (48 + u) := ⟨_, rfl⟩
      rw [← hb] at HX HD
      have hcv := fun W => one_byte W _ _ HX
      have HDH := Lib.hid HD
      clear ih HX HD hb
      go_enter Tryd.func56, Tryd.ntmps56
      go_wp2_with fail
      go_ret
      exact ⟨(show Ending.returned (Value.string (⟨#[b]⟩ : ByteArray)) = _ by rw [HDH.out]), (Below.refl _ _).alloc (Nat.le_refl _) _⟩
    · exact digits_step u hu h10 w (ih (u / 10) (by omega) (by omega))
end Go.Proofs.YtippfkokgpdmdaaDoor
