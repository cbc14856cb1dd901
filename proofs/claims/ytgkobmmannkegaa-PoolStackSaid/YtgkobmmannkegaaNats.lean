/-
  Lists of slots: held against each other, looked through.
-/
import Derived.Test.YtgkobmmannkegaaFreeList
import Derived.Test.YtgkobmmannkegaaRecs
namespace Go.Proofs.Ytgkobmmannkegaa
open Go Go.RowKit
set_option linter.unusedVariables false

def natR : Rec Nat := { cells := fun n => [.int .i64 (n : Int)], size := 1, len := fun _ => rfl, one := fun a u hu => by simp at hu; subst hu; rfl, pos := by decide }
theorem nat_cell {w wr : World} {g : Nat} {a : Option Addr} {c : Nat} {l : List Nat} (h : RecB natR w g (.slice a l.length c) l) (hb : Below w.heap.size w wr) (h0 : 0 < l.length) : ∃ off, a = some ⟨g, off, none⟩ ∧ ∀ j (hj : j < l.length), wr.cell? ⟨g, off + j, none⟩ = some (.int .i64 (l[j] : Int)) := by
  have hlt := h.lt h0
  obtain ⟨_, _, hv, hc, hx⟩ := h.ex
  cases hv
  obtain ⟨off, rfl, hcs⟩ := hx h0
  refine ⟨off, rfl, fun j hj => ?_⟩
  have h1 := hcs j hj 0 (by decide)
  rw [show natR.size = 1 from rfl, Nat.mul_one, Nat.add_zero] at h1
  exact (hb.cell (p := ⟨g, off + j, none⟩) hlt).trans h1
set_option maxHeartbeats 1000000 in
theorem same_nats (w : World) (b1 b2 : Nat) (a1 a2 : Option Addr) (c1 c2 : Nat) (d : List Nat) (h1 : RecB natR w b1 (.slice a1 d.length c1) d) (h2 : RecB natR w b2 (.slice a2 d.length c2) d) (hn : d.length ≤ 60000) :
    Calls Try.prog 125 #[.slice a1 d.length c1, .slice a2 d.length c2] w fun e w' => e = .returned (.bool true) ∧ Below w.heap.size w w' := by
  have H1 := Lib.hid h1
  have H2 := Lib.hid h2
  clear h1 h2
  go_enter Try.func125, Try.ntmps125
  go_wp2_with fail
  go_loopw [5] (fun i wr => ∃ k : Nat, k ≤ d.length ∧ i = .int .i64 k ∧ Below w.heap.size w wr) (fun i _ => d.length - (intOf i).toNat)
  case atStart => exact ⟨0, by omega, rfl, Below.refl _ _⟩
  case round =>
    obtain ⟨k, hk, rfl, hb⟩ := hrel
    by_cases hlt : k < d.length
    · obtain ⟨o1, rfl, q1⟩ := nat_cell H1.out hb (by omega)
      obtain ⟨o2, rfl, q2⟩ := nat_cell H2.out hb (by omega)
      have p0 := q1 k hlt
      have r0 := q2 k hlt
      clear q1 q2
      generalize d[k] = x at *
      go_wp2_with fail
      refine wp_region_reads (by kernel_rfl) (by kernel_rfl) ?_
      repeat (quiet_step (fail))
      refine wpQuiet_nil ?_
      intro w1 hb1
      go_wp2_with fail
      go_roundw
      case rel => exact ⟨k + 1, by omega, by go_num, hb.trans (hb1.mono hb.size)⟩
      case measure => simp [intOf]; omega
    · have hge : k = d.length := by omega
      go_wp2_with fail
      go_ret
      exact ⟨rfl, hb⟩
theorem index_calls (w : World) (g : Nat) (a : Option Addr) (c : Nat) (l : List Nat) (h : RecB natR w g (.slice a l.length c) l) (hn : l.length ≤ 60000) (i : Nat) :
    Calls Try.prog 190 #[.slice a l.length c, .int .i64 (i : Int)] w fun e w' => ∃ r : Int, e = .returned (.int .i64 r) ∧ (0 ≤ r ↔ i ∈ l) ∧ w = w' := by
  have H := Lib.hid h
  clear h
  go_enter Try.func190, Try.ntmps190
  go_wp2_with fail
  go_loop [8] (fun t => ∃ k : Nat, k ≤ l.length ∧ t = .int .i64 k ∧ Hid (∀ j (hj : j < l.length), j < k → l[j] ≠ i)) (fun t => l.length - (intOf t).toNat)
  case atStart => exact ⟨0, by omega, rfl, fun j hj h => by omega⟩
  case round =>
    obtain ⟨k, hk, rfl, hx⟩ := hrel
    by_cases hlt : k < l.length
    · obtain ⟨o1, rfl, q1⟩ := nat_cell H.out (Below.refl _ _) (by omega)
      have p0 := q1 k hlt
      clear q1
      by_cases he : l[k] = i
      · have hm : i ∈ l := he ▸ List.getElem_mem hlt
        have HM := Lib.hid hm
        rw [he] at p0
        clear he hm
        go_wp2_with fail
        go_ret
        exact ⟨k, rfl, ⟨fun _ => HM.out, fun _ => by omega⟩, rfl⟩
      · have hd : ((i : Int) == (l[k] : Int)) = false := by simp; omega
        have HE : Hid (∀ j (hj : j < l.length), j < k + 1 → l[j] ≠ i) := fun j hj h => by
          by_cases h2 : j < k
          · exact hx.out j hj h2
          · obtain rfl : j = k := by omega
            exact he
        generalize l[k] = y at *
        clear he
        go_wp2_with fail
        go_round
        case rel => exact ⟨k + 1, by omega, by go_num, HE⟩
        case measure => simp [intOf]; omega
    · have hge : k = l.length := by omega
      have HN : Hid (i ∉ l) := fun hm => by
        obtain ⟨j, hj, e⟩ := List.getElem_of_mem hm
        exact hx.out j hj (by omega) e
      go_wp2_with fail
      go_ret
      exact ⟨-1, rfl, ⟨fun h => by omega, fun h => absurd h HN.out⟩, rfl⟩
theorem contains_calls (w : World) (g : Nat) (a : Option Addr) (c : Nat) (l : List Nat) (h : RecB natR w g (.slice a l.length c) l) (hn : l.length ≤ 60000) (i : Nat) :
    Calls Try.prog 177 #[.slice a l.length c, .int .i64 (i : Int)] w fun e w' => e = .returned (.bool (decide (i ∈ l))) ∧ w = w' := by
  have H := Lib.hid h
  clear h
  go_enter Try.func177, Try.ntmps177
  go_wp2_with fail
  refine (index_calls _ _ _ _ _ H.out hn i).mono ?_
  rintro e w' ⟨r, rfl, hr, rfl⟩
  have HR := Lib.hid hr
  clear hr
  go_wp2_with fail
  go_ret
  exact ⟨ret_bool (by rw [Bool.eq_iff_iff]; simp [HR.out]), rfl⟩
theorem has_calls (w : World) (g : Nat) (a : Option Addr) (c : Nat) (l : List Nat) (h : RecB natR w g (.slice a l.length c) l) (hn : l.length ≤ 60000) (i : Nat) :
    Calls Try.prog 179 #[.slice a l.length c, .int .i64 (i : Int)] w fun e w' => e = .returned (.bool (decide (i ∈ l))) ∧ w = w' := by
  have H := Lib.hid h
  clear h
  go_enter Try.func179, Try.ntmps179
  go_wp2_with fail
  go_loop [5] (fun t => ∃ k : Nat, k ≤ l.length ∧ t = .int .i64 k ∧ Hid (∀ j (hj : j < l.length), j < k → l[j] ≠ i)) (fun t => l.length - (intOf t).toNat)
  case atStart => exact ⟨0, by omega, rfl, fun j hj h => by omega⟩
  case round =>
    obtain ⟨k, hk, rfl, hx⟩ := hrel
    by_cases hlt : k < l.length
    · obtain ⟨o1, rfl, q1⟩ := nat_cell H.out (Below.refl _ _) (by omega)
      have p0 := q1 k hlt
      clear q1
      by_cases he : l[k] = i
      · have hm : i ∈ l := he ▸ List.getElem_mem hlt
        have HM := Lib.hid hm
        rw [he] at p0
        clear he hm
        go_wp2_with fail
        go_ret
        exact ⟨ret_bool (decide_eq_true HM.out).symm, rfl⟩
      · have hd : ((l[k] : Int) == (i : Int)) = false := by simp; omega
        have HE : Hid (∀ j (hj : j < l.length), j < k + 1 → l[j] ≠ i) := fun j hj h => by
          by_cases h2 : j < k
          · exact hx.out j hj h2
          · obtain rfl : j = k := by omega
            exact he
        generalize l[k] = y at *
        clear he
        go_wp2_with fail
        go_round
        case rel => exact ⟨k + 1, by omega, by go_num, HE⟩
        case measure => simp [intOf]; omega
    · have hge : k = l.length := by omega
      have HN : Hid (i ∉ l) := fun hm => by
        obtain ⟨j, hj, e⟩ := List.getElem_of_mem hm
        exact hx.out j hj (by omega) e
      go_wp2_with fail
      go_ret
      exact ⟨ret_bool (decide_eq_false HN.out).symm, rfl⟩
end Go.Proofs.Ytgkobmmannkegaa
