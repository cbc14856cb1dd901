/-
  A flow of two tasks (chapter 11): Behind.
-/
import Derived.Test.YtgkobmmannkegaaFlowTwo
namespace Go.Proofs.Ytgkobmmannkegaa
open Go Go.RowKit
set_option linter.unusedVariables false

theorem DeedsB.some_block {w : World} {g : Nat} {v : Value} {ds : List D} (h : DeedsB w g v ds) (x : Nat) : ∃ g', DeedsB w g' v ds ∧ (g' < w.heap.size ∨ g' = x) := by
  by_cases h0 : 0 < ds.length
  · exact ⟨g, h, .inl (h.lt h0)⟩
  · obtain ⟨a, c, hv, hc, _⟩ := h.ex
    exact ⟨x, ⟨a, c, hv, hc, fun hn => absurd hn h0⟩, .inr rfl⟩
set_option maxHeartbeats 2000000 in
set_option maxRecDepth 100000 in
theorem behind_calls (w : World) (ga gb : Nat) (av bv : Value) (xs bs : List D) (hA : DeedsB w ga av xs) (hB : DeedsB w gb bv bs) (hna : xs.length ≤ 65000) (hnb : bs.length ≤ 65000) :
    Calls Try.prog 118 #[av, bv] w fun e w' => ∃ f, e = .returned (.pointer (some ⟨f, 0, none⟩)) ∧ w.heap.size ≤ f ∧ Flow2 w' w.heap.size f xs bs [] ∧ Below w.heap.size w w' := by
  obtain ⟨a1, c1, rfl, _, _⟩ := hA.ex
  obtain ⟨a2, c2, rfl, _, _⟩ := hB.ex
  have HA := Lib.hid hA
  have HB := Lib.hid hB
  clear hA hB
  obtain ⟨W3, hW3⟩ : ∃ W, W = (((w.alloc (.cells #[.slice a2 bs.length c2] 29)).alloc (.cells #[.nilIface, .nilFunc] 198)).alloc (.cells #[.pointer (some ⟨w.heap.size + 1, 0, none⟩)] 124)) := ⟨_, rfl⟩
  have X3 : Blk W3 w.heap.size [.slice a2 bs.length c2] 29 := by rw [hW3]; exact ((Blk.new w [.slice a2 bs.length c2] 29).alloc _).alloc _
  have F3 : Blk W3 (w.heap.size + 1) [.nilIface, .nilFunc] 198 := by
    rw [hW3]
    have := (Blk.new (w.alloc (.cells #[.slice a2 bs.length c2] 29)) [.nilIface, .nilFunc] 198).alloc (.cells #[.pointer (some ⟨w.heap.size + 1, 0, none⟩)] 124)
    simpa using this
  have C3 : Blk W3 (w.heap.size + 1 + 1) [.pointer (some ⟨w.heap.size + 1, 0, none⟩)] 124 := by
    rw [hW3]
    have := Blk.new ((w.alloc (.cells #[.slice a2 bs.length c2] 29)).alloc (.cells #[.nilIface, .nilFunc] 198)) [.pointer (some ⟨w.heap.size + 1, 0, none⟩)] 124
    simpa using this
  have hz3 : W3.heap.size = w.heap.size + 3 := by rw [hW3]; simp
  have V3 : Below w.heap.size w W3 := by rw [hW3]; exact (((Below.refl _ _).alloc (Nat.le_refl _) _).alloc (by simp) _).alloc (by simp; omega) _
  have hb0 : Below W3.heap.size W3 W3.drew := (Below.refl _ _).drew
  have NX : Hid (Calls Try.prog 85 #[.slice a1 xs.length c1] W3.drew fun e w2 => ∃ b, e = .returned (.pointer (some ⟨b, 0, none⟩)) ∧ w2.cell? ⟨w.heap.size + 1 + 1, 0, none⟩ = some (.pointer (some ⟨w.heap.size + 1, 0, none⟩)) ∧
      Hid (Calls Try.prog 121 #[.pointer (some ⟨w.heap.size + 1, 0, none⟩), .iface 73 (.pointer (some ⟨b, 0, none⟩)), .func (.func 172) #[] #[.pointer (some ⟨w.heap.size + 1 + 1, 0, none⟩), .pointer (some ⟨w.heap.size, 0, none⟩)]] w2 fun e w' => e = .returned (.tuple #[]) ∧ w'.cell? ⟨w.heap.size + 1 + 1, 0, none⟩ = some (.pointer (some ⟨w.heap.size + 1, 0, none⟩)) ∧ Hid (Flow2 w' w.heap.size (w.heap.size + 1) xs bs []) ∧ Below w.heap.size w w')) := by
    refine (new_script ga (.slice a1 xs.length c1) xs W3.drew (((HA.out.below V3)).below hb0) hna).mono ?_
    rintro e w2 ⟨b, g', he, hs, hb, hg, hB⟩
    have hB2 := hb0.trans hB
    have hz2 := hB2.size
    have hd : W3.drew.heap.size = W3.heap.size := rfl
    obtain ⟨g2, hD2, hg2⟩ := HB.out.some_block w.heap.size
    have N2 : NextAt w2 (w.heap.size + 1) (w.heap.size + 1 + 1) w.heap.size g2 bs := ⟨C3.below' hB2, ⟨_, X3.below' hB2, (hD2.below V3).below hB2⟩, by omega, by omega, by omega⟩
    have C2 := C3.below' hB2
    refine ⟨b, he, by rw [C2.cell]; rfl, (flow_toC w2 w.heap.size (w.heap.size + 1) b g' b _ _ g2 _ _ xs [] bs (F3.below' hB2) hs N2 hnb (by omega) (by omega) (by omega) (by omega) (by omega) (by omega) (by omega) (by omega) (by omega) (by omega)).mono ?_⟩
    rintro e w' ⟨he, hS, hM⟩
    have V2 := V3.trans (hB2.mono V3.size)
    exact ⟨he, by rw [(hM.blk C2 (by omega)).cell]; rfl, hS, below_mod V2 hM V2.size (fun q hq e => by omega)⟩
  go_enter Try.func118, Try.ntmps118
  go_wp2_with fail
  rw [← hW3]
  have CC := C3.cell
  clear hb0 V3 X3 F3 hW3 hz3
  go_region_with ((first | (go_at_call 85; refine NX.out.mono ?_; rintro e w2 ⟨b, rfl, CC2, HT⟩) | (go_at_call 121; refine HT.out.mono ?_; rintro e w4 ⟨rfl, CC4, hS4, hB4⟩)))
  all_goals
    go_wp2_with fail
    go_ret
    exact ⟨w.heap.size + 1, rfl, by omega, hS4.out, hB4⟩
end Go.Proofs.Ytgkobmmannkegaa
