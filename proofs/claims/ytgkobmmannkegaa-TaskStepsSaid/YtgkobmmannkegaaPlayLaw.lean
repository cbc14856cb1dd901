/-
  The law TaskPlays, walked.
-/
import Derived.Test.YtgkobmmannkegaaPlayDoc
import Derived.Test.YtgkobmmannkegaaScriptLaw
namespace Go.Proofs.Ytgkobmmannkegaa
open Go Go.RowKit
set_option linter.unusedVariables false

theorem play_none (w : World) (cv tv : Value) (hc : ∃ a, cv = .pointer a) (ht : ∃ a, tv = .iface 73 (.pointer a)) (most : Int) (hm : most < 1) : Calls Try.prog 130 #[cv, tv, .int .i64 most] w fun e w' => e = .returned (.slice none 0 0) ∧ Below w.heap.size w w' := by
  obtain ⟨a, rfl⟩ := hc
  obtain ⟨b, rfl⟩ := ht
  go_enter Try.func130, Try.ntmps130
  go_wp2_with fail
  go_ret
  exact ⟨rfl, ((Below.refl _ _).alloc (Nat.le_refl _) _).alloc (by simp) _⟩
theorem play_calls (w : World) (lo sb sg cb cg : Nat) (ds : List D) (ws : List Int) (most : Int) (hS : ScriptAt w sb sg sb ds []) (hC : CellsAt w cb cg ws) (hn : ds.length ≤ 60000) (hlo : lo ≤ sb ∧ lo ≤ cg) (hap : sb ≠ cg ∧ sb ≠ cb ∧ sg ≠ cg) :
    Calls Try.prog 130 #[.pointer (some ⟨cb, 0, none⟩), .iface 73 (.pointer (some ⟨sb, 0, none⟩)), .int .i64 most] w fun e w' => ∃ va vc M, e = .returned (.slice va M vc) ∧ ((playL ds ws).take most.toNat).length = M ∧ U64s w' w'.heap.size (.slice va M vc) (((playL ds ws).take most.toNat).map Prod.snd) ∧ CellsAt w' cb cg (playW ds ws M) ∧ Mod (fun q => lo ≤ q) w w' := by
  by_cases hm : most < 1
  · refine (play_none w _ _ ⟨_, rfl⟩ ⟨_, rfl⟩ most hm).mono ?_
    rintro e w' ⟨rfl, hb⟩
    have h0 : most.toNat = 0 := by omega
    rw [h0]
    exact ⟨none, 0, 0, rfl, rfl, ⟨none, 0, rfl, fun hn => by simp at hn⟩, by rw [playW_zero]; exact hC.below hb, Mod.of_below hb⟩
  · refine (play_some w lo sb sg cb cg ds ws most hS hC (by omega) hn hlo hap).mono ?_
    rintro e w' ⟨va, vc, pre, rfl, rfl, h1, h2, h3⟩
    exact ⟨va, vc, _, rfl, rfl, h1, h2, h3⟩
theorem taskPlays_skip (a : Option Addr) (n c : Nat) (sa : Option Addr) (sn sc : Nat) (most : Int) (h : 200 < n ∨ 100 < sn) (w : World) : Calls Try.prog 27 #[.slice a n c, .slice sa sn sc, .int .i64 most] w fun e w' => e = .returned (.bool true) ∧ Below w.heap.size w w' := by
  have HA := Lib.hid script_awake
  by_cases h0 : 200 < n
  · clear h
    go_enter Try.func27, Try.ntmps27
    go_wp2_with fail
    refine (HA.out _).mono ?_
    rintro e w1 ⟨rfl, hb⟩
    go_wp2_with fail
    go_ret
    exact ⟨rfl, hb⟩
  · have h1 : decide ((100 : Int) < (sn : Int)) = true := by simp; omega
    clear h
    go_enter Try.func27, Try.ntmps27
    go_wp2_with fail
    refine (HA.out _).mono ?_
    rintro e w1 ⟨rfl, hb⟩
    go_wp2_with fail
    go_ret
    exact ⟨rfl, hb⟩
set_option maxHeartbeats 4000000 in
set_option maxRecDepth 100000 in
theorem taskPlays_walk (a : Option Addr) (L c : Nat) (ws : List Int) (hL : ws.length = L) (sa : Option Addr) (S sc g1 : Nat) (ds : List D) (hSn : ds.length = S) (most : Int) (w : World) (hI : U64s w w.heap.size (.slice a L c) ws) (hD : DeedsB w g1 (.slice sa S sc) ds) (n1 : L ≤ 200) (n2 : S ≤ 100) :
    Calls Try.prog 27 #[.slice a L c, .slice sa S sc, .int .i64 most] w fun e w' => e = .returned (.bool true) ∧ Below w.heap.size w w' := by
  have HI := Lib.hid hI
  have HD := Lib.hid hD
  have HA := Lib.hid script_awake
  have HL := Lib.hid hL
  have HS := Lib.hid hSn
  have m1 : decide ((200 : Int) < (L : Int)) = false := by simp; omega
  have m2 : decide ((100 : Int) < (S : Int)) = false := by simp; omega
  clear hI hD hL hSn
  go_enter Try.func27, Try.ntmps27
  go_wp2_with fail
  refine (cells_of _ _ _ _ HI.out (by rw [HL.out]; omega)).mono ?_
  rintro e w1 ⟨cb, cg, rfl, hC, hcb, hcg, hb1⟩
  have C1 := Lib.hid hC
  have D1 := Lib.hid (HD.out.below hb1)
  have W1 := Lib.hid hb1
  have lc := hC.lt
  clear hC hb1
  go_wp2_with fail
  refine (new_script g1 _ ds _ D1.out (by rw [HS.out]; omega)).mono ?_
  rintro e w2 ⟨sb, sg, rfl, hS, hsb, hsg, hb2⟩
  have C2 := Lib.hid (C1.out.below hb2)
  have S2 := Lib.hid hS
  have W2 := Lib.hid (W1.out.trans (hb2.mono W1.out.size))
  clear hS hb2 C1 W1 D1
  go_wp2_with fail
  refine (play_calls _ w.heap.size sb sg cb cg ds ws most S2.out C2.out (by rw [HS.out]; omega) (by omega) (by omega)).mono ?_
  rintro e w3 ⟨va, vc, M, rfl, hM, hU, hC3, hm3⟩
  have C3 := Lib.hid hC3
  have U3 := Lib.hid hU
  have HM := Lib.hid hM
  have W3 := Lib.hid (below_mod W2.out hm3 W2.out.size (fun q hq e => by omega))
  have I3 := Lib.hid ((HI.out.below W3.out).mono W3.out.size)
  have D3 := Lib.hid (HD.out.below W3.out)
  clear hU hM hC3 hm3 S2 C2 W2
  go_wp2_with fail
  refine (rplay_calls _ a c L ws HL.out sa sc S g1 ds HS.out most I3.out D3.out (by omega) (by omega)).mono ?_
  rintro e w4 ⟨wa, wc, oa, oc, M', rfl, hM', hO4, hU4, hb4⟩
  have hMM : M' = M := by rw [← hM', HM.out]
  subst hMM
  have C4 := Lib.hid (C3.out.below hb4)
  have U4 := Lib.hid (U3.out.below hb4)
  have O4 := Lib.hid hO4
  have V4 := Lib.hid hU4
  have W4 := Lib.hid (W3.out.trans (hb4.mono W3.out.size))
  have HFL : Hid ((((playL ds ws).take most.toNat).map Prod.snd).length ≤ 65000) := by
    show _ ≤ _
    rw [List.length_map, List.length_take, playL_length, HS.out]
    omega
  have HWL : Hid ((playW ds ws M').length ≤ 65000) := by
    show _ ≤ _
    rw [playW_length, HL.out]
    omega
  clear hM' hO4 hU4 hb4 C3 U3 W3 I3 D3 m1 m2
  go_wp2_with fail
  refine (same64_true _ _ _ _ _ _ U4.out O4.out HFL.out).mono ?_
  rintro e w5 ⟨rfl, hb5⟩
  have C5 := Lib.hid (C4.out.below hb5)
  have V5 := Lib.hid (V4.out.below hb5)
  have W5 := Lib.hid (W4.out.trans (hb5.mono W4.out.size))
  clear C4 U4 O4 V4 W4 hb5
  go_wp2_with fail
  refine (cells_words _ _ _ _ C5.out).mono ?_
  rintro e w6 ⟨xa, xc, g6, rfl, hR, hg6, hl6, hb6⟩
  have R6 := Lib.hid (hR.reads (hi := w6.heap.size) (fun h => hl6 h))
  have V6 := Lib.hid (V5.out.below hb6)
  have W6 := Lib.hid (W5.out.trans (hb6.mono W5.out.size))
  clear C5 V5 W5 hb6 hR
  go_wp2_with fail
  refine (same64_true _ _ _ _ _ _ R6.out V6.out HWL.out).mono ?_
  rintro e w7 ⟨rfl, hb7⟩
  have W7 := Lib.hid (W6.out.trans (hb7.mono W6.out.size))
  clear R6 V6 W6 hb7
  go_wp2_with fail
  refine (HA.out _).mono ?_
  rintro e w8 ⟨rfl, hb8⟩
  go_wp2_with fail
  go_ret
  exact ⟨rfl, W7.out.trans (hb8.mono W7.out.size)⟩
end Go.Proofs.Ytgkobmmannkegaa
