/-
  A flow of tasks (chapter 11): Tell, while the first script has more than one deed left.
-/
import Derived.Test.YtgkobmmannkegaaFlowTwo
namespace Go.Proofs.Ytgkobmmannkegaa
open Go Go.RowKit
set_option linter.unusedVariables false

set_option maxHeartbeats 1000000 in
set_option maxRecDepth 100000 in
theorem flow_tellY (w : World) (f b g r : Nat) (fn : Value) (d d2 : D) (rest : List D) (found : List Int) (x : Int) (h : FlowAt w f b g r fn (d :: d2 :: rest) found) (hn : found.length ≤ 60000) :
    Calls Try.prog 120 #[.pointer (some ⟨f, 0, none⟩), .int .u64 x] w fun e w' => e = .returned (.tuple #[]) ∧ ∃ r', FlowAt w' f b g r' fn (d2 :: rest) (found ++ [x]) ∧ (r' = r ∨ w.heap.size ≤ r') ∧ Mod (fun q => q = b ∨ q = r) w w' := by
  have K := Lib.hid (flow_nextY w f b g r fn d (d2 :: rest) found h)
  have H := Lib.hid h
  have hlt := h.blk.lt
  clear h
  go_enter Try.func120, Try.ntmps120
  go_wp2_with fail
  refine K.out.mono ?_
  rintro e w1 ⟨rfl, hb⟩
  have hb2 : Below w.heap.size w (w1.alloc (.cells #[.int .i64 d.k, .int .i64 d.at_, .int .u64 d.a, .int .u64 d.b, .int .u64 d.by_] 31)) := hb.alloc hb.size _
  have H2 := Lib.hid (H.out.below hb2)
  have C2 := H2.out.blk.cell
  have T := Lib.hid (script_tellY _ b g r d (d2 :: rest) found x H2.out.sc hn)
  have HB2 := Lib.hid hb2
  clear hb hb2
  dsimp only
  go_wp2_with fail
  refine T.out.mono ?_
  rintro e w2 ⟨rfl, r', hS, hr', hM⟩
  have hz := HB2.out.size
  have hfr : f ≠ r' := by
    rcases hr' with rfl | h1
    · exact H.out.nr
    · omega
  have F2 : FlowAt w2 f b g r' fn (d2 :: rest) (found ++ [x]) := ⟨hM.blk H2.out.blk (by rintro (e | e); exact H.out.nb e; exact H.out.nr e), hS, H.out.nb, fun _ => H.out.ng (by simp), hfr⟩
  have P := Lib.hid (flow_passY _ f b g r' fn d2 rest _ F2)
  have F2h := Lib.hid F2
  have M2 := Lib.hid ((Mod.of_below HB2.out).trans' hM)
  have R2 : Hid (r' = r ∨ w.heap.size ≤ r') := by
    rcases hr' with h1 | h1
    · exact .inl h1
    · exact .inr (Nat.le_trans hz h1)
  clear hS hM F2 C2 T hr' hz
  dsimp only
  go_wp2_with fail
  refine P.out.mono ?_
  rintro e w3 ⟨rfl, hb3⟩
  dsimp only
  go_wp2_with fail
  go_returns
  exact ⟨rfl, r', F2h.out.below hb3, R2.out, M2.out.thenBelow hb3⟩
set_option maxHeartbeats 1000000 in
set_option maxRecDepth 100000 in
theorem flow_tellN (w : World) (f b g r : Nat) (d : D) (found : List Int) (x : Int) (h : FlowAt w f b g r .nilFunc [d] found) (hn : found.length ≤ 60000) :
    Calls Try.prog 120 #[.pointer (some ⟨f, 0, none⟩), .int .u64 x] w fun e w' => e = .returned (.tuple #[]) ∧ Over w' f ∧ Mod (fun q => q = f ∨ q = b ∨ q = r) w w' := by
  have K := Lib.hid (flow_nextY w f b g r .nilFunc d [] found h)
  have H := Lib.hid h
  have hlt := h.blk.lt
  clear h
  go_enter Try.func120, Try.ntmps120
  go_wp2_with fail
  refine K.out.mono ?_
  rintro e w1 ⟨rfl, hb⟩
  have hb2 : Below w.heap.size w (w1.alloc (.cells #[.int .i64 d.k, .int .i64 d.at_, .int .u64 d.a, .int .u64 d.b, .int .u64 d.by_] 31)) := hb.alloc hb.size _
  have H2 := Lib.hid (H.out.below hb2)
  have C2 := H2.out.blk.cell
  have T := Lib.hid (script_tellY _ b g r d [] found x H2.out.sc hn)
  have HB2 := Lib.hid hb2
  clear hb hb2
  dsimp only
  go_wp2_with fail
  refine T.out.mono ?_
  rintro e w2 ⟨rfl, r', hS, hr', hM⟩
  have hz := HB2.out.size
  have hfr : f ≠ r' := by
    rcases hr' with rfl | h1
    · exact H.out.nr
    · omega
  have F2 : FlowAt w2 f b g r' .nilFunc [] (found ++ [x]) := ⟨hM.blk H2.out.blk (by rintro (e | e); exact H.out.nb e; exact H.out.nr e), hS, H.out.nb, fun hn => by simp at hn, hfr⟩
  have P := Lib.hid (flow_passN _ f b g r' _ F2)
  have F2h := Lib.hid F2
  have M2 := Lib.hid ((Mod.of_below HB2.out).trans' hM)
  have R2 : Hid (r' = r ∨ w.heap.size ≤ r') := by
    rcases hr' with h1 | h1
    · exact .inl h1
    · exact .inr (Nat.le_trans hz h1)
  clear hS hM F2 C2 T hr' hz
  dsimp only
  go_wp2_with fail
  refine P.out.mono ?_
  rintro e w3 ⟨rfl, ho, hm⟩
  dsimp only
  go_wp2_with fail
  go_returns
  exact ⟨rfl, ho, (M2.out.mono (fun q _ h => .inr h)).trans' (hm.mono (fun q _ h => .inl h))⟩
set_option maxHeartbeats 1000000 in
set_option maxRecDepth 100000 in
theorem flow_tellF (w : World) (f b g r : Nat) (d : D) (c y g2 : Nat) (bs : List D) (found : List Int) (x : Int) (h : FlowAt w f b g r (nextFn c y) [d] found) (hN : NextAt w f c y g2 bs) (hc : c ≠ b ∧ c ≠ r) (hy : y ≠ b ∧ y ≠ r) (hg2 : g2 ≠ b ∧ g2 ≠ r) (hbs : bs.length ≤ 65000) (hn : found.length ≤ 60000) :
    Calls Try.prog 120 #[.pointer (some ⟨f, 0, none⟩), .int .u64 x] w fun e w' => e = .returned (.tuple #[]) ∧ FlowSt w' w.heap.size f bs [] ∧ Mod (fun q => q = f ∨ q = b ∨ q = r) w w' := by
  have K := Lib.hid (flow_nextY w f b g r (nextFn c y) d [] found h)
  have H := Lib.hid h
  have hlt := h.blk.lt
  clear h
  have N0 := Lib.hid hN
  clear hN
  go_enter Try.func120, Try.ntmps120
  go_wp2_with fail
  refine K.out.mono ?_
  rintro e w1 ⟨rfl, hb⟩
  have hb2 : Below w.heap.size w (w1.alloc (.cells #[.int .i64 d.k, .int .i64 d.at_, .int .u64 d.a, .int .u64 d.b, .int .u64 d.by_] 31)) := hb.alloc hb.size _
  have H2 := Lib.hid (H.out.below hb2)
  have C2 := H2.out.blk.cell
  have T := Lib.hid (script_tellY _ b g r d [] found x H2.out.sc hn)
  have HB2 := Lib.hid hb2
  clear hb hb2
  dsimp only
  go_wp2_with fail
  refine T.out.mono ?_
  rintro e w2 ⟨rfl, r', hS, hr', hM⟩
  have hz := HB2.out.size
  have hfr : f ≠ r' := by
    rcases hr' with rfl | h1
    · exact H.out.nr
    · omega
  have F2 : FlowAt w2 f b g r' (nextFn c y) [] (found ++ [x]) := ⟨hM.blk H2.out.blk (by rintro (e | e); exact H.out.nb e; exact H.out.nr e), hS, H.out.nb, fun hn => by simp at hn, hfr⟩
  have P := Lib.hid (flow_passF _ f b g r' c y g2 _ bs F2 ((N0.out.below HB2.out).mod hM (by omega) (by omega) (by omega)) hbs)
  have Z2 : Hid (w.heap.size ≤ w2.heap.size) := Nat.le_trans hz hM.size
  have F2h := Lib.hid F2
  have M2 := Lib.hid ((Mod.of_below HB2.out).trans' hM)
  have R2 : Hid (r' = r ∨ w.heap.size ≤ r') := by
    rcases hr' with h1 | h1
    · exact .inl h1
    · exact .inr (Nat.le_trans hz h1)
  clear hS hM F2 C2 T hr' hz
  dsimp only
  go_wp2_with fail
  refine P.out.mono ?_
  rintro e w3 ⟨rfl, hs3, hm⟩
  dsimp only
  go_wp2_with fail
  go_returns
  refine ⟨rfl, ?_, (M2.out.mono (fun q _ h => .inr h)).trans' (hm.mono (fun q _ h => .inl h))⟩
  rcases hs3 with h1 | ⟨h0, b', g', r', q1, q2, q3, hF⟩
  · exact .inl h1
  · exact .inr ⟨h0, b', g', r', Nat.le_trans Z2.out q1, Nat.le_trans Z2.out q2, Nat.le_trans Z2.out q3, hF⟩
end Go.Proofs.Ytgkobmmannkegaa
