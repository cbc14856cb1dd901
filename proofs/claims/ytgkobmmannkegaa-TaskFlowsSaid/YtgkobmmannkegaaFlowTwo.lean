/-
  A flow of two tasks, one behind the other (chapter 11): the closure of Behind.
-/
import Derived.Test.YtgkobmmannkegaaFlow
namespace Go.Proofs.Ytgkobmmannkegaa
open Go Go.RowKit
set_option linter.unusedVariables false

/-- The closure of Behind: it gives the flow its second task. -/
def nextFn (c x : Nat) : Value := .func (.func 172) #[] #[.pointer (some ⟨c, 0, none⟩), .pointer (some ⟨x, 0, none⟩)]
/-- A flow with nothing behind it: a script that has something left, or it is over. -/
def FlowSt (w : World) (lo f : Nat) (left : List D) (found : List Int) : Prop :=
  (left = [] ∧ Over w f) ∨ (left ≠ [] ∧ ∃ b g r, lo ≤ b ∧ lo ≤ g ∧ lo ≤ r ∧ FlowAt w f b g r .nilFunc left found)
theorem flow_to (w : World) (lo f b g r : Nat) (x y : Value) (left : List D) (found : List Int) (hB : Blk w f [x, y] 198) (hs : ScriptAt w b g r left found) (hb : lo ≤ b) (hg : lo ≤ g) (hr : lo ≤ r) (hf : f < lo) :
    Calls Try.prog 121 #[.pointer (some ⟨f, 0, none⟩), .iface 73 (.pointer (some ⟨b, 0, none⟩)), .nilFunc] w fun e w' => e = .returned (.tuple #[]) ∧ FlowSt w' lo f left found ∧ Mod (fun q => q = f) w w' := by
  cases left with
  | nil =>
    refine (flow_toN w f b g r x y found hB hs (by omega) (by omega) (by omega)).mono ?_
    rintro e w' ⟨rfl, ho, hm⟩
    exact ⟨rfl, .inl ⟨rfl, ho⟩, hm⟩
  | cons d rest =>
    refine (flow_toY w f b g r x y .nilFunc d rest found hB hs (by omega) (by omega) (by omega) (.inl rfl)).mono ?_
    rintro e w' ⟨rfl, ho, hm⟩
    exact ⟨rfl, .inr ⟨by simp, b, g, r, hb, hg, hr, ho⟩, hm⟩
set_option maxRecDepth 100000 in
theorem behind_fn (w : World) (f c x g2 : Nat) (bv u v : Value) (bs : List D) (hc : Blk w c [.pointer (some ⟨f, 0, none⟩)] 124) (hx : Blk w x [bv] 29) (hF : Blk w f [u, v] 198) (hD : DeedsB w g2 bv bs) (hn : bs.length ≤ 65000) :
    Calls Try.prog 172 #[.pointer (some ⟨c, 0, none⟩), .pointer (some ⟨x, 0, none⟩)] w fun e w' => e = .returned (.tuple #[]) ∧ FlowSt w' w.heap.size f bs [] ∧ Mod (fun q => q = f) w w' := by
  obtain ⟨a, n, rfl, _, _⟩ := hD.ex
  have C1 := hc.cell
  have C2 := hx.cell
  have hb0 : Below w.heap.size w w.drew := (Below.refl _ _).drew
  have hlt := hF.lt
  have NX : Hid (Calls Try.prog 85 #[.slice a bs.length n] w.drew fun e w2 => ∃ b, e = .returned (.pointer (some ⟨b, 0, none⟩)) ∧ w2.cell? ⟨c, 0, none⟩ = some (.pointer (some ⟨f, 0, none⟩)) ∧
      Hid (Calls Try.prog 121 #[.pointer (some ⟨f, 0, none⟩), .iface 73 (.pointer (some ⟨b, 0, none⟩)), .nilFunc] w2 fun e w' => e = .returned (.tuple #[]) ∧ FlowSt w' w.heap.size f bs [] ∧ Mod (fun q => q = f) w w')) := by
    refine (new_script g2 (.slice a bs.length n) bs w.drew (hD.below hb0) hn).mono ?_
    rintro e w2 ⟨b, g', he, hs, hb, hg, hB⟩
    have hB2 := hb0.trans hB
    refine ⟨b, he, by rw [(hc.below' hB2).cell]; rfl, (flow_to w2 w.heap.size f b g' b u v bs [] (hF.below' hB2) hs hb hg hb hlt).mono ?_⟩
    rintro e w' ⟨he, hS, hM⟩
    exact ⟨he, hS, (Mod.of_below hB2).trans' hM⟩
  clear hD hx hF hb0 hlt
  go_enter Try.func172, Try.ntmps172
  go_wp2_with fail
  go_region_with ((first | (go_at_call 85; refine NX.out.mono ?_; rintro e w2 ⟨b, rfl, CC, HT⟩) | (go_at_call 121; refine HT.out.mono ?_; rintro e w3 ⟨rfl, hS3, hM3⟩)))
  all_goals
    go_wp2_with fail
    go_returns
    exact ⟨rfl, hS3, hM3⟩
/-- What lies behind a flow: the closure's two variables and the deeds of the second task. -/
structure NextAt (w : World) (f c x g2 : Nat) (bs : List D) : Prop where
  cb : Blk w c [.pointer (some ⟨f, 0, none⟩)] 124
  xb : ∃ bv, Blk w x [bv] 29 ∧ DeedsB w g2 bv bs
  nc : c ≠ f
  nx : x ≠ f
  ng : g2 ≠ f
theorem NextAt.mod {w w' : World} {f c x g2 : Nat} {bs : List D} {S : Nat → Prop} (h : NextAt w f c x g2 bs) (hm : Mod S w w') (hc : ¬ S c) (hx : ¬ S x) (hg : ¬ S g2) : NextAt w' f c x g2 bs := by
  obtain ⟨bv, h1, h2⟩ := h.xb
  exact ⟨hm.blk h.cb hc, ⟨bv, hm.blk h1 hx, h2.mod hm hg⟩, h.nc, h.nx, h.ng⟩
theorem NextAt.below {w w' : World} {f c x g2 : Nat} {bs : List D} (h : NextAt w f c x g2 bs) (hb : Below w.heap.size w w') : NextAt w' f c x g2 bs := h.mod (Mod.of_below (S := fun _ => False) hb) id id id
set_option maxRecDepth 100000 in
theorem flow_passF (w : World) (f b g r c x g2 : Nat) (found : List Int) (bs : List D) (h : FlowAt w f b g r (nextFn c x) [] found) (hN : NextAt w f c x g2 bs) (hn : bs.length ≤ 65000) :
    Calls Try.prog 173 #[.pointer (some ⟨f, 0, none⟩)] w fun e w' => e = .returned (.tuple #[]) ∧ FlowSt w' w.heap.size f bs [] ∧ Mod (fun q => q = f) w w' := by
  have K := Lib.hid (flow_nextN w f b g r (nextFn c x) found h)
  have B0 := Lib.hid h.blk
  have N0 := Lib.hid hN
  clear h hN
  unfold nextFn at B0
  go_enter Try.func173, Try.ntmps173
  go_wp2_with fail
  refine K.out.mono ?_
  rintro e w1 ⟨rfl, hb⟩
  have B1 := (B0.out.below' hb).alloc (.cells #[.int .i64 0, .int .i64 0, .int .u64 0, .int .u64 0, .int .u64 0] 31)
  have C1 := B1.cell
  have F1 := B1.frozen
  have hz := hb.size
  have ho : Only f (w1.alloc (.cells #[.int .i64 0, .int .i64 0, .int .u64 0, .int .u64 0, .int .u64 0] 31)) (((w1.alloc (.cells #[.int .i64 0, .int .i64 0, .int .u64 0, .int .u64 0, .int .u64 0] 31)).setCell ⟨f, 0, none⟩ .nilIface).setCell ⟨f, 1, none⟩ .nilFunc) := ((Only.refl f _).set 0 _).set 1 _
  have hm : Mod (fun q => q = f) w (w1.alloc (.cells #[.int .i64 0, .int .i64 0, .int .u64 0, .int .u64 0, .int .u64 0] 31)) := (Mod.of_below hb).alloc _
  have hm2 := hm.trans' ho.mod
  have hB := (B1.set 0 .nilIface).set 1 .nilFunc
  have hN2 := N0.out.mod hm2 N0.out.nc N0.out.nx N0.out.ng
  obtain ⟨bv, hx1, hx2⟩ := hN2.xb
  have T := Lib.hid (behind_fn _ f c x g2 bv .nilIface .nilFunc bs hN2.cb hx1 hB hx2 hn)
  have M2 := Lib.hid hm2
  clear hb hm hm2 ho hB hN2 hx1 hx2 N0
  dsimp only
  go_wp2_with fail
  refine T.out.mono ?_
  rintro e w2 ⟨rfl, hS, hM⟩
  dsimp only
  go_wp2_with fail
  go_returns
  refine ⟨rfl, ?_, M2.out.trans' hM⟩
  rcases hS with hS | ⟨h0, b', g', r', q1, q2, q3, hF⟩
  · exact .inl hS
  · exact .inr ⟨h0, b', g', r', Nat.le_trans M2.out.size q1, Nat.le_trans M2.out.size q2, Nat.le_trans M2.out.size q3, hF⟩
/-- A flow of two tasks: what is left of the first, or the second one alone. -/
def Flow2 (w : World) (lo f : Nat) (left bs : List D) (found : List Int) : Prop :=
  (left = [] ∧ FlowSt w lo f bs []) ∨ (left ≠ [] ∧ ∃ b g r c x g2, (lo ≤ b ∧ lo ≤ g ∧ lo ≤ r ∧ lo ≤ c ∧ lo ≤ x) ∧ (c ≠ b ∧ c ≠ r ∧ x ≠ b ∧ x ≠ r ∧ g2 ≠ b ∧ g2 ≠ r ∧ g2 < w.heap.size) ∧ FlowAt w f b g r (nextFn c x) left found ∧ NextAt w f c x g2 bs)
set_option maxRecDepth 100000 in
theorem flow_toF (w : World) (f b g r c x g2 : Nat) (u v : Value) (found : List Int) (bs : List D) (hB : Blk w f [u, v] 198) (hs : ScriptAt w b g r [] found) (nb : f ≠ b) (ng : f ≠ g) (nr : f ≠ r) (hN : NextAt w f c x g2 bs) (hn : bs.length ≤ 65000) :
    Calls Try.prog 121 #[.pointer (some ⟨f, 0, none⟩), .iface 73 (.pointer (some ⟨b, 0, none⟩)), nextFn c x] w fun e w' => e = .returned (.tuple #[]) ∧ FlowSt w' w.heap.size f bs [] ∧ Mod (fun q => q = f) w w' := by
  obtain ⟨h1, h2⟩ := FlowAt.given hB hs nb ng nr (nextFn c x)
  have K := Lib.hid (flow_passF _ f b g r c x g2 found bs h1 (hN.mod h2 hN.nc hN.nx hN.ng) hn)
  have H2 := Lib.hid h2
  have C := hB.cell
  have F := hB.frozen
  clear h1 h2 hs hN
  unfold nextFn at K H2 ⊢
  go_enter Try.func121, Try.ntmps121
  go_wp2_with fail
  refine K.out.mono ?_
  rintro e w1 ⟨rfl, hS, hm⟩
  dsimp only
  go_wp2_with fail
  go_returns
  refine ⟨rfl, ?_, H2.out.trans' hm⟩
  rcases hS with hS | ⟨h0, b', g', r', q1, q2, q3, hF⟩
  · exact .inl hS
  · exact .inr ⟨h0, b', g', r', Nat.le_trans H2.out.size q1, Nat.le_trans H2.out.size q2, Nat.le_trans H2.out.size q3, hF⟩
theorem flow_toC (w : World) (lo f b g r c x g2 : Nat) (u v : Value) (left : List D) (found : List Int) (bs : List D) (hB : Blk w f [u, v] 198) (hs : ScriptAt w b g r left found) (hN : NextAt w f c x g2 bs) (hn : bs.length ≤ 65000) (hl : lo ≤ w.heap.size) (hb : lo ≤ b) (hg : lo ≤ g) (hr : lo ≤ r) (hc : lo ≤ c) (hx : lo ≤ x) (hap : c ≠ b ∧ c ≠ r ∧ x ≠ b ∧ x ≠ r ∧ g2 ≠ b ∧ g2 ≠ r ∧ g2 < w.heap.size) (nb : f ≠ b) (ng : f ≠ g) (nr : f ≠ r) :
    Calls Try.prog 121 #[.pointer (some ⟨f, 0, none⟩), .iface 73 (.pointer (some ⟨b, 0, none⟩)), nextFn c x] w fun e w' => e = .returned (.tuple #[]) ∧ Flow2 w' lo f left bs found ∧ Mod (fun q => q = f) w w' := by
  cases left with
  | nil =>
    refine (flow_toF w f b g r c x g2 u v found bs hB hs nb ng nr hN hn).mono ?_
    rintro e w' ⟨rfl, hS, hm⟩
    refine ⟨rfl, .inl ⟨rfl, ?_⟩, hm⟩
    rcases hS with hS | ⟨h0, b', g', r', q1, q2, q3, hF⟩
    · exact .inl hS
    · exact .inr ⟨h0, b', g', r', by omega, by omega, by omega, hF⟩
  | cons d rest =>
    refine (flow_toY w f b g r u v (nextFn c x) d rest found hB hs nb ng nr (.inr ⟨_, _, _, rfl⟩)).mono ?_
    rintro e w' ⟨rfl, ho, hm⟩
    have hz := hm.size
    exact ⟨rfl, .inr ⟨by simp, b, g, r, c, x, g2, ⟨hb, hg, hr, hc, hx⟩, by omega, ho, hN.mod hm hN.nc hN.nx hN.ng⟩, hm⟩
end Go.Proofs.Ytgkobmmannkegaa
