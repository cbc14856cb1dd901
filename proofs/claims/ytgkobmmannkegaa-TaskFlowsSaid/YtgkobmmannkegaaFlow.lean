/-
  A flow of tasks (chapter 11): its struct in memory; Next.
-/
import Derived.Test.YtgkobmmannkegaaScriptTell
namespace Go.Proofs.Ytgkobmmannkegaa
open Go Go.RowKit
set_option linter.unusedVariables false

set_option maxRecDepth 100000 in
theorem flow_next (w : World) (f b : Nat) (fn : Value) (v : Value) (more : Bool) (hv : ∃ k a x y z, v = .agg #[.int .i64 k, .int .i64 a, .int .u64 x, .int .u64 y, .int .u64 z]) (hF : Blk w f [.iface 73 (.pointer (some ⟨b, 0, none⟩)), fn] 198)
    (hN : ∀ o, Calls Try.prog 86 #[.pointer (some ⟨b, 0, none⟩)] (w.alloc o) fun e w' => e = .returned (.tuple #[v, .bool more]) ∧ Below (w.alloc o).heap.size (w.alloc o) w') :
    Calls Try.prog 119 #[.pointer (some ⟨f, 0, none⟩)] w fun e w' => e = .returned (.tuple #[v, .bool more]) ∧ Below w.heap.size w w' := by
  have C := hF.cell
  have HN := Lib.hid hN
  obtain ⟨k, a, x, y, z, rfl⟩ := hv
  clear hN
  go_enter Try.func119, Try.ntmps119
  go_wp2_with fail
  refine (HN.out _).mono ?_
  rintro e w1 ⟨rfl, hb⟩
  have W1 : Below w.heap.size w w1 := Below.step _ hb
  have T1 := (Blk.new w [.int .i64 0, .int .i64 0, .int .u64 0, .int .u64 0, .int .u64 0] 31).below' hb
  have CT := T1.cell
  have FT := T1.frozen
  clear hb C
  dsimp only
  go_wp2_with fail
  refine bodyPost_ret (v := .tuple #[.agg #[.int .i64 k, .int .i64 a, .int .u64 x, .int .u64 y, .int .u64 z], .bool more]) (by simp [results, Try.results119, go_sem, CT]) rfl ⟨rfl, ?_⟩
  exact ((((W1.setCell (Nat.le_refl _) _).setCell (Nat.le_refl _) _).setCell (Nat.le_refl _) _).setCell (Nat.le_refl _) _).setCell (Nat.le_refl _) _
/-- A flow whose task is a script. -/
structure FlowAt (w : World) (f b g r : Nat) (fn : Value) (left : List D) (found : List Int) : Prop where
  blk : Blk w f [.iface 73 (.pointer (some ⟨b, 0, none⟩)), fn] 198
  sc : ScriptAt w b g r left found
  nb : f ≠ b
  ng : 0 < left.length → f ≠ g
  nr : f ≠ r
theorem FlowAt.below {w w' : World} {f b g r : Nat} {fn : Value} {left : List D} {found : List Int} (h : FlowAt w f b g r fn left found) (hb : Below w.heap.size w w') : FlowAt w' f b g r fn left found :=
  ⟨h.blk.below' hb, h.sc.below hb, h.nb, h.ng, h.nr⟩
theorem flow_nextY (w : World) (f b g r : Nat) (fn : Value) (d : D) (rest : List D) (found : List Int) (h : FlowAt w f b g r fn (d :: rest) found) : Calls Try.prog 119 #[.pointer (some ⟨f, 0, none⟩)] w fun e w' => e = .returned (.tuple #[d.val, .bool true]) ∧ Below w.heap.size w w' :=
  flow_next w f b fn d.val true ⟨_, _, _, _, _, rfl⟩ h.blk fun o => script_nextY _ b g r d rest found (h.sc.below ((Below.refl _ _).alloc (Nat.le_refl _) o))
theorem flow_nextN (w : World) (f b g r : Nat) (fn : Value) (found : List Int) (h : FlowAt w f b g r fn [] found) : Calls Try.prog 119 #[.pointer (some ⟨f, 0, none⟩)] w fun e w' => e = .returned (.tuple #[noD, .bool false]) ∧ Below w.heap.size w w' :=
  flow_next w f b fn noD false ⟨_, _, _, _, _, rfl⟩ h.blk fun o => script_nextN _ b g r found (h.sc.below ((Below.refl _ _).alloc (Nat.le_refl _) o))
set_option maxRecDepth 100000 in
theorem flow_next_end (w : World) (f : Nat) (fn : Value) (hF : Blk w f [.nilIface, fn] 198) : Calls Try.prog 119 #[.pointer (some ⟨f, 0, none⟩)] w fun e w' => e = .returned (.tuple #[noD, .bool false]) ∧ Below w.heap.size w w' := by
  have C := hF.cell
  go_enter Try.func119, Try.ntmps119
  go_wp2_with fail
  refine bodyPost_ret (v := .tuple #[noD, .bool false]) (by simp [results, Try.results119, go_sem]) rfl ⟨rfl, ?_⟩
  exact (Below.refl _ _).alloc (Nat.le_refl _) _
set_option maxRecDepth 100000 in
theorem flow_passY (w : World) (f b g r : Nat) (fn : Value) (d : D) (rest : List D) (found : List Int) (h : FlowAt w f b g r fn (d :: rest) found) : Calls Try.prog 173 #[.pointer (some ⟨f, 0, none⟩)] w fun e w' => e = .returned (.tuple #[]) ∧ Below w.heap.size w w' := by
  have K := Lib.hid (flow_nextY w f b g r fn d rest found h)
  clear h
  go_enter Try.func173, Try.ntmps173
  go_wp2_with fail
  refine K.out.mono ?_
  rintro e w1 ⟨rfl, hb⟩
  dsimp only
  go_wp2_with fail
  go_returns
  exact ⟨rfl, hb.alloc hb.size _⟩
@[go_sem ↓] theorem run_neq_nilf1 (w : World) : (binOp .neq 1 .nilFunc .nilFunc).run Try.prog w = .ok (.bool false) w := by kernel_rfl
@[go_sem ↓] theorem run_neq_func1 (w : World) (g : Fn) (a b : Array Value) : (binOp .neq 1 (.func g a b) .nilFunc).run Try.prog w = .ok (.bool true) w := by kernel_rfl
/-- A flow that is through: no task, nothing to come. -/
def Over (w : World) (f : Nat) : Prop := Blk w f [.nilIface, .nilFunc] 198
set_option maxRecDepth 100000 in
theorem flow_passN (w : World) (f b g r : Nat) (found : List Int) (h : FlowAt w f b g r .nilFunc [] found) : Calls Try.prog 173 #[.pointer (some ⟨f, 0, none⟩)] w fun e w' => e = .returned (.tuple #[]) ∧ Over w' f ∧ Mod (fun q => q = f) w w' := by
  have K := Lib.hid (flow_nextN w f b g r .nilFunc found h)
  have B0 := Lib.hid h.blk
  clear h
  go_enter Try.func173, Try.ntmps173
  go_wp2_with fail
  refine K.out.mono ?_
  rintro e w1 ⟨rfl, hb⟩
  have B1 := (B0.out.below' hb).alloc (.cells #[.int .i64 0, .int .i64 0, .int .u64 0, .int .u64 0, .int .u64 0] 31)
  have C1 := B1.cell
  have F1 := B1.frozen
  have ho : Only f (w1.alloc (.cells #[.int .i64 0, .int .i64 0, .int .u64 0, .int .u64 0, .int .u64 0] 31)) (((w1.alloc (.cells #[.int .i64 0, .int .i64 0, .int .u64 0, .int .u64 0, .int .u64 0] 31)).setCell ⟨f, 0, none⟩ .nilIface).setCell ⟨f, 1, none⟩ .nilFunc) := ((Only.refl f _).set 0 _).set 1 _
  have hm : Mod (fun q => q = f) w (w1.alloc (.cells #[.int .i64 0, .int .i64 0, .int .u64 0, .int .u64 0, .int .u64 0] 31)) := (Mod.of_below hb).alloc _
  have hB := (B1.set 0 .nilIface).set 1 .nilFunc
  clear hb
  dsimp only
  go_wp2_with fail
  go_returns
  exact ⟨rfl, hB, hm.trans' ho.mod⟩
/-- A flow is given a script that has something left. -/
theorem FlowAt.given {w : World} {f b g r : Nat} {x y : Value} {left : List D} {found : List Int} (hB : Blk w f [x, y] 198) (hs : ScriptAt w b g r left found) (nb : f ≠ b) (ng : f ≠ g) (nr : f ≠ r) (fn : Value) :
    FlowAt ((w.setCell ⟨f, 0, none⟩ (.iface 73 (.pointer (some ⟨b, 0, none⟩)))).setCell ⟨f, 1, none⟩ fn) f b g r fn left found ∧ Mod (fun q => q = f) w ((w.setCell ⟨f, 0, none⟩ (.iface 73 (.pointer (some ⟨b, 0, none⟩)))).setCell ⟨f, 1, none⟩ fn) := by
  have ho : Only f w ((w.setCell ⟨f, 0, none⟩ (.iface 73 (.pointer (some ⟨b, 0, none⟩)))).setCell ⟨f, 1, none⟩ fn) := ((Only.refl f _).set 0 _).set 1 _
  exact ⟨⟨(hB.set 0 _).set 1 _, hs.mod ho.mod (fun e => nb e.symm) (fun e => ng e.symm) (fun e => nr e.symm), nb, fun _ => ng, nr⟩, ho.mod⟩
set_option maxRecDepth 100000 in
theorem flow_toY (w : World) (f b g r : Nat) (x y fn : Value) (d : D) (rest : List D) (found : List Int) (hB : Blk w f [x, y] 198) (hs : ScriptAt w b g r (d :: rest) found) (nb : f ≠ b) (ng : f ≠ g) (nr : f ≠ r) (hfn : fn = .nilFunc ∨ ∃ g a b, fn = .func g a b) :
    Calls Try.prog 121 #[.pointer (some ⟨f, 0, none⟩), .iface 73 (.pointer (some ⟨b, 0, none⟩)), fn] w fun e w' => e = .returned (.tuple #[]) ∧ FlowAt w' f b g r fn (d :: rest) found ∧ Mod (fun q => q = f) w w' := by
  obtain ⟨h1, h2⟩ := FlowAt.given hB hs nb ng nr fn
  have K := Lib.hid (flow_passY _ f b g r fn d rest found h1)
  have H1 := Lib.hid h1
  have H2 := Lib.hid h2
  have C := hB.cell
  have F := hB.frozen
  clear h1 h2 hs
  rcases hfn with rfl | ⟨_, _, _, rfl⟩
  all_goals
    go_enter Try.func121, Try.ntmps121
    go_wp2_with fail
    refine K.out.mono ?_
    rintro e w1 ⟨rfl, hb⟩
    dsimp only
    go_wp2_with fail
    go_returns
    exact ⟨rfl, H1.out.below hb, H2.out.thenBelow hb⟩
set_option maxRecDepth 100000 in
theorem flow_toN (w : World) (f b g r : Nat) (x y : Value) (found : List Int) (hB : Blk w f [x, y] 198) (hs : ScriptAt w b g r [] found) (nb : f ≠ b) (ng : f ≠ g) (nr : f ≠ r) :
    Calls Try.prog 121 #[.pointer (some ⟨f, 0, none⟩), .iface 73 (.pointer (some ⟨b, 0, none⟩)), .nilFunc] w fun e w' => e = .returned (.tuple #[]) ∧ Over w' f ∧ Mod (fun q => q = f) w w' := by
  obtain ⟨h1, h2⟩ := FlowAt.given hB hs nb ng nr .nilFunc
  have K := Lib.hid (flow_passN _ f b g r found h1)
  have H2 := Lib.hid h2
  have C := hB.cell
  have F := hB.frozen
  clear h1 h2 hs
  go_enter Try.func121, Try.ntmps121
  go_wp2_with fail
  refine K.out.mono ?_
  rintro e w1 ⟨rfl, ho, hm⟩
  dsimp only
  go_wp2_with fail
  go_returns
  exact ⟨rfl, ho, H2.out.trans' hm⟩
end Go.Proofs.Ytgkobmmannkegaa
