/-
  Parking (chapter 29): its task as a plain machine, in memory one block whose last cell is the next step, a method value.
-/
import Derived.Test.YtgkobmmannkegaaEpoch
namespace Go.Proofs.Ytgkobmmannkegaa
open Go Go.RowKit
set_option linter.unusedVariables false

@[go_sem ↓] theorem run_eql_nilf (w : World) : (binOp .eql 34 .nilFunc .nilFunc).run Try.prog w = .ok (.bool true) w := by kernel_rfl
@[go_sem ↓] theorem run_eql_func (w : World) (g : Fn) (a b : Array Value) : (binOp .eql 34 (.func g a b) .nilFunc).run Try.prog w = .ok (.bool false) w := by kernel_rfl
@[go_sem ↓] theorem run_neq_nilf (w : World) : (binOp .neq 34 .nilFunc .nilFunc).run Try.prog w = .ok (.bool false) w := by kernel_rfl
@[go_sem ↓] theorem run_neq_func (w : World) (g : Fn) (a b : Array Value) : (binOp .neq 34 (.func g a b) .nilFunc).run Try.prog w = .ok (.bool true) w := by kernel_rfl
structure PkS where
  at_ : Nat
  d : D
/-- sem: where the semaphore lies; un: the thread's limit. -/
def pkLook (sem : Int) : PkS := ⟨1, ⟨1, sem, 0, 0, 0⟩⟩
def pkTell (sem un : Int) (s : PkS) (x : Int) : PkS :=
  if s.at_ = 1 then (if x = 0 then ⟨2, ⟨1, 1, 0, 0, 0⟩⟩ else ⟨3, ⟨4, sem, 18446744073709551615, 0, 0⟩⟩)
  else if s.at_ = 2 then (if un ≤ wrap64 x then ⟨0, (pkLook sem).d⟩ else pkLook sem)
  else ⟨0, (pkLook sem).d⟩
def pkM (sem un : Int) : Mach PkS := { more := fun s => !decide (s.at_ = 0), deed := fun s => s.d, tell := fun s x => if s.at_ = 0 then s else pkTell sem un s x }
def pkFn (b : Nat) (at_ : Nat) : Value :=
  if at_ = 0 then .nilFunc else .func (.func (if at_ = 1 then 187 else if at_ = 2 then 196 else 197)) #[.pointer (some ⟨b, 0, none⟩)] #[]
abbrev pkCells (sem un : Int) (b : Nat) (d : D) (f : Value) : List Value := [.int .i64 sem, .int .i64 un, .int .i64 d.k, .int .i64 d.at_, .int .u64 d.a, .int .u64 d.b, .int .u64 d.by_, f]
def pkAt (sem un : Int) (lo b : Nat) (w : World) (s : PkS) : Prop := lo < b ∧ s.at_ ≤ 3 ∧ Blk w b (pkCells sem un b s.d (pkFn b s.at_)) 164
section
variable (sem un : Int)
set_option maxRecDepth 100000 in
theorem pk_look (w : World) (b : Nat) (d : D) (f : Value) (hB : Blk w b (pkCells sem un b d f) 164) :
    Calls Try.prog 152 #[.pointer (some ⟨b, 0, none⟩)] w fun e w' => e = .returned (.tuple #[]) ∧ Blk w' b (pkCells sem un b (pkLook sem).d (pkFn b 1)) 164 ∧ Only b w w' := by
  have C := hB.cell
  have F := hB.frozen
  go_enter Try.func152, Try.ntmps152
  go_wp2_with fail
  go_returns
  exact ⟨rfl, (((((hB.set 2 _).set 3 _).set 4 _).set 5 _).set 6 _).set 7 _, (((((((Only.refl b w).set 2 _).set 3 _).set 4 _).set 5 _).set 6 _).set 7 _)⟩
set_option maxRecDepth 100000 in
theorem pk_nextN (lo : Nat) (w : World) (b : Nat) (s : PkS) (h : pkAt sem un lo b w s) (hm : (pkM sem un).more s = false) :
    Calls Try.prog 61 #[.pointer (some ⟨b, 0, none⟩)] w fun e w' => e = .returned (.tuple #[.agg #[.int .i64 0, .int .i64 0, .int .u64 0, .int .u64 0, .int .u64 0], .bool false]) ∧ Below w.heap.size w w' := by
  obtain ⟨at_, d⟩ := s
  obtain rfl : at_ = 0 := by simpa [pkM] using hm
  have hB := h.2.2
  rw [show pkFn b 0 = .nilFunc from rfl] at hB
  have C := hB.cell
  clear hm
  go_enter Try.func61, Try.ntmps61
  go_wp2_with fail
  refine bodyPost_ret (v := .tuple #[.agg #[.int .i64 0, .int .i64 0, .int .u64 0, .int .u64 0, .int .u64 0], .bool false]) (by simp [results, Try.results61, go_sem]) rfl ⟨rfl, ?_⟩
  exact (Below.refl _ _).alloc (Nat.le_refl _) _
set_option maxRecDepth 100000 in
theorem pk_nextY (lo : Nat) (w : World) (b : Nat) (s : PkS) (h : pkAt sem un lo b w s) (hm : (pkM sem un).more s = true) :
    Calls Try.prog 61 #[.pointer (some ⟨b, 0, none⟩)] w fun e w' => e = .returned (.tuple #[((pkM sem un).deed s).val, .bool true]) ∧ Below w.heap.size w w' := by
  obtain ⟨at_, d⟩ := s
  have h0 : at_ ≠ 0 := by simpa [pkM] using hm
  have hB := h.2.2
  obtain ⟨g, hg⟩ : ∃ g, pkFn b at_ = .func g #[.pointer (some ⟨b, 0, none⟩)] #[] := ⟨_, by simp only [pkFn, if_neg h0]; rfl⟩
  simp only [hg] at hB
  have C := hB.cell
  clear hm h0
  go_enter Try.func61, Try.ntmps61
  go_wp2_with fail
  refine bodyPost_ret (v := .tuple #[((pkM sem un).deed ⟨at_, d⟩).val, .bool true]) (by simp [results, Try.results61, go_sem, pkM]) rfl ⟨rfl, ?_⟩
  exact (Below.refl _ _).alloc (Nat.le_refl _) _
set_option maxRecDepth 100000 in
theorem pk_end (w : World) (b : Nat) (d : D) (f : Value) (v : Bool) (hB : Blk w b (pkCells sem un b d f) 164) :
    Calls Try.prog 198 #[.pointer (some ⟨b, 0, none⟩), .bool v] w fun e w' => e = .returned (.tuple #[]) ∧ Blk w' b (pkCells sem un b (pkLook sem).d (pkFn b (if v then 0 else 1))) 164 ∧ Only b w w' := by
  have HB := Lib.hid hB
  clear hB
  cases v with
  | true =>
    go_enter Try.func198, Try.ntmps198
    go_wp2_with fail
    refine (pk_look sem un _ _ d f HB.out).mono ?_
    rintro e w1 ⟨rfl, hB1, hO1⟩
    have C1 := hB1.cell
    have F1 := hB1.frozen
    go_wp2_with fail
    go_returns
    exact ⟨rfl, hB1.set 7 .nilFunc, hO1.set 7 _⟩
  | false =>
    go_enter Try.func198, Try.ntmps198
    go_wp2_with fail
    refine (pk_look sem un _ _ d f HB.out).mono ?_
    rintro e w1 ⟨rfl, hB1, hO1⟩
    go_wp2_with fail
    go_returns
    exact ⟨rfl, hB1, hO1⟩
set_option maxRecDepth 100000 in
theorem pk_looked (w : World) (b : Nat) (d : D) (f : Value) (x : Int) (hB : Blk w b (pkCells sem un b d f) 164) :
    Calls Try.prog 187 #[.pointer (some ⟨b, 0, none⟩), .int .u64 x] w fun e w' => e = .returned (.tuple #[]) ∧ Blk w' b (pkCells sem un b (pkTell sem un ⟨1, d⟩ x).d (pkFn b (pkTell sem un ⟨1, d⟩ x).at_)) 164 ∧ Only b w w' := by
  have C := hB.cell
  have F := hB.frozen
  by_cases h0 : x = 0
  · subst h0
    go_enter Try.func187, Try.ntmps187
    go_wp2_with fail
    go_returns
    exact ⟨rfl, (((((hB.set 2 _).set 3 _).set 4 _).set 5 _).set 6 _).set 7 _, (((((((Only.refl b w).set 2 _).set 3 _).set 4 _).set 5 _).set 6 _).set 7 _)⟩
  · have e0 : (x == 0) = false := by simpa using h0
    have H0 := Lib.hid h0
    clear h0
    go_enter Try.func187, Try.ntmps187
    go_wp2_with fail
    go_returns
    have e : pkTell sem un ⟨1, d⟩ x = ⟨3, ⟨4, sem, 18446744073709551615, 0, 0⟩⟩ := by simp [pkTell, H0.out]
    rw [e]
    exact ⟨rfl, (((((hB.set 2 _).set 3 _).set 4 _).set 5 _).set 6 _).set 7 _, (((((((Only.refl b w).set 2 _).set 3 _).set 4 _).set 5 _).set 6 _).set 7 _)⟩
set_option maxRecDepth 100000 in
theorem pk_waited (w : World) (b : Nat) (d : D) (f : Value) (x : Int) (hB : Blk w b (pkCells sem un b d f) 164) :
    Calls Try.prog 196 #[.pointer (some ⟨b, 0, none⟩), .int .u64 x] w fun e w' => e = .returned (.tuple #[]) ∧ Blk w' b (pkCells sem un b (pkTell sem un ⟨2, d⟩ x).d (pkFn b (pkTell sem un ⟨2, d⟩ x).at_)) 164 ∧ Only b w w' := by
  have C := hB.cell
  go_enter Try.func196, Try.ntmps196
  go_wp2_with fail
  refine (pk_end sem un _ _ d f _ hB).mono ?_
  rintro e w1 ⟨rfl, hB1, hO1⟩
  go_wp2_with fail
  go_returns
  refine ⟨rfl, ?_, hO1⟩
  by_cases hu : un ≤ wrap64 x
  · have e : pkTell sem un ⟨2, d⟩ x = ⟨0, (pkLook sem).d⟩ := by simp [pkTell, hu]
    rw [e]; rw [decide_eq_true hu] at hB1; exact hB1
  · have e : pkTell sem un ⟨2, d⟩ x = pkLook sem := by simp [pkTell, hu]
    rw [e]; rw [decide_eq_false hu] at hB1; exact hB1
set_option maxRecDepth 100000 in
theorem pk_took (w : World) (b : Nat) (d : D) (f : Value) (x : Int) (hB : Blk w b (pkCells sem un b d f) 164) :
    Calls Try.prog 197 #[.pointer (some ⟨b, 0, none⟩), .int .u64 x] w fun e w' => e = .returned (.tuple #[]) ∧ Blk w' b (pkCells sem un b (pkTell sem un ⟨3, d⟩ x).d (pkFn b (pkTell sem un ⟨3, d⟩ x).at_)) 164 ∧ Only b w w' := by
  go_enter Try.func197, Try.ntmps197
  go_wp2_with fail
  refine (pk_end sem un _ _ d f true hB).mono ?_
  rintro e w1 ⟨rfl, hB1, hO1⟩
  go_wp2_with fail
  go_returns
  have e : pkTell sem un ⟨3, d⟩ x = ⟨0, (pkLook sem).d⟩ := by simp [pkTell]
  rw [e]
  exact ⟨rfl, hB1, hO1⟩
set_option maxRecDepth 100000 in
theorem pk_tell (lo : Nat) (w : World) (b : Nat) (s : PkS) (x : Int) (h : pkAt sem un lo b w s) :
    Calls Try.prog 62 #[.pointer (some ⟨b, 0, none⟩), .int .u64 x] w fun e w' => e = .returned (.tuple #[]) ∧ pkAt sem un lo b w' ((pkM sem un).tell s x) ∧ Mod (fun k => k = b ∧ lo < k) w w' := by
  obtain ⟨at_, d⟩ := s
  obtain ⟨h1, h3, hB⟩ := h
  by_cases h0 : at_ = 0
  · subst h0
    have hB0 := hB
    rw [show pkFn b 0 = .nilFunc from rfl] at hB
    have C := hB.cell
    have e : (pkM sem un).tell ⟨0, d⟩ x = ⟨0, d⟩ := by simp [pkM]
    rw [e]
    have HB := Lib.hid hB0
    clear hB0 e h3
    go_enter Try.func62, Try.ntmps62
    go_wp2_with fail
    go_returns
    exact ⟨rfl, ⟨h1, by simp, HB.out⟩, Mod.refl _ _⟩
  · have e : (pkM sem un).tell ⟨at_, d⟩ x = pkTell sem un ⟨at_, d⟩ x := by simp [pkM, h0]
    rw [e]
    have hle : (pkTell sem un ⟨at_, d⟩ x).at_ ≤ 3 := by unfold pkTell pkLook; (repeat' split) <;> simp
    have HL := Lib.hid hle
    have hm : ∀ w', Only b w w' → Mod (fun k => k = b ∧ lo < k) w w' := fun w' ho => ho.mod.mono (fun k _ hk => ⟨hk, hk ▸ h1⟩)
    have HM := Lib.hid hm
    clear e hle hm
    have h123 : at_ = 1 ∨ at_ = 2 ∨ at_ = 3 := by simp at h3; omega
    clear h3 h0
    rcases h123 with rfl | rfl | rfl
    · rw [show pkFn b 1 = .func (.func 187) #[.pointer (some ⟨b, 0, none⟩)] #[] from rfl] at hB
      have C := hB.cell
      go_enter Try.func62, Try.ntmps62
      go_wp2_with fail
      refine (pk_looked sem un _ _ d _ x hB).mono ?_
      rintro e w1 ⟨rfl, hB1, hO1⟩
      go_wp2_with fail
      go_returns
      exact ⟨rfl, ⟨h1, HL.out, hB1⟩, HM.out _ hO1⟩
    · rw [show pkFn b 2 = .func (.func 196) #[.pointer (some ⟨b, 0, none⟩)] #[] from rfl] at hB
      have C := hB.cell
      go_enter Try.func62, Try.ntmps62
      go_wp2_with fail
      refine (pk_waited sem un _ _ d _ x hB).mono ?_
      rintro e w1 ⟨rfl, hB1, hO1⟩
      go_wp2_with fail
      go_returns
      exact ⟨rfl, ⟨h1, HL.out, hB1⟩, HM.out _ hO1⟩
    · rw [show pkFn b 3 = .func (.func 197) #[.pointer (some ⟨b, 0, none⟩)] #[] from rfl] at hB
      have C := hB.cell
      go_enter Try.func62, Try.ntmps62
      go_wp2_with fail
      refine (pk_took sem un _ _ d _ x hB).mono ?_
      rintro e w1 ⟨rfl, hB1, hO1⟩
      go_wp2_with fail
      go_returns
      exact ⟨rfl, ⟨h1, HL.out, hB1⟩, HM.out _ hO1⟩
theorem pk_rep (lo b : Nat) : MachRep 61 62 (.pointer (some ⟨b, 0, none⟩)) (pkM sem un) (pkAt sem un lo b) (fun k => k = b ∧ lo < k) :=
  { keep := fun w w' s X h hm hX => ⟨h.1, h.2.1, hm.blk h.2.2 (hX b ⟨rfl, h.1⟩)⟩
    nextY := fun w s h hm => pk_nextY sem un lo w b s h hm
    nextN := fun w s h hm => pk_nextN sem un lo w b s h hm
    tell := fun w s x h => pk_tell sem un lo w b s x h }
set_option maxRecDepth 100000 in
theorem pk_new (T S L G th un : Int) (lo : Nat) (w : World) (hlo : lo ≤ w.heap.size) : Calls Try.prog 60 #[planV T S L G, .int .i64 th, .int .i64 un] w fun e w' => ∃ b, e = .returned (.pointer (some ⟨b, 0, none⟩)) ∧ w.heap.size < b ∧ b < w'.heap.size ∧ pkAt (wrap64 (4 + 2 * T + th)) un lo b w' (pkLook (wrap64 (4 + 2 * T + th))) ∧ Below w.heap.size w w' := by
  go_enter Try.func60, Try.ntmps60
  go_wp2_with fail
  refine (sem_calls T S L G _ _).mono ?_
  rintro e w1 ⟨rfl, hb⟩
  have hz := hb.size
  rw [World.size_alloc] at hz
  have W1 := Below.step _ hb
  clear hb
  go_wp2_with fail
  refine (pk_look (wrap64 (4 + 2 * T + th)) un _ _ ⟨0, 0, 0, 0, 0⟩ .nilFunc (Blk.new w1 _ 164)).mono ?_
  rintro e w2 ⟨rfl, hB2, hO2⟩
  go_wp2_with fail
  go_ret
  have hs := hO2.size
  refine ⟨w1.heap.size, rfl, by omega, by rw [hs]; simp, ⟨by omega, by simp [pkLook], hB2⟩, hO2.below (W1.alloc (by omega) _) (by omega)⟩
end
end Go.Proofs.Ytgkobmmannkegaa
