/-
  Pinning a thread, and leaving (chapter 13): the tasks as plain machines, in memory two blocks; the document's answer; that they agree.
-/
import Derived.Test.YtgkobmmannkegaaDrive
namespace Go.Proofs.Ytgkobmmannkegaa
open Go Go.RowKit
set_option linter.unusedVariables false

structure PinS where
  at_ : Int
  wh : Int
  ep : Int
def pinDeed (s : PinS) : D := if s.at_ = 1 then ⟨1, 0, 0, 0, 0⟩ else ⟨2, s.wh, s.ep, 0, 0⟩
def pinTell (s : PinS) (x : Int) : PinS := if s.at_ = 1 then ⟨2, s.wh, x⟩ else ⟨0, s.wh, s.ep⟩
def pinM : Mach PinS := { more := fun s => !decide (s.at_ = 0), deed := pinDeed, tell := pinTell }
abbrev pinCells (s : PinS) : List Value := [.int .i64 s.at_, .int .i64 s.wh, .int .u64 s.ep]

section
set_option maxHeartbeats 1000000 in
theorem steps_nextN (w : World) (b : Nat) (s : PinS) (hB : Blk w b (pinCells s) 167) (hm : pinM.more s = false) :
    Calls Try.prog 153 #[.pointer (some ⟨b, 0, none⟩)] w fun e w' => e = .returned (.tuple #[.agg #[.int .i64 0, .int .i64 0, .int .u64 0, .int .u64 0, .int .u64 0], .bool false]) ∧ Below w.heap.size w w' := by
  obtain ⟨at_, wh, ep⟩ := s
  obtain rfl : at_ = 0 := by simpa [pinM] using hm
  have C := hB.cell
  go_enter Try.func153, Try.ntmps153
  go_wp2_with fail
  refine bodyPost_ret (v := .tuple #[.agg #[.int .i64 0, .int .i64 0, .int .u64 0, .int .u64 0, .int .u64 0], .bool false]) (by simp [results, Try.results153, go_sem]) rfl ⟨rfl, ?_⟩
  exact (Below.refl _ _).alloc (Nat.le_refl _) _
set_option maxHeartbeats 1000000 in
theorem steps_nextY (w : World) (b : Nat) (s : PinS) (hB : Blk w b (pinCells s) 167) (hm : pinM.more s = true) :
    Calls Try.prog 153 #[.pointer (some ⟨b, 0, none⟩)] w fun e w' => e = .returned (.tuple #[(pinM.deed s).val, .bool true]) ∧ Below w.heap.size w w' := by
  obtain ⟨at_, wh, ep⟩ := s
  have h0 : (at_ == 0) = false := by simpa [pinM] using hm
  clear hm
  by_cases h1 : at_ = 1
  · subst h1
    have C := hB.cell
    go_enter Try.func153, Try.ntmps153
    go_wp2_with fail
    refine bodyPost_ret (v := .tuple #[(pinM.deed ⟨1, wh, ep⟩).val, .bool true]) (by simp [results, Try.results153, go_sem, pinM, pinDeed]) rfl ⟨rfl, ?_⟩
    exact (Below.refl _ _).alloc (Nat.le_refl _) _
  · have e1 : (at_ == 1) = false := by simpa using h1
    have C := hB.cell
    have H1 := Lib.hid h1
    clear h1
    go_enter Try.func153, Try.ntmps153
    go_wp2_with fail
    refine wp_region_tail 9 (by kernel_rfl) (by kernel_rfl) ?_
    simp only [List.take_succ_cons, List.take_zero, List.drop_succ_cons, List.drop_zero]
    repeat (quiet_step (fail))
    refine wpQuiet_nil ?_
    intro w1 hb1
    have R1 := (Blk.new _ _ _).below' hb1
    have C1 := R1.cell
    have F1 := R1.frozen
    go_wp2_with fail
    refine bodyPost_ret (v := .tuple #[(pinM.deed ⟨at_, wh, ep⟩).val, .bool true]) (by simp [results, Try.results153, go_sem, pinM, pinDeed, H1.out, C1]) rfl ⟨rfl, ?_⟩
    exact (Only.set5 _ _ _ _ _ _ _).below (Below.step _ hb1) (Nat.le_refl _)
set_option maxHeartbeats 1000000 in
theorem steps_tell (w : World) (b : Nat) (s : PinS) (x : Int) (hB : Blk w b (pinCells s) 167) :
    Calls Try.prog 154 #[.pointer (some ⟨b, 0, none⟩), .int .u64 x] w fun e w' => e = .returned (.tuple #[]) ∧ Blk w' b (pinCells (pinM.tell s x)) 167 ∧ Mod (fun k => k = b) w w' := by
  obtain ⟨at_, wh, ep⟩ := s
  have C := hB.cell
  have F := hB.frozen
  by_cases h1 : at_ = 1
  · subst h1
    go_enter Try.func154, Try.ntmps154
    go_wp2_with fail
    go_returns
    exact ⟨rfl, (hB.set 2 (.int .u64 x)).set 0 (.int .i64 2), ((Mod.refl (fun k => k = b) w).setCell (a := ⟨b, 2, none⟩) (fun _ => rfl) _).setCell (a := ⟨b, 0, none⟩) (fun _ => rfl) _⟩
  · have e1 : (at_ == 1) = false := by simpa using h1
    have e : pinM.tell ⟨at_, wh, ep⟩ x = ⟨0, wh, ep⟩ := by simp [pinM, pinTell, h1]
    rw [e]
    clear h1 e
    go_enter Try.func154, Try.ntmps154
    go_wp2_with fail
    go_returns
    exact ⟨rfl, hB.set 0 (.int .i64 0), (Mod.refl (fun k => k = b) w).setCell (a := ⟨b, 0, none⟩) (fun _ => rfl) _⟩
/-- In memory: a pointer to the steps, in the block below. -/
def pinnerAt (lo b : Nat) (w : World) (s : PinS) : Prop := lo + 1 < b ∧ Blk w b [.pointer (some ⟨b - 1, 0, none⟩)] 169 ∧ Blk w (b - 1) (pinCells s) 167
theorem pinner_nextN (lo : Nat) (w : World) (b : Nat) (s : PinS) (h : pinnerAt lo b w s) (hm : pinM.more s = false) :
    Calls Try.prog 66 #[.pointer (some ⟨b, 0, none⟩)] w fun e w' => e = .returned (.tuple #[.agg #[.int .i64 0, .int .i64 0, .int .u64 0, .int .u64 0, .int .u64 0], .bool false]) ∧ Below w.heap.size w w' := by
  obtain ⟨h1, hB, hS⟩ := h
  have C := hB.cell
  have H := Lib.hid hm
  have HS := Lib.hid hS
  clear hm hS
  go_enter Try.func66, Try.ntmps66
  go_wp2_with fail
  refine (steps_nextN _ _ s (HS.out.alloc _) H.out).mono ?_
  rintro e w1 ⟨rfl, hb1⟩
  have R1 := (Blk.new _ _ _).below' hb1
  have C1 := R1.cell
  have F1 := R1.frozen
  go_wp2_with fail
  refine bodyPost_ret (v := .tuple #[.agg #[.int .i64 0, .int .i64 0, .int .u64 0, .int .u64 0, .int .u64 0], .bool false]) (by simp [results, Try.results66, go_sem, C1]) rfl ⟨rfl, ?_⟩
  exact (Only.set5 _ _ _ _ _ _ _).below (Below.step _ hb1) (Nat.le_refl _)
theorem pinner_nextY (lo : Nat) (w : World) (b : Nat) (s : PinS) (h : pinnerAt lo b w s) (hm : pinM.more s = true) :
    Calls Try.prog 66 #[.pointer (some ⟨b, 0, none⟩)] w fun e w' => e = .returned (.tuple #[(pinM.deed s).val, .bool true]) ∧ Below w.heap.size w w' := by
  obtain ⟨h1, hB, hS⟩ := h
  have C := hB.cell
  have H := Lib.hid hm
  have HS := Lib.hid hS
  clear hm hS
  go_enter Try.func66, Try.ntmps66
  go_wp2_with fail
  refine (steps_nextY _ _ s (HS.out.alloc _) H.out).mono ?_
  rintro e w1 ⟨rfl, hb1⟩
  have R1 := (Blk.new _ _ _).below' hb1
  have C1 := R1.cell
  have F1 := R1.frozen
  go_wp2_with fail
  refine bodyPost_ret (v := .tuple #[(pinM.deed s).val, .bool true]) (by simp [results, Try.results66, go_sem, C1]) rfl ⟨rfl, ?_⟩
  exact (Only.set5 _ _ _ _ _ _ _).below (Below.step _ hb1) (Nat.le_refl _)
theorem pinner_tell (lo : Nat) (w : World) (b : Nat) (s : PinS) (x : Int) (h : pinnerAt lo b w s) :
    Calls Try.prog 67 #[.pointer (some ⟨b, 0, none⟩), .int .u64 x] w fun e w' => e = .returned (.tuple #[]) ∧ pinnerAt lo b w' (pinM.tell s x) ∧ Mod (fun k => k + 1 = b ∧ lo < k) w w' := by
  obtain ⟨h1, hB, hS⟩ := h
  have C := hB.cell
  have HS := Lib.hid hS
  clear hS
  go_enter Try.func67, Try.ntmps67
  go_wp2_with fail
  refine (steps_tell _ _ s x HS.out).mono ?_
  rintro e w1 ⟨rfl, hS1, hM⟩
  have S1 := Lib.hid hS1
  clear hS1
  go_wp2_with fail
  go_returns
  exact ⟨rfl, ⟨h1, hM.blk hB (by omega), S1.out⟩, hM.mono (fun k _ hk => by omega)⟩
theorem pinner_rep (lo b : Nat) : MachRep 66 67 (.pointer (some ⟨b, 0, none⟩)) pinM (pinnerAt lo b) (fun k => (k = b ∨ k + 1 = b) ∧ lo < k) :=
  { keep := fun w w' s X h hm hX => ⟨h.1, hm.blk h.2.1 (hX b ⟨.inl rfl, by have := h.1; omega⟩), hm.blk h.2.2 (hX (b - 1) ⟨.inr (by have := h.1; omega), by have := h.1; omega⟩)⟩
    nextY := fun w s h hm => pinner_nextY lo w b s h hm
    nextN := fun w s h hm => pinner_nextN lo w b s h hm
    tell := fun w s x h => (pinner_tell lo w b s x h).mono fun e w' ⟨h1, h2, h3⟩ => ⟨h1, h2, h3.mono (fun k _ hk => ⟨.inr hk.1, hk.2⟩)⟩ }
/-- In memory: a pointer to the steps, in the block below. -/
def unpinnerAt (lo b : Nat) (w : World) (s : PinS) : Prop := lo + 1 < b ∧ Blk w b [.pointer (some ⟨b - 1, 0, none⟩)] 174 ∧ Blk w (b - 1) (pinCells s) 167
theorem unpinner_nextN (lo : Nat) (w : World) (b : Nat) (s : PinS) (h : unpinnerAt lo b w s) (hm : pinM.more s = false) :
    Calls Try.prog 77 #[.pointer (some ⟨b, 0, none⟩)] w fun e w' => e = .returned (.tuple #[.agg #[.int .i64 0, .int .i64 0, .int .u64 0, .int .u64 0, .int .u64 0], .bool false]) ∧ Below w.heap.size w w' := by
  obtain ⟨h1, hB, hS⟩ := h
  have C := hB.cell
  have H := Lib.hid hm
  have HS := Lib.hid hS
  clear hm hS
  go_enter Try.func77, Try.ntmps77
  go_wp2_with fail
  refine (steps_nextN _ _ s (HS.out.alloc _) H.out).mono ?_
  rintro e w1 ⟨rfl, hb1⟩
  have R1 := (Blk.new _ _ _).below' hb1
  have C1 := R1.cell
  have F1 := R1.frozen
  go_wp2_with fail
  refine bodyPost_ret (v := .tuple #[.agg #[.int .i64 0, .int .i64 0, .int .u64 0, .int .u64 0, .int .u64 0], .bool false]) (by simp [results, Try.results77, go_sem, C1]) rfl ⟨rfl, ?_⟩
  exact (Only.set5 _ _ _ _ _ _ _).below (Below.step _ hb1) (Nat.le_refl _)
theorem unpinner_nextY (lo : Nat) (w : World) (b : Nat) (s : PinS) (h : unpinnerAt lo b w s) (hm : pinM.more s = true) :
    Calls Try.prog 77 #[.pointer (some ⟨b, 0, none⟩)] w fun e w' => e = .returned (.tuple #[(pinM.deed s).val, .bool true]) ∧ Below w.heap.size w w' := by
  obtain ⟨h1, hB, hS⟩ := h
  have C := hB.cell
  have H := Lib.hid hm
  have HS := Lib.hid hS
  clear hm hS
  go_enter Try.func77, Try.ntmps77
  go_wp2_with fail
  refine (steps_nextY _ _ s (HS.out.alloc _) H.out).mono ?_
  rintro e w1 ⟨rfl, hb1⟩
  have R1 := (Blk.new _ _ _).below' hb1
  have C1 := R1.cell
  have F1 := R1.frozen
  go_wp2_with fail
  refine bodyPost_ret (v := .tuple #[(pinM.deed s).val, .bool true]) (by simp [results, Try.results77, go_sem, C1]) rfl ⟨rfl, ?_⟩
  exact (Only.set5 _ _ _ _ _ _ _).below (Below.step _ hb1) (Nat.le_refl _)
theorem unpinner_tell (lo : Nat) (w : World) (b : Nat) (s : PinS) (x : Int) (h : unpinnerAt lo b w s) :
    Calls Try.prog 78 #[.pointer (some ⟨b, 0, none⟩), .int .u64 x] w fun e w' => e = .returned (.tuple #[]) ∧ unpinnerAt lo b w' (pinM.tell s x) ∧ Mod (fun k => k + 1 = b ∧ lo < k) w w' := by
  obtain ⟨h1, hB, hS⟩ := h
  have C := hB.cell
  have HS := Lib.hid hS
  clear hS
  go_enter Try.func78, Try.ntmps78
  go_wp2_with fail
  refine (steps_tell _ _ s x HS.out).mono ?_
  rintro e w1 ⟨rfl, hS1, hM⟩
  have S1 := Lib.hid hS1
  clear hS1
  go_wp2_with fail
  go_returns
  exact ⟨rfl, ⟨h1, hM.blk hB (by omega), S1.out⟩, hM.mono (fun k _ hk => by omega)⟩
theorem unpinner_rep (lo b : Nat) : MachRep 77 78 (.pointer (some ⟨b, 0, none⟩)) pinM (unpinnerAt lo b) (fun k => (k = b ∨ k + 1 = b) ∧ lo < k) :=
  { keep := fun w w' s X h hm hX => ⟨h.1, hm.blk h.2.1 (hX b ⟨.inl rfl, by have := h.1; omega⟩), hm.blk h.2.2 (hX (b - 1) ⟨.inr (by have := h.1; omega), by have := h.1; omega⟩)⟩
    nextY := fun w s h hm => unpinner_nextY lo w b s h hm
    nextN := fun w s h hm => unpinner_nextN lo w b s h hm
    tell := fun w s x h => (unpinner_tell lo w b s x h).mono fun e w' ⟨h1, h2, h3⟩ => ⟨h1, h2, h3.mono (fun k _ hk => ⟨.inr hk.1, hk.2⟩)⟩ }
theorem pinner_new (T S L G th : Int) (lo : Nat) (w : World) (hlo : lo < w.heap.size) : Calls Try.prog 65 #[planV T S L G, .int .i64 th] w fun e w' => ∃ b, e = .returned (.pointer (some ⟨b, 0, none⟩)) ∧ b < w'.heap.size ∧ pinnerAt lo b w' ⟨1, wrap64 (4 + th), 0⟩ ∧ Below w.heap.size w w' := by
  go_enter Try.func65, Try.ntmps65
  go_wp2_with fail
  refine (pin_calls T S L G _ _).mono ?_
  rintro e w1 ⟨rfl, hb⟩
  have hz := hb.size
  rw [World.size_alloc] at hz
  go_wp2_with fail
  go_ret
  refine ⟨w1.heap.size + 1, rfl, by simp, ⟨by omega, Blk.new2 _ _ _ _, (Blk.new w1 _ _).alloc _⟩, ((Below.step _ hb).alloc (by omega) _).alloc (by simp; omega) _⟩
theorem unpinner_new (T S L G th : Int) (lo : Nat) (w : World) (hlo : lo < w.heap.size) : Calls Try.prog 76 #[planV T S L G, .int .i64 th] w fun e w' => ∃ b, e = .returned (.pointer (some ⟨b, 0, none⟩)) ∧ b < w'.heap.size ∧ unpinnerAt lo b w' ⟨2, wrap64 (4 + th), 0⟩ ∧ Below w.heap.size w w' := by
  go_enter Try.func76, Try.ntmps76
  go_wp2_with fail
  refine (pin_calls T S L G _ _).mono ?_
  rintro e w1 ⟨rfl, hb⟩
  have hz := hb.size
  rw [World.size_alloc] at hz
  go_wp2_with fail
  go_ret
  refine ⟨w1.heap.size + 1, rfl, by simp, ⟨by omega, Blk.new2 _ _ _ _, (Blk.new w1 _ _).alloc _⟩, ((Below.step _ hb).alloc (by omega) _).alloc (by simp; omega) _⟩
def pinEpoch (s : PinS) : Int := if s.at_ = 0 then s.ep else 0
theorem pinner_epoch (lo : Nat) (w : World) (b : Nat) (s : PinS) (h : pinnerAt lo b w s) : Calls Try.prog 69 #[.pointer (some ⟨b, 0, none⟩)] w fun e w' => e = .returned (.int .u64 (pinEpoch s)) ∧ Below w.heap.size w w' := by
  obtain ⟨at_, wh, ep⟩ := s
  obtain ⟨h1, hB, hS⟩ := h
  have C := hB.cell
  have CS := hS.cell
  by_cases h0 : at_ = 0
  · subst h0
    go_enter Try.func69, Try.ntmps69
    go_wp2_with fail
    go_ret
    exact ⟨by simp [pinEpoch], Below.refl _ _⟩
  · have e0 : (at_ != 0) = true := by simpa using h0
    have H0 := Lib.hid h0
    clear h0
    go_enter Try.func69, Try.ntmps69
    go_wp2_with fail
    go_ret
    exact ⟨by simp [pinEpoch, H0.out], Below.refl _ _⟩
/-- What is left where the document's text ends. -/
theorem ref_done {S : Type} {M : Mach S} {ins : List Int} {s0 : S} {w w1 w' : World} {x lo lo' : Nat} {inV : Value} {s : TapeS} (ht : TapeAt w' x lo' inV s) (hm : Mod (TapeMod x lo') w1 w') (hb : Below w.heap.size w w1)
    (hl : lo ≤ lo') (hx : x < lo) (hs : s = ⟨(drive M ins s0).1, M.more (drive M ins s0).2⟩) : TapeAt w' x lo inV ⟨(drive M ins s0).1, M.more (drive M ins s0).2⟩ ∧ Mod (TapeMod x lo) w w' :=
  ⟨hs ▸ ht.lower hl hx, TapeMod.lower hm (Mod.of_below hb) hl⟩
theorem unpin_ref (T S L G th : Int) (w : World) (x lo : Nat) (inV : Value) (ins : List Int) (hF : FreshTape w x inV ins) (hlo : w.heap.size = lo) (hn : ins.length ≤ 300) :
    TapeCalls 79 #[.pointer (some ⟨x, 0, none⟩), planV T S L G, .int .i64 th] w x lo inV (.tuple #[]) ⟨(drive pinM ins ⟨2, wrap64 (4 + th), 0⟩).1, pinM.more (drive pinM ins ⟨2, wrap64 (4 + th), 0⟩).2⟩ := by
  subst hlo
  have HF := Lib.hid hF
  have hx := hF.blk.lt
  clear hF
  go_enter Try.func79, Try.ntmps79
  go_wp2_with fail
  refine (rpin_calls T S L G _ _).mono ?_
  rintro e w1 ⟨rfl, hb⟩
  have T1 := Lib.hid ((HF.out.alloc _).below hb).tape
  have hz := hb.size
  rw [World.size_alloc] at hz
  go_wp2_with fail
  refine (tape_store T1.out _ _ _).mono ?_
  rintro e w2 ⟨rfl, ht, hM⟩
  have HT := Lib.hid ht
  clear ht
  go_wp2_with fail
  go_returns
  have hb2 : Below w.heap.size w w1 := Below.step _ hb
  refine ⟨rfl, ref_done HT.out hM hb2 (by omega) hx ?_⟩
  rcases (Sync.start pinM ins ⟨2, wrap64 (4 + th), 0⟩).ask (by simp [pinM]) ⟨2, wrap64 (4 + th), 0, 0, 0⟩ (by simp [pinM, pinDeed]) with ⟨v, h1, h2, h3⟩ | ⟨h1, h2⟩
  · exact (h3.done (by simp [pinM, pinTell])).1
  · exact h2.done.1
/-- pin's document text, of known answers. -/
theorem pin_ref_of (T S L G th : Int) (w : World) (x lo : Nat) (inV : Value) (ins : List Int) (hF : FreshTape w x inV ins) (hlo : w.heap.size = lo) (hn : ins.length ≤ 300)
    (v v2 : Int) (s1 s2 : TapeS) (h1 : tdo ins ⟨[], false⟩ ⟨1, 0, 0, 0, 0⟩ = (v, s1)) (h2 : tdo ins s1 ⟨2, wrap64 (4 + th), v, 0, 0⟩ = (v2, s2)) (r : Int) (hr : r = bif s2.stop then 0 else v) :
    TapeCalls 68 #[.pointer (some ⟨x, 0, none⟩), planV T S L G, .int .i64 th] w x lo inV (.int .u64 r) s2 := by
  subst hlo
  subst hr
  have HF := Lib.hid hF
  have hx := hF.blk.lt
  have H1 := Lib.hid h1
  have H2 := Lib.hid h2
  have few1 : s1.out.length ≤ 4096 := by have := tdo_len ins ⟨[], false⟩ ⟨1, 0, 0, 0, 0⟩; rw [h1] at this; simp at this; omega
  clear hF h1 h2
  go_enter Try.func68, Try.ntmps68
  go_wp2_with fail
  have T0 := Lib.hid (HF.out.alloc (.cells #[.int .i64 T, .int .i64 S, .int .i64 L, .int .u64 G] 24)).tape
  refine (tape_load_eq T0.out H1.out).mono ?_
  rintro e w1 ⟨rfl, ht1, hM1⟩
  have T1 := Lib.hid (T0.out.step ht1 hM1 few1)
  have P1 := hM1.blk (Blk.new _ _ _) (by unfold TapeMod; simp; omega)
  have C1 := P1.cell
  clear ht1
  go_wp2_with fail
  refine (rpin_calls T S L G _ _).mono ?_
  rintro e w2 ⟨rfl, hb2⟩
  have T2 : Hid (TapeIn w2 x _ inV ins s1) := ⟨T1.out.tape.below hb2, T1.out.reads.below hb2, T1.out.few, T1.out.short⟩
  clear C1
  go_wp2_with fail
  refine (tape_store_eq T2.out H2.out).mono ?_
  rintro e w3 ⟨rfl, ht3, hM3⟩
  have T3 := Lib.hid ht3
  obtain ⟨_, _, vo, hB3, _⟩ := ht3
  have C3 := hB3.cell
  have hM := Lib.hid ((hM1.trans (Mod.of_below (S := fun _ => False) hb2) (fun _ _ => False.elim)).trans' hM3)
  clear hB3 hM1 hM3 hb2
  have z : Mod (fun _ => False) w (w.alloc (.cells #[.int .i64 T, .int .i64 S, .int .i64 L, .int .u64 G] 24)) := (Mod.refl _ _).alloc _
  obtain ⟨o2, b2⟩ := s2
  cases b2 with
  | true =>
    go_wp2_with fail
    go_ret
    exact ⟨rfl, T3.out.lower (by simp) hx, TapeMod.lower hM.out z (by simp)⟩
  | false =>
    go_wp2_with fail
    go_ret
    exact ⟨rfl, T3.out.lower (by simp) hx, TapeMod.lower hM.out z (by simp)⟩
theorem pin_ref (T S L G th : Int) (w : World) (x lo : Nat) (inV : Value) (ins : List Int) (hF : FreshTape w x inV ins) (hlo : w.heap.size = lo) (hn : ins.length ≤ 300) :
    TapeCalls 68 #[.pointer (some ⟨x, 0, none⟩), planV T S L G, .int .i64 th] w x lo inV (.int .u64 (pinEpoch (drive pinM ins ⟨1, wrap64 (4 + th), 0⟩).2)) ⟨(drive pinM ins ⟨1, wrap64 (4 + th), 0⟩).1, pinM.more (drive pinM ins ⟨1, wrap64 (4 + th), 0⟩).2⟩ := by
  rcases (Sync.start pinM ins ⟨1, wrap64 (4 + th), 0⟩).ask (by simp [pinM]) ⟨1, 0, 0, 0, 0⟩ (by simp [pinM, pinDeed]) with ⟨v, h1, _, h3⟩ | ⟨h1, h3⟩
  · have et : pinM.tell ⟨1, wrap64 (4 + th), 0⟩ v = ⟨2, wrap64 (4 + th), v⟩ := by simp [pinM, pinTell]
    rw [h1, et] at h3
    rcases h3.ask (by simp [pinM]) ⟨2, wrap64 (4 + th), v, 0, 0⟩ (by simp [pinM, pinDeed]) with ⟨v2, g1, _, g3⟩ | ⟨g1, g3⟩
    · have h := pin_ref_of T S L G th w x lo inV ins hF hlo hn _ _ _ _ h1 g1 v rfl
      have ed := (g3.done (by simp [pinM, pinTell]))
      rw [g1] at ed
      dsimp only at h ed
      rw [ed.1] at h
      have e2 : pinEpoch (drive pinM ins ⟨1, wrap64 (4 + th), 0⟩).2 = v := by rw [ed.2]; simp [pinEpoch, pinM, pinTell]
      rw [e2]; exact h
    · have h := pin_ref_of T S L G th w x lo inV ins hF hlo hn _ _ _ _ h1 g1 0 rfl
      have ed := g3.done
      rw [g1] at ed
      dsimp only at h ed
      rw [ed.1] at h
      have e2 : pinEpoch (drive pinM ins ⟨1, wrap64 (4 + th), 0⟩).2 = 0 := by rw [ed.2]; simp [pinEpoch]
      rw [e2]; exact h
  · have h2 := h3.ask ⟨2, wrap64 (4 + th), 0, 0, 0⟩
    have ed := h3.done
    rw [h1] at h2 ed
    have h := pin_ref_of T S L G th w x lo inV ins hF hlo hn _ _ _ _ h1 h2 0 rfl
    dsimp only at h ed
    rw [ed.1] at h
    have e2 : pinEpoch (drive pinM ins ⟨1, wrap64 (4 + th), 0⟩).2 = 0 := by rw [ed.2]; simp [pinEpoch]
    rw [e2]; exact h
end
end Go.Proofs.Ytgkobmmannkegaa
