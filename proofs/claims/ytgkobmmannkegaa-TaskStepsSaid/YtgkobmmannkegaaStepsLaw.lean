/-
  The law TaskSteps, walked.
-/
import Derived.Test.YtgkobmmannkegaaPlayLaw
import Derived.Test.YtgkobmmannkegaaAnyOrder
namespace Go.Proofs.Ytgkobmmannkegaa
open Go Go.RowKit Go.Shelf
set_option linter.unusedVariables false

attribute [local go_sem] Oper.semAt_some
theorem taskSteps_skip (a : Option Addr) (n c : Nat) (sa : Option Addr) (sn sc : Nat) (most : Int) (h : 200 < n ∨ 100 < sn) (w : World) : Calls Try.prog 24 #[.slice a n c, .slice sa sn sc, .int .i64 most] w fun e w' => e = .returned (.bool true) ∧ Below w.heap.size w w' := by
  have HA := Lib.hid script_awake
  have b1 : Below w.heap.size w (((w.alloc (.cells #[.slice sa sn sc] 29)).alloc (.cells #[.int .i64 most] 3)).alloc (.cells #[.bool false] 4)) := (((Below.refl _ _).alloc (Nat.le_refl _) _).alloc (by simp) _).alloc (by simp; omega) _
  have B1 := Blk.new ((w.alloc (.cells #[.slice sa sn sc] 29)).alloc (.cells #[.int .i64 most] 3)) [.bool false] 4
  have D1 := (((Blk.new w [.slice sa sn sc] 29).alloc (.cells #[.int .i64 most] 3)).alloc (.cells #[.bool false] 4))
  have hsz : ((w.alloc (.cells #[.slice sa sn sc] 29)).alloc (.cells #[.int .i64 most] 3)).heap.size = w.heap.size + 1 + 1 := by simp
  rw [hsz] at B1
  have C1 := D1.cell
  by_cases h0 : 200 < n
  · have h1 : decide ((200 : Int) < (n : Int)) = true := by simp; omega
    clear h
    go_enter Try.func24, Try.ntmps24
    go_wp2_with fail
    refine (HA.out _).mono ?_
    rintro e w1 ⟨rfl, hb⟩
    have B2 := B1.below' hb
    have C2 := B2.cell
    have F2 := B2.frozen
    have W2 := b1.trans (hb.mono b1.size)
    have C3 := (B2.set 0 (.bool true)).cell
    clear B1 hb b1 C1 D1
    go_wp2_with fail
    exact bodyPost_ret (v := .bool true) (by simp [results, Try.results24, go_sem, C3]) rfl ⟨rfl, W2.setCell (p := ⟨w.heap.size + 1 + 1, 0, none⟩) (by simp; omega) _⟩
  · have h1 : decide ((200 : Int) < (n : Int)) = false := by simp; omega
    have h2 : decide ((100 : Int) < (sn : Int)) = true := by simp; omega
    clear h
    go_enter Try.func24, Try.ntmps24
    go_wp2_with fail
    refine (HA.out _).mono ?_
    rintro e w1 ⟨rfl, hb⟩
    have B2 := B1.below' hb
    have C2 := B2.cell
    have F2 := B2.frozen
    have W2 := b1.trans (hb.mono b1.size)
    have C3 := (B2.set 0 (.bool true)).cell
    clear B1 hb b1 C1 D1
    go_wp2_with fail
    exact bodyPost_ret (v := .bool true) (by simp [results, Try.results24, go_sem, C3]) rfl ⟨rfl, W2.setCell (p := ⟨w.heap.size + 1 + 1, 0, none⟩) (by simp; omega) _⟩
/-- The variables of the law, and what has turned since it began. -/
structure TI (w : World) (sa : Option Addr) (S sc : Nat) (most : Int) (sb sx nx : Nat) (k r : Nat) (W : World) : Prop where
  fdb : Blk W w.heap.size [.slice sa S sc] 29
  fmb : Blk W (w.heap.size + 1) [.int .i64 most] 3
  frb : Blk W (w.heap.size + 1 + 1) [.bool false] 4
  fsx : Blk W sx [.pointer (some ⟨sb, 0, none⟩)] 73
  fnx : Blk W nx [.int .i64 k] 3
  nr : r ≠ w.heap.size ∧ r ≠ w.heap.size + 1 ∧ r ≠ w.heap.size + 1 + 1 ∧ r ≠ sx ∧ r ≠ nx ∧ w.heap.size ≤ r
  mod : Mod (fun q => w.heap.size ≤ q) w W
section
variable {w W W' : World} {sa : Option Addr} {S sc : Nat} {most : Int} {sb sx nx k r r' : Nat}
theorem TI.turn {row : Option Nat} {B : Nat} (h : TI w sa S sc most sb sx nx k r W) (hg : W.grownBy W' row) (hrow : ∀ q, row = some q → B ≤ q ∧ ∃ o : Obj, W.heap[q]? = some o ∧ o.isCells = false) (hB : w.heap.size ≤ B) : TI w sa S sc most sb sx nx k r W' :=
  have hr := fun q e => (hrow q e).2
  ⟨h.fdb.turn hg hr, h.fmb.turn hg hr, h.frb.turn hg hr, h.fsx.turn hg hr, h.fnx.turn hg hr, h.nr, h.mod.grown hg (fun k e _ => Nat.le_trans hB (hrow k e).1)⟩
theorem TI.below (h : TI w sa S sc most sb sx nx k r W) (hb : Below W.heap.size W W') : TI w sa S sc most sb sx nx k r W' :=
  ⟨h.fdb.below' hb, h.fmb.below' hb, h.frb.below' hb, h.fsx.below' hb, h.fnx.below' hb, h.nr, h.mod.thenBelow hb⟩
theorem TI.step {p : At} (h : TI w sa S sc most sb sx nx k r W) (hm : Mod (stepOwn p r) W W') (hs : ∀ k, stepOwn p r' k → stepOwn p r k ∨ W.heap.size ≤ k)
    (hp : p.sb ≠ w.heap.size ∧ p.sb ≠ w.heap.size + 1 ∧ p.sb ≠ w.heap.size + 1 + 1 ∧ p.sb ≠ sx ∧ p.sb ≠ nx ∧ w.heap.size ≤ p.sb) (hp2 : p.cg ≠ w.heap.size ∧ p.cg ≠ w.heap.size + 1 ∧ p.cg ≠ w.heap.size + 1 + 1 ∧ p.cg ≠ sx ∧ p.cg ≠ nx ∧ w.heap.size ≤ p.cg) : TI w sa S sc most sb sx nx k r' W' := by
  have l1 := h.fdb.lt
  have l2 := h.fmb.lt
  have l3 := h.frb.lt
  have l4 := h.fsx.lt
  have l5 := h.fnx.lt
  have hnr := h.nr
  have hr2 : r' = p.sb ∨ r' = r ∨ r' = p.cg ∨ W.heap.size ≤ r' := by
    rcases hs r' (.inr (.inl rfl)) with (h | h | h) | h
    · exact .inl h
    · exact .inr (.inl h)
    · exact .inr (.inr (.inl h))
    · exact .inr (.inr (.inr h))
  refine ⟨hm.blk h.fdb ?_, hm.blk h.fmb ?_, hm.blk h.frb ?_, hm.blk h.fsx ?_, hm.blk h.fnx ?_, by omega, h.mod.trans' (hm.mono ?_)⟩
  · rintro (e | e | e) <;> omega
  · rintro (e | e | e) <;> omega
  · rintro (e | e | e) <;> omega
  · rintro (e | e | e) <;> omega
  · rintro (e | e | e) <;> omega
  · rintro k _ (e | e | e) <;> omega
end
theorem TI.fin {w W w6 : World} {sa : Option Addr} {S sc : Nat} {most : Int} {sb sx nx k r D : Nat} (h : TI w sa S sc most sb sx nx k r W) (hb : Below W.heap.size W w6) (hD : W.heap[D]? = some (.deferred (some []))) (hwD : w.heap.size ≤ D) :
    (w6.setCell ⟨w.heap.size + 1 + 1, 0, none⟩ (.bool true)).heap[D]? = some (.deferred (some [])) ∧ ((w6.setCell ⟨w.heap.size + 1 + 1, 0, none⟩ (.bool true)).putObj D (.deferred none)).cell? ⟨w.heap.size + 1 + 1, 0, none⟩ = some (.bool true) ∧
    Below w.heap.size w ((w6.setCell ⟨w.heap.size + 1 + 1, 0, none⟩ (.bool true)).putObj D (.deferred none)) := by
  have h6 : w6.heap[D]? = some (.deferred (some [])) := (hb.block D (Array.getElem?_eq_some_iff.1 hD).1).trans hD
  have rB := h.frb.below' hb
  have h7 := (KeepsOthers.setCell w6 ⟨w.heap.size + 1 + 1, 0, none⟩ (.bool true)).same D _ h6 rfl
  have hg := grownBy_putObj' (w6.setCell ⟨w.heap.size + 1 + 1, 0, none⟩ (.bool true)) D (.deferred none)
  have rB2 := (rB.set 0 (.bool true)).turn hg (fun q e => by cases e; exact ⟨_, h7, rfl⟩)
  refine ⟨h7, rB2.cell 0, ?_⟩
  have hm : Mod (fun q => w.heap.size ≤ q) w (w6.setCell ⟨w.heap.size + 1 + 1, 0, none⟩ (.bool true)) := (h.mod.thenBelow hb).setCell (a := ⟨w.heap.size + 1 + 1, 0, none⟩) (fun _ => by show w.heap.size ≤ w.heap.size + 1 + 1; omega) _
  exact (hm.grown hg (fun q e _ => by cases e; exact hwD)).below (fun q hq e => by omega)
/-- The law's frame in a round. -/
def stepFrame (a : Option Addr) (L c : Nat) (sa : Option Addr) (S sc : Nat) (most : Int) (w0 w3 cb sb bx : Nat) (s11 s12 s37 s38 : Value) : Array Value :=
  #[.slice a L c, .slice sa S sc, .int .i64 most, undef, .pointer (some ⟨w0, 0, none⟩), .pointer (some ⟨w0 + 1, 0, none⟩), .pointer (some ⟨w0 + 1 + 1, 0, none⟩), .pointer (some ⟨cb, 0, none⟩), .int .i64 0, .pointer (some ⟨w3, 0, none⟩), .pointer (some ⟨w3 + 1, 0, none⟩), s11, s12, .slice a L c, .int .i64 L, .bool false, .bool false, .slice sa S sc, .int .i64 S, .bool false, .bool false, .bool false, .bool true, .bool false, .bool false, undef,
    .tuple #[.pointer (some ⟨cb, 0, none⟩), .int .i64 0], .slice a L c, .tuple #[.pointer (some ⟨cb, 0, none⟩), .int .i64 0], .pointer (some ⟨cb, 0, none⟩), .int .i64 0, .slice sa S sc, .pointer (some ⟨sb, 0, none⟩), .pointer (some ⟨cb, 0, none⟩), .pointer (some ⟨sb, 0, none⟩), .iface 73 (.pointer (some ⟨sb, 0, none⟩)), .func (.func 182) #[] #[.pointer (some ⟨bx + 1, 0, none⟩), .pointer (some ⟨bx, 0, none⟩)], s37, s38,
    undef, undef, undef, undef, undef, undef, undef, undef, undef, undef, undef, undef, undef, undef, undef, undef, undef, undef, undef, undef, undef, undef, undef, undef, undef, undef, undef, undef, undef, undef, undef, undef, undef, undef, undef, undef, undef, undef, undef, undef, undef, undef, undef, undef]
/-- Behind the test. -/
def stepFrame2 (a : Option Addr) (L c : Nat) (sa : Option Addr) (S sc : Nat) (most : Int) (w0 w3 cb sb bx : Nat) (s11 s12 s37 s38 : Value) (vals : Nat → Value) : Array Value :=
  #[.slice a L c, .slice sa S sc, .int .i64 most, undef, .pointer (some ⟨w0, 0, none⟩), .pointer (some ⟨w0 + 1, 0, none⟩), .pointer (some ⟨w0 + 1 + 1, 0, none⟩), .pointer (some ⟨cb, 0, none⟩), .int .i64 0, .pointer (some ⟨w3, 0, none⟩), .pointer (some ⟨w3 + 1, 0, none⟩), s11, s12, .slice a L c, .int .i64 L, .bool false, .bool false, .slice sa S sc, .int .i64 S, .bool false, .bool false, .bool false, .bool true, .bool false, .bool false, undef,
    .tuple #[.pointer (some ⟨cb, 0, none⟩), .int .i64 0], .slice a L c, .tuple #[.pointer (some ⟨cb, 0, none⟩), .int .i64 0], .pointer (some ⟨cb, 0, none⟩), .int .i64 0, .slice sa S sc, .pointer (some ⟨sb, 0, none⟩), .pointer (some ⟨cb, 0, none⟩), .pointer (some ⟨sb, 0, none⟩), .iface 73 (.pointer (some ⟨sb, 0, none⟩)), .func (.func 182) #[] #[.pointer (some ⟨bx + 1, 0, none⟩), .pointer (some ⟨bx, 0, none⟩)], s37, s38,
    vals 0, vals 1, vals 2, vals 3, vals 4, vals 5, vals 6, vals 7, vals 8, vals 9, vals 10, vals 11, vals 12, vals 13, vals 14, vals 15, vals 16, vals 17, vals 18, vals 19, vals 20, vals 21, vals 22, vals 23, vals 24, vals 25, vals 26, vals 27, vals 28,
    undef, undef, undef, undef, undef, undef, undef, undef, undef, undef, undef, undef, undef, undef, undef]
def dAgg (d : D) : Value := .agg #[.int .i64 d.k, .int .i64 d.at_, .int .u64 d.a, .int .u64 d.b, .int .u64 d.by_]
theorem row_cells {w : World} {g n c : Nat} {a : Option Addr} {ws : List Int} (h : Row w g (.slice a n c) ws) (hn : 0 < ws.length) : ∃ b o, a = some ⟨b, o, none⟩ ∧ ∀ j (h : j < ws.length), w.cell? ⟨b, o + j, none⟩ = some (.int .u64 ws[j]) := by
  obtain ⟨a', c', hv, hx⟩ := (h.reads (hi := g + 1) (fun _ => Nat.lt_succ_self _)).ex
  obtain ⟨b, o, ha, _, hcs⟩ := hx hn
  cases hv
  exact ⟨b, o, ha, hcs⟩
/-- What the operations of a round's test yield. -/
def val9 (k S sc : Nat) (sa : Option Addr) (d : D) (x : Int) (sb g off M : Nat) : Nat → Value
  | 0 => .int .i64 k
  | 1 => .slice sa S sc
  | 2 => .int .i64 S
  | 3 => .bool false
  | 4 => .bool false
  | 5 => dAgg d
  | 6 => .slice sa S sc
  | 7 => .int .i64 k
  | 8 => .pointer (some ⟨g, off + k * 5, none⟩)
  | 9 => dAgg d
  | 10 => .bool false
  | 11 => .bool false
  | 12 => .bool false
  | 13 => .pointer (some ⟨sb, 0, none⟩)
  | 15 => .int .i64 M
  | 16 => .int .i64 k
  | 17 => .int .i64 M
  | 18 => .bool false
  | 19 => .bool false
  | 20 => .bool false
  | 21 => .pointer (some ⟨sb, 0, none⟩)
  | 23 => .int .i64 k
  | 25 => .int .u64 x
  | 26 => .int .u64 x
  | 27 => .bool false
  | 28 => .bool false
  | _ => undef
def R9 (k S sc : Nat) (sa : Option Addr) (d : D) (x : Int) (sb g off M : Nat) (found : List Int) (i : Nat) (w : World) (v : Value) : Prop :=
  if i = 14 ∨ i = 22 then ∃ va vc b o, v = .slice va M vc ∧ va = some ⟨b, o, none⟩ ∧ ∀ j (h : j < found.length), w.cell? ⟨b, o + j, none⟩ = some (.int .u64 found[j])
  else if i = 24 then ∃ b o, v = .pointer (some ⟨b, o, none⟩) ∧ w.cell? ⟨b, o, none⟩ = some (.int .u64 x)
  else v = val9 k S sc sa d x sb g off M i
theorem R9.mono {k S sc : Nat} {sa : Option Addr} {d : D} {x : Int} {sb g off M : Nat} {found : List Int} {w w' : World} (hb : Below w.heap.size w w') (i : Nat) (u : Value) (h : R9 k S sc sa d x sb g off M found i w u) : R9 k S sc sa d x sb g off M found i w' u := by
  unfold R9 at h ⊢
  split
  · rename_i hi
    rw [if_pos hi] at h
    obtain ⟨va, vc, b, o, h1, h2, h3⟩ := h
    exact ⟨va, vc, b, o, h1, h2, fun j hj => (hb.cell (p := ⟨b, o + j, none⟩) (World.block_lt_of_cell? w _ (h3 j hj))).trans (h3 j hj)⟩
  · rename_i hi
    rw [if_neg hi] at h
    split
    · rename_i hi2
      rw [if_pos hi2] at h
      obtain ⟨b, o, h1, h2⟩ := h
      exact ⟨b, o, h1, (hb.cell (p := ⟨b, o, none⟩) (World.block_lt_of_cell? w _ h2)).trans h2⟩
    · rename_i hi2
      rw [if_neg hi2] at h
      exact h
set_option maxHeartbeats 4000000 in
set_option maxRecDepth 100000 in
theorem taskSteps_walk (a : Option Addr) (L c : Nat) (ws : List Int) (hL : ws.length = L) (sa : Option Addr) (S sc g1 : Nat) (ds : List D) (hSn : ds.length = S) (most : Int) (w : World) (hI : U64s w w.heap.size (.slice a L c) ws) (hD : DeedsB w g1 (.slice sa S sc) ds) (n1 : L ≤ 200) (n2 : S ≤ 100) :
    Calls Try.prog 24 #[.slice a L c, .slice sa S sc, .int .i64 most] w fun e w' => e = .returned (.bool true) ∧ Below w.heap.size w w' := by
  have HI := Lib.hid hI
  have HD := Lib.hid hD
  have HA := Lib.hid script_awake
  have HL := Lib.hid hL
  have HS := Lib.hid hSn
  have m1 : decide ((200 : Int) < (L : Int)) = false := by simp; omega
  have m2 : decide ((100 : Int) < (S : Int)) = false := by simp; omega
  clear hI hD hL hSn
  have b1 : Below w.heap.size w (((w.alloc (.cells #[.slice sa S sc] 29)).alloc (.cells #[.int .i64 most] 3)).alloc (.cells #[.bool false] 4)) := (((Below.refl _ _).alloc (Nat.le_refl _) _).alloc (by simp) _).alloc (by simp; omega) _
  have rB := Blk.new ((w.alloc (.cells #[.slice sa S sc] 29)).alloc (.cells #[.int .i64 most] 3)) [.bool false] 4
  have mB := (Blk.new (w.alloc (.cells #[.slice sa S sc] 29)) [.int .i64 most] 3).alloc (.cells #[.bool false] 4)
  have dB := (((Blk.new w [.slice sa S sc] 29).alloc (.cells #[.int .i64 most] 3)).alloc (.cells #[.bool false] 4))
  have hsz : ((w.alloc (.cells #[.slice sa S sc] 29)).alloc (.cells #[.int .i64 most] 3)).heap.size = w.heap.size + 1 + 1 := by simp
  have hsz2 : (w.alloc (.cells #[.slice sa S sc] 29)).heap.size = w.heap.size + 1 := by simp
  rw [hsz] at rB
  rw [hsz2] at mB
  have C1 := dB.cell
  clear hsz hsz2
  refine (callsIn_wide (n := 4)).1 ?_
  refine callsIn_of_wp_marks Try.func24 rfl trivial ?_
  simp only [Try.ntmps24, List.size_toArray, List.length_cons, List.length_nil, Nat.reduceAdd, Nat.reduceSub, Array.replicate_succ, Array.replicate_zero, List.push_toArray, List.append_toArray, List.nil_append, List.cons_append]
  gi_wp2
  refine ⟨trivial, (callsIn_wide.2 (HA.out _)).mono ?_⟩
  rintro e w1 ⟨rfl, hb⟩
  have rB1 := Lib.hid (rB.below' hb)
  have mB1 := Lib.hid (mB.below' hb)
  have dB1 := dB.below' hb
  have W1 := Lib.hid (b1.trans (hb.mono b1.size))
  have C2 := dB1.cell
  clear rB mB dB hb b1 C1
  gi_wp2
  refine ⟨trivial, (callsIn_wide.2 (cells_of _ _ _ _ (HI.out.below W1.out) (by rw [HL.out]; omega))).mono ?_⟩
  rintro e w2 ⟨cb, cg, rfl, hC, hcb, hcg, hb2⟩
  have rB2 := Lib.hid (rB1.out.below' hb2)
  have mB2 := Lib.hid (mB1.out.below' hb2)
  have dB2 := dB1.below' hb2
  have W2 := Lib.hid (W1.out.trans (hb2.mono W1.out.size))
  have CE2 := Lib.hid hC
  have C3 := dB2.cell
  have z1 := W1.out.size
  have zd := dB1.lt
  have zr := rB1.out.lt
  have z2 := hb2.size
  have lc := hC.lt
  clear rB1 mB1 dB1 hb2 hC C2 W1
  gi_wp2
  refine ⟨trivial, (callsIn_wide.2 (new_script g1 (.slice sa S sc) ds _ (HD.out.below W2.out) (by rw [HS.out]; omega))).mono ?_⟩
  rintro e w3 ⟨sb, sg, rfl, hS, hsb, hsg, hb3⟩
  have S3 := Lib.hid hS
  have rB3 := rB2.out.below' hb3
  have mB3 := mB2.out.below' hb3
  have dB3 := dB2.below' hb3
  have CE3 := Lib.hid (CE2.out.below hb3)
  have W3 := Lib.hid (W2.out.trans (hb3.mono W2.out.size))
  have z3 := hb3.size
  have ls := hS.lt
  obtain ⟨Wz, hWz⟩ : ∃ W, W = (w3.alloc (.cells #[.pointer (some ⟨sb, 0, none⟩)] 73)).alloc (.cells #[.int .i64 0] 3) := ⟨_, rfl⟩
  have sB : Blk Wz w3.heap.size [.pointer (some ⟨sb, 0, none⟩)] 73 := by rw [hWz]; exact (Blk.new w3 [.pointer (some ⟨sb, 0, none⟩)] 73).alloc _
  have nB : Blk Wz (w3.heap.size + 1) [.int .i64 0] 3 := by
    rw [hWz]
    have := Blk.new (w3.alloc (.cells #[.pointer (some ⟨sb, 0, none⟩)] 73)) [.int .i64 0] 3
    simpa using this
  have bz : Below w3.heap.size w3 Wz := by rw [hWz]; exact ((Below.refl _ _).alloc (Nat.le_refl _) _).alloc (by simp) _
  have zz : Wz.heap.size = w3.heap.size + 2 := by rw [hWz]; simp
  have C4 := sB.cell
  clear hS hb3 CE2 W2 rB2 mB2 dB2 C3
  gi_wp2_with fail
  rw [← hWz]
  refine ⟨trivial, (callsIn_wide.2 (steps_new Wz _ _ ⟨_, rfl⟩ ⟨_, rfl⟩)).mono ?_⟩
  rintro e w5 ⟨rfl, hw5⟩
  have cB : Blk w5 (w3.heap.size + 1 + 1) [.pointer (some ⟨cb, 0, none⟩)] 67 := by
    rw [hw5]
    have := (Blk.new Wz [.pointer (some ⟨cb, 0, none⟩)] 67).alloc (.cells #[.iface 73 (.pointer (some ⟨sb, 0, none⟩))] 196)
    rw [zz] at this
    exact this
  have tB : Blk w5 (w3.heap.size + 1 + 1 + 1) [.iface 73 (.pointer (some ⟨sb, 0, none⟩))] 196 := by
    rw [hw5]
    have := Blk.new (Wz.alloc (.cells #[.pointer (some ⟨cb, 0, none⟩)] 67)) [.iface 73 (.pointer (some ⟨sb, 0, none⟩))] 196
    rw [World.size_alloc, zz] at this
    exact this
  have b5 : Below w3.heap.size w3 w5 := by rw [hw5]; exact (bz.alloc (by omega) _).alloc (by simp; omega) _
  have b5z : Below Wz.heap.size Wz w5 := by rw [hw5]; exact ((Below.refl _ _).alloc (Nat.le_refl _) _).alloc (by simp) _
  have z5 : w5.heap.size = w3.heap.size + 4 := by rw [hw5]; simp; omega
  have sB5 := sB.below' b5z
  have nB5 := nB.below' b5z
  have fcl : (Value.func (.func 182) #[] #[.pointer (some ⟨Wz.heap.size + 1, 0, none⟩), .pointer (some ⟨Wz.heap.size, 0, none⟩)]) = .func (.func 182) #[] #[.pointer (some ⟨w3.heap.size + 1 + 1 + 1, 0, none⟩), .pointer (some ⟨w3.heap.size + 1 + 1, 0, none⟩)] := by rw [zz]
  rw [fcl]
  clear hw5 fcl hWz C4 sB nB
  gi_wp2_with fail
  obtain ⟨sg', hS', hsg'⟩ := S3.out.home (w3.heap.size + 1 + 1 + 1) (by omega)
  replace hS' := hS'.below b5
  have lsg : (sg' < w3.heap.size ∨ sg' = w3.heap.size + 3) ∧ sg' ≠ cg := by
    rcases hsg' with ⟨rfl, h⟩ | rfl <;> omega
  obtain ⟨p, hp⟩ : ∃ p : At, p = ⟨sb, sg', cb, cg, w3.heap.size + 1 + 1 + 1, w3.heap.size + 1 + 1⟩ := ⟨_, rfl⟩
  have q1 : p.sb = sb := by rw [hp]
  have q2 : p.sg = sg' := by rw [hp]
  have q3 : p.cb = cb := by rw [hp]
  have q4 : p.cg = cg := by rw [hp]
  have q5 : p.tb = w3.heap.size + 1 + 1 + 1 := by rw [hp]
  have q6 : p.cx = w3.heap.size + 1 + 1 := by rw [hp]
  have hpa : p.apart := by unfold At.apart; omega
  have K0 : StepSt p ds ws [] sb w5 := ⟨List.nil_prefix, by rw [q5, q1]; exact tB, by rw [q6, q3]; exact cB, by rw [q1, q2]; exact hS', by rw [List.length_nil, playW_zero, q3, q4]; exact CE3.out.below b5, by omega⟩
  have I0 : TI w sa S sc most sb w3.heap.size (w3.heap.size + 1) 0 sb w5 := ⟨dB3.below' b5, mB3.below' b5, rB3.below' b5, sB5, nB5, by omega, (Mod.of_below W3.out).thenBelow b5⟩
  have it := steps_iter p ds ws hpa (by rw [HS.out]; omega) 3 (by omega)
  have hp1 : p.sb ≠ w.heap.size ∧ p.sb ≠ w.heap.size + 1 ∧ p.sb ≠ w.heap.size + 1 + 1 ∧ p.sb ≠ w3.heap.size ∧ p.sb ≠ w3.heap.size + 1 ∧ w.heap.size ≤ p.sb := by omega
  have hp2 : p.cg ≠ w.heap.size ∧ p.cg ≠ w.heap.size + 1 ∧ p.cg ≠ w.heap.size + 1 + 1 ∧ p.cg ≠ w3.heap.size ∧ p.cg ≠ w3.heap.size + 1 ∧ w.heap.size ≤ p.cg := by omega
  have hlo5 : w.heap.size ≤ w5.heap.size := by omega
  have hown0 : ∀ k, stepOwn p sb k → k < w5.heap.size := by
    rintro k (e | e | e) <;> omega
  rw [q5, q6] at it
  clear hp sB5 nB5 cB tB hS' hsg' dB3 mB3 rB3
  refine wpIn_rangeFunc_task rfl (by omega) (gf := 182) (lb := #[.pointer (some ⟨w3.heap.size + 1 + 1 + 1, 0, none⟩), .pointer (some ⟨w3.heap.size + 1 + 1, 0, none⟩)]) rfl trivial (enters_of Try.func182 (by kernel_rfl) rfl) it (StepSt.keeps p ds ws _) (fun _ => rfl) sb hown0
    (fun pre r W => (pre.length = 0 ∨ (pre.length : Int) < most) ∧ TI w sa S sc most sb w3.heap.size (w3.heap.size + 1) pre.length r W)
    (fun c pre r W => c = .exit 0 ∧ 1 ≤ pre.length ∧ most ≤ (pre.length : Int) ∧ (pre.length = 1 ∨ (pre.length : Int) = most) ∧ TI w sa S sc most sb w3.heap.size (w3.heap.size + 1) pre.length r W)
    ?hI ?hIx ?hIm ⟨.inl rfl, I0⟩ K0 (fun x a' W => ∃ db, db ≠ w3.heap.size + 1 ∧ Blk W db [.int .i64 x.1.k, .int .i64 x.1.at_, .int .u64 x.1.a, .int .u64 x.1.b, .int .u64 x.1.by_] 31 ∧ a' = { tmps := stepFrame a L c sa S sc most w.heap.size w3.heap.size cb sb (w3.heap.size + 1 + 1) (.pointer (some ⟨db, 0, none⟩)) (.int .u64 x.2) (dAgg x.1) (.int .u64 x.2), defers := [] }) ?hAx ?assign ?body ?done ?stop
  case hI =>
    rintro pre r W W' row ⟨h1, h2⟩ hg hrow
    exact ⟨h1, h2.turn hg hrow hlo5⟩
  case hIx =>
    rintro c pre r W W' row ⟨h0, h1, h2, h3, h4⟩ hg hrow
    exact ⟨h0, h1, h2, h3, h4.turn hg hrow hlo5⟩
  case hIm =>
    rintro pre r r' W W' ⟨h1, h2⟩ hm hs
    exact ⟨h1, h2.step hm hs hp1 hp2⟩
  case hAx =>
    rintro x a' W l o o' ⟨db, h1, h2, h3⟩ hl ho
    exact ⟨db, h1, h2.turn (grownBy_putObj' W l o') (fun q e => by cases e; exact ⟨_, hl, ho⟩), h3⟩
  case assign =>
    intro l pre x rest r W K hall hi hk hK
    have hb : Below W.heap.size W (W.alloc (.cells #[.int .i64 x.1.k, .int .i64 x.1.at_, .int .u64 x.1.a, .int .u64 x.1.b, .int .u64 x.1.by_] 31)) := (Below.refl _ _).alloc (Nat.le_refl _) _
    have HH := Lib.hid (hK _ _ (KeepsOthers.alloc W _) ⟨hi.1, hi.2.below hb⟩ (hk.below hb) ⟨W.heap.size, by have := hi.2.fnx.lt; omega, Blk.new W [.int .i64 x.1.k, .int .i64 x.1.at_, .int .u64 x.1.a, .int .u64 x.1.b, .int .u64 x.1.by_] 31, rfl⟩)
    clear hK hi hk
    dsimp only [stepEnc]
    gi_wp2
    exact HH.out
  case body =>
    rintro l pre x rest r a' W hall ⟨hlt, hI⟩ hK ⟨db, hdb, hB, rfl⟩
    dsimp only [stepFrame, dAgg]
    gi_wp2_with fail
    obtain ⟨hkd, hx⟩ := playL_cut hall
    have hxd : x.1 = ds[pre.length] := by rw [hx]
    obtain ⟨a', c', hv, _, hcs⟩ := HD.out.ex
    rw [HS.out] at hv
    cases hv
    obtain ⟨off, e5, hcs2⟩ := hcs (by omega)
    subst e5
    have gl : g1 < w.heap.size := HD.out.lt (by omega)
    have hBW : Below w.heap.size w W := hI.mod.below (fun q hq e => by omega)
    have e0 : W.cell? ⟨g1, off + pre.length * 5, none⟩ = some (.int .i64 x.1.k) := by rw [hxd]; exact (hBW.cell (p := ⟨g1, off + pre.length * 5, none⟩) gl).trans (hcs2 _ hkd 0 (by omega))
    have e1 : W.cell? ⟨g1, off + pre.length * 5 + 1, none⟩ = some (.int .i64 x.1.at_) := by rw [hxd]; exact (hBW.cell (p := ⟨g1, off + pre.length * 5 + 1, none⟩) gl).trans (hcs2 _ hkd 1 (by omega))
    have e2 : W.cell? ⟨g1, off + pre.length * 5 + 2, none⟩ = some (.int .u64 x.1.a) := by rw [hxd]; exact (hBW.cell (p := ⟨g1, off + pre.length * 5 + 2, none⟩) gl).trans (hcs2 _ hkd 2 (by omega))
    have e3 : W.cell? ⟨g1, off + pre.length * 5 + 3, none⟩ = some (.int .u64 x.1.b) := by rw [hxd]; exact (hBW.cell (p := ⟨g1, off + pre.length * 5 + 3, none⟩) gl).trans (hcs2 _ hkd 3 (by omega))
    have e4 : W.cell? ⟨g1, off + pre.length * 5 + 4, none⟩ = some (.int .u64 x.1.by_) := by rw [hxd]; exact (hBW.cell (p := ⟨g1, off + pre.length * 5 + 4, none⟩) gl).trans (hcs2 _ hkd 4 (by omega))
    obtain ⟨k, hk⟩ : ∃ k, pre.length = k := ⟨_, rfl⟩
    have hkS : k < S := by rw [← hk, ← HS.out]; exact hkd
    have hfl : ((pre ++ [x]).map Prod.snd).length = k + 1 := by simp [hk]
    have hfx : ((pre ++ [x]).map Prod.snd)[k]'(by rw [hfl]; omega) = x.2 := by
      simp only [List.map_append, List.map_cons, List.map_nil]
      rw [List.getElem_append_right (by simp [hk])]
      simp [hk]
    have hSC := hK.sc
    rw [q1] at hSC
    rw [hk] at e0 e1 e2 e3 e4
    -- what stands in memory, whenever the test is made
    have FACTS : Hid (∀ w', Below W.heap.size W w' → w'.cell? ⟨w3.heap.size + 1, 0, none⟩ = some (.int .i64 k) ∧ w'.cell? ⟨w.heap.size, 0, none⟩ = some (.slice (some ⟨g1, off, none⟩) S sc) ∧ w'.cell? ⟨w3.heap.size, 0, none⟩ = some (.pointer (some ⟨sb, 0, none⟩)) ∧
        (w'.cell? ⟨db, 0, none⟩ = some (.int .i64 x.1.k) ∧ w'.cell? ⟨db, 1, none⟩ = some (.int .i64 x.1.at_) ∧ w'.cell? ⟨db, 2, none⟩ = some (.int .u64 x.1.a) ∧ w'.cell? ⟨db, 3, none⟩ = some (.int .u64 x.1.b) ∧ w'.cell? ⟨db, 4, none⟩ = some (.int .u64 x.1.by_)) ∧
        (w'.cell? ⟨g1, off + k * 5, none⟩ = some (.int .i64 x.1.k) ∧ w'.cell? ⟨g1, off + k * 5 + 1, none⟩ = some (.int .i64 x.1.at_) ∧ w'.cell? ⟨g1, off + k * 5 + 2, none⟩ = some (.int .u64 x.1.a) ∧ w'.cell? ⟨g1, off + k * 5 + 3, none⟩ = some (.int .u64 x.1.b) ∧ w'.cell? ⟨g1, off + k * 5 + 4, none⟩ = some (.int .u64 x.1.by_)) ∧
        ScriptAt w' sb p.sg r (ds.drop (pre ++ [x]).length) ((pre ++ [x]).map Prod.snd)) := by
      intro w' hb
      have g1l : g1 < W.heap.size := Nat.lt_of_lt_of_le gl hBW.size
      have nB := (hI.fnx.below' hb).cell 0
      have dB := (hI.fdb.below' hb).cell 0
      have sB := (hI.fsx.below' hb).cell 0
      have vB := (hB.below' hb).cell
      rw [hk] at nB
      exact ⟨nB, dB, sB, ⟨vB 0, vB 1, vB 2, vB 3, vB 4⟩, ⟨(hb.cell (p := ⟨g1, off + k * 5, none⟩) g1l).trans e0, (hb.cell (p := ⟨g1, off + k * 5 + 1, none⟩) g1l).trans e1, (hb.cell (p := ⟨g1, off + k * 5 + 2, none⟩) g1l).trans e2, (hb.cell (p := ⟨g1, off + k * 5 + 3, none⟩) g1l).trans e3, (hb.cell (p := ⟨g1, off + k * 5 + 4, none⟩) g1l).trans e4⟩, hSC.below hb⟩
    obtain ⟨M, hM⟩ : ∃ M : Nat, M = k + 1 := ⟨_, rfl⟩
    obtain ⟨found, hfound⟩ : ∃ found, found = (pre ++ [x]).map Prod.snd := ⟨_, rfl⟩
    rw [← hfound] at FACTS
    have hfk : k < found.length := by rw [hfound, hfl]; omega
    have hfx2 : found[k] = x.2 := by
      subst hfound
      exact hfx
    have hfM : found.length = M := by rw [hfound, hfl, hM]
    have HFM := Lib.hid hfM
    have HFX := Lib.hid hfx2
    have HM := Lib.hid hM
    have c1 : decide ((S : Int) ≤ (k : Int)) = false := by simp; omega
    have c2 : (M : Int) = (k : Int) + 1 := by omega
    have c3 : (k : Int) < (S : Int) := by omega
    have c4 : (k : Int) < (M : Int) := by omega
    have c5 : (k : Int) < 100 := by omega
    have c6 : IntKind.i64.wrap ((k : Int) + 1) = (k : Int) + 1 := by rw [IntKind.wrap_i64]; omega
    clear e0 e1 e2 e3 e4 hcs hcs2 hx hxd hSC hfx hfl hfound hfx2 hM hkd
    refine wpIn_region_robust (C := fun w' => Below W.heap.size W w') (R := R9 k S sc (some ⟨g1, off, none⟩) x.1 x.2 sb g1 off M found) (by kernel_rfl) (by kernel_rfl) ((Below.refl _ _).drew) ?hstep ?hfin
    case hstep =>
      intro j o A w' ho hC hdeps hext
      obtain ⟨f0, f1, f2, ⟨v0, v1, v2, v3, v4⟩, ⟨u0, u1, u2, u3, u4⟩, f5⟩ := FACTS.out w' hC
      have dep := fun i oi d h1 h2 h3 => hdeps i oi d h1 (anyB_spec (i := i) h3) h2
      have x4 : A.eval (.tmp 4) = .pointer (some ⟨w.heap.size, 0, none⟩) := hext 4 (by decide)
      have y4 := get_of_eval x4 (by intro h; cases h)
      have x9 : A.eval (.tmp 9) = .pointer (some ⟨w3.heap.size, 0, none⟩) := hext 9 (by decide)
      have y9 := get_of_eval x9 (by intro h; cases h)
      have x10 : A.eval (.tmp 10) = .pointer (some ⟨w3.heap.size + 1, 0, none⟩) := hext 10 (by decide)
      have y10 := get_of_eval x10 (by intro h; cases h)
      have x11 : A.eval (.tmp 11) = .pointer (some ⟨db, 0, none⟩) := hext 11 (by decide)
      have y11 := get_of_eval x11 (by intro h; cases h)
      have x12 : A.eval (.tmp 12) = .int .u64 x.2 := hext 12 (by decide)
      have y12 := get_of_eval x12 (by intro h; cases h)
      have dd : deedEq x.1.k x.1.at_ x.1.a x.1.b x.1.by_ x.1.k x.1.at_ x.1.a x.1.b x.1.by_ = true := by rw [D.beq]; simp
      clear hext hdeps
      rcases j with _ | _ | _ | _ | _ | _ | _ | _ | _ | _ | _ | _ | _ | _ | _ | _ | _ | _ | _ | _ | _ | _ | _ | _ | _ | _ | _ | _ | _ | j
      · have ho2 := ho
        simp at ho
        subst ho
        exact step_val ho2 (wanted_free rfl) (by intro c h; cases h) (v := .int .i64 k) (by simp [execOp, go_sem, y10, f0]) (by simp [R9, val9]) hC
      · have ho2 := ho
        simp at ho
        subst ho
        exact step_val ho2 (wanted_free rfl) (by intro c h; cases h) (v := .slice (some ⟨g1, off, none⟩) S sc) (by simp [execOp, go_sem, y4, f1]) (by simp [R9, val9]) hC
      · have ho2 := ho
        simp at ho
        subst ho
        have s1 : A.eval (.tmp 40) = .slice (some ⟨g1, off, none⟩) S sc := by simpa [R9, val9] using dep 1 _ 40 rfl rfl (by kernel_rfl)
        have t1 := get_of_eval s1 (by intro h; cases h)
        exact step_val ho2 (wanted_free rfl) (by intro c h; cases h) (v := .int .i64 S) (by simp [go_sem, t1]) (by simp [R9, val9]) hC
      · have ho2 := ho
        simp at ho
        subst ho
        have s0 : A.eval (.tmp 39) = .int .i64 k := by simpa [R9, val9] using dep 0 _ 39 rfl rfl (by kernel_rfl)
        have t0 := get_of_eval s0 (by intro h; cases h)
        have s2 : A.eval (.tmp 41) = .int .i64 S := by simpa [R9, val9] using dep 2 _ 41 rfl rfl (by kernel_rfl)
        have t2 := get_of_eval s2 (by intro h; cases h)
        exact step_val ho2 (wanted_free rfl) (by intro c h; cases h) (v := .bool false) (by simp [execOp, go_sem, t0, t2, hkS]) (by simp [R9, val9]) hC
      · have ho2 := ho
        simp at ho
        subst ho
        have s3 : A.eval (.tmp 42) = .bool false := by simpa [R9, val9] using dep 3 _ 42 rfl rfl (by kernel_rfl)
        have t3 := get_of_eval s3 (by intro h; cases h)
        exact step_val ho2 (wanted_free rfl) (by intro c h; cases h) (v := .bool false) (by simp [execOp, go_sem, t3]) (by simp [R9, val9]) hC
      · have ho2 := ho
        simp at ho
        subst ho
        have s4 : A.eval (.tmp 43) = .bool false := by simpa [R9, val9] using dep 4 _ 43 rfl rfl (by kernel_rfl)
        have t4 := get_of_eval s4 (by intro h; cases h)
        exact step_val ho2 (wanted_guard (g := 4) (b := false) rfl rfl rfl s4) (by intro c h; cases h) (v := dAgg x.1) (by simp [execOp, go_sem, y11, dAgg, v0, v1, v2, v3, v4]) (by simp [R9, val9]) hC
      · have ho2 := ho
        simp at ho
        subst ho
        have s4 : A.eval (.tmp 43) = .bool false := by simpa [R9, val9] using dep 4 _ 43 rfl rfl (by kernel_rfl)
        have t4 := get_of_eval s4 (by intro h; cases h)
        exact step_val ho2 (wanted_guard (g := 4) (b := false) rfl rfl rfl s4) (by intro c h; cases h) (v := .slice (some ⟨g1, off, none⟩) S sc) (by simp [execOp, go_sem, y4, f1]) (by simp [R9, val9]) hC
      · have ho2 := ho
        simp at ho
        subst ho
        have s4 : A.eval (.tmp 43) = .bool false := by simpa [R9, val9] using dep 4 _ 43 rfl rfl (by kernel_rfl)
        have t4 := get_of_eval s4 (by intro h; cases h)
        exact step_val ho2 (wanted_guard (g := 4) (b := false) rfl rfl rfl s4) (by intro c h; cases h) (v := .int .i64 k) (by simp [execOp, go_sem, y10, f0]) (by simp [R9, val9]) hC
      · have ho2 := ho
        simp at ho
        subst ho
        have s6 : A.eval (.tmp 45) = .slice (some ⟨g1, off, none⟩) S sc := by simpa [R9, val9] using dep 6 _ 45 rfl rfl (by kernel_rfl)
        have t6 := get_of_eval s6 (by intro h; cases h)
        have s7 : A.eval (.tmp 46) = .int .i64 k := by simpa [R9, val9] using dep 7 _ 46 rfl rfl (by kernel_rfl)
        have t7 := get_of_eval s7 (by intro h; cases h)
        have s4 : A.eval (.tmp 43) = .bool false := by simpa [R9, val9] using dep 4 _ 43 rfl rfl (by kernel_rfl)
        have t4 := get_of_eval s4 (by intro h; cases h)
        exact step_val ho2 (wanted_guard (g := 4) (b := false) rfl rfl rfl s4) (by intro c h; cases h) (v := .pointer (some ⟨g1, off + k * 5, none⟩)) (by simp [execOp, go_sem, t6, t7, c3]) (by simp [R9, val9]) hC
      · have ho2 := ho
        simp at ho
        subst ho
        have s8 : A.eval (.tmp 47) = .pointer (some ⟨g1, off + k * 5, none⟩) := by simpa [R9, val9] using dep 8 _ 47 rfl rfl (by kernel_rfl)
        have t8 := get_of_eval s8 (by intro h; cases h)
        have s4 : A.eval (.tmp 43) = .bool false := by simpa [R9, val9] using dep 4 _ 43 rfl rfl (by kernel_rfl)
        have t4 := get_of_eval s4 (by intro h; cases h)
        exact step_val ho2 (wanted_guard (g := 4) (b := false) rfl rfl rfl s4) (by intro c h; cases h) (v := dAgg x.1) (by simp [execOp, go_sem, t8, dAgg, u0, u1, u2, u3, u4]) (by simp [R9, val9]) hC
      · have ho2 := ho
        simp at ho
        subst ho
        have s5 : A.eval (.tmp 44) = dAgg x.1 := by simpa [R9, val9] using dep 5 _ 44 rfl rfl (by kernel_rfl)
        have t5 := get_of_eval (v := .agg _) s5 (by intro h; cases h)
        have s9 : A.eval (.tmp 48) = dAgg x.1 := by simpa [R9, val9] using dep 9 _ 48 rfl rfl (by kernel_rfl)
        have t9 := get_of_eval (v := .agg _) s9 (by intro h; cases h)
        have s4 : A.eval (.tmp 43) = .bool false := by simpa [R9, val9] using dep 4 _ 43 rfl rfl (by kernel_rfl)
        have t4 := get_of_eval s4 (by intro h; cases h)
        exact step_val ho2 (wanted_guard (g := 4) (b := false) rfl rfl rfl s4) (by intro c h; cases h) (v := .bool false) (by simp [execOp, go_sem, t5, t9, dd]) (by simp [R9, val9]) hC
      · have ho2 := ho
        simp at ho
        subst ho
        have s4 : A.eval (.tmp 43) = .bool false := by simpa [R9, val9] using dep 4 _ 43 rfl rfl (by kernel_rfl)
        have t4 := get_of_eval s4 (by intro h; cases h)
        have s10 : A.eval (.tmp 49) = .bool false := by simpa [R9, val9] using dep 10 _ 49 rfl rfl (by kernel_rfl)
        have t10 := get_of_eval s10 (by intro h; cases h)
        exact step_val ho2 (wanted_free rfl) (by intro c h; cases h) (v := .bool false) (by simp [execOp, go_sem, t4, t10]) (by simp [R9, val9]) hC
      · have ho2 := ho
        simp at ho
        subst ho
        have s11 : A.eval (.tmp 50) = .bool false := by simpa [R9, val9] using dep 11 _ 50 rfl rfl (by kernel_rfl)
        have t11 := get_of_eval s11 (by intro h; cases h)
        exact step_val ho2 (wanted_free rfl) (by intro c h; cases h) (v := .bool false) (by simp [execOp, go_sem, t11]) (by simp [R9, val9]) hC
      · have ho2 := ho
        simp at ho
        subst ho
        have s12 : A.eval (.tmp 51) = .bool false := by simpa [R9, val9] using dep 12 _ 51 rfl rfl (by kernel_rfl)
        have t12 := get_of_eval s12 (by intro h; cases h)
        exact step_val ho2 (wanted_guard (g := 12) (b := false) rfl rfl rfl s12) (by intro c h; cases h) (v := .pointer (some ⟨sb, 0, none⟩)) (by simp [execOp, go_sem, y9, f2]) (by simp [R9, val9]) hC
      · have ho2 := ho
        simp at ho
        subst ho
        have s13 : A.eval (.tmp 52) = .pointer (some ⟨sb, 0, none⟩) := by simpa [R9, val9] using dep 13 _ 52 rfl rfl (by kernel_rfl)
        have t13 := get_of_eval s13 (by intro h; cases h)
        have s12 : A.eval (.tmp 51) = .bool false := by simpa [R9, val9] using dep 12 _ 51 rfl rfl (by kernel_rfl)
        have t12 := get_of_eval s12 (by intro h; cases h)
        refine step_call ho2 (wanted_guard (g := 12) (b := false) rfl rfl rfl s12) (by intro c h; cases h) (f := 89) (args := #[.pointer (some ⟨sb, 0, none⟩)]) (by simp [go_sem, t13]) ?_
        refine (script_found _ _ _ _ _ _ f5 (by rw [HFM.out]; omega)).mono ?_
        rintro e w2 ⟨ya, yc, yg, rfl, hR, _, _, hb⟩
        refine ⟨_, rfl, ?_, hC.trans (hb.mono hC.size), fun i u h => h.mono hb⟩
        obtain ⟨yb, yo, hya, hcells⟩ := row_cells hR (by rw [HFM.out]; omega)
        rw [HFM.out]
        show R9 _ _ _ _ _ _ _ _ _ _ _ _ _ _
        unfold R9
        rw [if_pos (by omega)]
        exact ⟨ya, yc, yb, yo, rfl, hya, hcells⟩
      · have ho2 := ho
        simp at ho
        subst ho
        obtain ⟨va, vc, bb, oo, s14, rfl, hcs⟩ : ∃ va vc b o, A.eval (.tmp 53) = .slice va M vc ∧ va = some ⟨b, o, none⟩ ∧ ∀ j (h : j < found.length), w'.cell? ⟨b, o + j, none⟩ = some (.int .u64 found[j]) := by simpa [R9] using dep 14 _ 53 rfl rfl (by kernel_rfl)
        have t14 := get_of_eval s14 (by intro h; cases h)
        have s12 : A.eval (.tmp 51) = .bool false := by simpa [R9, val9] using dep 12 _ 51 rfl rfl (by kernel_rfl)
        have t12 := get_of_eval s12 (by intro h; cases h)
        exact step_val ho2 (wanted_guard (g := 12) (b := false) rfl rfl rfl s12) (by intro c h; cases h) (v := .int .i64 M) (by simp [go_sem, t14]) (by simp [R9, val9]) hC
      · have ho2 := ho
        simp at ho
        subst ho
        have s12 : A.eval (.tmp 51) = .bool false := by simpa [R9, val9] using dep 12 _ 51 rfl rfl (by kernel_rfl)
        have t12 := get_of_eval s12 (by intro h; cases h)
        exact step_val ho2 (wanted_guard (g := 12) (b := false) rfl rfl rfl s12) (by intro c h; cases h) (v := .int .i64 k) (by simp [execOp, go_sem, y10, f0]) (by simp [R9, val9]) hC
      · have ho2 := ho
        simp at ho
        subst ho
        have s16 : A.eval (.tmp 55) = .int .i64 k := by simpa [R9, val9] using dep 16 _ 55 rfl rfl (by kernel_rfl)
        have t16 := get_of_eval s16 (by intro h; cases h)
        have s12 : A.eval (.tmp 51) = .bool false := by simpa [R9, val9] using dep 12 _ 51 rfl rfl (by kernel_rfl)
        have t12 := get_of_eval s12 (by intro h; cases h)
        exact step_val ho2 (wanted_guard (g := 12) (b := false) rfl rfl rfl s12) (by intro c h; cases h) (v := .int .i64 M) (by simp [execOp, go_sem, t16, c2, c6]) (by simp [R9, val9]) hC
      · have ho2 := ho
        simp at ho
        subst ho
        have s15 : A.eval (.tmp 54) = .int .i64 M := by simpa [R9, val9] using dep 15 _ 54 rfl rfl (by kernel_rfl)
        have t15 := get_of_eval s15 (by intro h; cases h)
        have s17 : A.eval (.tmp 56) = .int .i64 M := by simpa [R9, val9] using dep 17 _ 56 rfl rfl (by kernel_rfl)
        have t17 := get_of_eval s17 (by intro h; cases h)
        have s12 : A.eval (.tmp 51) = .bool false := by simpa [R9, val9] using dep 12 _ 51 rfl rfl (by kernel_rfl)
        have t12 := get_of_eval s12 (by intro h; cases h)
        exact step_val ho2 (wanted_guard (g := 12) (b := false) rfl rfl rfl s12) (by intro c h; cases h) (v := .bool false) (by simp [execOp, go_sem, t15, t17]) (by simp [R9, val9]) hC
      · have ho2 := ho
        simp at ho
        subst ho
        have s12 : A.eval (.tmp 51) = .bool false := by simpa [R9, val9] using dep 12 _ 51 rfl rfl (by kernel_rfl)
        have t12 := get_of_eval s12 (by intro h; cases h)
        have s18 : A.eval (.tmp 57) = .bool false := by simpa [R9, val9] using dep 18 _ 57 rfl rfl (by kernel_rfl)
        have t18 := get_of_eval s18 (by intro h; cases h)
        exact step_val ho2 (wanted_free rfl) (by intro c h; cases h) (v := .bool false) (by simp [execOp, go_sem, t12, t18]) (by simp [R9, val9]) hC
      · have ho2 := ho
        simp at ho
        subst ho
        have s19 : A.eval (.tmp 58) = .bool false := by simpa [R9, val9] using dep 19 _ 58 rfl rfl (by kernel_rfl)
        have t19 := get_of_eval s19 (by intro h; cases h)
        exact step_val ho2 (wanted_free rfl) (by intro c h; cases h) (v := .bool false) (by simp [execOp, go_sem, t19]) (by simp [R9, val9]) hC
      · have ho2 := ho
        simp at ho
        subst ho
        have s20 : A.eval (.tmp 59) = .bool false := by simpa [R9, val9] using dep 20 _ 59 rfl rfl (by kernel_rfl)
        have t20 := get_of_eval s20 (by intro h; cases h)
        exact step_val ho2 (wanted_guard (g := 20) (b := false) rfl rfl rfl s20) (by intro c h; cases h) (v := .pointer (some ⟨sb, 0, none⟩)) (by simp [execOp, go_sem, y9, f2]) (by simp [R9, val9]) hC
      · have ho2 := ho
        simp at ho
        subst ho
        have s21 : A.eval (.tmp 60) = .pointer (some ⟨sb, 0, none⟩) := by simpa [R9, val9] using dep 21 _ 60 rfl rfl (by kernel_rfl)
        have t21 := get_of_eval s21 (by intro h; cases h)
        have s20 : A.eval (.tmp 59) = .bool false := by simpa [R9, val9] using dep 20 _ 59 rfl rfl (by kernel_rfl)
        have t20 := get_of_eval s20 (by intro h; cases h)
        refine step_call ho2 (wanted_guard (g := 20) (b := false) rfl rfl rfl s20) (by intro c h; cases h) (f := 89) (args := #[.pointer (some ⟨sb, 0, none⟩)]) (by simp [go_sem, t21]) ?_
        refine (script_found _ _ _ _ _ _ f5 (by rw [HFM.out]; omega)).mono ?_
        rintro e w2 ⟨ya, yc, yg, rfl, hR, _, _, hb⟩
        refine ⟨_, rfl, ?_, hC.trans (hb.mono hC.size), fun i u h => h.mono hb⟩
        obtain ⟨yb, yo, hya, hcells⟩ := row_cells hR (by rw [HFM.out]; omega)
        rw [HFM.out]
        show R9 _ _ _ _ _ _ _ _ _ _ _ _ _ _
        unfold R9
        rw [if_pos (by omega)]
        exact ⟨ya, yc, yb, yo, rfl, hya, hcells⟩
      · have ho2 := ho
        simp at ho
        subst ho
        have s20 : A.eval (.tmp 59) = .bool false := by simpa [R9, val9] using dep 20 _ 59 rfl rfl (by kernel_rfl)
        have t20 := get_of_eval s20 (by intro h; cases h)
        exact step_val ho2 (wanted_guard (g := 20) (b := false) rfl rfl rfl s20) (by intro c h; cases h) (v := .int .i64 k) (by simp [execOp, go_sem, y10, f0]) (by simp [R9, val9]) hC
      · have ho2 := ho
        simp at ho
        subst ho
        obtain ⟨va, vc, bb, oo, s22, rfl, hcs⟩ : ∃ va vc b o, A.eval (.tmp 61) = .slice va M vc ∧ va = some ⟨b, o, none⟩ ∧ ∀ j (h : j < found.length), w'.cell? ⟨b, o + j, none⟩ = some (.int .u64 found[j]) := by simpa [R9] using dep 22 _ 61 rfl rfl (by kernel_rfl)
        have t22 := get_of_eval s22 (by intro h; cases h)
        have s23 : A.eval (.tmp 62) = .int .i64 k := by simpa [R9, val9] using dep 23 _ 62 rfl rfl (by kernel_rfl)
        have t23 := get_of_eval s23 (by intro h; cases h)
        have s20 : A.eval (.tmp 59) = .bool false := by simpa [R9, val9] using dep 20 _ 59 rfl rfl (by kernel_rfl)
        have t20 := get_of_eval s20 (by intro h; cases h)
        refine step_val ho2 (wanted_guard (g := 20) (b := false) rfl rfl rfl s20) (by intro c h; cases h) (v := .pointer (some ⟨bb, oo + k, none⟩)) (by simp [execOp, go_sem, t22, t23, c4]) ?_ hC
        have := hcs k (by rw [HFM.out]; omega)
        rw [HFX.out] at this
        unfold R9
        rw [if_neg (by omega), if_pos rfl]
        exact ⟨bb, oo + k, rfl, this⟩
      · have ho2 := ho
        simp at ho
        subst ho
        obtain ⟨bb, oo, s24, hcs⟩ : ∃ b o, A.eval (.tmp 63) = .pointer (some ⟨b, o, none⟩) ∧ w'.cell? ⟨b, o, none⟩ = some (.int .u64 x.2) := by simpa [R9] using dep 24 _ 63 rfl rfl (by kernel_rfl)
        have t24 := get_of_eval s24 (by intro h; cases h)
        have s20 : A.eval (.tmp 59) = .bool false := by simpa [R9, val9] using dep 20 _ 59 rfl rfl (by kernel_rfl)
        have t20 := get_of_eval s20 (by intro h; cases h)
        exact step_val ho2 (wanted_guard (g := 20) (b := false) rfl rfl rfl s20) (by intro c h; cases h) (v := .int .u64 x.2) (by simp [execOp, go_sem, t24, hcs]) (by simp [R9, val9]) hC
      · have ho2 := ho
        simp at ho
        subst ho
        have s20 : A.eval (.tmp 59) = .bool false := by simpa [R9, val9] using dep 20 _ 59 rfl rfl (by kernel_rfl)
        have t20 := get_of_eval s20 (by intro h; cases h)
        exact step_val ho2 (wanted_guard (g := 20) (b := false) rfl rfl rfl s20) (by intro c h; cases h) (v := .int .u64 x.2) (by simp [execOp, go_sem, y12]) (by simp [R9, val9]) hC
      · have ho2 := ho
        simp at ho
        subst ho
        have s25 : A.eval (.tmp 64) = .int .u64 x.2 := by simpa [R9, val9] using dep 25 _ 64 rfl rfl (by kernel_rfl)
        have t25 := get_of_eval s25 (by intro h; cases h)
        have s26 : A.eval (.tmp 65) = .int .u64 x.2 := by simpa [R9, val9] using dep 26 _ 65 rfl rfl (by kernel_rfl)
        have t26 := get_of_eval s26 (by intro h; cases h)
        have s20 : A.eval (.tmp 59) = .bool false := by simpa [R9, val9] using dep 20 _ 59 rfl rfl (by kernel_rfl)
        have t20 := get_of_eval s20 (by intro h; cases h)
        exact step_val ho2 (wanted_guard (g := 20) (b := false) rfl rfl rfl s20) (by intro c h; cases h) (v := .bool false) (by simp [execOp, go_sem, t25, t26]) (by simp [R9, val9]) hC
      · have ho2 := ho
        simp at ho
        subst ho
        have s20 : A.eval (.tmp 59) = .bool false := by simpa [R9, val9] using dep 20 _ 59 rfl rfl (by kernel_rfl)
        have t20 := get_of_eval s20 (by intro h; cases h)
        have s27 : A.eval (.tmp 66) = .bool false := by simpa [R9, val9] using dep 27 _ 66 rfl rfl (by kernel_rfl)
        have t27 := get_of_eval s27 (by intro h; cases h)
        exact step_val ho2 (wanted_free rfl) (by intro c h; cases h) (v := .bool false) (by simp [execOp, go_sem, t20, t27]) (by simp [R9, val9]) hC
      · exact absurd ho (by simp)
    case hfin =>
      intro vals w' hC hR
      have h28 : vals 28 = .bool false := by simpa [R9, val9] using hR 28 (by decide)
      have TI' := hI.below hC
      have KS' := Lib.hid (hK.below hC)
      have nB := TI'.fnx
      rw [hk] at nB
      have mB := TI'.fmb
      have HTI := Lib.hid TI'
      have HK1 := Lib.hid hk
      have HKO : Hid (KeepsOthers W w') := ⟨hC.size, fun q o hq _ => (hC.block q (Array.getElem?_eq_some_iff.1 hq).1).trans hq⟩
      have C1 := nB.cell
      have F1 := nB.frozen
      have C2 := mB.cell
      have nB2 := Lib.hid (nB.set 0 (.int .i64 (k + 1)))
      have hlr : r ≠ w3.heap.size + 1 := hI.nr.2.2.2.2.1
      have HLT := Lib.hid hlt
      clear hR hC FACTS hI hK TI' hk hlt
      generalize hfr : putAll vals _ 0 _ = fr
      have hfr2 : fr = { tmps := stepFrame2 a L c (some ⟨g1, off, none⟩) S sc most w.heap.size w3.heap.size cb sb (w3.heap.size + 1 + 1) (.pointer (some ⟨db, 0, none⟩)) (.int .u64 x.2) (dAgg x.1) (.int .u64 x.2) vals, defers := [] } := by
        rw [← hfr]
        kernel_rfl
      subst hfr2
      clear hfr
      dsimp only [stepFrame2, dAgg]
      simp only [h28]
      have hm2 : Mod (fun q => q = w3.heap.size + 1) w' (w'.setCell ⟨w3.heap.size + 1, 0, none⟩ (.int .i64 ((k : Int) + 1))) := Mod.one _ _ _ _
      have TI2 : Hid (TI w (some ⟨g1, off, none⟩) S sc most sb w3.heap.size (w3.heap.size + 1) (pre ++ [x]).length r (w'.setCell ⟨w3.heap.size + 1, 0, none⟩ (.int .i64 ((k : Int) + 1)))) := by
        have h := HTI.out
        refine ⟨hm2.blk h.fdb (by omega), hm2.blk h.fmb (by omega), hm2.blk h.frb (by omega), hm2.blk h.fsx (by omega), ?_, h.nr, h.mod.trans' (hm2.mono (fun q _ e => by omega))⟩
        rw [List.length_append, List.length_singleton, HK1.out]
        exact nB2.out
      have K2 : Hid (StepSt p ds ws (pre ++ [x]) r (w'.setCell ⟨w3.heap.size + 1, 0, none⟩ (.int .i64 ((k : Int) + 1)))) := KS'.out.mod hm2 (by omega) (by omega) (by omega) (by omega) (by omega) (by omega) (by omega)
      have KO2 := Lib.hid (HKO.out.trans (KeepsOthers.setCell w' ⟨w3.heap.size + 1, 0, none⟩ (.int .i64 ((k : Int) + 1))))
      have HL2 : Hid (((pre ++ [x]).length : Int) = (k : Int) + 1 ∧ (k = 0 ∨ (k : Int) < most)) := by
        refine ⟨by rw [List.length_append, List.length_singleton, HK1.out]; omega, ?_⟩
        have := HLT.out
        rwa [HK1.out] at this
      clear hm2 nB2 HKO HTI KS' HK1 HLT
      by_cases hmo : most ≤ (k : Int) + 1
      · gi_wp2_with fail
        obtain ⟨l1, l2⟩ := HL2.out
        exact ⟨KO2.out, rfl, by omega, by omega, by omega, TI2.out⟩
      · gi_wp2_with fail
        obtain ⟨l1, l2⟩ := HL2.out
        exact ⟨KO2.out, ⟨.inr (by omega), TI2.out⟩, K2.out⟩
  case done =>
    rintro D r W hD ⟨hlt, hI⟩ hK hDD
    have hlen : (playL ds ws).length = S := by rw [playL_length, HS.out]
    rw [hlen] at hI hlt
    have C1 := hI.fnx.cell
    have C2 := hI.fdb.cell
    have C3 := hI.fmb.cell
    have hmx : min (S : Int) (max most 1) = S := by omega
    have hmb : ((S : Int) == (S : Int)) = true := by simp
    have HTI := Lib.hid hI
    have rB := hI.frb
    have HD2 := Lib.hid hDD
    have hwD : w.heap.size ≤ D := by omega
    clear hI hK hlen hlt hDD
    gi_wp2_with fail
    all_goals
      refine ⟨trivial, (callsIn_wide.2 (HA.out _)).mono ?_⟩
      rintro e w6 ⟨rfl, hb6⟩
      have rB6 := rB.below' hb6
      have C6 := rB6.cell
      have F6 := rB6.frozen
      have FIN := Lib.hid (HTI.out.fin hb6 HD2.out hwD)
      clear rB6 hb6
      gi_wp2_with fail
      refine ⟨by simp, .inl ⟨_, _, rfl, run_takeDeferred FIN.out.1, ?_⟩⟩
      refine ⟨.bool true, ?_, rfl, FIN.out.2.2⟩
      simp [results, Try.f24, go_sem, FIN.out.2.1]
  case stop =>
    rintro D c pre r W hD hpre ⟨rfl, h1, h2, h3, hI⟩ hDD
    have hlen : pre.length ≤ S := by
      have := hpre.length_le
      rwa [playL_length, HS.out] at this
    obtain ⟨k, hk⟩ : ∃ k, pre.length = k := ⟨_, rfl⟩
    rw [hk] at h1 h2 h3 hI hlen
    have C1 := hI.fnx.cell
    have C2 := hI.fdb.cell
    have C3 := hI.fmb.cell
    have hmx : min (S : Int) (max most 1) = k := by omega
    have hmb : ((k : Int) == (k : Int)) = true := by simp
    have HTI := Lib.hid hI
    have rB := hI.frb
    have HD2 := Lib.hid hDD
    have hwD : w.heap.size ≤ D := by omega
    clear hI hDD h1 h2 h3 hlen hk hpre
    gi_wp2_with fail
    all_goals
      refine ⟨trivial, (callsIn_wide.2 (HA.out _)).mono ?_⟩
      rintro e w6 ⟨rfl, hb6⟩
      have rB6 := rB.below' hb6
      have C6 := rB6.cell
      have F6 := rB6.frozen
      have FIN := Lib.hid (HTI.out.fin hb6 HD2.out hwD)
      clear rB6 hb6
      gi_wp2_with fail
      refine ⟨by simp, .inl ⟨_, _, rfl, run_takeDeferred FIN.out.1, ?_⟩⟩
      refine ⟨.bool true, ?_, rfl, FIN.out.2.2⟩
      simp [results, Try.f24, go_sem, FIN.out.2.1]
end Go.Proofs.Ytgkobmmannkegaa
