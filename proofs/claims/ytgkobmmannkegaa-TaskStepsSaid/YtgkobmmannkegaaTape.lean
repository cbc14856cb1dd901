/-
  Deeds as plain data; the document's tape (sundialref11.Tape): its Do, Load, Store, Swap, as plain functions on what was handed in, the deeds so far, and whether it has stopped.
-/
import Derived.Test.YtgkobmmannkegaaProg
import Derived.Test.YtgkobmmannkegaaLib
namespace Go.Proofs.Ytgkobmmannkegaa
set_option linter.unusedVariables false
open Go Go.RowKit

theorem ret_bool {a b : Bool} (h : a = b) : Ending.returned (.bool a) = .returned (.bool b) := by rw [h]
structure D where
  k : Int
  at_ : Int
  a : Int
  b : Int
  by_ : Int
  deriving DecidableEq
def D.cells (d : D) : List Value := [.int .i64 d.k, .int .i64 d.at_, .int .u64 d.a, .int .u64 d.b, .int .u64 d.by_]
abbrev D.val (d : D) : Value := .agg #[.int .i64 d.k, .int .i64 d.at_, .int .u64 d.a, .int .u64 d.b, .int .u64 d.by_]
def dcells : List D → List Value
  | [] => []
  | d :: l => d.cells ++ dcells l
theorem dcells_append (l l' : List D) : dcells (l ++ l') = dcells l ++ dcells l' := by
  induction l with
  | nil => rfl
  | cons d l ih => simp [dcells, ih]
theorem dcells_length (l : List D) : (dcells l).length = l.length * 5 := by
  induction l with
  | nil => rfl
  | cons d l ih => simp only [dcells, List.length_append, ih, List.length_cons, D.cells, List.length_nil]; omega
theorem dcells_one (d : D) : dcells [d] = d.cells := by simp [dcells]
theorem dcells_get (l : List D) (j : Nat) (h : j < l.length) (i : Nat) (hi : i < 5) : (dcells l)[j * 5 + i]? = (l[j]).cells[i]? := by
  induction l generalizing j with
  | nil => simp at h
  | cons d l ih =>
    cases j with
    | zero =>
      simp only [dcells, Nat.zero_mul, Nat.zero_add, List.getElem_cons_zero]
      rw [List.getElem?_append_left (by simp [D.cells]; omega)]
    | succ j =>
      simp only [dcells, List.getElem_cons_succ]
      rw [List.getElem?_append_right (by simp [D.cells]; omega)]
      rw [show (j + 1) * 5 + i - d.cells.length = j * 5 + i from by simp [D.cells]; omega]
      exact ih j (by simpa using h)

theorem oneCell_dcells (l : List D) : ∀ u ∈ dcells l, u.oneCell' = true := by
  induction l with
  | nil => intro u hu; cases hu
  | cons d l ih =>
    intro u hu
    simp only [dcells, List.mem_append, D.cells] at hu
    rcases hu with hu | hu
    · simp only [List.mem_cons, List.not_mem_nil, or_false] at hu
      rcases hu with rfl | rfl | rfl | rfl | rfl <;> rfl
    · exact ih u hu

theorem und31 : Try.prog.underlying 31 = some (.struct (Try.prog.fieldsOf 31)) := by kernel_rfl
theorem stood31 : Try.prog.stoodInHeld 31 = false := by kernel_rfl
@[go_sem] theorem eqg31 : Try.prog.eqGuardType Try.prog.depth 31 = false := by kernel_rfl
def deedEq (k at_ a b by_ k' at' a' b' by' : Int) : Bool := k == k' && (at_ == at' && (a == a' && (b == b' && by_ == by')))
theorem D.beq (x y : D) : deedEq x.k x.at_ x.a x.b x.by_ y.k y.at_ y.a y.b y.by_ = decide (x = y) := by
  cases x; cases y
  rw [Bool.eq_iff_iff]
  simp [deedEq]
theorem eqIn_deed (k at_ a b by_ k' at' a' b' by' : Int) (w : World) :
    (Op.equalIn 10000 31 (.agg #[.int .i64 k, .int .i64 at_, .int .u64 a, .int .u64 b, .int .u64 by_]) (.agg #[.int .i64 k', .int .i64 at', .int .u64 a', .int .u64 b', .int .u64 by'])).run Try.prog w = .ok (deedEq k at_ a b by_ k' at' a' b' by') w := by
  rw [run_equalIn_struct w 9999 31 _ _ und31 stood31, deedEq]
  simp only [Program.fieldsOf, Try.underlying31]
  simp [Op.eqFields, go_sem]
  (repeat' split) <;> simp_all

@[go_sem ↓] theorem run_eql_deed (k at_ a b by_ k' at' a' b' by' : Int) (w : World) :
    (binOp .eql 31 (.agg #[.int .i64 k, .int .i64 at_, .int .u64 a, .int .u64 b, .int .u64 by_]) (.agg #[.int .i64 k', .int .i64 at', .int .u64 a', .int .u64 b', .int .u64 by'])).run Try.prog w = .ok (.bool (deedEq k at_ a b by_ k' at' a' b' by')) w := by
  rw [run_eql_struct, eqIn_deed]; rfl
@[go_sem ↓] theorem run_neq_deed (k at_ a b by_ k' at' a' b' by' : Int) (w : World) :
    (binOp .neq 31 (.agg #[.int .i64 k, .int .i64 at_, .int .u64 a, .int .u64 b, .int .u64 by_]) (.agg #[.int .i64 k', .int .i64 at', .int .u64 a', .int .u64 b', .int .u64 by'])).run Try.prog w = .ok (.bool (!deedEq k at_ a b by_ k' at' a' b' by')) w := by
  rw [run_neq_struct, eqIn_deed]; rfl

/-- A slice of numbers (uint64) that reads so; its cells lie below block hi. -/
structure U64s (w : World) (hi : Nat) (v : Value) (ins : List Int) : Prop where
  ex : ∃ (a : Option Addr) (cap : Nat), v = .slice a ins.length cap ∧ (0 < ins.length → ∃ b off, a = some ⟨b, off, none⟩ ∧ b < hi ∧ ∀ j (h : j < ins.length), w.cell? ⟨b, off + j, none⟩ = some (.int .u64 ins[j]))
theorem U64s.mod {w w' : World} {hi : Nat} {v : Value} {ins : List Int} {S : Nat → Prop} (h : U64s w hi v ins) (hm : Mod S w w') (hS : ∀ k, k < hi → ¬ S k) : U64s w' hi v ins := by
  obtain ⟨a, cap, hv, hc⟩ := h.ex
  refine ⟨a, cap, hv, fun h0 => ?_⟩
  obtain ⟨b, off, ha, hb, hcs⟩ := hc h0
  refine ⟨b, off, ha, hb, fun j hj => ?_⟩
  rw [← hcs j hj]
  exact hm.cell (a := ⟨b, off + j, none⟩) (World.block_lt_of_cell? w _ (hcs j hj)) (hS b hb)
theorem U64s.below {w w' : World} {hi : Nat} {v : Value} {ins : List Int} (h : U64s w hi v ins) (hm : Below w.heap.size w w') : U64s w' hi v ins := h.mod (Mod.of_below (S := fun _ => False) hm) (fun _ _ => id)
theorem U64s.mono {w : World} {hi hi' : Nat} {v : Value} {ins : List Int} (h : U64s w hi v ins) (hh : hi ≤ hi') : U64s w hi' v ins := by
  obtain ⟨a, cap, hv, hc⟩ := h.ex
  exact ⟨a, cap, hv, fun h0 => let ⟨b, off, ha, hb, hcs⟩ := hc h0; ⟨b, off, ha, Nat.lt_of_lt_of_le hb hh, hcs⟩⟩

/-- A list of deeds in memory of the call's own, from block lo on. -/
abbrev Deeds (w : World) (lo : Nat) (v : Value) (ds : List D) : Prop := w.ownsRow lo 31 5 v ds.length (dcells ds)
theorem ownsRow_mod {w w' : World} {lo : Nat} {e : TypeId} {size : Nat} {v : Value} {n : Nat} {xs : List Value} {S : Nat → Prop} (h : w.ownsRow lo e size v n xs) (hm : Mod S w w') (hS : ∀ k, lo ≤ k → ¬ S k) : w'.ownsRow lo e size v n xs := by
  refine ⟨h.1, ?_⟩
  rcases h.2 with hn | ⟨g, cap, cur, hv, hg, hgg, rest⟩
  · exact .inl hn
  · exact .inr ⟨g, cap, cur, hv, hg, by rw [hm.block g (Array.getElem?_eq_some_iff.1 hgg).1 (hS g hg)]; exact hgg, rest⟩

/-- An element's cells, in the world. -/
theorem deeds_cell {w : World} {lo : Nat} {g c n : Nat} {ds : List D} (h : Deeds w lo (.slice (some ⟨g, 0, none⟩) n c) ds) (j : Nat) (hj : j < ds.length) (i : Nat) (hi : i < 5) : w.cell? ⟨g, j * 5 + i, none⟩ = (ds[j]).cells[i]? := by
  have h1 := World.ownsRow.cells h (g := g) rfl (j * 5 + i)
  have h2 := dcells_get ds j hj i hi
  have h3 : (ds[j]).cells[i]? = some ((ds[j]).cells[i]'(by simp [D.cells]; omega)) := List.getElem?_eq_getElem _
  rw [h3] at h2 ⊢
  have := h1 _ h2
  rwa [Addr.add_lit, Nat.zero_add] at this
/-- The five cells of an element, in a later world. -/
theorem deeds_five {w wr : World} {lo : Nat} {g c n : Nat} {ds : List D} (h : Deeds w lo (.slice (some ⟨g, 0, none⟩) n c) ds) (hb : Below w.heap.size w wr) (j : Nat) (hj : j < ds.length) :
    wr.cell? ⟨g, j * 5, none⟩ = some (.int .i64 (ds[j]).k) ∧ wr.cell? ⟨g, j * 5 + 1, none⟩ = some (.int .i64 (ds[j]).at_) ∧ wr.cell? ⟨g, j * 5 + 2, none⟩ = some (.int .u64 (ds[j]).a) ∧
    wr.cell? ⟨g, j * 5 + 3, none⟩ = some (.int .u64 (ds[j]).b) ∧ wr.cell? ⟨g, j * 5 + 4, none⟩ = some (.int .u64 (ds[j]).by_) := by
  have hg : g < w.heap.size := (World.ownsRow.lt h g rfl).2
  have hc := fun i hi => (hb.cell (p := ⟨g, j * 5 + i, none⟩) hg).trans (deeds_cell h j hj i hi)
  exact ⟨hc 0 (by omega), hc 1 (by omega), hc 2 (by omega), hc 3 (by omega), hc 4 (by omega)⟩
theorem deeds_some {w : World} {lo : Nat} {v : Value} {ds : List D} (h : Deeds w lo v ds) (h0 : 0 < ds.length) : ∃ g c, v = .slice (some ⟨g, 0, none⟩) ds.length c := by
  rcases h.2 with ⟨_, hn⟩ | ⟨g, cap, cur, hv, _⟩
  · omega
  · exact ⟨g, cap, hv⟩
set_option maxHeartbeats 1000000 in
theorem same_calls (w : World) (lo1 lo2 : Nat) (v1 v2 : Value) (d1 d2 : List D) (h1 : Deeds w lo1 v1 d1) (h2 : Deeds w lo2 v2 d2) (hn : d1.length ≤ 65000) (hn2 : d2.length ≤ 65000) :
    Calls Try.prog 37 #[v1, v2] w fun e w' => e = .returned (.bool (decide (d1 = d2))) ∧ Below w.heap.size w w' := by
  obtain ⟨a1, c1, rfl⟩ := owns_shape h1
  obtain ⟨a2, c2, rfl⟩ := owns_shape h2
  have H1 := Lib.hid h1
  have H2 := Lib.hid h2
  clear h1 h2
  by_cases hl : d1.length = d2.length
  · by_cases h0 : 0 < d1.length
    · obtain ⟨g1, c1', e1⟩ := deeds_some H1.out h0
      obtain ⟨g2, c2', e2⟩ := deeds_some H2.out (by omega)
      cases e1
      cases e2
      have hne : ((d1.length : Int) != (d2.length : Int)) = false := by simp [hl]
      have HL := Lib.hid hl
      clear hl
      go_enter Try.func37, Try.ntmps37
      go_wp2_with fail
      go_loopw [5] (fun i wr => ∃ k : Nat, k ≤ d1.length ∧ i = .int .i64 k ∧ Hid (∀ j (hj : j < k) (h1 : j < d1.length) (h2 : j < d2.length), d1[j] = d2[j]) ∧ Below w.heap.size w wr) (fun i _ => d1.length - (intOf i).toNat)
      case atStart => exact ⟨0, by omega, rfl, fun j hj => by omega, Below.refl _ _⟩
      case round =>
        obtain ⟨k, hk, rfl, hs, hb⟩ := hrel
        by_cases hlt : k < d1.length
        · have hlt2 : k < d2.length := by have := HL.out; omega
          obtain ⟨p0, p1, p2, p3, p4⟩ := deeds_five H1.out hb k hlt
          obtain ⟨q0, q1, q2, q3, q4⟩ := deeds_five H2.out hb k hlt2
          by_cases e : d1[k] = d2[k]
          · have hd : deedEq (d1[k]).k (d1[k]).at_ (d1[k]).a (d1[k]).b (d1[k]).by_ (d2[k]).k (d2[k]).at_ (d2[k]).a (d2[k]).b (d2[k]).by_ = true := by rw [D.beq]; simpa using e
            have E := Lib.hid e
            clear e
            generalize hx : d1[k] = x at *
            generalize hy : d2[k] = y at *
            have HX := Lib.hid hx
            have HY := Lib.hid hy
            clear hx hy
            go_wp2_with fail
            refine wp_region_reads (by kernel_rfl) (by kernel_rfl) ?_
            repeat (quiet_step (fail))
            refine wpQuiet_nil ?_
            intro w1 hb1
            go_wp2_with fail
            go_roundw
            case rel =>
              refine ⟨k + 1, by omega, by go_num, ?_, hb.trans (hb1.mono hb.size)⟩
              intro j hj j1 j2
              by_cases hjk : j < k
              · exact hs.out j hjk j1 j2
              · obtain rfl : j = k := by omega
                rw [HX.out, HY.out, E.out]
            case measure => simp [intOf]; omega
          · have hd : deedEq (d1[k]).k (d1[k]).at_ (d1[k]).a (d1[k]).b (d1[k]).by_ (d2[k]).k (d2[k]).at_ (d2[k]).a (d2[k]).b (d2[k]).by_ = false := by rw [D.beq]; simpa using e
            have E : Hid (d1 ≠ d2) := by intro h; subst h; exact e rfl
            clear e
            generalize hx : d1[k] = x at *
            generalize hy : d2[k] = y at *
            clear hx hy
            go_wp2_with fail
            refine wp_region_reads (by kernel_rfl) (by kernel_rfl) ?_
            repeat (quiet_step (fail))
            refine wpQuiet_nil ?_
            intro w1 hb1
            go_wp2_with fail
            go_ret
            exact ⟨ret_bool (decide_eq_false E.out).symm, hb.trans (hb1.mono hb.size)⟩
        · have E : Hid (d1 = d2) := by
            refine List.ext_getElem HL.out (fun j j1 j2 => hs.out j (by omega) j1 j2)
          go_wp2_with fail
          go_ret
          exact ⟨ret_bool (decide_eq_true E.out).symm, hb⟩
    · obtain rfl : d1 = [] := List.eq_nil_of_length_eq_zero (by omega)
      obtain rfl : d2 = [] := List.eq_nil_of_length_eq_zero (by simpa using hl.symm)
      go_enter Try.func37, Try.ntmps37
      go_wp2_with fail
      go_loopw [5] (fun i wr => i = .int .i64 0 ∧ Below w.heap.size w wr) (fun i _ => 0)
      case atStart => exact ⟨rfl, Below.refl _ _⟩
      case round =>
        obtain ⟨rfl, hb⟩ := hrel
        go_wp2_with fail
        go_ret
        exact ⟨ret_bool (by simp), hb⟩
  · have hne : ((d1.length : Int) != (d2.length : Int)) = true := by simpa using (fun h => hl (by omega))
    have E : Hid (d1 ≠ d2) := by intro h; exact hl (by rw [h])
    go_enter Try.func37, Try.ntmps37
    go_wp2_with fail
    go_ret
    exact ⟨ret_bool (decide_eq_false E.out).symm, Below.refl _ _⟩

theorem same_true (w : World) (lo1 lo2 : Nat) (v1 v2 : Value) (ds : List D) (h1 : Deeds w lo1 v1 ds) (h2 : Deeds w lo2 v2 ds) (hn : ds.length ≤ 65000) :
    Calls Try.prog 37 #[v1, v2] w fun e w' => e = .returned (.bool true) ∧ Below w.heap.size w w' := by
  have h := same_calls w lo1 lo2 v1 v2 ds ds h1 h2 hn hn
  rwa [decide_eq_true rfl] at h
theorem deeds_below {w w' : World} {lo : Nat} {v : Value} {ds : List D} (h : Deeds w lo v ds) (hb : Below w.heap.size w w') : Deeds w' lo v ds := ownsRow_mod h (Mod.of_below (S := fun _ => False) hb) (fun _ _ => id)

/-! ### The tape -/
structure TapeS where
  out : List D
  stop : Bool
/-- (*sundialref11.Tape).Do, as a plain function. -/
def tdo (ins : List Int) (s : TapeS) (d : D) : Int × TapeS :=
  if s.stop then (0, s)
  else if s.out.length < ins.length then (ins.getD s.out.length 0, ⟨s.out ++ [d], false⟩)
  else (0, ⟨s.out ++ [d], true⟩)

/-- A tape in memory: its block x, its list of deeds from block lo on. -/
def TapeAt (w : World) (x lo : Nat) (inV : Value) (s : TapeS) : Prop := x < lo ∧ lo ≤ w.heap.size ∧ ∃ v, Blk w x [inV, v, .bool s.stop] 37 ∧ Deeds w lo v s.out
/-- What may turn when a tape is used. -/
def TapeMod (x lo : Nat) (k : Nat) : Prop := k = x ∨ lo ≤ k

theorem info31 : (Try.prog.info? 31).map (fun i => (i.zero, i.size, i.bytes)) = some (some (.agg #[.int .i64 0, .int .i64 0, .int .u64 0, .int .u64 0, .int .u64 0]), 5, 40) := by kernel_rfl

theorem append_deed {w : World} {ops : Array Oper} {rest : List Oper} {o : Oper} {a : Act} {Q : Exit → Act → World → Prop} (hgd : o.guard = none) (s x : Operand)
    (ho : o.op = .call { callee := .builtin .append, args := #[s, x], argTypes := #[29, 29] }) (lo : Nat) (v : Value) (ds : List D) (hs : a.eval s = v) (hD : Deeds w lo v ds) (d : D)
    (B : Nat) (hx : a.eval x = .slice (some ⟨B, 0, none⟩) 1 1) (hB : Blk w B d.cells 31) (hn : ds.length ≤ 65000) (hlo : lo ≤ w.heap.size)
    (h : ∀ va vc w', Deeds w' lo (.slice va (ds.length + 1) vc) (ds ++ [d]) → w.grownBy w' v.ownBlock → wpList Try.prog ops Q rest (a.put o.dst (.slice va (ds.length + 1) vc)) w') : wpList Try.prog ops Q (o :: rest) a w := by
  refine append_one hgd s x 29 ho lo 31 _ 5 40 Try.underlying29 info31 rfl (by decide) v ds.length (dcells ds) hs hD B 31 d.cells hx hB rfl ?_ hn (by omega) hlo (fun va vc w' h2 h3 => h va vc w' ?_ h3)
  · have := oneCell_dcells [d]
    rwa [dcells_one] at this
  · unfold Deeds
    rw [dcells_append, dcells_one, List.length_append]
    exact h2

theorem TapeAt.below {w w' : World} {x lo : Nat} {inV : Value} {s : TapeS} (h : TapeAt w x lo inV s) (hb : Below w.heap.size w w') : TapeAt w' x lo inV s := by
  obtain ⟨h1, h2, v, hB, hD⟩ := h
  exact ⟨h1, Nat.le_trans h2 hb.size, v, hB.below' hb, ownsRow_mod hD (Mod.of_below (S := fun _ => False) hb) (fun _ _ => id)⟩

theorem ret_u64 {a b : Int} (h : a = b) : Ending.returned (.int .u64 a) = .returned (.int .u64 b) := by rw [h]

set_option maxHeartbeats 1000000 in
set_option maxRecDepth 100000 in
theorem tape_do (x lo : Nat) (inV : Value) (ins : List Int) (s : TapeS) (d : D) (w : World) (hT : TapeAt w x lo inV s) (hI : U64s w x inV ins)
    (hn : s.out.length ≤ 4096) (hin : ins.length ≤ 4096) :
    Calls Try.prog 146 #[.pointer (some ⟨x, 0, none⟩), .int .i64 d.k, .int .i64 d.at_, .int .u64 d.a, .int .u64 d.b, .int .u64 d.by_] w fun e w' =>
      e = .returned (.int .u64 (tdo ins s d).1) ∧ TapeAt w' x lo inV (tdo ins s d).2 ∧ Mod (TapeMod x lo) w w' := by
  obtain ⟨out, stop⟩ := s
  obtain ⟨h1, h2, v, hB, hD0⟩ := hT
  have hD : Hid (Deeds w lo v out) := hD0
  have hI' : Hid (U64s w x inV ins) := hI
  clear hD0 hI
  cases stop with
  | true =>
    have C := hB.cell
    go_enter Try.func146, Try.ntmps146
    go_wp2_with fail
    go_ret
    refine ⟨ret_u64 (by simp [tdo]), ⟨h1, h2, v, ?_, ?_⟩, Mod.refl _ _⟩
    · simpa [tdo] using hB
    · simpa [tdo] using hD.out
  | false =>
    obtain ⟨va, vc, rfl⟩ := owns_shape hD.out
    obtain ⟨ia, ic, rfl, hic⟩ := hI'.out.ex
    have HC := Lib.hid hic
    clear hic
    have C := hB.cell
    have F := hB.frozen
    go_enter Try.func146, Try.ntmps146
    go_wp2_with (at_builtin; refine append_deed rfl (.tmp 27) (.tmp 34) rfl lo _ out rfl (World.ownsRow.alloc hD.out _) d w.heap.size rfl (Blk.new _ _ _) ?c1 ?c2 ?_)
    case c1 => omega
    case c2 => omega
    intro va' vc' w1 hD' hg
    have hD1 := Lib.hid hD'
    have hge := own_ge (World.ownsRow.alloc hD.out (.cells #[.int .i64 d.k, .int .i64 d.at_, .int .u64 d.a, .int .u64 d.b, .int .u64 d.by_] 31))
    have M1 : Mod (TapeMod x lo) w w1 := ((Mod.refl _ _).alloc _).grown hg (fun k hk _ => .inr (hge k hk))
    have B1 := grown_blk hg (hB.alloc _) (fun k hk => by have := hge k hk; omega)
    clear hD' hg hge C F
    have C1 := B1.cell
    have F1 := B1.frozen
    have B2 := B1.set 1 (.slice va' (out.length + 1) vc')
    have D2 := Lib.hid (ownsRow_mod hD1.out (Mod.one _ x 1 (.slice va' (out.length + 1) vc')) (fun k hk hs => by omega))
    have M2 := M1.setCell (a := ⟨x, 1, none⟩) (fun _ => .inl rfl) (.slice va' (out.length + 1) vc')
    have s1 := M1.size
    by_cases hlt : out.length < ins.length
    · obtain ⟨b, off, rfl, hb, hcs⟩ := HC.out (by omega)
      have hbx : b ≠ x := Nat.ne_of_lt hb
      have hc := hcs _ hlt
      have hcell : (w1.setCell ⟨x, 1, none⟩ (.slice va' (out.length + 1) vc')).cell? ⟨b, off + out.length, none⟩ = some (.int .u64 (ins.getD out.length 0)) := by
        rw [World.cell?_setCell_other _ _ _ _ (fun e => hbx (congrArg Addr.block e).symm), M1.cell (World.block_lt_of_cell? w _ hc) (by rintro (h | h); exact hbx h; exact absurd (Nat.lt_trans hb h1) (Nat.not_lt.2 h)), hc]
        simp [List.getD, hlt]
      clear hcs hc
      go_wp2_with fail
      go_ret
      have e : tdo ins ⟨out, false⟩ d = (ins.getD out.length 0, ⟨out ++ [d], false⟩) := by simp [tdo, hlt]
      rw [e]
      exact ⟨ret_u64 (by simp [List.getD, hlt]), ⟨h1, Nat.le_trans h2 (Nat.le_trans s1 (by simp)), _, B2, D2.out⟩, M2⟩
    · have C2 := B2.cell
      have F2 := B2.frozen
      go_wp2_with fail
      go_ret
      have e : tdo ins ⟨out, false⟩ d = (0, ⟨out ++ [d], true⟩) := by simp [tdo, hlt]
      rw [e]
      exact ⟨rfl, ⟨h1, Nat.le_trans h2 (Nat.le_trans s1 (by simp)), .slice va' (out.length + 1) vc', B2.set 2 (.bool true), ownsRow_mod D2.out (Mod.one _ x 2 (.bool true)) (fun k hk hs => by omega)⟩, M2.setCell (a := ⟨x, 2, none⟩) (fun _ => .inl rfl) _⟩

theorem tdo_len (ins : List Int) (s : TapeS) (d : D) : (tdo ins s d).2.out.length ≤ s.out.length + 1 := by
  unfold tdo
  split
  · simp
  · split <;> simp

/-- What a call on the tape comes to: its value, the tape behind it. -/
abbrev TapeCalls (f : FuncId) (args : Array Value) (w : World) (x lo : Nat) (inV : Value) (v : Value) (s' : TapeS) : Prop :=
  Calls Try.prog f args w fun e w' => e = .returned v ∧ TapeAt w' x lo inV s' ∧ Mod (TapeMod x lo) w w'
/-- A tape, what it reads, and that all is small. -/
structure TapeIn (w : World) (x lo : Nat) (inV : Value) (ins : List Int) (s : TapeS) : Prop where
  tape : TapeAt w x lo inV s
  reads : U64s w x inV ins
  few : s.out.length ≤ 4096
  short : ins.length ≤ 4096
theorem TapeIn.step {w w' : World} {x lo : Nat} {inV : Value} {ins : List Int} {s s' : TapeS} (h : TapeIn w x lo inV ins s) (ht : TapeAt w' x lo inV s') (hm : Mod (TapeMod x lo) w w') (hn : s'.out.length ≤ 4096) : TapeIn w' x lo inV ins s' := by
  refine ⟨ht, h.reads.mod hm (fun k hk hf => ?_), hn, h.short⟩
  have := ht.1
  rcases hf with rfl | hf
  · omega
  · omega

section
variable {x lo : Nat} {inV : Value} {ins : List Int} {s : TapeS} {w : World}
theorem tape_do' (h : TapeIn w x lo inV ins s) (k at_ a b by_ : Int) :
    TapeCalls 146 #[.pointer (some ⟨x, 0, none⟩), .int .i64 k, .int .i64 at_, .int .u64 a, .int .u64 b, .int .u64 by_] w x lo inV (.int .u64 (tdo ins s ⟨k, at_, a, b, by_⟩).1) (tdo ins s ⟨k, at_, a, b, by_⟩).2 :=
  tape_do x lo inV ins s ⟨k, at_, a, b, by_⟩ w h.tape h.reads h.few h.short
theorem tape_load (h : TapeIn w x lo inV ins s) (at_ by_ : Int) :
    TapeCalls 145 #[.pointer (some ⟨x, 0, none⟩), .int .i64 at_, .int .u64 by_] w x lo inV (.int .u64 (tdo ins s ⟨1, at_, 0, 0, by_⟩).1) (tdo ins s ⟨1, at_, 0, 0, by_⟩).2 := by
  go_enter Try.func145, Try.ntmps145
  go_wp2_with fail
  refine (tape_do' h _ _ _ _ _).mono ?_
  rintro e w1 ⟨rfl, hq⟩
  have Q := Lib.hid hq
  clear hq
  go_wp2_with fail
  go_ret
  exact ⟨rfl, Q.out⟩
theorem tape_store (h : TapeIn w x lo inV ins s) (at_ v by_ : Int) :
    TapeCalls 155 #[.pointer (some ⟨x, 0, none⟩), .int .i64 at_, .int .u64 v, .int .u64 by_] w x lo inV (.tuple #[]) (tdo ins s ⟨2, at_, v, 0, by_⟩).2 := by
  go_enter Try.func155, Try.ntmps155
  go_wp2_with fail
  refine (tape_do' h _ _ _ _ _).mono ?_
  rintro e w1 ⟨rfl, hq⟩
  have Q := Lib.hid hq
  clear hq
  go_wp2_with fail
  go_end0
  exact ⟨rfl, Q.out⟩
def tswap (ins : List Int) (s : TapeS) (at_ old v by_ : Int) : Bool := (tdo ins s ⟨3, at_, old, v, by_⟩).1 == old && !(tdo ins s ⟨3, at_, old, v, by_⟩).2.stop
theorem tape_swap (h : TapeIn w x lo inV ins s) (at_ old v by_ : Int) :
    TapeCalls 156 #[.pointer (some ⟨x, 0, none⟩), .int .i64 at_, .int .u64 old, .int .u64 v, .int .u64 by_] w x lo inV (.bool (tswap ins s at_ old v by_)) (tdo ins s ⟨3, at_, old, v, by_⟩).2 := by
  by_cases he : (tdo ins s ⟨3, at_, old, v, by_⟩).1 = old
  · have hb : ((tdo ins s ⟨3, at_, old, v, by_⟩).1 == old) = true := by simpa using he
    have HB := Lib.hid hb
    go_enter Try.func156, Try.ntmps156
    go_wp2_with fail
    refine (tape_do' h _ _ _ _ _).mono ?_
    rintro e w1 ⟨rfl, hq⟩
    have Q := Lib.hid hq
    obtain ⟨⟨_, _, va, hB, _⟩, _⟩ := hq
    have C1 := hB.cell
    generalize hst : (tdo ins s ⟨3, at_, old, v, by_⟩).2.stop = st at *
    have HST := Lib.hid hst
    clear hB hst he
    go_wp2_with fail
    go_ret
    refine ⟨?_, Q.out⟩
    unfold tswap
    rw [HB.out, HST.out]
    simp
  · have hb : ((tdo ins s ⟨3, at_, old, v, by_⟩).1 == old) = false := by simpa using he
    have HB := Lib.hid hb
    go_enter Try.func156, Try.ntmps156
    go_wp2_with fail
    refine (tape_do' h _ _ _ _ _).mono ?_
    rintro e w1 ⟨rfl, hq⟩
    have Q := Lib.hid hq
    clear hq
    go_wp2_with fail
    go_ret
    refine ⟨?_, Q.out⟩
    unfold tswap
    rw [HB.out]
    simp
end

section
variable {x lo : Nat} {inV : Value} {ins : List Int} {s : TapeS} {w : World}
theorem tape_do_eq (h : TapeIn w x lo inV ins s) {k at_ a b by_ v : Int} {s' : TapeS} (he : tdo ins s ⟨k, at_, a, b, by_⟩ = (v, s')) :
    TapeCalls 146 #[.pointer (some ⟨x, 0, none⟩), .int .i64 k, .int .i64 at_, .int .u64 a, .int .u64 b, .int .u64 by_] w x lo inV (.int .u64 v) s' := by
  have := tape_do' h k at_ a b by_
  rw [he] at this; exact this
theorem tape_load_eq (h : TapeIn w x lo inV ins s) {at_ by_ v : Int} {s' : TapeS} (he : tdo ins s ⟨1, at_, 0, 0, by_⟩ = (v, s')) :
    TapeCalls 145 #[.pointer (some ⟨x, 0, none⟩), .int .i64 at_, .int .u64 by_] w x lo inV (.int .u64 v) s' := by
  have := tape_load h at_ by_
  rw [he] at this; exact this
theorem tape_store_eq (h : TapeIn w x lo inV ins s) {at_ a by_ v : Int} {s' : TapeS} (he : tdo ins s ⟨2, at_, a, 0, by_⟩ = (v, s')) :
    TapeCalls 155 #[.pointer (some ⟨x, 0, none⟩), .int .i64 at_, .int .u64 a, .int .u64 by_] w x lo inV (.tuple #[]) s' := by
  have := tape_store h at_ a by_
  rw [he] at this; exact this
theorem tape_swap_eq (h : TapeIn w x lo inV ins s) {at_ old a by_ v : Int} {s' : TapeS} (he : tdo ins s ⟨3, at_, old, a, by_⟩ = (v, s')) :
    TapeCalls 156 #[.pointer (some ⟨x, 0, none⟩), .int .i64 at_, .int .u64 old, .int .u64 a, .int .u64 by_] w x lo inV (.bool (v == old && !s'.stop)) s' := by
  have := tape_swap h at_ old a by_
  unfold tswap at this
  rw [he] at this; exact this
end

/-- A tape of which nothing has been asked yet. -/
structure FreshTape (w : World) (x : Nat) (inV : Value) (ins : List Int) : Prop where
  blk : Blk w x [inV, .slice none 0 0, .bool false] 37
  reads : U64s w x inV ins
  short : ins.length ≤ 4096
theorem FreshTape.alloc {w : World} {x : Nat} {inV : Value} {ins : List Int} (h : FreshTape w x inV ins) (o : Obj) : FreshTape (w.alloc o) x inV ins :=
  ⟨h.blk.alloc o, h.reads.below ((Below.refl _ _).alloc (Nat.le_refl _) _), h.short⟩
theorem FreshTape.below {w w' : World} {x : Nat} {inV : Value} {ins : List Int} (h : FreshTape w x inV ins) (hb : Below w.heap.size w w') : FreshTape w' x inV ins :=
  ⟨h.blk.below' hb, h.reads.below hb, h.short⟩
theorem FreshTape.tape {w : World} {x : Nat} {inV : Value} {ins : List Int} (h : FreshTape w x inV ins) : TapeIn w x w.heap.size inV ins ⟨[], false⟩ :=
  ⟨⟨h.blk.lt, Nat.le_refl _, .slice none 0 0, h.blk, World.ownsRow_nil _ _ _ _⟩, h.reads, by simp, h.short⟩
theorem ownsRow_lower {w : World} {lo lo' : Nat} {e : TypeId} {size : Nat} {v : Value} {n : Nat} {xs : List Value} (h : w.ownsRow lo e size v n xs) (hl : lo' ≤ lo) : w.ownsRow lo' e size v n xs := by
  refine ⟨h.1, ?_⟩
  rcases h.2 with hn | ⟨g, cap, cur, hv, hg, rest⟩
  · exact .inl hn
  · exact .inr ⟨g, cap, cur, hv, Nat.le_trans hl hg, rest⟩
theorem TapeAt.lower {w : World} {x lo lo' : Nat} {inV : Value} {s : TapeS} (h : TapeAt w x lo inV s) (hl : lo' ≤ lo) (hx : x < lo') : TapeAt w x lo' inV s := by
  obtain ⟨h1, h2, v, hB, hD⟩ := h
  exact ⟨hx, Nat.le_trans hl h2, v, hB, ownsRow_lower hD hl⟩
theorem TapeMod.lower {w w1 w' : World} {x lo lo' : Nat} (h : Mod (TapeMod x lo) w1 w') (h0 : Mod (fun _ => False) w w1) (hl : lo' ≤ lo) : Mod (TapeMod x lo') w w' :=
  (h0.mono (fun _ _ => False.elim)).trans h (fun k _ hk => hk.imp id (Nat.le_trans hl))
end Go.Proofs.Ytgkobmmannkegaa
