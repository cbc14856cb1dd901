/-
  Slots that wait: the contracts joined; the fixed course.
-/
import Derived.Test.YtgkobmmannkegaaLimboCopy
namespace Go.Proofs.Ytgkobmmannkegaa
open Go Go.RowKit
set_option linter.unusedVariables false

theorem und102 : Try.prog.underlying 102 = some (.struct (Try.prog.fieldsOf 102)) := by kernel_rfl
theorem stood102 : Try.prog.stoodInHeld 102 = false := by kernel_rfl
@[go_sem] theorem eqg102 : Try.prog.eqGuardType Try.prog.depth 102 = false := by kernel_rfl
instance : DecidableEq Rt := fun x y => decidable_of_iff (x.ref = y.ref ∧ x.ep = y.ep) (by cases x; cases y; simp)
def rtEq (r e r' e' : Int) : Bool := r == r' && e == e'
theorem Rt.beq (x y : Rt) : rtEq x.ref x.ep y.ref y.ep = decide (x = y) := by
  cases x; cases y
  rw [Bool.eq_iff_iff]
  simp [rtEq]
theorem eqIn_rt (r e r' e' : Int) (w : World) :
    (Op.equalIn 10000 102 (.agg #[.int .u64 r, .int .u64 e]) (.agg #[.int .u64 r', .int .u64 e'])).run Try.prog w = .ok (rtEq r e r' e') w := by
  rw [run_equalIn_struct w 9999 102 _ _ und102 stood102, rtEq]
  simp only [Program.fieldsOf, Try.underlying102]
  simp [Op.eqFields, go_sem]
  (repeat' split) <;> simp_all
@[go_sem ↓] theorem run_eql_rt (r e r' e' : Int) (w : World) :
    (binOp .eql 102 (.agg #[.int .u64 r, .int .u64 e]) (.agg #[.int .u64 r', .int .u64 e'])).run Try.prog w = .ok (.bool (rtEq r e r' e')) w := by
  rw [run_eql_struct, eqIn_rt]; rfl
@[go_sem ↓] theorem run_neq_rt (r e r' e' : Int) (w : World) :
    (binOp .neq 102 (.agg #[.int .u64 r, .int .u64 e]) (.agg #[.int .u64 r', .int .u64 e'])).run Try.prog w = .ok (.bool (!rtEq r e r' e')) w := by
  rw [run_neq_struct, eqIn_rt]; rfl
/-- Three things by their number. -/
def three {α : Type} (x y z : α) (k : Nat) : α := if k = 0 then x else if k = 1 then y else z
theorem catL_three (l0 l1 l2 : List Rt) : catL (three l0 l1 l2) 3 = l0 ++ l1 ++ l2 := by simp [catL, three]
theorem catL_filter (l0 l1 l2 : List Rt) (f : Rt → Bool) : catL (fun i => (three l0 l1 l2 i).filter f) 3 = (l0 ++ l1 ++ l2).filter f := by simp [catL, three]
section
variable {w : World} {b : Nat} {v0 v1 v2 : Value} {l0 l1 l2 : List Rt}
theorem LimboAt.rows (h : LimboAt w b v0 v1 v2 l0 l1 l2) : ∀ i, i < 3 → RL w (three v0 v1 v2 i) (three l0 l1 l2 i) := fun i hi => by
  have : i = 0 ∨ i = 1 ∨ i = 2 := by omega
  rcases this with rfl | rfl | rfl
  · exact h.r0
  · exact h.r1
  · exact h.r2
end
/-- What Ripe comes to. -/
def Riped (w : World) (b : Nat) (l0 l1 l2 : List Rt) (ep : Int) (e : Ending) (w' : World) : Prop :=
  ∃ va vc r u0 u1 u2, e = .returned (.slice va ((l0 ++ l1 ++ l2).filter (ripeB ep)).length vc) ∧ RowOf retR 102 w' w.heap.size r (.slice va ((l0 ++ l1 ++ l2).filter (ripeB ep)).length vc) ((l0 ++ l1 ++ l2).filter (ripeB ep)) ∧
    LimboAt w' b u0 u1 u2 (l0.filter fun x => !ripeB ep x) (l1.filter fun x => !ripeB ep x) (l2.filter fun x => !ripeB ep x) ∧ (∀ q, LB b u0 u1 u2 q → q = b ∨ w.heap.size ≤ q) ∧ (∀ q, Value.ownBlock (.slice va ((l0 ++ l1 ++ l2).filter (ripeB ep)).length vc) = some q → ¬ LB b u0 u1 u2 q) ∧ Mod (fun q => q = b) w w'
theorem limbo_ripe (w : World) (b : Nat) (v0 v1 v2 : Value) (l0 l1 l2 : List Rt) (h : LimboAt w b v0 v1 v2 l0 l1 l2) (hn : (l0 ++ l1 ++ l2).length ≤ 1000) (ep : Int) (e0 : 0 ≤ ep) (e1 : ep < 18446744073709551616) :
    Calls Try.prog 110 #[.pointer (some ⟨b, 0, none⟩), .int .u64 ep] w (Riped w b l0 l1 l2 ep) := by
  refine (limbo_ripe_from w b (three v0 v1 v2) (three l0 l1 l2) h.blk h.rows (by rw [catL_three]; exact hn) ep e0 e1).mono ?_
  rintro e w' ⟨va, vc, r, us, he, hR, hA, hK⟩
  rw [catL_filter] at he hR hA
  have hbl := h.blk.lt
  refine ⟨va, vc, r, us 0, us 1, us 2, he, hR, ⟨hK.blk, hK.new 0 (by omega), hK.new 1 (by omega), hK.new 2 (by omega), hK.apart 0 1 (by omega) (by omega) (by omega), hK.apart 0 2 (by omega) (by omega) (by omega), hK.apart 1 2 (by omega) (by omega) (by omega)⟩, ?_, ?_, hK.mod⟩
  · rintro q (rfl | hq | hq | hq)
    · exact .inl rfl
    · exact .inr (hK.fresh 0 (by omega) q hq)
    · exact .inr (hK.fresh 1 (by omega) q hq)
    · exact .inr (hK.fresh 2 (by omega) q hq)
  · rintro q hq (rfl | h1 | h1 | h1)
    · have := (hA q hq).1; omega
    · exact (hA q hq).2 0 (by omega) h1
    · exact (hA q hq).2 1 (by omega) h1
    · exact (hA q hq).2 2 (by omega) h1
theorem limbo_copy (w : World) (b : Nat) (v0 v1 v2 : Value) (l0 l1 l2 : List Rt) (h : LimboAt w b v0 v1 v2 l0 l1 l2) (hn : (l0 ++ l1 ++ l2).length ≤ 1000) :
    Calls Try.prog 113 #[.pointer (some ⟨b, 0, none⟩)] w fun e w' => ∃ c u0 u1 u2, e = .returned (.pointer (some ⟨c, 0, none⟩)) ∧ LimboAt w' c u0 u1 u2 l0 l1 l2 ∧ (∀ q, LB c u0 u1 u2 q → w.heap.size ≤ q) ∧ Below w.heap.size w w' := by
  refine (limbo_copy_from w b (three v0 v1 v2) (three l0 l1 l2) h.blk h.rows (by rw [catL_three]; exact hn)).mono ?_
  rintro e w' ⟨c, us, he, hc, hK⟩
  refine ⟨c, us 0, us 1, us 2, he, ⟨hK.blk, hK.new 0 (by omega), hK.new 1 (by omega), hK.new 2 (by omega), hK.apart 0 1 (by omega) (by omega) (by omega), hK.apart 0 2 (by omega) (by omega) (by omega), hK.apart 1 2 (by omega) (by omega) (by omega)⟩, ?_, hK.bel⟩
  rintro q (rfl | hq | hq | hq)
  · exact hc
  · exact (hK.fresh 0 (by omega) q hq).1
  · exact (hK.fresh 1 (by omega) q hq).1
  · exact (hK.fresh 2 (by omega) q hq).1
/-- What Add comes to, whatever the epoch's rest. -/
def AddedTo (w : World) (b : Nat) (v0 v1 v2 : Value) (l0 l1 l2 : List Rt) (x : Rt) (e : Ending) (w' : World) : Prop :=
  e = .returned (.tuple #[]) ∧ ∃ u0 u1 u2 m0 m1 m2, LimboAt w' b u0 u1 u2 m0 m1 m2 ∧ Cls m0 m1 m2 ∧ m0 ++ m1 ++ m2 = refAdd (l0 ++ l1 ++ l2) x ∧ (∀ q, LB b u0 u1 u2 q → LB b v0 v1 v2 q ∨ w.heap.size ≤ q) ∧ Mod (LB b v0 v1 v2) w w'
theorem limbo_add (w : World) (b : Nat) (v0 v1 v2 : Value) (l0 l1 l2 : List Rt) (h : LimboAt w b v0 v1 v2 l0 l1 l2) (hc : Cls l0 l1 l2) (hn : (l0 ++ l1 ++ l2).length ≤ 1000) (x e : Int) (he0 : 0 ≤ e) :
    Calls Try.prog 106 #[.pointer (some ⟨b, 0, none⟩), .int .u64 x, .int .u64 e] w (AddedTo w b v0 v1 v2 l0 l1 l2 ⟨x, e⟩) := by
  have hn' := hn
  simp only [List.length_append] at hn'
  have h3 : e % 3 = 0 ∨ e % 3 = 1 ∨ e % 3 = 2 := by omega
  rcases h3 with he | he | he
  · refine (limbo_add0 w b v0 v1 v2 l0 l1 l2 h (by omega) x e he0 he).mono ?_
    rintro e' w' ⟨rfl, v', hL, hA⟩
    have hx := hc.add0 (x := ⟨x, e⟩) he
    refine ⟨rfl, v', v1, v2, _, _, _, hL, hx.1, hx.2.symm, ?_, hA.2.2.mono (fun q _ hq => by rcases hq with rfl | hq; exact .inl rfl; exact .inr (.inl hq))⟩
    rintro q (rfl | hq | hq | hq)
    · exact .inl (.inl rfl)
    · rcases hA.2.1 q hq with h1 | h1
      · exact .inl (.inr (.inl h1))
      · exact .inr h1
    · exact .inl (.inr (.inr (.inl hq)))
    · exact .inl (.inr (.inr (.inr hq)))
  · refine (limbo_add1 w b v0 v1 v2 l0 l1 l2 h (by omega) x e he0 he).mono ?_
    rintro e' w' ⟨rfl, v', hL, hA⟩
    have hx := hc.add1 (x := ⟨x, e⟩) he
    refine ⟨rfl, v0, v', v2, _, _, _, hL, hx.1, hx.2.symm, ?_, hA.2.2.mono (fun q _ hq => by rcases hq with rfl | hq; exact .inl rfl; exact .inr (.inr (.inl hq)))⟩
    rintro q (rfl | hq | hq | hq)
    · exact .inl (.inl rfl)
    · exact .inl (.inr (.inl hq))
    · rcases hA.2.1 q hq with h1 | h1
      · exact .inl (.inr (.inr (.inl h1)))
      · exact .inr h1
    · exact .inl (.inr (.inr (.inr hq)))
  · refine (limbo_add2 w b v0 v1 v2 l0 l1 l2 h (by omega) x e he0 he).mono ?_
    rintro e' w' ⟨rfl, v', hL, hA⟩
    have hx := hc.add2 (x := ⟨x, e⟩) he
    refine ⟨rfl, v0, v1, v', _, _, _, hL, hx.1, hx.2.symm, ?_, hA.2.2.mono (fun q _ hq => by rcases hq with rfl | hq; exact .inl rfl; exact .inr (.inr (.inr hq)))⟩
    rintro q (rfl | hq | hq | hq)
    · exact .inl (.inl rfl)
    · exact .inl (.inr (.inl hq))
    · exact .inl (.inr (.inr (.inl hq)))
    · rcases hA.2.1 q hq with h1 | h1
      · exact .inl (.inr (.inr (.inr h1)))
      · exact .inr h1
set_option maxHeartbeats 2000000 in
set_option maxRecDepth 100000 in
theorem limbo_awake : Gives 104 #[] (.bool true) := by
  intro w
  go_enter Try.func104, Try.ntmps104
  go_wp2_with fail
  refine (limbo_new w).mono ?_
  rintro e w1 ⟨rfl, hA, hw1⟩
  have A1 := Lib.hid hA
  have V1 : Below w.heap.size w w1 := by rw [hw1]; exact (Below.refl _ _).alloc (Nat.le_refl _) _
  have F1 : Hid (∀ q, LB w.heap.size (.slice none 0 0) (.slice none 0 0) (.slice none 0 0) q → w.heap.size ≤ q) := by
    rintro q (rfl | hq | hq | hq)
    · exact Nat.le_refl _
    all_goals simp [Value.ownBlock] at hq
  clear hA hw1
  dsimp only
  go_wp2_with fail
  refine (limbo_add _ _ _ _ _ [] [] [] A1.out Cls.nil (by simp) 1 4 (by omega)).mono ?_
  rintro e w2 ⟨rfl, u0, u1, u2, m0, m1, m2, hL, hC, he, hF, hM⟩
  have A2 := Lib.hid hL
  have V2 := below_mod V1 hM V1.size (fun q hq e => by have := F1.out q e; omega)
  have F2 : Hid (∀ q, LB w.heap.size u0 u1 u2 q → w.heap.size ≤ q) := fun q hq => by
    rcases hF q hq with h | h
    · exact F1.out q h
    · have := V1.size; omega
  have C2 := Lib.hid hC
  have E2 : Hid (m0 ++ m1 ++ m2 = [⟨1, 4⟩]) := he
  clear hL hF hM V1 F1 A1 hC he
  dsimp only
  go_wp2_with fail
  refine (limbo_add _ _ _ _ _ m0 m1 m2 A2.out C2.out (by rw [E2.out]; simp) 2 5 (by omega)).mono ?_
  rintro e w3 ⟨rfl, u3, u4, u5, n0, n1, n2, hL, hC, he, hF, hM⟩
  have A3 := Lib.hid hL
  have V3 := below_mod V2 hM V2.size (fun q hq e => by have := F2.out q e; omega)
  have F3 : Hid (∀ q, LB w.heap.size u3 u4 u5 q → w.heap.size ≤ q) := fun q hq => by
    rcases hF q hq with h | h
    · exact F2.out q h
    · have := V2.size; omega
  have C3 := Lib.hid hC
  have E3 : Hid (n0 ++ n1 ++ n2 = [⟨1, 4⟩, ⟨2, 5⟩]) := by show _ = _; rw [he, E2.out]; rfl
  clear hL hF hM V2 F2 A2 hC he C2 E2
  dsimp only
  go_wp2_with fail
  refine (limbo_add _ _ _ _ _ n0 n1 n2 A3.out C3.out (by rw [E3.out]; simp) 3 4 (by omega)).mono ?_
  rintro e w4 ⟨rfl, u6, u7, u8, k0, k1, k2, hL, hC, he, hF, hM⟩
  have A4 := Lib.hid hL
  have V4 := below_mod V3 hM V3.size (fun q hq e => by have := F3.out q e; omega)
  have F4 : Hid (∀ q, LB w.heap.size u6 u7 u8 q → w.heap.size ≤ q) := fun q hq => by
    rcases hF q hq with h | h
    · exact F3.out q h
    · have := V3.size; omega
  have E4 : Hid (k0 ++ k1 ++ k2 = [⟨1, 4⟩, ⟨3, 4⟩, ⟨2, 5⟩]) := by show _ = _; rw [he, E3.out]; rfl
  clear hL hF hM V3 F3 A3 hC he C3 E3
  dsimp only
  go_wp2_with fail
  refine (limbo_ripe _ _ _ _ _ k0 k1 k2 A4.out (by rw [E4.out]; simp) 6 (by omega) (by omega)).mono ?_
  unfold Riped
  rw [E4.out, show ([⟨1, 4⟩, ⟨3, 4⟩, ⟨2, 5⟩] : List Rt).filter (ripeB 6) = [⟨1, 4⟩, ⟨3, 4⟩] by decide]
  rintro e w5 ⟨va, vc, r, u0, u1, u2, rfl, hR, hL, hF, hS, hM⟩
  have V5 := below_mod V4 hM V4.size (fun q hq e => by omega)
  have A5 := Lib.hid hL
  have hlen : ((k0.filter fun x => !ripeB 6 x) ++ (k1.filter fun x => !ripeB 6 x) ++ (k2.filter fun x => !ripeB 6 x)) = [⟨2, 5⟩] := by
    rw [← List.filter_append, ← List.filter_append, E4.out]; decide
  have K5 := limbo_len w5 _ _ _ _ _ _ _ A5.out (by rw [hlen]; simp)
  rw [hlen] at K5
  have HK5 := Lib.hid K5
  obtain ⟨g, hvr, _, hcs⟩ : ∃ g, va = some ⟨g, 0, none⟩ ∧ True ∧ ∀ q u, (rcells retR ([⟨1, 4⟩, ⟨3, 4⟩] : List Rt))[q]? = some u → w5.cell? ⟨g, q, none⟩ = some u := by
    rcases (show RL w5 _ ([⟨1, 4⟩, ⟨3, 4⟩] : List Rt) from ⟨r, hR.lower (Nat.zero_le _)⟩).cases with ⟨_, h⟩ | ⟨g, c, h1, _, h2⟩
    · cases h
    · injection h1 with h1 _ _
      exact ⟨g, h1, trivial, h2⟩
  subst hvr
  have c0 := hcs 0 _ rfl
  have c1 := hcs 1 _ rfl
  have c2 := hcs 2 _ rfl
  have c3 := hcs 3 _ rfl
  have V5h := Lib.hid V5
  clear hR hL hF hS hM V4 F4 A4 E4 hlen K5 hcs V5 A5
  have q1 : rtEq 1 4 1 4 = true := by decide
  have q2 : rtEq 3 4 3 4 = true := by decide
  dsimp only
  go_wp2_with fail
  refine HK5.out.mono ?_
  rintro e w6 ⟨rfl, hb6⟩
  dsimp only
  go_wp2_with fail
  go_ret
  exact ⟨rfl, V5h.out.trans (hb6.mono V5h.out.size)⟩
end Go.Proofs.Ytgkobmmannkegaa
