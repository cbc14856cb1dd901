/-
  The law LimboOnce (chapter 15), walked.
-/
import Derived.Test.YtgkobmmannkegaaLimboClaims
namespace Go.Proofs.Ytgkobmmannkegaa
open Go Go.RowKit
set_option linter.unusedVariables false

/-- A list of numbers that is handed in. -/
structure I64s (w : World) (hi : Nat) (v : Value) (n : Nat) : Prop where
  ex : ∃ (a : Option Addr) (c : Nat), v = .slice a n c ∧ (0 < n → ∃ b off, a = some ⟨b, off, none⟩ ∧ b < hi ∧ ∀ j, j < n → ∃ x : Int, w.cell? ⟨b, off + j, none⟩ = some (.int .i64 x))
theorem I64s.mod {w w' : World} {hi n : Nat} {v : Value} {S : Nat → Prop} (h : I64s w hi v n) (hm : Mod S w w') (hS : ∀ k, k < hi → ¬ S k) : I64s w' hi v n := by
  obtain ⟨a, c, hv, hc⟩ := h.ex
  refine ⟨a, c, hv, fun h0 => ?_⟩
  obtain ⟨b, off, ha, hb, hcs⟩ := hc h0
  refine ⟨b, off, ha, hb, fun j hj => ?_⟩
  obtain ⟨t, ht⟩ := hcs j hj
  exact ⟨t, by rw [hm.cell (a := ⟨b, off + j, none⟩) (World.block_lt_of_cell? w _ ht) (hS b hb)]; exact ht⟩
theorem and_one (u : Int) : bits .and .i64 u 1 = 0 ∨ bits .and .i64 u 1 = 1 := by
  unfold bits
  have h : (BitVec.ofInt IntKind.i64.bits u &&& BitVec.ofInt IntKind.i64.bits 1).toNat ≤ 1 := by
    rw [BitVec.toNat_and]
    exact Nat.and_le_right
  show IntKind.i64.wrap _ = 0 ∨ IntKind.i64.wrap _ = 1
  rw [IntKind.wrap_i64]
  generalize (BitVec.ofInt IntKind.i64.bits u &&& BitVec.ofInt IntKind.i64.bits 1).toNat = m at *
  omega
theorem mem_refAdd {l : List Rt} {x y : Rt} (h : y ∈ refAdd l x) : y ∈ l ∨ y = x := by
  unfold refAdd at h
  rw [List.mem_append, List.mem_append, List.mem_singleton] at h
  rcases h with (h | h) | h
  · exact .inl (List.mem_of_mem_take h)
  · exact .inr h
  · exact .inl (List.mem_of_mem_drop h)
theorem limboOnce_skip (a : Option Addr) (n c : Nat) (ua : Option Addr) (un uc : Nat) (hn : 100 < n) (w : World) : Calls Try.prog 17 #[.slice a n c, .slice ua un uc] w fun e w' => e = .returned (.bool true) ∧ Below w.heap.size w w' := by
  go_enter Try.func17, Try.ntmps17
  go_wp2_with fail
  refine (limbo_awake _).mono ?_
  rintro e w1 ⟨rfl, hb⟩
  go_wp2_with fail
  go_ret
  exact ⟨rfl, hb⟩
/-- What is kept from slot to slot. -/
structure LO (w0 : World) (b k : Nat) (E : Int) (told : Nat) (v0 v1 v2 : Value) (l0 l1 l2 : List Rt) (w : World) : Prop where
  at_ : LimboAt w b v0 v1 v2 l0 l1 l2
  cls : Cls l0 l1 l2
  tot : (l0 ++ l1 ++ l2).length + told = k
  bd : ∀ x ∈ l0 ++ l1 ++ l2, 0 ≤ x.ep ∧ x.ep ≤ E
  own : ∀ q, LB b v0 v1 v2 q → w0.heap.size ≤ q
  bel : Below w0.heap.size w0 w
theorem LO.below {w0 w w' : World} {k told : Nat} {E : Int} {v0 v1 v2 : Value} {l0 l1 l2 : List Rt} (h : LO w0 w0.heap.size k E told v0 v1 v2 l0 l1 l2 w) (hb : Below w.heap.size w w') : LO w0 w0.heap.size k E told v0 v1 v2 l0 l1 l2 w' :=
  ⟨h.at_.below hb, h.cls, h.tot, h.bd, h.own, h.bel.trans (hb.mono h.bel.size)⟩
theorem lo_ripe {w0 w3 w4 : World} {k told : Nat} {E E' : Int} {m0 m1 m2 : List Rt} {p0 p1 p2 : Value} (V3 : Below w0.heap.size w0 w3) (C2 : Cls m0 m1 m2) (B2 : ∀ y ∈ m0 ++ m1 ++ m2, 0 ≤ y.ep ∧ y.ep ≤ E) (hE : E ≤ E') (hmt : (m0 ++ m1 ++ m2).length + told = k)
    (hL : LimboAt w4 w0.heap.size p0 p1 p2 (m0.filter fun x => !ripeB E' x) (m1.filter fun x => !ripeB E' x) (m2.filter fun x => !ripeB E' x)) (hF : ∀ q, LB w0.heap.size p0 p1 p2 q → q = w0.heap.size ∨ w3.heap.size ≤ q) (hM : Mod (fun q => q = w0.heap.size) w3 w4) :
    LO w0 w0.heap.size k E' (told + ((m0 ++ m1 ++ m2).filter (ripeB E')).length) p0 p1 p2 (m0.filter fun x => !ripeB E' x) (m1.filter fun x => !ripeB E' x) (m2.filter fun x => !ripeB E' x) w4 := by
  have hp := filter_parts (ripeB E') (m0 ++ m1 ++ m2)
  have hs : ((m0.filter fun x => !ripeB E' x) ++ (m1.filter fun x => !ripeB E' x) ++ (m2.filter fun x => !ripeB E' x)) = (m0 ++ m1 ++ m2).filter fun x => !ripeB E' x := by simp
  refine ⟨hL, C2.filter _, by rw [hs]; omega, fun y hy => ?_, fun q hq => ?_, below_mod V3 hM V3.size (fun q hq e => by omega)⟩
  · rw [hs] at hy
    have := B2 y (List.mem_filter.1 hy).1
    omega
  · have := V3.size
    rcases hF q hq with h | h <;> omega
theorem ripe_cells {w : World} {lo r : Nat} {va : Option Addr} {vc : Nat} {l : List Rt} {ep : Int} (hR : RowOf retR 102 w lo r (.slice va (l.filter (ripeB ep)).length vc) (l.filter (ripeB ep))) (hb : ∀ y ∈ l, 0 ≤ y.ep) (j : Nat) (hj : j < (l.filter (ripeB ep)).length) :
    ∃ g e, va = some ⟨g, 0, none⟩ ∧ g < w.heap.size ∧ w.cell? ⟨g, j * 2 + 1, none⟩ = some (.int .u64 e) ∧ 0 ≤ e ∧ e + 2 ≤ ep := by
  have hm : (l.filter (ripeB ep))[j] ∈ l.filter (ripeB ep) := List.getElem_mem hj
  have h2 := (List.mem_filter.1 hm).2
  simp only [ripeB, decide_eq_true_eq] at h2
  rcases (show RL w _ (l.filter (ripeB ep)) from ⟨r, hR.lower (Nat.zero_le _)⟩).cases with ⟨_, h⟩ | ⟨g, c, h1, hg, hcs⟩
  · rw [h] at hj; simp at hj
  · injection h1 with h1 _ _
    exact ⟨g, _, h1, hg, (rl_two (c := 0) hcs j hj).2, hb _ (List.mem_filter.1 hm).1, by omega⟩
theorem ripe_all {l : List Rt} {E : Int} (h0 : 0 ≤ E) (h : ∀ y ∈ l, 0 ≤ y.ep ∧ y.ep ≤ E) : (l.filter (ripeB (E + 2))).length = l.length := by
  rw [List.filter_eq_self.2]
  intro y hy
  have := h y hy
  simp only [ripeB, decide_eq_true_eq]
  omega
set_option maxHeartbeats 8000000 in
set_option maxRecDepth 100000 in
theorem limboOnce_walk (v uv : Value) (ws : List Int) (un : Nat) (w : World) (hU : U64s w w.heap.size v ws) (hI : I64s w w.heap.size uv un) (hn : ws.length ≤ 100) :
    Calls Try.prog 17 #[v, uv] w fun e w' => e = .returned (.bool true) ∧ Below w.heap.size w w' := by
  have hx := hU
  have hy := hI
  obtain ⟨av, c, rfl, _⟩ := hx.ex
  obtain ⟨ua, uc, rfl, _⟩ := hy.ex
  have U0 := Lib.hid hU
  have I0 := Lib.hid hI
  have HW := Lib.hid (rfl : ws.length = ws.length)
  clear hU hI hx hy
  go_enter Try.func17, Try.ntmps17
  go_wp2_with fail
  refine (limbo_new w).mono ?_
  rintro e w1 ⟨rfl, hA, hw1⟩
  have K1 : Hid (LO w w.heap.size 0 1 0 (.slice none 0 0) (.slice none 0 0) (.slice none 0 0) [] [] [] w1) := ⟨hA, Cls.nil, rfl, by simp, by
    rintro q (rfl | hq | hq | hq)
    · exact Nat.le_refl _
    all_goals simp [Value.ownBlock] at hq, by rw [hw1]; exact (Below.refl _ _).alloc (Nat.le_refl _) _⟩
  clear hA hw1
  dsimp only
  go_wp2_with fail
  go_loopw [6, 7, 8] (fun ev tv i wr => ∃ (k told : Nat) (E : Int) (v0 v1 v2 : Value) (l0 l1 l2 : List Rt), k ≤ ws.length ∧ (1 ≤ E ∧ E ≤ 1 + k) ∧ i = .int .i64 k ∧ ev = .int .u64 E ∧ tv = .int .i64 told ∧ Hid (LO w w.heap.size k E told v0 v1 v2 l0 l1 l2 wr)) (fun _ _ i _ => ws.length - (intOf i).toNat)
  case atStart => exact ⟨0, 0, 1, _, _, _, [], [], [], by omega, by omega, rfl, rfl, rfl, K1⟩
  case round =>
    obtain ⟨k, told, E, v0, v1, v2, l0, l1, l2, hk, hE, rfl, rfl, rfl, hK⟩ := hrel
    clear K1
    have htot := hK.out.tot
    have hbw := hK.out.at_.blk.lt
    by_cases hlt : k < ws.length
    · obtain ⟨bs, os, rfl, hbs, hcs⟩ := u64s_cells U0.out (by omega)
      have c0 := (hK.out.bel.cell (p := ⟨bs, os + k, none⟩) hbs).trans (hcs k hlt)
      have hk8 : (k : Int) < ws.length := by omega
      clear hcs
      generalize ws[k] = x at *
      go_wp2_with fail
      refine (limbo_add _ _ _ _ _ l0 l1 l2 hK.out.at_ hK.out.cls (by omega) x E (by omega)).mono ?_
      rintro e w2 ⟨rfl, u0, u1, u2, m0, m1, m2, hL, hC, he, hF, hM⟩
      have A2 := Lib.hid hL
      have C2 := Lib.hid hC
      have V2 := below_mod hK.out.bel hM hK.out.bel.size (fun q hq e => by have := hK.out.own q e; omega)
      have F2 : Hid (∀ q, LB w.heap.size u0 u1 u2 q → w.heap.size ≤ q) := fun q hq => by
        rcases hF q hq with h | h
        · exact hK.out.own q h
        · have := hK.out.bel.size; omega
      have hml : (m0 ++ m1 ++ m2).length = (l0 ++ l1 ++ l2).length + 1 := by rw [he, refAdd_length]
      have B2 : Hid (∀ y ∈ m0 ++ m1 ++ m2, 0 ≤ y.ep ∧ y.ep ≤ E) := fun y hy => by
        rw [he] at hy
        rcases mem_refAdd hy with h | rfl
        · exact hK.out.bd y h
        · exact ⟨by show 0 ≤ E; omega, Int.le_refl _⟩
      have hmt : (m0 ++ m1 ++ m2).length + told = k + 1 := by omega
      have HMT := Lib.hid hmt
      have hm1 : (m0 ++ m1 ++ m2).length ≤ 1000 := by omega
      have HM1 := Lib.hid hm1
      clear hL hC he hF hM hK hml c0 hmt htot hm1
      dsimp only
      go_wp2_with fail
      refine (limbo_copy _ _ _ _ _ m0 m1 m2 A2.out HM1.out).mono ?_
      rintro e w3 ⟨cb, x0, x1, x2, rfl, hLc, hFc, hb3⟩
      have A3 := Lib.hid (A2.out.below hb3)
      have CC3 := Lib.hid hLc
      have V3 := V2.trans (hb3.mono V2.size)
      have FC3 : Hid (∀ q, LB cb x0 x1 x2 q → w2.heap.size ≤ q) := hFc
      have hbl2 := A2.out.blk.lt
      clear hLc hFc hb3 A2
      dsimp only
      have hkI : Hid (k < un → ∃ ib io y, ua = some ⟨ib, io, none⟩ ∧ w3.cell? ⟨ib, io + k, none⟩ = some (.int .i64 y)) := fun h => by
        obtain ⟨a', c', hv, hc⟩ := I0.out.ex
        obtain ⟨ib, io, rfl, hib, hcs⟩ := hc (by omega)
        obtain ⟨y, hy⟩ := hcs k h
        injection hv with hv _ _
        exact ⟨ib, io, y, hv, (V3.cell (p := ⟨ib, io + k, none⟩) hib).trans hy⟩
      by_cases hku : k < un
      · obtain ⟨ib, io, y, rfl, ci⟩ := hkI.out hku
        obtain ⟨d, hd, d0, d1⟩ : ∃ d, bits .and .i64 y 1 = d ∧ 0 ≤ d ∧ d ≤ 1 := ⟨_, rfl, by rcases and_one y with h | h <;> omega, by rcases and_one y with h | h <;> omega⟩
        have hd2 : IntKind.u64.wrap d = d := by rw [IntKind.wrap_u64]; omega
        have hd3 : IntKind.u64.wrap (E + d) = E + d := by rw [IntKind.wrap_u64]; omega
        have hku8 : (k : Int) < un := by omega
        have hE1 : E ≤ E + d := by omega
        have hE2 : E + d ≤ 2 + k := by omega
        go_wp2_with fail
        generalize E + d = E' at *
        refine (limbo_ripe _ _ _ _ _ m0 m1 m2 A3.out HM1.out E' (by omega) (by omega)).mono ?_
        unfold Riped
        rintro e w4 ⟨va, vc, r, p0, p1, p2, rfl, hR, hL, hF, hS, hM⟩
        have N4 := Lib.hid (lo_ripe V3 C2.out B2.out hE1 HMT.out hL hF hM)
        have R4 := Lib.hid (ripe_cells hR (fun y hy => (B2.out y hy).1))
        have K5 := Lib.hid (limbo_len w4 cb x0 x1 x2 m0 m1 m2 (CC3.out.mod hM (fun q hq e => by have := FC3.out q hq; omega)) (by have := HM1.out; omega))
        have htot := N4.out.tot
        have hmt := HMT.out
        clear hR hL hF hS hM HM1
        obtain ⟨rn, hrn⟩ : ∃ rn, ((m0 ++ m1 ++ m2).filter (ripeB E')).length = rn := ⟨_, rfl⟩
        obtain ⟨Ln, hLn⟩ : ∃ Ln, ((m0.filter fun x => !ripeB E' x) ++ (m1.filter fun x => !ripeB E' x) ++ (m2.filter fun x => !ripeB E' x)).length = Ln := ⟨_, rfl⟩
        obtain ⟨M, hMn⟩ : ∃ M, (m0 ++ m1 ++ m2).length = M := ⟨_, rfl⟩
        rw [hrn, hLn] at htot
        rw [hrn] at N4 R4 ⊢
        rw [hMn] at hmt K5
        have HLn := Lib.hid hLn
        have hb1 : told + M = k + 1 := by omega
        have hb2 : M = Ln + rn := by omega
        clear htot hmt hrn hLn hMn HMT
        subst hb2
        dsimp only
        go_wp2_with fail
        refine K5.out.mono ?_
        rintro e w5 ⟨rfl, hb5⟩
        have N5 := Lib.hid (N4.out.below hb5)
        have K6 := limbo_len w5 _ _ _ _ _ _ _ N5.out.at_ (by rw [HLn.out]; omega)
        rw [HLn.out] at K6
        have HK6 := Lib.hid K6
        have B5 := Lib.hid hb5
        clear K5 K6 hb5 N4 HLn
        dsimp only
        go_wp2_with fail
        refine HK6.out.mono ?_
        rintro e w6 ⟨rfl, hb6⟩
        have N6 := Lib.hid (N5.out.below hb6)
        have R6 : Hid (∀ j, j < rn → ∃ g e, va = some ⟨g, 0, none⟩ ∧ w6.cell? ⟨g, j * 2 + 1, none⟩ = some (.int .u64 e) ∧ 0 ≤ e ∧ e + 2 ≤ E') := fun j hj => by
          obtain ⟨g, e, h1, h2, h3, h4, h5⟩ := R4.out j hj
          refine ⟨g, e, h1, ?_, h4, h5⟩
          rw [(B5.out.trans (hb6.mono B5.out.size)).cell (p := ⟨g, j * 2 + 1, none⟩) h2]
          exact h3
        clear HK6 hb6 N5 B5 R4
        have hrn1 : rn ≤ 101 := by omega
        dsimp only
        go_wp2_with fail
        go_loopw [11] (fun jv wx => ∃ j : Nat, j ≤ rn ∧ jv = .int .i64 j ∧ wx = w6) (fun jv _ => rn - (intOf jv).toNat)
        case atStart => exact ⟨0, Nat.zero_le _, by first | trivial | rfl, by first | trivial | rfl⟩
        case round =>
          obtain ⟨j, hj, rfl, rfl⟩ := hrel
          by_cases hjl : j < rn
          · obtain ⟨g, e, rfl, c0, he0, he1⟩ := R6.out j hjl
            have hj8 : (j : Int) < rn := by omega
            have hw : IntKind.u64.wrap (e + 2) = e + 2 := by rw [IntKind.wrap_u64]; omega
            have hg : ¬ E' < e + 2 := by omega
            go_wp2_with fail
            go_roundw
            case rel => exact ⟨j + 1, by omega, by first | go_num | trivial, by first | trivial | rfl⟩
            case measure => simp [intOf]; omega
          · have hj8 : ¬ (j : Int) < rn := by omega
            go_wp2_with fail
            go_roundw
            case rel => exact ⟨k + 1, told + rn, E', _, _, _, _, _, _, by omega, by omega, by first | go_num | trivial, by first | rfl | trivial | go_num, by first | go_num | trivial, N6⟩
            case measure => simp [intOf]; omega
      · have hku8 : ¬ (k : Int) < un := by omega
        have hE1 : E ≤ E := Int.le_refl _
        have hE2 : E ≤ 2 + k := by omega
        go_wp2_with fail
        refine (limbo_ripe _ _ _ _ _ m0 m1 m2 A3.out HM1.out E (by omega) (by omega)).mono ?_
        unfold Riped
        rintro e w4 ⟨va, vc, r, p0, p1, p2, rfl, hR, hL, hF, hS, hM⟩
        have N4 := Lib.hid (lo_ripe V3 C2.out B2.out hE1 HMT.out hL hF hM)
        have R4 := Lib.hid (ripe_cells hR (fun y hy => (B2.out y hy).1))
        have K5 := Lib.hid (limbo_len w4 cb x0 x1 x2 m0 m1 m2 (CC3.out.mod hM (fun q hq e => by have := FC3.out q hq; omega)) (by have := HM1.out; omega))
        have htot := N4.out.tot
        have hmt := HMT.out
        clear hR hL hF hS hM HM1
        obtain ⟨rn, hrn⟩ : ∃ rn, ((m0 ++ m1 ++ m2).filter (ripeB E)).length = rn := ⟨_, rfl⟩
        obtain ⟨Ln, hLn⟩ : ∃ Ln, ((m0.filter fun x => !ripeB E x) ++ (m1.filter fun x => !ripeB E x) ++ (m2.filter fun x => !ripeB E x)).length = Ln := ⟨_, rfl⟩
        obtain ⟨M, hMn⟩ : ∃ M, (m0 ++ m1 ++ m2).length = M := ⟨_, rfl⟩
        rw [hrn, hLn] at htot
        rw [hrn] at N4 R4 ⊢
        rw [hMn] at hmt K5
        have HLn := Lib.hid hLn
        have hb1 : told + M = k + 1 := by omega
        have hb2 : M = Ln + rn := by omega
        clear htot hmt hrn hLn hMn HMT
        subst hb2
        dsimp only
        go_wp2_with fail
        refine K5.out.mono ?_
        rintro e w5 ⟨rfl, hb5⟩
        have N5 := Lib.hid (N4.out.below hb5)
        have K6 := limbo_len w5 _ _ _ _ _ _ _ N5.out.at_ (by rw [HLn.out]; omega)
        rw [HLn.out] at K6
        have HK6 := Lib.hid K6
        have B5 := Lib.hid hb5
        clear K5 K6 hb5 N4 HLn
        dsimp only
        go_wp2_with fail
        refine HK6.out.mono ?_
        rintro e w6 ⟨rfl, hb6⟩
        have N6 := Lib.hid (N5.out.below hb6)
        have R6 : Hid (∀ j, j < rn → ∃ g e, va = some ⟨g, 0, none⟩ ∧ w6.cell? ⟨g, j * 2 + 1, none⟩ = some (.int .u64 e) ∧ 0 ≤ e ∧ e + 2 ≤ E) := fun j hj => by
          obtain ⟨g, e, h1, h2, h3, h4, h5⟩ := R4.out j hj
          refine ⟨g, e, h1, ?_, h4, h5⟩
          rw [(B5.out.trans (hb6.mono B5.out.size)).cell (p := ⟨g, j * 2 + 1, none⟩) h2]
          exact h3
        clear HK6 hb6 N5 B5 R4
        have hrn1 : rn ≤ 101 := by omega
        dsimp only
        go_wp2_with fail
        go_loopw [11] (fun jv wx => ∃ j : Nat, j ≤ rn ∧ jv = .int .i64 j ∧ wx = w6) (fun jv _ => rn - (intOf jv).toNat)
        case atStart => exact ⟨0, Nat.zero_le _, by first | trivial | rfl, by first | trivial | rfl⟩
        case round =>
          obtain ⟨j, hj, rfl, rfl⟩ := hrel
          by_cases hjl : j < rn
          · obtain ⟨g, e, rfl, c0, he0, he1⟩ := R6.out j hjl
            have hj8 : (j : Int) < rn := by omega
            have hw : IntKind.u64.wrap (e + 2) = e + 2 := by rw [IntKind.wrap_u64]; omega
            have hg : ¬ E < e + 2 := by omega
            go_wp2_with fail
            go_roundw
            case rel => exact ⟨j + 1, by omega, by first | go_num | trivial, by first | trivial | rfl⟩
            case measure => simp [intOf]; omega
          · have hj8 : ¬ (j : Int) < rn := by omega
            go_wp2_with fail
            go_roundw
            case rel => exact ⟨k + 1, told + rn, E, _, _, _, _, _, _, by omega, by omega, by first | go_num | trivial, by first | rfl | trivial | go_num, by first | go_num | trivial, N6⟩
            case measure => simp [intOf]; omega
    · have hkn : k = ws.length := by omega
      subst hkn
      have hk8 : ¬ (ws.length : Int) < ws.length := by omega
      have hE2 : E + 2 < 18446744073709551616 := by omega
      have hw : IntKind.u64.wrap (E + 2) = E + 2 := by rw [IntKind.wrap_u64]; omega
      have hl : (l0 ++ l1 ++ l2).length ≤ 1000 := by omega
      go_wp2_with fail
      refine (limbo_ripe _ _ _ _ _ l0 l1 l2 hK.out.at_ hl (E + 2) (by omega) hE2).mono ?_
      unfold Riped
      rintro e w4 ⟨va, vc, r, p0, p1, p2, rfl, hR, hL, hF, hS, hM⟩
      have hbd : ∀ y ∈ l0 ++ l1 ++ l2, 0 ≤ y.ep ∧ y.ep ≤ E := hK.out.bd
      have hall := ripe_all (by omega) hbd
      have N4 := Lib.hid (lo_ripe hK.out.bel hK.out.cls hbd (show E ≤ E + 2 by omega) htot hL hF hM)
      have htot4 := N4.out.tot
      rw [hall] at N4 htot4 ⊢
      obtain ⟨Ln, hLn⟩ : ∃ Ln, ((l0.filter fun x => !ripeB (E + 2) x) ++ (l1.filter fun x => !ripeB (E + 2) x) ++ (l2.filter fun x => !ripeB (E + 2) x)).length = Ln := ⟨_, rfl⟩
      obtain ⟨M, hMn⟩ : ∃ M, (l0 ++ l1 ++ l2).length = M := ⟨_, rfl⟩
      rw [hLn] at htot4
      rw [hMn] at htot4 htot N4 ⊢
      have hb0 : Ln = 0 := by omega
      rw [hb0] at hLn
      have K5 := limbo_len w4 _ _ _ _ _ _ _ N4.out.at_ (by rw [hLn]; omega)
      rw [hLn] at K5
      have HK5 := Lib.hid K5
      have hn64 : ws.length ≤ 100 := hn
      have hsum : (told : Int) + M = ws.length := by omega
      clear hR hL hF hS hM K5 hLn hMn hall hbd hK htot4 hl
      dsimp only
      go_wp2_with fail
      refine HK5.out.mono ?_
      rintro e w5 ⟨rfl, hb5⟩
      have N5 := Lib.hid (N4.out.below hb5)
      clear HK5 hb5 N4
      dsimp only
      go_wp2_with fail
      refine (limbo_awake _).mono ?_
      rintro e w6 ⟨rfl, hb6⟩
      have N6 := Lib.hid (N5.out.below hb6)
      clear hb6 N5
      dsimp only
      go_wp2_with fail
      go_ret
      exact ⟨rfl, N6.out.bel⟩
theorem limboOnce_calls (v uv : Value) (ws : List Int) (un : Nat) (w : World) (hU : U64s w w.heap.size v ws) (hI : I64s w w.heap.size uv un) :
    Calls Try.prog 17 #[v, uv] w fun e w' => e = .returned (.bool true) ∧ Below w.heap.size w w' := by
  by_cases hn : ws.length ≤ 100
  · exact limboOnce_walk v uv ws un w hU hI hn
  · obtain ⟨a, c, rfl, _⟩ := hU.ex
    obtain ⟨ua, uc, rfl, _⟩ := hI.ex
    exact limboOnce_skip a _ c ua un uc (by omega) w
end Go.Proofs.Ytgkobmmannkegaa
