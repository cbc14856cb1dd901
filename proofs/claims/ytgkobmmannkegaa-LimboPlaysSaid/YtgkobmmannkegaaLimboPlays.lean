/-
  The law LimboPlays (chapter 15), walked.
-/
import Derived.Test.YtgkobmmannkegaaLimboDoc
import Derived.Test.YtgkobmmannkegaaLimboOnce
namespace Go.Proofs.Ytgkobmmannkegaa
open Go Go.RowKit
set_option linter.unusedVariables false

/-- A list of deeds that is handed in: a slot with its epoch, and whether to take. -/
structure RopsR (w : World) (hi : Nat) (v : Value) (n : Nat) : Prop where
  ex : ∃ (a : Option Addr) (c : Nat), v = .slice a n c ∧ (0 < n → ∃ b off, a = some ⟨b, off, none⟩ ∧ b < hi ∧ ∀ i, i < n → ∃ (r e : Int) (t : Bool), w.cell? ⟨b, off + i * 3, none⟩ = some (.int .u64 r) ∧ w.cell? ⟨b, off + i * 3 + 1, none⟩ = some (.int .u64 e) ∧ w.cell? ⟨b, off + i * 3 + 2, none⟩ = some (.bool t) ∧ 0 ≤ e ∧ e < 18446744073709551616)
theorem limbo_ripe_nil (e : Int) (w : World) : Calls Try.prog 110 #[.pointer none, .int .u64 e] w fun e w' => e = .returned (.slice none 0 0) ∧ w = w' := by
  go_enter Try.func110, Try.ntmps110
  go_wp2_with fail
  go_ret
  exact ⟨rfl, rfl⟩
theorem RLf.lower {w : World} {lo : Nat} {v : Value} {l : List Rt} (h : RLf w lo v l) : RL w v l := by
  obtain ⟨r, h⟩ := h
  exact ⟨r, h.lower (Nat.zero_le _)⟩
theorem RLf.ge {w : World} {lo : Nat} {v : Value} {l : List Rt} (h : RLf w lo v l) {q : Nat} (hq : v.ownBlock = some q) : lo ≤ q ∧ q < w.heap.size := by
  obtain ⟨r, h⟩ := h
  exact ⟨own_ge h.1 q hq, (World.ownsRow.lt h.1 q hq).2⟩
theorem limboPlays_skip (a : Option Addr) (n c : Nat) (hn : 200 < n) (w : World) : Calls Try.prog 16 #[.slice a n c] w fun e w' => e = .returned (.bool true) ∧ Below w.heap.size w w' := by
  go_enter Try.func16, Try.ntmps16
  go_wp2_with fail
  refine (limbo_awake _).mono ?_
  rintro e w1 ⟨rfl, hb⟩
  go_wp2_with fail
  go_ret
  exact ⟨rfl, hb⟩
attribute [local irreducible] refAdd
/-- What is kept from deed to deed. -/
structure LP (w0 : World) (k : Nat) (rv v0 v1 v2 : Value) (l0 l1 l2 : List Rt) (w : World) : Prop where
  at_ : LimboAt w w0.heap.size v0 v1 v2 l0 l1 l2
  cls : Cls l0 l1 l2
  row : RL w rv (l0 ++ l1 ++ l2)
  len : (l0 ++ l1 ++ l2).length ≤ k
  bd : ∀ x ∈ l0 ++ l1 ++ l2, 0 ≤ x.ep
  own : ∀ q, LB w0.heap.size v0 v1 v2 q → w0.heap.size ≤ q
  apart : ∀ q, rv.ownBlock = some q → ¬ LB w0.heap.size v0 v1 v2 q
  bel : Below w0.heap.size w0 w
section
variable {w0 w w' : World} {k : Nat} {rv v0 v1 v2 : Value} {l0 l1 l2 : List Rt}
theorem LP.below (h : LP w0 k rv v0 v1 v2 l0 l1 l2 w) (hb : Below w.heap.size w w') : LP w0 k rv v0 v1 v2 l0 l1 l2 w' :=
  ⟨h.at_.below hb, h.cls, h.row.below hb, h.len, h.bd, h.own, h.apart, h.bel.trans (hb.mono h.bel.size)⟩
/-- The limbo behind Add, the document's list as it was. -/
theorem LP.added {x e : Int} (h : LP w0 k rv v0 v1 v2 l0 l1 l2 w) (he : 0 ≤ e) {u0 u1 u2 : Value} {m0 m1 m2 : List Rt} (hL : LimboAt w' w0.heap.size u0 u1 u2 m0 m1 m2) (hF : ∀ q, LB w0.heap.size u0 u1 u2 q → LB w0.heap.size v0 v1 v2 q ∨ w.heap.size ≤ q) (hM : Mod (LB w0.heap.size v0 v1 v2) w w') :
    RL w' rv (l0 ++ l1 ++ l2) ∧ (∀ q, LB w0.heap.size u0 u1 u2 q → w0.heap.size ≤ q) ∧ Below w0.heap.size w0 w' :=
  ⟨h.row.mod hM h.apart, fun q hq => by
    rcases hF q hq with h1 | h1
    · exact h.own q h1
    · have := h.bel.size; omega, below_mod h.bel hM h.bel.size (fun q hq e => by have := h.own q e; omega)⟩
/-- .. and the document's list after its own Add. -/
theorem LP.next {x e : Int} {w3 : World} {rv' : Value} (h : LP w0 k rv v0 v1 v2 l0 l1 l2 w) (he : 0 ≤ e) {u0 u1 u2 : Value} {m0 m1 m2 : List Rt} (hL : LimboAt w' w0.heap.size u0 u1 u2 m0 m1 m2) (hC : Cls m0 m1 m2) (hE : m0 ++ m1 ++ m2 = refAdd (l0 ++ l1 ++ l2) ⟨x, e⟩) (hF : ∀ q, LB w0.heap.size u0 u1 u2 q → w0.heap.size ≤ q) (hB : Below w0.heap.size w0 w')
    (hR : RLf w3 w'.heap.size rv' (refAdd (l0 ++ l1 ++ l2) ⟨x, e⟩)) (hb : Below w'.heap.size w' w3) : LP w0 (k + 1) rv' u0 u1 u2 m0 m1 m2 w3 := by
  refine ⟨hL.below hb, hC, by rw [hE]; exact hR.lower, ?_, fun y hy => ?_, hF, fun q hq hl => ?_, hB.trans (hb.mono hB.size)⟩
  · rw [hE, refAdd_length]; have := h.len; omega
  · rw [hE] at hy
    rcases mem_refAdd hy with h1 | rfl
    · exact h.bd y h1
    · exact he
  · have h1 := (hR.ge hq).1
    have h2 := hL.lt hl
    omega
/-- Taken: the limbo and the document's list lose the same. -/
theorem LP.taken {ep : Int} {w3 : World} {yv : Value} (h : LP w0 k rv v0 v1 v2 l0 l1 l2 w) (hb : Below w.heap.size w w') {u0 u1 u2 : Value} (hY : RLf w' w.heap.size yv ((l0 ++ l1 ++ l2).filter fun x => !ripeB ep x))
    (hL : LimboAt w3 w0.heap.size u0 u1 u2 (l0.filter fun x => !ripeB ep x) (l1.filter fun x => !ripeB ep x) (l2.filter fun x => !ripeB ep x)) (hF : ∀ q, LB w0.heap.size u0 u1 u2 q → q = w0.heap.size ∨ w'.heap.size ≤ q) (hM : Mod (fun q => q = w0.heap.size) w' w3) :
    LP w0 (k + 1) yv u0 u1 u2 (l0.filter fun x => !ripeB ep x) (l1.filter fun x => !ripeB ep x) (l2.filter fun x => !ripeB ep x) w3 := by
  have hs : ((l0.filter fun x => !ripeB ep x) ++ (l1.filter fun x => !ripeB ep x) ++ (l2.filter fun x => !ripeB ep x)) = (l0 ++ l1 ++ l2).filter fun x => !ripeB ep x := by simp
  have hlt := h.at_.blk.lt
  have hB := h.bel.trans (hb.mono h.bel.size)
  refine ⟨hL, h.cls.filter _, by rw [hs]; exact hY.lower.mod hM (fun q hq e => by have := (hY.ge hq).1; omega), ?_, fun y hy => ?_, fun q hq => ?_, fun q hq hl => ?_, below_mod hB hM hB.size (fun q hq e => by omega)⟩
  · rw [hs]; have := List.length_filter_le (fun x => !ripeB ep x) (l0 ++ l1 ++ l2); have := h.len; omega
  · rw [hs] at hy
    exact h.bd y (List.mem_filter.1 hy).1
  · have := hB.size
    rcases hF q hq with h1 | h1 <;> omega
  · have h1 := hY.ge hq
    rcases hF q hl with h2 | h2 <;> omega
end
theorem RL.len {w : World} {a : Option Addr} {n c : Nat} {l : List Rt} (h : RL w (.slice a n c) l) : l.length = n := by
  obtain ⟨a', c', hv⟩ := h.shape
  injection hv with _ h1 _
  exact h1.symm
section
variable {m0 m1 m2 : List Rt} {L : Nat}
theorem all_len (hL : (m0 ++ m1 ++ m2).length = L) (hn : L ≤ 1000) (W : World) (b : Nat) (u0 u1 u2 : Value) (h : LimboAt W b u0 u1 u2 m0 m1 m2) : Calls Try.prog 111 #[.pointer (some ⟨b, 0, none⟩)] W fun e w' => ∃ ca cc, e = .returned (.slice ca L cc) ∧ RL w' (.slice ca L cc) (m0 ++ m1 ++ m2) ∧ Below W.heap.size W w' := by
  refine (limbo_all W b u0 u1 u2 m0 m1 m2 h (by omega)).mono ?_
  rintro e w' ⟨va, vc, r, he, hR, hb⟩
  rw [hL] at he hR
  exact ⟨va, vc, he, ⟨r, hR.lower (Nat.zero_le _)⟩, hb⟩
theorem len_len (hL : (m0 ++ m1 ++ m2).length = L) (hn : L ≤ 1000) (W : World) (b : Nat) (u0 u1 u2 : Value) (h : LimboAt W b u0 u1 u2 m0 m1 m2) : Calls Try.prog 112 #[.pointer (some ⟨b, 0, none⟩)] W fun e w' => e = .returned (.int .i64 (L : Int)) ∧ Below W.heap.size W w' := by
  have := limbo_len W b u0 u1 u2 m0 m1 m2 h (by omega)
  rw [hL] at this
  exact this
theorem copy_len (hL : (m0 ++ m1 ++ m2).length = L) (hn : L ≤ 1000) (W : World) (b : Nat) (u0 u1 u2 : Value) (h : LimboAt W b u0 u1 u2 m0 m1 m2) : Calls Try.prog 113 #[.pointer (some ⟨b, 0, none⟩)] W fun e w' => ∃ c x0 x1 x2, e = .returned (.pointer (some ⟨c, 0, none⟩)) ∧ LimboAt w' c x0 x1 x2 m0 m1 m2 ∧ Below W.heap.size W w' := by
  refine (limbo_copy W b u0 u1 u2 m0 m1 m2 h (by omega)).mono ?_
  rintro e w' ⟨c, x0, x1, x2, he, hL2, _, hb⟩
  exact ⟨c, x0, x1, x2, he, hL2, hb⟩
theorem same_len (hL : (m0 ++ m1 ++ m2).length = L) (hn : L ≤ 1000) (W : World) (v1 v2 : Value) (h1 : RL W v1 (m0 ++ m1 ++ m2)) (h2 : RL W v2 (m0 ++ m1 ++ m2)) : Calls Try.prog 109 #[v1, v2] W fun e w' => e = .returned (.bool true) ∧ Below W.heap.size W w' :=
  rsame_calls v1 v2 _ W h1 h2 (by omega)
end
set_option maxHeartbeats 8000000 in
set_option maxRecDepth 100000 in
theorem limboPlays_walk (v : Value) (n : Nat) (w : World) (hS : RopsR w w.heap.size v n) (hn : n ≤ 200) :
    Calls Try.prog 16 #[v] w fun e w' => e = .returned (.bool true) ∧ Below w.heap.size w w' := by
  have hx := hS
  obtain ⟨a, c, rfl, _⟩ := hx.ex
  have S0 := Lib.hid hS
  clear hS hx
  go_enter Try.func16, Try.ntmps16
  go_wp2_with fail
  refine (limbo_new w).mono ?_
  rintro e w1 ⟨rfl, hA, hw1⟩
  have K1 : Hid (LP w 0 (.slice none 0 0) (.slice none 0 0) (.slice none 0 0) (.slice none 0 0) [] [] [] w1) := ⟨hA, Cls.nil, RL.nil _, by simp, by simp, by
    rintro q (rfl | hq | hq | hq)
    · exact Nat.le_refl _
    all_goals simp [Value.ownBlock] at hq, by simp [Value.ownBlock], by rw [hw1]; exact (Below.refl _ _).alloc (Nat.le_refl _) _⟩
  clear hA hw1
  dsimp only
  go_wp2_with fail
  go_loopw [4, 5] (fun rv i wr => ∃ (k : Nat) (v0 v1 v2 : Value) (l0 l1 l2 : List Rt), k ≤ n ∧ i = .int .i64 k ∧ Hid (LP w k rv v0 v1 v2 l0 l1 l2 wr)) (fun _ i _ => n - (intOf i).toNat)
  case atStart => exact ⟨0, _, _, _, [], [], [], by omega, rfl, K1⟩
  case round =>
    rename_i rv0 _
    obtain ⟨k, v0, v1, v2, l0, l1, l2, hk, rfl, hK⟩ := hrel
    clear K1
    obtain ⟨ra, rc, hrv⟩ := hK.out.row.shape
    subst hrv
    have hbw := hK.out.at_.blk.lt
    have hlen := hK.out.len
    obtain ⟨M, hMn⟩ : ∃ M, (l0 ++ l1 ++ l2).length = M := ⟨_, rfl⟩
    rw [hMn] at hK hlen ⊢
    have HMn := Lib.hid hMn
    clear hMn
    by_cases hlt : k < n
    · obtain ⟨b, off, rfl, hb, xr, xe, xt, d0, d1, d2, he0, he1⟩ : ∃ b off, a = some ⟨b, off, none⟩ ∧ b < w.heap.size ∧ ∃ (r e : Int) (t : Bool), w.cell? ⟨b, off + k * 3, none⟩ = some (.int .u64 r) ∧ w.cell? ⟨b, off + k * 3 + 1, none⟩ = some (.int .u64 e) ∧ w.cell? ⟨b, off + k * 3 + 2, none⟩ = some (.bool t) ∧ 0 ≤ e ∧ e < 18446744073709551616 := by
        obtain ⟨a', c', hv, hc⟩ := S0.out.ex
        obtain ⟨b, off, ha, hb, hcs⟩ := hc (by omega)
        injection hv with hv _ _
        subst hv
        exact ⟨b, off, ha, hb, hcs k hlt⟩
      have HB := Lib.hid hb
      have D0 := Lib.hid d0
      have D1 := Lib.hid d1
      have D2 := Lib.hid d2
      have c0 := (hK.out.bel.cell (p := ⟨b, off + k * 3, none⟩) hb).trans d0
      have c1 := (hK.out.bel.cell (p := ⟨b, off + k * 3 + 1, none⟩) hb).trans d1
      have c2 := (hK.out.bel.cell (p := ⟨b, off + k * 3 + 2, none⟩) hb).trans d2
      clear d0 d1 d2
      have hk8 : (k : Int) < n := by omega
      have hn8 : n ≤ 200 := hn
      cases xt with
      | false =>
        go_wp2_with fail
        refine wp_region_tail 13 (by kernel_rfl) (by kernel_rfl) ?_
        simp only [List.take_succ_cons, List.take_zero, List.drop_succ_cons, List.drop_zero]
        repeat (quiet_step (fail))
        refine wpQuiet_nil ?_
        intro w2 hb2
        have K2 := Lib.hid (hK.out.below hb2)
        clear hb2 hK c0 c1 c2
        go_wp2_with fail
        refine (limbo_add _ _ _ _ _ l0 l1 l2 K2.out.at_ K2.out.cls (by rw [HMn.out]; omega) xr xe he0).mono ?_
        rintro e w3 ⟨rfl, u0, u1, u2, m0, m1, m2, hL, hC, hE, hF, hM⟩
        obtain ⟨hRL, hF2, hB3⟩ := K2.out.added (x := xr) he0 hL hF hM
        have c0 := (hB3.cell (p := ⟨b, off + k * 3, none⟩) HB.out).trans D0.out
        have c1 := (hB3.cell (p := ⟨b, off + k * 3 + 1, none⟩) HB.out).trans D1.out
        have R3 := Lib.hid (radd_calls _ (l0 ++ l1 ++ l2) xr xe w3 hRL (by rw [HMn.out]; omega) K2.out.bd he0)
        have N3 : Hid (∀ w4 rv', RLf w4 w3.heap.size rv' (refAdd (l0 ++ l1 ++ l2) ⟨xr, xe⟩) → Below w3.heap.size w3 w4 → LP w (k + 1) rv' u0 u1 u2 m0 m1 m2 w4) := fun w4 rv' h1 h2 => K2.out.next he0 hL hC hE hF2 hB3 h1 h2
        clear hL hC hE hF hM hRL hF2 hB3 K2
        dsimp only
        go_wp2_with fail
        refine R3.out.mono ?_
        rintro e w4 ⟨va, vc, rfl, hR4, hb4⟩
        have K4 := Lib.hid (N3.out _ _ hR4 hb4)
        clear hR4 hb4 R3 N3 c0 c1 D0 D1 D2
        obtain ⟨L, hL⟩ : ∃ L, (refAdd (l0 ++ l1 ++ l2) ⟨xr, xe⟩).length = L := ⟨_, rfl⟩
        rw [hL] at K4 ⊢
        have hlen4 := K4.out.len
        have hML := K4.out.row.len
        have hLn : L ≤ 1000 := by omega
        have AL := Lib.hid (all_len hML hLn)
        have LN := Lib.hid (len_len hML hLn)
        have CP := Lib.hid (copy_len hML hLn)
        have SM := Lib.hid (same_len hML hLn)
        have hL200 : L ≤ 201 := by omega
        clear hlen4 hML
        dsimp only
        go_wp2_with fail
        refine (AL.out _ _ _ _ _ K4.out.at_).mono ?_
        rintro e w5 ⟨ca, cc, rfl, hR5, hb5⟩
        have K5 := Lib.hid (K4.out.below hb5)
        have R5 := Lib.hid hR5
        clear hR5 hb5 K4
        dsimp only
        go_wp2_with fail
        refine (SM.out _ _ _ R5.out K5.out.row).mono ?_
        rintro e w6 ⟨rfl, hb6⟩
        have K6 := Lib.hid (K5.out.below hb6)
        clear hb6 K5 R5
        dsimp only
        go_wp2_with fail
        refine (LN.out _ _ _ _ _ K6.out.at_).mono ?_
        rintro e w7 ⟨rfl, hb7⟩
        have K7 := Lib.hid (K6.out.below hb7)
        clear hb7 K6
        dsimp only
        go_wp2_with fail
        refine (CP.out _ _ _ _ _ K7.out.at_).mono ?_
        rintro e w8 ⟨cb, x0, x1, x2, rfl, hL8, hb8⟩
        have K8 := Lib.hid (K7.out.below hb8)
        have C8 := Lib.hid hL8
        clear hL8 hb8 K7
        dsimp only
        go_wp2_with fail
        refine (AL.out _ _ _ _ _ C8.out).mono ?_
        rintro e w9 ⟨da, dc, rfl, hR9, hb9⟩
        have K9 := Lib.hid (K8.out.below hb9)
        have R9 := Lib.hid hR9
        clear hR9 hb9 K8 C8
        dsimp only
        go_wp2_with fail
        refine (SM.out _ _ _ R9.out K9.out.row).mono ?_
        rintro e w10 ⟨rfl, hb10⟩
        have K10 := Lib.hid (K9.out.below hb10)
        clear hb10 K9 R9 AL LN CP SM
        dsimp only
        go_wp2_with fail
        go_roundw
        case rel => exact ⟨k + 1, _, _, _, _, _, _, by omega, by first | go_num | trivial, K10⟩
        case measure => simp [intOf]; omega
      | true =>
        go_wp2_with fail
        refine (rtake_calls _ (l0 ++ l1 ++ l2) xe _ hK.out.row (by rw [HMn.out]; omega) he0 he1).mono ?_
        rintro e w2 ⟨xa, xc, va, vc, rfl, hX, hY, hb2⟩
        have hB2 := (hK.out.bel.trans (hb2.mono hK.out.bel.size))
        have c1 := (hB2.cell (p := ⟨b, off + k * 3 + 1, none⟩) HB.out).trans D1.out
        have RP := Lib.hid (limbo_ripe w2 _ v0 v1 v2 l0 l1 l2 (hK.out.at_.below hb2) (by rw [HMn.out]; omega) xe he0 he1)
        have NX : Hid (∀ w3 u0 u1 u2, LimboAt w3 w.heap.size u0 u1 u2 (l0.filter fun x => !ripeB xe x) (l1.filter fun x => !ripeB xe x) (l2.filter fun x => !ripeB xe x) → (∀ q, LB w.heap.size u0 u1 u2 q → q = w.heap.size ∨ w2.heap.size ≤ q) → Mod (fun q => q = w.heap.size) w2 w3 →
          RL w3 (.slice xa ((l0 ++ l1 ++ l2).filter (ripeB xe)).length xc) ((l0 ++ l1 ++ l2).filter (ripeB xe)) ∧ LP w (k + 1) (.slice va ((l0 ++ l1 ++ l2).filter fun x => !ripeB xe x).length vc) u0 u1 u2 (l0.filter fun x => !ripeB xe x) (l1.filter fun x => !ripeB xe x) (l2.filter fun x => !ripeB xe x) w3) := fun w3 u0 u1 u2 h1 h2 h3 =>
          ⟨hX.lower.mod h3 (fun q hq e => by have := (hX.ge hq).1; omega), hK.out.taken hb2 hY h1 h2 h3⟩
        have hXl : ((l0 ++ l1 ++ l2).filter (ripeB xe)).length ≤ 60000 := by have := List.length_filter_le (ripeB xe) (l0 ++ l1 ++ l2); rw [HMn.out] at this; omega
        clear hX hY hb2 hK hB2 D0 D1 D2 c2 c0
        unfold Riped at RP
        generalize (l0 ++ l1 ++ l2).filter (ripeB xe) = X at *
        generalize ((l0 ++ l1 ++ l2).filter fun x => !ripeB xe x) = Y at *
        obtain ⟨LX, hLX⟩ : ∃ LX, X.length = LX := ⟨_, rfl⟩
        obtain ⟨L, hLY⟩ : ∃ L, Y.length = L := ⟨_, rfl⟩
        rw [hLX] at RP NX hXl ⊢
        rw [hLY] at NX ⊢
        have HLX := Lib.hid hLX
        clear hLX hLY
        dsimp only
        go_wp2_with fail
        refine RP.out.mono ?_
        rintro e w3 ⟨ya, yc, r, u0, u1, u2, rfl, hR, hL, hF, hSS, hM⟩
        obtain ⟨hX3, hN3⟩ := NX.out _ _ _ _ hL hF hM
        have X3 := Lib.hid hX3
        have Y3 : Hid (RL w3 (.slice ya LX yc) X) := ⟨r, hR.lower (Nat.zero_le _)⟩
        obtain ⟨m0, m1, m2, K3⟩ : ∃ m0 m1 m2, Hid (LP w (k + 1) (.slice va L vc) u0 u1 u2 m0 m1 m2 w3) := ⟨_, _, _, hN3⟩
        clear hX3 hN3 hR hL hF hSS hM RP NX c1
        dsimp only
        go_wp2_with fail
        refine (rsame_calls _ _ X w3 Y3.out X3.out (by rw [HLX.out]; exact hXl)).mono ?_
        rintro e w4 ⟨rfl, hb4⟩
        have K4 := Lib.hid (K3.out.below hb4)
        clear hb4 K3 X3 Y3
        have hlen4 := K4.out.len
        have hML := K4.out.row.len
        have hLn : L ≤ 1000 := by omega
        have AL := Lib.hid (all_len hML hLn)
        have LN := Lib.hid (len_len hML hLn)
        have CP := Lib.hid (copy_len hML hLn)
        have SM := Lib.hid (same_len hML hLn)
        have hL200 : L ≤ 201 := by omega
        clear hlen4 hML
        dsimp only
        go_wp2_with fail
        refine (AL.out _ _ _ _ _ K4.out.at_).mono ?_
        rintro e w5 ⟨ca, cc, rfl, hR5, hb5⟩
        have K5 := Lib.hid (K4.out.below hb5)
        have R5 := Lib.hid hR5
        clear hR5 hb5 K4
        dsimp only
        go_wp2_with fail
        refine (SM.out _ _ _ R5.out K5.out.row).mono ?_
        rintro e w6 ⟨rfl, hb6⟩
        have K6 := Lib.hid (K5.out.below hb6)
        clear hb6 K5 R5
        dsimp only
        go_wp2_with fail
        refine (LN.out _ _ _ _ _ K6.out.at_).mono ?_
        rintro e w7 ⟨rfl, hb7⟩
        have K7 := Lib.hid (K6.out.below hb7)
        clear hb7 K6
        dsimp only
        go_wp2_with fail
        refine (CP.out _ _ _ _ _ K7.out.at_).mono ?_
        rintro e w8 ⟨cb, x0, x1, x2, rfl, hL8, hb8⟩
        have K8 := Lib.hid (K7.out.below hb8)
        have C8 := Lib.hid hL8
        clear hL8 hb8 K7
        dsimp only
        go_wp2_with fail
        refine (AL.out _ _ _ _ _ C8.out).mono ?_
        rintro e w9 ⟨da, dc, rfl, hR9, hb9⟩
        have K9 := Lib.hid (K8.out.below hb9)
        have R9 := Lib.hid hR9
        clear hR9 hb9 K8 C8
        dsimp only
        go_wp2_with fail
        refine (SM.out _ _ _ R9.out K9.out.row).mono ?_
        rintro e w10 ⟨rfl, hb10⟩
        have K10 := Lib.hid (K9.out.below hb10)
        clear hb10 K9 R9 AL LN CP SM
        dsimp only
        go_wp2_with fail
        go_roundw
        case rel => exact ⟨k + 1, _, _, _, _, _, _, by omega, by first | go_num | trivial, K10⟩
        case measure => simp [intOf]; omega
    · have hk8 : ¬ (k : Int) < n := by omega
      clear HMn hlen hbw
      go_wp2_with fail
      refine (limbo_add_nil 1 1 _).mono ?_
      rintro e w2 ⟨rfl, rfl⟩
      dsimp only
      go_wp2_with fail
      refine (limbo_len_nil _).mono ?_
      rintro e w2 ⟨rfl, rfl⟩
      dsimp only
      go_wp2_with fail
      refine (limbo_all_nil _).mono ?_
      rintro e w2 ⟨rfl, rfl⟩
      dsimp only
      go_wp2_with fail
      refine (limbo_ripe_nil 9 _).mono ?_
      rintro e w2 ⟨rfl, rfl⟩
      dsimp only
      go_wp2_with fail
      refine (limbo_copy_nil _).mono ?_
      rintro e w2 ⟨rfl, rfl⟩
      dsimp only
      go_wp2_with fail
      refine (limbo_awake _).mono ?_
      rintro e w2 ⟨rfl, hb2⟩
      dsimp only
      go_wp2_with fail
      go_ret
      exact ⟨rfl, hK.out.bel.trans (hb2.mono hK.out.bel.size)⟩
theorem limboPlays_calls (v : Value) (n : Nat) (w : World) (hS : RopsR w w.heap.size v n) : Calls Try.prog 16 #[v] w fun e w' => e = .returned (.bool true) ∧ Below w.heap.size w w' := by
  by_cases hn : n ≤ 200
  · exact limboPlays_walk v n w hS hn
  · obtain ⟨a, c, rfl, _⟩ := hS.ex
    exact limboPlays_skip a n c (by omega) w
end Go.Proofs.Ytgkobmmannkegaa
