/-
  Chapter 7's fixed course: After, Changes, and the text of the example.
-/
import Derived.Test.YtippfkokgpdmdaaDoorDeed
import Derived.Test.YtippfkokgpdmdaaDoorJoin
import Derived.Lib.ItoaNum
import Derived.Maps.AppendAt
namespace Go.Proofs.YtippfkokgpdmdaaDoor
open Go Go.RowKit
set_option linter.unusedVariables false

/-- What a word becomes by a deed. -/
def afterP (x : Int) (d : D) : Int := if d.k = 2 then d.a else if d.k = 3 ∧ x = d.a then d.b else if d.k = 4 then (x + d.a) % 18446744073709551616 else x
theorem after_calls (x : Int) (d : D) (w : World) : Calls Tryd.prog 39 #[.int .u64 x, .agg #[.int .i64 d.k, .int .i64 d.at_, .int .u64 d.a, .int .u64 d.b, .int .u64 d.by_]] w fun e w' => e = .returned (.int .u64 (afterP x d)) ∧ Below w.heap.size w w' := by
  obtain ⟨k, at_, a, b, by_⟩ := d
  have b1 : Below w.heap.size w (w.alloc (.cells #[.int .i64 k, .int .i64 at_, .int .u64 a, .int .u64 b, .int .u64 by_] 48)) := (Below.refl _ _).alloc (Nat.le_refl _) _
  have C1 := (Blk.new w [.int .i64 k, .int .i64 at_, .int .u64 a, .int .u64 b, .int .u64 by_] 48).cell
  have HP : Hid (afterP x ⟨k, at_, a, b, by_⟩ = if k = 2 then a else if k = 3 ∧ x = a then b else if k = 4 then (x + a) % 18446744073709551616 else x) := rfl
  generalize afterP x ⟨k, at_, a, b, by_⟩ = r at *
  by_cases h2 : k = 2
  · subst h2
    have HR : Hid (r = a) := by show _ = _; rw [HP.out, if_pos rfl]
    go_enter Tryd.func39, Tryd.ntmps39
    go_wp2_with fail
    go_ret
    exact ⟨ret_u64 HR.out.symm, b1⟩
  · have q2 : (k == 2) = false := by simpa using h2
    by_cases h3 : k = 3
    · subst h3
      by_cases hx : x = a
      · subst hx
        have HR : Hid (r = b) := by show _ = _; rw [HP.out, if_neg (by omega), if_pos ⟨rfl, rfl⟩]
        go_enter Tryd.func39, Tryd.ntmps39
        go_wp2_with fail
        go_ret
        exact ⟨ret_u64 HR.out.symm, b1⟩
      · have qx : (x == a) = false := by simpa using hx
        have HR : Hid (r = x) := by show _ = _; rw [HP.out, if_neg (by omega), if_neg (by simp [hx]), if_neg (by omega)]
        go_enter Tryd.func39, Tryd.ntmps39
        go_wp2_with fail
        go_ret
        exact ⟨ret_u64 HR.out.symm, b1⟩
    · have q3 : (k == 3) = false := by simpa using h3
      by_cases h4 : k = 4
      · subst h4
        have HR : Hid (r = (x + a) % 18446744073709551616) := by show _ = _; rw [HP.out, if_neg (by omega), if_neg (by simp), if_pos rfl]
        go_enter Tryd.func39, Tryd.ntmps39
        go_wp2_with fail
        go_ret
        exact ⟨ret_u64 (by rw [HR.out]; first | rfl | (rw [IntKind.wrap_u64])), b1⟩
      · have q4 : (k == 4) = false := by simpa using h4
        have HR : Hid (r = x) := by show _ = _; rw [HP.out, if_neg h2, if_neg (by simp [h3]), if_neg h4]
        go_enter Tryd.func39, Tryd.ntmps39
        go_wp2_with fail
        go_ret
        exact ⟨ret_u64 HR.out.symm, b1⟩
theorem changes_calls (x : Int) (d : D) (w : World) : Calls Tryd.prog 41 #[.int .u64 x, .agg #[.int .i64 d.k, .int .i64 d.at_, .int .u64 d.a, .int .u64 d.b, .int .u64 d.by_]] w fun e w' => e = .returned (.bool (!(afterP x d == x))) ∧ Below w.heap.size w w' := by
  have A := Lib.hid (after_calls x d)
  have b1 : Below w.heap.size w (w.alloc (.cells #[.int .i64 d.k, .int .i64 d.at_, .int .u64 d.a, .int .u64 d.b, .int .u64 d.by_] 48)) := (Below.refl _ _).alloc (Nat.le_refl _) _
  have C1 := (Blk.new w [.int .i64 d.k, .int .i64 d.at_, .int .u64 d.a, .int .u64 d.b, .int .u64 d.by_] 48).cell
  go_enter Tryd.func41, Tryd.ntmps41
  go_wp2_with fail
  refine (A.out _).mono ?_
  rintro e w1 ⟨rfl, hb⟩
  go_wp2_with fail
  go_ret
  exact ⟨ret_bool (by first | rfl | simp), b1.trans (hb.mono b1.size)⟩
theorem own_ne {w : World} {lo : Nat} {e T : TypeId} {size : Nat} {v : Value} {n b : Nat} {xs cs : List Value} (h : w.ownsRow lo e size v n xs) (hB : Blk w b cs T) (hT : T ≠ e) : ∀ k, v.ownBlock = some k → k ≠ b := by
  rintro k hk rfl
  rcases h.2 with ⟨rfl, _⟩ | ⟨q, cap, cur, rfl, _, hh, _⟩
  · simp [Value.ownBlock] at hk
  · simp [Value.ownBlock] at hk
    subst hk
    unfold Blk at hB
    rw [hB] at hh
    injection hh with hh
    injection hh with _ hh
    exact hT hh
def textL : List Value := [.string ⟨#[115, 119, 97, 112]⟩, .string ⟨#[51]⟩, .string ⟨#[53]⟩, .string ⟨#[54]⟩]
theorem dec_one (i : Nat) (h : i < 10) : (⟨(Go.Lib.decDigits i).toArray⟩ : ByteArray) = ⟨#[UInt8.ofNat (48 + i)]⟩ := by
  unfold Go.Lib.decDigits
  rw [dif_pos h]
theorem info9 : (Tryd.prog.info? 9).map (fun i => (i.zero, i.size, i.bytes)) = some (some (.string ⟨#[]⟩), 1, 16) := by kernel_rfl
theorem formatUint_small (i : Nat) (h : i < 100) (w : World) : Calls Tryd.prog 54 #[.int .u64 i, .int .i64 10] w fun e w' => e = .returned (.string ⟨(Go.Lib.decDigits i).toArray⟩) ∧ w' = w := by
  have S := Lib.hid (Tryd.internal_strconv_small i h)
  have h1 : decide ((i : Int) < 100) = true := by simp; omega
  have hw : IntKind.i64.wrap (i : Int) = i := by rw [IntKind.wrap_i64]; omega
  have F : Hid (∀ w, Calls Tryd.prog 71 #[.int .u64 i, .int .i64 10] w fun e w' => e = .returned (.string ⟨(Go.Lib.decDigits i).toArray⟩) ∧ w' = w) := by
    intro w
    go_enter Tryd.func71, Tryd.ntmps71
    go_wp2_with fail
    try rw [hw]
    refine (S.out _).mono ?_
    rintro e w' ⟨rfl, rfl⟩
    go_wp2_with fail
    go_ret
    exact ⟨rfl, rfl⟩
  go_enter Tryd.func54, Tryd.ntmps54
  go_wp2_with fail
  refine (F.out _).mono ?_
  rintro e w' ⟨rfl, rfl⟩
  go_wp2_with fail
  go_ret
  exact ⟨rfl, rfl⟩
set_option maxHeartbeats 2000000 in
set_option maxRecDepth 100000 in
theorem text_swap (w : World) : Calls Tryd.prog 42 #[.agg #[.int .i64 3, .int .i64 3, .int .u64 5, .int .u64 6, .int .u64 0]] w fun e w' => e = .returned (.string ⟨#[115, 119, 97, 112, 32, 51, 32, 53, 32, 54]⟩) ∧ Below w.heap.size w w' := by
  have b1 : Below w.heap.size w (w.alloc (.cells #[.int .i64 3, .int .i64 3, .int .u64 5, .int .u64 6, .int .u64 0] 48)) := (Below.refl _ _).alloc (Nat.le_refl _) _
  have D1 := Blk.new w [.int .i64 3, .int .i64 3, .int .u64 5, .int .u64 6, .int .u64 0] 48
  have C1 := D1.cell
  have IT : Hid (∀ w, Calls Tryd.prog 59 #[.int .i64 3] w fun e w' => e = .returned (.string ⟨#[51]⟩) ∧ Below w.heap.size w w') := fun w => (Tryd.strconv_Itoa_small 3 (by omega) w).mono fun e w' ⟨he, hw⟩ => ⟨by rw [he, dec_one 3 (by omega)]; rfl, hw ▸ Below.refl _ _⟩
  have OF : Hid (∀ w, Calls Tryd.prog 66 #[.int .i64 3] w fun e w' => e = .returned (.tuple #[.agg #[.string ⟨#[115, 119, 97, 112]⟩, .int .i64 2, .func (.func 81) #[] #[]], .bool true]) ∧ Below w.heap.size w w') := fun w => by simpa [kindWord, kindMany] using of_3 w
  obtain ⟨i0, hi, hz0, hz1, hz2⟩ := info_parts info9
  go_enter Tryd.func42, Tryd.ntmps42
  go_wp2_with fail
  refine (OF.out _).mono ?_
  rintro e w1 ⟨rfl, hb⟩
  have W1 := b1.trans (hb.mono b1.size)
  have D2 := (D1.below' hb).alloc (.cells #[.string ⟨#[115, 119, 97, 112]⟩, .int .i64 2, .func (.func 81) #[] #[]] 76)
  have K2 := Blk.new w1 [.string ⟨#[115, 119, 97, 112]⟩, .int .i64 2, .func (.func 81) #[] #[]] 76
  have W2 := W1.alloc W1.size (.cells #[.string ⟨#[115, 119, 97, 112]⟩, .int .i64 2, .func (.func 81) #[] #[]] 76)
  clear b1 D1 C1 hb W1
  have C2 := D2.cell
  have C3 := K2.cell
  go_upto_region 4 with fail
  generalize hW2 : w1.alloc (.cells #[.string ⟨#[115, 119, 97, 112]⟩, .int .i64 2, .func (.func 81) #[] #[]] 76) = w2 at *
  refine wp_region_tail 5 (by kernel_rfl) (by kernel_rfl) ?_
  simp only [List.take_succ_cons, List.take_zero, List.drop_succ_cons, List.drop_zero]
  repeat (quiet_step (first | (go_at_call 59; exact calls_later (IT.out _))))
  refine wpQuiet_nil ?_
  intro w3 hb3
  have D3 := D2.below' hb3
  have K3 := K2.below' hb3
  have W3 := W2.trans (hb3.mono W2.size)
  clear D2 K2 W2 hb3 C2 C3
  have C4 := D3.cell
  have C5 := K3.cell
  have N4 := Lib.hid ((Blk.new2 w3 (.cells #[.string ⟨#[115, 119, 97, 112]⟩, .string ⟨#[51]⟩] 9) [.int .u64 5, .int .u64 6] 79))
  have S4 : Hid ((w3.alloc (.cells #[.string ⟨#[115, 119, 97, 112]⟩, .string ⟨#[51]⟩] 9)).ownsRow w3.heap.size 9 1 (.slice (some ⟨w3.heap.size, 0, none⟩) 2 2) 2 [.string ⟨#[115, 119, 97, 112]⟩, .string ⟨#[51]⟩]) := World.ownsRow_lit w3 #[.string ⟨#[115, 119, 97, 112]⟩, .string ⟨#[51]⟩] 2 (Nat.le_refl _) (by unfold maxLen; omega) rfl
  have W5 : Below w.heap.size w ((w3.alloc (.cells #[.string ⟨#[115, 119, 97, 112]⟩, .string ⟨#[51]⟩] 9)).alloc (.cells #[.int .u64 5, .int .u64 6] 79)) := (W3.alloc W3.size _).alloc (by simp; have := W3.size; omega) _
  have S5 := Lib.hid (S4.out.alloc (.cells #[.int .u64 5, .int .u64 6] 79))
  have D5 := Lib.hid ((D3.alloc (.cells #[.string ⟨#[115, 119, 97, 112]⟩, .string ⟨#[51]⟩] 9)).alloc (.cells #[.int .u64 5, .int .u64 6] 79))
  have z3 := W3.size
  clear S4 D3 K3 W3
  go_wp2_with fail
  go_loopw [5, 32] (fun v i wr => ∃ (k : Nat) (va : Option Addr) (vc : Nat), i = .int .i64 k ∧ k ≤ 2 ∧ v = .slice va (2 + k) vc ∧ Hid (wr.ownsRow w3.heap.size 9 1 (.slice va (2 + k) vc) (2 + k) (textL.take (2 + k))) ∧ Hid (Blk wr (w3.heap.size + 1) [.int .u64 5, .int .u64 6] 79) ∧ Hid (Blk wr w.heap.size [.int .i64 3, .int .i64 3, .int .u64 5, .int .u64 6, .int .u64 0] 48) ∧ Below w.heap.size w wr) (fun _ i _ => 2 - (intOf i).toNat)
  case atStart => exact ⟨0, _, _, rfl, by omega, rfl, S5, N4, D5, W5⟩
  case round =>
    obtain ⟨k, va, vc, rfl, hk, rfl, hO, hN, hD, hW⟩ := hrel
    clear S5 N4 D5 W5
    by_cases hlt : k < 2
    · have hk2 : k = 0 ∨ k = 1 := by omega
      have c0 : wr.cell? ⟨w3.heap.size + 1, k, none⟩ = some (.int .u64 ((5 + k : Nat) : Int)) := by
        rw [hN.out.cell]
        rcases hk2 with rfl | rfl <;> rfl
      obtain ⟨s, hs⟩ : ∃ s : ByteArray, s = ⟨#[UInt8.ofNat (48 + (5 + k))]⟩ := ⟨_, rfl⟩
      have e1 : textL.take (2 + (k + 1)) = textL.take (2 + k) ++ [.string s] := by
        rw [hs]
        rcases hk2 with rfl | rfl <;> rfl
      have FU : Hid (∀ w, Calls Tryd.prog 54 #[.int .u64 ((5 + k : Nat) : Int), .int .i64 10] w fun e w' => e = .returned (.string s) ∧ w' = w) := fun w => by
        rw [hs, ← dec_one (5 + k) (by omega)]
        exact formatUint_small (5 + k) (by omega) w
      obtain ⟨u, hu⟩ : ∃ u : Int, u = ((5 + k : Nat) : Int) := ⟨_, rfl⟩
      rw [← hu] at c0 FU
      have E1 := Lib.hid e1
      have OA := Lib.hid (hO.out.alloc (.cells #[.string s] 9))
      have zW := hW.size
      have z3' := hN.out.lt
      have bk : (k : Int) < 2 := by omega
      clear hs e1 hu hk2
      go_wp2_with fail
      refine (FU.out _).mono ?_
      rintro e w4 ⟨rfl, rfl⟩
      go_wp2_with (at_builtin; refine wpList_append_own _ rfl (.tmp 36) (.tmp 39) 73 rfl w3.heap.size 9 i0 (.string ⟨#[]⟩) 1 16 Tryd.underlying73 hi hz0 hz1 hz2 rfl (by decide) (.slice va (2 + k) vc) (2 + k) (textL.take (2 + k)) rfl OA.out ⟨w4.heap.size, 0, none⟩ 1 1 [.string s] rfl rfl ?c1 ?c2 ?c3 ?c4 ?c5 ?_)
      case c1 => exact cell_one_new _ _ _
      case c2 =>
        intro v hv
        simp at hv
        subst hv
        rfl
      case c3 => unfold maxLen; omega
      case c4 => omega
      case c5 => rw [World.size_alloc]; omega
      intro v' w5 hown hg _
      obtain ⟨va', vc', rfl⟩ := owns_shape hown
      have O5 : Hid (w5.ownsRow w3.heap.size 9 1 (.slice va' (2 + (k + 1)) vc') (2 + (k + 1)) (textL.take (2 + (k + 1)))) := by
        show World.ownsRow _ _ _ _ _ _ _
        rw [E1.out]
        exact hown
      have N5 := Lib.hid (grown_blk hg (hN.out.alloc (.cells #[.string s] 9)) (own_ne OA.out (hN.out.alloc (.cells #[.string s] 9)) (by decide)))
      have D5 := Lib.hid (grown_blk hg (hD.out.alloc (.cells #[.string s] 9)) (own_ne OA.out (hD.out.alloc (.cells #[.string s] 9)) (by decide)))
      have W5 : Below w.heap.size w w5 := (hW.alloc zW (.cells #[.string s] 9)).grown hg (by rw [World.size_alloc]; omega) (fun q hq => by have := own_ge OA.out q hq; omega)
      clear hown hg hO hN hD hW OA
      go_wp2_with fail
      go_roundw
      case rel => exact ⟨k + 1, va', vc', by go_num, by omega, by rw [Nat.add_assoc], O5, N5, D5, W5⟩
      case measure => simp [intOf]; omega
    · obtain rfl : k = 2 := by omega
      have CD := hD.out.cell
      rcases hO.out.2 with ⟨_, h0⟩ | ⟨g, cap, cur, hv, _, hh, hc, _⟩
      · omega
      · simp only [Value.slice.injEq, true_and] at hv
        obtain ⟨rfl, rfl⟩ := hv
        have hcells := fun (j : Nat) (x : ByteArray) (hx : ([⟨#[115, 119, 97, 112]⟩, ⟨#[51]⟩, ⟨#[53]⟩, ⟨#[54]⟩] : List ByteArray)[j]? = some x) => (show wr.cell? ⟨g, 0 + j, none⟩ = some (.string x) by
          have hj : j < 4 := by
            have := (List.getElem?_eq_some_iff.1 hx).1
            simpa using this
          have h1 := World.ownsRow.cells hO.out (g := g) rfl j
          have h4 : j = 0 ∨ j = 1 ∨ j = 2 ∨ j = 3 := by omega
          have h2 : (textL.take (2 + 2))[j]? = some (.string x) := by
            rcases h4 with rfl | rfl | rfl | rfl <;> (cases hx; rfl)
          have := h1 _ h2
          rwa [Addr.add_lit] at this)
        have J := Lib.hid (Tryd.strings_Join g 0 vc [⟨#[115, 119, 97, 112]⟩, ⟨#[51]⟩, ⟨#[53]⟩, ⟨#[54]⟩] ⟨#[32]⟩ wr hcells (Array.getElem?_eq_some_iff.1 hh).1 (by simp) (by simpa using hc) (by decide))
        clear hcells hO hN hD hh hc
        go_wp2_with fail
        refine J.out.mono ?_
        rintro e w6 ⟨rfl, hb6⟩
        go_wp2_with fail
        go_ret
        exact ⟨by kernel_rfl, hW.trans (hb6.mono hW.size)⟩
theorem deed_awake (w : World) : Calls Tryd.prog 44 #[] w fun e w' => e = .returned (.bool true) ∧ Below w.heap.size w w' := by
  have A5 : Hid (∀ w, Calls Tryd.prog 39 #[.int .u64 5, .agg #[.int .i64 3, .int .i64 3, .int .u64 5, .int .u64 6, .int .u64 0]] w fun e w' => e = .returned (.int .u64 6) ∧ Below w.heap.size w w') := fun w => after_calls 5 ⟨3, 3, 5, 6, 0⟩ w
  have A4 : Hid (∀ w, Calls Tryd.prog 39 #[.int .u64 4, .agg #[.int .i64 3, .int .i64 3, .int .u64 5, .int .u64 6, .int .u64 0]] w fun e w' => e = .returned (.int .u64 4) ∧ Below w.heap.size w w') := fun w => after_calls 4 ⟨3, 3, 5, 6, 0⟩ w
  have CH : Hid (∀ w, Calls Tryd.prog 41 #[.int .u64 5, .agg #[.int .i64 3, .int .i64 3, .int .u64 5, .int .u64 6, .int .u64 0]] w fun e w' => e = .returned (.bool true) ∧ Below w.heap.size w w') := fun w => changes_calls 5 ⟨3, 3, 5, 6, 0⟩ w
  have T := Lib.hid (fun w => text_swap w)
  have b1 : Below w.heap.size w (w.alloc (.cells #[.int .i64 3, .int .i64 3, .int .u64 5, .int .u64 6, .int .u64 0] 48)) := (Below.refl _ _).alloc (Nat.le_refl _) _
  have D1 := Blk.new w [.int .i64 3, .int .i64 3, .int .u64 5, .int .u64 6, .int .u64 0] 48
  have C1 := D1.cell
  go_enter Tryd.func44, Tryd.ntmps44
  go_wp2_with fail
  refine (A5.out _).mono ?_
  rintro e w1 ⟨rfl, hb1⟩
  have D2 := D1.below' hb1
  have C2 := D2.cell
  have W2 := b1.trans (hb1.mono b1.size)
  clear D1 C1 b1 hb1
  go_wp2_with fail
  refine (A4.out _).mono ?_
  rintro e w2 ⟨rfl, hb2⟩
  have D3 := D2.below' hb2
  have C3 := D3.cell
  have W3 := W2.trans (hb2.mono W2.size)
  clear D2 C2 W2 hb2
  go_wp2_with fail
  refine (CH.out _).mono ?_
  rintro e w3 ⟨rfl, hb3⟩
  have D4 := D3.below' hb3
  have C4 := D4.cell
  have W4 := W3.trans (hb3.mono W3.size)
  clear D3 C3 W3 hb3
  go_wp2_with fail
  refine (T.out _).mono ?_
  rintro e w4 ⟨rfl, hb4⟩
  go_wp2_with fail
  go_ret
  exact ⟨rfl, W4.trans (hb4.mono W4.size)⟩
end Go.Proofs.YtippfkokgpdmdaaDoor
