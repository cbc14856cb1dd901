/-
  Chapter 7: a deed's text, by the program (deed.Text), for every deed.
-/
import Derived.Test.YtippfkokgpdmdaaDoorDeedRText
import Derived.Lib.Join
namespace Go.Proofs.YtippfkokgpdmdaaDoor
open Go Go.RowKit
set_option linter.unusedVariables false

def noneS : ByteArray := ⟨#[110, 111, 110, 101]⟩
theorem rtext_no (k at_ a b y : Int) (hk : ¬ (1 ≤ k ∧ k ≤ 4)) (ha0 : 0 ≤ a) (ha1 : a < 18446744073709551616) (w : World) :
    Calls Tryd.prog 43 #[.agg #[.int .i64 k, .int .i64 at_, .int .u64 a, .int .u64 b, .int .u64 y]] w fun e w' => e = .returned (.string noneS) ∧ Below w.heap.size w w' := by
  have DA := Lib.hid (digS_calls a ha0 ha1)
  have b1 : Below w.heap.size w (w.alloc (.cells #[.int .i64 k, .int .i64 at_, .int .u64 a, .int .u64 b, .int .u64 y] 48)) := (Below.refl _ _).alloc (Nat.le_refl _) _
  have D1 := Blk.new w [.int .i64 k, .int .i64 at_, .int .u64 a, .int .u64 b, .int .u64 y] 48
  have C1 := D1.cell
  have z1 := digS_small a ha1
  generalize digS a = A at *
  have n1 : ¬ 9223372036854775807 < 1 + A.size := by omega
  have q1 : (k == 1) = false := by simp; omega
  have q2 : (k == 2) = false := by simp; omega
  have q3 : (k == 3) = false := by simp; omega
  have q4 : (k == 4) = false := by simp; omega
  clear z1 ha0 ha1 hk
  go_enter Tryd.func43, Tryd.ntmps43
  go_wp2_with fail
  refine (DA.out _).mono ?_
  rintro e w1 ⟨rfl, hb1⟩
  have D2 := D1.below' hb1
  have C2 := D2.cell
  have W1 := b1.trans (hb1.mono b1.size)
  clear D1 C1 b1 hb1
  go_wp2_with fail
  go_ret
  exact ⟨rfl, W1⟩
theorem text_no (k at_ a b y : Int) (hk : ¬ (1 ≤ k ∧ k ≤ 4)) (w : World) :
    Calls Tryd.prog 42 #[.agg #[.int .i64 k, .int .i64 at_, .int .u64 a, .int .u64 b, .int .u64 y]] w fun e w' => e = .returned (.string noneS) ∧ Below w.heap.size w w' := by
  have OF := Lib.hid (of_no k hk)
  have b1 : Below w.heap.size w (w.alloc (.cells #[.int .i64 k, .int .i64 at_, .int .u64 a, .int .u64 b, .int .u64 y] 48)) := (Below.refl _ _).alloc (Nat.le_refl _) _
  have D1 := Blk.new w [.int .i64 k, .int .i64 at_, .int .u64 a, .int .u64 b, .int .u64 y] 48
  have C1 := D1.cell
  clear hk
  go_enter Tryd.func42, Tryd.ntmps42
  go_wp2_with fail
  refine (OF.out _).mono ?_
  rintro e w1 ⟨rfl, hb⟩
  have W1 := b1.trans (hb.mono b1.size)
  clear D1 C1 b1 hb
  go_wp2_with fail
  go_ret
  exact ⟨rfl, W1.alloc W1.size _⟩
theorem join_len (sep : List UInt8) (hs : sep.length = 1) : ∀ (l : List (List UInt8)), (∀ x ∈ l, x.length ≤ 21) → (Lib.join l sep).length ≤ 22 * l.length
  | [], _ => by simp [Lib.join, List.intercalate]
  | [x], h => by
    have := h x (by simp)
    simp [Lib.join, List.intercalate]; omega
  | x :: y :: l, h => by
    have ih := join_len sep hs (y :: l) (fun z hz => h z (List.mem_cons_of_mem _ hz))
    have hx := h x (by simp)
    have e : Lib.join (x :: y :: l) sep = x ++ (sep ++ Lib.join (y :: l) sep) := by
      simp [Lib.join, List.intercalate, List.intersperse]
    rw [e]
    simp only [List.length_append, List.length_cons] at *
    omega
theorem join_own (w : World) (lo : Nat) (va : Option Addr) (vc n : Nat) (xs : List ByteArray) (hn : xs.length = n) (h0 : 0 < n) (h1 : n ≤ 10) (hx : ∀ x ∈ xs, x.size ≤ 21)
    (hO : w.ownsRow lo 9 1 (.slice va n vc) n (xs.map Value.string)) :
    Calls Tryd.prog 67 #[.slice va n vc, .string ⟨#[32]⟩] w fun e w' => e = .returned (.string (joinS xs)) ∧ Below w.heap.size w w' := by
  rcases hO.2 with ⟨_, h00⟩ | ⟨g, cap, cur, hv, _, hh, hc, _⟩
  · omega
  · simp only [Value.slice.injEq, true_and] at hv
    obtain ⟨rfl, rfl⟩ := hv
    subst hn
    have hcells := fun (j : Nat) (x : ByteArray) (hx : xs[j]? = some x) => (show w.cell? ⟨g, 0 + j, none⟩ = some (.string x) by
      have h1 := World.ownsRow.cells hO (g := g) rfl j
      have := h1 (.string x) (by rw [List.getElem?_map, hx]; rfl)
      rwa [Addr.add_lit] at this)
    refine (Tryd.strings_Join g 0 vc xs ⟨#[32]⟩ w hcells (Array.getElem?_eq_some_iff.1 hh).1 (by omega) (by simpa using hc) ?_).mono ?_
    · have := join_len [32] rfl (xs.map (·.data.toList)) (fun x hx' => by
        obtain ⟨y, hy, rfl⟩ := List.mem_map.1 hx'
        have := hx y hy
        show y.data.toList.length ≤ 21
        simpa using this)
      rw [List.length_map] at this
      show (Lib.join (xs.map (·.data.toList)) [32]).length ≤ _
      omega
    · rintro e w' ⟨rfl, hb⟩
      exact ⟨rfl, hb⟩
theorem take_two {k : Nat} (kw N A B : ByteArray) (h : k < 2) : ([kw, N, A, B].take (2 + (k + 1))) = [kw, N, A, B].take (2 + k) ++ [if k = 0 then A else B] := by
  have : k = 0 ∨ k = 1 := by omega
  rcases this with rfl | rfl <;> rfl
theorem take_all {m : Nat} (kw N A B : ByteArray) (h : m ≤ 2) : [kw, N, A, B].take (2 + m) = [kw, N] ++ [A, B].take m := by
  have : m = 0 ∨ m = 1 ∨ m = 2 := by omega
  rcases this with rfl | rfl | rfl <;> rfl
theorem cell_two_new (w : World) (x y : Value) (T : TypeId) : ∀ j u, ([x, y] : List Value)[j]? = some u → (w.alloc (.cells #[x, y] T)).cell? ((⟨w.heap.size, 0, none⟩ : Addr).add j) = some u := by
  intro j u hu
  have hj : j < 2 := by have := (List.getElem?_eq_some_iff.1 hu).1; simpa using this
  rw [Addr.add_lit, World.cell?_alloc_new]
  simpa using hu
set_option maxHeartbeats 4000000 in
set_option maxRecDepth 100000 in
theorem text_kind (k : Int) (m : Nat) (hm : m ≤ 2) (kw : ByteArray) (hkw : kw.size ≤ 21) (fn : FuncId)
    (OF : ∀ w, Calls Tryd.prog 66 #[.int .i64 k] w fun e w' => e = .returned (.tuple #[.agg #[.string kw, .int .i64 m, .func (.func fn) #[] #[]], .bool true]) ∧ Below w.heap.size w w')
    (at_ a b y : Int) (h0 : -9223372036854775808 ≤ at_) (h1 : at_ ≤ 9223372036854775807) (ha0 : 0 ≤ a) (ha1 : a < 18446744073709551616) (hb0 : 0 ≤ b) (hb1 : b < 18446744073709551616) (hy0 : 0 ≤ y) (hy1 : y < 18446744073709551616) (w : World) (ht : Tab w) :
    Calls Tryd.prog 42 #[.agg #[.int .i64 k, .int .i64 at_, .int .u64 a, .int .u64 b, .int .u64 y]] w fun e w' => e = .returned (.string (joinS (deedL kw (numS at_) (digS a) (digS b) (digS y) m (!(y == 0))))) ∧ Below w.heap.size w w' := by
  have b1 : Below w.heap.size w (w.alloc (.cells #[.int .i64 k, .int .i64 at_, .int .u64 a, .int .u64 b, .int .u64 y] 48)) := (Below.refl _ _).alloc (Nat.le_refl _) _
  have D1 := Blk.new w [.int .i64 k, .int .i64 at_, .int .u64 a, .int .u64 b, .int .u64 y] 48
  have C1 := D1.cell
  have IT : Hid (∀ W, Below w.heap.size w W → Calls Tryd.prog 59 #[.int .i64 at_] W fun e w' => e = .returned (.string (numS at_)) ∧ Below W.heap.size W w') := fun W hW => itoa_calls at_ h0 h1 W (ht.below hW)
  have FA : Hid (∀ W, Below w.heap.size w W → Calls Tryd.prog 54 #[.int .u64 a, .int .i64 10] W fun e w' => e = .returned (.string (digS a)) ∧ Below W.heap.size W w') := fun W hW => formatUint_calls a ha0 ha1 W (ht.below hW)
  have FB : Hid (∀ W, Below w.heap.size w W → Calls Tryd.prog 54 #[.int .u64 b, .int .i64 10] W fun e w' => e = .returned (.string (digS b)) ∧ Below W.heap.size W w') := fun W hW => formatUint_calls b hb0 hb1 W (ht.below hW)
  have FY : Hid (∀ W, Below w.heap.size w W → Calls Tryd.prog 54 #[.int .u64 y, .int .i64 10] W fun e w' => e = .returned (.string (digS y)) ∧ Below W.heap.size W w') := fun W hW => formatUint_calls y hy0 hy1 W (ht.below hW)
  have OFH := Lib.hid OF
  obtain ⟨i0, hi, hz0, hz1, hz2⟩ := info_parts info9
  have z1 := digS_small a ha1
  have z2 := digS_small b hb1
  have z3 := digS_small y hy1
  have z4 := numS_small at_ h0 h1
  have ZZ : Hid (kw.size ≤ 21 ∧ (digS a).size ≤ 21 ∧ (digS b).size ≤ 21 ∧ (digS y).size ≤ 21 ∧ (numS at_).size ≤ 21) := ⟨hkw, by omega, by omega, by omega, z4⟩
  generalize digS a = A at *
  generalize digS b = B at *
  generalize digS y = Y at *
  generalize numS at_ = N at *
  have hal : Tryd.prog.arrayLen 79 = 2 := by kernel_rfl
  clear OF z1 z2 z3 z4 hkw h0 h1 ha0 ha1 hb0 hb1 hy0 hy1 ht
  go_enter Tryd.func42, Tryd.ntmps42
  go_wp2_with fail
  refine (OFH.out _).mono ?_
  rintro e w1 ⟨rfl, hb⟩
  have W1 := b1.trans (hb.mono b1.size)
  have D2 := (D1.below' hb).alloc (.cells #[.string kw, .int .i64 m, .func (.func fn) #[] #[]] 76)
  have K2 := Blk.new w1 [.string kw, .int .i64 m, .func (.func fn) #[] #[]] 76
  have W2 := W1.alloc W1.size (.cells #[.string kw, .int .i64 m, .func (.func fn) #[] #[]] 76)
  clear b1 D1 C1 hb W1
  have C2 := D2.cell
  have C3 := K2.cell
  go_upto_region 4 with fail
  generalize hW2 : w1.alloc (.cells #[.string kw, .int .i64 m, .func (.func fn) #[] #[]] 76) = w2 at *
  refine wp_region_tail 5 (by kernel_rfl) (by kernel_rfl) ?_
  simp only [List.take_succ_cons, List.take_zero, List.drop_succ_cons, List.drop_zero]
  repeat (quiet_step (first | (go_at_call 59; exact calls_later (IT.out _ (W2.trans ((later_below _ _).mono W2.size))))))
  refine wpQuiet_nil ?_
  intro w3 hb3
  have D3 := D2.below' hb3
  have K3 := K2.below' hb3
  have W3 := W2.trans (hb3.mono W2.size)
  clear D2 K2 W2 hb3 C2 C3
  have C4 := D3.cell
  have C5 := K3.cell
  have N4 := Lib.hid ((Blk.new2 w3 (.cells #[.string kw, .string N] 9) [.int .u64 a, .int .u64 b] 79))
  have S4 : Hid ((w3.alloc (.cells #[.string kw, .string N] 9)).ownsRow w3.heap.size 9 1 (.slice (some ⟨w3.heap.size, 0, none⟩) 2 2) 2 [.string kw, .string N]) := World.ownsRow_lit w3 #[.string kw, .string N] 2 (Nat.le_refl _) (by unfold maxLen; omega) rfl
  have W5 : Below w.heap.size w ((w3.alloc (.cells #[.string kw, .string N] 9)).alloc (.cells #[.int .u64 a, .int .u64 b] 79)) := (W3.alloc W3.size _).alloc (by simp; have := W3.size; omega) _
  have S5 := Lib.hid (S4.out.alloc (.cells #[.int .u64 a, .int .u64 b] 79))
  have D5 := Lib.hid ((D3.alloc (.cells #[.string kw, .string N] 9)).alloc (.cells #[.int .u64 a, .int .u64 b] 79))
  have z3 := W3.size
  have hsl1 : ∀ W, (Instr.sliceAt 79 (.pointer (some ⟨w3.heap.size + 1, 0, none⟩)) none (some (.int .i64 (m : Int))) none).run Tryd.prog W = .ok (.slice (some ⟨w3.heap.size + 1, 0, none⟩) m 2) W := fun W => by
    rw [run_sliceAt_array_h W 79 ⟨w3.heap.size + 1, 0, none⟩ (by simp [Program.arrayLen, Program.elem, Tryd.underlying79]) .i64 (m : Int) (by omega) (by rw [hal]; omega)]
    go_simp
  clear S4 D3 K3 W3 hal
  go_wp2_with fail
  go_loopw [5, 32] (fun v i wr => ∃ (q : Nat) (va : Option Addr) (vc : Nat), i = .int .i64 q ∧ q ≤ m ∧ v = .slice va (2 + q) vc ∧ Hid (wr.ownsRow w3.heap.size 9 1 (.slice va (2 + q) vc) (2 + q) (([kw, N, A, B].take (2 + q)).map Value.string)) ∧ Hid (Blk wr (w3.heap.size + 1) [.int .u64 a, .int .u64 b] 79) ∧ Hid (Blk wr w.heap.size [.int .i64 k, .int .i64 at_, .int .u64 a, .int .u64 b, .int .u64 y] 48) ∧ Below w.heap.size w wr) (fun _ i _ => m - (intOf i).toNat)
  case atStart => exact ⟨0, _, _, rfl, by omega, rfl, S5, N4, D5, W5⟩
  case round =>
    obtain ⟨q, va, vc, rfl, hq, rfl, hO, hN, hD, hW⟩ := hrel
    clear S5 N4 D5 W5
    have z3' := hN.out.lt
    have zW := hW.size
    by_cases hlt : q < m
    · obtain ⟨u, s, c0, FU, E1⟩ : ∃ (u : Int) (s : ByteArray), wr.cell? ⟨w3.heap.size + 1, q, none⟩ = some (.int .u64 u) ∧ Hid (∀ W, Below w.heap.size w W → Calls Tryd.prog 54 #[.int .u64 u, .int .i64 10] W fun e w' => e = .returned (.string s) ∧ Below W.heap.size W w') ∧ Hid ([kw, N, A, B].take (2 + (q + 1)) = [kw, N, A, B].take (2 + q) ++ [s]) := by
        have ht := take_two kw N A B (show q < 2 by omega)
        have hq2 : q = 0 ∨ q = 1 := by omega
        rcases hq2 with rfl | rfl
        · exact ⟨a, A, by rw [hN.out.cell]; rfl, FA, ht⟩
        · exact ⟨b, B, by rw [hN.out.cell]; rfl, FB, ht⟩
      have bk : (q : Int) < m := by omega
      clear hq
      go_wp2_with fail
      refine (FU.out _ hW).mono ?_
      rintro e w4 ⟨rfl, hb4⟩
      have zb := hb4.size
      have OA := Lib.hid ((ownsRow_mod hO.out (Mod.of_below (S := fun _ => False) hb4) (fun _ _ => id)).alloc (.cells #[.string s] 9))
      have hN4 := Lib.hid ((hN.out.below' hb4).alloc (.cells #[.string s] 9))
      have hD4 := Lib.hid ((hD.out.below' hb4).alloc (.cells #[.string s] 9))
      have W4 := hW.trans (hb4.mono zW)
      have z4 := W4.size
      clear hO hN hD hW hb4 c0
      go_wp2_with (at_builtin; refine wpList_append_own _ rfl (.tmp 36) (.tmp 39) 73 rfl w3.heap.size 9 i0 (.string ⟨#[]⟩) 1 16 Tryd.underlying73 hi hz0 hz1 hz2 rfl (by decide) (.slice va (2 + q) vc) (2 + q) (([kw, N, A, B].take (2 + q)).map Value.string) rfl OA.out ⟨w4.heap.size, 0, none⟩ 1 1 [.string s] rfl rfl ?c1 ?c2 ?c3 ?c4 ?c5 ?_)
      case c1 => exact cell_one_new _ _ _
      case c2 =>
        intro v hv
        simp at hv
        subst hv
        rfl
      case c3 => unfold maxLen; omega
      case c4 => omega
      case c5 => rw [World.size_alloc]; omega
      intro v' w5 hown hg _
      obtain ⟨va', vc', rfl⟩ := owns_shape hown
      have O5 : Hid (w5.ownsRow w3.heap.size 9 1 (.slice va' (2 + (q + 1)) vc') (2 + (q + 1)) (([kw, N, A, B].take (2 + (q + 1))).map Value.string)) := by
        show World.ownsRow _ _ _ _ _ _ _
        rw [E1.out, List.map_append, List.map_take]
        exact hown
      have N5 := Lib.hid (grown_blk hg hN4.out (own_ne OA.out hN4.out (by decide)))
      have D5 := Lib.hid (grown_blk hg hD4.out (own_ne OA.out hD4.out (by decide)))
      have W5 : Below w.heap.size w w5 := (W4.alloc z4 (.cells #[.string s] 9)).grown hg (by rw [World.size_alloc]; omega) (fun q hq => by have := own_ge OA.out q hq; omega)
      clear hown hg hN4 hD4 W4 OA
      go_wp2_with fail
      go_roundw
      case rel => exact ⟨q + 1, va', vc', by go_num, by omega, by rw [Nat.add_assoc], O5, N5, D5, W5⟩
      case measure => simp [intOf]; omega
    · obtain rfl : q = m := by omega
      have CD := hD.out.cell
      have EA := Lib.hid (take_all kw N A B hm)
      have hsz : ∀ x ∈ [kw, N, A, B].take (2 + q), x.size ≤ 21 := fun x hx => by
        have hx' := List.mem_of_mem_take hx
        have := ZZ.out
        simp at hx'
        rcases hx' with rfl | rfl | rfl | rfl <;> omega
      have hlen : ([kw, N, A, B].take (2 + q)).length = 2 + q := by simp; omega
      by_cases hy : y = 0
      · subst hy
        have J := Lib.hid (join_own wr w3.heap.size va vc (2 + q) ([kw, N, A, B].take (2 + q)) hlen (by omega) (by omega) hsz hO.out)
        clear hO hN hD FA FB FY IT hsz hlen
        go_wp2_with fail
        refine J.out.mono ?_
        rintro e w6 ⟨rfl, hb6⟩
        go_wp2_with fail
        go_ret
        exact ⟨(show Ending.returned (Value.string (joinS ([kw, N, A, B].take (2 + q)))) = _ by rw [EA.out]; simp [deedL]), hW.trans (hb6.mono zW)⟩
      · have qy : (y == 0) = false := by simpa using hy
        clear hy
        go_wp2_with fail
        refine (FY.out _ hW).mono ?_
        rintro e w4 ⟨rfl, hb4⟩
        have zb := hb4.size
        have OA := Lib.hid ((ownsRow_mod hO.out (Mod.of_below (S := fun _ => False) hb4) (fun _ _ => id)).alloc (.cells #[.string byS, .string Y] 9))
        have W4 := hW.trans (hb4.mono zW)
        have z4 := W4.size
        clear hO hN hD hW hb4
        go_wp2_with (at_builtin; refine wpList_append_own _ rfl (.tmp 45) (.tmp 49) 73 rfl w3.heap.size 9 i0 (.string ⟨#[]⟩) 1 16 Tryd.underlying73 hi hz0 hz1 hz2 rfl (by decide) (.slice va (2 + q) vc) (2 + q) (([kw, N, A, B].take (2 + q)).map Value.string) rfl OA.out ⟨w4.heap.size, 0, none⟩ 2 2 [.string byS, .string Y] rfl rfl ?c1 ?c2 ?c3 ?c4 ?c5 ?_)
        case c1 => exact cell_two_new _ _ _ _
        case c2 =>
          intro v hv
          simp at hv
          rcases hv with rfl | rfl <;> rfl
        case c3 => unfold maxLen; omega
        case c4 => omega
        case c5 => rw [World.size_alloc]; omega
        intro v' w5 hown hg _
        obtain ⟨va', vc', rfl⟩ := owns_shape hown
        have O5 : Hid (w5.ownsRow w3.heap.size 9 1 (.slice va' (2 + q + 2) vc') (2 + q + 2) (([kw, N, A, B].take (2 + q) ++ [byS, Y]).map Value.string)) := by
          show World.ownsRow _ _ _ _ _ _ _
          rw [List.map_append, List.map_take]
          exact hown
        have W5 : Below w.heap.size w w5 := (W4.alloc z4 (.cells #[.string byS, .string Y] 9)).grown hg (by rw [World.size_alloc]; omega) (fun q hq => by have := own_ge OA.out q hq; omega)
        have J := Lib.hid (join_own w5 w3.heap.size va' vc' (2 + q + 2) ([kw, N, A, B].take (2 + q) ++ [byS, Y]) (by rw [List.length_append, hlen]; rfl) (by omega) (by omega) (fun x hx => by
          rcases List.mem_append.1 hx with hx | hx
          · exact hsz x hx
          · have := ZZ.out
            simp at hx
            rcases hx with rfl | rfl
            · decide
            · omega) O5.out)
        have z5 := W5.size
        clear hown hg W4 OA O5 FA FB FY IT hsz hlen
        go_wp2_with fail
        refine J.out.mono ?_
        rintro e w6 ⟨rfl, hb6⟩
        go_wp2_with fail
        go_ret
        exact ⟨(show Ending.returned (Value.string (joinS ([kw, N, A, B].take (2 + q) ++ [byS, Y]))) = _ by rw [EA.out]; simp [deedL, qy]), W5.trans (hb6.mono z5)⟩
end Go.Proofs.YtippfkokgpdmdaaDoor
