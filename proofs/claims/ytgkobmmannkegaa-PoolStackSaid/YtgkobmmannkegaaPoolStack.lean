/-
  The law PoolStack (chapter 12), walked.
-/
import Derived.Test.YtgkobmmannkegaaNatSlice
import Derived.Test.YtgkobmmannkegaaStackPlain
import Derived.Test.YtgkobmmannkegaaPoolAlone
namespace Go.Proofs.Ytgkobmmannkegaa
open Go Go.RowKit
set_option linter.unusedVariables false

/-- A list of truths that is handed in. -/
structure BoolsR (w : World) (hi : Nat) (v : Value) (n : Nat) : Prop where
  ex : ∃ (a : Option Addr) (c : Nat), v = .slice a n c ∧ (0 < n → ∃ b off, a = some ⟨b, off, none⟩ ∧ b < hi ∧ ∀ j, j < n → ∃ t : Bool, w.cell? ⟨b, off + j, none⟩ = some (.bool t))
theorem BoolsR.mod {w w' : World} {hi n : Nat} {v : Value} {S : Nat → Prop} (h : BoolsR w hi v n) (hm : Mod S w w') (hS : ∀ k, k < hi → ¬ S k) : BoolsR w' hi v n := by
  obtain ⟨a, c, hv, hc⟩ := h.ex
  refine ⟨a, c, hv, fun h0 => ?_⟩
  obtain ⟨b, off, ha, hb, hcs⟩ := hc h0
  refine ⟨b, off, ha, hb, fun j hj => ?_⟩
  obtain ⟨t, ht⟩ := hcs j hj
  exact ⟨t, by rw [hm.cell (a := ⟨b, off + j, none⟩) (World.block_lt_of_cell? w _ ht) (hS b hb)]; exact ht⟩
theorem BoolsR.below {w w' : World} {hi n : Nat} {v : Value} (h : BoolsR w hi v n) (hb : Below w.heap.size w w') : BoolsR w' hi v n := h.mod (Mod.of_below (S := fun _ => False) hb) (fun _ _ => id)
theorem poolStack_no (T S L G : Int) (a : Option Addr) (n c : Nat) (h : ¬ PRight T S L G) (w : World) : Calls Try.prog 31 #[planV T S L G, .slice a n c] w fun e w' => e = .returned (.bool true) ∧ Below w.heap.size w w' := by
  have H := Lib.hid h
  have B0 := Blk.new w [.int .i64 T, .int .i64 S, .int .i64 L, .int .u64 G] 24
  have C0 := B0.cell
  have V0 : Below w.heap.size w (w.alloc (.cells #[.int .i64 T, .int .i64 S, .int .i64 L, .int .u64 G] 24)) := (Below.refl _ _).alloc (Nat.le_refl _) _
  clear h
  go_enter Try.func31, Try.ntmps31
  go_wp2_with fail
  refine (right_no T S L G H.out _).mono ?_
  rintro e w1 ⟨rfl, hb1⟩
  have B1 := B0.below' hb1
  have C1 := B1.cell
  have V1 := V0.trans (hb1.mono V0.size)
  clear B0 C0 hb1 V0
  dsimp only
  go_wp2_with fail
  refine (pop_new T S L G _).mono ?_
  rintro e w2 ⟨t, rfl, ht1, ht2, hT, hb2⟩
  have T2 := Lib.hid hT
  have V2 := V1.trans (hb2.mono V1.size)
  clear B1 C1 hb2 V1 hT
  dsimp only
  go_wp2_with fail
  refine (pop_index T S L G _ _ _ T2.out).mono ?_
  rintro e w3 ⟨rfl, hb3⟩
  have V3 := V2.trans (hb3.mono V2.size)
  rw [show popIndex pop0 = 0 by simp [popIndex]]
  dsimp only
  go_wp2_with fail
  refine (pool_awake _).mono ?_
  rintro e w4 ⟨rfl, hb4⟩
  have V4 := V3.trans (hb4.mono V3.size)
  dsimp only
  go_wp2_with fail
  go_ret
  exact ⟨rfl, V4⟩
section
variable (T S L : Nat) (G : Int) (hT : T ≤ 8) (hS : S ≤ 64) (hL : L ≤ 8)
theorem poolStack_long (a : Option Addr) (n c : Nat) (h : PRight T S L G) (hn : 200 < n) (w : World) : Calls Try.prog 31 #[planV T S L G, .slice a n c] w fun e w' => e = .returned (.bool true) ∧ Below w.heap.size w w' := by
  have H := Lib.hid h
  have B0 := Blk.new w [.int .i64 T, .int .i64 S, .int .i64 L, .int .u64 G] 24
  have C0 := B0.cell
  have V0 : Below w.heap.size w (w.alloc (.cells #[.int .i64 T, .int .i64 S, .int .i64 L, .int .u64 G] 24)) := (Below.refl _ _).alloc (Nat.le_refl _) _
  have hd : decide ((200 : Int) < (n : Int)) = true := by simp; omega
  clear h
  go_enter Try.func31, Try.ntmps31
  go_wp2_with fail
  refine (right_yes T S L G H.out _).mono ?_
  rintro e w1 ⟨rfl, hb1⟩
  have B1 := B0.below' hb1
  have C1 := B1.cell
  have V1 := V0.trans (hb1.mono V0.size)
  clear B0 C0 hb1 V0
  dsimp only
  go_wp2_with fail
  refine (pop_new T S L G _).mono ?_
  rintro e w2 ⟨t, rfl, ht1, ht2, hT, hb2⟩
  have T2 := Lib.hid hT
  have V2 := V1.trans (hb2.mono V1.size)
  clear B1 C1 hb2 V1 hT
  dsimp only
  go_wp2_with fail
  refine (pop_index T S L G _ _ _ T2.out).mono ?_
  rintro e w3 ⟨rfl, hb3⟩
  have V3 := V2.trans (hb3.mono V2.size)
  rw [show popIndex pop0 = 0 by simp [popIndex]]
  dsimp only
  go_wp2_with fail
  refine (pool_awake _).mono ?_
  rintro e w4 ⟨rfl, hb4⟩
  have V4 := V3.trans (hb4.mono V3.size)
  dsimp only
  go_wp2_with fail
  go_ret
  exact ⟨rfl, V4⟩
include hT hS hL
set_option maxHeartbeats 8000000 in
set_option maxRecDepth 100000 in
theorem poolStack_in (hP : PRight T S L G) (hG : 0 ≤ G) (n : Nat) (v : Value) (hn : n ≤ 200) (w : World) (hv : BoolsR w w.heap.size v n) : Calls Try.prog 31 #[planV T S L G, v] w fun e w' => e = .returned (.bool true) ∧ Below w.heap.size w w' := by
  obtain ⟨ta, tc, rfl, _⟩ := hv.ex
  have HP := Lib.hid hP
  have HG := Lib.hid hG
  have ST := Lib.hid (Stk.start T S L G hP hG)
  have hS1 : 1 ≤ S := by have := hP.2.1; omega
  have POP0 : Hid (∀ ws hl, Stk T S L ws [] hl → ∃ s, runs (popM T L) 19 pop0 ws = (s, ws) ∧ (popM T L).more s = false ∧ popIndex s = 0) := fun ws hl h => h.pop_none
  have POP1 : Hid (∀ ws i r hl, Stk T S L ws (i :: r) hl → ∃ s ws', runs (popM T L) 19 pop0 ws = (s, ws') ∧ (popM T L).more s = false ∧ popIndex s = i ∧ Stk T S L ws' r (hl ++ [i])) := fun ws i r hl h => h.pop hT hS hL
  have PUSH : Hid (∀ ws i st r, Stk T S L ws st (i :: r) → ∃ s ws', runs (pushM T L i) 19 push0 ws = (s, ws') ∧ (pushM T L i).more s = false ∧ Stk T S L ws' (i :: st) r) := fun ws i st r h => h.push hT hS hL
  have FREE : Hid (∀ ws st hl b g W, Stk T S L ws st hl → CellsAt W b g ws → Calls Try.prog 123 #[.pointer (some ⟨b, 0, none⟩), planV T S L G] W fun e w' => ∃ va vc, e = .returned (.slice va st.length vc) ∧ Below W.heap.size W w') := fun ws st hl b g W h hC => by
    have := free_calls T S L G hT hS hL hP b g ws h.wide W hC
    rw [h.free] at this
    exact this.mono fun e w' ⟨va, vc, r, he, _, hb⟩ => ⟨va, vc, he, hb⟩
  have B0 := Blk.new w [.int .i64 T, .int .i64 S, .int .i64 L, .int .u64 G] 24
  have C0 := B0.cell
  have V0 : Below w.heap.size w (w.alloc (.cells #[.int .i64 T, .int .i64 S, .int .i64 L, .int .u64 G] 24)) := (Below.refl _ _).alloc (Nat.le_refl _) _
  have X0 := Lib.hid (hv.below V0)
  clear hP hG hv
  go_enter Try.func31, Try.ntmps31
  go_wp2_with fail
  refine (right_yes T S L G HP.out _).mono ?_
  rintro e w1 ⟨rfl, hb1⟩
  have B1 := B0.below' hb1
  have C1 := B1.cell
  have X1 := Lib.hid (X0.out.below hb1)
  have V1 := V0.trans (hb1.mono V0.size)
  clear B0 C0 hb1 V0 X0
  dsimp only
  go_wp2_with fail
  refine (make_calls T S L G hT hS hL HP.out HG.out _).mono ?_
  rintro e w2 ⟨b, g, rfl, hC, hb, hg, hb2⟩
  have B2 := B1.below' hb2
  have C2 := B2.cell
  have X2 := Lib.hid (X1.out.below hb2)
  have D2 := Lib.hid hC
  have V2 := V1.trans (hb2.mono V1.size)
  have hbg : w.heap.size < b ∧ w.heap.size < g := by have := B1.lt; omega
  clear B1 C1 hb2 V1 X1 hC hb hg
  have N2 : Hid (NS w2 (.slice none 0 0) []) := NS.nil w2
  dsimp only
  go_wp2_with fail
  go_loopw [7, 9] (fun a i wr => ∃ (k : Nat) (fr : List Nat) (va : Option Addr) (vc : Nat), k ≤ S ∧ i = .int .i64 k ∧ a = .slice va fr.length vc ∧ Hid (fr = (List.range' (k + 1) (S - k)).reverse) ∧ Hid (NS wr (.slice va fr.length vc) fr) ∧
    Hid (∀ q, sblk (.slice va fr.length vc) = some q → q ≠ b ∧ q ≠ g ∧ w.heap.size < q) ∧ Hid (CellsAt wr b g (blankW T S L G)) ∧ Blk wr w.heap.size [.int .i64 T, .int .i64 S, .int .i64 L, .int .u64 G] 24 ∧ Hid (BoolsR wr w.heap.size (.slice ta n tc) n) ∧ Below w.heap.size w wr) (fun _ i _ => (intOf i).toNat)
  case atStart => exact ⟨S, [], none, 0, Nat.le_refl _, rfl, rfl, Lib.hid (by simp), N2, fun q hq => by simp [sblk] at hq, D2, B2, X2, V2⟩
  case round =>
    obtain ⟨k, fr, va, vc, hk, rfl, rfl, hfr, hN, hs, hC, hB, hX, hW⟩ := hrel
    clear N2 D2 B2 X2 V2 C2
    have hfl : fr.length ≤ 60000 := by rw [hfr.out]; simp; omega
    by_cases hk1 : 1 ≤ k
    · have hlt := hC.out.lt
      have hP1 := hB.lt
      have b0 : (1 : Int) ≤ (k : Int) := by omega
      have N1 := Lib.hid (hN.out.below ((Below.refl _ _).alloc (Nat.le_refl _) (.cells #[.int .i64 (k : Int)] 3)))
      have FR : Hid (fr ++ [k] = (List.range' (k - 1 + 1) (S - (k - 1))).reverse) := by
        show _ = _
        rw [hfr.out, show k - 1 + 1 = k by omega, show S - (k - 1) = (S - k) + 1 by omega, List.range'_succ, List.reverse_cons]
      go_wp2_with (at_builtin; refine wpList_append_ns rfl (.tmp 39) (.tmp 41) rfl _ fr rfl N1.out k wr.heap.size rfl (Blk.new wr [.int .i64 (k : Int)] 3) hfl ?_)
      intro va2 vc2 w5 hN5 hM5 hs5
      have M5 : Mod (fun q => sblk (.slice va fr.length vc) = some q) wr w5 := ((Mod.refl _ _).alloc _).trans' hM5
      have N5 : Hid (NS w5 (.slice va2 (fr ++ [k]).length vc2) (fr ++ [k])) := by rw [List.length_append, List.length_singleton]; exact hN5
      have D5 := Lib.hid (hC.out.mod M5 (fun e => (hs.out _ e).1 rfl) (fun e => (hs.out _ e).2.1 rfl))
      have B5 := M5.blk hB (fun e => by have := (hs.out _ e).2.2; omega)
      have X5 := Lib.hid (hX.out.mod M5 (fun q hq e => by have := (hs.out _ e).2.2; omega))
      have W5 := below_mod hW M5 hW.size (fun q hq e => by have := (hs.out _ e).2.2; omega)
      have S5 : Hid (∀ q, sblk (.slice va2 (fr ++ [k]).length vc2) = some q → q ≠ b ∧ q ≠ g ∧ w.heap.size < q) := fun q hq => by
        rw [List.length_append, List.length_singleton] at hq
        rcases hs5 with e | ⟨q', e, hq'⟩
        · rw [e] at hq; exact hs.out q hq
        · rw [e] at hq; injection hq with hq; subst hq; (try simp at hq'); omega
      have hl : fr.length + 1 = (fr ++ [k]).length := by simp
      clear hN5 hM5 hs5 M5 N1 hN hs hC hB hX hW hfr
      go_wp2_with fail
      go_roundw
      case rel => exact ⟨k - 1, fr ++ [k], va2, vc2, by omega, by rw [show ((k - 1 : Nat) : Int) = (k : Int) - 1 by omega], by rw [hl], FR, N5, S5, D5, B5, X5, W5⟩
      case measure => simp [intOf]; omega
    · have hfr2 : fr = (List.range' 1 S).reverse := by
        have := hfr.out
        rw [show k = 0 by omega] at this
        simpa using this
      have b0 : (k : Int) < 1 := by omega
      have FR2 := Lib.hid hfr2
      have N3 := Lib.hid (NS.nil wr)
      clear hfr2 hfr
      go_wp2_with fail
      go_loopw [7, 8, 10] (fun a h i wr => ∃ (k : Nat) (st hl fr ws : _) (va : Option Addr) (m vc : Nat) (ua : Option Addr) (m2 uc : Nat), k ≤ n ∧ i = .int .i64 k ∧ a = .slice va m vc ∧ h = .slice ua m2 uc ∧ Hid (m = List.length fr) ∧ Hid (m2 = List.length hl) ∧ Hid (fr = List.reverse st) ∧ Hid (Stk T S L ws st hl) ∧ Hid (NS wr (.slice va m vc) fr) ∧ Hid (NS wr (.slice ua m2 uc) hl) ∧
        Hid (∀ q, sblk (.slice va m vc) = some q → q ≠ b ∧ q ≠ g ∧ w.heap.size < q ∧ sblk (.slice ua m2 uc) ≠ some q) ∧ Hid (∀ q, sblk (.slice ua m2 uc) = some q → q ≠ b ∧ q ≠ g ∧ w.heap.size < q) ∧
        Hid (CellsAt wr b g ws) ∧ Blk wr w.heap.size [.int .i64 T, .int .i64 S, .int .i64 L, .int .u64 G] 24 ∧ Hid (BoolsR wr w.heap.size (.slice ta n tc) n) ∧ Below w.heap.size w wr) (fun _ _ i _ => n - (intOf i).toNat)
      case atStart => exact ⟨0, List.range' 1 S, [], fr, blankW T S L G, va, fr.length, vc, none, 0, 0, Nat.zero_le _, rfl, rfl, rfl, Lib.hid rfl, Lib.hid rfl, FR2, ST, hN, N3, Lib.hid (fun q hq => by have := hs.out q hq; exact ⟨this.1, this.2.1, this.2.2, by simp [sblk]⟩), Lib.hid (fun q hq => by simp [sblk] at hq), hC, hB, hX, hW⟩
      case round =>
        clear hN hs hC hB hX hW FR2 N3
        obtain ⟨k, st, hl, fr, ws, va, m, vc, ua, m2, uc, hk, rfl, rfl, rfl, hm1, hm2, hfr, hSt, hN, hH, hs, hu, hC, hB, hX, hW⟩ := hrel
        have CB := hB.cell
        by_cases hlt : k < n
        · obtain ⟨_, _, hv, hx⟩ := hX.out.ex
          cases hv
          obtain ⟨tb, tof, rfl, htb, hcs⟩ := hx (by omega)
          obtain ⟨t, ht⟩ := hcs k hlt
          clear hcs hx
          cases t with
          | true =>
            cases st with
            | nil =>
              obtain ⟨s, hr, hm, hi⟩ := POP0.out ws hl hSt.out
              have hf0 : fr = [] := hfr.out
              subst hf0
              obtain rfl : m = 0 := hm1.out
              have K := Lib.hid (pop_do T S L G wr b g ws hC.out s ws hr hm)
              rw [hi] at K
              clear hr hm hi
              go_wp2_with fail
              refine K.out.mono ?_
              rintro e w5 ⟨rfl, hC5, hM5⟩
              have D5 := Lib.hid hC5
              have N5 := Lib.hid (hN.out.mod hM5 (fun q hq e => (hs.out q hq).2.1 e))
              have H5 := Lib.hid (hH.out.mod hM5 (fun q hq e => (hu.out q hq).2.1 e))
              have B5 := hM5.blk hB (by omega)
              have X5 := Lib.hid (hX.out.mod hM5 (fun q hq e => by omega))
              have W5 := below_mod hW hM5 hW.size (fun q hq e => by omega)
              clear hC5 hM5 hN hH hB hX hW hC K ht CB
              dsimp only
              go_wp2_with fail
              go_roundw
              case rel => exact ⟨k + 1, [], hl, [], ws, va, 0, vc, ua, m2, uc, by omega, by go_num, rfl, rfl, hm1, hm2, hfr, hSt, N5, H5, hs, hu, D5, B5, X5, W5⟩
              case measure => simp [intOf]; omega
            | cons i r =>
              obtain ⟨s, ws', hr, hm, hi, hSt2⟩ := POP1.out ws i r hl hSt.out
              obtain ⟨f0, hf0⟩ : ∃ f0, f0 = List.reverse r := ⟨_, rfl⟩
              have hfe : fr = f0 ++ [i] := by rw [hfr.out, List.reverse_cons, hf0]
              subst hfe
              have hme : m = f0.length + 1 := by rw [hm1.out]; simp
              subst hme
              obtain ⟨N1, ⟨g7, off7, rfl, C7⟩, hvc⟩ := hN.out.init
              have hvc0 : 0 < vc := by omega
              have b2 : (f0.length : Int) + 1 ≤ (vc : Int) := by omega
              have HF0 := Lib.hid hf0
              have HS2 := Lib.hid hSt2
              have few := hSt.out.few
              have hfb : f0.length ≤ 64 := by have := few.1; rw [List.length_cons] at this; rw [hf0, List.length_reverse]; omega
              have hlt2 := hC.out.lt
              have hPl := hB.lt
              have s7 : sblk (.slice (some ⟨g7, off7, none⟩) (f0.length + 1) vc) = some g7 := sblk_some hvc0
              have hg7 := hs.out g7 s7
              have lg7 := hN.out.lt s7
              have HH1 := Lib.hid (hH.out.below ((Below.refl _ _).alloc (Nat.le_refl _) (.cells #[.int .i64 (i : Int)] 3)))
              have HN1 := Lib.hid N1
              have HS7 := Lib.hid s7
              have hll : hl.length ≤ 60000 := by omega
              have HRM := Lib.hid (And.intro hr (And.intro hm hi))
              clear N1 hf0 hSt2 s7 hr hm hi
              go_wp2_with (at_builtin; refine wpList_append_ns rfl (.tmp 67) (.tmp 69) rfl _ hl rfl HH1.out i wr.heap.size rfl (Blk.new wr [.int .i64 (i : Int)] 3) hll ?_)
              intro ua2 uc2 w5 hH5 hM5 hs5
              have M5 : Mod (fun q => sblk (.slice ua m2 uc) = some q) wr w5 := ((Mod.refl _ _).alloc _).trans' hM5
              have H5 := Lib.hid hH5
              have N5 : Hid (NS w5 (.slice (some ⟨g7, off7, none⟩) f0.length vc) f0) := HN1.out.mod M5 (fun q hq e => by
                rw [sblk_n _ f0.length (f0.length + 1) vc, HS7.out] at hq
                injection hq with hq
                subst hq
                exact hg7.2.2.2 e)
              have D5 := Lib.hid (hC.out.mod M5 (fun e => (hu.out _ e).1 rfl) (fun e => (hu.out _ e).2.1 rfl))
              have B5 := M5.blk hB (fun e => by have := (hu.out _ e).2.2; omega)
              have C5 := B5.cell
              have X5 := Lib.hid (hX.out.mod M5 (fun q hq e => by have := (hu.out _ e).2.2; omega))
              have W5 := below_mod hW M5 hW.size (fun q hq e => by have := (hu.out _ e).2.2; omega)
              have U5 : Hid (∀ q, sblk (.slice ua2 (hl.length + 1) uc2) = some q → q ≠ b ∧ q ≠ g ∧ w.heap.size < q) := fun q hq => by
                rcases hs5 with e | ⟨q', e, hq'⟩
                · rw [e] at hq; exact hu.out q hq
                · rw [e] at hq; injection hq with hq; subst hq; (try simp at hq'); omega
              have S5 : Hid (∀ q, sblk (.slice (some ⟨g7, off7, none⟩) f0.length vc) = some q → q ≠ b ∧ q ≠ g ∧ w.heap.size < q ∧ sblk (.slice ua2 (hl.length + 1) uc2) ≠ some q) := fun q hq => by
                rw [sblk_n _ f0.length (f0.length + 1) vc, HS7.out] at hq
                injection hq with hq
                subst hq
                refine ⟨hg7.1, hg7.2.1, hg7.2.2.1, fun h2 => ?_⟩
                rcases hs5 with e | ⟨q', e, hq'⟩
                · rw [e] at h2; exact hg7.2.2.2 h2
                · rw [e] at h2; injection h2 with h2; subst h2; (try simp at hq'); omega
              have K := Lib.hid (pop_do T S L G w5 b g ws D5.out s ws' HRM.out.1 HRM.out.2.1)
              rw [HRM.out.2.2] at K
              clear hH5 hM5 hs5 M5 hN hH hC hB hX hW CB ht C7 HH1 HN1
              go_wp2_with fail
              refine K.out.mono ?_
              rintro e w6 ⟨rfl, hC6, hM6⟩
              have D6 := Lib.hid hC6
              have N6 := Lib.hid (N5.out.mod hM6 (fun q hq e => (S5.out q hq).2.1 e))
              have H6 := Lib.hid (H5.out.mod hM6 (fun q hq e => (U5.out q hq).2.1 e))
              have B6 := hM6.blk B5 (by omega)
              have X6 := Lib.hid (X5.out.mod hM6 (fun q hq e => by omega))
              have W6 := below_mod W5 hM6 W5.size (fun q hq e => by omega)
              clear hC6 hM6 N5 H5 B5 X5 W5 D5 K C5
              dsimp only
              go_wp2_with fail
              go_roundw
              case rel => exact ⟨k + 1, r, hl ++ [i], f0, ws', some ⟨g7, off7, none⟩, f0.length, vc, ua2, hl.length + 1, uc2, by omega, by go_num, rfl, rfl, Lib.hid rfl, Lib.hid (by simp), HF0, HS2, N6, H6, S5, U5, D6, B6, X6, W6⟩
              case measure => simp [intOf]; omega
          | false =>
            cases hl with
            | nil =>
              obtain rfl : m2 = 0 := hm2.out
              go_wp2_with fail
              go_roundw
              case rel => exact ⟨k + 1, st, [], fr, ws, va, m, vc, ua, 0, uc, by omega, by go_num, rfl, rfl, hm1, hm2, hfr, hSt, hN, hH, hs, hu, hC, hB, hX, hW⟩
              case measure => simp [intOf]; omega
            | cons i h =>
              obtain ⟨s, ws', hr, hm, hSt2⟩ := PUSH.out ws i st h hSt.out
              have hme : m2 = h.length + 1 := hm2.out
              subst hme
              obtain ⟨⟨g8, off8, rfl, C8⟩, huc⟩ := hH.out.head
              have b2 : (h.length : Int) + 1 ≤ (uc : Int) := by omega
              have b3 : (1 : Int) ≤ (h.length : Int) + 1 := by omega
              have b4 : (1 : Int) ≤ (uc : Int) := by omega
              have few := hSt.out.few
              have hfb : h.length ≤ 64 := by have := few.2; rw [List.length_cons] at this; omega
              have hlt2 := hC.out.lt
              have hPl := hB.lt
              have s8 : sblk (.slice (some ⟨g8, off8, none⟩) (h.length + 1) uc) = some g8 := sblk_some (by omega)
              have hg8 := hu.out g8 s8
              have lg8 := hH.out.lt s8
              have hfl : fr.length ≤ 60000 := by have := congrArg List.length hfr.out; rw [List.length_reverse] at this; omega
              have HS2 := Lib.hid hSt2
              have HS8 := Lib.hid s8
              have HRM := Lib.hid (And.intro hr hm)
              have HN1 := Lib.hid (hN.out.below ((Below.refl _ _).alloc (Nat.le_refl _) (.cells #[.int .i64 (i : Int)] 3)))
              have FR : Hid (fr ++ [i] = (i :: st).reverse) := by show _ = _; rw [hfr.out, List.reverse_cons]
              have TL : Hid (∀ (hv : Value), hv = (if uc = 1 then Value.slice (some ⟨g8, off8, none⟩) 0 0 else .slice (some ⟨g8, off8 + 1, none⟩) h.length (uc - 1)) → NS wr hv h ∧ ∀ q, sblk hv = some q → q = g8) := fun hv e => by
                by_cases h1 : uc = 1
                · rw [if_pos h1] at e
                  subst e
                  have h0 : h = [] := List.eq_nil_of_length_eq_zero (by omega)
                  subst h0
                  exact ⟨⟨_, 0, rfl, Nat.le_refl _, fun h => by omega⟩, fun q hq => by simp [sblk] at hq⟩
                · rw [if_neg h1] at e
                  subst e
                  exact ⟨hH.out.tail (by omega), fun q hq => by rw [sblk_some (by omega)] at hq; injection hq with hq; exact hq.symm⟩
              clear hSt2 s8 hr hm
              by_cases hu1 : uc = 1
              · have h0 : h = [] := List.eq_nil_of_length_eq_zero (by omega)
                subst hu1
                subst h0
                go_wp2_with (at_builtin; refine wpList_append_ns rfl (.tmp 84) (.tmp 86) rfl _ fr rfl HN1.out i wr.heap.size rfl (Blk.new wr [.int .i64 (i : Int)] 3) hfl ?_)
                intro va2 vc2 w5 hN5 hM5 hs5
                have M5 : Mod (fun q => sblk (.slice va m vc) = some q) wr w5 := ((Mod.refl _ _).alloc _).trans' hM5
                have TL1 := TL.out _ rfl
                have N5 : Hid (NS w5 (.slice va2 (fr.length + 1) vc2) (fr ++ [i])) := hN5
                have H5 : Hid (NS w5 (.slice (some ⟨g8, off8, none⟩) 0 0) _) := TL1.1.mod M5 (fun q hq e => by
                  have hq := TL1.2 q hq
                  subst hq
                  exact (hs.out _ e).2.2.2 HS8.out)
                have D5 := Lib.hid (hC.out.mod M5 (fun e => (hs.out _ e).1 rfl) (fun e => (hs.out _ e).2.1 rfl))
                have B5 := M5.blk hB (fun e => by have := (hs.out _ e).2.2.1; omega)
                have C5 := B5.cell
                have X5 := Lib.hid (hX.out.mod M5 (fun q hq e => by have := (hs.out _ e).2.2.1; omega))
                have W5 := below_mod hW M5 hW.size (fun q hq e => by have := (hs.out _ e).2.2.1; omega)
                have U5 : Hid (∀ q, sblk (.slice (some ⟨g8, off8, none⟩) 0 0) = some q → q ≠ b ∧ q ≠ g ∧ w.heap.size < q) := fun q hq => by
                  have hq := TL1.2 q hq
                  subst hq
                  exact hg8
                have S5 : Hid (∀ q, sblk (.slice va2 (fr.length + 1) vc2) = some q → q ≠ b ∧ q ≠ g ∧ w.heap.size < q ∧ sblk (.slice (some ⟨g8, off8, none⟩) 0 0) ≠ some q) := fun q hq => by
                  rcases hs5 with e | ⟨q', e, hq'⟩
                  · rw [e] at hq
                    have h1 := hs.out q hq
                    refine ⟨h1.1, h1.2.1, h1.2.2.1, fun h2 => ?_⟩
                    have h3 := TL1.2 q h2
                    subst h3
                    exact h1.2.2.2 HS8.out
                  · rw [e] at hq
                    injection hq with hq
                    subst hq
                    (try simp at hq')
                    refine ⟨by omega, by omega, by omega, fun h2 => ?_⟩
                    have h3 := TL1.2 _ h2
                    omega
                have K := Lib.hid (push_do T S L G i w5 b g ws D5.out s ws' HRM.out.1 HRM.out.2)
                clear hN5 hM5 hs5 M5 hN hH hC hB hX hW CB ht C8 HN1 TL TL1
                go_wp2_with fail
                refine K.out.mono ?_
                rintro e w6 ⟨rfl, hC6, hM6⟩
                have D6 := Lib.hid hC6
                have N6 := Lib.hid (N5.out.mod hM6 (fun q hq e => (S5.out q hq).2.1 e))
                have H6 := Lib.hid (H5.out.mod hM6 (fun q hq e => (U5.out q hq).2.1 e))
                have B6 := hM6.blk B5 (by omega)
                have X6 := Lib.hid (X5.out.mod hM6 (fun q hq e => by omega))
                have W6 := below_mod W5 hM6 W5.size (fun q hq e => by omega)
                clear hC6 hM6 N5 H5 B5 X5 W5 D5 K C5
                dsimp only
                go_wp2_with fail
                go_roundw
                case rel => exact ⟨k + 1, i :: st, _, fr ++ [i], ws', va2, fr.length + 1, vc2, _, _, _, by omega, by go_num, rfl, rfl, Lib.hid (by simp), Lib.hid rfl, FR, HS2, N6, H6, S5, U5, D6, B6, X6, W6⟩
                case measure => simp [intOf]; omega
              · have TLE : Hid (Value.slice (some ⟨g8, off8 + 1, none⟩) h.length (uc - 1) = (if uc = 1 then Value.slice (some ⟨g8, off8, none⟩) 0 0 else .slice (some ⟨g8, off8 + 1, none⟩) h.length (uc - 1))) := by show _ = _; rw [if_neg hu1]
                go_wp2_with (at_builtin; refine wpList_append_ns rfl (.tmp 84) (.tmp 86) rfl _ fr rfl HN1.out i wr.heap.size rfl (Blk.new wr [.int .i64 (i : Int)] 3) hfl ?_)
                intro va2 vc2 w5 hN5 hM5 hs5
                have M5 : Mod (fun q => sblk (.slice va m vc) = some q) wr w5 := ((Mod.refl _ _).alloc _).trans' hM5
                have TL1 := TL.out _ TLE.out
                have N5 : Hid (NS w5 (.slice va2 (fr.length + 1) vc2) (fr ++ [i])) := hN5
                have H5 : Hid (NS w5 (.slice (some ⟨g8, off8 + 1, none⟩) h.length (uc - 1)) _) := TL1.1.mod M5 (fun q hq e => by
                  have hq := TL1.2 q hq
                  subst hq
                  exact (hs.out _ e).2.2.2 HS8.out)
                have D5 := Lib.hid (hC.out.mod M5 (fun e => (hs.out _ e).1 rfl) (fun e => (hs.out _ e).2.1 rfl))
                have B5 := M5.blk hB (fun e => by have := (hs.out _ e).2.2.1; omega)
                have C5 := B5.cell
                have X5 := Lib.hid (hX.out.mod M5 (fun q hq e => by have := (hs.out _ e).2.2.1; omega))
                have W5 := below_mod hW M5 hW.size (fun q hq e => by have := (hs.out _ e).2.2.1; omega)
                have U5 : Hid (∀ q, sblk (.slice (some ⟨g8, off8 + 1, none⟩) h.length (uc - 1)) = some q → q ≠ b ∧ q ≠ g ∧ w.heap.size < q) := fun q hq => by
                  have hq := TL1.2 q hq
                  subst hq
                  exact hg8
                have S5 : Hid (∀ q, sblk (.slice va2 (fr.length + 1) vc2) = some q → q ≠ b ∧ q ≠ g ∧ w.heap.size < q ∧ sblk (.slice (some ⟨g8, off8 + 1, none⟩) h.length (uc - 1)) ≠ some q) := fun q hq => by
                  rcases hs5 with e | ⟨q', e, hq'⟩
                  · rw [e] at hq
                    have h1 := hs.out q hq
                    refine ⟨h1.1, h1.2.1, h1.2.2.1, fun h2 => ?_⟩
                    have h3 := TL1.2 q h2
                    subst h3
                    exact h1.2.2.2 HS8.out
                  · rw [e] at hq
                    injection hq with hq
                    subst hq
                    (try simp at hq')
                    refine ⟨by omega, by omega, by omega, fun h2 => ?_⟩
                    have h3 := TL1.2 _ h2
                    omega
                have K := Lib.hid (push_do T S L G i w5 b g ws D5.out s ws' HRM.out.1 HRM.out.2)
                clear hN5 hM5 hs5 M5 hN hH hC hB hX hW CB ht C8 HN1 TL TL1
                go_wp2_with fail
                refine K.out.mono ?_
                rintro e w6 ⟨rfl, hC6, hM6⟩
                have D6 := Lib.hid hC6
                have N6 := Lib.hid (N5.out.mod hM6 (fun q hq e => (S5.out q hq).2.1 e))
                have H6 := Lib.hid (H5.out.mod hM6 (fun q hq e => (U5.out q hq).2.1 e))
                have B6 := hM6.blk B5 (by omega)
                have X6 := Lib.hid (X5.out.mod hM6 (fun q hq e => by omega))
                have W6 := below_mod W5 hM6 W5.size (fun q hq e => by omega)
                clear hC6 hM6 N5 H5 B5 X5 W5 D5 K C5
                dsimp only
                go_wp2_with fail
                go_roundw
                case rel => exact ⟨k + 1, i :: st, _, fr ++ [i], ws', va2, fr.length + 1, vc2, _, _, _, by omega, by go_num, rfl, rfl, Lib.hid (by simp), Lib.hid rfl, FR, HS2, N6, H6, S5, U5, D6, B6, X6, W6⟩
                case measure => simp [intOf]; omega
        · obtain rfl : n = k := by omega
          have K : Hid (Calls Try.prog 123 #[.pointer (some ⟨b, 0, none⟩), planV T S L G] wr fun e w' => ∃ va vc, e = .returned (.slice va m vc) ∧ Below wr.heap.size wr w') := by
            have := FREE.out ws st hl b g wr hSt.out hC.out
            have e : m = st.length := by rw [hm1.out, hfr.out, List.length_reverse]
            rw [← e] at this
            exact this
          go_wp2_with fail
          refine K.out.mono ?_
          rintro e w5 ⟨va5, vc5, rfl, hb5⟩
          have W5 := hW.trans (hb5.mono hW.size)
          clear K
          dsimp only
          go_wp2_with fail
          refine (pool_awake _).mono ?_
          rintro e w6 ⟨rfl, hb6⟩
          have W6 := W5.trans (hb6.mono W5.size)
          dsimp only
          go_wp2_with fail
          go_ret
          exact ⟨rfl, W6⟩
end
theorem poolStack_walk (T S L G : Int) (hG : 0 ≤ G) (a : Option Addr) (n c : Nat) (w : World) (hv : BoolsR w w.heap.size (.slice a n c) n) : Calls Try.prog 31 #[planV T S L G, .slice a n c] w fun e w' => e = .returned (.bool true) ∧ Below w.heap.size w w' := by
  by_cases h : PRight T S L G
  · have h' := h
    obtain ⟨⟨p, q⟩, ⟨r, s⟩, ⟨x, y⟩, _⟩ := h'
    obtain ⟨T, rfl⟩ : ∃ m : Nat, T = m := ⟨T.toNat, by omega⟩
    obtain ⟨S, rfl⟩ : ∃ m : Nat, S = m := ⟨S.toNat, by omega⟩
    obtain ⟨L, rfl⟩ : ∃ m : Nat, L = m := ⟨L.toNat, by omega⟩
    by_cases hn : n ≤ 200
    · exact poolStack_in T S L G (by omega) (by omega) (by omega) h hG n _ hn w hv
    · exact poolStack_long T S L G a n c h (by omega) w
  · exact poolStack_no T S L G a n c h w
end Go.Proofs.Ytgkobmmannkegaa
