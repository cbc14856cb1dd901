/-
  The law PlanApart: all places, as the program tells them; each is marked once.
-/
import Derived.Test.YtgkobmmannkegaaApart
import Derived.Test.YtgkobmmannkegaaCells
namespace Go.Proofs.Ytgkobmmannkegaa
open Go Go.RowKit
set_option linter.unusedVariables false

/-- append of m elements, which lie in a block of their own. -/
theorem append_k {P : Program} {w : World} {ops : Array Oper} {rest : List Oper} {o : Oper} {a : Act} {Q : Exit → Act → World → Prop} (hgd : o.guard = none) (s x : Operand) (t : TypeId)
    (ho : o.op = .call { callee := .builtin .append, args := #[s, x], argTypes := #[t, t] })
    (lo : Nat) (e : TypeId) (z : Value) (size bytes : Nat) (ht : P.underlying t = some (.slice e)) (hi : (P.info? e).map (fun i => (i.zero, i.size, i.bytes)) = some (some z, size, bytes)) (hzs : z.cells.size = size) (hsz : 0 < size)
    (v : Value) (n : Nat) (xs : List Value) (hs : a.eval s = v) (hown : w.ownsRow lo e size v n xs)
    (B m : Nat) (T : TypeId) (cs : List Value) (hx : a.eval x = .slice (some ⟨B, 0, none⟩) m m) (hB : Blk w B cs T) (hl : cs.length = m * size) (h1 : ∀ u ∈ cs, u.oneCell' = true)
    (hn : n + m ≤ 65000) (hby : bytes ≤ 1000) (hbase : lo ≤ w.heap.size)
    (h : ∀ va vc w', w'.ownsRow lo e size (.slice va (n + m) vc) (n + m) (xs ++ cs) → w.grownBy w' v.ownBlock → wpList P ops Q rest (a.put o.dst (.slice va (n + m) vc)) w') : wpList P ops Q (o :: rest) a w := by
  obtain ⟨i0, hi, hz0, hz1, hz2⟩ := info_parts hi
  refine wpList_append_own w hgd s x t ho lo e i0 z size bytes ht hi hz0 hz1 hz2 hzs hsz v n xs hs hown ⟨B, 0, none⟩ m m cs hx hl ?_ h1 (by unfold maxLen; omega) ?_ hbase (fun v' w' h2 h3 _ => by obtain ⟨va, vc, rfl⟩ := owns_shape h2; exact h va vc w' h2 h3)
  · intro j u hu
    rw [Addr.add_lit, Nat.zero_add, hB.cell]
    exact hu
  · have h65 : (n + m) * bytes ≤ 65000 * 1000 := Nat.mul_le_mul hn hby
    omega
theorem info3 : (Try.prog.info? 3).map (fun i => (i.zero, i.size, i.bytes)) = some (some (.int .i64 0), 1, 8) := by kernel_rfl
abbrev ints (l : List Nat) : List Value := l.map fun (n : Nat) => .int .i64 (n : Int)
theorem ints_one (l : List Nat) : ∀ u ∈ ints l, u.oneCell' = true := by
  intro u hu
  obtain ⟨x, _, rfl⟩ := List.mem_map.1 hu
  rfl
theorem ints_append (l l' : List Nat) : ints (l ++ l') = ints l ++ ints l' := List.map_append
/-- A list of places of the call's own. -/
abbrev Places (w : World) (lo : Nat) (v : Value) (l : List Nat) : Prop := w.ownsRow lo 3 1 v l.length (ints l)
theorem append_ints {w : World} {ops : Array Oper} {rest : List Oper} {o : Oper} {a : Act} {Q : Exit → Act → World → Prop} (hgd : o.guard = none) (s x : Operand)
    (ho : o.op = .call { callee := .builtin .append, args := #[s, x], argTypes := #[49, 49] }) (lo : Nat) (v : Value) (l : List Nat) (hs : a.eval s = v) (hD : Places w lo v l) (l' : List Nat)
    (B m : Nat) (hx : a.eval x = .slice (some ⟨B, 0, none⟩) m m) (hm : l'.length = m) (hB : Blk w B (ints l') 3) (hn : l.length + m ≤ 65000) (hlo : lo ≤ w.heap.size)
    (h : ∀ va vc w', Places w' lo (.slice va (l.length + m) vc) (l ++ l') → w.grownBy w' v.ownBlock → wpList Try.prog ops Q rest (a.put o.dst (.slice va (l.length + m) vc)) w') : wpList Try.prog ops Q (o :: rest) a w := by
  refine append_k hgd s x 49 ho lo 3 _ 1 8 Try.underlying49 info3 rfl (by decide) v l.length (ints l) hs hD B m 3 (ints l') hx hB (by simpa using hm) (ints_one l') hn (by omega) hlo (fun va vc w' h2 h3 => h va vc w' ?_ h3)
  unfold Places
  rw [ints_append, List.length_append, hm]
  exact h2
theorem step_append_ints {w : World} {ops : Array Oper} {o : Oper} {a : Act} {K : Act → World → Prop} {Q : Exit → Act → World → Prop} {E : Prop} (hgd : o.guard = none) (s x : Operand)
    (ho : o.op = .call { callee := .builtin .append, args := #[s, x], argTypes := #[49, 49] }) (lo : Nat) (v : Value) (l : List Nat) (hs : a.eval s = v) (hD : Places w lo v l) (l' : List Nat)
    (B m : Nat) (hx : a.eval x = .slice (some ⟨B, 0, none⟩) m m) (hm : l'.length = m) (hB : Blk w B (ints l') 3) (hn : l.length + m ≤ 65000) (hlo : lo ≤ w.heap.size)
    (h : ∀ va vc w', Places w' lo (.slice va (l.length + m) vc) (l ++ l') → w.grownBy w' v.ownBlock → K (a.put o.dst (.slice va (l.length + m) vc)) w') :
    if Region.wanted o (yielded ops a.tmps) = true then Oper.wp Try.prog o a w K Q else E := by
  have hw : Region.wanted o (yielded ops a.tmps) = true := by simp [Region.wanted, hgd]
  rw [if_pos hw]
  obtain ⟨i0, hi, hz0, hz1, hz2⟩ := info_parts info3
  refine wp_append_own w s x 49 ho lo 3 i0 _ 1 8 Try.underlying49 hi hz0 hz1 hz2 rfl (by decide) v l.length (ints l) hs hD ⟨B, 0, none⟩ m m (ints l') hx (by simpa using hm) ?_ (ints_one l') (by unfold maxLen; omega) (by omega) hlo
    (fun v' w' h2 h3 _ => by
      obtain ⟨va, vc, rfl⟩ := owns_shape h2
      refine h va vc w' ?_ h3
      unfold Places
      rw [ints_append, List.length_append, hm]
      exact h2)
  intro j u hu
  rw [Addr.add_lit, Nat.zero_add, hB.cell]
  exact hu
/-- What is kept from w0 on, while a list is made longer: a block; nothing below lo turns. -/
def Hm (w0 : World) (lo b : Nat) (cs : List Value) (w : World) : Prop := Blk w b cs 24 ∧ Mod (fun k => lo ≤ k) w0 w
section
variable {w0 w w' : World} {lo b : Nat} {v : Value} {l : List Nat} {cs : List Value} {row : Option Nat}
theorem Hm.start (q : Blk w b cs 24) (lo : Nat) : Hm w lo b cs w.drew ∧ ∀ i, w.drew.cell? ⟨b, i, none⟩ = cs[i]? := ⟨⟨q, (Mod.refl _ _).drew⟩, q.cell⟩
theorem Hm.below (h : Hm w0 lo b cs w ∧ ∀ i, w.cell? ⟨b, i, none⟩ = cs[i]?) (hb : Below w.heap.size w w') : Hm w0 lo b cs w' ∧ ∀ i, w'.cell? ⟨b, i, none⟩ = cs[i]? :=
  ⟨⟨h.1.1.below' hb, h.1.2.thenBelow hb⟩, (h.1.1.below' hb).cell⟩
theorem Hm.alloc (h : Hm w0 lo b cs w ∧ ∀ i, w.cell? ⟨b, i, none⟩ = cs[i]?) (o : Obj) : Hm w0 lo b cs (w.alloc o) ∧ ∀ i, (w.alloc o).cell? ⟨b, i, none⟩ = cs[i]? := Hm.below h ((Below.refl _ _).alloc (Nat.le_refl _) _)
theorem Hm.grown (h : Hm w0 lo b cs w ∧ ∀ i, w.cell? ⟨b, i, none⟩ = cs[i]?) (hg : w.grownBy w' row) (hr : ∀ k, row = some k → lo ≤ k) (hb : b < lo) : Hm w0 lo b cs w' ∧ ∀ i, w'.cell? ⟨b, i, none⟩ = cs[i]? := by
  have q := grown_blk hg h.1.1 (fun k hk => by have := hr k hk; omega)
  exact ⟨⟨q, h.1.2.grown hg (fun k hk _ => hr k hk)⟩, q.cell⟩
theorem chain3 {w w1 w2 w3 : World} {o : Obj} (h1 : Below w.drew.heap.size w.drew w1) (h2 : Below w1.heap.size w1 w2) (h3 : Below w2.heap.size w2 w3) : w.heap.size ≤ (w3.alloc o).heap.size := by
  have a := h1.size
  have b := h2.size
  have c := h3.size
  simp at a ⊢
  omega
theorem chain6 {w w1 w2 w3 w4 w5 w6 : World} {o : Obj} (h1 : Below w.drew.heap.size w.drew w1) (h2 : Below w1.heap.size w1 w2) (h3 : Below w2.heap.size w2 w3) (h4 : Below w3.heap.size w3 w4) (h5 : Below w4.heap.size w4 w5) (h6 : Below w5.heap.size w5 w6) : w.heap.size ≤ (w6.alloc o).heap.size := by
  have a := h1.size
  have b := h2.size
  have c := h3.size
  have d := h4.size
  have e := h5.size
  have f := h6.size
  simp at a ⊢
  omega
theorem places_step (p : Places w lo v l) (hb : Below w.heap.size w w') : Places w' lo v l := ownsRow_mod p (Mod.of_below (S := fun _ => False) hb) (fun _ _ => id)
end
theorem places_blk {w : World} {g lo : Nat} {l : List Nat} (h : Blk w g (ints l) 3) (hg : lo ≤ g) (hn : l.length ≤ 65000) : Places w lo (.slice (some ⟨g, 0, none⟩) l.length l.length) l :=
  ⟨by simp, .inr ⟨g, l.length, _, rfl, hg, h, Nat.le_refl _, by unfold maxLen; omega, by simp, by simp [List.take_of_length_le]⟩⟩

section
variable (T S L : Nat) (G : Int) (hT : T ≤ 8) (hS : S ≤ 64) (hL : L ≤ 8)
theorem row_le (i : Nat) (hi : i ≤ S) (hS : S ≤ 64) (hL : L ≤ 8) : (i - 1) * (6 + L) ≤ 896 := by
  have := Nat.mul_le_mul (show i - 1 ≤ 64 by omega) (show 6 + L ≤ 14 by omega)
  omega
include hT hS hL
theorem nextP_eq (i k : Nat) (hi : i ≤ S) (hk : k ≤ 8) : nextP T L i k = (pNext T L i k : Nat) := by
  have hr := row_le S L i hi hS hL
  unfold nextP pNext
  by_cases h0 : i = 0
  · subst h0
    simp only [↓reduceIte, Int.ofNat_zero]
    rw [wrap64_def]; push_cast; omega
  · have h1 : ¬ ((i : Int) = 0) := by omega
    rw [if_neg h1, if_neg h0]
    have e : ((i : Int) - 1) * (6 + (L : Int)) = (((i - 1) * (6 + L) : Nat) : Int) := by
      rw [Int.natCast_mul]; congr 1; omega
    rw [e]
    generalize (i - 1) * (6 + L) = m at *
    rw [wrap64_def]; push_cast; omega
theorem slotP_eq (i k : Nat) (hi : i ≤ S) (h0 : 0 < i) (hk : k ≤ 8) : slotP T L i k = (pWord T L i k : Nat) := by
  have hr := row_le S L i hi hS hL
  unfold slotP pWord
  have e : ((i : Int) - 1) * (6 + (L : Int)) = (((i - 1) * (6 + L) : Nat) : Int) := by
    rw [Int.natCast_mul]; congr 1; omega
  rw [e]
  generalize (i - 1) * (6 + L) = m at *
  rw [wrap64_def]; push_cast; omega
theorem words_eq : wrap64 (4 + 3 * (T : Int) + L + S * (6 + (L : Int))) = (pCount T S L : Nat) := by
  have := Nat.mul_le_mul hS (show 6 + L ≤ 14 by omega)
  unfold pCount
  have e : (S : Int) * (6 + (L : Int)) = ((S * (6 + L) : Nat) : Int) := by
    rw [Int.natCast_mul]; congr 1
  rw [e]
  generalize S * (6 + L) = m at *
  rw [wrap64_def]; push_cast; omega
theorem pCount_le : pCount T S L ≤ 932 := by
  have := Nat.mul_le_mul hS (show 6 + L ≤ 14 by omega)
  unfold pCount
  omega
end
section
variable (T S L : Nat) (G : Int) (hT : T ≤ 8) (hS : S ≤ 64) (hL : L ≤ 8)
include hT hS hL
set_option maxHeartbeats 4000000 in
set_option maxRecDepth 100000 in
theorem all_calls (w : World) : Calls Try.prog 58 #[planV T S L G] w fun e w' =>
    ∃ va vc, e = .returned (.slice va (pAll T L (S + 1)).length vc) ∧ Places w' (w.heap.size + 1) (.slice va (pAll T L (S + 1)).length vc) (pAll T L (S + 1)) ∧ Below w.heap.size w w' := by
  have hN : ∀ i k : Nat, i ≤ S → k ≤ 8 → nextP T L i k = (pNext T L i k : Nat) := fun i k => nextP_eq T S L hT hS hL i k
  have hW : ∀ i k : Nat, i ≤ S → 0 < i → k ≤ 8 → slotP T L i k = (pWord T L i k : Nat) := fun i k => slotP_eq T S L hT hS hL i k
  have HN := Lib.hid hN
  have HW := Lib.hid hW
  clear hN hW
  have hP0 := Blk.new2 w (.cells #[.int .i64 T, .int .i64 S, .int .i64 L, .int .u64 G] 24) [.int .i64 0, .int .i64 1, .int .i64 2, .int .i64 3] 3
  have L0 := Lib.hid (places_blk (lo := w.heap.size + 1) (l := [0, 1, 2, 3]) hP0 (Nat.le_refl _) (by simp))
  have B0 := (Blk.new w [.int .i64 T, .int .i64 S, .int .i64 L, .int .u64 G] 24).alloc (.cells #[.int .i64 0, .int .i64 1, .int .i64 2, .int .i64 3] 3)
  have W0 : Below w.heap.size w ((w.alloc (.cells #[.int .i64 T, .int .i64 S, .int .i64 L, .int .u64 G] 24)).alloc (.cells #[.int .i64 0, .int .i64 1, .int .i64 2, .int .i64 3] 3)) := ((Below.refl _ _).alloc (Nat.le_refl _) _).alloc (by simp) _
  clear hP0
  go_enter Try.func58, Try.ntmps58
  go_wp2_with fail
  go_loopw [3, 4] (fun v i wr => ∃ (k : Nat), i = .int .i64 k ∧ k ≤ T ∧ Hid (Places wr (w.heap.size + 1) v (pThreads T k)) ∧ Blk wr w.heap.size [.int .i64 T, .int .i64 S, .int .i64 L, .int .u64 G] 24 ∧ Below w.heap.size w wr) (fun _ i _ => T - (intOf i).toNat)
  case atStart => exact ⟨0, rfl, by omega, L0, B0, W0⟩
  case round =>
    obtain ⟨k, rfl, hk, hD, B1, W1⟩ := hrel
    have C1 := B1.cell
    by_cases hlt : k < T
    · have e1 : wrap64 (4 + (k : Int)) = ((4 + k : Nat) : Int) := by rw [wrap64_def]; push_cast; omega
      have e2 : wrap64 (4 + (T : Int) + k) = ((4 + T + k : Nat) : Int) := by rw [wrap64_def]; push_cast; omega
      have e3 : wrap64 (4 + 2 * (T : Int) + k) = ((4 + 2 * T + k : Nat) : Int) := by rw [wrap64_def]; push_cast; omega
      have p1 := Lib.hid (pin_calls T S L G k)
      have p2 := Lib.hid (sleep_calls T S L G k)
      have p3 := Lib.hid (sem_calls T S L G k)
      rw [e1] at p1
      rw [e2] at p2
      rw [e3] at p3
      clear e1 e2 e3
      generalize h1 : 4 + k = x1 at *
      generalize h2 : 4 + T + k = x2 at *
      generalize h3 : 4 + 2 * T + k = x3 at *
      have HX : Hid (pThread T k = [x1, x2, x3]) := by show pThread T k = [x1, x2, x3]; simp [pThread, h1, h2, h3]
      clear h1 h2 h3
      have hlen : (pThreads T k).length = 4 + 3 * k := pThreads_length T k
      have HLE := Lib.hid hlen
      clear hlen
      go_wp2_with fail
      have z1 := W1.size
      have l1 := B1.lt
      have HLE' : (pThreads T k).length ≤ 100 := by rw [HLE.out]; omega
      have hsz : w.heap.size + 1 ≤ wr.heap.size := l1
      go_region_held3 (fun w' => Hm wr (w.heap.size + 1) w.heap.size [.int .i64 T, .int .i64 S, .int .i64 L, .int .u64 G] w' ∧ ∀ i, w'.cell? ⟨w.heap.size, i, none⟩ = [Value.int .i64 T, .int .i64 S, .int .i64 L, .int .u64 G][i]?)
        ((first | exact Hm.start B1 _ | exact Hm.below (by assumption) (by assumption) | exact Hm.alloc (by assumption) _ | exact Hm.grown (by assumption) (by assumption) (own_ge hD.out) (by omega)))
        (first | (go_at_call 42; refine (p1.out _).mono ?_; rintro e w' ⟨rfl, hb2⟩) | (go_at_call 44; refine (p2.out _).mono ?_; rintro e w' ⟨rfl, hb2⟩) | (go_at_call 46; refine (p3.out _).mono ?_; rintro e w' ⟨rfl, hb2⟩) |
          (refine step_append_ints (by rfl) (.tmp 14) (.tmp 24) (by rfl) (w.heap.size + 1) u3 (pThreads T k) (by rfl) ((places_step (places_step (places_step hD.out.drew (by assumption)) (by assumption)) (by assumption)).alloc _) [x1, x2, x3] _ 3 (by rfl) (by rfl) (Blk.new _ _ _) (by omega) (Nat.le_trans hsz (chain3 (by assumption) (by assumption) (by assumption))) ?_; intro va vc w3 hD3 hg3))
      obtain ⟨⟨B3, M3⟩, _⟩ : Hm wr (w.heap.size + 1) w.heap.size [.int .i64 T, .int .i64 S, .int .i64 L, .int .u64 G] w3 ∧ ∀ i, w3.cell? ⟨w.heap.size, i, none⟩ = [Value.int .i64 T, .int .i64 S, .int .i64 L, .int .u64 G][i]? := by assumption
      have D3 := Lib.hid hD3
      have W3 := below_mod W1 M3 (by omega) (fun q hq => by omega)
      clear hD3 hg3 M3 hD C1
      go_wp2_with fail
      go_roundw
      case rel =>
        refine ⟨k + 1, by go_num, by omega, ?_, B3, W3⟩
        rw [pThreads_succ, HX.out]
        exact D3
      case measure => simp [intOf]; omega
    · obtain rfl : T = k := by omega
      have hD' : Hid (Places wr (w.heap.size + 1) u3 (pAll T L 0)) := by show Places _ _ _ _; simpa [pAll] using hD.out
      obtain ⟨wo, hwo⟩ : ∃ wo : World, wo = wr := ⟨_, rfl⟩
      subst hwo
      clear hD L0 B0 W0 hlt hk
      go_wp2_with fail
      go_loopw [3, 5] (fun v i wr => ∃ (k : Nat), i = .int .i64 k ∧ k ≤ S + 1 ∧ Hid (Places wr (w.heap.size + 1) v (pAll T L k)) ∧ Blk wr w.heap.size [.int .i64 T, .int .i64 S, .int .i64 L, .int .u64 G] 24 ∧ Below w.heap.size w wr) (fun _ i _ => S + 1 - (intOf i).toNat)
      case atStart => exact ⟨0, rfl, by omega, hD', B1, W1⟩
      case round =>
        obtain ⟨i, rfl, hi, hA, B2, W2⟩ := hrel
        have C2 := B2.cell
        by_cases hlt : i ≤ S
        · obtain ⟨wi, hwi⟩ : ∃ wi : World, wi = wr := ⟨_, rfl⟩
          subst hwi
          clear hD' B1 W1 C1
          have hlen0 : (pAll T L i).length ≤ 932 := by
            cases i with
            | zero => simp [pAll, pThreads_length]; omega
            | succ i => rw [pAll_length]; exact pCount_le T i L hT (by omega) hL
          go_wp2_with fail
          go_loopw [3, 6] (fun v j wr => ∃ (k : Nat), j = .int .i64 k ∧ k ≤ L ∧ Hid (Places wr (w.heap.size + 1) v (pAll T L i ++ (List.range k).map (pNext T L i))) ∧ Blk wr w.heap.size [.int .i64 T, .int .i64 S, .int .i64 L, .int .u64 G] 24 ∧ Below w.heap.size w wr) (fun _ j _ => L - (intOf j).toNat)
          case atStart => exact ⟨0, rfl, by omega, by simpa using hA, B2, W2⟩
          case round =>
            obtain ⟨k, rfl, hk, hD, B3, W3⟩ := hrel
            have C3 := B3.cell
            by_cases hkl : k < L
            · have p1 := Lib.hid (next_calls T S L G (i : Int) (k : Int))
              rw [HN.out i k hlt (by omega)] at p1
              generalize h1 : pNext T L i k = x1 at *
              have H1 := Lib.hid h1
              have hlen1 : (pAll T L i ++ (List.range k).map (pNext T L i)).length ≤ 1000 := by simp; omega
              clear h1 C2 hA B2 W2
              go_wp2_with fail
              refine (p1.out _).mono ?_
              rintro e w2 ⟨rfl, hb2⟩
              have D2 := Lib.hid (ownsRow_mod hD.out (Mod.of_below (S := fun _ => False) hb2) (fun _ _ => id))
              have z2 := hb2.size
              have z1 := W3.size
              have l1 := B3.lt
              go_wp2_with (at_builtin; refine append_ints rfl (.tmp 38) (.tmp 43) rfl (w.heap.size + 1) _ _ rfl (D2.out.alloc _) [x1] w2.heap.size 1 rfl rfl (Blk.new _ _ _) ?c1 ?c2 ?_)
              case c1 => omega
              case c2 => simp; omega
              intro va vc w3 hD3 hg3
              have M3 : Mod (fun k => w.heap.size + 1 ≤ k) wr w3 := ((Mod.of_below hb2).alloc _).grown hg3 (fun k hk _ => own_ge D2.out k hk)
              have D3 := Lib.hid hD3
              have B4 := M3.blk B3 (by omega)
              have W4 := below_mod W3 M3 (by omega) (fun q hq => by omega)
              clear hD3 hg3 M3 D2 hD C3
              go_wp2_with fail
              go_roundw
              case rel =>
                refine ⟨k + 1, by go_num, by omega, ?_, B4, W4⟩
                rw [List.range_succ, List.map_append, List.map_singleton, H1.out]
                exact D3
              case measure => simp [intOf]; omega
            · obtain rfl : L = k := by omega
              by_cases hi0 : i = 0
              · subst hi0
                clear C2 hA B2 W2
                go_wp2_with fail
                go_roundw
                case rel =>
                  refine ⟨1, rfl, by omega, ?_, B3, W3⟩
                  rw [pAll_succ]
                  simpa [pSlot, pSix] using hD
                case measure => simp [intOf]
              · have hpos : decide (0 < (i : Int)) = true := by simp; omega
                have q0 := Lib.hid (state_calls T S L G (i : Int))
                rw [show slotP (T : Int) L i 0 = ((pWord T L i 0 : Nat) : Int) from HW.out i 0 (by omega) (by omega) (by omega)] at q0
                have q1 := Lib.hid (dead_calls T S L G (i : Int))
                rw [show slotP (T : Int) L i 1 = ((pWord T L i 1 : Nat) : Int) from HW.out i 1 (by omega) (by omega) (by omega)] at q1
                have q2 := Lib.hid (seq_calls T S L G (i : Int))
                rw [show slotP (T : Int) L i 2 = ((pWord T L i 2 : Nat) : Int) from HW.out i 2 (by omega) (by omega) (by omega)] at q2
                have q3 := Lib.hid (tall_calls T S L G (i : Int))
                rw [show slotP (T : Int) L i 3 = ((pWord T L i 3 : Nat) : Int) from HW.out i 3 (by omega) (by omega) (by omega)] at q3
                have q4 := Lib.hid (hold_calls T S L G (i : Int))
                rw [show slotP (T : Int) L i 4 = ((pWord T L i 4 : Nat) : Int) from HW.out i 4 (by omega) (by omega) (by omega)] at q4
                have q5 := Lib.hid (succ_calls T S L G (i : Int))
                rw [show slotP (T : Int) L i 5 = ((pWord T L i 5 : Nat) : Int) from HW.out i 5 (by omega) (by omega) (by omega)] at q5

                have hx : Hid (pSix T L i = [pWord T L i 0, pWord T L i 1, pWord T L i 2, pWord T L i 3, pWord T L i 4, pWord T L i 5]) := by show pSix T L i = _; simp [pSix, hi0]
                generalize h0 : pWord T L i 0 = x0 at *
                generalize h1 : pWord T L i 1 = x1 at *
                generalize h2 : pWord T L i 2 = x2 at *
                generalize h3 : pWord T L i 3 = x3 at *
                generalize h4 : pWord T L i 4 = x4 at *
                generalize h5 : pWord T L i 5 = x5 at *

                have hlen1 : (pAll T L i ++ (List.range L).map (pNext T L i)).length ≤ 1000 := by simp; omega
                clear C2 hA B2 W2 h0 h1 h2 h3 h4 h5
                go_wp2_with fail
                have z1 := W3.size
                have l1 := B3.lt
                have hsz : w.heap.size + 1 ≤ wr.heap.size := l1
                go_region_held3 (fun w' => Hm wr (w.heap.size + 1) w.heap.size [.int .i64 T, .int .i64 S, .int .i64 L, .int .u64 G] w' ∧ ∀ i, w'.cell? ⟨w.heap.size, i, none⟩ = [Value.int .i64 T, .int .i64 S, .int .i64 L, .int .u64 G][i]?)
                  ((first | exact Hm.start B3 _ | exact Hm.below (by assumption) (by assumption) | exact Hm.alloc (by assumption) _ | exact Hm.grown (by assumption) (by assumption) (own_ge hD.out) (by omega)))
                  (first | (go_at_call 50; refine (q0.out _).mono ?_; rintro e w' ⟨rfl, hb2⟩) | (go_at_call 51; refine (q1.out _).mono ?_; rintro e w' ⟨rfl, hb2⟩) | (go_at_call 52; refine (q2.out _).mono ?_; rintro e w' ⟨rfl, hb2⟩) | (go_at_call 53; refine (q3.out _).mono ?_; rintro e w' ⟨rfl, hb2⟩) | (go_at_call 54; refine (q4.out _).mono ?_; rintro e w' ⟨rfl, hb2⟩) | (go_at_call 55; refine (q5.out _).mono ?_; rintro e w' ⟨rfl, hb2⟩) |
                    (refine step_append_ints (by rfl) (.tmp 47) (.tmp 66) (by rfl) (w.heap.size + 1) u3 _ (by rfl) (World.ownsRow.alloc (places_step (places_step (places_step (places_step (places_step (places_step hD.out.drew (by assumption)) (by assumption)) (by assumption)) (by assumption)) (by assumption)) (by assumption)) _) [x0, x1, x2, x3, x4, x5] _ 6 (by rfl) (by rfl) (Blk.new _ _ _) (by omega) (Nat.le_trans hsz (chain6 (by assumption) (by assumption) (by assumption) (by assumption) (by assumption) (by assumption))) ?_; intro va vc w3 hD3 hg3))
                obtain ⟨⟨B4, M3⟩, _⟩ : Hm wr (w.heap.size + 1) w.heap.size [.int .i64 T, .int .i64 S, .int .i64 L, .int .u64 G] w3 ∧ ∀ i, w3.cell? ⟨w.heap.size, i, none⟩ = [Value.int .i64 T, .int .i64 S, .int .i64 L, .int .u64 G][i]? := by assumption
                have D3 := Lib.hid hD3
                have W4 := below_mod W3 M3 (by omega) (fun q hq => by omega)
                clear hD3 hg3 M3 hD C3
                go_wp2_with fail
                go_roundw
                case rel =>
                  refine ⟨i + 1, by go_num, by omega, ?_, B4, W4⟩
                  rw [pAll_succ, pSlot, hx.out]
                  have h := D3.out
                  rw [List.append_assoc, List.length_append, List.length_map, List.length_range] at h
                  exact h
                case measure => simp [intOf]; omega
        · obtain rfl : i = S + 1 := by omega
          have hgt : ¬ ((S : Int) + 1 ≤ (S : Int)) := by omega
          obtain ⟨va, vc, rfl⟩ := owns_shape hA.out
          clear hD' B1 W1 C1
          go_wp2_with fail
          go_ret
          exact ⟨va, vc, rfl, hA.out, W2⟩
end
end Go.Proofs.Ytgkobmmannkegaa
