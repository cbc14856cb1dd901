/-
  The law PlanTells, walked.
-/
import Derived.Test.YtgkobmmannkegaaApartClaims
namespace Go.Proofs.Ytgkobmmannkegaa
open Go Go.RowKit
set_option linter.unusedVariables false
/-- A new array of six numbers, and its cells, kept over what only makes memory. -/
theorem arr_of_new {W w' : World} (hb : Below (W.alloc (.cells #[Value.int .i64 0, .int .i64 0, .int .i64 0, .int .i64 0, .int .i64 0, .int .i64 0] 47)).heap.size (W.alloc (.cells #[Value.int .i64 0, .int .i64 0, .int .i64 0, .int .i64 0, .int .i64 0, .int .i64 0] 47)) w') :
    Blk w' W.heap.size [Value.int .i64 0, .int .i64 0, .int .i64 0, .int .i64 0, .int .i64 0, .int .i64 0] 47 ∧ (∀ i, w'.cell? ⟨W.heap.size, i, none⟩ = [Value.int .i64 0, .int .i64 0, .int .i64 0, .int .i64 0, .int .i64 0, .int .i64 0][i]?) ∧ ∀ i, w'.frozen? ⟨W.heap.size, i, none⟩ = false :=
  have h := (Blk.new W [Value.int .i64 0, .int .i64 0, .int .i64 0, .int .i64 0, .int .i64 0, .int .i64 0] 47).below' hb
  ⟨h, h.cell, h.frozen⟩
theorem arr_keep {w w' : World} {A : Nat} (hb : Below w.heap.size w w') (h : Blk w A [Value.int .i64 0, .int .i64 0, .int .i64 0, .int .i64 0, .int .i64 0, .int .i64 0] 47) :
    Blk w' A [Value.int .i64 0, .int .i64 0, .int .i64 0, .int .i64 0, .int .i64 0, .int .i64 0] 47 ∧ (∀ i, w'.cell? ⟨A, i, none⟩ = [Value.int .i64 0, .int .i64 0, .int .i64 0, .int .i64 0, .int .i64 0, .int .i64 0][i]?) ∧ ∀ i, w'.frozen? ⟨A, i, none⟩ = false :=
  have h := h.below' hb
  ⟨h, h.cell, h.frozen⟩
theorem arr_new_k {G : Prop} {W w' : World} (h : (Blk w' W.heap.size [Value.int .i64 0, .int .i64 0, .int .i64 0, .int .i64 0, .int .i64 0, .int .i64 0] 47 ∧ (∀ i, w'.cell? ⟨W.heap.size, i, none⟩ = [Value.int .i64 0, .int .i64 0, .int .i64 0, .int .i64 0, .int .i64 0, .int .i64 0][i]?) ∧ ∀ i, w'.frozen? ⟨W.heap.size, i, none⟩ = false) → Below (W.alloc (.cells #[Value.int .i64 0, .int .i64 0, .int .i64 0, .int .i64 0, .int .i64 0, .int .i64 0] 47)).heap.size (W.alloc (.cells #[Value.int .i64 0, .int .i64 0, .int .i64 0, .int .i64 0, .int .i64 0, .int .i64 0] 47)) w' → G) :
    Below (W.alloc (.cells #[Value.int .i64 0, .int .i64 0, .int .i64 0, .int .i64 0, .int .i64 0, .int .i64 0] 47)).heap.size (W.alloc (.cells #[Value.int .i64 0, .int .i64 0, .int .i64 0, .int .i64 0, .int .i64 0, .int .i64 0] 47)) w' → G := fun hb => h (arr_of_new hb) hb
theorem arr_new_d {G : Prop} {W w' : World} (h : (Blk w' W.heap.size [Value.int .i64 0, .int .i64 0, .int .i64 0, .int .i64 0, .int .i64 0, .int .i64 0] 47 ∧ (∀ i, w'.cell? ⟨W.heap.size, i, none⟩ = [Value.int .i64 0, .int .i64 0, .int .i64 0, .int .i64 0, .int .i64 0, .int .i64 0][i]?) ∧ ∀ i, w'.frozen? ⟨W.heap.size, i, none⟩ = false) → Below (W.alloc (.cells #[Value.int .i64 0, .int .i64 0, .int .i64 0, .int .i64 0, .int .i64 0, .int .i64 0] 47)).drew.heap.size (W.alloc (.cells #[Value.int .i64 0, .int .i64 0, .int .i64 0, .int .i64 0, .int .i64 0, .int .i64 0] 47)).drew w' → G) :
    Below (W.alloc (.cells #[Value.int .i64 0, .int .i64 0, .int .i64 0, .int .i64 0, .int .i64 0, .int .i64 0] 47)).drew.heap.size (W.alloc (.cells #[Value.int .i64 0, .int .i64 0, .int .i64 0, .int .i64 0, .int .i64 0, .int .i64 0] 47)).drew w' → G := fun hb => h (arr_of_new ⟨hb.os, hb.tape, hb.output, hb.size, hb.block⟩) hb
theorem Hm.startA {w : World} {b : Nat} {cs : List Value} (q : Blk w b cs 24) (lo : Nat) (o : Obj) : Hm w lo b cs (w.alloc o).drew ∧ ∀ i, (w.alloc o).drew.cell? ⟨b, i, none⟩ = cs[i]? := ⟨⟨(q.alloc o).drew, ((Mod.refl _ _).alloc o).drew⟩, (q.alloc o).cell⟩
theorem arr_keep_k {G : Prop} {w w' : World} {A : Nat} (h0 : Blk w A [Value.int .i64 0, .int .i64 0, .int .i64 0, .int .i64 0, .int .i64 0, .int .i64 0] 47) (h : (Blk w' A [Value.int .i64 0, .int .i64 0, .int .i64 0, .int .i64 0, .int .i64 0, .int .i64 0] 47 ∧ (∀ i, w'.cell? ⟨A, i, none⟩ = [Value.int .i64 0, .int .i64 0, .int .i64 0, .int .i64 0, .int .i64 0, .int .i64 0][i]?) ∧ ∀ i, w'.frozen? ⟨A, i, none⟩ = false) → Below w.heap.size w w' → G) :
    Below w.heap.size w w' → G := fun hb => h (arr_keep hb h0) hb
theorem Hm.again {w0 w : World} {lo b : Nat} {cs xs ys : List Value} (h : Hm w0 lo b cs (w.alloc (.cells xs.toArray 47)) ∧ ∀ i, (w.alloc (.cells xs.toArray 47)).cell? ⟨b, i, none⟩ = cs[i]?) (hz : w0.heap.size ≤ w.heap.size) :
    Hm w0 lo b cs (w.alloc (.cells ys.toArray 47)) ∧ ∀ i, (w.alloc (.cells ys.toArray 47)).cell? ⟨b, i, none⟩ = cs[i]? := by
  obtain ⟨⟨q, m⟩, _⟩ := h
  have hne : b ≠ w.heap.size := by
    rintro rfl
    have h1 := Blk.new w xs 47
    unfold Blk at h1 q
    rw [h1] at q
    injection q with q
    injection q with _ q
    cases q
  have hlt : b < w.heap.size := by have := q.lt; simp at this; omega
  have q' : Blk (w.alloc (.cells ys.toArray 47)) b cs 24 := by
    unfold Blk at q ⊢
    rw [Below.heap_alloc _ _ _ hlt] at q ⊢
    exact q
  refine ⟨⟨q', m.os, m.tape, m.output, by simp; omega, fun k hk hn => ?_⟩, q'.cell⟩
  have := m.block k hk hn
  rw [Below.heap_alloc _ _ _ (by omega)] at this ⊢
  exact this
theorem Hm.six {w0 w : World} {lo b A : Nat} {cs : List Value} (h : Hm w0 lo b cs w ∧ ∀ i, w.cell? ⟨b, i, none⟩ = cs[i]?) (hA : Blk w A [Value.int .i64 0, .int .i64 0, .int .i64 0, .int .i64 0, .int .i64 0, .int .i64 0] 47) (hlo : lo ≤ A) (v0 v1 v2 v3 v4 v5 : Value) :
    Hm w0 lo b cs ((((((w.setCell ⟨A, 0, none⟩ v0).setCell ⟨A, 1, none⟩ v1).setCell ⟨A, 2, none⟩ v2).setCell ⟨A, 3, none⟩ v3).setCell ⟨A, 4, none⟩ v4).setCell ⟨A, 5, none⟩ v5) ∧
      ∀ i, ((((((w.setCell ⟨A, 0, none⟩ v0).setCell ⟨A, 1, none⟩ v1).setCell ⟨A, 2, none⟩ v2).setCell ⟨A, 3, none⟩ v3).setCell ⟨A, 4, none⟩ v4).setCell ⟨A, 5, none⟩ v5).cell? ⟨b, i, none⟩ = cs[i]? := by
  obtain ⟨⟨q, m⟩, _⟩ := h
  have hne : b ≠ A := by
    rintro rfl
    unfold Blk at hA q
    rw [hA] at q
    injection q with q
    injection q with _ q
    cases q
  have ho := Only.set6 w A v0 v1 v2 v3 v4 v5
  have q' := ho.blk q hne
  exact ⟨⟨q', m.trans ho.mod (fun k _ e => by omega)⟩, q'.cell⟩
/-- The six words of a slot. -/
abbrev six (T L i : Int) : List Value := [.int .i64 (slotP T L i 0), .int .i64 (slotP T L i 1), .int .i64 (slotP T L i 2), .int .i64 (slotP T L i 3), .int .i64 (slotP T L i 4), .int .i64 (slotP T L i 5)]
theorem six_get (T L i : Int) (n : Nat) (h : n < 6) : (six T L i)[n]? = some (.int .i64 (slotP T L i n)) := by
  have h6 : n = 0 ∨ n = 1 ∨ n = 2 ∨ n = 3 ∨ n = 4 ∨ n = 5 := by omega
  rcases h6 with rfl | rfl | rfl | rfl | rfl | rfl <;> rfl
section
variable {T L i : Int} {w w2 W : World} {b A : Nat} {cs : List Value}
theorem cut_new (hh : Hm w2 w2.heap.size b cs (W.alloc (.cells (six T L i).toArray 47)) ∧ ∀ j, (W.alloc (.cells (six T L i).toArray 47)).cell? ⟨b, j, none⟩ = cs[j]?) (W2 : Below w.heap.size w w2) :
    ∃ A, Value.pointer (some ⟨W.heap.size, 0, none⟩) = .pointer (some ⟨A, 0, none⟩) ∧ Blk (W.alloc (.cells (six T L i).toArray 47)) A (six T L i) 47 ∧ Blk (W.alloc (.cells (six T L i).toArray 47)) b cs 24 ∧ Below w.heap.size w (W.alloc (.cells (six T L i).toArray 47)) :=
  ⟨_, rfl, Blk.new _ _ _, hh.1.1, below_mod W2 hh.1.2 W2.size (fun k hk e => by have := W2.size; omega)⟩
theorem cut_set (hB : Blk W A [Value.int .i64 0, .int .i64 0, .int .i64 0, .int .i64 0, .int .i64 0, .int .i64 0] 47) {v0 v1 v2 v3 v4 v5 : Value}
    (hh : Hm w2 w2.heap.size b cs ((((((W.setCell ⟨A, 0, none⟩ v0).setCell ⟨A, 1, none⟩ v1).setCell ⟨A, 2, none⟩ v2).setCell ⟨A, 3, none⟩ v3).setCell ⟨A, 4, none⟩ v4).setCell ⟨A, 5, none⟩ v5) ∧
      ∀ j, ((((((W.setCell ⟨A, 0, none⟩ v0).setCell ⟨A, 1, none⟩ v1).setCell ⟨A, 2, none⟩ v2).setCell ⟨A, 3, none⟩ v3).setCell ⟨A, 4, none⟩ v4).setCell ⟨A, 5, none⟩ v5).cell? ⟨b, j, none⟩ = cs[j]?) (W2 : Below w.heap.size w w2) :
    ∃ A', Value.pointer (some ⟨A, 0, none⟩) = .pointer (some ⟨A', 0, none⟩) ∧ Blk ((((((W.setCell ⟨A, 0, none⟩ v0).setCell ⟨A, 1, none⟩ v1).setCell ⟨A, 2, none⟩ v2).setCell ⟨A, 3, none⟩ v3).setCell ⟨A, 4, none⟩ v4).setCell ⟨A, 5, none⟩ v5) A' [v0, v1, v2, v3, v4, v5] 47 ∧
      Blk ((((((W.setCell ⟨A, 0, none⟩ v0).setCell ⟨A, 1, none⟩ v1).setCell ⟨A, 2, none⟩ v2).setCell ⟨A, 3, none⟩ v3).setCell ⟨A, 4, none⟩ v4).setCell ⟨A, 5, none⟩ v5) b cs 24 ∧
      Below w.heap.size w ((((((W.setCell ⟨A, 0, none⟩ v0).setCell ⟨A, 1, none⟩ v1).setCell ⟨A, 2, none⟩ v2).setCell ⟨A, 3, none⟩ v3).setCell ⟨A, 4, none⟩ v4).setCell ⟨A, 5, none⟩ v5) :=
  ⟨_, rfl, hB.set6 _ _ _ _ _ _, hh.1.1, below_mod W2 hh.1.2 W2.size (fun k hk e => by have := W2.size; omega)⟩
end
set_option maxHeartbeats 4000000 in
set_option maxRecDepth 100000 in
theorem planTells_rest (T S L G i k : Int) (r : Int) (rb : Bool) (h1 : Gives 38 #[planV T S L G] (.int .i64 r)) (h2 : Gives 39 #[planV T S L G] (.bool rb)) (hr : (r = 0 ∧ rb = true) ∨ (r = 1 ∧ rb = false)) (w : World) :
    Calls Try.prog 4 #[planV T S L G, .int .i64 i, .int .i64 k] w fun e w' => e = .returned (.bool true) ∧ Below w.heap.size w w' := by
  have H1 := Lib.hid h1
  have H2 := Lib.hid h2
  have P0 := Blk.new w [.int .i64 T, .int .i64 S, .int .i64 L, .int .u64 G] 24
  have C0 := P0.cell
  clear h1 h2
  rcases hr with ⟨rfl, rfl⟩ | ⟨rfl, rfl⟩
  all_goals
    go_enter Try.func4, Try.ntmps4
    go_wp2_with fail
    refine wp_region_reads (by kernel_rfl) (by kernel_rfl) ?_
    repeat (quiet_step ((first | (go_at_call 38; exact calls_later (H1.out _)) | (go_at_call 39; exact calls_later (H2.out _)) | (go_at_call 40; exact calls_later (words_calls _ _ _ _ _)) | (go_at_call 41; exact calls_later (rwords_calls _ _ _ _ _)))))
    refine wpQuiet_nil ?_
    intro w1 hb1
    have P1 := P0.below' hb1
    have C1 := P1.cell
    have W1 := Below.step _ hb1
    clear C0 P0 hb1
    go_wp2_with fail
    refine wp_region_reads (by kernel_rfl) (by kernel_rfl) ?_
    repeat (quiet_step ((first | (go_at_call 42; exact calls_later (pin_calls _ _ _ _ _ _)) | (go_at_call 43; exact calls_later (rpin_calls _ _ _ _ _ _)) | (go_at_call 44; exact calls_later (sleep_calls _ _ _ _ _ _)) | (go_at_call 45; exact calls_later (rsleep_calls _ _ _ _ _ _)) | (go_at_call 46; exact calls_later (sem_calls _ _ _ _ _ _)) | (go_at_call 47; exact calls_later (rsem_calls _ _ _ _ _ _)) | (go_at_call 48; exact calls_later (next_calls _ _ _ _ _ _ _)) | (go_at_call 49; exact calls_later (rnext_calls _ _ _ _ _ _ _)))))
    refine wpQuiet_nil ?_
    intro w2 hb2
    have P2 := P1.below' hb2
    have C2 := P2.cell
    have W2 := W1.trans (hb2.mono W1.size)
    clear C1 P1 hb2 W1
    clear H1 H2
    go_upto_region 5 with fail
    go_cut [7] (fun v wx => ∃ A, v = .pointer (some ⟨A, 0, none⟩) ∧ Blk wx A (six T L i) 47 ∧ Blk wx w.heap.size [.int .i64 T, .int .i64 S, .int .i64 L, .int .u64 G] 24 ∧ Below w.heap.size w wx)
    case first =>
      go_wp2_with fail
      go_region_held3 (fun w' => Hm w2 w2.heap.size w.heap.size [.int .i64 T, .int .i64 S, .int .i64 L, .int .u64 G] w' ∧ ∀ i, w'.cell? ⟨w.heap.size, i, none⟩ = [Value.int .i64 T, .int .i64 S, .int .i64 L, .int .u64 G][i]?)
        ((first | (with_reducible exact Hm.start P2 _) | (with_reducible exact Hm.startA P2 _ _) | ((with_reducible refine Hm.six ?_ hB5 ?_ _ _ _ _ _ _); assumption; omega) | ((with_reducible refine Hm.below ?_ hb5); assumption) | ((with_reducible refine Hm.again (xs := [Value.int .i64 0, .int .i64 0, .int .i64 0, .int .i64 0, .int .i64 0, .int .i64 0]) ?_ ?_); assumption; omega) | ((with_reducible refine Hm.alloc ?_ _); assumption)))
        (first | (go_at_call 50; refine (state_calls T S L G i _).mono ?_; rintro e w' ⟨rfl, hb5⟩; have hz5 := hb5.size; (try rw [World.size_drew] at hz5); (try rw [World.size_alloc] at hz5); revert hb5; (first | ((with_reducible refine arr_new_k ?_); rintro ⟨hB5, hA5, hF5⟩ hb5) | ((with_reducible refine arr_new_d ?_); rintro ⟨hB5, hA5, hF5⟩ hb5) | ((with_reducible refine arr_keep_k hB5 ?_); rintro ⟨hB5, hA5, hF5⟩ hb5) | intro hb5)) | (go_at_call 51; refine (dead_calls T S L G i _).mono ?_; rintro e w' ⟨rfl, hb5⟩; have hz5 := hb5.size; (try rw [World.size_drew] at hz5); (try rw [World.size_alloc] at hz5); revert hb5; (first | ((with_reducible refine arr_new_k ?_); rintro ⟨hB5, hA5, hF5⟩ hb5) | ((with_reducible refine arr_new_d ?_); rintro ⟨hB5, hA5, hF5⟩ hb5) | ((with_reducible refine arr_keep_k hB5 ?_); rintro ⟨hB5, hA5, hF5⟩ hb5) | intro hb5)) | (go_at_call 52; refine (seq_calls T S L G i _).mono ?_; rintro e w' ⟨rfl, hb5⟩; have hz5 := hb5.size; (try rw [World.size_drew] at hz5); (try rw [World.size_alloc] at hz5); revert hb5; (first | ((with_reducible refine arr_new_k ?_); rintro ⟨hB5, hA5, hF5⟩ hb5) | ((with_reducible refine arr_new_d ?_); rintro ⟨hB5, hA5, hF5⟩ hb5) | ((with_reducible refine arr_keep_k hB5 ?_); rintro ⟨hB5, hA5, hF5⟩ hb5) | intro hb5)) | (go_at_call 53; refine (tall_calls T S L G i _).mono ?_; rintro e w' ⟨rfl, hb5⟩; have hz5 := hb5.size; (try rw [World.size_drew] at hz5); (try rw [World.size_alloc] at hz5); revert hb5; (first | ((with_reducible refine arr_new_k ?_); rintro ⟨hB5, hA5, hF5⟩ hb5) | ((with_reducible refine arr_new_d ?_); rintro ⟨hB5, hA5, hF5⟩ hb5) | ((with_reducible refine arr_keep_k hB5 ?_); rintro ⟨hB5, hA5, hF5⟩ hb5) | intro hb5)) | (go_at_call 54; refine (hold_calls T S L G i _).mono ?_; rintro e w' ⟨rfl, hb5⟩; have hz5 := hb5.size; (try rw [World.size_drew] at hz5); (try rw [World.size_alloc] at hz5); revert hb5; (first | ((with_reducible refine arr_new_k ?_); rintro ⟨hB5, hA5, hF5⟩ hb5) | ((with_reducible refine arr_new_d ?_); rintro ⟨hB5, hA5, hF5⟩ hb5) | ((with_reducible refine arr_keep_k hB5 ?_); rintro ⟨hB5, hA5, hF5⟩ hb5) | intro hb5)) | (go_at_call 55; refine (succ_calls T S L G i _).mono ?_; rintro e w' ⟨rfl, hb5⟩; have hz5 := hb5.size; (try rw [World.size_drew] at hz5); (try rw [World.size_alloc] at hz5); revert hb5; (first | ((with_reducible refine arr_new_k ?_); rintro ⟨hB5, hA5, hF5⟩ hb5) | ((with_reducible refine arr_new_d ?_); rintro ⟨hB5, hA5, hF5⟩ hb5) | ((with_reducible refine arr_keep_k hB5 ?_); rintro ⟨hB5, hA5, hF5⟩ hb5) | intro hb5)))
      all_goals go_wp2_with fail
      all_goals go_meet
      all_goals first | ((with_reducible refine cut_set hB5 ?_ W2); assumption) | ((with_reducible refine cut_new ?_ W2); assumption)
    case rest =>
      obtain ⟨A, hv, hA, hP, hW⟩ := hcut
      subst hv
      clear P2 C2 W2
      go_wp2_with fail
      go_loopw [8] (fun n wr => ∃ (k : Nat), n = .int .i64 k ∧ k ≤ 6 ∧ Blk wr A (six T L i) 47 ∧ Blk wr w.heap.size [.int .i64 T, .int .i64 S, .int .i64 L, .int .u64 G] 24 ∧ Below w.heap.size w wr) (fun n _ => 6 - (intOf n).toNat)
      case atStart => exact ⟨0, rfl, by omega, hA, hP, hW⟩
      case round =>
        obtain ⟨n, rfl, hn, hB, hQ, hV⟩ := hrel
        clear hA hP hW
        by_cases hlt : n < 6
        · have c := (hB.cell n).trans (six_get T L i n hlt)
          have CQ := hQ.cell
          have rs : Gives 56 #[planV T S L G, .int .i64 i, .int .i64 n] (.int .i64 (slotP T L i n)) := rslot_calls T S L G i n
          have RS := Lib.hid rs
          clear rs
          go_wp2_with fail
          refine wp_region_reads (by kernel_rfl) (by kernel_rfl) ?_
          repeat (quiet_step ((go_at_call 56; exact calls_later (RS.out _))))
          refine wpQuiet_nil ?_
          intro w3 hb3
          go_wp2_with fail
          go_roundw
          case rel => exact ⟨n + 1, by go_num, by omega, hB.below' hb3, hQ.below' hb3, hV.trans (hb3.mono hV.size)⟩
          case measure => simp [intOf]; omega
        · have hge : n = 6 := by omega
          subst hge
          go_wp2_with fail
          refine (plan_awake _).mono ?_
          rintro e w3 ⟨rfl, hb3⟩
          go_wp2_with fail
          go_ret
          exact ⟨rfl, hV.trans (hb3.mono hV.size)⟩
theorem planTells_walk (T S L G i k : Int) (w : World) : Calls Try.prog 4 #[planV T S L G, .int .i64 i, .int .i64 k] w fun e w' => e = .returned (.bool true) ∧ Below w.heap.size w w' := by
  by_cases h : PRight T S L G
  · exact planTells_rest T S L G i k 0 true (right_yes T S L G h) (rright_yes T S L G h) (.inl ⟨rfl, rfl⟩) w
  · exact planTells_rest T S L G i k 1 false (right_no T S L G h) (rright_no T S L G h) (.inr ⟨rfl, rfl⟩) w
end Go.Proofs.Ytgkobmmannkegaa
