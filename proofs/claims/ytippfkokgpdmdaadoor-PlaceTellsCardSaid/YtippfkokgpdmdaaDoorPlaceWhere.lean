/-
  place.Where, walked.
-/
import Derived.Test.YtippfkokgpdmdaaDoorPlaceWalk
import Derived.Test.YtippfkokgpdmdaaDoorSpotEq
namespace Go.Proofs.YtippfkokgpdmdaaDoor
open Go Go.RowKit Go.Shelf
set_option linter.unusedVariables false

attribute [local go_sem] Oper.semAt_some
/-- What the loop of Where rests on. -/
structure WhereI (T L : Nat) (w0 : World) (rb ab : Nat) (x : Spot) (n : Nat) (s : Option (Nat × Nat × Nat)) (W : World) : Prop where
  no : ∀ m, m < n → spotAt T L m ≠ x
  res : Blk W rb [.int .i64 0] 3
  atb : Blk W ab [.int .i64 x.1, .int .i64 x.2.1, .int .i64 x.2.2] 36
  own : ∀ k, spotOwn s k → w0.heap.size ≤ k ∧ k ≠ rb ∧ k ≠ ab
  low : Below w0.heap.size w0 W
theorem WhereI.turn {T L : Nat} {w0 W W' : World} {rb ab : Nat} {x : Spot} {n : Nat} {s : Option (Nat × Nat × Nat)} {row : Option Nat} {B : Nat} (h : WhereI T L w0 rb ab x n s W) (hg : W.grownBy W' row) (hrow : ∀ q, row = some q → B ≤ q ∧ ∃ o : Obj, W.heap[q]? = some o ∧ o.isCells = false) (hB : w0.heap.size ≤ B) : WhereI T L w0 rb ab x n s W' :=
  have hr := fun q e => (hrow q e).2
  ⟨h.no, h.res.turn hg hr, h.atb.turn hg hr, h.own, h.low.grown hg h.low.size (fun q e => Nat.le_trans hB (hrow q e).1)⟩
theorem WhereI.step {T L : Nat} {w0 W W' : World} {rb ab : Nat} {x : Spot} {n : Nat} {s s' : Option (Nat × Nat × Nat)} (h : WhereI T L w0 rb ab x n s W) (hm : Mod (spotOwn s) W W') (hs : ∀ k, spotOwn s' k → spotOwn s k ∨ W.heap.size ≤ k) : WhereI T L w0 rb ab x n s' W' := by
  have l1 := h.res.lt
  have l2 := h.atb.lt
  have l3 := h.low.size
  refine ⟨h.no, hm.blk h.res (fun e => (h.own _ e).2.1 rfl), hm.blk h.atb (fun e => (h.own _ e).2.2 rfl), ?_, ?_⟩
  · intro k hk
    rcases hs k hk with e | e
    · exact h.own k e
    · omega
  · exact below_mod h.low hm l3 (fun k hk e => by have := (h.own k e).1; omega)
set_option maxHeartbeats 8000000 in
set_option maxRecDepth 100000 in
theorem where_yes (T S L : Nat) (G sk so sl : Int) (hp : PRight T S L G) (hT : 1 ≤ T ∧ T ≤ 8) (hS : 1 ≤ S ∧ S ≤ 64) (hL : 1 ≤ L ∧ L ≤ 8) (w : World) :
    Calls Tryd.prog 27 #[planV T S L G, .agg #[.int .i64 sk, .int .i64 so, .int .i64 sl]] w fun e w' => e = .returned (.int .i64 (findP T L (sk, so, sl) (List.range (lenP T S L)))) ∧ Below w.heap.size w w' := by
  have R := Lib.hid (right_yes _ _ _ _ hp)
  have SC := Lib.hid (spots_calls T S L G)
  have IT := Lib.hid (fun pb n => spots_iter T S L G pb hT hS hL n)
  obtain ⟨res, hres⟩ : ∃ res : Value, res = .int .i64 (findP T L (sk, so, sl) (List.range (lenP T S L))) := ⟨_, rfl⟩
  rw [← hres]
  have HRES := Lib.hid hres
  have HT1 : Hid (1 ≤ T) := hT.1
  clear hres hp hT hS hL
  refine (callsIn_wide (n := 3)).1 ?_
  refine callsIn_of_wp_marks Tryd.func27 rfl trivial ?_
  simp only [Tryd.ntmps27, List.size_toArray, List.length_cons, List.length_nil, Nat.reduceAdd, Nat.reduceSub, Array.replicate_succ, Array.replicate_zero, List.push_toArray, List.append_toArray, List.nil_append, List.cons_append]
  obtain ⟨W0, hW0⟩ : ∃ W, W = ((w.alloc (.cells #[.int .i64 T, .int .i64 S, .int .i64 L, .int .u64 G] 34)).alloc (.cells #[.int .i64 sk, .int .i64 so, .int .i64 sl] 36)).alloc (.cells #[.int .i64 0] 3) := ⟨_, rfl⟩
  have b0 : Below w.heap.size w W0 := by rw [hW0]; exact (((Below.refl _ _).alloc (Nat.le_refl _) _).alloc (by simp) _).alloc (by simp; omega) _
  have P0 : Blk W0 w.heap.size [.int .i64 T, .int .i64 S, .int .i64 L, .int .u64 G] 34 := by rw [hW0]; exact ((Blk.new w [.int .i64 T, .int .i64 S, .int .i64 L, .int .u64 G] 34).alloc _).alloc _
  have A0 : Blk W0 (w.heap.size + 1) [.int .i64 sk, .int .i64 so, .int .i64 sl] 36 := by
    rw [hW0]
    exact (Blk.new2 w (.cells #[.int .i64 T, .int .i64 S, .int .i64 L, .int .u64 G] 34) [.int .i64 sk, .int .i64 so, .int .i64 sl] 36).alloc _
  have Z0 : Blk W0 (w.heap.size + 1 + 1) [.int .i64 0] 3 := by
    rw [hW0]
    have := Blk.new2 (w.alloc (.cells #[.int .i64 T, .int .i64 S, .int .i64 L, .int .u64 G] 34)) (.cells #[.int .i64 sk, .int .i64 so, .int .i64 sl] 36) [.int .i64 0] 3
    rwa [World.size_alloc] at this
  gi_wp2
  rw [← hW0]
  clear hW0
  refine ⟨trivial, (callsIn_wide.2 (R.out _)).mono ?_⟩
  rintro e w1 ⟨rfl, hb1⟩
  have P1 := P0.below' hb1
  have A1 := A0.below' hb1
  have Z1 := Z0.below' hb1
  have W1 := b0.trans (hb1.mono b0.size)
  have C1 := P1.cell
  clear P0 A0 Z0 b0 hb1
  gi_wp2
  refine ⟨trivial, (callsIn_wide.2 (SC.out _)).mono ?_⟩
  rintro e w2 ⟨rfl, hw2⟩
  have hb2 : Below w1.heap.size w1 w2 := by rw [hw2]; exact (Below.refl _ _).alloc (Nat.le_refl _) _
  have PB : Blk w2 w1.heap.size [.int .i64 T, .int .i64 S, .int .i64 L, .int .u64 G] 34 := by rw [hw2]; exact Blk.new w1 [.int .i64 T, .int .i64 S, .int .i64 L, .int .u64 G] 34
  have A2 := A1.below' hb2
  have Z2 := Z1.below' hb2
  have W2 := W1.trans (hb2.mono W1.size)
  have lz := Z2.lt
  have hlo := W2.size
  clear P1 A1 Z1 W1 C1 hw2 hb2
  gi_wp2
  refine wpIn_rangeFunc_task rfl (by omega) (gf := 72) (lb := #[.pointer (some ⟨w1.heap.size, 0, none⟩)]) rfl trivial (enters_of Tryd.func72 (by kernel_rfl) rfl) (IT.out _ _) (SpotSt.keeps T S L G w1.heap.size _) (fun _ => rfl) none (fun k h => h.elim)
    (fun pre s W => WhereI T L w (w.heap.size + 1 + 1) (w.heap.size + 1) (sk, so, sl) pre.length s W)
    (fun c pre s W => c = .ret ∧ ∃ m, m < lenP T S L ∧ spotAt T L m = (sk, so, sl) ∧ Blk W (w.heap.size + 1 + 1) [.int .i64 (m : Int)] 3 ∧ Below w.heap.size w W)
    ?hI ?hIx ?hIm ⟨fun m hm => by simp at hm, Z2, A2, fun k h => h.elim, W2⟩ ⟨PB, trivial⟩
    (fun n a' W => ∃ db, db ≠ w.heap.size + 1 + 1 ∧ Blk W db [.int .i64 (spotAt T L n).1, .int .i64 (spotAt T L n).2.1, .int .i64 (spotAt T L n).2.2] 36 ∧
      a' = { tmps := #[planV T S L G, .agg #[.int .i64 sk, .int .i64 so, .int .i64 sl], .pointer (some ⟨w.heap.size, 0, none⟩), .pointer (some ⟨w.heap.size + 1, 0, none⟩), .pointer (some ⟨w.heap.size + 1 + 1, 0, none⟩), .int .i64 (n : Int), .pointer (some ⟨db, 0, none⟩),
        .agg #[.int .i64 T, .int .i64 S, .int .i64 L, .int .u64 G], .int .i64 0, .bool true, .agg #[.int .i64 T, .int .i64 S, .int .i64 L, .int .u64 G], .func (.func 72) #[] #[.pointer (some ⟨w1.heap.size, 0, none⟩)], .int .i64 (n : Int), spotV (spotAt T L n), undef, undef, undef, undef], defers := [] }) ?hAx ?assign ?body ?done ?stop
  case hI =>
    rintro pre s W W' row h hg hrow
    exact h.turn hg hrow hlo
  case hIx =>
    rintro c pre s W W' row ⟨h0, m, h1, h2, h3, h4⟩ hg hrow
    exact ⟨h0, m, h1, h2, h3.turn hg (fun q e => (hrow q e).2), h4.grown hg h4.size (fun q e => Nat.le_trans hlo (hrow q e).1)⟩
  case hIm =>
    rintro pre s s' W W' h hm hs
    exact h.step hm hs
  case hAx =>
    rintro n a' W l o o' ⟨db, h1, h2, h3⟩ hl ho
    exact ⟨db, h1, h2.turn (grownBy_putObj' W l o') (fun q e => by cases e; exact ⟨_, hl, ho⟩), h3⟩
  case assign =>
    intro l pre n rest s W K hall hi hk hK
    have hb : Below W.heap.size W (W.alloc (.cells #[.int .i64 (spotAt T L n).1, .int .i64 (spotAt T L n).2.1, .int .i64 (spotAt T L n).2.2] 36)) := (Below.refl _ _).alloc (Nat.le_refl _) _
    have HH := Lib.hid (hK _ _ (KeepsOthers.alloc W _) (hi.step (s := s) (s' := s) (Mod.of_below hb) (fun k h => .inl h)) (hk.below hb) ⟨W.heap.size, by have := hi.res.lt; omega, Blk.new W [.int .i64 (spotAt T L n).1, .int .i64 (spotAt T L n).2.1, .int .i64 (spotAt T L n).2.2] 36, rfl⟩)
    clear hK hi hk
    dsimp only [spotEnc, spotV]
    gi_wp2
    exact HH.out
  case body =>
    rintro l pre n rest s a' W hall hI hK ⟨db, hdb, hB, rfl⟩
    obtain ⟨_, hn, hlt⟩ := range_cut (i := 0) hall
    have no := hI.no
    have CA : ∀ i : Nat, W.cell? ⟨w.heap.size + 1, i, none⟩ = ([.int .i64 sk, .int .i64 so, .int .i64 sl] : List Value)[i]? := hI.atb.cell
    have CZ := hI.res.cell
    have FZ := hI.res.frozen
    have CB := hB.cell
    have HI := Lib.hid hI
    have HK := Lib.hid hK
    obtain ⟨x0, hx0⟩ : ∃ x0, (spotAt T L n).1 = x0 := ⟨_, rfl⟩
    obtain ⟨x1, hx1⟩ : ∃ x1, (spotAt T L n).2.1 = x1 := ⟨_, rfl⟩
    obtain ⟨x2, hx2⟩ : ∃ x2, (spotAt T L n).2.2 = x2 := ⟨_, rfl⟩
    rw [hx0, hx1, hx2] at CB hB
    have hspot : spotAt T L n = (x0, x1, x2) := by rw [← hx0, ← hx1, ← hx2]
    have hqe := spotEq_iff x0 x1 x2 sk so sl
    by_cases heq : spotAt T L n = (sk, so, sl)
    · have q1 : spotEq x0 x1 x2 sk so sl = true := by rw [hqe, ← hspot]; simpa using heq
      have HSP := Lib.hid heq
      have HFIN := Lib.hid (hI.res.set 0 (.int .i64 (n : Int)))
      have HLOW := Lib.hid (hI.low.setCell (p := ⟨w.heap.size + 1 + 1, 0, none⟩) (by show w.heap.size ≤ w.heap.size + 1 + 1; omega) (.int .i64 (n : Int)))
      have HKO := Lib.hid (KeepsOthers.setCell W ⟨w.heap.size + 1 + 1, 0, none⟩ (.int .i64 (n : Int)))
      have HL := Lib.hid (show n < lenP T S L by omega)
      clear hI hK no heq hn hlt hall hspot hx0 hx1 hx2 hqe
      gi_wp2
      exact ⟨HKO.out, rfl, n, HL.out, HSP.out, HFIN.out, HLOW.out⟩
    · have q1 : spotEq x0 x1 x2 sk so sl = false := by rw [hqe, ← hspot]; simpa using heq
      have HI2 : Hid (WhereI T L w (w.heap.size + 1 + 1) (w.heap.size + 1) (sk, so, sl) (pre ++ [n]).length s W) := ⟨by
        intro m hm
        rw [List.length_append, List.length_singleton] at hm
        by_cases e : m = n
        · rw [e]; exact heq
        · exact hI.no m (by omega), hI.res, hI.atb, hI.own, hI.low⟩
      clear hI no heq hn hlt hall hspot hx0 hx1 hx2 hqe
      gi_wp2
      exact ⟨KeepsOthers.refl _, HI2.out, HK.out⟩
  case done =>
    rintro D s W hD hI hK hDD
    have CZ := hI.res.cell
    have FZ := hI.res.frozen
    have hno := hI.no
    rw [List.length_range] at hno
    have HR2 : Hid (res = .int .i64 (-1)) := by
      show _ = _
      rw [HRES.out, find_none _ hno]
    have HZ := Lib.hid (hI.res.set 0 (.int .i64 (-1)))
    have hDD3 : (W.setCell ⟨w.heap.size + 1 + 1, 0, none⟩ (.int .i64 (-1))).heap[D]? = some (.deferred (some [])) := by
      rw [Below.heap_setCell _ _ _ _ (by show D ≠ w.heap.size + 1 + 1; omega)]
      exact hDD
    have HD3 := Lib.hid hDD3
    have HLOW := Lib.hid (hI.low.setCell (p := ⟨w.heap.size + 1 + 1, 0, none⟩) (by show w.heap.size ≤ w.heap.size + 1 + 1; omega) (.int .i64 (-1)))
    have hlow2 : w.heap.size ≤ W.heap.size := hI.low.size
    clear hno hDD hDD3 hI
    gi_wp2
    generalize W.setCell ⟨w.heap.size + 1 + 1, 0, none⟩ (.int .i64 (-1)) = W3 at *
    refine ⟨by simp, .inl ⟨_, _, rfl, run_takeDeferred HD3.out, ?_⟩⟩
    have hg := grownBy_putObj' W3 D (.deferred none)
    have hB4 := HZ.out.turn hg (fun q e => by cases e; exact ⟨_, HD3.out, rfl⟩)
    have C4 := hB4.cell 0
    refine ⟨res, ?_, rfl, HLOW.out.grown hg HLOW.out.size (fun q e => by cases e; omega)⟩
    have hr : Tryd.f27.results = #[.cell 4 3] := rfl
    rw [HR2.out]
    simp only [results, hr]
    go_simp
  case stop =>
    rintro D c pre s W hD hpre ⟨rfl, m, h0, h1, hB, hW⟩ hDD
    have HR2 : Hid (res = .int .i64 (m : Int)) := by
      show _ = _
      rw [HRES.out, find_at HT1.out h0 _ h1]
    clear h0 h1
    gi_wp2
    refine ⟨by simp, .inl ⟨_, _, rfl, run_takeDeferred hDD, ?_⟩⟩
    have hg := grownBy_putObj' W D (.deferred none)
    have hB4 := hB.turn hg (fun q e => by cases e; exact ⟨_, hDD, rfl⟩)
    have C4 := hB4.cell 0
    refine ⟨res, ?_, rfl, hW.grown hg hW.size (fun q e => by cases e; omega)⟩
    have hr : Tryd.f27.results = #[.cell 4 3] := rfl
    rw [HR2.out]
    simp only [results, hr]
    go_simp
set_option maxHeartbeats 2000000 in
theorem where_no (T S L G sk so sl : Int) (hp : ¬ PRight T S L G) (w : World) : Calls Tryd.prog 27 #[planV T S L G, .agg #[.int .i64 sk, .int .i64 so, .int .i64 sl]] w fun e w' => e = .returned (.int .i64 (-1)) ∧ Below w.heap.size w w' := by
  have R := Lib.hid (right_no _ _ _ _ hp)
  clear hp
  have Z0 := Blk.new2 (w.alloc (.cells #[.int .i64 T, .int .i64 S, .int .i64 L, .int .u64 G] 34)) (.cells #[.int .i64 sk, .int .i64 so, .int .i64 sl] 36) [.int .i64 0] 3
  rw [World.size_alloc] at Z0
  have b0 : Below w.heap.size w (((w.alloc (.cells #[.int .i64 T, .int .i64 S, .int .i64 L, .int .u64 G] 34)).alloc (.cells #[.int .i64 sk, .int .i64 so, .int .i64 sl] 36)).alloc (.cells #[.int .i64 0] 3)) := (((Below.refl _ _).alloc (Nat.le_refl _) _).alloc (by simp) _).alloc (by simp; omega) _
  go_enter Tryd.func27, Tryd.ntmps27
  go_wp2_with fail
  refine (R.out _).mono ?_
  rintro e w1 ⟨rfl, hb1⟩
  have Z1 := Z0.below' hb1
  have W1 := b0.trans (hb1.mono b0.size)
  have C1 := Z1.cell
  have F1 := Z1.frozen
  have Z2 := Z1.set 0 (.int .i64 (-1))
  have C2 := Z2.cell 0
  have W2 := W1.setCell (p := ⟨w.heap.size + 1 + 1, 0, none⟩) (by show w.heap.size ≤ w.heap.size + 1 + 1; omega) (.int .i64 (-1))
  clear Z0 b0 hb1
  go_wp2_with fail
  refine bodyPost_ret (v := .int .i64 (-1)) ?_ rfl ?_
  · have hr : Tryd.f27.results = #[.cell 4 3] := rfl
    simp only [results, hr]
    go_simp
  · exact ⟨rfl, W2⟩
/-- What a right plan is. -/
theorem right_nat {T S L G : Int} (h : PRight T S L G) : ∃ t s l : Nat, T = t ∧ S = s ∧ L = l ∧ (1 ≤ t ∧ t ≤ 8) ∧ (1 ≤ s ∧ s ≤ 64) ∧ (1 ≤ l ∧ l ≤ 8) := by
  obtain ⟨h1, h2, h3, _⟩ := h
  exact ⟨T.toNat, S.toNat, L.toNat, by omega, by omega, by omega, by omega, by omega, by omega⟩
theorem what_calls (T S L G at_ : Int) (w : World) : Calls Tryd.prog 25 #[planV T S L G, .int .i64 at_] w fun e w' => e = .returned (spotV (whatP T S L G at_)) ∧ Below w.heap.size w w' := by
  by_cases hp : PRight T S L G
  · obtain ⟨t, s, l, rfl, rfl, rfl, h1, h2, h3⟩ := right_nat hp
    have e : whatP t s l G at_ = if 0 ≤ at_ ∧ at_ < lenP t s l then spotAt t l at_.toNat else (0, 0, 0) := by
      unfold whatP
      simp [hp]
    rw [e]
    exact what_yes t s l G at_ hp h1 h2 h3 w
  · have e : whatP T S L G at_ = (0, 0, 0) := by
      unfold whatP
      rw [if_neg (fun h => hp h.1)]
    rw [e]
    exact what_no T S L G at_ hp w
theorem where_calls (T S L G sk so sl : Int) (w : World) : Calls Tryd.prog 27 #[planV T S L G, .agg #[.int .i64 sk, .int .i64 so, .int .i64 sl]] w fun e w' => e = .returned (.int .i64 (whereP T S L G (sk, so, sl))) ∧ Below w.heap.size w w' := by
  by_cases hp : PRight T S L G
  · obtain ⟨t, s, l, rfl, rfl, rfl, h1, h2, h3⟩ := right_nat hp
    have e : whereP t s l G (sk, so, sl) = findP t l (sk, so, sl) (List.range (lenP t s l)) := by
      unfold whereP
      simp [hp]
    rw [e]
    exact where_yes t s l G sk so sl hp h1 h2 h3 w
  · have e : whereP T S L G (sk, so, sl) = -1 := by
      unfold whereP
      rw [if_neg hp]
    rw [e]
    exact where_no T S L G sk so sl hp w
end Go.Proofs.YtippfkokgpdmdaaDoor
