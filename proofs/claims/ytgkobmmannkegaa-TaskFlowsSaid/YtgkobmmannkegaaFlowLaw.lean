/-
  The law TaskFlows, walked.
-/
import Derived.Test.YtgkobmmannkegaaFlowLeft
import Derived.Test.YtgkobmmannkegaaScriptLaw
import Derived.Test.YtgkobmmannkegaaRecs
import Derived.Laws.AppendOwnNone
namespace Go.Proofs.Ytgkobmmannkegaa
open Go Go.RowKit
set_option linter.unusedVariables false

def deedR : Rec D where
  cells := D.cells
  size := 5
  len := fun _ => rfl
  one := fun d u hu => oneCell_dcells [d] u (by rw [dcells_one]; exact hu)
  pos := by omega
theorem deedR_cells : ∀ l : List D, rcells deedR l = dcells l
  | [] => rfl
  | d :: l => by
    rw [show rcells deedR (d :: l) = d.cells ++ rcells deedR l by simp [rcells, deedR], deedR_cells l]
    have := dcells_append [d] l
    rw [dcells_one] at this
    exact this.symm
theorem Deeds.rowOf {w : World} {lo : Nat} {v : Value} {l : List D} {n : Nat} (h : RowOf deedR 31 w lo n v l) : Deeds w lo v l := by
  have := h.1
  rw [deedR_cells] at this
  exact this
theorem run_append_no {P : Program} {w : World} (base : Nat) (t ty e : TypeId) (i : TypeInfo) (size : Nat) (ht : P.underlying t = some (.slice e)) (hi : P.info? e = some i)
    (v : Value) (n c : Nat) (xs : List Value) (hown : w.ownsRow base e size v n xs) : (Builtin.append_ #[t, t] ty #[v, .slice none 0 c]).run P w = .ok v w := by
  rcases hown.2 with ⟨rfl, rfl⟩ | ⟨g, cap, cur, rfl, _, _, hnc, _⟩
  · simp [Builtin.append_, run_underlying ht, sizeOf, typeInfo, hi, Builtin.lenOf, Builtin.firstCells]
  · simp [Builtin.append_, run_underlying ht, sizeOf, typeInfo, hi, Builtin.lenOf, Builtin.firstCells, hnc, storeCells]
/-- A list of deeds is appended to one of the call's own. -/
theorem wpList_append_deeds {w : World} {ops : Array Oper} {rest : List Oper} {o : Oper} {a : Act} {Q : Exit → Act → World → Prop} (hgd : o.guard = none) (s x : Operand)
    (ho : o.op = .call { callee := .builtin .append, args := #[s, x], argTypes := #[29, 29] }) (lo : Nat) (va0 : Option Addr) (n0 c0 : Nat) (l : List D) (hs : a.eval s = .slice va0 n0 c0) (hl : n0 = l.length) (hD : Deeds w lo (.slice va0 n0 c0) l)
    (g : Nat) (xa : Option Addr) (n xc : Nat) (ds : List D) (hx : a.eval x = .slice xa n xc) (hnl : n = ds.length) (hB : DeedsB w g (.slice xa n xc) ds) (hn : l.length + ds.length ≤ 60000) (hlo : lo ≤ w.heap.size)
    (n1 : Nat) (hn1 : n1 = n0 + n) (h : ∀ va vc w', Deeds w' lo (.slice va n1 vc) (l ++ ds) → w.grownBy w' (Value.ownBlock (.slice va0 n0 c0)) → wpList Try.prog ops Q rest (a.put o.dst (.slice va n1 vc)) w') : wpList Try.prog ops Q (o :: rest) a w := by
  subst hn1 hl hnl
  obtain ⟨i0, hi, hz0, hz1, hz2⟩ := info_parts info31
  obtain ⟨xa', xc', hv, hc, hcs⟩ := hB.ex
  cases hv
  cases xa with
  | none =>
    have h0 : ds = [] := by
      rcases Nat.eq_zero_or_pos ds.length with h0 | h0
      · exact List.eq_nil_of_length_eq_zero h0
      · obtain ⟨_, h1, _⟩ := hcs h0; cases h1
    subst h0
    refine wpList_plain hgd fun K hK => ?_
    have hrun := run_append_no (P := Try.prog) (w := w) lo 29 o.type 31 i0 5 Try.underlying29 hi _ _ xc _ hD
    unfold Oper.wp
    simp [execOp, ho, resolve, invoke, builtin, hs, hx, hrun, Result.andThen]
    exact hK _ _ (h va0 c0 w (by simpa using hD) ⟨rfl, rfl, rfl, Nat.le_refl _, fun _ _ _ => rfl⟩)
  | some ad =>
    refine wpList_append_own _ hgd s x 29 ho lo 31 i0 (.agg #[.int .i64 0, .int .i64 0, .int .u64 0, .int .u64 0, .int .u64 0]) 5 40 Try.underlying29 hi hz0 hz1 hz2 rfl (by decide) (.slice va0 l.length c0) l.length (dcells l) hs hD ad ds.length xc (dcells ds) hx (dcells_length _) ?_ (oneCell_dcells _) (by unfold maxLen; omega) (by omega) hlo ?_
    · intro q u hu
      have hq := (List.getElem?_eq_some_iff.1 hu).1
      obtain ⟨j, i, hj, hi, rfl, e⟩ := dcells_split ds q hq
      obtain ⟨off, h1, hcs2⟩ := hcs (by omega)
      cases h1
      rw [Addr.add_lit, ← Nat.add_assoc, hcs2 j hj i hi, ← e, hu]
    · intro v' w' hown hg _
      obtain ⟨va, vc, rfl⟩ := owns_shape hown
      refine h va vc w' ?_ hg
      unfold Deeds
      rw [dcells_append, List.length_append]
      exact hown
theorem Deeds.take {w : World} {lo : Nat} {va : Option Addr} {n c : Nat} {l : List D} (h : Deeds w lo (.slice va n c) l) (hn : n = l.length) (m : Nat) (hm : m ≤ l.length) : Deeds w lo (.slice va m c) (l.take m) := by
  subst hn
  have hl : (l.take m).length = m := by simp; omega
  have h2 : dcells l = dcells (l.take m) ++ dcells (l.drop m) := by rw [← dcells_append, List.take_append_drop]
  have hd : (dcells l).take (m * 5) = dcells (l.take m) := by
    rw [h2]
    exact List.take_left' (by rw [dcells_length, hl])
  unfold Deeds at h ⊢
  rw [hl]
  refine ⟨by rw [dcells_length, hl], ?_⟩
  rcases h.2 with ⟨h1, h2⟩ | ⟨g, cap, cur, h1, h2, h3, h4, h5, h6, h7⟩
  · simp only [Value.slice.injEq] at h1
    obtain ⟨rfl, h0, rfl⟩ := h1
    have : m = 0 := by omega
    subst this
    exact .inl ⟨rfl, rfl⟩
  · simp only [Value.slice.injEq, true_and] at h1
    obtain ⟨rfl, rfl⟩ := h1
    refine .inr ⟨g, c, cur, rfl, h2, h3, by omega, h5, h6, ?_⟩
    rw [← hd, ← h7, List.take_take]
    congr 1
    omega
theorem taskFlows_skip (sa : Option Addr) (sn sc : Nat) (ta : Option Addr) (tn tc : Nat) (a : Option Addr) (n c : Nat) (h : 200 < sn ∨ 200 < tn ∨ 500 < n) (w : World) : Calls Try.prog 19 #[.slice sa sn sc, .slice ta tn tc, .slice a n c] w fun e w' => e = .returned (.bool true) ∧ Below w.heap.size w w' := by
  have HA := Lib.hid script_awake
  by_cases h0 : 200 < sn
  · clear h
    go_enter Try.func19, Try.ntmps19
    go_wp2_with fail
    refine (HA.out _).mono ?_
    rintro e w1 ⟨rfl, hb⟩
    go_wp2_with fail
    go_ret
    exact ⟨rfl, hb⟩
  · by_cases h1 : 200 < tn
    · clear h
      go_enter Try.func19, Try.ntmps19
      go_wp2_with fail
      refine (HA.out _).mono ?_
      rintro e w1 ⟨rfl, hb⟩
      go_wp2_with fail
      go_ret
      exact ⟨rfl, hb⟩
    · have h2 : decide ((500 : Int) < (n : Int)) = true := by simp; omega
      clear h
      go_enter Try.func19, Try.ntmps19
      go_wp2_with fail
      refine (HA.out _).mono ?_
      rintro e w1 ⟨rfl, hb⟩
      go_wp2_with fail
      go_ret
      exact ⟨rfl, hb⟩
theorem own_fresh {w : World} {f b r N : Nat} {O : Nat → Prop} {v : Value} {m : Nat} {all : List D} (hF : FL w f b r O m all) (hN : (∀ q, v.ownBlock = some q → ¬ O q)) (hr : v.ownBlock = some N ∨ N = w.heap.size) : ¬ O N := by
  rcases hr with h | rfl
  · exact hN _ h
  · intro h
    have := hF.1.2.2.2 _ h
    omega
theorem Deeds.cap {w : World} {lo : Nat} {va : Option Addr} {n c : Nat} {l : List D} (h : Deeds w lo (.slice va n c) l) : n ≤ c := by
  rcases h.2 with ⟨h1, h2⟩ | ⟨g, cap, cur, h1, h2, h3, h4, _⟩
  · simp only [Value.slice.injEq] at h1
    omega
  · simp only [Value.slice.injEq] at h1
    omega
set_option maxHeartbeats 4000000 in
set_option maxRecDepth 100000 in
theorem taskFlows_walk (sa : Option Addr) (sc X : Nat) (xs : List D) (g1 : Nat) (ta : Option Addr) (tc Y : Nat) (bs : List D) (g2 : Nat) (a : Option Addr) (c Z : Nat) (ins : List Int) (w : World) (hX : xs.length = X) (hY : bs.length = Y) (hZ : ins.length = Z)
    (hD1 : DeedsB w g1 (.slice sa X sc) xs) (hD2 : DeedsB w g2 (.slice ta Y tc) bs) (hI : U64s w w.heap.size (.slice a Z c) ins) (n1 : X ≤ 200) (n2 : Y ≤ 200) (n3 : Z ≤ 500) :
    Calls Try.prog 19 #[.slice sa X sc, .slice ta Y tc, .slice a Z c] w fun e w' => e = .returned (.bool true) ∧ Below w.heap.size w w' := by
  have HD1 := Lib.hid hD1
  have HD2 := Lib.hid hD2
  have HI := Lib.hid hI
  have HA := Lib.hid script_awake
  have HX := Lib.hid hX
  have HY := Lib.hid hY
  have HZ := Lib.hid hZ
  have m1 : (X : Int) ≤ 200 := by omega
  have m2 : (Y : Int) ≤ 200 := by omega
  have m3 : (Z : Int) ≤ 500 := by omega
  have m4 : decide ((200 : Int) < (X : Int)) = false := by simp; omega
  have m5 : decide ((200 : Int) < (Y : Int)) = false := by simp; omega
  have m6 : decide ((500 : Int) < (Z : Int)) = false := by simp; omega
  clear hD1 hD2 hI hX hY hZ
  go_enter Try.func19, Try.ntmps19
  go_wp2_with fail
  refine (behind_calls _ g1 g2 _ _ xs bs HD1.out HD2.out (by rw [HX.out]; omega) (by rw [HY.out]; omega)).mono ?_
  rintro e w1 ⟨f, rfl, hf, hF, hb1⟩
  obtain ⟨b, r, hF, hb, hr⟩ := FL.of_two hF (by rw [HY.out]; omega)
  obtain ⟨all, hall⟩ : ∃ all, all = xs ++ bs := ⟨_, rfl⟩
  rw [← hall] at hF
  have HALL := Lib.hid hall
  obtain ⟨A, hA⟩ : ∃ A, A = X + Y := ⟨_, rfl⟩
  have HL : Hid (all.length = A) := by show _ = _; rw [hall, List.length_append, HX.out, HY.out, hA]
  have HAX := Lib.hid hA
  have hA4 : A ≤ 400 := by omega
  have F1 := Lib.hid hF
  have W1 := hb1
  have hb' : w.heap.size ≤ b := by omega
  have hr' : w.heap.size ≤ r := by omega
  clear hF hall hb hr hb1 m4 m5 m6 hA
  go_wp2_with fail
  go_loopw [8, 9] (fun v i wr => ∃ (k b r : Nat) (O : Nat → Prop) (va : Option Addr) (vc N : Nat), i = .int .i64 k ∧ k ≤ Z ∧ k ≤ A ∧ v = .slice va k vc ∧ Hid (FL wr f b r O k (all.drop k)) ∧ Hid (RowOf deedR 31 wr w.heap.size N (.slice va k vc) (all.take k)) ∧ Hid (∀ q, Value.ownBlock (.slice va k vc) = some q → ¬ O q) ∧ w.heap.size ≤ b ∧ w.heap.size ≤ r ∧ Below w.heap.size w wr) (fun _ i _ => Z - (intOf i).toNat)
  case atStart => exact ⟨0, b, r, _, none, 0, 0, rfl, by omega, by omega, rfl, F1, RowOf.nil _ _ _ _, fun q hq => by simp [Value.ownBlock] at hq, hb', hr', W1⟩
  case round =>
    clear F1 W1 hb' hr'
    obtain ⟨k, b, r, O, va, vc, N, rfl, hk1, hk2, rfl, hF, hR, hN, hb, hr, hW⟩ := hrel
    by_cases hlt : k < Z
    · by_cases hkA : k < A
      · have hka : k < all.length := by rw [HL.out]; exact hkA
        have e1 : all.drop k = all[k] :: all.drop (k + 1) := List.drop_eq_getElem_cons hka
        have e2 : all.take (k + 1) = all.take k ++ [all[k]] := List.take_succ_eq_append_getElem hka
        have hF1 := hF.out
        rw [e1] at hF1
        have hk3 : (all.take k).length = k := by simp; omega
        generalize all.take k = L at *
        generalize all[k] = d at *
        have F1 := Lib.hid hF1
        have E2 := Lib.hid e2
        have HK := Lib.hid hk3
        clear hk3
        have hI2 := HI.out
        rw [← HZ.out] at hI2
        obtain ⟨bi, oi, rfl, hbi, hic⟩ := u64s_cells hI2 (by rw [HZ.out]; omega)
        have ci := hic k (by rw [HZ.out]; exact hlt)
        generalize ins[k]'(by rw [HZ.out]; exact hlt) = x at *
        have CI := Lib.hid ci
        have zW := hW.size
        clear hic hF hF1 e1 e2 hI2 ci
        go_wp2_with fail
        refine (fl_nextY _ _ _ _ _ _ _ _ F1.out).mono ?_
        rintro e w2 ⟨rfl, hb2⟩
        have hb3 := hb2.alloc hb2.size (.cells #[.int .i64 d.k, .int .i64 d.at_, .int .u64 d.a, .int .u64 d.b, .int .u64 d.by_] 31)
        have C3 := (Blk.new w2 [.int .i64 d.k, .int .i64 d.at_, .int .u64 d.a, .int .u64 d.b, .int .u64 d.by_] 31).cell
        have hb4 := hb3.alloc hb3.size (.cells #[.int .i64 d.k, .int .i64 d.at_, .int .u64 d.a, .int .u64 d.b, .int .u64 d.by_] 31)
        have B4 := Lib.hid (Blk.new2 w2 (.cells #[.int .i64 d.k, .int .i64 d.at_, .int .u64 d.a, .int .u64 d.b, .int .u64 d.by_] 31) (deedR.cells d) 31)
        have F4 := Lib.hid (F1.out.below hb4)
        have R4 := Lib.hid (hR.out.below hb4)
        have W4 := Lib.hid (hW.trans (hb4.mono zW))
        have hk6 : k ≤ 500 := by omega
        clear F1 hR hW hb2 hb3 hb4 zW
        go_wp2_with (at_builtin; refine wpList_append_rec (R := deedR) rfl (.tmp 46) (.tmp 48) 29 31 _ 40 rfl Try.underlying29 info31 rfl (by omega) w.heap.size N _ L rfl R4.out d _ rfl B4.out (by rw [HK.out]; omega) W4.out.size ?_)
        intro va5 vc5 w5 r5 hR5 hg5 hv5 hr5
        rw [HK.out]
        rw [HK.out, ← E2.out] at hR5
        have hn5 := own_fresh (N := r5) F4.out hN.out (by simpa using hv5)
        have F5 := Lib.hid (F4.out.mod (S := fun q => Value.ownBlock (.slice va k vc) = some q) ((Mod.refl _ _).grown hg5 (fun q hq _ => hq)) (fun q ho hs => hN.out q hs ho))
        have W5 := W4.out.grown hg5 W4.out.size (fun q hq => own_ge R4.out.1 q hq)
        have R5 := Lib.hid hR5
        have c5 := (W5.cell (p := ⟨bi, oi + k, none⟩) hbi).trans CI.out
        clear F4 R4 W4 hg5 hR5 hv5 B4 C3
        go_wp2_with fail
        refine (fl_tell _ _ _ _ _ _ _ _ x F5.out (by omega)).mono ?_
        rintro e w6 ⟨rfl, b', r', hF6, hb6, hr6, hM6⟩
        obtain ⟨⟨o1, o2, o3, _⟩, _⟩ := F5.out
        have z5 := W5.size
        have z6 := hM6.size
        have W6 := below_mod W5 hM6 W5.size (fun q hq e => by omega)
        have R6 := Lib.hid (R5.out.mod' hM6 (fun q hq e => by
          have := R5.out.2 q hq
          subst this
          rcases e with rfl | rfl | rfl
          · exact hn5 o1
          · exact hn5 o2
          · exact hn5 o3))
        have N6 : Hid (∀ q, Value.ownBlock (.slice va5 (k + 1) vc5) = some q → ¬ (O q ∨ w5.heap.size ≤ q ∧ q < w6.heap.size)) := by
          rintro q hq (h | h)
          · have := R5.out.2 q hq
            subst this
            exact hn5 h
          · have := R5.out.2 q hq
            omega
        have F6 := Lib.hid hF6
        clear hF6 hM6 F5 R5 W5 c5 CI
        go_wp2_with fail
        go_roundw
        case rel => exact ⟨k + 1, b', r', _, va5, vc5, r5, by go_num, by omega, by omega, rfl, F6, R6, N6, by omega, by omega, W6⟩
        case measure => simp [intOf]; omega
      · obtain rfl : A = k := by omega
        have e1 : all.drop A = [] := List.drop_eq_nil_of_le (by rw [HL.out]; exact Nat.le_refl _)
        have hF1 := hF.out
        rw [e1] at hF1
        have F1 := Lib.hid hF1
        clear hF hF1 e1
        go_wp2_with fail
        refine (fl_nextN _ _ _ _ _ _ F1.out).mono ?_
        rintro e w2 ⟨rfl, hb2⟩
        have hb3 := hb2.alloc hb2.size (.cells #[.int .i64 0, .int .i64 0, .int .u64 0, .int .u64 0, .int .u64 0] 31)
        have F := Lib.hid (F1.out.below hb3)
        have R := Lib.hid (hR.out.below hb3)
        have W3 := Lib.hid (hW.trans (hb3.mono hW.size))
        clear F1 hR hW hb2 hb3
        go_upto_region 12 with fail
        generalize hWq : w2.alloc (.cells #[.int .i64 0, .int .i64 0, .int .u64 0, .int .u64 0, .int .u64 0] 31) = wq at *
        have B0 : Below wq.heap.size wq (wq.alloc (.cells #[] 31)) := (Below.refl _ _).alloc (Nat.le_refl _) _
        have D1 := Lib.hid ((HD1.out.below W3.out).below B0)
        have O1 : Hid (Deeds (wq.alloc (.cells #[] 31)) wq.heap.size (.slice (some ⟨wq.heap.size, 0, none⟩) 0 0) []) := World.ownsRow_made wq #[] 0 (Nat.le_refl _) (by unfold maxLen; omega) rfl
        go_wp2_with (at_builtin; refine wpList_append_deeds rfl (.tmp 56) (.tmp 57) rfl wq.heap.size _ 0 0 [] rfl rfl O1.out g1 sa X sc xs rfl HX.out.symm D1.out (by rw [HX.out]; simp; omega) B0.size X (by omega) ?_)
        intro va1 vc1 w4 hO4 hg4
        have B4 : Below wq.heap.size wq w4 := B0.grown hg4 B0.size (fun q hq => by simp [Value.ownBlock] at hq; omega)
        have O4 := Lib.hid (show Deeds w4 wq.heap.size (.slice va1 X vc1) xs from hO4)
        have D4 := Lib.hid ((HD2.out.below W3.out).below B4)
        clear hO4 hg4 D1 O1
        go_wp2_with (at_builtin; refine wpList_append_deeds rfl (.tmp 58) (.tmp 59) rfl wq.heap.size va1 X vc1 xs rfl HX.out.symm O4.out g2 ta Y tc bs rfl HY.out.symm D4.out (by rw [HX.out, HY.out]; omega) B4.size A HAX.out ?_)
        intro va2 vc2 w5 hO5 hg5
        rw [← HALL.out] at hO5
        have B5 : Below wq.heap.size wq w5 := B4.grown hg5 B4.size (fun q hq => own_ge O4.out q hq)
        have O5 := Lib.hid hO5
        have F5 := Lib.hid (F.out.below B5)
        have R5 := Lib.hid (R.out.below B5)
        have W5 := Lib.hid (W3.out.trans (B5.mono W3.out.size))
        have V5 := hO5.cap
        clear hO5 hg5 O4 D4 B5 B4 B0 F R W3
        have hm : decide ((Z : Int) < (A : Int)) = false := by simp; omega
        have hm2 : decide ((Z : Int) < (A : Int)) = false := hm
        go_wp2_with fail
        refine (fl_nextN _ _ _ _ _ _ F5.out).mono ?_
        rintro e w6 ⟨rfl, hb6⟩
        have hb6' := hb6.alloc hb6.size (.cells #[.int .i64 0, .int .i64 0, .int .u64 0, .int .u64 0, .int .u64 0] 31)
        have F6 := Lib.hid (F5.out.below hb6')
        have W6 := Lib.hid (W5.out.trans (hb6'.mono W5.out.size))
        have RA := Lib.hid (Deeds.rowOf (R5.out.below hb6'))
        have RB := Lib.hid (deeds_below O5.out hb6')
        have hT : all.take A = all := List.take_of_length_le (by rw [HL.out]; omega)
        rw [hT] at RA
        clear F5 R5 W5 O5 hb6 hb6' hT
        go_wp2_with fail
        refine (same_true _ _ _ _ _ all RA.out RB.out (by rw [HL.out]; omega)).mono ?_
        rintro e w7 ⟨rfl, hb7⟩
        have F7 := Lib.hid (F6.out.below hb7)
        have W7 := Lib.hid (W6.out.trans (hb7.mono W6.out.size))
        clear F6 W6 RA RB hb7
        go_wp2_with fail
        refine (HA.out _).mono ?_
        rintro e w8 ⟨rfl, hb8⟩
        have F8 := Lib.hid (F7.out.below hb8)
        have W8 := Lib.hid (W7.out.trans (hb8.mono W7.out.size))
        have D8 := Lib.hid (HD2.out.below W8.out)
        obtain ⟨u8, v8, hB8⟩ := F8.out.blk
        clear F7 W7 hb8
        go_wp2_with fail
        refine (new_script g2 (.slice ta Y tc) bs _ D8.out (by rw [HY.out]; omega)).mono ?_
        rintro e w9 ⟨sb, sg, rfl, hS, hsb, hsg, hb9⟩
        have B9 := Lib.hid (hB8.below' hb9)
        have S9 := Lib.hid hS
        have W9 := Lib.hid (W8.out.trans (hb9.mono W8.out.size))
        have l8 := hB8.lt
        clear F8 W8 D8 hS hb9 hB8
        go_wp2_with fail
        refine (flow_to w9 w8.heap.size f sb sg sb u8 v8 bs [] B9.out S9.out hsb hsg hsb l8).mono ?_
        rintro e w10 ⟨rfl, hst, hM10⟩
        have W10 := Lib.hid (below_mod W9.out hM10 W9.out.size (fun q hq e => by omega))
        obtain ⟨b', r', hF10, _, _⟩ := FL.of_st (m := 0) hst (by simp)
        clear S9 B9 W9 hst hM10
        cases bs with
        | nil =>
          have hY0 : Y = 0 := by rw [← HY.out]; rfl
          subst hY0
          go_wp2_with fail
          refine (fl_nextN _ _ _ _ _ _ hF10).mono ?_
          rintro e w11 ⟨rfl, hb11⟩
          have W11 := Lib.hid (W10.out.trans ((hb11.alloc hb11.size (.cells #[.int .i64 0, .int .i64 0, .int .u64 0, .int .u64 0, .int .u64 0] 31)).mono W10.out.size))
          clear hF10 W10 hb11
          go_wp2_with fail
          refine wp_region_reads (by kernel_rfl) (by kernel_rfl) ?_
          repeat (quiet_step (fail))
          refine wpQuiet_nil ?_
          intro w12 hb12
          go_wp2_with fail
          go_ret
          exact ⟨rfl, W11.out.trans (hb12.mono W11.out.size)⟩
        | cons d0 rest =>
          obtain ⟨off, xc, hv, _, f0, f1, f2, f3, f4⟩ := (HD2.out.below W10.out).five
          simp only [Value.slice.injEq] at hv
          obtain ⟨rfl, hYr, _⟩ := hv
          have g2l : g2 < w10.heap.size := World.block_lt_of_cell? w10 _ f0
          have hY1 : decide ((0 : Int) < (Y : Int)) = true := by simp; omega
          have hY2 : (0 : Int) < (Y : Int) := by omega
          have dd : deedEq d0.k d0.at_ d0.a d0.b d0.by_ d0.k d0.at_ d0.a d0.b d0.by_ = true := by rw [D.beq]; simp
          have FF := Lib.hid (And.intro f0 (And.intro f1 (And.intro f2 (And.intro f3 f4))))
          clear f0 f1 f2 f3 f4
          go_wp2_with fail
          refine (fl_nextY _ _ _ _ _ _ _ _ hF10).mono ?_
          rintro e w11 ⟨rfl, hb11⟩
          have hq := hb11.alloc hb11.size (.cells #[.int .i64 d0.k, .int .i64 d0.at_, .int .u64 d0.a, .int .u64 d0.b, .int .u64 d0.by_] 31)
          have C11 := (Blk.new w11 [.int .i64 d0.k, .int .i64 d0.at_, .int .u64 d0.a, .int .u64 d0.b, .int .u64 d0.by_] 31).cell
          have W11 := Lib.hid (W10.out.trans (hq.mono W10.out.size))
          obtain ⟨f0, f1, f2, f3, f4⟩ := FF.out
          have k0 := (hq.cell (p := ⟨g2, off, none⟩) g2l).trans f0
          have k1 := (hq.cell (p := ⟨g2, off + 1, none⟩) g2l).trans f1
          have k2 := (hq.cell (p := ⟨g2, off + 2, none⟩) g2l).trans f2
          have k3 := (hq.cell (p := ⟨g2, off + 3, none⟩) g2l).trans f3
          have k4 := (hq.cell (p := ⟨g2, off + 4, none⟩) g2l).trans f4
          clear hF10 W10 hb11 hq f0 f1 f2 f3 f4 FF
          go_wp2_with fail
          refine wp_region_reads (by kernel_rfl) (by kernel_rfl) ?_
          repeat (quiet_step (fail))
          refine wpQuiet_nil ?_
          intro w12 hb12
          go_wp2_with fail
          go_ret
          exact ⟨rfl, W11.out.trans (hb12.mono W11.out.size)⟩
    · obtain rfl : Z = k := by omega
      obtain ⟨wq, rfl⟩ : ∃ wq, wq = wr := ⟨_, rfl⟩
      have F := hF
      have R := hR
      have W3 := Lib.hid hW
      clear hF hR hW
      go_upto_region 12 with fail
      have B0 : Below wq.heap.size wq (wq.alloc (.cells #[] 31)) := (Below.refl _ _).alloc (Nat.le_refl _) _
      have D1 := Lib.hid ((HD1.out.below W3.out).below B0)
      have O1 : Hid (Deeds (wq.alloc (.cells #[] 31)) wq.heap.size (.slice (some ⟨wq.heap.size, 0, none⟩) 0 0) []) := World.ownsRow_made wq #[] 0 (Nat.le_refl _) (by unfold maxLen; omega) rfl
      go_wp2_with (at_builtin; refine wpList_append_deeds rfl (.tmp 56) (.tmp 57) rfl wq.heap.size _ 0 0 [] rfl rfl O1.out g1 sa X sc xs rfl HX.out.symm D1.out (by rw [HX.out]; simp; omega) B0.size X (by omega) ?_)
      intro va1 vc1 w4 hO4 hg4
      have B4 : Below wq.heap.size wq w4 := B0.grown hg4 B0.size (fun q hq => by simp [Value.ownBlock] at hq; omega)
      have O4 := Lib.hid (show Deeds w4 wq.heap.size (.slice va1 X vc1) xs from hO4)
      have D4 := Lib.hid ((HD2.out.below W3.out).below B4)
      clear hO4 hg4 D1 O1
      go_wp2_with (at_builtin; refine wpList_append_deeds rfl (.tmp 58) (.tmp 59) rfl wq.heap.size va1 X vc1 xs rfl HX.out.symm O4.out g2 ta Y tc bs rfl HY.out.symm D4.out (by rw [HX.out, HY.out]; omega) B4.size A HAX.out ?_)
      intro va2 vc2 w5 hO5 hg5
      rw [← HALL.out] at hO5
      have B5 : Below wq.heap.size wq w5 := B4.grown hg5 B4.size (fun q hq => own_ge O4.out q hq)
      have O5 := Lib.hid hO5
      have F5 := Lib.hid (F.out.below B5)
      have R5 := Lib.hid (R.out.below B5)
      have W5 := Lib.hid (W3.out.trans (B5.mono W3.out.size))
      have V5 := hO5.cap
      clear hO5 hg5 O4 D4 B5 B4 B0 F R W3
      by_cases hZA : Z < A
      · have hza : Z < all.length := by rw [HL.out]; exact hZA
        have e1 : all.drop Z = all[Z] :: all.drop (Z + 1) := List.drop_eq_getElem_cons hza
        have hF5 := F5.out
        rw [e1] at hF5
        generalize all[Z] = d at *
        have F5 := Lib.hid hF5
        have hm : decide ((Z : Int) < (A : Int)) = true := by simp; omega
        have b0 : (0 : Int) ≤ (Z : Int) := by omega
        have b1 : (Z : Int) ≤ (vc2 : Int) := by omega
        clear hF5 e1
        go_wp2_with fail
        refine (fl_nextY _ _ _ _ _ _ _ _ F5.out).mono ?_
        rintro e w6 ⟨rfl, hb6⟩
        have hb6' := hb6.alloc hb6.size (.cells #[.int .i64 d.k, .int .i64 d.at_, .int .u64 d.a, .int .u64 d.b, .int .u64 d.by_] 31)
        have F6 := Lib.hid (F5.out.below hb6')
        have W6 := Lib.hid (W5.out.trans (hb6'.mono W5.out.size))
        have RA := Lib.hid (Deeds.rowOf (R5.out.below hb6'))
        have RB := Lib.hid ((deeds_below O5.out hb6').take HL.out.symm Z (by rw [HL.out]; exact Nat.le_of_lt hZA))
        clear F5 R5 W5 O5 hb6 hb6'
        go_wp2_with fail
        refine (same_true _ _ _ _ _ (all.take Z) RA.out RB.out (by simp; omega)).mono ?_
        rintro e w7 ⟨rfl, hb7⟩
        have F7 := Lib.hid (F6.out.below hb7)
        have W7 := Lib.hid (W6.out.trans (hb7.mono W6.out.size))
        clear F6 W6 RA RB hb7
        go_wp2_with fail
        refine (HA.out _).mono ?_
        rintro e w8 ⟨rfl, hb8⟩
        have F8 := Lib.hid (F7.out.below hb8)
        have W8 := Lib.hid (W7.out.trans (hb8.mono W7.out.size))
        have D8 := Lib.hid (HD2.out.below W8.out)
        obtain ⟨u8, v8, hB8⟩ := F8.out.blk
        clear F7 W7 hb8
        go_wp2_with fail
        refine (new_script g2 (.slice ta Y tc) bs _ D8.out (by rw [HY.out]; omega)).mono ?_
        rintro e w9 ⟨sb, sg, rfl, hS, hsb, hsg, hb9⟩
        have B9 := Lib.hid (hB8.below' hb9)
        have S9 := Lib.hid hS
        have W9 := Lib.hid (W8.out.trans (hb9.mono W8.out.size))
        have l8 := hB8.lt
        clear F8 W8 D8 hS hb9 hB8
        go_wp2_with fail
        refine (flow_to w9 w8.heap.size f sb sg sb u8 v8 bs [] B9.out S9.out hsb hsg hsb l8).mono ?_
        rintro e w10 ⟨rfl, hst, hM10⟩
        have W10 := Lib.hid (below_mod W9.out hM10 W9.out.size (fun q hq e => by omega))
        obtain ⟨b', r', hF10, _, _⟩ := FL.of_st (m := 0) hst (by simp)
        clear S9 B9 W9 hst hM10
        cases bs with
        | nil =>
          have hY0 : Y = 0 := by rw [← HY.out]; rfl
          subst hY0
          go_wp2_with fail
          refine (fl_nextN _ _ _ _ _ _ hF10).mono ?_
          rintro e w11 ⟨rfl, hb11⟩
          have W11 := Lib.hid (W10.out.trans ((hb11.alloc hb11.size (.cells #[.int .i64 0, .int .i64 0, .int .u64 0, .int .u64 0, .int .u64 0] 31)).mono W10.out.size))
          clear hF10 W10 hb11
          go_wp2_with fail
          refine wp_region_reads (by kernel_rfl) (by kernel_rfl) ?_
          repeat (quiet_step (fail))
          refine wpQuiet_nil ?_
          intro w12 hb12
          go_wp2_with fail
          go_ret
          exact ⟨rfl, W11.out.trans (hb12.mono W11.out.size)⟩
        | cons d0 rest =>
          obtain ⟨off, xc, hv, _, f0, f1, f2, f3, f4⟩ := (HD2.out.below W10.out).five
          simp only [Value.slice.injEq] at hv
          obtain ⟨rfl, hYr, _⟩ := hv
          have g2l : g2 < w10.heap.size := World.block_lt_of_cell? w10 _ f0
          have hY1 : decide ((0 : Int) < (Y : Int)) = true := by simp; omega
          have hY2 : (0 : Int) < (Y : Int) := by omega
          have dd : deedEq d0.k d0.at_ d0.a d0.b d0.by_ d0.k d0.at_ d0.a d0.b d0.by_ = true := by rw [D.beq]; simp
          have FF := Lib.hid (And.intro f0 (And.intro f1 (And.intro f2 (And.intro f3 f4))))
          clear f0 f1 f2 f3 f4
          go_wp2_with fail
          refine (fl_nextY _ _ _ _ _ _ _ _ hF10).mono ?_
          rintro e w11 ⟨rfl, hb11⟩
          have hq := hb11.alloc hb11.size (.cells #[.int .i64 d0.k, .int .i64 d0.at_, .int .u64 d0.a, .int .u64 d0.b, .int .u64 d0.by_] 31)
          have C11 := (Blk.new w11 [.int .i64 d0.k, .int .i64 d0.at_, .int .u64 d0.a, .int .u64 d0.b, .int .u64 d0.by_] 31).cell
          have W11 := Lib.hid (W10.out.trans (hq.mono W10.out.size))
          obtain ⟨f0, f1, f2, f3, f4⟩ := FF.out
          have k0 := (hq.cell (p := ⟨g2, off, none⟩) g2l).trans f0
          have k1 := (hq.cell (p := ⟨g2, off + 1, none⟩) g2l).trans f1
          have k2 := (hq.cell (p := ⟨g2, off + 2, none⟩) g2l).trans f2
          have k3 := (hq.cell (p := ⟨g2, off + 3, none⟩) g2l).trans f3
          have k4 := (hq.cell (p := ⟨g2, off + 4, none⟩) g2l).trans f4
          clear hF10 W10 hb11 hq f0 f1 f2 f3 f4 FF
          go_wp2_with fail
          refine wp_region_reads (by kernel_rfl) (by kernel_rfl) ?_
          repeat (quiet_step (fail))
          refine wpQuiet_nil ?_
          intro w12 hb12
          go_wp2_with fail
          go_ret
          exact ⟨rfl, W11.out.trans (hb12.mono W11.out.size)⟩
      · have hF5 := F5.out
        rw [List.drop_eq_nil_of_le (by rw [HL.out]; omega)] at hF5
        have F5 := Lib.hid hF5
        clear hF5
        have hm : decide ((Z : Int) < (A : Int)) = false := by simp; omega
        have hm2 : decide ((Z : Int) < (A : Int)) = false := hm
        go_wp2_with fail
        refine (fl_nextN _ _ _ _ _ _ F5.out).mono ?_
        rintro e w6 ⟨rfl, hb6⟩
        have hb6' := hb6.alloc hb6.size (.cells #[.int .i64 0, .int .i64 0, .int .u64 0, .int .u64 0, .int .u64 0] 31)
        have F6 := Lib.hid (F5.out.below hb6')
        have W6 := Lib.hid (W5.out.trans (hb6'.mono W5.out.size))
        have RA := Lib.hid (Deeds.rowOf (R5.out.below hb6'))
        have RB := Lib.hid (deeds_below O5.out hb6')
        have hT : all.take Z = all := List.take_of_length_le (by rw [HL.out]; omega)
        rw [hT] at RA
        clear F5 R5 W5 O5 hb6 hb6' hT
        go_wp2_with fail
        refine (same_true _ _ _ _ _ all RA.out RB.out (by rw [HL.out]; omega)).mono ?_
        rintro e w7 ⟨rfl, hb7⟩
        have F7 := Lib.hid (F6.out.below hb7)
        have W7 := Lib.hid (W6.out.trans (hb7.mono W6.out.size))
        clear F6 W6 RA RB hb7
        go_wp2_with fail
        refine (HA.out _).mono ?_
        rintro e w8 ⟨rfl, hb8⟩
        have F8 := Lib.hid (F7.out.below hb8)
        have W8 := Lib.hid (W7.out.trans (hb8.mono W7.out.size))
        have D8 := Lib.hid (HD2.out.below W8.out)
        obtain ⟨u8, v8, hB8⟩ := F8.out.blk
        clear F7 W7 hb8
        go_wp2_with fail
        refine (new_script g2 (.slice ta Y tc) bs _ D8.out (by rw [HY.out]; omega)).mono ?_
        rintro e w9 ⟨sb, sg, rfl, hS, hsb, hsg, hb9⟩
        have B9 := Lib.hid (hB8.below' hb9)
        have S9 := Lib.hid hS
        have W9 := Lib.hid (W8.out.trans (hb9.mono W8.out.size))
        have l8 := hB8.lt
        clear F8 W8 D8 hS hb9 hB8
        go_wp2_with fail
        refine (flow_to w9 w8.heap.size f sb sg sb u8 v8 bs [] B9.out S9.out hsb hsg hsb l8).mono ?_
        rintro e w10 ⟨rfl, hst, hM10⟩
        have W10 := Lib.hid (below_mod W9.out hM10 W9.out.size (fun q hq e => by omega))
        obtain ⟨b', r', hF10, _, _⟩ := FL.of_st (m := 0) hst (by simp)
        clear S9 B9 W9 hst hM10
        cases bs with
        | nil =>
          have hY0 : Y = 0 := by rw [← HY.out]; rfl
          subst hY0
          go_wp2_with fail
          refine (fl_nextN _ _ _ _ _ _ hF10).mono ?_
          rintro e w11 ⟨rfl, hb11⟩
          have W11 := Lib.hid (W10.out.trans ((hb11.alloc hb11.size (.cells #[.int .i64 0, .int .i64 0, .int .u64 0, .int .u64 0, .int .u64 0] 31)).mono W10.out.size))
          clear hF10 W10 hb11
          go_wp2_with fail
          refine wp_region_reads (by kernel_rfl) (by kernel_rfl) ?_
          repeat (quiet_step (fail))
          refine wpQuiet_nil ?_
          intro w12 hb12
          go_wp2_with fail
          go_ret
          exact ⟨rfl, W11.out.trans (hb12.mono W11.out.size)⟩
        | cons d0 rest =>
          obtain ⟨off, xc, hv, _, f0, f1, f2, f3, f4⟩ := (HD2.out.below W10.out).five
          simp only [Value.slice.injEq] at hv
          obtain ⟨rfl, hYr, _⟩ := hv
          have g2l : g2 < w10.heap.size := World.block_lt_of_cell? w10 _ f0
          have hY1 : decide ((0 : Int) < (Y : Int)) = true := by simp; omega
          have hY2 : (0 : Int) < (Y : Int) := by omega
          have dd : deedEq d0.k d0.at_ d0.a d0.b d0.by_ d0.k d0.at_ d0.a d0.b d0.by_ = true := by rw [D.beq]; simp
          have FF := Lib.hid (And.intro f0 (And.intro f1 (And.intro f2 (And.intro f3 f4))))
          clear f0 f1 f2 f3 f4
          go_wp2_with fail
          refine (fl_nextY _ _ _ _ _ _ _ _ hF10).mono ?_
          rintro e w11 ⟨rfl, hb11⟩
          have hq := hb11.alloc hb11.size (.cells #[.int .i64 d0.k, .int .i64 d0.at_, .int .u64 d0.a, .int .u64 d0.b, .int .u64 d0.by_] 31)
          have C11 := (Blk.new w11 [.int .i64 d0.k, .int .i64 d0.at_, .int .u64 d0.a, .int .u64 d0.b, .int .u64 d0.by_] 31).cell
          have W11 := Lib.hid (W10.out.trans (hq.mono W10.out.size))
          obtain ⟨f0, f1, f2, f3, f4⟩ := FF.out
          have k0 := (hq.cell (p := ⟨g2, off, none⟩) g2l).trans f0
          have k1 := (hq.cell (p := ⟨g2, off + 1, none⟩) g2l).trans f1
          have k2 := (hq.cell (p := ⟨g2, off + 2, none⟩) g2l).trans f2
          have k3 := (hq.cell (p := ⟨g2, off + 3, none⟩) g2l).trans f3
          have k4 := (hq.cell (p := ⟨g2, off + 4, none⟩) g2l).trans f4
          clear hF10 W10 hb11 hq f0 f1 f2 f3 f4 FF
          go_wp2_with fail
          refine wp_region_reads (by kernel_rfl) (by kernel_rfl) ?_
          repeat (quiet_step (fail))
          refine wpQuiet_nil ?_
          intro w12 hb12
          go_wp2_with fail
          go_ret
          exact ⟨rfl, W11.out.trans (hb12.mono W11.out.size)⟩
end Go.Proofs.Ytgkobmmannkegaa
