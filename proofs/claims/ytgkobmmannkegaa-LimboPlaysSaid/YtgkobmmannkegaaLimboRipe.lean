/-
  Slots that wait: those that are ripe (limbo.Ripe).
-/
import Derived.Test.YtgkobmmannkegaaLimboAll
import Derived.Test.YtgkobmmannkegaaLimboPlain
namespace Go.Proofs.Ytgkobmmannkegaa
open Go Go.RowKit
set_option linter.unusedVariables false

theorem ripe_calls (x e : Int) (ep : Int) (e0 : 0 ≤ ep) (e1 : ep < 18446744073709551616) (w : World) : Calls Try.prog 168 #[.agg #[.int .u64 x, .int .u64 e], .int .u64 ep] w fun r w' => r = .returned (.bool (ripeB ep ⟨x, e⟩)) ∧ Below w.heap.size w w' := by
  have C := (Blk.new w [.int .u64 x, .int .u64 e] 102).cell
  by_cases h : 2 ≤ ep
  · have h1 : (1 : Int) < ep := by omega
    have hw : IntKind.u64.wrap (ep - 2) = ep - 2 := by rw [wrapu]; omega
    have HW := Lib.hid hw
    have HR : Hid (ripeB ep ⟨x, e⟩ = decide (e ≤ ep - 2)) := by show _ = _; unfold ripeB; rw [decide_eq_decide]; simp; intro; omega
    clear hw
    go_enter Try.func168, Try.ntmps168
    go_wp2_with fail
    go_ret
    exact ⟨ret_bool (by rw [HR.out]; (try simp [HW.out])), (Below.refl _ _).alloc (Nat.le_refl _) _⟩
  · have h1 : ep ≤ 1 := by omega
    have HR : Hid (ripeB ep ⟨x, e⟩ = false) := by show _ = _; unfold ripeB; rw [decide_eq_false_iff_not]; omega
    clear h
    go_enter Try.func168, Try.ntmps168
    go_wp2_with fail
    go_ret
    exact ⟨ret_bool (by rw [HR.out]; (try simp); (try omega)), (Below.refl _ _).alloc (Nat.le_refl _) _⟩
theorem rripe_calls (x e : Int) (ep : Int) (e0 : 0 ≤ ep) (e1 : ep < 18446744073709551616) (w : World) : Calls Try.prog 167 #[.agg #[.int .u64 x, .int .u64 e], .int .u64 ep] w fun r w' => r = .returned (.bool (ripeB ep ⟨x, e⟩)) ∧ Below w.heap.size w w' := by
  have C := (Blk.new w [.int .u64 x, .int .u64 e] 102).cell
  by_cases h : 2 ≤ ep
  · have hw : IntKind.u64.wrap (ep - 2) = ep - 2 := by rw [wrapu]; omega
    have HW := Lib.hid hw
    have HR : Hid (ripeB ep ⟨x, e⟩ = decide (e ≤ ep - 2)) := by show _ = _; unfold ripeB; rw [decide_eq_decide]; simp; intro; omega
    clear hw
    go_enter Try.func167, Try.ntmps167
    go_wp2_with fail
    go_ret
    exact ⟨ret_bool (by rw [HR.out]; (try simp [HW.out])), (Below.refl _ _).alloc (Nat.le_refl _) _⟩
  · have h1 : ep < 2 := by omega
    have HR : Hid (ripeB ep ⟨x, e⟩ = false) := by show _ = _; unfold ripeB; rw [decide_eq_false_iff_not]; omega
    clear h
    go_enter Try.func167, Try.ntmps167
    go_wp2_with fail
    go_ret
    exact ⟨ret_bool (by rw [HR.out]; (try simp); (try omega)), (Below.refl _ _).alloc (Nat.le_refl _) _⟩
def selv (vs us : Nat → Value) (k i : Nat) : Value := if i < k then us i else vs i
/-- What is kept while the lists are gone through: the first k have been turned. -/
structure RK (w0 : World) (b k : Nat) (vs us : Nat → Value) (ls : Nat → List Rt) (nr : Rt → Bool) (w : World) : Prop where
  blk : Blk w b [selv vs us k 0, selv vs us k 1, selv vs us k 2] 190
  old : ∀ i, i < 3 → RL w (vs i) (ls i)
  new : ∀ i, i < k → RL w (us i) ((ls i).filter nr)
  fresh : ∀ i, i < k → ∀ q, (us i).ownBlock = some q → w0.heap.size ≤ q
  apart : ∀ i j, i < k → j < k → i ≠ j → ∀ q, (us i).ownBlock = some q → (us j).ownBlock ≠ some q
  mod : Mod (fun q => q = b) w0 w
/-- A row of the call's own, apart from the new ones. -/
def AP (w0 : World) (us : Nat → Value) (k : Nat) (v : Value) : Prop := ∀ q, v.ownBlock = some q → w0.heap.size ≤ q ∧ ∀ i, i < k → (us i).ownBlock ≠ some q
theorem RK.keep {w0 w w' : World} {b k : Nat} {vs us : Nat → Value} {ls : Nat → List Rt} {nr : Rt → Bool} {S : Nat → Prop} (h : RK w0 b k vs us ls nr w) (hb : b < w0.heap.size) (hv : ∀ i, i < 3 → ∀ q, (vs i).ownBlock = some q → q < w0.heap.size)
    (hm : Mod S w w') (hS : ∀ q, S q → w0.heap.size ≤ q ∧ ∀ i, i < k → (us i).ownBlock ≠ some q) : RK w0 b k vs us ls nr w' :=
  ⟨hm.blk h.blk (fun s => by have := (hS b s).1; omega), fun i hi => (h.old i hi).mod hm (fun q hq s => by have := (hS q s).1; have := hv i hi q hq; omega),
    fun i hi => (h.new i hi).mod hm (fun q hq s => (hS q s).2 i hi hq), h.fresh, h.apart, h.mod.trans hm (fun q hq s => by have := (hS q s).1; omega)⟩
theorem RK.below {w0 w w' : World} {b k : Nat} {vs us : Nat → Value} {ls : Nat → List Rt} {nr : Rt → Bool} (h : RK w0 b k vs us ls nr w) (hb : b < w0.heap.size) (hv : ∀ i, i < 3 → ∀ q, (vs i).ownBlock = some q → q < w0.heap.size) (hm : Below w.heap.size w w') : RK w0 b k vs us ls nr w' :=
  h.keep hb hv (Mod.of_below (S := fun _ => False) hm) (fun q => False.elim)
def updv (us : Nat → Value) (k : Nat) (v : Value) (i : Nat) : Value := if i = k then v else us i
/-- One list more. -/
theorem RK.next {w0 w : World} {b k : Nat} {vs us : Nat → Value} {ls : Nat → List Rt} {nr : Rt → Bool} {v : Value} (h : RK w0 b k vs us ls nr w) (hk : k < 3) (hb : b < w0.heap.size) (hR : RL w v ((ls k).filter nr)) (hA : AP w0 us k v) (hv : ∀ i, i < 3 → ∀ q, (vs i).ownBlock = some q → q < w0.heap.size ∧ q ≠ b) :
    RK w0 b (k + 1) vs (updv us k v) ls nr (w.setCell ⟨b, k, none⟩ v) := by
  have ho : Only b w (w.setCell ⟨b, k, none⟩ v) := (Only.refl b w).set k v
  have hus : ∀ i, i < k → updv us k v i = us i := fun i hi => by unfold updv; rw [if_neg (by omega)]
  have huk : updv us k v k = v := by unfold updv; rw [if_pos rfl]
  refine ⟨?_, fun i hi => (h.old i hi).mod ho.mod (fun q hq e => (hv i hi q hq).2 e), fun i hi => ?_, fun i hi q hq => ?_, fun i j hi hj hij q hq hq2 => ?_, h.mod.trans' ho.mod⟩
  · have hB := h.blk.set k v
    have : k = 0 ∨ k = 1 ∨ k = 2 := by omega
    rcases this with rfl | rfl | rfl <;> simpa [selv, updv] using hB
  · by_cases e : i = k
    · subst e; rw [huk]; exact hR.mod ho.mod (fun q hq e => by have := (hA q hq).1; omega)
    · rw [hus i (by omega)]; exact (h.new i (by omega)).mod ho.mod (fun q hq e => by have := h.fresh i (by omega) q hq; omega)
  · by_cases e : i = k
    · subst e; rw [huk] at hq; exact (hA q hq).1
    · rw [hus i (by omega)] at hq; exact h.fresh i (by omega) q hq
  · by_cases e : i = k
    · subst e
      rw [huk] at hq
      rw [hus j (by omega)] at hq2
      exact (hA q hq).2 j (by omega) hq2
    · rw [hus i (by omega)] at hq
      by_cases e2 : j = k
      · subst e2
        rw [huk] at hq2
        exact (hA q hq2).2 i (by omega) hq
      · rw [hus j (by omega)] at hq2
        exact h.apart i j (by omega) (by omega) hij q hq hq2
theorem take_filter (l : List Rt) (f : Rt → Bool) (j : Nat) (hj : j < l.length) : (l.take (j + 1)).filter f = (l.take j).filter f ++ (if f l[j] then [l[j]] else []) := by
  rw [List.take_succ_eq_append_getElem hj, List.filter_append]
  congr 1
  cases h : f l[j] <;> simp [h]
theorem ap_new {w5 : World} {lo r5 n : Nat} {v v' : Value} {l' : List Rt} (hR5 : RowOf retR 102 w5 lo r5 v' l') (hq5 : v.ownBlock = some r5 ∨ r5 = n) (P : Nat → Prop) (h1 : ∀ q, v.ownBlock = some q → P q) (h2 : P n) : ∀ q, v'.ownBlock = some q → P q := fun q hq => by
  have e := hR5.2 q hq
  subst e
  rcases hq5 with h | h
  · exact h1 _ h
  · exact h ▸ h2
theorem rl_two {w : World} {g c : Nat} {l : List Rt} (hcs : ∀ q u, (rcells retR l)[q]? = some u → w.cell? ⟨g, q, none⟩ = some u) (j : Nat) (hj : j < l.length) : w.cell? ⟨g, j * 2, none⟩ = some (.int .u64 l[j].ref) ∧ w.cell? ⟨g, j * 2 + 1, none⟩ = some (.int .u64 l[j].ep) := by
  have h0 := rcells_get retR l j hj 0 (by decide)
  have h1 := rcells_get retR l j hj 1 (by decide)
  exact ⟨hcs _ _ (by rw [show j * 2 = j * retR.size + 0 from rfl, h0]; rfl), hcs _ _ (by rw [show j * 2 + 1 = j * retR.size + 1 from rfl, h1]; rfl)⟩
set_option maxHeartbeats 4000000 in
set_option maxRecDepth 100000 in
theorem limbo_ripe_from (w : World) (b : Nat) (vs : Nat → Value) (ls : Nat → List Rt) (hB : Blk w b [vs 0, vs 1, vs 2] 190) (hL : ∀ i, i < 3 → RL w (vs i) (ls i)) (hn : (catL ls 3).length ≤ 1000) (ep : Int) (e0 : 0 ≤ ep) (e1 : ep < 18446744073709551616) :
    Calls Try.prog 110 #[.pointer (some ⟨b, 0, none⟩), .int .u64 ep] w fun e w' => ∃ va vc r us, e = .returned (.slice va (catL (fun i => (ls i).filter (ripeB ep)) 3).length vc) ∧ RowOf retR 102 w' w.heap.size r (.slice va (catL (fun i => (ls i).filter (ripeB ep)) 3).length vc) (catL (fun i => (ls i).filter (ripeB ep)) 3) ∧
      AP w us 3 (.slice va (catL (fun i => (ls i).filter (ripeB ep)) 3).length vc) ∧ RK w b 3 vs us ls (fun x => !ripeB ep x) w' := by
  have hbl := hB.lt
  have HV : Hid (∀ i, i < 3 → ∀ q, (vs i).ownBlock = some q → q < w.heap.size ∧ q ≠ b) := fun i hi q hq => ⟨(hL i hi).lt hq, fun e => (hL i hi).ne_blk hB (by decide) (by rw [hq, e])⟩
  have HV1 : Hid (∀ i, i < 3 → ∀ q, (vs i).ownBlock = some q → q < w.heap.size) := fun i hi q hq => (HV.out i hi q hq).1
  have C := hB.cell
  have HS : Hid (∀ k, k < 3 → ∃ a c, vs k = .slice a (ls k).length c ∧ ∀ W, (Instr.index 188 (.agg #[vs 0, vs 1, vs 2]) (.int .i64 (k : Int))).run Try.prog W = .ok (.slice a (ls k).length c) W) := fun k hk => by
    obtain ⟨a, c, hv⟩ := (hL k hk).shape
    refine ⟨a, c, hv, fun W => ?_⟩
    rw [← hv]
    have : k = 0 ∨ k = 1 ∨ k = 2 := by omega
    rcases this with rfl | rfl | rfl <;> rfl
  have K0 : Hid (RK w b 0 vs (fun _ => .slice none 0 0) ls (fun x => !ripeB ep x) w) := ⟨hB, hL, fun i hi => by omega, fun i hi => by omega, fun i j hi => by omega, Mod.refl _ _⟩
  have RP : Hid (∀ x e W, Calls Try.prog 168 #[.agg #[.int .u64 x, .int .u64 e], .int .u64 ep] W fun r w' => r = .returned (.bool (ripeB ep ⟨x, e⟩)) ∧ Below W.heap.size W w') := fun x e W => ripe_calls x e ep e0 e1 W
  have HN : Hid (∀ k, k < 3 → (ls k).length ≤ 1000) := fun k hk => by have := catL_mono ls (k + 1) (by omega); have := catL_len ls k; omega
  have HO : Hid (∀ k, k ≤ 3 → (catL (fun i => (ls i).filter (ripeB ep)) k).length ≤ 1000) := fun k hk => by
    have h1 := catL_mono (fun i => (ls i).filter (ripeB ep)) k hk
    have : ∀ m, (catL (fun i => (ls i).filter (ripeB ep)) m).length ≤ (catL ls m).length := by
      intro m
      induction m with
      | zero => simp [catL]
      | succ m ih => rw [catL_len, catL_len]; have := List.length_filter_le (ripeB ep) (ls m); omega
    have := this 3
    omega
  have N0 : Hid (RowOf retR 102 w w.heap.size 0 (.slice none 0 0) []) := RowOf.nil _ _ _ _
  clear hB hL hn e0 e1
  generalize hrp : ripeB ep = rp at *
  clear hrp
  go_enter Try.func110, Try.ntmps110
  go_wp2_with fail
  go_loopw [5, 17] (fun v i wr => ∃ (k : Nat) (va : Option Addr) (vc r : Nat) (us : Nat → Value), k ≤ 3 ∧ i = .int .i64 k ∧ v = .slice va (catL (fun i => (ls i).filter rp) k).length vc ∧ Hid (RowOf retR 102 wr w.heap.size r (.slice va (catL (fun i => (ls i).filter rp) k).length vc) (catL (fun i => (ls i).filter rp) k)) ∧
    Hid (AP w us k (.slice va (catL (fun i => (ls i).filter rp) k).length vc)) ∧ Hid (RK w b k vs us ls (fun x => !rp x) wr)) (fun _ i _ => 3 - (intOf i).toNat)
  case atStart => exact ⟨0, none, 0, 0, _, by omega, rfl, rfl, N0, Lib.hid (fun q hq => by simp [Value.ownBlock] at hq), K0⟩
  case round =>
    obtain ⟨k, va, vc, r, us, hk, rfl, rfl, hO, hA, hK⟩ := hrel
    clear N0 K0
    by_cases hlt : k < 3
    · obtain ⟨ak, ck, hvk, hidx⟩ := HS.out k hlt
      have hnk := HN.out k hlt
      have HOB := HO.out k hk
      have HVK := Lib.hid hvk
      have HLN : Hid (catL (fun i => (ls i).filter rp) k ++ (ls k).filter rp = catL (fun i => (ls i).filter rp) (k + 1)) := rfl
      have b3 : (k : Int) < 3 := by omega
      clear hvk
      generalize hls : ls k = lk at *
      have HLS := Lib.hid hls
      clear hls
      generalize catL (fun i => (ls i).filter rp) k = O at *
      go_wp2_with fail
      go_loopw [5, 8, 23] (fun v u i wx => ∃ (j : Nat) (X Y : List Rt) (va : Option Addr) (vc r : Nat) (ua : Option Addr) (uc r2 : Nat), j ≤ lk.length ∧ i = .int .i64 j ∧ v = .slice va X.length vc ∧ u = .slice ua Y.length uc ∧ Hid (X = O ++ (lk.take j).filter rp) ∧ Hid (Y = (lk.take j).filter (fun x => !rp x)) ∧
        Hid (RowOf retR 102 wx w.heap.size r (.slice va X.length vc) X) ∧ Hid (RowOf retR 102 wx w.heap.size r2 (.slice ua Y.length uc) Y) ∧ Hid (AP w us k (.slice va X.length vc)) ∧ Hid (AP w us k (.slice ua Y.length uc)) ∧ Hid (∀ q, Value.ownBlock (.slice va X.length vc) = some q → Value.ownBlock (.slice ua Y.length uc) ≠ some q) ∧ Hid (RK w b k vs us ls (fun x => !rp x) wx)) (fun _ _ i _ => lk.length - (intOf i).toNat)
      case atStart => exact ⟨0, O, [], va, vc, r, none, 0, 0, Nat.zero_le _, rfl, rfl, rfl, Lib.hid (by simp), Lib.hid (by simp), hO, RowOf.nil _ _ _ _, hA, Lib.hid (fun q hq => by simp [Value.ownBlock] at hq), Lib.hid (fun q hq => by simp [Value.ownBlock]), hK⟩
      case round =>
        clear hO hA hK
        obtain ⟨j, X, Y, va, vc, r, ua, uc, r2, hj, rfl, rfl, rfl, hXe, hYe, hX, hY, hAX, hAY, hS, hK⟩ := hrel
        have hAX2 := hAX
        have hAY2 := hAY
        by_cases hlj : j < lk.length
        · have hRL := hK.out.old k hlt
          rw [HVK.out, HLS.out] at hRL
          have hXl : X.length ≤ 60000 := by rw [hXe.out, List.length_append]; have := List.length_filter_le rp (lk.take j); have := List.length_take_le j lk; omega
          have hYl : Y.length ≤ 60000 := by rw [hYe.out]; have := List.length_filter_le (fun x => !rp x) (lk.take j); have := List.length_take_le j lk; omega
          rcases hRL.cases with ⟨hv, hl0⟩ | ⟨g, cap, hv, hg, hcs⟩
          · rw [hl0] at hlj; simp at hlj
          injection hv with hv q1 q2
          subst hv
          clear q1 q2
          obtain ⟨c0, c1⟩ := rl_two (c := 0) hcs j hlj
          have TX := take_filter lk rp j hlj
          have TY := take_filter lk (fun x => !rp x) j hlj
          have b4 : (j : Int) < lk.length := by omega
          have zW := hK.out.mod.size
          obtain ⟨⟨xr, xe⟩, hxe⟩ : ∃ x, x = lk[j] := ⟨_, rfl⟩
          rw [← hxe] at c0 c1 TX TY
          have HTX := Lib.hid TX
          have HTY := Lib.hid TY
          clear hcs hRL TX TY hxe
          dsimp only at c0 c1
          go_wp2_with fail
          refine (RP.out xr xe _).mono ?_
          rintro e w2 ⟨rfl, hb2⟩
          have Q2 := (Blk.new wr [.int .u64 xr, .int .u64 xe] 102).below' hb2
          have C2 := Q2.cell
          have hb3 := Below.step _ hb2
          have X2 := Lib.hid (hX.out.below hb3)
          have Y2 := Lib.hid (hY.out.below hb3)
          have K2 := Lib.hid (hK.out.below hbl HV1.out hb3)
          have zlo : w.heap.size ≤ (w2.alloc (.cells #[.int .u64 xr, .int .u64 xe] 102)).heap.size := by have := hb3.size; simp; omega
          have zlo2 : w.heap.size ≤ w2.heap.size := by have := hb3.size; omega
          clear hb2 hb3
          dsimp only
          cases hr : rp ⟨xr, xe⟩ with
          | true =>
            have HX1 : Hid (X ++ [(⟨xr, xe⟩ : Rt)] = O ++ (lk.take (j + 1)).filter rp) := by show _ = _; rw [HTX.out, hr, hXe.out]; simp
            have HY1 : Hid (Y = (lk.take (j + 1)).filter (fun x => !rp x)) := by show _ = _; rw [HTY.out, hr, hYe.out]; simp
            clear hr
            go_wp2_with (at_builtin; refine wpList_append_rec (R := retR) rfl (.tmp 30) (.tmp 32) 100 102 _ 16 rfl Try.underlying100 info102 rfl (by omega) w.heap.size r _ X rfl (X2.out.below ((Below.refl _ _).alloc (Nat.le_refl _) (.cells #[.int .u64 xr, .int .u64 xe] 102))) ⟨xr, xe⟩ w2.heap.size rfl (Blk.new w2 [.int .u64 xr, .int .u64 xe] 102) hXl zlo ?_)
            intro va5 vc5 w5 r5 hR5 hg5 hq5 hz5
            have M5 : Mod (fun q => Value.ownBlock (.slice va X.length vc) = some q) w2 w5 := ((Mod.refl _ _).alloc _).grown hg5 (fun q hq _ => hq)
            have hsz : (w2.alloc (.cells #[.int .u64 xr, .int .u64 xe] 102)).heap.size = w2.heap.size + 1 := by simp
            have O5 := Lib.hid (Y2.out.mod' M5 (fun q hq e => hS.out q e hq))
            have K5 := Lib.hid (K2.out.keep hbl HV1.out M5 (fun q hq => hAX.out q hq))
            have A5 : Hid (AP w us k (.slice va5 (X ++ [(⟨xr, xe⟩ : Rt)]).length vc5)) := by
              rw [List.length_append, List.length_singleton]
              exact ap_new hR5 hq5 (fun q => w.heap.size ≤ q ∧ ∀ i, i < k → (us i).ownBlock ≠ some q) hAX.out ⟨by omega, fun i hi e => by have := (K2.out.new i hi).lt e; omega⟩
            have S5 : Hid (∀ q, Value.ownBlock (.slice va5 (X ++ [(⟨xr, xe⟩ : Rt)]).length vc5) = some q → Value.ownBlock (.slice ua Y.length uc) ≠ some q) := by
              rw [List.length_append, List.length_singleton]
              exact ap_new hR5 hq5 (fun q => Value.ownBlock (.slice ua Y.length uc) ≠ some q) (fun q hq e => hS.out q hq e) (fun e => by have := (World.ownsRow.lt Y2.out.1 _ e).2; omega)
            have R5 : Hid (RowOf retR 102 w5 w.heap.size r5 (.slice va5 (X ++ [(⟨xr, xe⟩ : Rt)]).length vc5) (X ++ [(⟨xr, xe⟩ : Rt)])) := by
              rw [List.length_append, List.length_singleton]; exact hR5
            have hl5 : X.length + 1 = (X ++ [(⟨xr, xe⟩ : Rt)]).length := by simp
            clear hR5 hg5 hq5 hz5 M5 hsz X2 Y2 K2 C2 Q2 hX hY hK hAX hAY hS c0 c1
            go_wp2_with fail
            go_roundw
            case rel => exact ⟨j + 1, X ++ [(⟨xr, xe⟩ : Rt)], Y, va5, vc5, r5, ua, uc, r2, by omega, by go_num, by rw [hl5], rfl, HX1, HY1, R5, O5, A5, hAY2, S5, K5⟩
            case measure => simp [intOf]; omega
          | false =>
            have HX1 : Hid (X = O ++ (lk.take (j + 1)).filter rp) := by show _ = _; rw [HTX.out, hr, hXe.out]; simp
            have HY1 : Hid (Y ++ [(⟨xr, xe⟩ : Rt)] = (lk.take (j + 1)).filter (fun x => !rp x)) := by show _ = _; rw [HTY.out, hr, hYe.out]; simp
            clear hr
            go_wp2_with (at_builtin; refine wpList_append_rec (R := retR) rfl (.tmp 34) (.tmp 36) 100 102 _ 16 rfl Try.underlying100 info102 rfl (by omega) w.heap.size r2 _ Y rfl (Y2.out.below ((Below.refl _ _).alloc (Nat.le_refl _) (.cells #[.int .u64 xr, .int .u64 xe] 102))) ⟨xr, xe⟩ w2.heap.size rfl (Blk.new w2 [.int .u64 xr, .int .u64 xe] 102) hYl zlo ?_)
            intro va5 vc5 w5 r5 hR5 hg5 hq5 hz5
            have M5 : Mod (fun q => Value.ownBlock (.slice ua Y.length uc) = some q) w2 w5 := ((Mod.refl _ _).alloc _).grown hg5 (fun q hq _ => hq)
            have hsz : (w2.alloc (.cells #[.int .u64 xr, .int .u64 xe] 102)).heap.size = w2.heap.size + 1 := by simp
            have O5 := Lib.hid (X2.out.mod' M5 (fun q hq e => hS.out q hq e))
            have K5 := Lib.hid (K2.out.keep hbl HV1.out M5 (fun q hq => hAY.out q hq))
            have A5 : Hid (AP w us k (.slice va5 (Y ++ [(⟨xr, xe⟩ : Rt)]).length vc5)) := by
              rw [List.length_append, List.length_singleton]
              exact ap_new hR5 hq5 (fun q => w.heap.size ≤ q ∧ ∀ i, i < k → (us i).ownBlock ≠ some q) hAY.out ⟨by omega, fun i hi e => by have := (K2.out.new i hi).lt e; omega⟩
            have S5 : Hid (∀ q, Value.ownBlock (.slice va5 (Y ++ [(⟨xr, xe⟩ : Rt)]).length vc5) = some q → Value.ownBlock (.slice va X.length vc) ≠ some q) := by
              rw [List.length_append, List.length_singleton]
              exact ap_new hR5 hq5 (fun q => Value.ownBlock (.slice va X.length vc) ≠ some q) (fun q hq e => hS.out q e hq) (fun e => by have := (World.ownsRow.lt X2.out.1 _ e).2; omega)
            have R5 : Hid (RowOf retR 102 w5 w.heap.size r5 (.slice va5 (Y ++ [(⟨xr, xe⟩ : Rt)]).length vc5) (Y ++ [(⟨xr, xe⟩ : Rt)])) := by
              rw [List.length_append, List.length_singleton]; exact hR5
            have hl5 : Y.length + 1 = (Y ++ [(⟨xr, xe⟩ : Rt)]).length := by simp
            clear hR5 hg5 hq5 hz5 M5 hsz X2 Y2 K2 C2 Q2 hX hY hK hAX hAY hS c0 c1
            go_wp2_with fail
            go_roundw
            case rel => exact ⟨j + 1, X, Y ++ [(⟨xr, xe⟩ : Rt)], va, vc, r, va5, vc5, r5, by omega, by go_num, rfl, by rw [hl5], HX1, HY1, O5, R5, hAX2, A5, Lib.hid (fun q h1 h2 => S5.out q h2 h1), K5⟩
            case measure => simp [intOf]; omega
        · have hjl : lk.take j = lk := List.take_of_length_le (by omega)
          have FX : Hid (X = catL (fun i => (ls i).filter rp) (k + 1)) := by show _ = _; rw [hXe.out, hjl, HLN.out]
          have RLY : RL wr (.slice ua Y.length uc) ((ls k).filter (fun x => !rp x)) := by
            have e : (ls k).filter (fun x => !rp x) = Y := by rw [hYe.out, hjl, HLS.out]
            rw [e]
            exact ⟨r2, hY.out.lower (Nat.zero_le _)⟩
          have K1 := Lib.hid (hK.out.next hlt hbl RLY hAY.out HV.out)
          have ho : Only b wr (wr.setCell ⟨b, k, none⟩ (.slice ua Y.length uc)) := (Only.refl b wr).set k _
          have X1 := Lib.hid (hX.out.mod' ho.mod (fun q hq e => by have := (hAX.out q hq).1; omega))
          have A1 : Hid (AP w (updv us k (.slice ua Y.length uc)) (k + 1) (.slice va X.length vc)) := fun q hq => ⟨(hAX.out q hq).1, fun i hi e => by
            unfold updv at e
            by_cases h : i = k
            · rw [if_pos h] at e; exact hS.out q hq e
            · rw [if_neg h] at e; exact (hAX.out q hq).2 i (by omega) e⟩
          have CB : wr.cell? ⟨b, k, none⟩ = some (selv vs us k k) := by
            rw [hK.out.blk.cell]
            have : k = 0 ∨ k = 1 ∨ k = 2 := by omega
            rcases this with rfl | rfl | rfl <;> rfl
          have FB := hK.out.blk.frozen k
          rw [FX.out] at X1 A1
          have HX2 := FX
          clear hjl RLY ho hX hY hK hAX hAY hS
          generalize selv vs us k k = old at *
          go_wp2_with fail
          go_roundw
          case rel =>
            rw [FX.out]
            exact ⟨k + 1, va, vc, r, _, by omega, by go_num, rfl, X1, A1, K1⟩
          case measure => simp [intOf]; omega
    · have hk3 : k = 3 := by omega
      subst hk3
      go_wp2_with fail
      go_ret
      exact ⟨va, vc, r, us, rfl, hO.out, hA.out, hK.out⟩
end Go.Proofs.Ytgkobmmannkegaa
