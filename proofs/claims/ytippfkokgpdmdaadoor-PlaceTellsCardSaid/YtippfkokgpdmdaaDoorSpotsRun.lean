/-
  place.spots: the function that is ranged over keeps its promise: every spot of the plan, in the order of the places.
-/
import Derived.Test.YtippfkokgpdmdaaDoorSpotsIter
import Derived.Sort.CutIn
import Derived.Great.Walk
namespace Go.Proofs.YtippfkokgpdmdaaDoor
open Go Go.RowKit Go.Shelf
set_option linter.unusedVariables false

attribute [local go_sem] Oper.semAt_some
def Rv (val : Nat → Value) (j : Nat) (_ : World) (v : Value) : Prop := v = val j
def val10 (wz pb q T j0 t0 : Nat) : Nat → Value
  | 0 => .func (.func 73) #[] #[.pointer (some ⟨wz + 1, 0, none⟩), .pointer (some ⟨wz, 0, none⟩)]
  | 1 => .int .i64 (q : Int)
  | 2 => .pointer (some ⟨pb, 0, none⟩)
  | 3 => .int .i64 (T : Int)
  | 4 => .int .i64 (j0 : Int)
  | 5 => .int .i64 (5 + (j0 : Int))
  | 6 => .int .i64 (q : Int)
  | 7 => .pointer (some ⟨pb, 0, none⟩)
  | 8 => .int .i64 (T : Int)
  | 9 => .int .i64 (t0 : Int)
  | 10 => .agg #[.int .i64 (5 + (j0 : Int)), .int .i64 (t0 : Int), .int .i64 0]
  | _ => undef
def val20 (pb q L r0 i0 : Nat) : Nat → Value
  | 0 => .int .i64 (q : Int)
  | 1 => .pointer (some ⟨pb, 2, none⟩)
  | 2 => .int .i64 (L : Int)
  | 3 => .int .i64 (6 + (L : Int))
  | 4 => .int .i64 (r0 : Int)
  | 5 => .int .i64 (9 + (r0 : Int))
  | 6 => .int .i64 (q : Int)
  | 7 => .pointer (some ⟨pb, 2, none⟩)
  | 8 => .int .i64 (L : Int)
  | 9 => .int .i64 (6 + (L : Int))
  | 10 => .int .i64 (i0 : Int)
  | 11 => .int .i64 (1 + (i0 : Int))
  | 12 => .agg #[.int .i64 (9 + (r0 : Int)), .int .i64 (1 + (i0 : Int)), .int .i64 0]
  | _ => undef
def R20 (B : Nat) (val : Nat → Value) (j : Nat) (w : World) (v : Value) : Prop :=
  if j = 13 then ∃ b, v = .pointer (some ⟨b, 0, none⟩) ∧ B ≤ b ∧ Blk w b [.int .i64 0, .int .i64 0, .int .i64 0] 36 else v = val j
theorem R20.mono {B : Nat} {val : Nat → Value} {j : Nat} {w w' : World} {v : Value} (h : R20 B val j w v) (hb : Below w.heap.size w w') : R20 B val j w' v := by
  unfold R20 at h ⊢
  split
  · rename_i hj
    rw [if_pos hj] at h
    obtain ⟨b, h1, h2, h3⟩ := h
    exact ⟨b, h1, h2, h3.below' hb⟩
  · rename_i hj
    rw [if_neg hj] at h
    exact h
theorem tell_step {n l b tb pb N : Nat} {T L : Nat} {S G : Int} {J Jx : List Nat → Option (Nat × Nat × Nat) → World → Prop} {W : World}
    (hJ : ∀ pre s s' W1 W2, J pre s W1 → Mod (spotOwn s) W1 W2 → (∀ k, spotOwn s' k → spotOwn s k ∨ W1.heap.size ≤ k) → J pre s' W2)
    (hY : ∀ pre x rest s W1, List.range N = pre ++ x :: rest → J pre s W1 → SpotSt T S L G pb (pre ++ [x]) s W1 → YieldAt Fence.wide (n - 1) Tryd.prog l (spotEnc T L x) W1 fun e W' =>
      (e = .returned (.bool true) ∧ J (pre ++ [x]) s W' ∧ SpotSt T S L G pb (pre ++ [x]) s W') ∨ (e = .returned (.bool false) ∧ Jx (pre ++ [x]) s W'))
    (m i : Nat) (hi : i < N) (hN : N < 100000) (h1 : J (List.range i) (some (b, tb, l)) W) (h2 : SpotSt T S L G pb (List.range i) (some (b, tb, l)) W) (x y z : Int) (hx : spotAt T L i = (x, y, z)) (hpb : pb ≠ b) :
    CallsIn Fence.wide m Tryd.prog 73 #[.agg #[.int .i64 x, .int .i64 y, .int .i64 z], .pointer (some ⟨b, 0, none⟩), .pointer (some ⟨tb, 0, none⟩)] W fun e W' => ∃ r, e = .returned (.bool r) ∧
      ((r = true ∧ J (List.range (i + 1)) (some (b, tb, l)) W' ∧ SpotSt T S L G pb (List.range (i + 1)) (some (b, tb, l)) W') ∨ (r = false ∧ ∃ pre, pre <+: List.range N ∧ Jx pre (some (b, tb, l)) W')) := by
  obtain ⟨rest, hr⟩ := range_split hi
  have hb := h2.2.1
  rw [List.length_range] at hb
  refine tell_in m l b tb i x y z W (fun r W' => (r = true ∧ J (List.range (i + 1)) (some (b, tb, l)) W' ∧ SpotSt T S L G pb (List.range (i + 1)) (some (b, tb, l)) W') ∨ (r = false ∧ ∃ pre, pre <+: List.range N ∧ Jx pre (some (b, tb, l)) W')) hb h2.2.2 (by omega) ?_
  intro W2 hm hb2 ht2
  have J2 := hJ _ (some (b, tb, l)) (some (b, tb, l)) _ W2 h1 hm (fun k hk => .inl hk)
  have e1 : List.range (i + 1) = List.range i ++ [i] := List.range_succ
  have K2 : SpotSt T S L G pb (List.range i ++ [i]) (some (b, tb, l)) W2 := ⟨hm.blk h2.1 hpb, by rw [← e1, List.length_range]; exact hb2, ht2⟩
  have := hY _ _ _ _ _ hr J2 K2
  unfold spotEnc spotV at this
  rw [hx] at this
  refine (YieldAt.any this).mono ?_
  rintro e W' (⟨rfl, q1, q2⟩ | ⟨rfl, q⟩)
  · exact ⟨true, rfl, .inl ⟨rfl, by rw [e1]; exact q1, by rw [e1]; exact q2⟩⟩
  · exact ⟨false, rfl, .inr ⟨rfl, _, ⟨rest, by rw [hr]; simp⟩, q⟩⟩
set_option maxHeartbeats 40000000 in
set_option maxRecDepth 100000 in
theorem spots_iter (T S L : Nat) (G : Int) (pb : Nat) (hT : 1 ≤ T ∧ T ≤ 8) (hS : 1 ≤ S ∧ S ≤ 64) (hL : 1 ≤ L ∧ L ≤ 8) (n : Nat) :
    SeqTask Fence.wide n Tryd.prog 72 #[.pointer (some ⟨pb, 0, none⟩)] (spotEnc T L) spotOwn (SpotSt T S L G pb) (List.range (lenP T S L)) := by
  intro l J Jx s0 W hJ hY h0 hk0
  have HJ := Lib.hid hJ
  have HY := Lib.hid hY
  have hNb : lenP T S L < 100000 := by
    unfold lenP
    have : S * (6 + L) ≤ 64 * 14 := Nat.mul_le_mul hS.2 (by omega)
    omega
  obtain ⟨N, hN⟩ : ∃ N, lenP T S L = N := ⟨_, rfl⟩
  have HN := Lib.hid hN
  have lp := hk0.1.lt
  have P2 := (hk0.1.alloc (.cells #[.func (.yield l) #[] #[]] 91)).alloc (.cells #[.int .i64 0] 3)
  have b2 : Below W.heap.size W ((W.alloc (.cells #[.func (.yield l) #[] #[]] 91)).alloc (.cells #[.int .i64 0] 3)) := ((Below.refl _ _).alloc (Nat.le_refl _) _).alloc (by simp) _
  have Y2 := (Blk.new W [.func (.yield l) #[] #[]] 91).alloc (.cells #[.int .i64 0] 3)
  have A2 := Blk.new2 W (.cells #[.func (.yield l) #[] #[]] 91) [.int .i64 0] 3
  have J2 := Lib.hid (hJ [] s0 (some (W.heap.size + 1, W.heap.size, l)) W _ h0 (Mod.of_below b2) (fun k hk => .inr (by have : k = W.heap.size + 1 := hk; omega)))
  have K2 : Hid (SpotSt T S L G pb [] (some (W.heap.size + 1, W.heap.size, l)) ((W.alloc (.cells #[.func (.yield l) #[] #[]] 91)).alloc (.cells #[.int .i64 0] 3))) := ⟨P2, A2, Y2⟩
  have hpb : pb ≠ W.heap.size + 1 := by omega
  clear hJ hY h0 hk0 P2 b2 Y2 A2 hN
  refine callsIn_of_wp Tryd.func72 rfl trivial ?_ rfl
  simp only [Tryd.ntmps72, List.size_toArray, List.length_cons, List.length_nil, Nat.reduceAdd, Nat.reduceSub, Array.replicate_succ, Array.replicate_zero, List.push_toArray, List.append_toArray, List.nil_append, List.cons_append]
  gi_wp2
  gi_loopw [5] (fun v wr => ∃ i : Nat, v = .int .i64 ((i : Int) + 1) ∧ i ≤ 4 ∧ Hid (J (List.range i) (some (W.heap.size + 1, W.heap.size, l)) wr) ∧ Hid (SpotSt T S L G pb (List.range i) (some (W.heap.size + 1, W.heap.size, l)) wr)) (fun v _ => 5 - (intOf v).toNat)
  case atStart => exact ⟨0, rfl, by omega, J2, K2⟩
  case round =>
    obtain ⟨i, rfl, hi, hj, hs⟩ := hrel
    clear J2 K2
    by_cases hlt : i < 4
    · have d1 : decide ((i : Int) + 1 ≤ 4) = true := by simp; omega
      have TS := Lib.hid (fun m => tell_step (m := m) HJ.out HY.out i (by unfold lenP; omega) hNb hj.out hs.out ((i : Int) + 1) 0 0 (spot_low hlt) hpb)
      gi_wp2
      refine ⟨trivial, (by intro h; cases h), (TS.out _).mono ?_⟩
      rintro e w6 ⟨r, rfl, (⟨rfl, hJ6, hK6⟩ | ⟨rfl, pre, hpre, hx⟩)⟩
      · have J6 := Lib.hid hJ6
        have K6 := Lib.hid hK6
        have hw : IntKind.i64.wrap ((i : Int) + 1 + 1) = (i : Int) + 1 + 1 := by rw [IntKind.wrap_i64]; omega
        clear hJ6 hK6 TS
        gi_wp2
        go_roundw
        case rel => exact ⟨i + 1, by first | go_num | (simp; done), by omega, J6, K6⟩
        case measure => simp [intOf]; omega
      · have HX := Lib.hid hx
        clear hx TS
        gi_wp2
        refine bodyPost_ret (results_none rfl _ _ _) rfl ?_
        exact ⟨⟨_, rfl⟩, .inr ⟨pre, _, hpre, HX.out⟩⟩
    · have d1 : decide ((i : Int) + 1 ≤ 4) = false := by simp; omega
      have H4 : Hid (i = 4) := show i = 4 by omega
      clear hlt hi
      have CP := hs.out.1.cell
      have hw : IntKind.i64.wrap (3 * (T : Int)) = ((3 * T : Nat) : Int) := by rw [IntKind.wrap_i64]; omega
      have hw' : wrap64 (3 * (T : Int)) = ((3 * T : Nat) : Int) := by unfold wrap64; omega
      gi_wp2
      gi_loopw [23] (fun v wr => ∃ q : Nat, v = .int .i64 (q : Int) ∧ q ≤ 3 * T ∧ Hid (J (List.range (i + q)) (some (W.heap.size + 1, W.heap.size, l)) wr) ∧ Hid (SpotSt T S L G pb (List.range (i + q)) (some (W.heap.size + 1, W.heap.size, l)) wr)) (fun v _ => 3 * T - (intOf v).toNat)
      case atStart => exact ⟨0, rfl, by omega, hj, hs⟩
      case round =>
        obtain ⟨q, rfl, hq, hj2, hs2⟩ := hrel
        clear hj hs CP
        have CP := hs2.out.1.cell
        by_cases hlt2 : q < 3 * T
        · have d2 : decide ((q : Int) < 3 * (T : Int)) = true := by simp; omega
          obtain ⟨j0, hj0⟩ : ∃ j0, q / T = j0 := ⟨_, rfl⟩
          obtain ⟨t0, ht0⟩ : ∃ t0, q % T = t0 := ⟨_, rfl⟩
          have hj3 : j0 < 3 := by rw [← hj0, Nat.div_lt_iff_lt_mul hT.1]; omega
          have ht3 : t0 < T := by rw [← ht0]; exact Nat.mod_lt _ hT.1
          have hqe : q = j0 * T + t0 := by
            have := Nat.div_add_mod q T
            rw [hj0, ht0, Nat.mul_comm] at this
            exact this.symm
          have hspot := spot_thread (T := T) (L := L) hj3 ht3
          rw [← hqe, ← H4.out] at hspot
          have TS := Lib.hid (fun m => tell_step (m := m) HJ.out HY.out (i + q) (by have := H4.out; unfold lenP; omega) hNb (HJ.out _ _ _ _ _ hj2.out (Mod.refl _ _).drew (fun k h => .inl h)) (show SpotSt T S L G pb (List.range (i + q)) (some (W.heap.size + 1, W.heap.size, l)) wr.drew from hs2.out) _ _ _ hspot hpb)
          have hdiv : (q : Int).tdiv (T : Int) = (j0 : Int) := by rw [← hj0]; exact (Int.ofNat_tdiv q T).symm
          have hmod : (q : Int).tmod (T : Int) = (t0 : Int) := by rw [← ht0]; exact (Int.ofNat_tmod q T).symm
          have hTz : T ≠ 0 := by omega
          have hw5 : IntKind.i64.wrap (5 + (j0 : Int)) = 5 + (j0 : Int) := by rw [IntKind.wrap_i64]; omega
          have hw0 : IntKind.i64.wrap (j0 : Int) = (j0 : Int) := by rw [IntKind.wrap_i64]; omega
          have c0 := CP 0
          simp only [List.getElem?_cons_zero] at c0
          clear hj0 ht0 hqe hspot
          gi_wp2
          refine wpIn_region_robust_tail (C := fun w' => w' = wr.drew) (R := Rv (val10 W.heap.size pb q T j0 t0)) 11 (by kernel_rfl) (by kernel_rfl) rfl ?hstep ?hfin
          case hstep =>
            rintro j o A w' hjm ho rfl hdeps hext
            have dep := fun i oi d h1 h2 h3 => hdeps i oi d h1 (anyB_spec (i := i) h3) h2
            have x1 : A.eval (.tmp 1) = .pointer (some ⟨pb, 0, none⟩) := hext 1 (by decide)
            have y1 := get_of_eval x1 (by intro h; cases h)
            have x4 : A.eval (.tmp 4) = .func (.func 73) #[] #[.pointer (some ⟨W.heap.size + 1, 0, none⟩), .pointer (some ⟨W.heap.size, 0, none⟩)] := hext 4 (by decide)
            have y4 := get_of_eval x4 (by intro h; cases h)
            have x6 : A.eval (.tmp 6) = .int .i64 (q : Int) := hext 6 (by decide)
            have y6 := get_of_eval x6 (by intro h; cases h)
            clear hext hdeps
            rcases j with _ | _ | _ | _ | _ | _ | _ | _ | _ | _ | _ | j
            · have ho2 := ho
              simp at ho
              subst ho
              exact read_val ho2 (wanted_free rfl) (by intro c h; cases h) (v := .func (.func 73) #[] #[.pointer (some ⟨W.heap.size + 1, 0, none⟩), .pointer (some ⟨W.heap.size, 0, none⟩)]) (by simp [execOp, go_sem, y4]) rfl rfl
            · have ho2 := ho
              simp at ho
              subst ho
              exact read_val ho2 (wanted_free rfl) (by intro c h; cases h) (v := .int .i64 (q : Int)) (by simp [execOp, go_sem, y6]) rfl rfl
            · have ho2 := ho
              simp at ho
              subst ho
              exact read_val ho2 (wanted_free rfl) (by intro c h; cases h) (v := .pointer (some ⟨pb, 0, none⟩)) (by simp [execOp, go_sem, y1]) rfl rfl
            · have ho2 := ho
              simp at ho
              subst ho
              have s2 : A.eval (.tmp 28) = .pointer (some ⟨pb, 0, none⟩) := dep 2 _ 28 rfl rfl (by kernel_rfl)
              have t2 := get_of_eval s2 (by intro h; cases h)
              exact read_val ho2 (wanted_free rfl) (by intro c h; cases h) (v := .int .i64 (T : Int)) (by simp [execOp, go_sem, t2, c0]) rfl rfl
            · have ho2 := ho
              simp at ho
              subst ho
              have s1 : A.eval (.tmp 27) = .int .i64 (q : Int) := dep 1 _ 27 rfl rfl (by kernel_rfl)
              have t1 := get_of_eval s1 (by intro h; cases h)
              have s3 : A.eval (.tmp 29) = .int .i64 (T : Int) := dep 3 _ 29 rfl rfl (by kernel_rfl)
              have t3 := get_of_eval s3 (by intro h; cases h)
              exact read_val ho2 (wanted_free rfl) (by intro c h; cases h) (v := .int .i64 (j0 : Int)) (by simp [execOp, go_sem, t1, t3, hTz, hdiv, hw0]) rfl rfl
            · have ho2 := ho
              simp at ho
              subst ho
              have s4 : A.eval (.tmp 30) = .int .i64 (j0 : Int) := dep 4 _ 30 rfl rfl (by kernel_rfl)
              have t4 := get_of_eval s4 (by intro h; cases h)
              exact read_val ho2 (wanted_free rfl) (by intro c h; cases h) (v := .int .i64 (5 + (j0 : Int))) (by simp [execOp, go_sem, t4, hw5]) rfl rfl
            · have ho2 := ho
              simp at ho
              subst ho
              exact read_val ho2 (wanted_free rfl) (by intro c h; cases h) (v := .int .i64 (q : Int)) (by simp [execOp, go_sem, y6]) rfl rfl
            · have ho2 := ho
              simp at ho
              subst ho
              exact read_val ho2 (wanted_free rfl) (by intro c h; cases h) (v := .pointer (some ⟨pb, 0, none⟩)) (by simp [execOp, go_sem, y1]) rfl rfl
            · have ho2 := ho
              simp at ho
              subst ho
              have s7 : A.eval (.tmp 33) = .pointer (some ⟨pb, 0, none⟩) := dep 7 _ 33 rfl rfl (by kernel_rfl)
              have t7 := get_of_eval s7 (by intro h; cases h)
              exact read_val ho2 (wanted_free rfl) (by intro c h; cases h) (v := .int .i64 (T : Int)) (by simp [execOp, go_sem, t7, c0]) rfl rfl
            · have ho2 := ho
              simp at ho
              subst ho
              have s6 : A.eval (.tmp 32) = .int .i64 (q : Int) := dep 6 _ 32 rfl rfl (by kernel_rfl)
              have t6 := get_of_eval s6 (by intro h; cases h)
              have s8 : A.eval (.tmp 34) = .int .i64 (T : Int) := dep 8 _ 34 rfl rfl (by kernel_rfl)
              have t8 := get_of_eval s8 (by intro h; cases h)
              exact read_val ho2 (wanted_free rfl) (by intro c h; cases h) (v := .int .i64 (t0 : Int)) (by simp [execOp, go_sem, t6, t8, hTz, hmod]) rfl rfl
            · have ho2 := ho
              simp at ho
              subst ho
              have s5 : A.eval (.tmp 31) = .int .i64 (5 + (j0 : Int)) := dep 5 _ 31 rfl rfl (by kernel_rfl)
              have t5 := get_of_eval s5 (by intro h; cases h)
              have s9 : A.eval (.tmp 35) = .int .i64 (t0 : Int) := dep 9 _ 35 rfl rfl (by kernel_rfl)
              have t9 := get_of_eval s9 (by intro h; cases h)
              exact read_val ho2 (wanted_free rfl) (by intro c h; cases h) (v := .agg #[.int .i64 (5 + (j0 : Int)), .int .i64 (t0 : Int), .int .i64 0]) (by simp [execOp, go_sem, t5, t9]) rfl rfl
            · omega

          case hfin =>
            rintro vals w' rfl hR
            have v0 : vals 0 = _ := hR 0 (by decide)
            have v1 : vals 1 = _ := hR 1 (by decide)
            have v2 : vals 2 = _ := hR 2 (by decide)
            have v3 : vals 3 = _ := hR 3 (by decide)
            have v4 : vals 4 = _ := hR 4 (by decide)
            have v5 : vals 5 = _ := hR 5 (by decide)
            have v6 : vals 6 = _ := hR 6 (by decide)
            have v7 : vals 7 = _ := hR 7 (by decide)
            have v8 : vals 8 = _ := hR 8 (by decide)
            have v9 : vals 9 = _ := hR 9 (by decide)
            have v10 : vals 10 = _ := hR 10 (by decide)
            simp only [List.take_succ_cons, List.take_zero, List.drop_succ_cons, List.drop_zero, putAll, Act.put, List.setIfInBounds_toArray, List.set_cons_succ, List.set_cons_zero, v0, v1, v2, v3, v4, v5, v6, v7, v8, v9, v10, val10, Nat.zero_add, Nat.reduceAdd]
            clear v0 v1 v2 v3 v4 v5 v6 v7 v8 v9 v10 hR
            gi_wp2
            refine ⟨trivial, (by intro h; cases h), (TS.out _).mono ?_⟩
            rintro e w6 ⟨r, rfl, (⟨rfl, hJ6, hK6⟩ | ⟨rfl, pre, hpre, hx⟩)⟩
            · have J6 := Lib.hid hJ6
              have K6 := Lib.hid hK6
              have hw1 : IntKind.i64.wrap ((q : Int) + 1) = (q : Int) + 1 := by rw [IntKind.wrap_i64]; omega
              clear hJ6 hK6 TS CP c0
              gi_wp2
              go_roundw
              case rel => exact ⟨q + 1, by first | go_num | (simp; done), by omega, J6, K6⟩
              case measure => simp [intOf]; omega
            · have HX := Lib.hid hx
              clear hx TS CP c0
              gi_wp2
              refine bodyPost_ret (results_none rfl _ _ _) rfl ?_
              exact ⟨⟨_, rfl⟩, .inr ⟨pre, _, hpre, HX.out⟩⟩
        · have d2 : decide ((q : Int) < 3 * (T : Int)) = false := by simp; omega
          have H5 : Hid (i + q = 4 + 3 * T) := show i + q = 4 + 3 * T by have := H4.out; omega
          clear hlt2 hq
          gi_wp2
          gi_loopw [42] (fun v wr => ∃ h : Nat, v = .int .i64 (h : Int) ∧ h ≤ L ∧ Hid (J (List.range (i + q + h)) (some (W.heap.size + 1, W.heap.size, l)) wr) ∧ Hid (SpotSt T S L G pb (List.range (i + q + h)) (some (W.heap.size + 1, W.heap.size, l)) wr)) (fun v _ => L - (intOf v).toNat)
          case atStart => exact ⟨0, rfl, by omega, hj2, hs2⟩
          case round =>
            obtain ⟨h, rfl, hh, hj3, hs3⟩ := hrel
            clear hj2 hs2 CP
            have CP := hs3.out.1.cell
            by_cases hlt3 : h < L
            · have d3 : (h : Int) < (L : Int) := by omega
              have hsp := spot_head (T := T) hlt3
              rw [← H5.out] at hsp
              have TS := Lib.hid (fun m => tell_step (m := m) HJ.out HY.out (i + q + h) (by have := H5.out; unfold lenP; omega) hNb hj3.out hs3.out _ _ _ hsp hpb)
              gi_wp2
              refine ⟨trivial, (by intro h; cases h), (TS.out _).mono ?_⟩
              rintro e w6 ⟨r, rfl, (⟨rfl, hJ6, hK6⟩ | ⟨rfl, pre, hpre, hx⟩)⟩
              · have J6 := Lib.hid hJ6
                have K6 := Lib.hid hK6
                have hw1 : IntKind.i64.wrap ((h : Int) + 1) = (h : Int) + 1 := by rw [IntKind.wrap_i64]; omega
                clear hJ6 hK6 TS CP
                gi_wp2
                go_roundw
                case rel => exact ⟨h + 1, by first | go_num | (simp; done), by omega, J6, K6⟩
                case measure => simp [intOf]; omega
              · have HX := Lib.hid hx
                clear hx TS CP
                gi_wp2
                refine bodyPost_ret (results_none rfl _ _ _) rfl ?_
                exact ⟨⟨_, rfl⟩, .inr ⟨pre, _, hpre, HX.out⟩⟩
            · have d3 : ¬ (h : Int) < (L : Int) := by omega
              obtain rfl : h = L := by omega
              obtain ⟨M, hM⟩ : ∃ M, S * (6 + h) = M := ⟨_, rfl⟩
              have hMb : M ≤ 896 := by
                have : S * (6 + h) ≤ 64 * 14 := Nat.mul_le_mul hS.2 (by omega)
                omega
              have hMN : lenP T S h = 4 + 3 * T + h + M := by unfold lenP; rw [hM]
              have hw6 : IntKind.i64.wrap (6 + (h : Int)) = 6 + (h : Int) := by rw [IntKind.wrap_i64]; omega
              have hMi : (S : Int) * (6 + (h : Int)) = (M : Int) := by rw [← hM]; simp
              have hwM : IntKind.i64.wrap (M : Int) = (M : Int) := by rw [IntKind.wrap_i64]; omega
              have hwM2 : wrap64 (M : Int) = (M : Int) := by unfold wrap64; omega
              gi_wp2
              gi_loopw [57] (fun v wr => ∃ m : Nat, v = .int .i64 (m : Int) ∧ m ≤ M ∧ Hid (J (List.range (i + q + h + m)) (some (W.heap.size + 1, W.heap.size, l)) wr) ∧ Hid (SpotSt T S h G pb (List.range (i + q + h + m)) (some (W.heap.size + 1, W.heap.size, l)) wr)) (fun v _ => M - (intOf v).toNat)
              case atStart => exact ⟨0, rfl, Nat.zero_le _, hj3, hs3⟩
              case round =>
                clear hwM hwM2 hMi hw6
                obtain ⟨k, rfl, hk, hj4, hs4⟩ := hrel
                clear hj3 hs3 CP
                by_cases hlt4 : k < M
                · have d4 : (k : Int) < (M : Int) := Int.ofNat_lt.2 hlt4
                  obtain ⟨i0, hi0⟩ : ∃ i0, k / (6 + h) = i0 := ⟨_, rfl⟩
                  obtain ⟨r0, hr0⟩ : ∃ r0, k % (6 + h) = r0 := ⟨_, rfl⟩
                  have hrl : r0 < 6 + h := by rw [← hr0]; exact Nat.mod_lt _ (by omega)
                  have hil : i0 < S := by rw [← hi0, Nat.div_lt_iff_lt_mul (by omega), hM]; exact hlt4
                  have hke : k = i0 * (6 + h) + r0 := by
                    have := Nat.div_add_mod k (6 + h)
                    rw [hi0, hr0, Nat.mul_comm] at this
                    exact this.symm
                  have hsp := spot_slot (T := T) (i := i0) hrl
                  rw [← hke, ← H5.out] at hsp
                  have HSP := Lib.hid hsp
                  have hdiv : (k : Int).tdiv (6 + (h : Int)) = (i0 : Int) := by rw [← hi0, show (6 + (h : Int)) = ((6 + h : Nat) : Int) by omega]; exact (Int.ofNat_tdiv k (6 + h)).symm
                  have hmod : (k : Int).tmod (6 + (h : Int)) = (r0 : Int) := by rw [← hr0, show (6 + (h : Int)) = ((6 + h : Nat) : Int) by omega]; exact (Int.ofNat_tmod k (6 + h)).symm
                  have hLz : ¬ 6 + (h : Int) = 0 := by omega
                  have hw6 : IntKind.i64.wrap (6 + (h : Int)) = 6 + (h : Int) := by rw [IntKind.wrap_i64]; omega
                  have hwr : IntKind.i64.wrap (r0 : Int) = (r0 : Int) := by rw [IntKind.wrap_i64]; omega
                  have hwi : IntKind.i64.wrap (i0 : Int) = (i0 : Int) := by rw [IntKind.wrap_i64]; omega
                  have hw9 : IntKind.i64.wrap (9 + (r0 : Int)) = 9 + (r0 : Int) := by rw [IntKind.wrap_i64]; omega
                  have hw1 : IntKind.i64.wrap (1 + (i0 : Int)) = 1 + (i0 : Int) := by rw [IntKind.wrap_i64]; omega
                  have BP := Lib.hid hs4.out.1
                  clear hi0 hr0 hke hsp
                  gi_wp2
                  refine wpIn_region_robust_tail (C := fun w' => Below wr.heap.size wr w') (R := R20 wr.heap.size (val20 pb k h r0 i0)) 14 (by kernel_rfl) (by kernel_rfl) (Below.refl _ _).drew ?hstep ?hfin
                  case hstep =>
                    intro j o A w' hjm ho hC hdeps hext
                    have dep := fun i oi d h1 h2 h3 => hdeps i oi d h1 (anyB_spec (i := i) h3) h2
                    have x1 : A.eval (.tmp 1) = .pointer (some ⟨pb, 0, none⟩) := hext 1 (by decide)
                    have y1 := get_of_eval x1 (by intro h; cases h)
                    have x8 : A.eval (.tmp 8) = .int .i64 (k : Int) := hext 8 (by decide)
                    have y8 := get_of_eval x8 (by intro h; cases h)
                    have c2 := (BP.out.below' hC).cell 2
                    simp only [List.getElem?_cons_succ, List.getElem?_cons_zero] at c2
                    clear hext hdeps
                    rcases j with _ | _ | _ | _ | _ | _ | _ | _ | _ | _ | _ | _ | _ | _ | j
                    · have ho2 := ho
                      simp at ho
                      subst ho
                      exact read_val ho2 (wanted_free rfl) (by intro c h; cases h) (v := .int .i64 (k : Int)) (by simp [execOp, go_sem, y8]) rfl hC
                    · have ho2 := ho
                      simp at ho
                      subst ho
                      exact read_val ho2 (wanted_free rfl) (by intro c h; cases h) (v := .pointer (some ⟨pb, 2, none⟩)) (by simp [execOp, go_sem, y1]) rfl hC
                    · have ho2 := ho
                      simp at ho
                      subst ho
                      have s1 : A.eval (.tmp 61) = .pointer (some ⟨pb, 2, none⟩) := dep 1 _ 61 rfl rfl (by kernel_rfl)
                      have t1 := get_of_eval s1 (by intro h; cases h)
                      exact read_val ho2 (wanted_free rfl) (by intro c h; cases h) (v := .int .i64 (h : Int)) (by simp [execOp, go_sem, t1, c2]) rfl hC
                    · have ho2 := ho
                      simp at ho
                      subst ho
                      have s2 : A.eval (.tmp 62) = .int .i64 (h : Int) := dep 2 _ 62 rfl rfl (by kernel_rfl)
                      have t2 := get_of_eval s2 (by intro h; cases h)
                      exact read_val ho2 (wanted_free rfl) (by intro c h; cases h) (v := .int .i64 (6 + (h : Int))) (by simp [execOp, go_sem, t2, hw6]) rfl hC
                    · have ho2 := ho
                      simp at ho
                      subst ho
                      have s0 : A.eval (.tmp 60) = .int .i64 (k : Int) := dep 0 _ 60 rfl rfl (by kernel_rfl)
                      have t0 := get_of_eval s0 (by intro h; cases h)
                      have s3 : A.eval (.tmp 63) = .int .i64 (6 + (h : Int)) := dep 3 _ 63 rfl rfl (by kernel_rfl)
                      have t3 := get_of_eval s3 (by intro h; cases h)
                      exact read_val ho2 (wanted_free rfl) (by intro c h; cases h) (v := .int .i64 (r0 : Int)) (by simp [execOp, go_sem, t0, t3, hLz, hmod]) rfl hC
                    · have ho2 := ho
                      simp at ho
                      subst ho
                      have s4 : A.eval (.tmp 64) = .int .i64 (r0 : Int) := dep 4 _ 64 rfl rfl (by kernel_rfl)
                      have t4 := get_of_eval s4 (by intro h; cases h)
                      exact read_val ho2 (wanted_free rfl) (by intro c h; cases h) (v := .int .i64 (9 + (r0 : Int))) (by simp [execOp, go_sem, t4, hw9]) rfl hC
                    · have ho2 := ho
                      simp at ho
                      subst ho
                      exact read_val ho2 (wanted_free rfl) (by intro c h; cases h) (v := .int .i64 (k : Int)) (by simp [execOp, go_sem, y8]) rfl hC
                    · have ho2 := ho
                      simp at ho
                      subst ho
                      exact read_val ho2 (wanted_free rfl) (by intro c h; cases h) (v := .pointer (some ⟨pb, 2, none⟩)) (by simp [execOp, go_sem, y1]) rfl hC
                    · have ho2 := ho
                      simp at ho
                      subst ho
                      have s7 : A.eval (.tmp 67) = .pointer (some ⟨pb, 2, none⟩) := dep 7 _ 67 rfl rfl (by kernel_rfl)
                      have t7 := get_of_eval s7 (by intro h; cases h)
                      exact read_val ho2 (wanted_free rfl) (by intro c h; cases h) (v := .int .i64 (h : Int)) (by simp [execOp, go_sem, t7, c2]) rfl hC
                    · have ho2 := ho
                      simp at ho
                      subst ho
                      have s8 : A.eval (.tmp 68) = .int .i64 (h : Int) := dep 8 _ 68 rfl rfl (by kernel_rfl)
                      have t8 := get_of_eval s8 (by intro h; cases h)
                      exact read_val ho2 (wanted_free rfl) (by intro c h; cases h) (v := .int .i64 (6 + (h : Int))) (by simp [execOp, go_sem, t8, hw6]) rfl hC
                    · have ho2 := ho
                      simp at ho
                      subst ho
                      have s6 : A.eval (.tmp 66) = .int .i64 (k : Int) := dep 6 _ 66 rfl rfl (by kernel_rfl)
                      have t6 := get_of_eval s6 (by intro h; cases h)
                      have s9 : A.eval (.tmp 69) = .int .i64 (6 + (h : Int)) := dep 9 _ 69 rfl rfl (by kernel_rfl)
                      have t9 := get_of_eval s9 (by intro h; cases h)
                      exact read_val ho2 (wanted_free rfl) (by intro c h; cases h) (v := .int .i64 (i0 : Int)) (by simp [execOp, go_sem, t6, t9, hLz, hdiv, hwi]) rfl hC
                    · have ho2 := ho
                      simp at ho
                      subst ho
                      have s10 : A.eval (.tmp 70) = .int .i64 (i0 : Int) := dep 10 _ 70 rfl rfl (by kernel_rfl)
                      have t10 := get_of_eval s10 (by intro h; cases h)
                      exact read_val ho2 (wanted_free rfl) (by intro c h; cases h) (v := .int .i64 (1 + (i0 : Int))) (by simp [execOp, go_sem, t10, hw1]) rfl hC
                    · have ho2 := ho
                      simp at ho
                      subst ho
                      have s5 : A.eval (.tmp 65) = .int .i64 (9 + (r0 : Int)) := dep 5 _ 65 rfl rfl (by kernel_rfl)
                      have t5 := get_of_eval s5 (by intro h; cases h)
                      have s11 : A.eval (.tmp 71) = .int .i64 (1 + (i0 : Int)) := dep 11 _ 71 rfl rfl (by kernel_rfl)
                      have t11 := get_of_eval s11 (by intro h; cases h)
                      exact read_val ho2 (wanted_free rfl) (by intro c h; cases h) (v := .agg #[.int .i64 (9 + (r0 : Int)), .int .i64 (1 + (i0 : Int)), .int .i64 0]) (by simp [execOp, go_sem, t5, t11]) rfl hC
                    · have ho2 := ho
                      simp at ho
                      subst ho
                      refine make_val ho2 (wanted_free rfl) (by intro c h; cases h) (v := .pointer (some ⟨w'.heap.size, 0, none⟩)) (w' := w'.alloc (.cells #[.int .i64 0, .int .i64 0, .int .i64 0] 36)) (by simp [execOp, go_sem]) ?_ (hC.alloc hC.size _) ?_
                      · exact ⟨w'.heap.size, rfl, hC.size, Blk.new w' [.int .i64 0, .int .i64 0, .int .i64 0] 36⟩
                      · intro i u h
                        exact h.mono ((Below.refl _ _).alloc (Nat.le_refl _) _)
                    · omega

                  case hfin =>
                    intro vals w' hC hR
                    have v0 : vals 0 = _ := hR 0 (by decide)
                    have v1 : vals 1 = _ := hR 1 (by decide)
                    have v2 : vals 2 = _ := hR 2 (by decide)
                    have v3 : vals 3 = _ := hR 3 (by decide)
                    have v4 : vals 4 = _ := hR 4 (by decide)
                    have v5 : vals 5 = _ := hR 5 (by decide)
                    have v6 : vals 6 = _ := hR 6 (by decide)
                    have v7 : vals 7 = _ := hR 7 (by decide)
                    have v8 : vals 8 = _ := hR 8 (by decide)
                    have v9 : vals 9 = _ := hR 9 (by decide)
                    have v10 : vals 10 = _ := hR 10 (by decide)
                    have v11 : vals 11 = _ := hR 11 (by decide)
                    have v12 : vals 12 = _ := hR 12 (by decide)
                    obtain ⟨b, v13, hbz, hB⟩ := (show ∃ b, vals 13 = .pointer (some ⟨b, 0, none⟩) ∧ wr.heap.size ≤ b ∧ Blk w' b [.int .i64 0, .int .i64 0, .int .i64 0] 36 from hR 13 (by decide))
                    simp only [List.take_succ_cons, List.take_zero, List.drop_succ_cons, List.drop_zero, putAll, Act.put, List.setIfInBounds_toArray, List.set_cons_succ, List.set_cons_zero, v0, v1, v2, v3, v4, v5, v6, v7, v8, v9, v10, v11, v12, v13, val20, Nat.zero_add, Nat.reduceAdd]
                    clear v0 v1 v2 v3 v4 v5 v6 v7 v8 v9 v10 v11 v12 v13 hR
                    have C1 := hB.cell
                    have F1 := hB.frozen
                    clear hh hlt3 d3 hdiv hmod hwr hwi hw9 hw1 hw6 hLz
                    have HMN := Lib.hid hMN
                    clear hMN hM hMb
                    obtain ⟨a9, ha9⟩ : ∃ a9 : Int, 9 + (r0 : Int) = a9 := ⟨_, rfl⟩
                    obtain ⟨e1, he1⟩ : ∃ e1 : Int, 1 + (i0 : Int) = e1 := ⟨_, rfl⟩
                    rw [ha9, he1]
                    rw [he1, ha9] at HSP
                    by_cases hr6 : r0 ≤ 6
                    · have d5 : decide (15 < a9) = false := by simp; omega
                      have HSQ : Hid (spotAt T h (i + q + h + k) = (a9, e1, 0)) := by
                        show _ = _
                        rw [HSP.out]
                        split
                        · rfl
                        · rw [show r0 - 6 = 0 by omega, show a9 = 15 by omega]; rfl
                      have H0 : Hid (0 ≤ i0 ∧ 0 ≤ r0) := ⟨Nat.zero_le _, Nat.zero_le _⟩
                      clear ha9 he1 hr6 HSP hrl hil
                      have hb2 := ((hC.setCell (p := ⟨b, 0, none⟩) hbz (.int .i64 a9)).setCell (p := ⟨b, 1, none⟩) hbz (.int .i64 e1)).setCell (p := ⟨b, 2, none⟩) hbz (.int .i64 0)
                      have hJ5 := HJ.out _ _ (some (W.heap.size + 1, W.heap.size, l)) _ _ hj4.out (Mod.of_below hb2) (fun k h => .inl h)
                      have hK5 := hs4.out.below hb2
                      have TS := Lib.hid (fun m => tell_step (m := m) HJ.out HY.out (i + q + h + k) (by have := H5.out; rw [HMN.out]; omega) hNb hJ5 hK5 _ _ _ HSQ.out hpb)
                      clear hJ5 hK5
                      gi_wp2
                      refine ⟨trivial, (by intro h; cases h), (TS.out _).mono ?_⟩
                      rintro e w6 ⟨r, rfl, (⟨rfl, hJ6, hK6⟩ | ⟨rfl, pre, hpre, hx⟩)⟩
                      · have J6 := Lib.hid hJ6
                        have K6 := Lib.hid hK6
                        have hw1 : IntKind.i64.wrap ((k : Int) + 1) = (k : Int) + 1 := by
                          have : k < 100000 := by have := HMN.out; omega
                          rw [IntKind.wrap_i64]; omega
                        clear hJ6 hK6 TS C1 F1 hB hC hb2
                        gi_wp2
                        go_roundw
                        case rel => exact ⟨k + 1, by first | go_num | (simp; done), hlt4, J6, K6⟩
                        case measure => simp [intOf]; omega
                      · have HX := Lib.hid hx
                        clear hx TS C1 F1 hB hC hb2
                        gi_wp2
                        refine bodyPost_ret (results_none rfl _ _ _) rfl ?_
                        exact ⟨⟨_, rfl⟩, .inr ⟨pre, _, hpre, HX.out⟩⟩
                    · have d5 : decide (15 < a9) = true := by simp; omega
                      obtain ⟨lv, hlv⟩ : ∃ lv : Int, lv = ((r0 - 6 : Nat) : Int) := ⟨_, rfl⟩
                      have hw5 : IntKind.i64.wrap (a9 - 15) = lv := by rw [IntKind.wrap_i64]; omega
                      have hw7 : wrap64 (a9 - 15) = lv := by unfold wrap64; omega
                      have HSQ : Hid (spotAt T h (i + q + h + k) = (15, e1, lv)) := by
                        show _ = _
                        rw [HSP.out, if_neg (by omega), hlv]
                      clear ha9 he1 hr6 HSP hrl hil hlv
                      have hB2 := hB.set3 (.int .i64 a9) (.int .i64 e1) (.int .i64 0)
                      have hb2 := ((hC.setCell (p := ⟨b, 0, none⟩) hbz (.int .i64 a9)).setCell (p := ⟨b, 1, none⟩) hbz (.int .i64 e1)).setCell (p := ⟨b, 2, none⟩) hbz (.int .i64 0)
                      gi_upto_region 22 with fail
                      generalize ((w'.setCell ⟨b, 0, none⟩ (.int .i64 a9)).setCell ⟨b, 1, none⟩ (.int .i64 e1)).setCell ⟨b, 2, none⟩ (.int .i64 0) = w3 at *
                      have C3 := hB2.cell
                      have F3 := hB2.frozen
                      clear C1 F1 hB hC
                      have hB4 := (hB2.set 0 (.int .i64 15)).set 2 (.int .i64 lv)
                      have hb4 := (hb2.setCell (p := ⟨b, 0, none⟩) hbz (.int .i64 15)).setCell (p := ⟨b, 2, none⟩) hbz (.int .i64 lv)
                      gi_upto_region 23 with fail
                      generalize (w3.setCell ⟨b, 0, none⟩ (.int .i64 15)).setCell ⟨b, 2, none⟩ (.int .i64 lv) = w4 at *
                      have C4 := hB4.cell
                      simp only [List.set_cons_zero, List.set_cons_succ] at C4
                      clear C3 F3 hB2 hb2 hB4
                      have hJ5 := HJ.out _ _ (some (W.heap.size + 1, W.heap.size, l)) _ _ hj4.out (Mod.of_below hb4) (fun k h => .inl h)
                      have hK5 := hs4.out.below hb4
                      have TS := Lib.hid (fun m => tell_step (m := m) HJ.out HY.out (i + q + h + k) (by have := H5.out; rw [HMN.out]; omega) hNb hJ5 hK5 _ _ _ HSQ.out hpb)
                      clear hJ5 hK5
                      gi_wp2
                      refine ⟨trivial, (by intro h; cases h), (TS.out _).mono ?_⟩
                      rintro e w6 ⟨r, rfl, (⟨rfl, hJ6, hK6⟩ | ⟨rfl, pre, hpre, hx⟩)⟩
                      · have J6 := Lib.hid hJ6
                        have K6 := Lib.hid hK6
                        have hw1 : IntKind.i64.wrap ((k : Int) + 1) = (k : Int) + 1 := by
                          have : k < 100000 := by have := HMN.out; omega
                          rw [IntKind.wrap_i64]; omega
                        clear hJ6 hK6 TS C4 hb4
                        gi_wp2
                        go_roundw
                        case rel => exact ⟨k + 1, by first | go_num | (simp; done), hlt4, J6, K6⟩
                        case measure => simp [intOf]; omega
                      · have HX := Lib.hid hx
                        clear hx TS C4 hb4
                        gi_wp2
                        refine bodyPost_ret (results_none rfl _ _ _) rfl ?_
                        exact ⟨⟨_, rfl⟩, .inr ⟨pre, _, hpre, HX.out⟩⟩
                · have d4 : ¬ (k : Int) < (M : Int) := fun h => hlt4 (Int.ofNat_lt.1 h)
                  have HE : Hid (i + q + h + k = lenP T S h) := by
                    have := H5.out
                    show _ = _
                    rw [hMN]; omega
                  rw [HE.out] at hj4 hs4
                  clear hh hlt3 d3 hMN hM hMb hlt4
                  gi_wp2
                  refine Go.Great.bodyPost_end0 rfl rfl ?_
                  exact ⟨⟨_, rfl⟩, .inl ⟨_, hj4.out, hs4.out⟩⟩
end Go.Proofs.YtippfkokgpdmdaaDoor
