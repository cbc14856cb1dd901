/-
  Steps (chapter 11): the function that is ranged over keeps its promise.
-/
import Derived.Test.YtgkobmmannkegaaSteps
namespace Go.Proofs.Ytgkobmmannkegaa
open Go Go.RowKit Go.Shelf
set_option linter.unusedVariables false

attribute [local go_sem] Oper.semAt_some
@[go_sem ↓] theorem run_method_next (a : Option Addr) (W : World) (k : TypeId) (hk : k = 336) : (method k 73 (.pointer a) "Next").run Try.prog W = .ok (86, .pointer a) W := by subst hk; kernel_rfl
@[go_sem ↓] theorem run_method_tell (a : Option Addr) (W : World) (k : TypeId) (hk : k = 336) : (method k 73 (.pointer a) "Tell").run Try.prog W = .ok (87, .pointer a) W := by subst hk; kernel_rfl
set_option maxHeartbeats 4000000 in
set_option maxRecDepth 100000 in
theorem steps_iter (p : At) (ds : List D) (ws : List Int) (hp : p.apart) (hds : ds.length ≤ 60000) (n : Nat) (hn : 1 ≤ n) :
    SeqTask Fence.wide n Try.prog 182 #[.pointer (some ⟨p.tb, 0, none⟩), .pointer (some ⟨p.cx, 0, none⟩)] stepEnc (stepOwn p) (StepSt p ds ws) (playL ds ws) := by
  intro l J Jx s0 W hJ hY h0 hk0
  refine callsIn_of_wp Try.func182 rfl trivial ?_ rfl
  simp only [Try.ntmps182, List.size_toArray, List.length_cons, List.length_nil, Nat.reduceAdd, Nat.reduceSub, Array.replicate_succ, Array.replicate_zero, List.push_toArray, List.append_toArray, List.nil_append, List.cons_append]
  gi_wp2
  gi_loopw [6] (fun v wr => ∃ (pre : List (D × Int)) (r : Nat), Hid (J pre r wr) ∧ Hid (StepSt p ds ws pre r wr)) (fun v wr => leftOf p.sb wr)
  case atStart => exact ⟨[], s0, h0, hk0⟩
  case round =>
    obtain ⟨pre, r, hj, hs⟩ := hrel
    have C1 := hs.out.tk.cell
    have C2 := hs.out.cx.cell
    by_cases hlt : pre.length < ds.length
    · have e1 : ds.drop pre.length = ds[pre.length] :: ds.drop (pre.length + 1) := List.drop_eq_getElem_cons hlt
      have hsc := hs.out.sc
      rw [e1] at hsc
      have hw := playW_succ (ws := ws) hlt
      have hall := playL_split (ws := ws) hlt
      rw [← playL_pre hs.out.fst] at hall
      generalize hrest : (playL ds ws).drop (pre.length + 1) = rest at hall
      have hce := hs.out.ce
      generalize playW ds ws pre.length = wk at *
      generalize ds[pre.length] = d at *
      have SC := Lib.hid hsc
      have CE := Lib.hid hce
      have HW := Lib.hid hw
      have HALL := Lib.hid hall
      have lsc := hsc.lt
      have lce := hce.lt
      have hap := hsc.apart
      have hnr := hs.out.nr
      have ltk := hs.out.tk.lt
      have lcx := hs.out.cx.lt
      obtain ⟨p1, p2, p3, p4, p5, p6, p7⟩ := hp
      clear hsc e1 hce hw hall hrest
      gi_wp2
      refine ⟨trivial, (callsIn_wide.2 (script_nextY _ _ _ _ _ _ _ SC.out)).mono ?_⟩
      rintro e w2 ⟨rfl, hb2⟩
      have hb3 := hb2.alloc hb2.size (.cells #[.int .i64 d.k, .int .i64 d.at_, .int .u64 d.a, .int .u64 d.b, .int .u64 d.by_] 31)
      have P3 := Blk.new w2 [.int .i64 d.k, .int .i64 d.at_, .int .u64 d.a, .int .u64 d.b, .int .u64 d.by_] 31
      have C3 := P3.cell
      have z2 := hb2.size
      have T3 := Lib.hid (hs.out.tk.below' hb3)
      have X3 := hs.out.cx.below' hb3
      have XC3 := X3.cell
      have SC3 := Lib.hid (SC.out.below hb3)
      have CE3 := Lib.hid (CE.out.below hb3)
      have M3 := Lib.hid (Mod.of_below (S := stepOwn p r) hb3)
      clear C1 C2 hb2 hb3
      gi_wp2
      refine ⟨trivial, (callsIn_wide.2 (deed_do _ _ _ _ CE3.out d)).mono ?_⟩
      rintro e w4 ⟨rfl, hCE, hM⟩
      have T4 := hM.blk T3.out p5
      have P4 := hM.blk P3 (by omega)
      have X4 := hM.blk X3 p7
      have TC4 := T4.cell
      have SC4 := Lib.hid (SC3.out.mod hM p1 p3 hnr.1)
      have CE4 := Lib.hid hCE
      have M4 := Lib.hid (M3.out.trans' (hM.mono (fun k _ e => .inr (.inr e))))
      have z4 := hM.size
      rw [World.size_alloc] at z4
      clear C3 XC3 SC3 CE3 hCE hM T3 X3 P3 M3
      gi_wp2
      refine ⟨trivial, (callsIn_wide.2 (script_tellY _ _ _ _ _ _ _ _ SC4.out (by simp; omega))).mono ?_⟩
      rintro e w5 ⟨rfl, r', hS5, hr', hM5⟩
      have T5 := Lib.hid (hM5.blk T4 (by omega))
      have P5 := hM5.blk P4 (by omega)
      have X5 := Lib.hid (hM5.blk X4 (by omega))
      have PC5 := P5.cell
      have CE5 := Lib.hid (CE4.out.mod hM5 (by omega) (by omega))
      have M5 := M4.out.trans' (hM5.mono (S' := stepOwn p r) (fun k _ e => by rcases e with e | e; exact .inl e; exact .inr (.inl e)))
      have J5 := hJ pre r r' wr w5 hj.out M5 (fun k hk => by
        rcases hk with e | e | e
        · exact .inl (.inl e)
        · rcases hr' with h | h
          · exact .inl (.inr (.inl (e.trans h)))
          · exact .inr (by omega)
        · exact .inl (.inr (.inr e)))
      have K5 : StepSt p ds ws (pre ++ [(d, dGet wk d)]) r' w5 := ⟨⟨rest, by rw [HALL.out]; simp⟩, T5.out, X5.out, by rw [List.length_append, List.length_singleton, List.map_append]; exact hS5, by rw [List.length_append, List.length_singleton, HW.out]; exact CE5.out, by omega⟩
      obtain ⟨fn, tmps, assign, body, hy, hR⟩ := hY pre (d, dGet wk d) rest r' w5 HALL.out J5 K5
      dsimp only [stepEnc] at hy
      have HR := Lib.hid hR
      clear TC4 T4 P4 X4 SC4 CE4 M4 hS5 hM5 P5 M5 J5 K5 hR hs hj
      gi_wp2
      refine HR.out.mono ?_
      rintro e w6 (⟨rfl, hJ6, hK6⟩ | ⟨rfl, hJx6⟩)
      · have J6 := Lib.hid hJ6
        have K6 := Lib.hid hK6
        clear hJ6 hK6
        gi_wp2
        go_roundw
        case rel => exact ⟨pre ++ [(d, dGet wk d)], r', J6, K6⟩
        case measure =>
          rw [leftOf_eq K6.out.sc, leftOf_eq SC.out]
          simp
      · gi_wp2
        refine bodyPost_ret (results_none rfl _ _ _) rfl ?_
        exact ⟨⟨_, rfl⟩, .inr ⟨pre ++ [(d, dGet wk d)], r', ⟨rest, by rw [HALL.out]; simp⟩, hJx6⟩⟩
    · have hpl : pre = playL ds ws := by
        have h1 := playL_pre hs.out.fst
        rw [List.take_of_length_le (by rw [playL_length]; omega)] at h1
        exact h1
      have hsc := hs.out.sc
      rw [List.drop_eq_nil_of_le (by omega)] at hsc
      have SC := Lib.hid hsc
      have HPL := Lib.hid hpl
      clear hsc hpl
      gi_wp2
      refine ⟨trivial, (callsIn_wide.2 (script_nextN _ _ _ _ _ SC.out)).mono ?_⟩
      rintro e w2 ⟨rfl, hb2⟩
      have hb3 := hb2.alloc hb2.size (.cells #[.int .i64 0, .int .i64 0, .int .u64 0, .int .u64 0, .int .u64 0] 31)
      have J3 := Lib.hid (hJ pre r r _ _ hj.out (Mod.of_below hb3) (fun k h => .inl h))
      have K3 := Lib.hid (hs.out.below hb3)
      clear hb2 hb3 C1 C2
      gi_wp2
      refine bodyPost_ret (results_none rfl _ _ _) rfl ?_
      exact ⟨⟨_, rfl⟩, .inl ⟨r, by rw [← HPL.out]; exact J3.out, by rw [← HPL.out]; exact K3.out⟩⟩
end Go.Proofs.Ytgkobmmannkegaa
