/-
  The driver's walk of the laws '..Asks': a task is asked and told by a list, then held against the document's tape. Written by a program (wip/gen/gen_asks.py).
-/
import Derived.Test.YtgkobmmannkegaaDrive
namespace Go.Proofs.Ytgkobmmannkegaa
open Go Go.RowKit
set_option linter.unusedVariables false
section
variable {S : Type} {M : Mach S}
set_option maxHeartbeats 4000000 in
set_option maxRecDepth 100000 in
theorem PinLeaves_drive (T S' L G : Int) (th : Int) (inV : Value) (ins : List Int) (w : World) (hI : U64s w w.heap.size inV ins) (hn : ins.length ≤ 300)
    (s0 : S) (R : Nat → World → S → Prop) (F : Nat → Nat → Prop) (hF : ∀ b k, F b k → w.heap.size < k ∧ k ≤ b)
    (hM : ∀ b, MachRep 77 78 (.pointer (some ⟨b, 0, none⟩)) M (R b) (F b))
    (hnew : ∀ w1 : World, w.heap.size < w1.heap.size → Calls Try.prog 76 #[planV T S' L G, .int .i64 th] w1 fun e w' => ∃ b, e = .returned (.pointer (some ⟨b, 0, none⟩)) ∧ b < w'.heap.size ∧ R b w' s0 ∧ Below w1.heap.size w1 w')
    (href : ∀ (w1 : World) x lo, FreshTape w1 x inV ins → w1.heap.size = lo → TapeCalls 79 #[.pointer (some ⟨x, 0, none⟩), planV T S' L G, .int .i64 th] w1 x lo inV (.tuple #[]) ⟨(drive M ins s0).1, M.more (drive M ins s0).2⟩)
    (hawake : Gives 64 #[] (.bool true)) :
    Calls Try.prog 9 #[planV T S' L G, .int .i64 th, inV] w fun e w' => e = .returned (.bool true) ∧ Below w.heap.size w w' := by
  obtain ⟨ia, ic, rfl, hic⟩ := hI.ex
  have HI := Lib.hid hI
  have HC := Lib.hid hic
  have HM := Lib.hid hM
  have HF := Lib.hid hF
  have HN := Lib.hid hnew
  have HA := Lib.hid hawake
  have HT := Lib.hid href
  clear hI hic hM hF hnew hawake href
  go_enter Try.func9, Try.ntmps9
  go_wp2_with fail
  refine (HN.out _ (by simp)).mono ?_
  rintro e w1 ⟨b, rfl, hbl, hR, hb1⟩
  have hR1 := Lib.hid hR
  clear hR
  have P01 := (Blk.new w [.int .i64 T, .int .i64 S', .int .i64 L, .int .u64 G] 24).below' hb1
  have W1 : Below w.heap.size w w1 := Below.step _ hb1
  have I1 := Lib.hid ((HI.out.below W1))
  have hlw := P01.lt
  clear hb1
  go_upto_block 0 with fail
  go_cut [8] (fun v wx => ∃ s, Deeds wx w1.heap.size v (drive M ins s0).1 ∧ (drive M ins s0).2 = s ∧ Hid (R b wx s) ∧ Hid (U64s wx w.heap.size (.slice ia ins.length ic) ins) ∧
      Blk wx w.heap.size [.int .i64 T, .int .i64 S', .int .i64 L, .int .u64 G] 24 ∧ Below w.heap.size w wx ∧ w1.heap.size ≤ wx.heap.size)
  case first =>
    go_wp2_with fail
    go_loopw [8, 9] (fun v i wr => ∃ (k : Nat) (ds : List D) (s : S), i = .int .i64 k ∧ k ≤ ins.length + 1 ∧ Hid (Driven M ins s0 k ds s) ∧ Hid (Deeds wr w1.heap.size v ds) ∧ Hid (R b wr s) ∧ Hid (U64s wr w.heap.size (.slice ia ins.length ic) ins) ∧
      Blk wr w.heap.size [.int .i64 T, .int .i64 S', .int .i64 L, .int .u64 G] 24 ∧ Below w.heap.size w wr ∧ w1.heap.size ≤ wr.heap.size) (fun _ i _ => ins.length + 1 - (intOf i).toNat)
    case atStart => exact ⟨0, [], s0, rfl, by omega, Driven.start _ _, World.ownsRow_nil _ _ _ _, hR1, I1, P01, W1, Nat.le_refl _⟩
    case round =>
      obtain ⟨k, ds, s, rfl, hk, hd, hD, hR, hU, P0, hW, hz⟩ := hrel
      by_cases hkn : k ≤ ins.length
      · cases hm : M.more s with
        | true =>
          have HMO := Lib.hid hm
          clear hm
          go_wp2_with fail
          refine ((HM.out b).nextY wr s hR.out HMO.out).mono ?_
          rintro e w2 ⟨rfl, hb2⟩
          have hz2 := hb2.size
          have D2 := Lib.hid (ownsRow_mod hD.out (Mod.of_below (S := fun _ => False) hb2) (fun _ _ => id))
          have hdl : ds.length ≤ 65000 := by have := hd.out.1; omega
          go_wp2_with (at_builtin; refine append_deed rfl (.tmp 35) (.tmp 37) rfl w1.heap.size _ ds rfl ((D2.out.alloc _).alloc _) (M.deed s) (w2.heap.size + 1) rfl ?c1 hdl ?c2 ?_)
          case c1 => exact Blk.new2 _ _ _ _
          case c2 => simp; omega
          intro va vc w3 hD3 hg
          have M3 := Mod.added hb2 hg (own_ge D2.out)
          have D3 := Lib.hid hD3
          have R3 := Lib.hid ((HM.out b).keep _ _ _ _ hR.out M3 (fun q hq => by have := HF.out b q hq; omega))
          have U3 := Lib.hid (hU.out.mod M3 (fun q hq => by omega))
          have P03 := M3.blk P0 (by omega)
          have W3 := below_mod hW M3 (by omega) (fun q hq => by omega)
          have z3 := Nat.le_trans hz M3.size
          clear hD3 hg M3 D2 hD hR hU P0 hW
          by_cases hlt : k < ins.length
          · obtain ⟨_, _, ev, hc⟩ := U3.out.ex
            cases ev
            obtain ⟨ib, io, rfl, hib, hcs⟩ := hc (by omega)
            have hcell := hcs k hlt
            clear hcs hc
            go_wp2_with fail
            refine ((HM.out b).tell w3 s _ R3.out).mono ?_
            rintro e w4 ⟨rfl, hR4, M4⟩
            have R4 := Lib.hid hR4
            have D4 := Lib.hid (ownsRow_mod D3.out M4 (fun q hq hf => by have := HF.out b q hf; omega))
            have U4 := Lib.hid (U3.out.mod M4 (fun q hq hf => by have := HF.out b q hf; omega))
            have P04 := M4.blk P03 (fun hf => by have := HF.out b _ hf; omega)
            have W4 := below_mod W3 M4 (by omega) (fun q hq hf => by have := HF.out b q hf; omega)
            have z4 := Nat.le_trans z3 M4.size
            clear hR4 M4 hcell
            go_wp2_with fail
            go_roundw
            case rel => exact ⟨k + 1, _, _, by go_num, by omega, hd.out.told HMO.out hlt, D4, R4, U4, P04, W4, z4⟩
            case measure => simp [intOf]; omega
          · go_wp2_with fail
            go_roundw
            case rel => exact ⟨k + 1, _, _, by go_num, by omega, hd.out.last HMO.out (by omega), D3, R3, U3, P03, W3, z3⟩
            case measure => simp [intOf]; omega
        | false =>
          have HMO := Lib.hid hm
          clear hm
          go_wp2_with fail
          refine ((HM.out b).nextN wr s hR.out HMO.out).mono ?_
          rintro e w2 ⟨rfl, hb2⟩
          go_wp2_with fail
          go_meet
          case rel =>
            have e := hd.out.done HMO.out
            rw [e]
            have hb3 := hb2.alloc hb2.size (.cells #[.int .i64 0, .int .i64 0, .int .u64 0, .int .u64 0, .int .u64 0] 31)
            have M3 : Mod (fun _ => False) wr _ := Mod.of_below hb3
            exact ⟨s, ownsRow_mod hD.out M3 (fun _ _ => id), rfl, (HM.out b).keep _ _ _ _ hR.out M3 (fun _ _ => id), hU.out.mod M3 (fun _ _ => id), M3.blk P0 id, below_mod hW M3 (by omega) (fun _ _ => id), Nat.le_trans hz M3.size⟩
      · go_wp2_with fail
        go_meet
        case rel =>
          have e := hd.out.out hkn
          rw [e]
          exact ⟨s, hD.out, rfl, hR, hU, P0, hW, hz⟩
  case rest =>
    obtain ⟨s, hD, hs, hR, hU, P0, hW, hz⟩ := hcut
    have D0 := Lib.hid hD
    have hsl : (drive M ins s0).1.length ≤ 4096 := by have := drive_len (M := M) ins s0; omega
    subst hs
    generalize hds : (drive M ins s0).1 = ds at *
    generalize hss : (drive M ins s0).2 = s at *
    clear hD hds hss
    have hwl := P0.lt
    have CP0 := P0.cell
    go_wp2_with fail
    have TI : FreshTape (wc.alloc (.cells #[.slice ia ins.length ic, .slice none 0 0, .bool false] 37)) wc.heap.size (.slice ia ins.length ic) ins :=
      ⟨Blk.new _ _ _, (hU.out.below ((Below.refl _ _).alloc (Nat.le_refl _) _)).mono (by omega), by omega⟩
    refine (HT.out _ _ (wc.heap.size + 1) TI (by simp)).mono ?_
    rintro e w5 ⟨rfl, hT5, hM5⟩
    have hb5 : Below wc.heap.size wc w5 := below_mod ((Below.refl _ _).alloc (Nat.le_refl _) _) hM5 (by simp) (fun k hk hf => by rcases hf with rfl | hf <;> omega)
    obtain ⟨_, _, vo, hB5, hD5⟩ := hT5
    have R5 := Lib.hid ((HM.out b).keep _ _ _ _ hR.out (Mod.of_below (S := fun _ => False) hb5) (fun _ _ => id))
    have A5 := Lib.hid (deeds_below D0.out hb5)
    have O5 := Lib.hid hD5
    have W5 : Below w.heap.size w w5 := hW.trans (hb5.mono (by omega))
    have z5 := hb5.size
    clear hD5 hb5 hM5 TI CP0 hU
    go_wp2_with fail
    cases hm : M.more s with
    | true =>
      have HMO := Lib.hid hm
      rw [hm] at hB5
      clear hm
      refine ((HM.out b).nextY w5 s R5.out HMO.out).mono ?_
      rintro e w6 ⟨rfl, hb6⟩
      have C6 := (hB5.below' hb6).cell
      have hb7 := hb6.alloc hb6.size (.cells #[.int .i64 (M.deed s).k, .int .i64 (M.deed s).at_, .int .u64 (M.deed s).a, .int .u64 (M.deed s).b, .int .u64 (M.deed s).by_] 31)
      go_wp2_with fail
      refine (same_true _ _ _ _ _ ds (deeds_below A5.out hb7) (deeds_below O5.out hb7) (by omega)).mono ?_
      rintro e w8 ⟨rfl, hb8⟩
      have C8 := ((hB5.below' hb7).below' hb8).cell
      have hb9 := hb7.trans (hb8.mono hb7.size)
      clear C6
      go_wp2_with fail
      refine (HA.out _).mono ?_
      rintro e w10 ⟨rfl, hb11⟩
      go_wp2_with fail
      go_ret
      have hb12 := hb9.trans (hb11.mono hb9.size)
      exact ⟨ret_bool (by simp), W5.trans (hb12.mono (by omega))⟩
    | false =>
      have HMO := Lib.hid hm
      rw [hm] at hB5
      clear hm
      refine ((HM.out b).nextN w5 s R5.out HMO.out).mono ?_
      rintro e w6 ⟨rfl, hb6⟩
      have C6 := (hB5.below' hb6).cell
      have hb7 := hb6.alloc hb6.size (.cells #[.int .i64 0, .int .i64 0, .int .u64 0, .int .u64 0, .int .u64 0] 31)
      go_wp2_with fail
      refine (same_true _ _ _ _ _ ds (deeds_below A5.out hb7) (deeds_below O5.out hb7) (by omega)).mono ?_
      rintro e w8 ⟨rfl, hb8⟩
      have C8 := ((hB5.below' hb7).below' hb8).cell
      have hb9 := hb7.trans (hb8.mono hb7.size)
      clear C6
      go_wp2_with fail
      refine (HA.out _).mono ?_
      rintro e w10 ⟨rfl, hb11⟩
      go_wp2_with fail
      go_ret
      have hb12 := hb9.trans (hb11.mono hb9.size)
      exact ⟨ret_bool (by simp), W5.trans (hb12.mono (by omega))⟩
end
end Go.Proofs.Ytgkobmmannkegaa
