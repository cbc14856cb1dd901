/-
  The law TaskScripts, walked.
-/
import Derived.Test.YtgkobmmannkegaaScriptAwake
namespace Go.Proofs.Ytgkobmmannkegaa
open Go Go.RowKit
set_option linter.unusedVariables false

def cint (o : Option Value) : Int := match o with
  | some (.int _ n) => n
  | _ => 0
theorem deeds_of_nums {w : World} {hi : Nat} {v : Value} {n : Nat} (h : NumsR w hi [.i64, .i64, .u64, .u64, .u64] 5 v n) : ∃ ds g, ds.length = n ∧ DeedsB w g v ds ∧ (0 < n → g < hi) := by
  obtain ⟨a, c, rfl, hnc, hx⟩ := h.ex
  by_cases h0 : 0 < n
  · obtain ⟨b, off, rfl, hb, hcs⟩ := hx h0
    refine ⟨(List.range n).map fun i => ⟨cint (w.cell? ⟨b, off + (i * 5 + 0), none⟩), cint (w.cell? ⟨b, off + (i * 5 + 1), none⟩), cint (w.cell? ⟨b, off + (i * 5 + 2), none⟩), cint (w.cell? ⟨b, off + (i * 5 + 3), none⟩), cint (w.cell? ⟨b, off + (i * 5 + 4), none⟩)⟩, b, by simp, ⟨_, c, by simp, by simpa using hnc, fun _ => ⟨off, rfl, fun j hj i hi => ?_⟩⟩, fun _ => hb⟩
    have hj' : j < n := by simpa using hj
    simp only [List.getElem_map, List.getElem_range]
    have h5 : i = 0 ∨ i = 1 ∨ i = 2 ∨ i = 3 ∨ i = 4 := by omega
    rcases h5 with rfl | rfl | rfl | rfl | rfl <;>
      (obtain ⟨k, x, hk, hc, _⟩ := hcs j hj' _ hi; rw [Nat.add_assoc, hc]; cases hk; simp [D.cells, cint])
  · obtain rfl : n = 0 := by omega
    exact ⟨[], 0, rfl, ⟨a, c, rfl, by simp, fun hn => by simp at hn⟩, fun hn => by omega⟩
theorem U64s.take {w : World} {hi : Nat} {a : Option Addr} {c : Nat} {ws : List Int} (h : U64s w hi (.slice a ws.length c) ws) (m : Nat) (hm : m ≤ ws.length) : U64s w hi (.slice a m c) (ws.take m) := by
  obtain ⟨_, _, hv, hc⟩ := h.ex
  cases hv
  have hl : (ws.take m).length = m := by simp; omega
  refine ⟨a, c, by rw [hl], fun hn => ?_⟩
  rw [hl] at hn
  obtain ⟨b, off, ha, hb, hcs⟩ := hc (by omega)
  exact ⟨b, off, ha, hb, fun j hj => by rw [hcs j (by rw [hl] at hj; omega)]; simp⟩
theorem taskScripts_skip (sa : Option Addr) (sn sc : Nat) (a : Option Addr) (n c : Nat) (h : 300 < sn ∨ 300 < n) (w : World) : Calls Try.prog 11 #[.slice sa sn sc, .slice a n c] w fun e w' => e = .returned (.bool true) ∧ Below w.heap.size w w' := by
  have HA := Lib.hid script_awake
  by_cases h0 : 300 < sn
  · clear h
    go_enter Try.func11, Try.ntmps11
    go_wp2_with fail
    refine (HA.out _).mono ?_
    rintro e w1 ⟨rfl, hb⟩
    go_wp2_with fail
    go_ret
    exact ⟨rfl, hb⟩
  · have h1 : decide ((300 : Int) < (n : Int)) = true := by simp; omega
    clear h
    go_enter Try.func11, Try.ntmps11
    go_wp2_with fail
    refine (HA.out _).mono ?_
    rintro e w1 ⟨rfl, hb⟩
    go_wp2_with fail
    go_ret
    exact ⟨rfl, hb⟩
/-- What a script was told: as many words as there were deeds. -/
def told (ds : List D) (ins : List Int) (k : Nat) : List Int := (ins.take k).take ds.length
theorem told_more {ds : List D} {ins : List Int} {k : Nat} (hk : k < ds.length) (hi : k < ins.length) : told ds ins (k + 1) = told ds ins k ++ [ins[k]] := by
  unfold told
  rw [List.take_of_length_le (l := ins.take (k + 1)) (by simp; omega), List.take_of_length_le (l := ins.take k) (by simp; omega), List.take_succ_eq_append_getElem hi]
theorem told_same {ds : List D} {ins : List Int} {k : Nat} (hk : ¬ k < ds.length) : told ds ins (k + 1) = told ds ins k := by
  unfold told
  rw [List.take_take, List.take_take]
  congr 1; omega
theorem told_all (ds : List D) (ins : List Int) : told ds ins ins.length = ins.take (min ds.length ins.length) := by
  unfold told
  rw [List.take_take]
theorem told_len (ds : List D) (ins : List Int) (k : Nat) : (told ds ins k).length ≤ ins.length := by unfold told; simp; omega
/-- What is kept: a script, and a list. -/
def Ks (w0 : World) (b g r : Nat) (left : List D) (found : List Int) (hi : Nat) (a : Option Addr) (n c : Nat) (ins : List Int) (w : World) : Prop := ScriptAt w b g r left found ∧ U64s w hi (.slice a n c) ins ∧ Below w0.heap.size w0 w
section
variable {w0 w w' : World} {b g r hi n c : Nat} {left : List D} {found ins : List Int} {a : Option Addr}
theorem Ks.start (h : ScriptAt w b g r left found) (hI : U64s w hi (.slice a n c) ins) : Ks w b g r left found hi a n c ins w.drew :=
  have hb : Below w.heap.size w w.drew := (Below.refl _ _).drew
  ⟨h.below hb, hI.below hb, hb⟩
theorem Ks.below (h : Ks w0 b g r left found hi a n c ins w) (hb : Below w.heap.size w w') : Ks w0 b g r left found hi a n c ins w' := ⟨h.1.below hb, h.2.1.below hb, h.2.2.trans (hb.mono h.2.2.size)⟩
theorem Ks.out (h : Ks w0 b g r left found hi a n c ins w) : Below w0.heap.size w0 w := h.2.2
theorem ks_found (h : Ks w0 b g r left found hi a n c ins w) (hn : found.length ≤ 65000) : Calls Try.prog 89 #[.pointer (some ⟨b, 0, none⟩)] w fun e w' => ∃ va vc, e = .returned (.slice va found.length vc) ∧ U64s w' w'.heap.size (.slice va found.length vc) found ∧ Below w.heap.size w w' :=
  (script_found _ _ _ _ _ _ h.1 hn).mono fun e w' ⟨va, vc, g', he, hR, hg', hl, hb⟩ => ⟨va, vc, he, hR.reads hl, hb⟩
theorem ks_none (w : World) : Calls Try.prog 89 #[.pointer none] w fun e w' => e = .returned (.slice none 0 0) ∧ Below w.heap.size w w' :=
  (script_found_nil w).mono fun e w' ⟨he, hw⟩ => ⟨he, hw ▸ Below.refl _ _⟩
theorem ks_same {va : Option Addr} {vc m : Nat} (hR : U64s w w.heap.size (.slice va found.length vc) found) (h : Ks w0 b g r left found hi a ins.length c ins w) (hf : found = ins.take m) (hm : m ≤ ins.length) (hn : found.length ≤ 65000) :
    Calls Try.prog 88 #[.slice va found.length vc, .slice a m c] w fun e w' => e = .returned (.bool true) ∧ Below w.heap.size w w' := by
  have h2 := h.2.1.take m hm
  rw [← hf] at h2
  exact same64_true _ _ _ _ _ _ hR h2 hn
end
set_option maxHeartbeats 4000000 in
set_option maxRecDepth 100000 in
theorem taskScripts_walk (sa : Option Addr) (sc : Nat) (ds : List D) (gd : Nat) (a : Option Addr) (c : Nat) (ins : List Int) (w : World) (hD : DeedsB w gd (.slice sa ds.length sc) ds) (hgd : 0 < ds.length → gd < w.heap.size)
    (hI : U64s w w.heap.size (.slice a ins.length c) ins) (hc : ins.length ≤ c) (hn1 : ds.length ≤ 300) (hn2 : ins.length ≤ 300) :
    Calls Try.prog 11 #[.slice sa ds.length sc, .slice a ins.length c] w fun e w' => e = .returned (.bool true) ∧ Below w.heap.size w w' := by
  have HD := Lib.hid hD
  have HI := Lib.hid hI
  have HA := Lib.hid script_awake
  have HG := Lib.hid hgd
  have hd : decide ((300 : Int) < (ins.length : Int)) = false := by simp; omega
  clear hD hI hgd
  go_enter Try.func11, Try.ntmps11
  go_wp2_with fail
  refine (new_script _ _ ds _ HD.out (by omega)).mono ?_
  rintro e w1 ⟨b, g, rfl, hS, hb, hg, hb1⟩
  have S1 := Lib.hid hS
  have D1 := Lib.hid (HD.out.below hb1)
  have I1 := Lib.hid (HI.out.below hb1)
  clear hS hd
  go_wp2_with fail
  go_loopw [6] (fun i wr => ∃ (k r : Nat), i = .int .i64 k ∧ k ≤ ins.length ∧ w.heap.size ≤ r ∧ Hid (ScriptAt wr b g r (ds.drop k) (told ds ins k)) ∧ Hid (DeedsB wr gd (.slice sa ds.length sc) ds) ∧ Hid (U64s wr w.heap.size (.slice a ins.length c) ins) ∧ Below w.heap.size w wr) (fun i _ => ins.length - (intOf i).toNat)
  case atStart => exact ⟨0, b, rfl, by omega, hb, by simpa [told] using S1, D1, I1, hb1⟩
  case round =>
    obtain ⟨k, r, rfl, hk, hr, hS, hD, hI, hW⟩ := hrel
    clear S1 D1 I1 hb1
    by_cases hlt : k < ins.length
    · by_cases hkd : k < ds.length
      · have e1 : ds.drop k = ds[k] :: ds.drop (k + 1) := List.drop_eq_getElem_cons hkd
        have hS1 := hS.out
        rw [e1] at hS1
        have S1 := Lib.hid hS1
        have hap := hS1.apart
        have hlt1 := hS1.lt
        obtain ⟨_, _, hv, _, hx⟩ := hD.out.ex
        cases hv
        obtain ⟨off, rfl, hcs⟩ := hx (by omega)
        have f0 : wr.cell? ⟨gd, off + k * 5, none⟩ = _ := hcs k hkd 0 (by omega)
        have f1 := hcs k hkd 1 (by omega)
        have f2 := hcs k hkd 2 (by omega)
        have f3 := hcs k hkd 3 (by omega)
        have f4 := hcs k hkd 4 (by omega)
        have F := Lib.hid (And.intro f0 (And.intro f1 (And.intro f2 (And.intro f3 f4))))
        obtain ⟨bi, oi, rfl, hbi, hic⟩ := u64s_cells hI.out (by omega)
        have ci := hic k hlt
        have HT := Lib.hid (told_more hkd hlt)
        clear hcs f0 f1 f2 f3 f4 hic e1 hS hS1 hx
        generalize hdd : ds[k] = d at *
        have HDD := Lib.hid hdd
        generalize hxx : ins[k] = x at *
        have dd : deedEq d.k d.at_ d.a d.b d.by_ d.k d.at_ d.a d.b d.by_ = true := by rw [D.beq]; simp
        clear hdd hxx
        have hkl : decide ((k : Int) < (ds.length : Int)) = true := by simp; omega
        go_wp2_with fail
        refine (script_nextY _ _ _ _ _ _ _ S1.out).mono ?_
        rintro e w2 ⟨rfl, hb2⟩
        have hb2' := hb2.alloc hb2.size (.cells #[.int .i64 d.k, .int .i64 d.at_, .int .u64 d.a, .int .u64 d.b, .int .u64 d.by_] 31)
        have S2 := Lib.hid (S1.out.below hb2')
        have B2 := Blk.new w2 [.int .i64 d.k, .int .i64 d.at_, .int .u64 d.a, .int .u64 d.b, .int .u64 d.by_] 31
        clear S1
        go_wp2_with fail
        refine (script_nextY _ _ _ _ _ _ _ S2.out).mono ?_
        rintro e w3 ⟨rfl, hb3⟩
        have C3 := (B2.below' hb3).cell
        have hb3' := hb3.alloc hb3.size (.cells #[.int .i64 d.k, .int .i64 d.at_, .int .u64 d.a, .int .u64 d.b, .int .u64 d.by_] 31)
        have hq := hb2'.trans (hb3'.mono hb2'.size)
        have S3 := Lib.hid (S2.out.below hb3')
        have hgdl : gd < wr.heap.size := Nat.lt_of_lt_of_le (HG.out (by omega)) hW.size
        have hbil : bi < wr.heap.size := Nat.lt_of_lt_of_le hbi hW.size
        obtain ⟨f0, f1, f2, f3, f4⟩ := F.out
        have g0 : (w3.alloc (.cells #[.int .i64 d.k, .int .i64 d.at_, .int .u64 d.a, .int .u64 d.b, .int .u64 d.by_] 31)).cell? ⟨gd, off + k * 5, none⟩ = some (.int .i64 d.k) := (hq.cell (p := ⟨gd, off + k * 5, none⟩) hgdl).trans f0
        have g1 : (w3.alloc (.cells #[.int .i64 d.k, .int .i64 d.at_, .int .u64 d.a, .int .u64 d.b, .int .u64 d.by_] 31)).cell? ⟨gd, off + k * 5 + 1, none⟩ = some (.int .i64 d.at_) := (hq.cell (p := ⟨gd, off + k * 5 + 1, none⟩) hgdl).trans f1
        have g2 : (w3.alloc (.cells #[.int .i64 d.k, .int .i64 d.at_, .int .u64 d.a, .int .u64 d.b, .int .u64 d.by_] 31)).cell? ⟨gd, off + k * 5 + 2, none⟩ = some (.int .u64 d.a) := (hq.cell (p := ⟨gd, off + k * 5 + 2, none⟩) hgdl).trans f2
        have g3 : (w3.alloc (.cells #[.int .i64 d.k, .int .i64 d.at_, .int .u64 d.a, .int .u64 d.b, .int .u64 d.by_] 31)).cell? ⟨gd, off + k * 5 + 3, none⟩ = some (.int .u64 d.b) := (hq.cell (p := ⟨gd, off + k * 5 + 3, none⟩) hgdl).trans f3
        have g4 : (w3.alloc (.cells #[.int .i64 d.k, .int .i64 d.at_, .int .u64 d.a, .int .u64 d.b, .int .u64 d.by_] 31)).cell? ⟨gd, off + k * 5 + 4, none⟩ = some (.int .u64 d.by_) := (hq.cell (p := ⟨gd, off + k * 5 + 4, none⟩) hgdl).trans f4
        have c5 : (w3.alloc (.cells #[.int .i64 d.k, .int .i64 d.at_, .int .u64 d.a, .int .u64 d.b, .int .u64 d.by_] 31)).cell? ⟨bi, oi + k, none⟩ = some (.int .u64 x) := (hq.cell (p := ⟨bi, oi + k, none⟩) hbil).trans ci
        have D3 := Lib.hid (hD.out.below hq)
        have I3 := Lib.hid (hI.out.below hq)
        have W3 := hW.trans (hq.mono hW.size)
        have HQ := Lib.hid hq
        clear f0 f1 f2 f3 f4 ci hb2 hb3 hb2' hb3' hq S2 B2 hD hI hW F
        go_wp2_with fail
        refine wp_region_reads (by kernel_rfl) (by kernel_rfl) ?_
        repeat (quiet_step (fail))
        refine wpQuiet_nil ?_
        intro w4 hb4
        have c6 := (hb4.cell (p := ⟨bi, oi + k, none⟩) (Nat.lt_of_lt_of_le hbil HQ.out.size)).trans c5
        have S4 := Lib.hid (S3.out.below hb4)
        have D4 := Lib.hid (D3.out.below hb4)
        have I4 := Lib.hid (I3.out.below hb4)
        have W4 := W3.trans (hb4.mono W3.size)
        clear c5 g0 g1 g2 g3 g4 C3 S3 D3 I3 W3 hb4
        go_wp2_with fail
        refine (script_tellY _ _ _ _ _ _ _ _ S4.out (by have := told_len ds ins k; omega)).mono ?_
        rintro e w5 ⟨rfl, r', hS5, hr', hM5⟩
        rw [← HT.out] at hS5
        have S5 := Lib.hid hS5
        have hg5 : gd < w.heap.size := HG.out (by omega)
        have D5 := Lib.hid (D4.out.mod hM5 (by omega))
        have I5 := Lib.hid (I4.out.mod hM5 (fun q hq e => by omega))
        have W5 := below_mod W4 hM5 W4.size (fun q hq e => by omega)
        have z4 := W4.size
        clear hS5 hM5 S4 D4 I4 W4
        go_wp2_with fail
        go_roundw
        case rel => exact ⟨k + 1, r', by go_num, by omega, by omega, S5, D5, I5, W5⟩
        case measure => simp [intOf]; omega
      · have e1 : ds.drop k = [] := List.drop_eq_nil_of_le (by omega)
        have hS1 := hS.out
        rw [e1] at hS1
        have S1 := Lib.hid hS1
        have hlt1 := hS1.lt
        obtain ⟨bi, oi, rfl, hbi, hic⟩ := u64s_cells hI.out (by omega)
        have ci := hic k hlt
        have HT := Lib.hid (told_same (ins := ins) hkd)
        have HE : Hid (ds.drop (k + 1) = []) := List.drop_eq_nil_of_le (by omega)
        generalize hxx : ins[k] = x at *
        have dd : deedEq 0 0 0 0 0 0 0 0 0 0 = true := rfl
        have hkl : decide ((k : Int) < (ds.length : Int)) = false := by simp; omega
        clear hic e1 hS hS1 hxx
        go_wp2_with fail
        refine (script_nextN _ _ _ _ _ S1.out).mono ?_
        rintro e w2 ⟨rfl, hb2⟩
        have hb2' := hb2.alloc hb2.size (.cells #[.int .i64 0, .int .i64 0, .int .u64 0, .int .u64 0, .int .u64 0] 31)
        have S2 := Lib.hid (S1.out.below hb2')
        have B2 := Blk.new w2 [.int .i64 0, .int .i64 0, .int .u64 0, .int .u64 0, .int .u64 0] 31
        clear S1
        go_wp2_with fail
        refine (script_nextN _ _ _ _ _ S2.out).mono ?_
        rintro e w3 ⟨rfl, hb3⟩
        have C3 := (B2.below' hb3).cell
        have hb3' := hb3.alloc hb3.size (.cells #[.int .i64 0, .int .i64 0, .int .u64 0, .int .u64 0, .int .u64 0] 31)
        have hq := hb2'.trans (hb3'.mono hb2'.size)
        have S3 := Lib.hid (S2.out.below hb3')
        have hbil : bi < wr.heap.size := Nat.lt_of_lt_of_le hbi hW.size
        have c5 : (w3.alloc (.cells #[.int .i64 0, .int .i64 0, .int .u64 0, .int .u64 0, .int .u64 0] 31)).cell? ⟨bi, oi + k, none⟩ = some (.int .u64 x) := (hq.cell (p := ⟨bi, oi + k, none⟩) hbil).trans ci
        have D3 := Lib.hid (hD.out.below hq)
        have I3 := Lib.hid (hI.out.below hq)
        have W3 := hW.trans (hq.mono hW.size)
        have HQ := Lib.hid hq
        clear ci hb2 hb3 hb2' hb3' hq S2 B2 hD hI hW
        go_wp2_with fail
        refine wp_region_reads (by kernel_rfl) (by kernel_rfl) ?_
        repeat (quiet_step (fail))
        refine wpQuiet_nil ?_
        intro w4 hb4
        have c6 := (hb4.cell (p := ⟨bi, oi + k, none⟩) (Nat.lt_of_lt_of_le hbil HQ.out.size)).trans c5
        have S4 := Lib.hid (S3.out.below hb4)
        have D4 := Lib.hid (D3.out.below hb4)
        have I4 := Lib.hid (I3.out.below hb4)
        have W4 := W3.trans (hb4.mono W3.size)
        clear c5 C3 S3 D3 I3 W3 hb4
        go_wp2_with fail
        refine (script_tellN _ _ _ _ _ _ S4.out).mono ?_
        rintro e w5 ⟨rfl, hb5⟩
        have S5 : Hid (ScriptAt w5 b g r (ds.drop (k + 1)) (told ds ins (k + 1))) := by
          show ScriptAt _ _ _ _ _ _
          rw [HE.out, HT.out]
          exact S4.out.below hb5
        have D5 := Lib.hid (D4.out.below hb5)
        have I5 := Lib.hid (I4.out.below hb5)
        have W5 := W4.trans (hb5.mono W4.size)
        clear hb5 S4 D4 I4 W4
        go_wp2_with fail
        go_roundw
        case rel => exact ⟨k + 1, r, by go_num, by omega, hr, S5, D5, I5, W5⟩
        case measure => simp [intOf]; omega
    · obtain rfl : ins.length = k := by omega
      have hlen : (told ds ins ins.length).length ≤ 65000 := by have := told_len ds ins ins.length; omega
      by_cases hmore : ins.length < ds.length
      · have e1 : ds.drop ins.length = ds[ins.length] :: ds.drop (ins.length + 1) := List.drop_eq_getElem_cons hmore
        have hS1 := hS.out
        rw [e1] at hS1
        have S1 := Lib.hid hS1
        have hmin : min (ds.length : Int) (ins.length : Int) = ins.length := by omega
        have hm2 : decide ((ins.length : Int) < (ds.length : Int)) = true := by simpa using hmore
        have HF : Hid (told ds ins ins.length = ins.take ins.length) := by
          show _ = _
          rw [told_all, show min ds.length ins.length = ins.length by omega]
        generalize hdd : ds[ins.length] = d at *
        clear e1 hS hS1 hdd
        go_wp2_with fail
        refine (script_nextY _ _ _ _ _ _ _ S1.out).mono ?_
        rintro e w2 ⟨rfl, hb2⟩
        have hb2' := hb2.alloc hb2.size (.cells #[.int .i64 d.k, .int .i64 d.at_, .int .u64 d.a, .int .u64 d.b, .int .u64 d.by_] 31)
        have S2 := Lib.hid (S1.out.below hb2')
        clear S1
        go_wp2_with fail
        refine (script_next_nil _).mono ?_
        rintro e w3 ⟨rfl, hb3⟩
        have hb3' := hb3.alloc hb3.size (.cells #[.int .i64 0, .int .i64 0, .int .u64 0, .int .u64 0, .int .u64 0] 31)
        have hq := hb2'.trans (hb3'.mono hb2'.size)
        have S3 := Lib.hid (S2.out.below hb3')
        have I3 := Lib.hid (hI.out.below hq)
        have W3 := hW.trans (hq.mono hW.size)
        clear hb2 hb3 hb2' hb3' hq S2 hI hW hD
        go_wp2_with fail
        generalize hw4 : w3.alloc (.cells #[.int .i64 0, .int .i64 0, .int .u64 0, .int .u64 0, .int .u64 0] 31) = w4 at *
        have b0 : (0 : Int) ≤ (ins.length : Int) := by omega
        have b1 : (ins.length : Int) ≤ (c : Int) := by omega
        go_upto_region 16 with fail
        go_cut [4] (fun v wx => v = .bool true ∧ Below w.heap.size w wx)
        case first =>
          go_wp2_with fail
          go_region_held3 (fun w' => Ks w4 b g r (d :: ds.drop (ins.length + 1)) (told ds ins ins.length) w.heap.size a ins.length c ins w')
            ((first | (with_reducible exact Ks.start S3.out I3.out) | ((with_reducible refine Ks.below ?_ hb5); assumption)))
            (first | (go_at_call 89; (with_reducible refine (ks_found (w0 := w4) (b := b) (g := g) (r := r) (left := (d :: ds.drop (ins.length + 1))) (found := told ds ins ins.length) (hi := w.heap.size) (a := a) (c := c) (ins := ins) (n := ins.length) ?_ hlen).mono ?_); assumption; rintro e w' ⟨va, vc, rfl, hR, hb5⟩) | (go_at_call 89; (with_reducible refine (ks_none _).mono ?_); rintro e w' ⟨rfl, hb5⟩) |
              (go_at_call 88; (with_reducible refine (ks_same (w0 := w4) (b := b) (g := g) (r := r) (left := (d :: ds.drop (ins.length + 1))) (found := told ds ins ins.length) (hi := w.heap.size) (a := a) (c := c) (ins := ins) hR ?_ HF.out (by omega) hlen).mono ?_); assumption; rintro e w' ⟨rfl, hb5⟩) | (go_at_call 84; refine (HA.out _).mono ?_; rintro e w' ⟨rfl, hb5⟩))
          all_goals go_wp2_with fail
          all_goals go_meet
          all_goals exact ⟨rfl, W3.trans ((Ks.out (by assumption)).mono W3.size)⟩
        case rest =>
          obtain ⟨rfl, hW⟩ := hcut
          go_wp2_with fail
          go_ret
          exact ⟨rfl, hW⟩
      · have e1 : ds.drop ins.length = [] := List.drop_eq_nil_of_le (by omega)
        have hS1 := hS.out
        rw [e1] at hS1
        have S1 := Lib.hid hS1
        have hmin : min (ds.length : Int) (ins.length : Int) = ds.length := by omega
        have hm2 : decide ((ins.length : Int) < (ds.length : Int)) = false := by simpa using hmore
        have HF : Hid (told ds ins ins.length = ins.take ds.length) := by
          show _ = _
          rw [told_all, show min ds.length ins.length = ds.length by omega]
        clear e1 hS hS1
        go_wp2_with fail
        refine (script_nextN _ _ _ _ _ S1.out).mono ?_
        rintro e w2 ⟨rfl, hb2⟩
        have hb2' := hb2.alloc hb2.size (.cells #[.int .i64 0, .int .i64 0, .int .u64 0, .int .u64 0, .int .u64 0] 31)
        have S2 := Lib.hid (S1.out.below hb2')
        clear S1
        go_wp2_with fail
        refine (script_next_nil _).mono ?_
        rintro e w3 ⟨rfl, hb3⟩
        have hb3' := hb3.alloc hb3.size (.cells #[.int .i64 0, .int .i64 0, .int .u64 0, .int .u64 0, .int .u64 0] 31)
        have hq := hb2'.trans (hb3'.mono hb2'.size)
        have S3 := Lib.hid (S2.out.below hb3')
        have I3 := Lib.hid (hI.out.below hq)
        have W3 := hW.trans (hq.mono hW.size)
        clear hb2 hb3 hb2' hb3' hq S2 hI hW hD
        go_wp2_with fail
        generalize hw4 : w3.alloc (.cells #[.int .i64 0, .int .i64 0, .int .u64 0, .int .u64 0, .int .u64 0] 31) = w4 at *
        have b0 : (0 : Int) ≤ (ds.length : Int) := by omega
        have b1 : (ds.length : Int) ≤ (c : Int) := by omega
        go_upto_region 16 with fail
        go_cut [4] (fun v wx => v = .bool true ∧ Below w.heap.size w wx)
        case first =>
          go_wp2_with fail
          go_region_held3 (fun w' => Ks w4 b g r [] (told ds ins ins.length) w.heap.size a ins.length c ins w')
            ((first | (with_reducible exact Ks.start S3.out I3.out) | ((with_reducible refine Ks.below ?_ hb5); assumption)))
            (first | (go_at_call 89; (with_reducible refine (ks_found (w0 := w4) (b := b) (g := g) (r := r) (left := []) (found := told ds ins ins.length) (hi := w.heap.size) (a := a) (c := c) (ins := ins) (n := ins.length) ?_ hlen).mono ?_); assumption; rintro e w' ⟨va, vc, rfl, hR, hb5⟩) | (go_at_call 89; (with_reducible refine (ks_none _).mono ?_); rintro e w' ⟨rfl, hb5⟩) |
              (go_at_call 88; (with_reducible refine (ks_same (w0 := w4) (b := b) (g := g) (r := r) (left := []) (found := told ds ins ins.length) (hi := w.heap.size) (a := a) (c := c) (ins := ins) hR ?_ HF.out (by omega) hlen).mono ?_); assumption; rintro e w' ⟨rfl, hb5⟩) | (go_at_call 84; refine (HA.out _).mono ?_; rintro e w' ⟨rfl, hb5⟩))
          all_goals go_wp2_with fail
          all_goals go_meet
          all_goals exact ⟨rfl, W3.trans ((Ks.out (by assumption)).mono W3.size)⟩
        case rest =>
          obtain ⟨rfl, hW⟩ := hcut
          go_wp2_with fail
          go_ret
          exact ⟨rfl, hW⟩
end Go.Proofs.Ytgkobmmannkegaa
