/-
  Play (chapter 11), walked.
-/
import Derived.Test.YtgkobmmannkegaaStepsIter
namespace Go.Proofs.Ytgkobmmannkegaa
open Go Go.RowKit Go.Shelf
set_option linter.unusedVariables false

attribute [local go_sem] Oper.semAt_some
theorem wpListIn_append_u64 {F : Fence} {n : Nat} {w : World} {ops : Array Oper} {rest : List Oper} {o : Oper} {a : Act} {Q : Exit → Act → World → Prop} (hgd : o.guard = none) (s x : Operand)
    (ho : o.op = .call { callee := .builtin .append, args := #[s, x], argTypes := #[25, 25] }) (lo : Nat) (v : Value) (l : List Int) (k m : Nat) (hk : l.length = k) (hm : m = k + 1) (hs : a.eval s = v) (hD : w.ownsRow lo 22 1 v k (u64s l)) (y : Int)
    (B : Nat) (hx : a.eval x = .slice (some ⟨B, 0, none⟩) 1 1) (hB : Blk w B [.int .u64 y] 22) (hn : l.length ≤ 60000) (hlo : lo ≤ w.heap.size)
    (h : ∀ va vc w', w'.ownsRow lo 22 1 (.slice va m vc) m (u64s (l ++ [y])) → w.grownBy w' v.ownBlock → (Value.ownBlock (.slice va m vc) = v.ownBlock ∨ Value.ownBlock (.slice va m vc) = some w.heap.size) → wpListIn F n Try.prog ops Q rest (a.put o.dst (.slice va m vc)) w') :
    wpListIn F n Try.prog ops Q (o :: rest) a w := by
  subst hk hm
  refine wpListIn_plain hgd fun K hK' => ?_
  obtain ⟨i0, hi, hz0, hz1, hz2⟩ := info_parts info22
  obtain ⟨v', w', hrun, h2, h3, _, h5⟩ := run_append_own_at (P := Try.prog) w lo 25 o.type 22 i0 _ 1 8 Try.underlying25 hi hz0 hz1 hz2 rfl (by decide) v l.length (u64s l) hD ⟨B, 0, none⟩ 1 1 [.int .u64 y] rfl
    (fun j u hu => by rw [Addr.add_lit, Nat.zero_add, hB.cell]; exact hu) (by intro u hu; simp at hu; subst hu; rfl) (by unfold maxLen; omega) (by omega) hlo
  obtain ⟨va, vc, rfl⟩ := owns_shape h2
  have h2' : w'.ownsRow lo 22 1 (.slice va (l.length + 1) vc) (l.length + 1) (u64s (l ++ [y])) := by
    rw [show u64s (l ++ [y]) = u64s l ++ [.int .u64 y] by simp [u64s]]
    exact h2
  unfold Oper.wpIn
  refine ⟨?_, ?_⟩
  · simp [Oper.about, ho, resolve, Target.leads, Sem.run_pure]
  · rw [Oper.semAt_plain F _ _ (by rw [ho]; intro c hc'; cases hc')]
    simp [execOp, ho, resolve, invoke, builtin, hs, hx, hrun, Result.andThen]
    exact hK' _ _ (h va vc w' h2' h3 h5)
/-- What the loop of Play rests on: what was found so far, in a row of its own. -/
structure PlayI (w0 : World) (B lo ob mb : Nat) (most : Int) (p : At) (pre : List (D × Int)) (r : Nat) (va : Option Addr) (vc : Nat) (W : World) : Prop where
  hob : Blk W ob [.slice va pre.length vc] 25
  hmb : Blk W mb [.int .i64 most] 3
  row : W.ownsRow B 22 1 (.slice va pre.length vc) pre.length (u64s (pre.map Prod.snd))
  nq : ∀ q, Value.ownBlock (.slice va pre.length vc) = some q → q ≠ r
  nr : r ≠ ob ∧ r ≠ mb ∧ lo ≤ r
  mod : Mod (fun q => lo ≤ q) w0 W
theorem PlayI.turn {w0 W W' : World} {B lo ob mb : Nat} {most : Int} {p : At} {pre : List (D × Int)} {r : Nat} {va : Option Addr} {vc : Nat} {row : Option Nat} (h : PlayI w0 B lo ob mb most p pre r va vc W) (hg : W.grownBy W' row) (hrow : ∀ q, row = some q → B ≤ q ∧ ∃ o : Obj, W.heap[q]? = some o ∧ o.isCells = false) (hB : lo ≤ B) : PlayI w0 B lo ob mb most p pre r va vc W' :=
  have hr := fun q e => (hrow q e).2
  ⟨h.hob.turn hg hr, h.hmb.turn hg hr, ownsRow_turn hg hr h.row, h.nq, h.nr, h.mod.grown hg (fun k e _ => Nat.le_trans hB (hrow k e).1)⟩
theorem PlayI.step {w0 W W' : World} {B lo ob mb : Nat} {most : Int} {p : At} {pre : List (D × Int)} {r r' : Nat} {va : Option Addr} {vc : Nat} (h : PlayI w0 B lo ob mb most p pre r va vc W) (hm : Mod (stepOwn p r) W W') (hs : ∀ k, stepOwn p r' k → stepOwn p r k ∨ W.heap.size ≤ k)
    (hp : p.sb < B ∧ p.cg < B ∧ p.sb ≠ ob ∧ p.cg ≠ ob ∧ p.sb ≠ mb ∧ p.cg ≠ mb ∧ lo ≤ p.sb ∧ lo ≤ p.cg ∧ lo ≤ ob) : PlayI w0 B lo ob mb most p pre r' va vc W' := by
  have l1 := h.hob.lt
  have l2 := h.hmb.lt
  have hlo := h.mod.size
  have hnr := h.nr
  have hr' := hs r' (.inr (.inl rfl))
  have hr2 : r' = p.sb ∨ r' = r ∨ r' = p.cg ∨ W.heap.size ≤ r' := by
    rcases hr' with (h | h | h) | h
    · exact .inl h
    · exact .inr (.inl h)
    · exact .inr (.inr (.inl h))
    · exact .inr (.inr (.inr h))
  have hq := fun q e => World.ownsRow.lt h.row q e
  refine ⟨hm.blk h.hob ?_, hm.blk h.hmb ?_, ?_, ?_, ?_, h.mod.trans' (hm.mono ?_)⟩
  · rintro (e | e | e) <;> omega
  · rintro (e | e | e) <;> omega
  · refine ⟨h.row.1, ?_⟩
    rcases h.row.2 with hn | ⟨q, cap, cur, e, h0, hh, rest⟩
    · exact .inl hn
    · refine .inr ⟨q, cap, cur, e, h0, ?_, rest⟩
      have h1 := h.nq q (by rw [e]; rfl)
      rw [hm.block q (Array.getElem?_eq_some_iff.1 hh).1 (by rintro (e | e | e) <;> omega)]
      exact hh
  · intro q e
    have h1 := h.nq q e
    have h2 := hq q e
    omega
  · have hsz := hm.size
    have : lo ≤ W.heap.size := by omega
    omega
  · rintro k _ (e | e | e) <;> omega
theorem ScriptAt.home {w : World} {b g r : Nat} {left : List D} {found : List Int} (h : ScriptAt w b g r left found) (x : Nat) (hx : x ≠ b) : ∃ g', ScriptAt w b g' r left found ∧ (g' = g ∧ g < w.heap.size ∨ g' = x) := by
  by_cases h0 : 0 < left.length
  · exact ⟨g, h, .inl ⟨rfl, h.lt.2.2 h0⟩⟩
  · have : left = [] := List.eq_nil_of_length_eq_zero (by omega)
    subst this
    obtain ⟨lv, fv, hB, hD, hO, hk⟩ := h.ex
    obtain ⟨a, c, hv, hc, _⟩ := hD.ex
    exact ⟨x, ⟨⟨lv, fv, hB, ⟨a, c, hv, hc, fun hn => absurd hn h0⟩, hO, hk⟩, ⟨hx, fun hn => absurd hn h0⟩, h.size⟩, .inr rfl⟩
theorem play_done {w0 W : World} {B lo ob mb : Nat} {most : Int} {p : At} {ds : List D} {ws : List Int} {pre : List (D × Int)} {r : Nat} {va : Option Addr} {vc : Nat} {D : Nat} (hI : PlayI w0 B lo ob mb most p pre r va vc W) (hK : StepSt p ds ws pre r W) (hD : B ≤ D) (hDD : W.heap[D]? = some (.deferred (some []))) (hlo : lo ≤ B) :
    U64s (W.putObj D (.deferred none)) (W.putObj D (.deferred none)).heap.size (.slice va pre.length vc) (pre.map Prod.snd) ∧ CellsAt (W.putObj D (.deferred none)) p.cb p.cg (playW ds ws pre.length) ∧ Mod (fun q => lo ≤ q) w0 (W.putObj D (.deferred none)) := by
  have hg := grownBy_putObj' W D (.deferred none)
  have hr : ∀ q, some D = some q → ∃ o : Obj, W.heap[q]? = some o ∧ o.isCells = false := fun q e => by cases e; exact ⟨_, hDD, rfl⟩
  have hR := ownsRow_turn hg hr hI.row
  refine ⟨?_, hK.ce.turn hg hr, hI.mod.grown hg (fun q e _ => by cases e; omega)⟩
  have := own_u64s (hi := (W.putObj D (.deferred none)).heap.size) (ws := pre.map Prod.snd) (v := .slice va pre.length vc) (by rw [List.length_map]; exact hR) (Nat.le_refl _)
  exact this
set_option maxHeartbeats 4000000 in
set_option maxRecDepth 100000 in
theorem play_some (w : World) (lo sb sg cb cg : Nat) (ds : List D) (ws : List Int) (most : Int) (hS : ScriptAt w sb sg sb ds []) (hC : CellsAt w cb cg ws) (hm : 1 ≤ most) (hn : ds.length ≤ 60000) (hlo : lo ≤ sb ∧ lo ≤ cg) (hap : sb ≠ cg ∧ sb ≠ cb ∧ sg ≠ cg) :
    Calls Try.prog 130 #[.pointer (some ⟨cb, 0, none⟩), .iface 73 (.pointer (some ⟨sb, 0, none⟩)), .int .i64 most] w fun e w' => ∃ va vc pre, e = .returned (.slice va pre.length vc) ∧ pre = (playL ds ws).take most.toNat ∧ U64s w' w'.heap.size (.slice va pre.length vc) (pre.map Prod.snd) ∧ CellsAt w' cb cg (playW ds ws pre.length) ∧ Mod (fun q => lo ≤ q) w w' := by
  have ls := hS.lt
  have lc := hC.lt
  have HS := Lib.hid hS
  have HC := Lib.hid hC
  have hm2 : decide (most < 1) = false := by simp; omega
  clear hS hC
  refine (callsIn_wide (n := 3)).1 ?_
  refine callsIn_of_wp_marks Try.func130 rfl trivial ?_
  simp only [Try.ntmps130, List.size_toArray, List.length_cons, List.length_nil, Nat.reduceAdd, Nat.reduceSub, Array.replicate_succ, Array.replicate_zero, List.push_toArray, List.append_toArray, List.nil_append, List.cons_append]
  gi_wp2_with (refine ⟨trivial, ?_⟩; gi_at_call 129; refine (callsIn_wide.2 (steps_new _ _ _ ⟨_, rfl⟩ ⟨_, rfl⟩)).mono ?_; rintro e w' ⟨rfl, rfl⟩)
  obtain ⟨W4, hW4⟩ : ∃ W, W = (((w.alloc (.cells #[.int .i64 most] 3)).alloc (.cells #[.slice none 0 0] 25)).alloc (.cells #[.pointer (some ⟨cb, 0, none⟩)] 67)).alloc (.cells #[.iface 73 (.pointer (some ⟨sb, 0, none⟩))] 196) := ⟨_, rfl⟩
  have b4 : Below w.heap.size w W4 := by rw [hW4]; exact ((((Below.refl _ _).alloc (Nat.le_refl _) _).alloc (by simp) _).alloc (by simp; omega) _).alloc (by simp; omega) _
  have mB : Blk W4 w.heap.size [.int .i64 most] 3 := by rw [hW4]; exact (((Blk.new w [.int .i64 most] 3).alloc _).alloc _).alloc _
  have oB : Blk W4 (w.heap.size + 1) [.slice none 0 0] 25 := by
    rw [hW4]
    have := ((Blk.new (w.alloc (.cells #[.int .i64 most] 3)) [.slice none 0 0] 25).alloc (.cells #[.pointer (some ⟨cb, 0, none⟩)] 67)).alloc (.cells #[.iface 73 (.pointer (some ⟨sb, 0, none⟩))] 196)
    simpa using this
  have cB : Blk W4 (w.heap.size + 1 + 1) [.pointer (some ⟨cb, 0, none⟩)] 67 := by
    rw [hW4]
    have := (Blk.new ((w.alloc (.cells #[.int .i64 most] 3)).alloc (.cells #[.slice none 0 0] 25)) [.pointer (some ⟨cb, 0, none⟩)] 67).alloc (.cells #[.iface 73 (.pointer (some ⟨sb, 0, none⟩))] 196)
    simpa using this
  have tB : Blk W4 (w.heap.size + 1 + 1 + 1) [.iface 73 (.pointer (some ⟨sb, 0, none⟩))] 196 := by
    rw [hW4]
    have := Blk.new (((w.alloc (.cells #[.int .i64 most] 3)).alloc (.cells #[.slice none 0 0] 25)).alloc (.cells #[.pointer (some ⟨cb, 0, none⟩)] 67)) [.iface 73 (.pointer (some ⟨sb, 0, none⟩))] 196
    simpa using this
  have z4 : W4.heap.size = w.heap.size + 4 := by rw [hW4]; simp
  rw [← hW4]
  clear hW4
  obtain ⟨sg', hS', hsg'⟩ := HS.out.home (w.heap.size + 1 + 1 + 1) (by omega)
  replace hS' := hS'.below b4
  have lsg : (sg' < w.heap.size ∨ sg' = w.heap.size + 3) ∧ sg' ≠ cg := by
    rcases hsg' with ⟨rfl, h⟩ | rfl
    · exact ⟨.inl h, hap.2.2⟩
    · omega
  obtain ⟨p, hp⟩ : ∃ p : At, p = ⟨sb, sg', cb, cg, w.heap.size + 1 + 1 + 1, w.heap.size + 1 + 1⟩ := ⟨_, rfl⟩
  have q1 : p.sb = sb := by rw [hp]
  have q2 : p.sg = sg' := by rw [hp]
  have q3 : p.cb = cb := by rw [hp]
  have q4 : p.cg = cg := by rw [hp]
  have q5 : p.tb = w.heap.size + 1 + 1 + 1 := by rw [hp]
  have q6 : p.cx = w.heap.size + 1 + 1 := by rw [hp]
  have hpa : p.apart := by unfold At.apart; omega
  have K0 : StepSt p ds ws [] sb W4 := ⟨List.nil_prefix, by rw [q5, q1]; exact tB, by rw [q6, q3]; exact cB, by rw [q1, q2]; exact hS', by rw [List.length_nil, playW_zero, q3, q4]; exact HC.out.below b4, by omega⟩
  have I0 : PlayI w W4.heap.size lo (w.heap.size + 1) w.heap.size most p [] sb none 0 W4 := ⟨oB, mB, World.ownsRow_nil _ _ _ _, fun q hq => by simp [Value.ownBlock] at hq, by omega, Mod.of_below b4⟩
  have it := steps_iter p ds ws hpa hn 2 (by omega)
  have hp2 : p.sb < W4.heap.size ∧ p.cg < W4.heap.size ∧ p.sb ≠ w.heap.size + 1 ∧ p.cg ≠ w.heap.size + 1 ∧ p.sb ≠ w.heap.size ∧ p.cg ≠ w.heap.size ∧ lo ≤ p.sb ∧ lo ≤ p.cg ∧ lo ≤ w.heap.size + 1 := by omega
  have hlo4 : lo ≤ W4.heap.size := by omega
  have hown0 : ∀ k, stepOwn p sb k → k < W4.heap.size := by
    rintro k (e | e | e) <;> omega
  rw [q5, q6] at it
  clear hp mB oB cB tB hS' hsg'
  refine wpIn_rangeFunc_task rfl (by omega) (gf := 182) (lb := #[.pointer (some ⟨w.heap.size + 1 + 1 + 1, 0, none⟩), .pointer (some ⟨w.heap.size + 1 + 1, 0, none⟩)]) rfl trivial (enters_of Try.func182 (by kernel_rfl) rfl) it (StepSt.keeps p ds ws _) (fun _ => rfl) sb hown0
    (fun pre r W => (pre.length : Int) < most ∧ ∃ va vc, PlayI w W4.heap.size lo (w.heap.size + 1) w.heap.size most p pre r va vc W)
    (fun c pre r W => c = .exit 0 ∧ (pre.length : Int) = most ∧ StepSt p ds ws pre r W ∧ ∃ va vc, PlayI w W4.heap.size lo (w.heap.size + 1) w.heap.size most p pre r va vc W)
    ?hI ?hIx ?hIm ⟨by simp; omega, _, _, I0⟩ K0 (fun x a' _ => a' = { tmps := #[.pointer (some ⟨cb, 0, none⟩), .iface 73 (.pointer (some ⟨sb, 0, none⟩)), .int .i64 most, undef, undef, .pointer (some ⟨w.heap.size, 0, none⟩), .slice none 0 0, .pointer (some ⟨w.heap.size + 1, 0, none⟩), undef, .int .u64 x.2, .int .i64 most, .bool false, undef, .pointer (some ⟨cb, 0, none⟩), .iface 73 (.pointer (some ⟨sb, 0, none⟩)), .func (.func 182) #[] #[.pointer (some ⟨w.heap.size + 1 + 1 + 1, 0, none⟩), .pointer (some ⟨w.heap.size + 1 + 1, 0, none⟩)],
      .agg #[.int .i64 x.1.k, .int .i64 x.1.at_, .int .u64 x.1.a, .int .u64 x.1.b, .int .u64 x.1.by_], .int .u64 x.2, undef, undef, undef, undef, undef, undef, undef, undef, undef], defers := [] }) (fun _ _ _ _ _ _ h _ _ => h) ?assign ?body ?done ?stop
  case hI =>
    rintro pre r W W' row ⟨h1, va, vc, h2⟩ hg hrow
    exact ⟨h1, va, vc, h2.turn hg hrow hlo4⟩
  case hIx =>
    rintro c pre r W W' row ⟨h0, h1, h3, va, vc, h2⟩ hg hrow
    exact ⟨h0, h1, StepSt.keeps p ds ws _ _ _ _ _ _ h3 hg hrow, va, vc, h2.turn hg hrow hlo4⟩
  case hIm =>
    rintro pre r r' W W' ⟨h1, va, vc, h2⟩ hm hs
    exact ⟨h1, va, vc, h2.step hm hs hp2⟩
  case assign =>
    intro l pre x rest s W K hall hi hk hK
    dsimp only [stepEnc]
    gi_wp2
    exact hK _ _ (KeepsOthers.refl _) hi hk rfl
  case body =>
    rintro l pre x rest r a' W hall ⟨hlt, va, vc, hI⟩ hK rfl
    have hkd : pre.length < ds.length := let ⟨h, _⟩ := playL_cut hall; h
    have hO := hI.row
    have oB := hI.hob
    have mB := hI.hmb
    obtain ⟨k, hk⟩ : ∃ k, pre.length = k := ⟨_, rfl⟩
    have hlen : (pre.map Prod.snd).length = k := by rw [List.length_map, hk]
    rw [hk] at hO oB hlt hkd
    have zt := hK.tk.lt
    have oA := oB.alloc (.cells #[.int .u64 x.2] 22)
    have mA := mB.alloc (.cells #[.int .u64 x.2] 22)
    have OA := Lib.hid (hO.alloc (.cells #[.int .u64 x.2] 22))
    have BN := Lib.hid (Blk.new W [.int .u64 x.2] 22)
    have C1 := oB.cell
    have HK := Lib.hid hk
    have HO := Lib.hid hO
    have HKS := Lib.hid hK
    have HI := Lib.hid hI
    have HALL := Lib.hid hall
    have HLEN := Lib.hid hlen
    clear hk hO hK hI hall hlen
    gi_wp2_with (gi_at_builtin; refine wpListIn_append_u64 rfl (.tmp 18) (.tmp 20) rfl W4.heap.size _ (pre.map Prod.snd) k (k + 1) HLEN.out rfl rfl OA.out x.2 W.heap.size rfl BN.out (by rw [HLEN.out]; omega) (by rw [World.size_alloc]; omega) ?_)
    intro va' vc' w1 hO1 hg1 hv1
    have oB1 := grown_blk hg1 oA (own_ne OA.out oA (by decide))
    have mB1 := grown_blk hg1 mA (own_ne OA.out mA (by decide))
    have hge := fun q hq => own_ge OA.out q hq
    have K1 := Lib.hid ((HKS.out.below ((Below.refl _ _).alloc (Nat.le_refl _) (.cells #[.int .u64 x.2] 22))).mod (S := fun q => Value.ownBlock (.slice va k vc) = some q) ((Mod.refl _ _).grown hg1 (fun q hq _ => hq))
      (fun e => by have := hge _ e; omega) (fun e => by have := hge _ e; omega) (fun e => by have := hge _ e; omega) (fun e => by have := hge _ e; omega) (fun e => HI.out.nq _ (by rw [HK.out]; exact e) rfl) (fun e => by have := hge _ e; omega) (fun e => by have := hge _ e; omega))
    have C2 := oB1.cell
    have F2 := oB1.frozen
    have C3 := mB1.cell
    have hKO : KeepsOthers W (w1.setCell ⟨w.heap.size + 1, 0, none⟩ (.slice va' (k + 1) vc')) := (KeepsOthers.alloc W _).trans ((KeepsOthers.of_grownBy hg1 (fun j o e ho => by
      rcases OA.out.2 with ⟨h1, _⟩ | ⟨q, cap, cur, h1, _, hh, _⟩
      · rw [h1] at e
        simp [Value.ownBlock] at e
      · rw [h1] at e
        simp [Value.ownBlock] at e
        subst e
        rw [ho] at hh
        injection hh with hh
        rw [hh]
        rfl)).trans (KeepsOthers.setCell _ _ _))
    have hlr := HKS.out.sc.lt.2.1
    have hmo : Mod (fun q => q = w.heap.size + 1) w1 (w1.setCell ⟨w.heap.size + 1, 0, none⟩ (.slice va' (k + 1) vc')) := Mod.one _ _ _ _
    have hL2 : (pre ++ [x]).length = k + 1 := by rw [List.length_append, List.length_singleton, HK.out]
    have PI : PlayI w W4.heap.size lo (w.heap.size + 1) w.heap.size most p (pre ++ [x]) r va' vc' (w1.setCell ⟨w.heap.size + 1, 0, none⟩ (.slice va' (k + 1) vc')) := by
      refine ⟨by rw [hL2]; exact oB1.set 0 _, hmo.blk mB1 (by omega), ?_, ?_, HI.out.nr, ?_⟩
      · rw [hL2, List.map_append, z4]
        have := ownsRow_mod hO1 hmo (fun q hq => by omega)
        simpa [u64s] using this
      · rw [hL2]
        intro q hq
        rcases hv1 with e | e
        · exact HI.out.nq q (by rw [HK.out, ← e]; exact hq)
        · rw [e] at hq
          simp at hq
          omega
      · exact (((HI.out.mod.alloc _).grown hg1 (fun q e _ => Nat.le_trans hlo4 (hge q e)))).trans' (hmo.mono (fun q _ e => by omega))
    have K2 : StepSt p ds ws (pre ++ [x]) r (w1.setCell ⟨w.heap.size + 1, 0, none⟩ (.slice va' (k + 1) vc')) := K1.out.mod hmo (by omega) (by omega) (by omega) (by omega) HI.out.nr.1 (by omega) (by omega)
    have hl3 : ((pre ++ [x]).length : Int) = (k : Int) + 1 := by rw [hL2]; omega
    have HKO := Lib.hid hKO
    have HPI := Lib.hid PI
    have HK2 := Lib.hid K2
    have HL3 := Lib.hid hl3
    clear hKO hmo hL2 PI K2 hl3 hO1 hg1 hv1 oB1 mB1 hge K1 oA mA OA BN oB mB HO HKS HI C1
    by_cases heq : (k : Int) + 1 = most
    · have hb : ((k : Int) + 1 == most) = true := by simpa using heq
      gi_wp2
      exact ⟨HKO.out, rfl, by rw [HL3.out]; exact heq, HK2.out, _, _, HPI.out⟩
    · have hb : ((k : Int) + 1 == most) = false := by simpa using heq
      gi_wp2
      exact ⟨HKO.out, ⟨by rw [HL3.out]; omega, _, _, HPI.out⟩, HK2.out⟩
  case done =>
    rintro D r W hD ⟨hlt, va, vc, hI⟩ hK hDD
    have C1 := hI.hob.cell
    have hlt2 : most.toNat ≥ (playL ds ws).length := by omega
    have FIN := Lib.hid (play_done hI hK hD hDD hlo4)
    clear hI hK
    gi_wp2
    refine ⟨by simp, .inl ⟨_, _, rfl, run_takeDeferred hDD, ?_⟩⟩
    exact ⟨_, results_tmp rfl _ _ _, va, vc, playL ds ws, rfl, (List.take_of_length_le hlt2).symm, FIN.out.1, by rw [← q3, ← q4]; exact FIN.out.2.1, FIN.out.2.2⟩
  case stop =>
    rintro D c pre r W hD hpre ⟨rfl, hlen, hK, va, vc, hI⟩ hDD
    have C1 := hI.hob.cell
    have hpre2 : pre = (playL ds ws).take most.toNat := by
      rw [show most.toNat = pre.length by omega]
      exact playL_pre hpre
    have FIN := Lib.hid (play_done hI hK hD hDD hlo4)
    have HPRE := Lib.hid hpre2
    clear hI hK hpre2
    gi_wp2
    refine ⟨by simp, .inl ⟨_, _, rfl, run_takeDeferred hDD, ?_⟩⟩
    exact ⟨_, results_tmp rfl _ _ _, va, vc, pre, rfl, HPRE.out, FIN.out.1, by rw [← q3, ← q4]; exact FIN.out.2.1, FIN.out.2.2⟩
end Go.Proofs.Ytgkobmmannkegaa
