/-
  From what a row lists to the fact of the library's table of powers of ten.
-/
import Derived.Test.YtippfkokgpdmdaaDoorKitD
import Derived.Test.YtippfkokgpdmdaaDoorUint
import Derived.LaidSub
import Derived.Lib.LaidTab
namespace Go.Proofs.YtippfkokgpdmdaaDoor
open Go Go.RowKit
set_option linter.unusedVariables false

theorem tab_global : Tryd.prog.globalNamed "internal/strconv.uint64pow10" = some 0 := by kernel_rfl
theorem tab_type : ∃ t, (Tryd.prog.globals[0]?).map (·.type) = some t ∧ Tryd.prog.underlying t = some (.array 20 22) ∧ Tryd.prog.cellsOf t = 20 := ⟨_, rfl, by kernel_rfl, by kernel_rfl⟩
theorem tab_data : (Rows.laid_internal_strconv_uint64pow10 : DataW Unit) = Lib.tabData .u64 Lib.pow10Tab := by kernel_rfl
theorem laid_tail {P : Program} {w : World} {x : String × DataW Unit} {l : List (String × DataW Unit)} (h : laidMet P (x :: l) w) : laidMet P l w := by
  obtain ⟨ps, ⟨g, t, cs, fuel, p, q, a1, a2, a3, a4, a5, rfl⟩, h2, h3⟩ := h
  exact ⟨q, a5, (List.nodup_append.1 h2).2.1, fun b off hp => h3 b off (List.mem_append_right _ hp)⟩
theorem tab_of_listed {W : World} (h : laidMetH Tryd.prog listed W) : Tab W := by
  have e : (listed.filter fun x => x.2.handleName?.isNone) = listed := by kernel_rfl
  have h1 := (laidMetH_iff.1 h).1
  rw [e] at h1
  have h2 := laid_tail (laid_tail h1)
  rw [tab_data] at h2
  obtain ⟨t, t1, t2, t3⟩ := tab_type
  exact Lib.tabIs_of_head tab_global t1 t2 Tryd.underlying22 (by kernel_rfl) t3 h2
end Go.Proofs.YtippfkokgpdmdaaDoor
