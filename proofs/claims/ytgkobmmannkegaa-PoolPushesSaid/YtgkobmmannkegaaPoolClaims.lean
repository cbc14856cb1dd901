/-
  The laws PoolPops and PoolPushes: the driver's walk joined with the tasks' machines.
-/
import Derived.Test.YtgkobmmannkegaaPoolRef
import Derived.Test.YtgkobmmannkegaaPoolAlone
namespace Go.Proofs.Ytgkobmmannkegaa
open Go Go.RowKit
set_option linter.unusedVariables false

theorem poolPops_walk (T S L G : Int) (inV : Value) (ins : List Int) (w : World) (hI : U64s w w.heap.size inV ins) (hn : ins.length ≤ 300) (hW : Wide ins) :
    Calls Try.prog 29 #[planV T S L G, inV] w fun e w' => e = .returned (.bool true) ∧ Below w.heap.size w w' :=
  PoolPops_drive T S L G inV ins w hI hn pop0 (fun b w1 s => w.heap.size < b ∧ Blk w1 b (popCells T S L G s) 210) (fun b k => k = b ∧ w.heap.size < k) (fun b k h => by omega)
    (mach_block w.heap.size (fun w b s => pop_nextY T S L G w b s) (fun w b s => pop_nextN T S L G w b s) (fun w b s x => pop_tell T S L G w b s x))
    (fun w1 h1 => (pop_new T S L G w1).mono fun e w' ⟨b, he, h2, h3, h4, h5⟩ => ⟨b, he, h3, ⟨by omega, h4⟩, h5⟩) popIndex (fun b w1 s h => pop_index T S L G _ _ _ h.2)
    (fun w1 x lo hF hlo => pop_ref T S L G w1 x lo inV ins hW hF hlo hn) pool_awake
theorem poolPops_long (T S L G : Int) (a : Option Addr) (n c : Nat) (w : World) (hn : 300 < n) :
    Calls Try.prog 29 #[planV T S L G, .slice a n c] w fun e w' => e = .returned (.bool true) ∧ Below w.heap.size w w' := by
  go_enter Try.func29, Try.ntmps29
  go_wp2_with fail
  refine (pool_awake _).mono ?_
  rintro e w1 ⟨rfl, hb⟩
  go_wp2_with fail
  go_ret
  exact ⟨rfl, Below.step _ hb⟩
theorem poolPushes_walk (T S L G i : Int) (inV : Value) (ins : List Int) (w : World) (hI : U64s w w.heap.size inV ins) (hn : ins.length ≤ 300) (hW : Wide ins) :
    Calls Try.prog 30 #[planV T S L G, .int .i64 i, inV] w fun e w' => e = .returned (.bool true) ∧ Below w.heap.size w w' :=
  PoolPushes_drive T S L G i inV ins w hI hn push0 (fun b w1 s => w.heap.size < b ∧ Blk w1 b (pushCells T S L G i s) 212) (fun b k => k = b ∧ w.heap.size < k) (fun b k h => by omega)
    (mach_block w.heap.size (fun w b s => push_nextY T S L G i w b s) (fun w b s => push_nextN T S L G i w b s) (fun w b s x => push_tell T S L G i w b s x))
    (fun w1 h1 => (push_new T S L G i w1).mono fun e w' ⟨b, he, h2, h3, h4, h5⟩ => ⟨b, he, h3, ⟨by omega, h4⟩, h5⟩)
    (fun w1 x lo hF hlo => push_ref T S L G i w1 x lo inV ins hW hF hlo hn) pool_awake
theorem poolPushes_long (T S L G i : Int) (a : Option Addr) (n c : Nat) (w : World) (hn : 300 < n) :
    Calls Try.prog 30 #[planV T S L G, .int .i64 i, .slice a n c] w fun e w' => e = .returned (.bool true) ∧ Below w.heap.size w w' := by
  go_enter Try.func30, Try.ntmps30
  go_wp2_with fail
  refine (pool_awake _).mono ?_
  rintro e w1 ⟨rfl, hb⟩
  go_wp2_with fail
  go_ret
  exact ⟨rfl, Below.step _ hb⟩
end Go.Proofs.Ytgkobmmannkegaa
