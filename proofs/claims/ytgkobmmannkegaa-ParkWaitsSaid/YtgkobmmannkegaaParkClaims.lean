/-
  The law ParkAsks: joined with the driver's walk; any length of the list.
-/
import Derived.Test.YtgkobmmannkegaaParkAwake
namespace Go.Proofs.Ytgkobmmannkegaa
open Go Go.RowKit
set_option linter.unusedVariables false
theorem parkAsks_walk (T S L G th un : Int) (inV : Value) (ins : List Int) (w : World) (hI : U64s w w.heap.size inV ins) (hn : ins.length ≤ 300) :
    Calls Try.prog 6 #[planV T S L G, .agg #[.int .i64 th, .int .i64 un], inV] w fun e w' => e = .returned (.bool true) ∧ Below w.heap.size w w' :=
  ParkAsks_drive T S L G th un inV ins w hI hn (pkLook (wrap64 (4 + 2 * T + th))) (pkAt (wrap64 (4 + 2 * T + th)) un (w.heap.size + 1)) (fun b k => k = b ∧ w.heap.size + 1 < k) (fun b k h => by omega)
    (fun b => pk_rep _ _ _ b) (fun w1 h1 => (pk_new T S L G th un (w.heap.size + 1) w1 (by omega)).mono fun e w' ⟨b, he, h2, h3, h4, h5⟩ => ⟨b, he, h3, h4, h5⟩)
    (fun w1 x lo hF hlo => pk_ref T S L G th un w1 x lo inV ins hF hlo hn) pk_awake
theorem parkAsks_long (T S L G th un : Int) (a : Option Addr) (n c : Nat) (w : World) (hn : 300 < n) :
    Calls Try.prog 6 #[planV T S L G, .agg #[.int .i64 th, .int .i64 un], .slice a n c] w fun e w' => e = .returned (.bool true) ∧ Below w.heap.size w w' := by
  go_enter Try.func6, Try.ntmps6
  go_wp2_with fail
  refine (pk_awake _).mono ?_
  rintro e w1 ⟨rfl, hb⟩
  go_wp2_with fail
  go_ret
  exact ⟨rfl, Below.step _ (Below.step _ hb)⟩
end Go.Proofs.Ytgkobmmannkegaa
