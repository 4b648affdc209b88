/-
  A slice of ints as an argument: what its cells are. No condition.
-/
import Derived.Test.YtmcjgfoaiannoaaOpen
namespace Go.Proofs.Ytmcjgfoaiannoaa
open Go.RowKit Go.Deep Go.ChangeShapes Go.WideShapes Go.ChangeAt

def encI (n : Int) : List Value := [.int .i64 n]
section
variable {H : Type} {enc : TypeId × Value → H} {W : World} {base : Nat}
theorem open_intElem (n : Nat) (ecs : List Value) (x : DataW H × List MemPlace) (h : DataW.trod enc Try.prog W 0 (fun _ => true) true n 3 ecs = some x) : ∃ a : Int, ecs = encI a := by
  obtain ⟨n0, h0, _, _⟩ := DataW.trod_int Try.underlying3 h
  exact ⟨n0, h0⟩
set_option maxRecDepth 100000 in
/-- ints given as an argument -/
theorem open_intsArg {v : Value} {d : DataW H} {ps : List MemPlace} (hval : Value.okWide Try.prog W .any base 44 v) (h : DataW.Trod enc Try.prog W 0 (fun _ => true) true 44 v d ps) (hlt : ∀ x ∈ ps, x.block < W.heap.size) (hsz : ∀ n ∈ d.weights Try.prog 44, n ≤ reachBytes) :
    ∃ A c, ∃ l : List Int, v = .slice A l.length c ∧ Rd 1 encI W W.heap.size A l ∧ l.length ≤ c ∧ c ≤ maxLen ∧ c * 8 ≤ reachBytes := by
  obtain ⟨a, n, c, hcs⟩ := okWide_slice Try.underlying44 hval
  subst hcs
  obtain ⟨fuel, hf⟩ := h
  obtain ⟨A, c', l, he, hr, h1, h2, h3⟩ := open_flat (B := W.heap.size) Try.underlying44 (show Try.prog.cellsOf 3 = 1 by kernel_rfl) (by omega) (show Try.prog.bytesOf 3 = 8 by kernel_rfl) open_intElem hf hlt hsz
  refine ⟨A, c', l, ?_, hr, h1, h2, h3⟩
  simpa [Value.cells] using he
end
end Go.Proofs.Ytmcjgfoaiannoaa
