/-
  The row of WatchTells. No condition.
-/
import Derived.Test.YtmcjgfoaiannoaaOpen
import Derived.Test.YtmcjgfoaiannoaaPoolOpen
import Derived.Test.YtmcjgfoaiannoaaWatchW
namespace Go.Proofs.Ytmcjgfoaiannoaa
open Go.RowKit Go.Deep Go.ChangeShapes Go.WideShapes Go.ChangeAt

section
variable {H : Type} {enc : TypeId × Value → H} {W : World} {base : Nat}
set_option maxRecDepth 100000 in
/-- marks given as an argument -/
theorem open_marksArg {v : Value} {d : DataW H} {ps : List MemPlace} (hval : Value.okWide Try.prog W .any base 65 v) (h : DataW.Trod enc Try.prog W 0 (fun _ => true) true 65 v d ps) (hlt : ∀ x ∈ ps, x.block < W.heap.size) (hsz : ∀ n ∈ d.weights Try.prog 65, n ≤ reachBytes) :
    ∃ A c, ∃ l : List (Int × Int × Int), v = .slice A l.length c ∧ Rd 3 encH W W.heap.size A l ∧ l.length ≤ c ∧ c ≤ maxLen ∧ c * 24 ≤ reachBytes := by
  obtain ⟨a, n, c, hcs⟩ := okWide_slice Try.underlying65 hval
  subst hcs
  obtain ⟨fuel, hf⟩ := h
  obtain ⟨A, c', l, he, hr, h1, h2, h3⟩ := open_flat (B := W.heap.size) Try.underlying65 (show Try.prog.cellsOf 82 = 3 by kernel_rfl) (by omega) (show Try.prog.bytesOf 82 = 24 by kernel_rfl) open_mark hf hlt hsz
  refine ⟨A, c', l, ?_, hr, h1, h2, h3⟩
  simpa [Value.cells] using he
end
set_option maxRecDepth 100000 in
theorem watchTells_lifted (os : Os) (started : os.Started) (H : Type) (enc : TypeId × Value → H) :
    ReturnsInHanded {} Try.checked os 11 .any (Rows.watchTellsSpec.pre6 enc Try.prog Try.f11 [] false) (Rows.watchTellsSpec.post enc Try.prog Try.f11 false true false false) :=
  lifted_of (C := Try.checked) own laidOut os started 11 Try.f11 Rows.watchTellsSpec Try.func11 (by kernel_rfl) rfl
    (fun ds h => by
      rw [Try.params11] at h
      match ds, h with
      | [_, _, _], _ => rfl) 4 Try.underlying4 rfl (by kernel_rfl)
    (ChangeSpec.witness6 (enc := enc) (C := Try.checked) false ⟨#[], #[.agg #[.slice none 0 0, .slice none 0 0, .slice none 0 0, .int .i64 0, .int .i64 0, .int .i64 0, .int .i64 0, .slice none 0 0, .int .i64 0, .int .i64 0, .int .i64 0, .int .i64 0, .slice none 0 0, .slice none 0 0, .slice none 0 0, .slice none 0 0, .slice none 0 0], .int .i64 0, .slice none 0 0], []⟩ 8 (by kernel_rfl) (by kernel_rfl) (by kernel_rfl) (by kernel_rfl))
    (fun W base args ds ps hv hA hlt hsz => by
      rw [Try.params11] at hA hv hsz
      obtain ⟨v1, a1, d1, e1, p1, q1, ha, rfl, rfl, t1, r1⟩ := trodAll_cons hA
      obtain ⟨v2, a2, d2, e2, p2, q2, rfl, rfl, rfl, t2, r2⟩ := trodAll_cons r1
      obtain ⟨v3, a3, d3, e3, p3, q3, rfl, rfl, rfl, t3, r3⟩ := trodAll_cons r2
      obtain ⟨rfl, rfl, rfl⟩ := trodAll_nil r3
      obtain rfl : args = #[v1, v2, v3] := by cases args; simp_all
      obtain ⟨s1, D1, rfl, hr1, hf1, hc1, hd1⟩ := open_serverArg (hv 0 79 v1 rfl rfl) t1 (fun x hx => hlt x (by simp [hx])) (weights_each hsz 0 79 d1 rfl rfl)
      obtain ⟨n2, rfl, -⟩ := open_int Try.underlying3 (hv 1 3 v2 rfl rfl) t2
      obtain ⟨A3, c3, l3, rfl, hr3, h1_3, h2_3, h3_3⟩ := open_marksArg (hv 2 65 v3 rfl rfl) t3 (fun x hx => hlt x (by simp [hx])) (weights_each hsz 2 65 d3 rfl rfl)
      exact watchTells_walk s1 D1 n2 A3 c3 l3 W hr1 hf1 hc1 hd1 hr3 (by simp only [reachBytes] at h3_3; omega))
theorem watchTells_holds : Rows.WatchTellsSaid :=
  OpenClaim.holds_of_wide 11 Try.f11 rfl rfl rfl rfl rfl rfl rfl ⟨rfl, rfl, rfl, rfl, rfl⟩ rfl rfl rfl rfl rfl (by kernel_rfl) Try.func11 (by kernel_rfl)
    (of_decide_eq_true (by kernel_rfl)) (by unfold Func.isWrapper; first | (rw [if_pos (by decide +kernel)]; kernel_rfl) | (rw [if_neg (by decide +kernel)]; exact ⟨rfl, rfl⟩))
    (fun os started H enc _ => watchTells_lifted os started H enc)
#print axioms watchTells_holds
end Go.Proofs.Ytmcjgfoaiannoaa
