/-
  The row of PoolFull. No condition.
-/
import Derived.Test.YtmcjgfoaiannoaaOpen
import Derived.Test.YtmcjgfoaiannoaaPoolFWalk
namespace Go.Proofs.Ytmcjgfoaiannoaa
open Go.RowKit Go.Deep Go.ChangeShapes Go.WideShapes Go.ChangeAt

set_option maxRecDepth 100000 in
theorem poolFull_lifted (os : Os) (started : os.Started) (H : Type) (enc : TypeId × Value → H) :
    ReturnsInHanded {} Try.checked os 10 .any (Rows.poolFullSpec.pre6 enc Try.prog Try.f10 [] false) (Rows.poolFullSpec.post enc Try.prog Try.f10 false true false false) :=
  lifted_of (C := Try.checked) own laidOut os started 10 Try.f10 Rows.poolFullSpec Try.func10 (by kernel_rfl) rfl
    (fun ds h => by
      rw [Try.params10] at h
      match ds, h with
      | [_, _], _ => rfl) 4 Try.underlying4 rfl (by kernel_rfl)
    (ChangeSpec.witness6 (enc := enc) (C := Try.checked) false ⟨#[], #[.int .i64 0, .int .i64 0], []⟩ 8 (by kernel_rfl) (by kernel_rfl) (by kernel_rfl) (by kernel_rfl))
    (fun W base args ds ps hv hA hlt hsz => by
      rw [Try.params10] at hA hv hsz
      obtain ⟨v1, a1, d1, e1, p1, q1, ha, rfl, rfl, t1, r1⟩ := trodAll_cons hA
      obtain ⟨v2, a2, d2, e2, p2, q2, rfl, rfl, rfl, t2, r2⟩ := trodAll_cons r1
      obtain ⟨rfl, rfl, rfl⟩ := trodAll_nil r2
      obtain rfl : args = #[v1, v2] := by cases args; simp_all
      obtain ⟨n1, rfl, -⟩ := open_int Try.underlying3 (hv 0 3 v1 rfl rfl) t1
      obtain ⟨n2, rfl, -⟩ := open_int Try.underlying3 (hv 1 3 v2 rfl rfl) t2
      exact poolFull_walk n1 n2 W)
theorem poolFull_holds : Rows.PoolFullSaid :=
  OpenClaim.holds_of_wide 10 Try.f10 rfl rfl rfl rfl rfl rfl rfl ⟨rfl, rfl, rfl, rfl, rfl⟩ rfl rfl rfl rfl rfl (by kernel_rfl) Try.func10 (by kernel_rfl)
    (of_decide_eq_true (by kernel_rfl)) (by unfold Func.isWrapper; first | (rw [if_pos (by decide +kernel)]; kernel_rfl) | (rw [if_neg (by decide +kernel)]; exact ⟨rfl, rfl⟩))
    (fun os started H enc _ => poolFull_lifted os started H enc)
#print axioms poolFull_holds
end Go.Proofs.Ytmcjgfoaiannoaa
