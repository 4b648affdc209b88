/-
  The row of PoolTurn. No condition.
-/
import Derived.Test.YtmcjgfoaiannoaaOpen
import Derived.Test.YtmcjgfoaiannoaaPoolNWalk
namespace Go.Proofs.Ytmcjgfoaiannoaa
open Go.RowKit Go.Deep Go.ChangeShapes Go.WideShapes Go.ChangeAt

set_option maxRecDepth 100000 in
theorem poolTurn_lifted (os : Os) (started : os.Started) (H : Type) (enc : TypeId × Value → H) :
    ReturnsInHanded {} Try.checked os 9 .any (Rows.poolTurnSpec.pre6 enc Try.prog Try.f9 [] false) (Rows.poolTurnSpec.post enc Try.prog Try.f9 false true false false) :=
  lifted_of (C := Try.checked) own laidOut os started 9 Try.f9 Rows.poolTurnSpec Try.func9 (by kernel_rfl) rfl
    (fun ds h => by
      rw [Try.params9] at h
      match ds, h with
      | [_, _, _], _ => rfl) 4 Try.underlying4 rfl (by kernel_rfl)
    (ChangeSpec.witness6 (enc := enc) (C := Try.checked) false ⟨#[], #[.int .i64 0, .int .i64 0, .slice none 0 0], []⟩ 8 (by kernel_rfl) (by kernel_rfl) (by kernel_rfl) (by kernel_rfl))
    (fun W base args ds ps hv hA hlt hsz => by
      rw [Try.params9] at hA hv hsz
      obtain ⟨v1, a1, d1, e1, p1, q1, ha, rfl, rfl, t1, r1⟩ := trodAll_cons hA
      obtain ⟨v2, a2, d2, e2, p2, q2, rfl, rfl, rfl, t2, r2⟩ := trodAll_cons r1
      obtain ⟨v3, a3, d3, e3, p3, q3, rfl, rfl, rfl, t3, r3⟩ := trodAll_cons r2
      obtain ⟨rfl, rfl, rfl⟩ := trodAll_nil r3
      obtain rfl : args = #[v1, v2, v3] := by cases args; simp_all
      obtain ⟨n1, rfl, -⟩ := open_int Try.underlying3 (hv 0 3 v1 rfl rfl) t1
      obtain ⟨n2, rfl, -⟩ := open_int Try.underlying3 (hv 1 3 v2 rfl rfl) t2
      obtain ⟨A3, c3, l3, rfl, hr3, h1_3, h2_3, h3_3⟩ := open_intsArg (hv 2 44 v3 rfl rfl) t3 (fun x hx => hlt x (by simp [hx])) (weights_each hsz 2 44 d3 rfl rfl)
      exact poolTurn_walk n1 n2 A3 c3 l3 W hr3 (by simp only [reachBytes] at h3_3; omega))
theorem poolTurn_holds : Rows.PoolTurnSaid :=
  OpenClaim.holds_of_wide 9 Try.f9 rfl rfl rfl rfl rfl rfl rfl ⟨rfl, rfl, rfl, rfl, rfl⟩ rfl rfl rfl rfl rfl (by kernel_rfl) Try.func9 (by kernel_rfl)
    (of_decide_eq_true (by kernel_rfl)) (by unfold Func.isWrapper; first | (rw [if_pos (by decide +kernel)]; kernel_rfl) | (rw [if_neg (by decide +kernel)]; exact ⟨rfl, rfl⟩))
    (fun os started H enc _ => poolTurn_lifted os started H enc)
#print axioms poolTurn_holds
end Go.Proofs.Ytmcjgfoaiannoaa
