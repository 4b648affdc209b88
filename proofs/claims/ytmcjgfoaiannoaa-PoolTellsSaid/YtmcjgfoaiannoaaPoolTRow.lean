/-
  The row of PoolTells. No condition.
-/
import Derived.Test.YtmcjgfoaiannoaaOpen
import Derived.Test.YtmcjgfoaiannoaaPoolOpen
import Derived.Test.YtmcjgfoaiannoaaPoolTWalk
namespace Go.Proofs.Ytmcjgfoaiannoaa
open Go.RowKit Go.Deep Go.ChangeShapes Go.WideShapes Go.ChangeAt

set_option maxRecDepth 100000 in
theorem poolTells_lifted (os : Os) (started : os.Started) (H : Type) (enc : TypeId × Value → H) :
    ReturnsInHanded {} Try.checked os 8 .any (Rows.poolTellsSpec.pre6 enc Try.prog Try.f8 [] false) (Rows.poolTellsSpec.post enc Try.prog Try.f8 false true false false) :=
  lifted_of (C := Try.checked) own laidOut os started 8 Try.f8 Rows.poolTellsSpec Try.func8 (by kernel_rfl) rfl
    (fun ds h => by
      rw [Try.params8] at h
      match ds, h with
      | [_, _, _], _ => rfl) 4 Try.underlying4 rfl (by kernel_rfl)
    (ChangeSpec.witness6 (enc := enc) (C := Try.checked) false ⟨#[], #[.agg #[.slice none 0 0, .int .i64 0, .int .i64 0, .int .i64 0, .int .i64 0, .slice none 0 0, .slice none 0 0, .slice none 0 0, .slice none 0 0], .int .i64 0, .int .i64 0], []⟩ 8 (by kernel_rfl) (by kernel_rfl) (by kernel_rfl) (by kernel_rfl))
    (fun W base args ds ps hv hA hlt hsz => by
      rw [Try.params8] at hA hv hsz
      obtain ⟨v1, a1, d1, e1, p1, q1, ha, rfl, rfl, t1, r1⟩ := trodAll_cons hA
      obtain ⟨v2, a2, d2, e2, p2, q2, rfl, rfl, rfl, t2, r2⟩ := trodAll_cons r1
      obtain ⟨v3, a3, d3, e3, p3, q3, rfl, rfl, rfl, t3, r3⟩ := trodAll_cons r2
      obtain ⟨rfl, rfl, rfl⟩ := trodAll_nil r3
      obtain rfl : args = #[v1, v2, v3] := by cases args; simp_all
      obtain ⟨a1, D1, rfl, hr1, hc1⟩ := open_worldArg (hv 0 67 v1 rfl rfl) t1 (fun x hx => hlt x (by simp [hx])) (weights_each hsz 0 67 d1 rfl rfl)
      obtain ⟨n2, rfl, -⟩ := open_int Try.underlying3 (hv 1 3 v2 rfl rfl) t2
      obtain ⟨n3, rfl, -⟩ := open_int Try.underlying3 (hv 2 3 v3 rfl rfl) t3
      exact poolTells_walk a1 D1 n2 n3 W hr1 (by obtain ⟨h1, h2, h3, h4, h5⟩ := hc1; simp only [reachBytes] at h1 h2 h3 h4 h5; exact ⟨by omega, by omega, by omega, by omega, by omega⟩) hc1.l.1 hc1.l.2.1 hc1.q.1)
theorem poolTells_holds : Rows.PoolTellsSaid :=
  OpenClaim.holds_of_wide 8 Try.f8 rfl rfl rfl rfl rfl rfl rfl ⟨rfl, rfl, rfl, rfl, rfl⟩ rfl rfl rfl rfl rfl (by kernel_rfl) Try.func8 (by kernel_rfl)
    (of_decide_eq_true (by kernel_rfl)) (by unfold Func.isWrapper; first | (rw [if_pos (by decide +kernel)]; kernel_rfl) | (rw [if_neg (by decide +kernel)]; exact ⟨rfl, rfl⟩))
    (fun os started H enc _ => poolTells_lifted os started H enc)
#print axioms poolTells_holds
end Go.Proofs.Ytmcjgfoaiannoaa
