/-
  The row of FlatTells. No condition.
-/
import Derived.Test.YtmcjgfoaiannoaaOpen
import Derived.Test.YtmcjgfoaiannoaaFOpen
import Derived.Test.YtmcjgfoaiannoaaFlatW
namespace Go.Proofs.Ytmcjgfoaiannoaa
open Go.RowKit Go.Deep Go.ChangeShapes Go.WideShapes Go.ChangeAt

set_option maxRecDepth 100000 in
theorem flatTells_lifted (os : Os) (started : os.Started) (H : Type) (enc : TypeId × Value → H) :
    ReturnsInHanded {} Try.checked os 7 .any (Rows.flatTellsSpec.pre6 enc Try.prog Try.f7 [] false) (Rows.flatTellsSpec.post enc Try.prog Try.f7 false true false false) :=
  lifted_of (C := Try.checked) own laidOut os started 7 Try.f7 Rows.flatTellsSpec Try.func7 (by kernel_rfl) rfl
    (fun ds h => by
      rw [Try.params7] at h
      match ds, h with
      | [_], _ => rfl) 4 Try.underlying4 rfl (by kernel_rfl)
    (ChangeSpec.witness6 (enc := enc) (C := Try.checked) false ⟨#[], #[.agg #[.slice none 0 0, .slice none 0 0, .slice none 0 0, .int .i64 0, .int .i64 0, .int .i64 0, .int .i64 0]], []⟩ 8 (by kernel_rfl) (by kernel_rfl) (by kernel_rfl) (by kernel_rfl))
    (fun W base args ds ps hv hA hlt hsz => by
      rw [Try.params7] at hA hv hsz
      obtain ⟨v1, a1, d1, e1, p1, q1, ha, rfl, rfl, t1, r1⟩ := trodAll_cons hA
      obtain ⟨rfl, rfl, rfl⟩ := trodAll_nil r1
      obtain rfl : args = #[v1] := by cases args; simp_all
      obtain ⟨A1, c1, B1, f1, C1, g1, l1, u1, b1, y1, z1, x1, w1, rfl, hr1, hs1, ht1⟩ := open_confArg (hv 0 50 v1 rfl rfl) t1 (fun x hx => hlt x (by simp [hx])) (weights_each hsz 0 50 d1 rfl rfl)
      exact flatTells_walk A1 c1 B1 f1 C1 g1 l1 u1 b1 y1 z1 x1 w1 W hr1 hs1 ht1)
theorem flatTells_holds : Rows.FlatTellsSaid :=
  OpenClaim.holds_of_wide 7 Try.f7 rfl rfl rfl rfl rfl rfl rfl ⟨rfl, rfl, rfl, rfl, rfl⟩ rfl rfl rfl rfl rfl (by kernel_rfl) Try.func7 (by kernel_rfl)
    (of_decide_eq_true (by kernel_rfl)) (by unfold Func.isWrapper; first | (rw [if_pos (by decide +kernel)]; kernel_rfl) | (rw [if_neg (by decide +kernel)]; exact ⟨rfl, rfl⟩))
    (fun os started H enc _ => flatTells_lifted os started H enc)
#print axioms flatTells_holds
end Go.Proofs.Ytmcjgfoaiannoaa
