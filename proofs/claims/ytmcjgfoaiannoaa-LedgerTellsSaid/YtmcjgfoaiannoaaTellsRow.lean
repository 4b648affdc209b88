/-
  The row of LedgerTells. No condition.
-/
import Derived.Test.YtmcjgfoaiannoaaOpen
import Derived.Test.YtmcjgfoaiannoaaTellsWalk
namespace Go.Proofs.Ytmcjgfoaiannoaa
open Go.RowKit Go.Deep Go.ChangeShapes Go.WideShapes Go.ChangeAt

set_option maxRecDepth 100000 in
theorem ledgerTells_lifted (os : Os) (started : os.Started) (H : Type) (enc : TypeId × Value → H) :
    ReturnsInHanded {} Try.checked os 3 .any (Rows.ledgerTellsSpec.pre6 enc Try.prog Try.f3 [] false) (Rows.ledgerTellsSpec.post enc Try.prog Try.f3 false true false false) :=
  lifted_of (C := Try.checked) own laidOut os started 3 Try.f3 Rows.ledgerTellsSpec Try.func3 (by kernel_rfl) rfl
    (fun ds h => by
      rw [Try.params3] at h
      match ds, h with
      | [_, _, _, _, _, _, _], _ => rfl) 4 Try.underlying4 rfl (by kernel_rfl)
    (ChangeSpec.witness6 (enc := enc) (C := Try.checked) false ⟨#[], #[.agg #[.slice none 0 0, .int .i64 0, .int .i64 0, .int .i64 0, .int .i64 0], .int .i64 0, .int .i64 0, .int .i64 0, .int .i64 0, .int .i64 0, .int .i64 0], []⟩ 8 (by kernel_rfl) (by kernel_rfl) (by kernel_rfl) (by kernel_rfl))
    (fun W base args ds ps hv hA hlt hsz => by
      rw [Try.params3] at hA hv hsz
      obtain ⟨v1, a1, d1, e1, p1, q1, ha, rfl, rfl, t1, r1⟩ := trodAll_cons hA
      obtain ⟨v2, a2, d2, e2, p2, q2, rfl, rfl, rfl, t2, r2⟩ := trodAll_cons r1
      obtain ⟨v3, a3, d3, e3, p3, q3, rfl, rfl, rfl, t3, r3⟩ := trodAll_cons r2
      obtain ⟨v4, a4, d4, e4, p4, q4, rfl, rfl, rfl, t4, r4⟩ := trodAll_cons r3
      obtain ⟨v5, a5, d5, e5, p5, q5, rfl, rfl, rfl, t5, r5⟩ := trodAll_cons r4
      obtain ⟨v6, a6, d6, e6, p6, q6, rfl, rfl, rfl, t6, r6⟩ := trodAll_cons r5
      obtain ⟨v7, a7, d7, e7, p7, q7, rfl, rfl, rfl, t7, r7⟩ := trodAll_cons r6
      obtain ⟨rfl, rfl, rfl⟩ := trodAll_nil r7
      obtain rfl : args = #[v1, v2, v3, v4, v5, v6, v7] := by cases args; simp_all
      obtain ⟨A1, c1, l1, m10, m11, m12, m13, rfl, hr1, h1_1, h2_1, h3_1⟩ := open_ledgerArg (hv 0 25 v1 rfl rfl) t1 (fun x hx => hlt x (by simp [hx])) (weights_each hsz 0 25 d1 rfl rfl)
      obtain ⟨n2, rfl, -⟩ := open_int Try.underlying3 (hv 1 3 v2 rfl rfl) t2
      obtain ⟨n3, rfl, -⟩ := open_int Try.underlying3 (hv 2 3 v3 rfl rfl) t3
      obtain ⟨n4, rfl, -⟩ := open_int Try.underlying3 (hv 3 3 v4 rfl rfl) t4
      obtain ⟨n5, rfl, -⟩ := open_int Try.underlying3 (hv 4 3 v5 rfl rfl) t5
      obtain ⟨n6, rfl, -⟩ := open_int Try.underlying3 (hv 5 3 v6 rfl rfl) t6
      obtain ⟨n7, rfl, -⟩ := open_int Try.underlying3 (hv 6 3 v7 rfl rfl) t7
      exact ledgerTells_walk A1 c1 l1 m10 m11 m12 m13 n2 n3 n4 n5 n6 n7 W hr1 (by simp only [reachBytes] at h3_1; omega) h1_1 h2_1)
theorem ledgerTells_holds : Rows.LedgerTellsSaid :=
  OpenClaim.holds_of_wide 3 Try.f3 rfl rfl rfl rfl rfl rfl rfl ⟨rfl, rfl, rfl, rfl, rfl⟩ rfl rfl rfl rfl rfl (by kernel_rfl) Try.func3 (by kernel_rfl)
    (of_decide_eq_true (by kernel_rfl)) (by unfold Func.isWrapper; first | (rw [if_pos (by decide +kernel)]; kernel_rfl) | (rw [if_neg (by decide +kernel)]; exact ⟨rfl, rfl⟩))
    (fun os started H enc _ => ledgerTells_lifted os started H enc)
#print axioms ledgerTells_holds
end Go.Proofs.Ytmcjgfoaiannoaa
