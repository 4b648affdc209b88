/-
  The row of LedgerBack. No condition.
-/
import Derived.Test.YtmcjgfoaiannoaaOpen
import Derived.Test.YtmcjgfoaiannoaaBackWalk
namespace Go.Proofs.Ytmcjgfoaiannoaa
open Go.RowKit Go.Deep Go.ChangeShapes Go.WideShapes Go.ChangeAt

set_option maxRecDepth 100000 in
theorem ledgerBack_lifted (os : Os) (started : os.Started) (H : Type) (enc : TypeId × Value → H) :
    ReturnsInHanded {} Try.checked os 4 .any (Rows.ledgerBackSpec.pre6 enc Try.prog Try.f4 [] false) (Rows.ledgerBackSpec.post enc Try.prog Try.f4 false true false false) :=
  lifted_of (C := Try.checked) own laidOut os started 4 Try.f4 Rows.ledgerBackSpec Try.func4 (by kernel_rfl) rfl
    (fun ds h => by
      rw [Try.params4] at h
      match ds, h with
      | [_, _, _, _], _ => rfl) 4 Try.underlying4 rfl (by kernel_rfl)
    (ChangeSpec.witness6 (enc := enc) (C := Try.checked) false ⟨#[], #[.agg #[.slice none 0 0, .int .i64 0, .int .i64 0, .int .i64 0, .int .i64 0], .int .i64 0, .int .i64 0, .int .i64 0], []⟩ 8 (by kernel_rfl) (by kernel_rfl) (by kernel_rfl) (by kernel_rfl))
    (fun W base args ds ps hv hA hlt hsz => by
      rw [Try.params4] at hA hv hsz
      obtain ⟨v1, a1, d1, e1, p1, q1, ha, rfl, rfl, t1, r1⟩ := trodAll_cons hA
      obtain ⟨v2, a2, d2, e2, p2, q2, rfl, rfl, rfl, t2, r2⟩ := trodAll_cons r1
      obtain ⟨v3, a3, d3, e3, p3, q3, rfl, rfl, rfl, t3, r3⟩ := trodAll_cons r2
      obtain ⟨v4, a4, d4, e4, p4, q4, rfl, rfl, rfl, t4, r4⟩ := trodAll_cons r3
      obtain ⟨rfl, rfl, rfl⟩ := trodAll_nil r4
      obtain rfl : args = #[v1, v2, v3, v4] := by cases args; simp_all
      obtain ⟨A, c, l, m0, m1, m2, m3, rfl, hr, h1, h2, h3⟩ := open_ledgerArg (hv 0 25 v1 rfl rfl) t1 (fun x hx => hlt x (by simp [hx])) (weights_each hsz 0 25 d1 rfl rfl)
      obtain ⟨n2, rfl, -⟩ := open_int Try.underlying3 (hv 1 3 v2 rfl rfl) t2
      obtain ⟨n3, rfl, -⟩ := open_int Try.underlying3 (hv 2 3 v3 rfl rfl) t3
      obtain ⟨n4, rfl, -⟩ := open_int Try.underlying3 (hv 3 3 v4 rfl rfl) t4
      exact ledgerBack_walk A c l m0 m1 m2 m3 n2 n3 n4 W hr (by simp only [reachBytes] at h3; omega))
theorem ledgerBack_holds : Rows.LedgerBackSaid :=
  OpenClaim.holds_of_wide 4 Try.f4 rfl rfl rfl rfl rfl rfl rfl ⟨rfl, rfl, rfl, rfl, rfl⟩ rfl rfl rfl rfl rfl (by kernel_rfl) Try.func4 (by kernel_rfl)
    (of_decide_eq_true (by kernel_rfl)) (by unfold Func.isWrapper; first | (rw [if_pos (by decide +kernel)]; kernel_rfl) | (rw [if_neg (by decide +kernel)]; exact ⟨rfl, rfl⟩))
    (fun os started H enc _ => ledgerBack_lifted os started H enc)
#print axioms ledgerBack_holds
end Go.Proofs.Ytmcjgfoaiannoaa
