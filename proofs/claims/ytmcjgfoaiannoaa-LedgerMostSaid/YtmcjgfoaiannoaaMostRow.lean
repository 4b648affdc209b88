/-
  The row of LedgerMost. No condition.
-/
import Derived.Test.YtmcjgfoaiannoaaOpen
import Derived.Test.YtmcjgfoaiannoaaMostWalk
namespace Go.Proofs.Ytmcjgfoaiannoaa
open Go.RowKit Go.Deep Go.ChangeShapes Go.WideShapes Go.ChangeAt

set_option maxRecDepth 100000 in
theorem ledgerMost_lifted (os : Os) (started : os.Started) (H : Type) (enc : TypeId × Value → H) :
    ReturnsInHanded {} Try.checked os 6 .any (Rows.ledgerMostSpec.pre6 enc Try.prog Try.f6 [] false) (Rows.ledgerMostSpec.post enc Try.prog Try.f6 false true false false) :=
  lifted_of (C := Try.checked) own laidOut os started 6 Try.f6 Rows.ledgerMostSpec Try.func6 (by kernel_rfl) rfl
    (fun ds h => by
      rw [Try.params6] at h
      match ds, h with
      | [_, _, _, _], _ => rfl) 4 Try.underlying4 rfl (by kernel_rfl)
    (ChangeSpec.witness6 (enc := enc) (C := Try.checked) false ⟨#[], #[.int .i64 0, .int .i64 0, .int .i64 0, .slice none 0 0], []⟩ 8 (by kernel_rfl) (by kernel_rfl) (by kernel_rfl) (by kernel_rfl))
    (fun W base args ds ps hv hA hlt hsz => by
      rw [Try.params6] at hA hv hsz
      obtain ⟨v1, a1, d1, e1, p1, q1, ha, rfl, rfl, t1, r1⟩ := trodAll_cons hA
      obtain ⟨v2, a2, d2, e2, p2, q2, rfl, rfl, rfl, t2, r2⟩ := trodAll_cons r1
      obtain ⟨v3, a3, d3, e3, p3, q3, rfl, rfl, rfl, t3, r3⟩ := trodAll_cons r2
      obtain ⟨v4, a4, d4, e4, p4, q4, rfl, rfl, rfl, t4, r4⟩ := trodAll_cons r3
      obtain ⟨rfl, rfl, rfl⟩ := trodAll_nil r4
      obtain rfl : args = #[v1, v2, v3, v4] := by cases args; simp_all
      obtain ⟨n1, rfl, -⟩ := open_int Try.underlying3 (hv 0 3 v1 rfl rfl) t1
      obtain ⟨n2, rfl, -⟩ := open_int Try.underlying3 (hv 1 3 v2 rfl rfl) t2
      obtain ⟨n3, rfl, -⟩ := open_int Try.underlying3 (hv 2 3 v3 rfl rfl) t3
      obtain ⟨A4, c4, l4, rfl, hr4, h1_4, h2_4, h3_4⟩ := open_intsArg (hv 3 44 v4 rfl rfl) t4 (fun x hx => hlt x (by simp [hx])) (weights_each hsz 3 44 d4 rfl rfl)
      exact ledgerMost_walk n1 n2 n3 A4 c4 l4 W hr4 (by simp only [reachBytes] at h3_4; omega))
theorem ledgerMost_holds : Rows.LedgerMostSaid :=
  OpenClaim.holds_of_wide 6 Try.f6 rfl rfl rfl rfl rfl rfl rfl ⟨rfl, rfl, rfl, rfl, rfl⟩ rfl rfl rfl rfl rfl (by kernel_rfl) Try.func6 (by kernel_rfl)
    (of_decide_eq_true (by kernel_rfl)) (by unfold Func.isWrapper; first | (rw [if_pos (by decide +kernel)]; kernel_rfl) | (rw [if_neg (by decide +kernel)]; exact ⟨rfl, rfl⟩))
    (fun os started H enc _ => ledgerMost_lifted os started H enc)
#print axioms ledgerMost_holds
end Go.Proofs.Ytmcjgfoaiannoaa
