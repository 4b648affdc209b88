/-
  CapsWild: the row and its tied card. No condition.
-/
import Derived.Test.YtmcjgfoaiannoabDoorTie
import Derived.Test.YtmcjgfoaiannoabDoorCards
import Derived.Test.YtmcjgfoaiannoabDoorCapsW
import Derived.SevenTiedAt
namespace Go.Proofs.YtmcjgfoaiannoabDoor
open Go.RowKit Go.ChangeShapes Go.WideShapes Go.ChangeAt

set_option maxRecDepth 100000 in
theorem capsWild_lifted (os : Os) (started : os.Started) (H : Type) (enc : TypeId × Value → H) :
    ReturnsInHanded {} Tryd.checked os 6 .any (fun w args => (Rows.capsWildSpec.pre enc Tryd.prog Tryd.f6 [] false w args ∧ laidMetH Tryd.prog Rows.capsWildRow.laid w) ∧ sizedMet enc Tryd.prog Tryd.f6 (OpenSpec.ofChange Rows.capsWildSpec) false w args) (Rows.capsWildSpec.post enc Tryd.prog Tryd.f6 false true false false) :=
  lifted_laid (C := Tryd.checked) Rows.capsWildRow.laid own laidOut os started 6 Tryd.f6 Rows.capsWildSpec Tryd.func6 (by kernel_rfl) rfl
    (fun ds h => by
      rw [Tryd.params6] at h
      match ds, h with
      | [_, _], _ => rfl) 4 Tryd.underlying4 rfl (by kernel_rfl)
    (ChangeSpec.witness_shaped (enc := enc) (C := Tryd.checked) (os := os) (X := fun w _ => laidMetH Tryd.prog Rows.capsWildRow.laid w) false (World.laidAll Tryd.prog os Rows.capsWildRow.laid) #[.int .i64 0, .int .i64 0] 8 (World.laidAll_os _ _ _)
      (World.shaped_of_ZipB (by kernel_rfl) (by kernel_rfl)) (by kernel_rfl) (by kernel_rfl) (by kernel_rfl)
      (by rw [MakeChecks.laidMetH_plain _ _ _ (by kernel_rfl)]; exact laidMet_laidAll _ (by kernel_rfl) (by kernel_rfl)))
    (fun W base args ds ps hv hA hlt hsz _ => by
      rw [Tryd.params6] at hA hv hsz
      obtain ⟨v1, a1, d1, e1, p1, q1, ha, rfl, rfl, t1, r1⟩ := trodAll_cons hA
      obtain ⟨v2, a2, d2, e2, p2, q2, rfl, rfl, rfl, t2, r2⟩ := trodAll_cons r1
      obtain ⟨rfl, rfl, rfl⟩ := trodAll_nil r2
      obtain rfl : args = #[v1, v2] := by cases args; simp_all
      obtain ⟨n1, rfl, -⟩ := open_int Tryd.underlying3 (hv 0 3 v1 rfl rfl) t1
      obtain ⟨n2, rfl, -⟩ := open_int Tryd.underlying3 (hv 1 3 v2 rfl rfl) t2
      exact capsWild_walk n1 n2 W)
theorem capsWild_said : Rows.CapsWildSaid :=
  OpenClaim.holds_of_wide 6 Tryd.f6 rfl rfl rfl rfl rfl rfl rfl ⟨rfl, rfl, rfl, rfl, rfl⟩ rfl rfl rfl rfl rfl (by kernel_rfl) Tryd.func6 (by kernel_rfl)
    (of_decide_eq_true (by kernel_rfl)) (by unfold Func.isWrapper; first | (rw [if_pos (by decide +kernel)]; kernel_rfl) | (rw [if_neg (by decide +kernel)]; exact ⟨rfl, rfl⟩))
    (fun os started H enc _ => capsWild_lifted os started H enc)
theorem capsWild_holds : Rows.CapsWildCardSaid :=
  Claim7.holds_tied_plain_at .later [] [.data, .pinned] true (true, "ce67ec7d7c9d0a8c0955774ba40df6a45a05ec307238d33da3d649b224eed7f5") true capsWild_said (fun _ h => by cases h) (by kernel_rfl) (fun _ h => by cases h) capsWild_row_tie rfl ⟨rfl, rfl⟩ (by kernel_rfl) rfl
    (fun f fn hf hfn => by
      obtain rfl : f = 6 := Option.some.inj ((show Tryd.prog.funcNamed "sieveworks/vwlaw6.CapsWild" = some 6 by kernel_rfl).symm.trans hf) |>.symm
      obtain rfl : fn = Tryd.f6 := (Option.some.inj (Tryd.func6.symm.trans hfn)).symm
      exact ⟨by kernel_rfl, fun j t ht => by
        rw [Tryd.params6] at ht
        have hm : t ∈ [3, 3] := by simpa using Array.mem_of_getElem? ht
        have hall : ([3, 3].all fun u => !Tryd.prog.wantsStandIn u) = true := by kernel_rfl
        exact (show Tryd.prog.wantsStandIn t = false by simpa using List.all_eq_true.1 hall t hm)⟩)
    (by kernel_rfl)
#print axioms capsWild_holds
end Go.Proofs.YtmcjgfoaiannoabDoor
