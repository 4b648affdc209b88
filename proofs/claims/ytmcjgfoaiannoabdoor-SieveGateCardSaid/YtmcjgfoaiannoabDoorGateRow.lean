/-
  SieveGate: the row and its tied card. No condition.
-/
import Derived.Test.YtmcjgfoaiannoabDoorTie
import Derived.Test.YtmcjgfoaiannoabDoorCards
import Derived.Test.YtmcjgfoaiannoabDoorGateW
import Derived.SevenTiedAt
namespace Go.Proofs.YtmcjgfoaiannoabDoor
open Go.RowKit Go.ChangeShapes Go.WideShapes Go.ChangeAt

set_option maxRecDepth 100000 in
theorem sieveGate_lifted (os : Os) (started : os.Started) (H : Type) (enc : TypeId × Value → H) :
    ReturnsInHanded {} Tryd.checked os 9 .any (fun w args => (Rows.sieveGateSpec.pre enc Tryd.prog Tryd.f9 [] false w args ∧ laidMetH Tryd.prog Rows.sieveGateRow.laid w) ∧ sizedMet enc Tryd.prog Tryd.f9 (OpenSpec.ofChange Rows.sieveGateSpec) false w args) (Rows.sieveGateSpec.post enc Tryd.prog Tryd.f9 false true false false) :=
  lifted_laid (C := Tryd.checked) Rows.sieveGateRow.laid own laidOut os started 9 Tryd.f9 Rows.sieveGateSpec Tryd.func9 (by kernel_rfl) rfl
    (fun ds h => by
      rw [Tryd.params9] at h
      match ds, h with
      | [_, _], _ => rfl) 4 Tryd.underlying4 rfl (by kernel_rfl)
    (ChangeSpec.witness_shaped (enc := enc) (C := Tryd.checked) (os := os) (X := fun w _ => laidMetH Tryd.prog Rows.sieveGateRow.laid w) false (World.laidAll Tryd.prog os Rows.sieveGateRow.laid) #[.int .i64 0, .int .i64 0] 8 (World.laidAll_os _ _ _)
      (World.shaped_of_ZipB (by kernel_rfl) (by kernel_rfl)) (by kernel_rfl) (by kernel_rfl) (by kernel_rfl)
      (by rw [MakeChecks.laidMetH_plain _ _ _ (by kernel_rfl)]; exact laidMet_laidAll _ (by kernel_rfl) (by kernel_rfl)))
    (fun W base args ds ps hv hA hlt hsz _ => by
      rw [Tryd.params9] at hA hv hsz
      obtain ⟨v1, a1, d1, e1, p1, q1, ha, rfl, rfl, t1, r1⟩ := trodAll_cons hA
      obtain ⟨v2, a2, d2, e2, p2, q2, rfl, rfl, rfl, t2, r2⟩ := trodAll_cons r1
      obtain ⟨rfl, rfl, rfl⟩ := trodAll_nil r2
      obtain rfl : args = #[v1, v2] := by cases args; simp_all
      obtain ⟨n1, rfl, -⟩ := open_int Tryd.underlying3 (hv 0 3 v1 rfl rfl) t1
      obtain ⟨n2, rfl, -⟩ := open_int Tryd.underlying3 (hv 1 3 v2 rfl rfl) t2
      exact sieveGate_walk n1 n2 W)
theorem sieveGate_said : Rows.SieveGateSaid :=
  OpenClaim.holds_of_wide 9 Tryd.f9 rfl rfl rfl rfl rfl rfl rfl ⟨rfl, rfl, rfl, rfl, rfl⟩ rfl rfl rfl rfl rfl (by kernel_rfl) Tryd.func9 (by kernel_rfl)
    (of_decide_eq_true (by kernel_rfl)) (by unfold Func.isWrapper; first | (rw [if_pos (by decide +kernel)]; kernel_rfl) | (rw [if_neg (by decide +kernel)]; exact ⟨rfl, rfl⟩))
    (fun os started H enc _ => sieveGate_lifted os started H enc)
theorem sieveGate_holds : Rows.SieveGateCardSaid :=
  Claim7.holds_tied_plain_at .later [] [.data, .pinned] true (true, "ce67ec7d7c9d0a8c0955774ba40df6a45a05ec307238d33da3d649b224eed7f5") true sieveGate_said (fun _ h => by cases h) (by kernel_rfl) (fun _ h => by cases h) sieveGate_row_tie rfl ⟨rfl, rfl⟩ (by kernel_rfl) rfl
    (fun f fn hf hfn => by
      obtain rfl : f = 9 := Option.some.inj ((show Tryd.prog.funcNamed "sieveworks/vwlaw5.SieveGate" = some 9 by kernel_rfl).symm.trans hf) |>.symm
      obtain rfl : fn = Tryd.f9 := (Option.some.inj (Tryd.func9.symm.trans hfn)).symm
      exact ⟨by kernel_rfl, fun j t ht => by
        rw [Tryd.params9] at ht
        have hm : t ∈ [3, 3] := by simpa using Array.mem_of_getElem? ht
        have hall : ([3, 3].all fun u => !Tryd.prog.wantsStandIn u) = true := by kernel_rfl
        exact (show Tryd.prog.wantsStandIn t = false by simpa using List.all_eq_true.1 hall t hm)⟩)
    (by kernel_rfl)
#print axioms sieveGate_holds
end Go.Proofs.YtmcjgfoaiannoabDoor
