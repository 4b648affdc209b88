/-
  FaultWraps: the row and its tied card. No condition.
-/
import Derived.Test.YtmcjgfoaiannoabDoorTie
import Derived.Test.YtmcjgfoaiannoabDoorCards
import Derived.Test.YtmcjgfoaiannoabDoorFWraps
import Derived.Test.YtmcjgfoaiannoabDoorBOpen
import Derived.SevenTiedAt
namespace Go.Proofs.YtmcjgfoaiannoabDoor
open Go.RowKit Go.ChangeShapes Go.WideShapes Go.ChangeAt

set_option maxRecDepth 100000 in
theorem faultWraps_lifted (os : Os) (started : os.Started) (H : Type) (enc : TypeId × Value → H) :
    ReturnsInHanded {} Tryd.checked os 4 .any (fun w args => (Rows.faultWrapsSpec.pre enc Tryd.prog Tryd.f4 [] false w args ∧ laidMetH Tryd.prog Rows.faultWrapsRow.laid w) ∧ sizedMet enc Tryd.prog Tryd.f4 (OpenSpec.ofChange Rows.faultWrapsSpec) false w args) (Rows.faultWrapsSpec.post enc Tryd.prog Tryd.f4 false true false false) :=
  lifted_laid (C := Tryd.checked) Rows.faultWrapsRow.laid own laidOut os started 4 Tryd.f4 Rows.faultWrapsSpec Tryd.func4 (by kernel_rfl) rfl
    (fun ds h => by
      rw [Tryd.params4] at h
      match ds, h with
      | [_, _], _ => rfl) 4 Tryd.underlying4 rfl (by kernel_rfl)
    (ChangeSpec.witness_shaped (enc := enc) (C := Tryd.checked) (os := os) (X := fun w _ => laidMetH Tryd.prog Rows.faultWrapsRow.laid w) false (World.laidAll Tryd.prog os Rows.faultWrapsRow.laid) #[.agg #[.int .i64 0, .int .i64 0, .int .i64 0, .string ⟨#[]⟩, .int .i64 0], .int .i64 0] 8 (World.laidAll_os _ _ _)
      (World.shaped_of_ZipB (by kernel_rfl) (by kernel_rfl)) (by kernel_rfl) (by kernel_rfl) (by kernel_rfl)
      (by rw [MakeChecks.laidMetH_plain _ _ _ (by kernel_rfl)]; exact laidMet_laidAll _ (by kernel_rfl) (by kernel_rfl)))
    (fun W base args ds ps hv hA hlt hsz hL => by
      rw [Tryd.params4] at hA hv hsz
      obtain ⟨v1, a1, d1, e1, p1, q1, ha, rfl, rfl, t1, r1⟩ := trodAll_cons hA
      obtain ⟨v2, a2, d2, e2, p2, q2, rfl, rfl, rfl, t2, r2⟩ := trodAll_cons r1
      obtain ⟨rfl, rfl, rfl⟩ := trodAll_nil r2
      obtain rfl : args = #[v1, v2] := by cases args; simp_all
      obtain ⟨k1, f1, c1, s1, n1, rfl, x1, y1, z1, u1, w1⟩ := open_faultArg (hv 0 23 v1 rfl rfl) t1 (weights_each hsz 0 23 d1 rfl rfl)
      obtain ⟨n2, rfl, -⟩ := open_int Tryd.underlying3 (hv 1 3 v2 rfl rfl) t2
      exact faultWraps_walk k1 f1 c1 s1 n1 n2 x1 y1 z1 u1 w1 W (pow_of (by kernel_rfl) (by kernel_rfl) hL))
theorem faultWraps_said : Rows.FaultWrapsSaid :=
  OpenClaim.holds_of_wide 4 Tryd.f4 rfl rfl rfl rfl rfl rfl rfl ⟨rfl, rfl, rfl, rfl, rfl⟩ rfl rfl rfl rfl rfl (by kernel_rfl) Tryd.func4 (by kernel_rfl)
    (of_decide_eq_true (by kernel_rfl)) (by unfold Func.isWrapper; first | (rw [if_pos (by decide +kernel)]; kernel_rfl) | (rw [if_neg (by decide +kernel)]; exact ⟨rfl, rfl⟩))
    (fun os started H enc _ => faultWraps_lifted os started H enc)
theorem faultWraps_holds : Rows.FaultWrapsCardSaid :=
  Claim7.holds_tied_plain_at .later [] [.data, .data, .data] true (true, "ce67ec7d7c9d0a8c0955774ba40df6a45a05ec307238d33da3d649b224eed7f5") true faultWraps_said (fun _ h => by cases h) (by kernel_rfl) (fun _ h => by cases h) faultWraps_row_tie rfl ⟨rfl, rfl⟩ (by kernel_rfl) rfl
    (fun f fn hf hfn => by
      obtain rfl : f = 4 := Option.some.inj ((show Tryd.prog.funcNamed "sieveworks/vwlaw2.FaultWraps" = some 4 by kernel_rfl).symm.trans hf) |>.symm
      obtain rfl : fn = Tryd.f4 := (Option.some.inj (Tryd.func4.symm.trans hfn)).symm
      exact ⟨by kernel_rfl, fun j t ht => by
        rw [Tryd.params4] at ht
        have hm : t ∈ [23, 3] := by simpa using Array.mem_of_getElem? ht
        have hall : ([23, 3].all fun u => !Tryd.prog.wantsStandIn u) = true := by kernel_rfl
        exact (show Tryd.prog.wantsStandIn t = false by simpa using List.all_eq_true.1 hall t hm)⟩)
    (by kernel_rfl)
#print axioms faultWraps_holds
end Go.Proofs.YtmcjgfoaiannoabDoor
