/-
  SieveKeeps: the row and its tied card. No condition.
-/
import Derived.Test.YtmcjgfoaiannoabDoorTie
import Derived.Test.YtmcjgfoaiannoabDoorCards
import Derived.Test.YtmcjgfoaiannoabDoorSKeeps
import Derived.Test.YtmcjgfoaiannoabDoorBMsg
import Derived.SevenTiedAt
namespace Go.Proofs.YtmcjgfoaiannoabDoor
open Go.RowKit Go.ChangeShapes Go.WideShapes Go.ChangeAt

set_option maxRecDepth 100000 in
theorem sieveKeeps_lifted (os : Os) (started : os.Started) (H : Type) (enc : TypeId × Value → H) :
    ReturnsInHanded {} Tryd.checked os 8 .any (fun w args => (Rows.sieveKeepsSpec.pre enc Tryd.prog Tryd.f8 [] false w args ∧ laidMetH Tryd.prog Rows.sieveKeepsRow.laid w) ∧ sizedMet enc Tryd.prog Tryd.f8 (OpenSpec.ofChange Rows.sieveKeepsSpec) false w args) (Rows.sieveKeepsSpec.post enc Tryd.prog Tryd.f8 false true false false) :=
  lifted_laid (C := Tryd.checked) Rows.sieveKeepsRow.laid own laidOut os started 8 Tryd.f8 Rows.sieveKeepsSpec Tryd.func8 (by kernel_rfl) rfl
    (fun ds h => by
      rw [Tryd.params8] at h
      match ds, h with
      | [_, _, _], _ => rfl) 4 Tryd.underlying4 rfl (by kernel_rfl)
    (ChangeSpec.witness_shaped (enc := enc) (C := Tryd.checked) (os := os) (X := fun w _ => laidMetH Tryd.prog Rows.sieveKeepsRow.laid w) false (World.laidAll Tryd.prog os Rows.sieveKeepsRow.laid) #[.agg #[.int .i64 0, .int .i64 0, .string ⟨#[]⟩, .string ⟨#[]⟩], .agg #[.int .i64 0, .string ⟨#[]⟩, .slice none 0 0, .slice none 0 0], .int .i64 0] 8 (World.laidAll_os _ _ _)
      (World.shaped_of_ZipB (by kernel_rfl) (by kernel_rfl)) (by kernel_rfl) (by kernel_rfl) (by kernel_rfl)
      (by rw [MakeChecks.laidMetH_plain _ _ _ (by kernel_rfl)]; exact laidMet_laidAll _ (by kernel_rfl) (by kernel_rfl)))
    (fun W base args ds ps hv hA hlt hsz _ => by
      rw [Tryd.params8] at hA hv hsz
      obtain ⟨v1, a1, d1, e1, p1, q1, ha, rfl, rfl, t1, r1⟩ := trodAll_cons hA
      obtain ⟨v2, a2, d2, e2, p2, q2, rfl, rfl, rfl, t2, r2⟩ := trodAll_cons r1
      obtain ⟨v3, a3, d3, e3, p3, q3, rfl, rfl, rfl, t3, r3⟩ := trodAll_cons r2
      obtain ⟨rfl, rfl, rfl⟩ := trodAll_nil r3
      obtain rfl : args = #[v1, v2, v3] := by cases args; simp_all
      obtain ⟨k1, n1, s1, u1, rfl, x1, y1, z1, w1⟩ := open_sivArg (hv 0 38 v1 rfl rfl) t1 (weights_each hsz 0 38 d1 rfl rfl)
      obtain ⟨k2, s2, A2, l2, c2, B2, b2, f2, rfl, m2⟩ := open_msgArg (hv 1 32 v2 rfl rfl) t2 (fun x hx => hlt x (by simp [hx])) (weights_each hsz 1 32 d2 rfl rfl)
      obtain ⟨n3, rfl, x3⟩ := open_int Tryd.underlying3 (hv 2 3 v3 rfl rfl) t3
      exact sieveKeeps_walk k1 n1 s1 u1 k2 s2 A2 l2 c2 B2 b2 f2 n3 W x1 y1 z1 w1 m2 x3.2.2)
theorem sieveKeeps_said : Rows.SieveKeepsSaid :=
  OpenClaim.holds_of_wide 8 Tryd.f8 rfl rfl rfl rfl rfl rfl rfl ⟨rfl, rfl, rfl, rfl, rfl⟩ rfl rfl rfl rfl rfl (by kernel_rfl) Tryd.func8 (by kernel_rfl)
    (of_decide_eq_true (by kernel_rfl)) (by unfold Func.isWrapper; first | (rw [if_pos (by decide +kernel)]; kernel_rfl) | (rw [if_neg (by decide +kernel)]; exact ⟨rfl, rfl⟩))
    (fun os started H enc _ => sieveKeeps_lifted os started H enc)
theorem sieveKeeps_holds : Rows.SieveKeepsCardSaid :=
  Claim7.holds_tied_plain_at .later [] [.data, .pinned] true (true, "ce67ec7d7c9d0a8c0955774ba40df6a45a05ec307238d33da3d649b224eed7f5") true sieveKeeps_said (fun _ h => by cases h) (by kernel_rfl) (fun _ h => by cases h) sieveKeeps_row_tie rfl ⟨rfl, rfl⟩ (by kernel_rfl) rfl
    (fun f fn hf hfn => by
      obtain rfl : f = 8 := Option.some.inj ((show Tryd.prog.funcNamed "sieveworks/vwlaw5.SieveKeeps" = some 8 by kernel_rfl).symm.trans hf) |>.symm
      obtain rfl : fn = Tryd.f8 := (Option.some.inj (Tryd.func8.symm.trans hfn)).symm
      exact ⟨by kernel_rfl, fun j t ht => by
        rw [Tryd.params8] at ht
        have hm : t ∈ [38, 32, 3] := by simpa using Array.mem_of_getElem? ht
        have hall : ([38, 32, 3].all fun u => !Tryd.prog.wantsStandIn u) = true := by kernel_rfl
        exact (show Tryd.prog.wantsStandIn t = false by simpa using List.all_eq_true.1 hall t hm)⟩)
    (by kernel_rfl)
#print axioms sieveKeeps_holds
end Go.Proofs.YtmcjgfoaiannoabDoor
