/-
  MsgSet: the row and its tied card. No condition.
-/
import Derived.Test.YtmcjgfoaiannoabDoorTie
import Derived.Test.YtmcjgfoaiannoabDoorCards
import Derived.Test.YtmcjgfoaiannoabDoorMSetW
import Derived.Test.YtmcjgfoaiannoabDoorBMsg
import Derived.SevenTiedAt
namespace Go.Proofs.YtmcjgfoaiannoabDoor
open Go.RowKit Go.ChangeShapes Go.WideShapes Go.ChangeAt

set_option maxRecDepth 100000 in
theorem msgSet_lifted (os : Os) (started : os.Started) (H : Type) (enc : TypeId × Value → H) :
    ReturnsInHanded {} Tryd.checked os 12 .any (fun w args => (Rows.msgSetSpec.pre enc Tryd.prog Tryd.f12 [] false w args ∧ laidMetH Tryd.prog Rows.msgSetRow.laid w) ∧ sizedMet enc Tryd.prog Tryd.f12 (OpenSpec.ofChange Rows.msgSetSpec) false w args) (Rows.msgSetSpec.post enc Tryd.prog Tryd.f12 false true false false) :=
  lifted_laid (C := Tryd.checked) Rows.msgSetRow.laid own laidOut os started 12 Tryd.f12 Rows.msgSetSpec Tryd.func12 (by kernel_rfl) rfl
    (fun ds h => by
      rw [Tryd.params12] at h
      match ds, h with
      | [_, _, _, _], _ => rfl) 4 Tryd.underlying4 rfl (by kernel_rfl)
    (ChangeSpec.witness_shaped (enc := enc) (C := Tryd.checked) (os := os) (X := fun w _ => laidMetH Tryd.prog Rows.msgSetRow.laid w) false (World.laidAll Tryd.prog os Rows.msgSetRow.laid) #[.agg #[.int .i64 0, .string ⟨#[]⟩, .slice none 0 0, .slice none 0 0], .string ⟨#[]⟩, .string ⟨#[]⟩, .string ⟨#[]⟩] 8 (World.laidAll_os _ _ _)
      (World.shaped_of_ZipB (by kernel_rfl) (by kernel_rfl)) (by kernel_rfl) (by kernel_rfl) (by kernel_rfl)
      (by rw [MakeChecks.laidMetH_plain _ _ _ (by kernel_rfl)]; exact laidMet_laidAll _ (by kernel_rfl) (by kernel_rfl)))
    (fun W base args ds ps hv hA hlt hsz hL => by
      rw [Tryd.params12] at hA hv hsz
      obtain ⟨v1, a1, d1, e1, p1, q1, ha, rfl, rfl, t1, r1⟩ := trodAll_cons hA
      obtain ⟨v2, a2, d2, e2, p2, q2, rfl, rfl, rfl, t2, r2⟩ := trodAll_cons r1
      obtain ⟨v3, a3, d3, e3, p3, q3, rfl, rfl, rfl, t3, r3⟩ := trodAll_cons r2
      obtain ⟨v4, a4, d4, e4, p4, q4, rfl, rfl, rfl, t4, r4⟩ := trodAll_cons r3
      obtain ⟨rfl, rfl, rfl⟩ := trodAll_nil r4
      obtain rfl : args = #[v1, v2, v3, v4] := by cases args; simp_all
      obtain ⟨k1, s1, A1, l1, c1, B1, b1, f1, rfl, m1⟩ := open_msgArg (hv 0 32 v1 rfl rfl) t1 (fun x hx => hlt x (by simp [hx])) (weights_each hsz 0 32 d1 rfl rfl)
      obtain ⟨s2, rfl, z2⟩ := open_strArg t2 (hv 1 9 v2 rfl rfl) (weights_each hsz 1 9 d2 rfl rfl)
      obtain ⟨s3, rfl, z3⟩ := open_strArg t3 (hv 2 9 v3 rfl rfl) (weights_each hsz 2 9 d3 rfl rfl)
      obtain ⟨s4, rfl, z4⟩ := open_strArg t4 (hv 3 9 v4 rfl rfl) (weights_each hsz 3 9 d4 rfl rfl)
      exact msgSet_walk k1 s1 A1 l1 c1 B1 b1 f1 s2 s3 s4 W m1 z2 z3 z4 hL)
theorem msgSet_said : Rows.MsgSetSaid :=
  OpenClaim.holds_of_wide 12 Tryd.f12 rfl rfl rfl rfl rfl rfl rfl ⟨rfl, rfl, rfl, rfl, rfl⟩ rfl rfl rfl rfl rfl (by kernel_rfl) Tryd.func12 (by kernel_rfl)
    (of_decide_eq_true (by kernel_rfl)) (by unfold Func.isWrapper; first | (rw [if_pos (by decide +kernel)]; kernel_rfl) | (rw [if_neg (by decide +kernel)]; exact ⟨rfl, rfl⟩))
    (fun os started H enc _ => msgSet_lifted os started H enc)
theorem msgSet_holds : Rows.MsgSetCardSaid :=
  Claim7.holds_tied_plain_at .later [] [.data, .data, .data, .data, .sentinel, .sentinel, .pinned] true (true, "ce67ec7d7c9d0a8c0955774ba40df6a45a05ec307238d33da3d649b224eed7f5") true msgSet_said (fun _ h => by cases h) (by kernel_rfl) (fun _ h => by cases h) msgSet_row_tie rfl ⟨rfl, rfl⟩ (by kernel_rfl) rfl
    (fun f fn hf hfn => by
      obtain rfl : f = 12 := Option.some.inj ((show Tryd.prog.funcNamed "sieveworks/vwlaw1.MsgSet" = some 12 by kernel_rfl).symm.trans hf) |>.symm
      obtain rfl : fn = Tryd.f12 := (Option.some.inj (Tryd.func12.symm.trans hfn)).symm
      exact ⟨by kernel_rfl, fun j t ht => by
        rw [Tryd.params12] at ht
        have hm : t ∈ [32, 9, 9, 9] := by simpa using Array.mem_of_getElem? ht
        have hall : ([32, 9, 9, 9].all fun u => !Tryd.prog.wantsStandIn u) = true := by kernel_rfl
        exact (show Tryd.prog.wantsStandIn t = false by simpa using List.all_eq_true.1 hall t hm)⟩)
    (by kernel_rfl)
#print axioms msgSet_holds
end Go.Proofs.YtmcjgfoaiannoabDoor
