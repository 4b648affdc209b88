/-
  MsgTurns: the row of the second form and its tied card. Condition: what comes in is of bulk at most 1048576 (the row's own).
-/
import Derived.Test.YtmcjgfoaiannoabDoorTie
import Derived.Test.YtmcjgfoaiannoabDoorCards
import Derived.Test.YtmcjgfoaiannoabDoorMTurnW
import Derived.Test.YtmcjgfoaiannoabDoorPUpto
import Derived.Test.YtmcjgfoaiannoabDoorBMsg
import Derived.SevenTiedAt
namespace Go.Proofs.YtmcjgfoaiannoabDoor
open Go.RowKit Go.ChangeShapes Go.WideShapes Go.ChangeAt

set_option maxRecDepth 100000 in
theorem msgTurns_lifted (os : Os) (started : os.Started) (H : Type) (enc : TypeId × Value → H) (F : Stop.Interp) :
    ReturnsInHanded {} Tryd.checked os 11 .any ((Rows.OpenSpec.upto Rows.msgTurnsSpec).preRow enc Tryd.prog Tryd.f11 Rows.msgTurnsUptoRow.domain false Rows.msgTurnsUptoRow.laid) (((Rows.OpenSpec.upto Rows.msgTurnsSpec).at F).post enc Tryd.prog Tryd.f11 false true false false) := by
  obtain ⟨places, hx⟩ := turn_reads os enc
  exact lifted_upto (C := Tryd.checked) Rows.msgTurnsUptoRow.laid own laidOut os started 11 Tryd.f11 Rows.msgTurnsSpec Tryd.func11 (by kernel_rfl) rfl
    (fun ds h => by
      rw [Tryd.params11] at h
      match ds, h with
      | [_, _], _ => rfl) 4 Tryd.underlying4 rfl (by kernel_rfl)
    (witness_row_atRef (enc := enc) (C := Tryd.checked) false (World.laidAll Tryd.prog os Rows.msgTurnsUptoRow.laid) #[.agg #[.int .i64 0, .string ⟨#[]⟩, .slice none 0 0, .slice none 0 0], .string ⟨#[]⟩] (World.laidAll_os _ _ _) (by kernel_rfl) (by kernel_rfl) (by kernel_rfl)
      (OpenSpec.preRow_of_cond 8 hx (by kernel_rfl) (fun k hk => by cases hk; kernel_rfl) (by kernel_rfl) (turn_laid os _)))
    (fun W base args ds ps hv hA hlt hsz hL hk => by
      rw [Tryd.params11] at hA hv hsz
      obtain ⟨v1, a1, d1, e1, p1, q1, ha, rfl, rfl, t1, r1⟩ := trodAll_cons hA
      obtain ⟨v2, a2, d2, e2, p2, q2, rfl, rfl, rfl, t2, r2⟩ := trodAll_cons r1
      obtain ⟨rfl, rfl, rfl⟩ := trodAll_nil r2
      obtain rfl : args = #[v1, v2] := by cases args; simp_all
      obtain ⟨k1, s1, A1, l1, c1, B1, b1, f1, rfl, m1⟩ := open_msgArg (hv 0 32 v1 rfl rfl) t1 (fun x hx => hlt x (by simp [hx])) (weights_each hsz 0 32 d1 rfl rfl)
      obtain ⟨s2, rfl, z2⟩ := open_strBulk t2 (hv 1 9 v2 rfl rfl)
      have hb : Rows.uptoBulkAll [d1, d2] ≤ 1048576 := of_decide_eq_true hk
      simp only [Rows.uptoBulkAll] at hb
      exact msgTurns_mid ⟨k1, s1, l1, b1⟩ A1 c1 B1 f1 s2 W m1 (msg_libs hL) (by omega)) F
theorem msgTurns_said : Rows.MsgTurnsUptoSaid :=
  OpenClaim.holds_of_cond 11 Tryd.f11 rfl rfl rfl rfl rfl rfl rfl ⟨rfl, rfl, rfl, rfl, rfl⟩ rfl rfl rfl rfl rfl (by kernel_rfl) Tryd.func11 (by kernel_rfl)
    (of_decide_eq_true (by kernel_rfl)) (by unfold Func.isWrapper; first | (rw [if_pos (by decide +kernel)]; kernel_rfl) | (rw [if_neg (by decide +kernel)]; exact ⟨rfl, rfl⟩))
    (fun os started H enc _ F => by rw [OpenClaim.pre_eq_preRow]; exact msgTurns_lifted os started H enc F)
theorem msgTurns_holds : Rows.MsgTurnsUptoCardSaid :=
  Claim7.holds_tied_plain_at .later [] [.data, .data, .data, .data, .sentinel, .sentinel, .pinned] true (true, "ce67ec7d7c9d0a8c0955774ba40df6a45a05ec307238d33da3d649b224eed7f5") true msgTurns_said (fun _ h => by cases h) (by kernel_rfl) (fun _ h => by cases h) msgTurnsUpto_row_tie rfl ⟨rfl, rfl⟩ (by kernel_rfl) rfl
    (fun f fn hf hfn => by
      obtain rfl : f = 11 := Option.some.inj ((show Tryd.prog.funcNamed "sieveworks/vwlaw1.MsgTurns" = some 11 by kernel_rfl).symm.trans hf) |>.symm
      obtain rfl : fn = Tryd.f11 := (Option.some.inj (Tryd.func11.symm.trans hfn)).symm
      exact ⟨by kernel_rfl, fun j t ht => by
        rw [Tryd.params11] at ht
        have hm : t ∈ [32, 9] := by simpa using Array.mem_of_getElem? ht
        have hall : ([32, 9].all fun u => !Tryd.prog.wantsStandIn u) = true := by kernel_rfl
        exact (show Tryd.prog.wantsStandIn t = false by simpa using List.all_eq_true.1 hall t hm)⟩)
    (by kernel_rfl)
#print axioms msgTurns_holds
end Go.Proofs.YtmcjgfoaiannoabDoor
