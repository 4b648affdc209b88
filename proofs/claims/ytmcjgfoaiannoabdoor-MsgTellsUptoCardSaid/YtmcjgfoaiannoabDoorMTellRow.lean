/-
  MsgTells: the row of the second form and its tied card. Condition: what comes in is of bulk at most 1048576 (the row's own).
-/
import Derived.Test.YtmcjgfoaiannoabDoorTie
import Derived.Test.YtmcjgfoaiannoabDoorCards
import Derived.Test.YtmcjgfoaiannoabDoorMTellW
import Derived.Test.YtmcjgfoaiannoabDoorPUpto
import Derived.Test.YtmcjgfoaiannoabDoorBMsg
import Derived.SevenTiedAt
namespace Go.Proofs.YtmcjgfoaiannoabDoor
open Go.RowKit Go.ChangeShapes Go.WideShapes Go.ChangeAt

set_option maxRecDepth 100000 in
theorem tell_laid (os : Os) (args : Array Value) : laidMetH Tryd.prog Rows.msgTellsUptoRow.laid ((World.laidAll Tryd.prog os Rows.msgTellsUptoRow.laid).forCall (fun _ _ => 0) ⟨#[], args, []⟩).memory := by
  rw [MakeChecks.laidMetH_plain _ _ _ (by kernel_rfl)]
  exact laidMet_laidAll _ (by kernel_rfl) (by kernel_rfl)
set_option maxRecDepth 100000 in
theorem tell_reads (os : Os) {H : Type} (enc : TypeId × Value → H) : ∃ x, DataW.whole enc Tryd.prog ((World.laidAll Tryd.prog os Rows.msgTellsUptoRow.laid).forCall (fun _ _ => 0) ⟨#[], #[.agg #[.int .i64 0, .string ⟨#[]⟩, .slice none 0 0, .slice none 0 0], .agg #[.int .i64 0, .string ⟨#[]⟩, .slice none 0 0, .slice none 0 0], .string ⟨#[]⟩, .string ⟨#[]⟩, .int .i64 0], []⟩).memory Tryd.f10.params.toList Rows.msgTellsSpec.vars false #[Value.agg #[.int .i64 0, .string ⟨#[]⟩, .slice none 0 0, .slice none 0 0], .agg #[.int .i64 0, .string ⟨#[]⟩, .slice none 0 0, .slice none 0 0], .string ⟨#[]⟩, .string ⟨#[]⟩, .int .i64 0].toList 8 = some ([.agg [.lit (.int .i64 0), .lit (.string []), .nil, .nil], .agg [.lit (.int .i64 0), .lit (.string []), .nil, .nil], .lit (.string []), .lit (.string []), .lit (.int .i64 0)], [], x) :=
  ⟨[], by kernel_rfl⟩
set_option maxRecDepth 100000 in
theorem msgTells_lifted (os : Os) (started : os.Started) (H : Type) (enc : TypeId × Value → H) (F : Stop.Interp) :
    ReturnsInHanded {} Tryd.checked os 10 .any ((Rows.OpenSpec.upto Rows.msgTellsSpec).preRow enc Tryd.prog Tryd.f10 Rows.msgTellsUptoRow.domain false Rows.msgTellsUptoRow.laid) (((Rows.OpenSpec.upto Rows.msgTellsSpec).at F).post enc Tryd.prog Tryd.f10 false true false false) := by
  obtain ⟨places, hx⟩ := tell_reads os enc
  exact lifted_upto (C := Tryd.checked) Rows.msgTellsUptoRow.laid own laidOut os started 10 Tryd.f10 Rows.msgTellsSpec Tryd.func10 (by kernel_rfl) rfl
    (fun ds h => by
      rw [Tryd.params10] at h
      match ds, h with
      | [_, _, _, _, _], _ => rfl) 4 Tryd.underlying4 rfl (by kernel_rfl)
    (witness_row_atRef (enc := enc) (C := Tryd.checked) false (World.laidAll Tryd.prog os Rows.msgTellsUptoRow.laid) #[.agg #[.int .i64 0, .string ⟨#[]⟩, .slice none 0 0, .slice none 0 0], .agg #[.int .i64 0, .string ⟨#[]⟩, .slice none 0 0, .slice none 0 0], .string ⟨#[]⟩, .string ⟨#[]⟩, .int .i64 0] (World.laidAll_os _ _ _) (by kernel_rfl) (by kernel_rfl) (by kernel_rfl)
      (OpenSpec.preRow_of_cond 8 hx (by kernel_rfl) (fun k hk => by cases hk; kernel_rfl) (by kernel_rfl) (tell_laid os _)))
    (fun W base args ds ps hv hA hlt hsz hL hk => by
      rw [Tryd.params10] at hA hv hsz
      obtain ⟨v1, a1, d1, e1, p1, q1, ha, rfl, rfl, t1, r1⟩ := trodAll_cons hA
      obtain ⟨v2, a2, d2, e2, p2, q2, rfl, rfl, rfl, t2, r2⟩ := trodAll_cons r1
      obtain ⟨v3, a3, d3, e3, p3, q3, rfl, rfl, rfl, t3, r3⟩ := trodAll_cons r2
      obtain ⟨v4, a4, d4, e4, p4, q4, rfl, rfl, rfl, t4, r4⟩ := trodAll_cons r3
      obtain ⟨v5, a5, d5, e5, p5, q5, rfl, rfl, rfl, t5, r5⟩ := trodAll_cons r4
      obtain ⟨rfl, rfl, rfl⟩ := trodAll_nil r5
      obtain rfl : args = #[v1, v2, v3, v4, v5] := by cases args; simp_all
      obtain ⟨k1, s1, A1, l1, c1, B1, b1, f1, rfl, m1⟩ := open_msgArg (hv 0 32 v1 rfl rfl) t1 (fun x hx => hlt x (by simp [hx])) (weights_each hsz 0 32 d1 rfl rfl)
      obtain ⟨k2, s2, A2, l2, c2, B2, b2, f2, rfl, m2⟩ := open_msgArg (hv 1 32 v2 rfl rfl) t2 (fun x hx => hlt x (by simp [hx])) (weights_each hsz 1 32 d2 rfl rfl)
      obtain ⟨s3, rfl, z3⟩ := open_strBulk t3 (hv 2 9 v3 rfl rfl)
      obtain ⟨s4, rfl, z4⟩ := open_strArg t4 (hv 3 9 v4 rfl rfl) (weights_each hsz 3 9 d4 rfl rfl)
      obtain ⟨n5, rfl, x5⟩ := open_int Tryd.underlying3 (hv 4 3 v5 rfl rfl) t5
      have hb : Rows.uptoBulkAll [d1, d2, d3, d4, d5] ≤ 1048576 := of_decide_eq_true hk
      simp only [Rows.uptoBulkAll] at hb
      exact msgTells_mid k1 s1 A1 l1 c1 B1 b1 f1 k2 s2 A2 l2 c2 B2 b2 f2 ⟨s4, s3, z4, by omega⟩ n5 W m1 m2 (msg_libs hL) (show s3.size ≤ 1048576 by omega)) F
theorem msgTells_said : Rows.MsgTellsUptoSaid :=
  OpenClaim.holds_of_cond 10 Tryd.f10 rfl rfl rfl rfl rfl rfl rfl ⟨rfl, rfl, rfl, rfl, rfl⟩ rfl rfl rfl rfl rfl (by kernel_rfl) Tryd.func10 (by kernel_rfl)
    (of_decide_eq_true (by kernel_rfl)) (by unfold Func.isWrapper; first | (rw [if_pos (by decide +kernel)]; kernel_rfl) | (rw [if_neg (by decide +kernel)]; exact ⟨rfl, rfl⟩))
    (fun os started H enc _ F => by rw [OpenClaim.pre_eq_preRow]; exact msgTells_lifted os started H enc F)
theorem msgTells_holds : Rows.MsgTellsUptoCardSaid :=
  Claim7.holds_tied_plain_at .later [] [.data, .data, .data, .data, .sentinel, .sentinel, .pinned] true (true, "ce67ec7d7c9d0a8c0955774ba40df6a45a05ec307238d33da3d649b224eed7f5") true msgTells_said (fun _ h => by cases h) (by kernel_rfl) (fun _ h => by cases h) msgTellsUpto_row_tie rfl ⟨rfl, rfl⟩ (by kernel_rfl) rfl
    (fun f fn hf hfn => by
      obtain rfl : f = 10 := Option.some.inj ((show Tryd.prog.funcNamed "sieveworks/vwlaw1.MsgTells" = some 10 by kernel_rfl).symm.trans hf) |>.symm
      obtain rfl : fn = Tryd.f10 := (Option.some.inj (Tryd.func10.symm.trans hfn)).symm
      exact ⟨by kernel_rfl, fun j t ht => by
        rw [Tryd.params10] at ht
        have hm : t ∈ [32, 32, 9, 9, 3] := by simpa using Array.mem_of_getElem? ht
        have hall : ([32, 32, 9, 9, 3].all fun u => !Tryd.prog.wantsStandIn u) = true := by kernel_rfl
        exact (show Tryd.prog.wantsStandIn t = false by simpa using List.all_eq_true.1 hall t hm)⟩)
    (by kernel_rfl)
#print axioms msgTells_holds
end Go.Proofs.YtmcjgfoaiannoabDoor
