/-
  The walk of CapsTells: it answers true. Condition: the arguments can be read.
-/
import Derived.Test.YtmcjgfoaiannoabDoorCCan
import Derived.Test.YtmcjgfoaiannoabDoorCConf2
import Derived.Deep.RegionHeld3
namespace Go.Proofs.YtmcjgfoaiannoabDoor
open Go.RowKit

theorem below_undrew2 {w w' : World} (h : Below w.drew.heap.size w.drew w') : Below w.heap.size w w' := ⟨h.os, h.tape, h.output, h.size, h.block⟩
set_option maxRecDepth 100000 in
set_option maxHeartbeats 8000000 in
theorem capsTells_walk (k n : Int) (key text : ByteArray) (call : Int) (A1 A2 A3 : Option Addr) (c1 c2 c3 : Nat) (l1 : List Sv) (l2 : List Up) (l3 : List Bd) (fl cn wt tm : Int) (w : World) (hk : (Lit.int .i64 k).wf = true) (_ : (Lit.int .i64 n).wf = true) (_ : key.size ≤ 140737488355328) (_ : text.size ≤ 140737488355328) (_ : (Lit.int .i64 call).wf = true) (r1 : Rd 4 encS w w.heap.size A1 l1) (r2 : Rd 4 encU w w.heap.size A2 l2) (r3 : Rd 5 encB w w.heap.size A3 l3) :
    Calls Tryd.prog 5 #[sivV k n key text, .int .i64 call, cnfV A1 A2 A3 l1.length l2.length l3.length c1 c2 c3 fl cn wt tm] w fun e w' => e = .returned (.bool true) ∧ Below w.heap.size w w' := by
  obtain ⟨r, hr, hrr⟩ := canF_range k n
  have H1 := ofF_any k n key text
  have H2 := refCan_any k n hk key text
  have H3 := capsCan_any k n key text call r hr hrr
  have H4 := canCall_any k n hk key text call r hr hrr
  rw [hrr] at H1 H2
  obtain ⟨b, hb⟩ : ∃ b, b = capB r call := ⟨_, rfl⟩
  rw [← hb] at H3 H4
  clear hb hrr hr
  have H1 := Lib.hid H1
  have H2 := Lib.hid H2
  have H3 := Lib.hid H3
  have H4 := Lib.hid H4
  obtain ⟨W, hW⟩ : ∃ W, W = (w.alloc (.cells (sivC k n key text) 38)).alloc (.cells (cnfC A1 A2 A3 l1.length l2.length l3.length c1 c2 c3 fl cn wt tm) 43) := ⟨_, rfl⟩
  have sb : Blk W w.heap.size 38 (sivC k n key text) := by rw [hW]; exact (Blk.new _ _ _).alloc _
  have cb : Blk W (w.heap.size + 1) 43 (cnfC A1 A2 A3 l1.length l2.length l3.length c1 c2 c3 fl cn wt tm) := by rw [hW]; exact Blk.new' _ _ (by simp) _ _
  have hB : Below w.heap.size w W := by rw [hW]; exact ((Below.refl _ w).alloc (Nat.le_refl _) _).alloc (by simp) _
  have hC1 := capsWrong_any A1 A2 A3 c1 c2 c3 l1 l2 l3 fl cn wt tm W ((r1.below hB).more hB.size) ((r2.below hB).more hB.size) ((r3.below hB).more hB.size)
  have hC2 := fun w1 (hb : Below w.heap.size w w1) => refWrongConf_any A1 A2 A3 c1 c2 c3 l1 l2 l3 fl cn wt tm w1 ((r1.below hb).more hb.size) ((r2.below hb).more hb.size) ((r3.below hb).more hb.size)
  obtain ⟨rv, hrv⟩ : ∃ v, v = confP l1 l2 l3 fl cn wt tm := ⟨_, rfl⟩
  rw [← hrv] at hC1
  simp only [← hrv] at hC2
  clear hrv r1 r2 r3
  obtain ⟨code, place⟩ := rv
  have hC2 := Lib.hid hC2
  have ⟨k0, k1, k2, k3, k4, k5, k6⟩ := cb.c7
  have cl := cb.lt
  go_enter Tryd.func5, Tryd.ntmps5
  go_wp2_with (go_at_call 25; refine Hid.out ?_)
  rw [← hW]
  unfold Hid
  clear hW
  refine hC1.mono ?_
  rintro e w1 ⟨rfl, hb⟩
  have sb := sb.below hb sb.lt
  have cb := cb.below hb cb.lt
  have hB := hB.trans (hb.mono hB.size)
  clear hb hC1 k0 k1 k2 k3 k4 k5 k6 cl
  have ⟨k0, k1, k2, k3, k4, k5, k6⟩ := cb.c7
  have cl := cb.lt
  unfold tup
  go_wp2_with (go_at_call 26; refine Hid.out ?_)
  unfold Hid
  refine (hC2.out w1 hB).mono ?_
  rintro e w2 ⟨rfl, hb⟩
  have sb := sb.below hb sb.lt
  have hB := hB.trans (hb.mono hB.size)
  clear hb hC2 k0 k1 k2 k3 k4 k5 k6 cl cb
  obtain ⟨q0, q1, q2, q3⟩ := sb.c4
  unfold tup
  go_upto_region 3 with fail
  go_region_held3 (fun wx => wx.cell? ⟨w.heap.size, 0, none⟩ = some (.int .i64 k) ∧ wx.cell? ⟨w.heap.size, 1, none⟩ = some (.int .i64 n) ∧ wx.cell? ⟨w.heap.size, 2, none⟩ = some (.string key) ∧ wx.cell? ⟨w.heap.size, 3, none⟩ = some (.string text)) (exact ⟨q0, q1, q2, q3⟩)
      (first
      | (go_at_call 27
         with_reducible refine (H1.out _).mono ?_
         rintro e w3 ⟨rfl, hb⟩
         repeat (have hb := below_undrew2 hb)
         have sb := sb.below hb sb.lt
         have hB := hB.trans (hb.mono hB.size)
         obtain ⟨q0, q1, q2, q3⟩ := sb.c4)
      | (go_at_call 28
         with_reducible refine (H2.out _).mono ?_
         rintro e w3 ⟨rfl, hb⟩
         repeat (have hb := below_undrew2 hb)
         have sb := sb.below hb sb.lt
         have hB := hB.trans (hb.mono hB.size)
         obtain ⟨q0, q1, q2, q3⟩ := sb.c4)
      | (go_at_call 29
         with_reducible refine (H3.out _).mono ?_
         rintro e w3 ⟨rfl, hb⟩
         repeat (have hb := below_undrew2 hb)
         have sb := sb.below hb sb.lt
         have hB := hB.trans (hb.mono hB.size)
         obtain ⟨q0, q1, q2, q3⟩ := sb.c4)
      | (go_at_call 30
         with_reducible refine (H4.out _).mono ?_
         rintro e w3 ⟨rfl, hb⟩
         repeat (have hb := below_undrew2 hb)
         have sb := sb.below hb sb.lt
         have hB := hB.trans (hb.mono hB.size)
         obtain ⟨q0, q1, q2, q3⟩ := sb.c4))
  all_goals
    go_wp2
    go_ret
    exact ⟨by simp, hB⟩
end Go.Proofs.YtmcjgfoaiannoabDoor
