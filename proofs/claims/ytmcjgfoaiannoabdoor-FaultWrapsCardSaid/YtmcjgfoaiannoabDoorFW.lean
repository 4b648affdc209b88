/-
  The walk of FaultTells: it answers true. Condition: the length bound that the reach pays.
-/
import Derived.Test.YtmcjgfoaiannoabDoorFIs2
namespace Go.Proofs.YtmcjgfoaiannoabDoor
open Go.RowKit

set_option maxRecDepth 100000 in
set_option maxHeartbeats 8000000 in
theorem faultTells_walk (k fi ca : Int) (t : ByteArray) (n kind : Int) (hwk : (Lit.int .i64 k).wf = true) (hwf : (Lit.int .i64 fi).wf = true) (hwc : (Lit.int .i64 ca).wf = true) (hwn : (Lit.int .i64 n).wf = true) (ht : t.size ≤ 140737488355328) (w : World) (hp : pow w) :
    Calls Tryd.prog 3 #[fltV k fi ca t n, .int .i64 kind] w fun e w' => e = .returned (.bool true) ∧ Below w.heap.size w w' := by
  have HI1 := is_any k fi ca t n kind
  have HI2 := refis_any k fi ca t n kind
  have HT1 := text_any k fi ca t n hwf hwc ht
  have HT2 := reftext_any k fi ca t n hwk hwf hwc hwn ht
  have HN := new_any kind
  have HS1 := status_any k fi ca t n
  have HS2 := refstatus_any k fi ca t n hwk
  have HA1 := told_any k fi ca t n
  have HA2 := reftold_any k fi ca t n hwk
  obtain ⟨b, hb⟩ : ∃ b, b = (decide (k = kind) || (decide (n ≠ 0) && decide (n = kind))) := ⟨_, rfl⟩
  obtain ⟨T, hT⟩ : ∃ T, T = textP k fi ca t n := ⟨_, rfl⟩
  obtain ⟨st, hst⟩ : ∃ st, st = statP k := ⟨_, rfl⟩
  obtain ⟨nm, hnm⟩ : ∃ nm, nm = nameP k := ⟨_, rfl⟩
  rw [← hst] at HS1 HS2
  simp only [← hst, ← hnm] at HA1 HA2
  simp only [← hb] at HI1 HI2
  simp only [← hT] at HT1 HT2
  clear hb hT hst hnm hwk hwf hwc hwn ht
  have HI1 := Lib.hid HI1
  have HI2 := Lib.hid HI2
  have HT1 := Lib.hid HT1
  have HT2 := Lib.hid HT2
  have HN := Lib.hid HN
  have HS1 := Lib.hid HS1
  have HS2 := Lib.hid HS2
  have HA1 := Lib.hid HA1
  have HA2 := Lib.hid HA2
  go_enter Tryd.func3, Tryd.ntmps3
  obtain ⟨W, hW⟩ : ∃ W, W = w.alloc (.cells (fltC k fi ca t n) 23) := ⟨_, rfl⟩
  have bb : Blk W w.heap.size 23 (fltC k fi ca t n) := by rw [hW]; exact Blk.new _ _ _
  have hB : Below w.heap.size w W := by rw [hW]; exact (Below.refl _ w).alloc (Nat.le_refl _) _
  have hp := pow_below hp hB
  go_upto_region 1 with fail
  rw [← hW]
  clear hW
  obtain ⟨q0, q1, q2, q3, q4⟩ := bb.c5
  go_region_held3 (fun wx => wx.cell? ⟨w.heap.size, 0, none⟩ = some (.int .i64 k) ∧ wx.cell? ⟨w.heap.size, 1, none⟩ = some (.int .i64 fi) ∧ wx.cell? ⟨w.heap.size, 2, none⟩ = some (.int .i64 ca) ∧ wx.cell? ⟨w.heap.size, 3, none⟩ = some (.string t) ∧ wx.cell? ⟨w.heap.size, 4, none⟩ = some (.int .i64 n)) (exact ⟨q0, q1, q2, q3, q4⟩)
      (first
      | (go_at_call 13
         with_reducible refine (HI1.out _).mono ?_
         rintro e w1 ⟨rfl, hb⟩
         repeat (have hb := below_undrew' hb)
         have bb := bb.below hb bb.lt
         have hB := hB.trans (hb.mono hB.size)
         have hp := pow_below hp hb
         obtain ⟨q0, q1, q2, q3, q4⟩ := bb.c5)
      | (go_at_call 14
         with_reducible refine (HI2.out _).mono ?_
         rintro e w1 ⟨rfl, hb⟩
         repeat (have hb := below_undrew' hb)
         have bb := bb.below hb bb.lt
         have hB := hB.trans (hb.mono hB.size)
         have hp := pow_below hp hb
         obtain ⟨q0, q1, q2, q3, q4⟩ := bb.c5)
      | (go_at_call 15
         with_reducible refine (HT1.out _ ?_).mono ?_
         · exact hp
         rintro e w1 ⟨rfl, hb⟩
         repeat (have hb := below_undrew' hb)
         have bb := bb.below hb bb.lt
         have hB := hB.trans (hb.mono hB.size)
         have hp := pow_below hp hb
         obtain ⟨q0, q1, q2, q3, q4⟩ := bb.c5)
      | (go_at_call 16
         with_reducible refine (HT2.out _ ?_).mono ?_
         · exact hp
         rintro e w1 ⟨rfl, hb⟩
         repeat (have hb := below_undrew' hb)
         have bb := bb.below hb bb.lt
         have hB := hB.trans (hb.mono hB.size)
         have hp := pow_below hp hb
         obtain ⟨q0, q1, q2, q3, q4⟩ := bb.c5)
      | (go_at_call 17
         with_reducible refine (HN.out _).mono ?_
         rintro e w1 ⟨rfl, hb⟩
         repeat (have hb := below_undrew' hb)
         have bb := bb.below hb bb.lt
         have hB := hB.trans (hb.mono hB.size)
         have hp := pow_below hp hb
         obtain ⟨q0, q1, q2, q3, q4⟩ := bb.c5)
      | (go_at_call 18
         with_reducible refine (HS1.out _).mono ?_
         rintro e w1 ⟨rfl, hb⟩
         repeat (have hb := below_undrew' hb)
         have bb := bb.below hb bb.lt
         have hB := hB.trans (hb.mono hB.size)
         have hp := pow_below hp hb
         obtain ⟨q0, q1, q2, q3, q4⟩ := bb.c5)
      | (go_at_call 19
         with_reducible refine (HS2.out _).mono ?_
         rintro e w1 ⟨rfl, hb⟩
         repeat (have hb := below_undrew' hb)
         have bb := bb.below hb bb.lt
         have hB := hB.trans (hb.mono hB.size)
         have hp := pow_below hp hb
         obtain ⟨q0, q1, q2, q3, q4⟩ := bb.c5)
      | (go_at_call 21
         with_reducible refine (HA1.out _).mono ?_
         rintro e w1 ⟨g1, c1, rfl, y1, hb⟩
         repeat (have hb := below_undrew' hb)
         have bb := bb.below hb bb.lt
         have hB := hB.trans (hb.mono hB.size)
         have hp := pow_below hp hb
         obtain ⟨q0, q1, q2, q3, q4⟩ := bb.c5)
      | (go_at_call 22
         with_reducible refine (HA2.out _).mono ?_
         rintro e w1 ⟨g2, c2, rfl, y2, hb⟩
         repeat (have hb := below_undrew' hb)
         have bb := bb.below hb bb.lt
         have hB := hB.trans (hb.mono hB.size)
         have hp := pow_below hp hb
         have y1 := y1.below hb
         obtain ⟨q0, q1, q2, q3, q4⟩ := bb.c5)
      | (go_at_call 20
         with_reducible refine (same_any st g1 g2 c1 c2 nm _ ?_ ?_).mono ?_
         · exact y1
         · exact y2
         rintro e w1 ⟨rfl, hb⟩
         repeat (have hb := below_undrew' hb)
         have bb := bb.below hb bb.lt
         have hB := hB.trans (hb.mono hB.size)
         have hp := pow_below hp hb
         obtain ⟨q0, q1, q2, q3, q4⟩ := bb.c5))
  all_goals
    go_wp2
    go_ret
    exact ⟨by simp, hB⟩
end Go.Proofs.YtmcjgfoaiannoabDoor
