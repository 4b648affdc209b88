/-
  What who asked is told of a fault, by the program and by the reference: one message. Condition: the kind is an int of 64 bits.
-/
import Derived.Test.YtmcjgfoaiannoabDoorFAns
import Derived.Deep.RegionHeld3
import Derived.Deep.DeepCutAuto
namespace Go.Proofs.YtmcjgfoaiannoabDoor
open Go.RowKit

theorem keep4 {w : World} {T g i : Nat} (u0 u1 u2 u3 : Value) (h : T ≠ g) : ((((w.setCell ⟨T, 0, none⟩ u0).setCell ⟨T, 1, none⟩ u1).setCell ⟨T, 2, none⟩ u2).setCell ⟨T, 3, none⟩ u3).cell? ⟨g, i, none⟩ = w.cell? ⟨g, i, none⟩ := by
  have hne : ∀ j, (⟨T, j, none⟩ : Addr) ≠ ⟨g, i, none⟩ := fun j e => h (congrArg Addr.block e)
  rw [World.cell?_setCell_other _ _ _ _ (hne 3), World.cell?_setCell_other _ _ _ _ (hne 2), World.cell?_setCell_other _ _ _ _ (hne 1), World.cell?_setCell_other _ _ _ _ (hne 0)]
set_option maxRecDepth 100000 in
set_option maxHeartbeats 4000000 in
theorem told_any (k fi ca : Int) (t : ByteArray) (n : Int) (w : World) :
    Calls Tryd.prog 21 #[fltV k fi ca t n] w fun e w' => ∃ g c, e = .returned (sayV (statP k) g (nameP k).size c) ∧ Byt w' g (nameP k) ∧ Below w.heap.size w w' := by
  go_enter Tryd.func21, Tryd.ntmps21
  obtain ⟨W, hW⟩ : ∃ W, W = (w.alloc (.cells (fltC k fi ca t n) 23)).alloc (.cells #[.int .i64 0, .string { data := #[] }, .slice none 0 0, .slice none 0 0] 32) := ⟨_, rfl⟩
  have bb : Blk W w.heap.size 23 (fltC k fi ca t n) := by rw [hW]; exact (Blk.new _ _ _).alloc _
  have b2 : Blk W (w.heap.size + 1) 32 #[.int .i64 0, .string { data := #[] }, .slice none 0 0, .slice none 0 0] := by rw [hW]; exact Blk.new' _ _ (by simp) _ _
  have hB : Below w.heap.size w W := by rw [hW]; exact ((Below.refl _ w).alloc (Nat.le_refl _) _).alloc (by simp) _
  go_upto_region 1 with fail
  rw [← hW]
  clear hW
  obtain ⟨q0, q1, q2, q3, q4⟩ := bb.c5
  have bl := bb.lt
  obtain ⟨z0, z1, z2, z3⟩ := b2.c4
  have f2 := b2.frz
  have l2 := b2.lt
  have hne : w.heap.size + 1 ≠ w.heap.size := by omega
  go_region_held3 (fun wx => wx.cell? ⟨w.heap.size, 0, none⟩ = some (.int .i64 k) ∧ wx.cell? ⟨w.heap.size, 1, none⟩ = some (.int .i64 fi) ∧ wx.cell? ⟨w.heap.size, 2, none⟩ = some (.int .i64 ca) ∧ wx.cell? ⟨w.heap.size, 3, none⟩ = some (.string t) ∧ wx.cell? ⟨w.heap.size, 4, none⟩ = some (.int .i64 n)) (first
      | (with_reducible exact ⟨q0, q1, q2, q3, q4⟩)
      | (with_reducible exact ⟨(keep4 _ _ _ _ hne).trans q0, (keep4 _ _ _ _ hne).trans q1, (keep4 _ _ _ _ hne).trans q2, (keep4 _ _ _ _ hne).trans q3, (keep4 _ _ _ _ hne).trans q4⟩)
      | go_keep)
      (first
      | (go_at_call 18
         with_reducible refine (status_any k fi ca t n _).mono ?_
         rintro e w1 ⟨rfl, hb⟩
         repeat (have hb := below_undrew' hb)
         have bb := bb.below hb bb.lt
         have b2 := b2.below hb b2.lt
         have hB := hB.trans (hb.mono hB.size)
         obtain ⟨q0, q1, q2, q3, q4⟩ := bb.c5
         have bl := bb.lt
         obtain ⟨z0, z1, z2, z3⟩ := b2.c4
         have f2 := b2.frz
         have l2 := b2.lt)
      | (go_at_call 58
         with_reducible refine (error_any k _).mono ?_
         rintro e w1 ⟨rfl, hb⟩
         repeat (have hb := below_undrew' hb)
         have bb := bb.below hb bb.lt
         have b2 := b2.below hb b2.lt
         have hB := hB.trans (hb.mono hB.size)
         obtain ⟨q0, q1, q2, q3, q4⟩ := bb.c5
         have bl := bb.lt
         obtain ⟨z0, z1, z2, z3⟩ := b2.c4
         have f2 := b2.frz
         have l2 := b2.lt)
      | (go_at_call 50
         with_reducible refine (answer_any (statP k) (nameP k) _).mono ?_
         rintro e w1 ⟨gy, c, rfl, hy, hgl, hb⟩
         have hgy : w.heap.size + 1 ≠ gy := Nat.ne_of_lt (Nat.lt_of_lt_of_le l2 hgl)
         repeat (have hb := below_undrew' hb)
         have bb := bb.below hb bb.lt
         have b2 := b2.below hb b2.lt
         have hB := hB.trans (hb.mono hB.size)
         obtain ⟨q0, q1, q2, q3, q4⟩ := bb.c5
         have bl := bb.lt
         obtain ⟨z0, z1, z2, z3⟩ := b2.c4
         have f2 := b2.frz
         have l2 := b2.lt))
  all_goals
    go_wp2
    have bx := (((b2.set_ 0 (.int .i64 (statP k))).set_ 1 (.string { data := #[] })).set_ 2 (.slice none 0 0)).set_ 3 (.slice (some ⟨gy, 0, none⟩) (nameP k).size c)
    have yy := (((hy.far (i := 0) hgy (.int .i64 (statP k))).far (i := 1) hgy (.string { data := #[] })).far (i := 2) hgy (.slice none 0 0)).far (i := 3) hgy (.slice (some ⟨gy, 0, none⟩) (nameP k).size c)
    have hBB := (((hB.setCell (p := ⟨w.heap.size + 1, 0, none⟩) (by simp) (.int .i64 (statP k))).setCell (p := ⟨w.heap.size + 1, 1, none⟩) (by simp) (.string { data := #[] })).setCell (p := ⟨w.heap.size + 1, 2, none⟩) (by simp) (.slice none 0 0)).setCell (p := ⟨w.heap.size + 1, 3, none⟩) (by simp) (.slice (some ⟨gy, 0, none⟩) (nameP k).size c)
    refine bodyPost_ret (v := sayV (statP k) gy (nameP k).size c) (results_cell_row (p := 2) (ty := 32) Tryd.results21 _ _ (w.heap.size + 1) 32 _ (0, 0) _ rfl bx Tryd.underlying32 rfl (by kernel_rfl)) rfl ⟨_, _, rfl, yy, hBB⟩
set_option maxRecDepth 100000 in
set_option maxHeartbeats 4000000 in
theorem reftold_any (k fi ca : Int) (t : ByteArray) (n : Int) (hk : (Lit.int .i64 k).wf = true) (w : World) :
    Calls Tryd.prog 22 #[fltV k fi ca t n] w fun e w' => ∃ g c, e = .returned (sayV (statP k) g (nameP k).size c) ∧ Byt w' g (nameP k) ∧ Below w.heap.size w w' := by
  go_enter Tryd.func22, Tryd.ntmps22
  obtain ⟨W, hW⟩ : ∃ W, W = (w.alloc (.cells (fltC k fi ca t n) 23)).alloc (.cells #[.int .i64 0, .string { data := #[] }, .slice none 0 0, .slice none 0 0] 32) := ⟨_, rfl⟩
  have bb : Blk W w.heap.size 23 (fltC k fi ca t n) := by rw [hW]; exact (Blk.new _ _ _).alloc _
  have b2 : Blk W (w.heap.size + 1) 32 #[.int .i64 0, .string { data := #[] }, .slice none 0 0, .slice none 0 0] := by rw [hW]; exact Blk.new' _ _ (by simp) _ _
  have hB : Below w.heap.size w W := by rw [hW]; exact ((Below.refl _ w).alloc (Nat.le_refl _) _).alloc (by simp) _
  go_upto_region 1 with fail
  rw [← hW]
  clear hW
  obtain ⟨q0, q1, q2, q3, q4⟩ := bb.c5
  have bl := bb.lt
  obtain ⟨z0, z1, z2, z3⟩ := b2.c4
  have f2 := b2.frz
  have l2 := b2.lt
  have hne : w.heap.size + 1 ≠ w.heap.size := by omega
  go_region_held3 (fun wx => wx.cell? ⟨w.heap.size, 0, none⟩ = some (.int .i64 k) ∧ wx.cell? ⟨w.heap.size, 1, none⟩ = some (.int .i64 fi) ∧ wx.cell? ⟨w.heap.size, 2, none⟩ = some (.int .i64 ca) ∧ wx.cell? ⟨w.heap.size, 3, none⟩ = some (.string t) ∧ wx.cell? ⟨w.heap.size, 4, none⟩ = some (.int .i64 n)) (first
      | (with_reducible exact ⟨q0, q1, q2, q3, q4⟩)
      | (with_reducible exact ⟨(keep4 _ _ _ _ hne).trans q0, (keep4 _ _ _ _ hne).trans q1, (keep4 _ _ _ _ hne).trans q2, (keep4 _ _ _ _ hne).trans q3, (keep4 _ _ _ _ hne).trans q4⟩)
      | go_keep)
      (first
      | (go_at_call 19
         with_reducible refine (refstatus_any k fi ca t n hk _).mono ?_
         rintro e w1 ⟨rfl, hb⟩
         repeat (have hb := below_undrew' hb)
         have bb := bb.below hb bb.lt
         have b2 := b2.below hb b2.lt
         have hB := hB.trans (hb.mono hB.size)
         obtain ⟨q0, q1, q2, q3, q4⟩ := bb.c5
         have bl := bb.lt
         obtain ⟨z0, z1, z2, z3⟩ := b2.c4
         have f2 := b2.frz
         have l2 := b2.lt)
      | (go_at_call 60
         with_reducible refine (kind_any k hk _).mono ?_
         rintro e w1 ⟨rfl, hb⟩
         repeat (have hb := below_undrew' hb)
         have bb := bb.below hb bb.lt
         have b2 := b2.below hb b2.lt
         have hB := hB.trans (hb.mono hB.size)
         obtain ⟨q0, q1, q2, q3, q4⟩ := bb.c5
         have bl := bb.lt
         obtain ⟨z0, z1, z2, z3⟩ := b2.c4
         have f2 := b2.frz
         have l2 := b2.lt)
      | (go_at_call 51
         with_reducible refine (say_any (statP k) (nameP k) _).mono ?_
         rintro e w1 ⟨gy, c, rfl, hy, hgl, hb⟩
         have hgy : w.heap.size + 1 ≠ gy := Nat.ne_of_lt (Nat.lt_of_lt_of_le l2 hgl)
         repeat (have hb := below_undrew' hb)
         have bb := bb.below hb bb.lt
         have b2 := b2.below hb b2.lt
         have hB := hB.trans (hb.mono hB.size)
         obtain ⟨q0, q1, q2, q3, q4⟩ := bb.c5
         have bl := bb.lt
         obtain ⟨z0, z1, z2, z3⟩ := b2.c4
         have f2 := b2.frz
         have l2 := b2.lt))
  all_goals
    go_wp2
    have bx := (((b2.set_ 0 (.int .i64 (statP k))).set_ 1 (.string { data := #[] })).set_ 2 (.slice none 0 0)).set_ 3 (.slice (some ⟨gy, 0, none⟩) (nameP k).size c)
    have yy := (((hy.far (i := 0) hgy (.int .i64 (statP k))).far (i := 1) hgy (.string { data := #[] })).far (i := 2) hgy (.slice none 0 0)).far (i := 3) hgy (.slice (some ⟨gy, 0, none⟩) (nameP k).size c)
    have hBB := (((hB.setCell (p := ⟨w.heap.size + 1, 0, none⟩) (by simp) (.int .i64 (statP k))).setCell (p := ⟨w.heap.size + 1, 1, none⟩) (by simp) (.string { data := #[] })).setCell (p := ⟨w.heap.size + 1, 2, none⟩) (by simp) (.slice none 0 0)).setCell (p := ⟨w.heap.size + 1, 3, none⟩) (by simp) (.slice (some ⟨gy, 0, none⟩) (nameP k).size c)
    refine bodyPost_ret (v := sayV (statP k) gy (nameP k).size c) (results_cell_row (p := 2) (ty := 32) Tryd.results22 _ _ (w.heap.size + 1) 32 _ (0, 0) _ rfl bx Tryd.underlying32 rfl (by kernel_rfl)) rfl ⟨_, _, rfl, yy, hBB⟩
set_option maxRecDepth 100000 in
set_option maxHeartbeats 2000000 in
theorem same_any (st : Int) (g g' c c' : Nat) (s : ByteArray) (w : World) (h : Byt w g s) (h' : Byt w g' s) :
    Calls Tryd.prog 20 #[sayV st g s.size c, sayV st g' s.size c'] w fun e w' => e = .returned (.bool true) ∧ Below w.heap.size w w' := by
  obtain ⟨W, hW⟩ : ∃ W, W = (w.alloc (.cells (sayC st g s.size c) 32)).alloc (.cells (sayC st g' s.size c') 32) := ⟨_, rfl⟩
  have hB : Below w.heap.size w W := by rw [hW]; exact ((Below.refl _ w).alloc (Nat.le_refl _) _).alloc (by simp) _
  have b1 : Blk W w.heap.size 32 (sayC st g s.size c) := by rw [hW]; exact (Blk.new _ _ _).alloc _
  have b2 : Blk W (w.heap.size + 1) 32 (sayC st g' s.size c') := by rw [hW]; exact Blk.new' _ _ (by simp) _ _
  have hc1 := (h.below hB).conv (c := c)
  have hc2 := (h'.below hB).conv (c := c')
  obtain ⟨q0, q1, q2, q3⟩ := b1.c4
  obtain ⟨z0, z1, z2, z3⟩ := b2.c4
  have hb0 : (s.toList == s.toList) = true := by simp
  go_enter Tryd.func20, Tryd.ntmps20
  go_upto_region 1 with fail
  rw [← hW]
  clear hW
  go_wp2
  refine wp_loop_rounds 1 ?_
  rw [rounds_succ]
  go_wp2
  go_ret
  exact ⟨rfl, hB⟩
end Go.Proofs.YtmcjgfoaiannoabDoor
