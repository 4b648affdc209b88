/-
  msg.Own of a message without heads and body. No condition.
-/
import Derived.Test.YtmcjgfoaiannoabDoorCaps
import Derived.Test.YtmcjgfoaiannoabDoorBase
import Derived.Deep.RegionLaw
import Derived.Lib.SliceRun
import Derived.Deep.DeepCutAuto
namespace Go.Proofs.YtmcjgfoaiannoabDoor
open Go.RowKit

set_option maxRecDepth 100000 in
theorem cl69 (w : World) : Calls Tryd.prog 69 #[.slice none 0 0] w fun e w' => e = .returned (.slice none 0 0) ∧ w' = w := by
  have hnn := fun (W : World) => Lib.run_eql_slice_nil (P := Tryd.prog) W 29 _ none 0 0 0 0 Tryd.underlying29
  go_enter Tryd.func69, Tryd.ntmps69
  go_wp2
  go_ret
  exact ⟨rfl, rfl⟩
set_option maxRecDepth 100000 in
theorem cl70 (w : World) : Calls Tryd.prog 70 #[.slice none 0 0] w fun e w' => e = .returned (.slice none 0 0) ∧ w' = w := by
  have hnn := fun (W : World) => Lib.run_eql_slice_nil (P := Tryd.prog) W 30 _ none 0 0 0 0 Tryd.underlying30
  go_enter Tryd.func70, Tryd.ntmps70
  go_wp2
  go_ret
  exact ⟨rfl, rfl⟩
set_option maxRecDepth 100000 in
set_option maxHeartbeats 1000000 in
theorem own0_any (st : Int) (path : ByteArray) (w : World) :
    Calls Tryd.prog 46 #[.agg #[.int .i64 st, .string path, .slice none 0 0, .slice none 0 0]] w fun e w' => e = .returned (.agg #[.int .i64 st, .string path, .slice none 0 0, .slice none 0 0]) ∧ Below w.heap.size w w' := by
  go_enter Tryd.func46, Tryd.ntmps46
  obtain ⟨w0, hw0⟩ : ∃ w0, w0 = (w.alloc (.cells #[.int .i64 st, .string path, .slice none 0 0, .slice none 0 0] 32)).alloc (.cells #[.int .i64 0, .string { data := #[] }, .slice none 0 0, .slice none 0 0] 32) := ⟨_, rfl⟩
  go_upto_region 1 with fail
  rw [← hw0]
  have bb : Blk w0 w.heap.size 32 #[.int .i64 st, .string path, .slice none 0 0, .slice none 0 0] := by rw [hw0]; exact (Blk.new _ _ _).alloc _
  have zb : Blk w0 (w.heap.size + 1) 32 #[.int .i64 0, .string { data := #[] }, .slice none 0 0, .slice none 0 0] := by rw [hw0]; exact Blk.new' _ _ (by simp) _ _
  have hB : Below w.heap.size w w0 := by rw [hw0]; exact ((Below.refl _ w).alloc (Nat.le_refl _) _).alloc (by simp) _
  clear hw0
  go_cut [] (fun wx => Blk wx w.heap.size 32 #[.int .i64 st, .string path, .slice none 0 0, .slice none 0 0] ∧ Blk wx (w.heap.size + 1) 32 #[.int .i64 0, .string { data := #[] }, .slice none 0 0, .slice none 0 0] ∧ Below w.heap.size w wx)
  case first =>
    have k2 := bb.cell 2
    have k3 := bb.cell 3
    have kf := bb.frz
    simp at k2 k3
    go_region_law (first
      | (go_simp
         with_reducible refine (cl69 _).mono ?_
         rintro e w' ⟨rfl, rfl⟩)
      | (go_simp
         with_reducible refine (cl70 _).mono ?_
         rintro e w' ⟨rfl, rfl⟩))
    all_goals
      go_wp2_with fail
      go_meet
      exact ⟨Blk.set_ (Blk.set_ bb 2 _) 3 _, (zb.far (p := ⟨w.heap.size, 2, none⟩) (by show w.heap.size + 1 ≠ w.heap.size; omega) _).far (p := ⟨w.heap.size, 3, none⟩) (by show w.heap.size + 1 ≠ w.heap.size; omega) _, (hB.setCell (p := ⟨w.heap.size, 2, none⟩) (Nat.le_refl _) _).setCell (p := ⟨w.heap.size, 3, none⟩) (Nat.le_refl _) _ |>.drew⟩
  case rest =>
    obtain ⟨bb, zb, hB⟩ := hcut
    have k0 := bb.cell 0
    have k1 := bb.cell 1
    have k2 := bb.cell 2
    have k3 := bb.cell 3
    have j0 := zb.cell 0
    have j1 := zb.cell 1
    have j2 := zb.cell 2
    have j3 := zb.cell 3
    simp at k0 k1 k2 k3 j0 j1 j2 j3
    have zf := zb.frz
    have l2 := zb.lt
    go_wp2
    refine bodyPost_ret (v := .agg #[.int .i64 st, .string path, .slice none 0 0, .slice none 0 0]) (by simp only [results, Tryd.results46]; go_simp) rfl ⟨rfl, ?_⟩
    iterate 4 refine Below.setCell ?_ (by show w.heap.size ≤ w.heap.size + 1; omega) _
    exact hB
end Go.Proofs.YtmcjgfoaiannoabDoor
