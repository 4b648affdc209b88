/-
  The reference's Can: what a filter can. No condition.
-/
import Derived.Test.YtmcjgfoaiannoaaFCaps
import Derived.Test.YtmcjgfoaiannoaaBase
import Derived.Maps.OwnOps
namespace Go.Proofs.Ytmcjgfoaiannoaa
open Go.RowKit Go.Maps
theorem mlaw3 : Keyed Try.prog 3 := int_keyed Try.underlying3
theorem mzero3 (w : World) : (zeroValue 3).run Try.prog w = .ok (.int .i64 0) w := by kernel_rfl
def canMap : DataW Unit := ((((((DataW.map []).put (.int .i64 1) (.lit (.int .i64 1))).put (.int .i64 2) (.lit (.int .i64 2))).put (.int .i64 3) (.lit (.int .i64 1))).put (.int .i64 4) (.lit (.int .i64 1))).put (.int .i64 5) (.lit (.int .i64 1))).put (.int .i64 6) (.lit (.int .i64 2))
set_option maxRecDepth 100000 in
theorem refCan_no (k n : Int) (key text : ByteArray) (w : World) (h7 : k ≠ 7) (hk : (Lit.int .i64 k).wf = true) :
    Calls Try.prog 51 #[.agg #[.int .i64 k, .int .i64 n, .string key, .string text]] w fun e w' => (∃ c : Int, e = .returned (.int .i64 c) ∧ canMap.atKey (.int .i64 k) (.lit (.int .i64 0)) = .lit (.int .i64 c)) ∧ Below w.heap.size w w' := by
  have hmm := @run_makeMap Try.prog
  have h7' : (k == 7) = false := by simpa using h7
  obtain ⟨w0, hw0⟩ : ∃ w0, w0 = (w.alloc (.cells #[.int .i64 k, .int .i64 n, .string key, .string text] 60)).alloc (.map #[] 0) := ⟨_, rfl⟩
  have bb : Blk w0 w.heap.size 60 #[.int .i64 k, .int .i64 n, .string key, .string text] := by rw [hw0]; exact (Blk.new _ _ _).alloc _
  have hB : Below w.heap.size w w0 := by rw [hw0]; exact ((Below.refl _ w).alloc (Nat.le_refl _) _).alloc (by simp) _
  have hs : (w.alloc (.cells #[.int .i64 k, .int .i64 n, .string key, .string text] 60)).heap.size = w.heap.size + 1 := World.size_alloc _ _
  have o0 : w0.ownsMap Try.prog 3 (plainElem (H := Unit) Try.prog 3) (w.heap.size + 1) 0 (.map []) := by
    rw [hw0, ← hs]
    exact World.ownsMap_made _ _ _ _
  obtain ⟨w1, r1, o1, g1⟩ := o0.update mlaw3 Try.underlying120 (by unfold maxLen; omega) (keyOf_int_mk (q := .i64) (a := 1) Try.underlying3 (by decide)) (plainElem_int (q := .i64) (a := 1) Try.underlying3 (by decide))
  obtain ⟨w2, r2, o2, g2⟩ := o1.update mlaw3 Try.underlying120 (by unfold maxLen; omega) (keyOf_int_mk (q := .i64) (a := 2) Try.underlying3 (by decide)) (plainElem_int (q := .i64) (a := 2) Try.underlying3 (by decide))
  obtain ⟨w3, r3, o3, g3⟩ := o2.update mlaw3 Try.underlying120 (by unfold maxLen; omega) (keyOf_int_mk (q := .i64) (a := 3) Try.underlying3 (by decide)) (plainElem_int (q := .i64) (a := 1) Try.underlying3 (by decide))
  obtain ⟨w4, r4, o4, g4⟩ := o3.update mlaw3 Try.underlying120 (by unfold maxLen; omega) (keyOf_int_mk (q := .i64) (a := 4) Try.underlying3 (by decide)) (plainElem_int (q := .i64) (a := 1) Try.underlying3 (by decide))
  obtain ⟨w5, r5, o5, g5⟩ := o4.update mlaw3 Try.underlying120 (by unfold maxLen; omega) (keyOf_int_mk (q := .i64) (a := 5) Try.underlying3 (by decide)) (plainElem_int (q := .i64) (a := 1) Try.underlying3 (by decide))
  obtain ⟨w6, r6, o6, g6⟩ := o5.update mlaw3 Try.underlying120 (by unfold maxLen; omega) (keyOf_int_mk (q := .i64) (a := 6) Try.underlying3 (by decide)) (plainElem_int (q := .i64) (a := 2) Try.underlying3 (by decide))
  obtain ⟨c, rl, hat, _⟩ := o6.lookup_int mlaw3 Try.underlying120 Try.underlying3 (mzero3 _) (keyOf_int_mk (q := .i64) (a := k) Try.underlying3 hk)
  go_enter Try.func51, Try.ntmps51
  have hgb := ((((g1.trans g2).trans g3).trans g4).trans g5).trans g6
  have bb := bb.grown hgb (fun e => by injection e with e; omega)
  have k0 := bb.c4.1
  have hb6 : Below w.heap.size w w6 := hB.grown hgb hB.size (fun g hg => by cases hg; omega)
  subst hw0
  go_wp2
  go_ret
  exact ⟨⟨c, rfl, hat⟩, hb6⟩
end Go.Proofs.Ytmcjgfoaiannoaa
