/-
  What a filter can, by the program and by the reference, of any filter. Condition: the kind is an int of 64 bits.
-/
import Derived.Test.YtmcjgfoaiannoabDoorSWr
import Derived.Test.YtmcjgfoaiannoabDoorCaps
import Derived.Test.YtmcjgfoaiannoabDoorFK
namespace Go.Proofs.YtmcjgfoaiannoabDoor
open Go.RowKit Go.Maps

/-- the bits of what a filter can -/
def canF (k n : Int) : Int := if k = 7 then bits .and .i64 n 7 else if k = 2 ∨ k = 6 then 2 else if k = 1 ∨ k = 3 ∨ k = 4 ∨ k = 5 then 1 else 0
def capB (r : Nat) (call : Int) : Bool := if call = 1 then r % 2 == 1 else if call = 2 then r / 2 % 2 == 1 else if call = 3 then r / 4 == 1 else false
theorem and7 (n : Int) : ∃ r : Nat, r < 8 ∧ bits .and .i64 n 7 = r := by
  refine ⟨(BitVec.ofInt 64 n &&& BitVec.ofInt 64 7).toNat, ?_, ?_⟩
  · rw [BitVec.toNat_and]
    exact Nat.lt_of_le_of_lt Nat.and_le_right (by decide)
  · have h : (BitVec.ofInt 64 n &&& BitVec.ofInt 64 7).toNat < 8 := by
      rw [BitVec.toNat_and]
      exact Nat.lt_of_le_of_lt Nat.and_le_right (by decide)
    show IntKind.i64.wrap ((BitVec.ofInt 64 n &&& BitVec.ofInt 64 7).toNat : Int) = _
    exact IntWalk.i64_in _ (by omega)
theorem canF_range (k n : Int) : ∃ r : Nat, r < 8 ∧ canF k n = r := by
  unfold canF
  by_cases h7 : k = 7
  · rw [if_pos h7]
    exact and7 n
  rw [if_neg h7]
  by_cases h2 : k = 2 ∨ k = 6
  · rw [if_pos h2]
    exact ⟨2, by omega, rfl⟩
  rw [if_neg h2]
  by_cases h1 : k = 1 ∨ k = 3 ∨ k = 4 ∨ k = 5
  · rw [if_pos h1]
    exact ⟨1, by omega, rfl⟩
  rw [if_neg h1]
  exact ⟨0, by omega, rfl⟩
theorem eight {r : Nat} (h : r < 8) : r = 0 ∨ r = 1 ∨ r = 2 ∨ r = 3 ∨ r = 4 ∨ r = 5 ∨ r = 6 ∨ r = 7 := by omega
theorem seven {k : Int} (h1 : 1 ≤ k) (h2 : k ≤ 7) : k = 1 ∨ k = 2 ∨ k = 3 ∨ k = 4 ∨ k = 5 ∨ k = 6 ∨ k = 7 := by omega
theorem asnil_92 (xT : TypeId) (w : World) : (Instr.typeAssert .nilIface xT 92 true).run Tryd.prog w = .ok (.tuple #[.nilIface, .bool false]) w := by kernel_rfl
theorem asnil_95 (xT : TypeId) (w : World) : (Instr.typeAssert .nilIface xT 95 true).run Tryd.prog w = .ok (.tuple #[.nilIface, .bool false]) w := by kernel_rfl
theorem asnil_98 (xT : TypeId) (w : World) : (Instr.typeAssert .nilIface xT 98 true).run Tryd.prog w = .ok (.tuple #[.nilIface, .bool false]) w := by kernel_rfl
set_option maxRecDepth 100000 in
theorem of_no (k n : Int) (key text : ByteArray) (h : k < 1 ∨ 7 < k) (w : World) :
    Calls Tryd.prog 27 #[sivV k n key text] w fun e w' => e = .returned (.int .i64 0) ∧ Below w.heap.size w w' := by
  have g1 : (k == 1) = false := by simp; omega
  have g2 : (k == 2) = false := by simp; omega
  have g3 : (k == 3) = false := by simp; omega
  have g4 : (k == 4) = false := by simp; omega
  have g5 : (k == 5) = false := by simp; omega
  have g6 : (k == 6) = false := by simp; omega
  have g7 : (k == 7) = false := by simp; omega
  clear h
  have a1 := asnil_92
  have a2 := asnil_95
  have a3 := asnil_98
  go_enter Tryd.func27, Tryd.ntmps27
  go_wp2_with (first | (go_at_call 62; go_in) | (go_at_call 81; go_in))
  go_ret
  exact ⟨rfl, by repeat (first | exact Below.refl _ _ | refine Below.alloc ?_ (by simp <;> omega) _)⟩
theorem ofF_any (k n : Int) (key text : ByteArray) (w : World) :
    Calls Tryd.prog 27 #[sivV k n key text] w fun e w' => e = .returned (.int .i64 (canF k n)) ∧ Below w.heap.size w w' := by
  by_cases h : k < 1 ∨ 7 < k
  · have hv : canF k n = 0 := by
      unfold canF
      rw [if_neg (by omega), if_neg (by omega), if_neg (by omega)]
    rw [hv]
    exact of_no k n key text h w
  rcases seven (show 1 ≤ k by omega) (by omega) with rfl | rfl | rfl | rfl | rfl | rfl | rfl
  · exact of_1 n key text w
  · exact of_2 n key text w
  · exact of_3 n key text w
  · exact of_4 n key text w
  · exact of_5 n key text w
  · exact of_6 n key text w
  · obtain ⟨r, hr, hn⟩ := and7 n
    have hv : canF 7 n = r := hn
    rw [hv]
    rcases eight hr with rfl | rfl | rfl | rfl | rfl | rfl | rfl | rfl
    · exact of_7_0 n hn key text w
    · exact of_7_1 n hn key text w
    · exact of_7_2 n hn key text w
    · exact of_7_3 n hn key text w
    · exact of_7_4 n hn key text w
    · exact of_7_5 n hn key text w
    · exact of_7_6 n hn key text w
    · exact of_7_7 n hn key text w
def canMap : DataW Unit := ((((((DataW.map []).put (.int .i64 1) (.lit (.int .i64 1))).put (.int .i64 2) (.lit (.int .i64 2))).put (.int .i64 3) (.lit (.int .i64 1))).put (.int .i64 4) (.lit (.int .i64 1))).put (.int .i64 5) (.lit (.int .i64 1))).put (.int .i64 6) (.lit (.int .i64 2))
theorem can_out {k : Int} (h : k < 1 ∨ 6 < k) : canMap.atKey (.int .i64 k) (.lit (.int .i64 0)) = .lit (.int .i64 0) := by
  unfold canMap
  rw [atKey_put_other (int_ne (show k ≠ 6 by omega)), atKey_put_other (int_ne (show k ≠ 5 by omega)), atKey_put_other (int_ne (show k ≠ 4 by omega)), atKey_put_other (int_ne (show k ≠ 3 by omega)), atKey_put_other (int_ne (show k ≠ 2 by omega)), atKey_put_other (int_ne (show k ≠ 1 by omega))]
  rfl
set_option maxRecDepth 100000 in
theorem refCan_no (k n : Int) (key text : ByteArray) (w : World) (h7 : k ≠ 7) (hk : (Lit.int .i64 k).wf = true) :
    Calls Tryd.prog 28 #[sivV k n key text] w fun e w' => (∃ c : Int, e = .returned (.int .i64 c) ∧ canMap.atKey (.int .i64 k) (.lit (.int .i64 0)) = .lit (.int .i64 c)) ∧ Below w.heap.size w w' := by
  have hmm := @run_makeMap Tryd.prog
  have h7' : (k == 7) = false := by simpa using h7
  obtain ⟨w0, hw0⟩ : ∃ w0, w0 = (w.alloc (.cells (sivC k n key text) 38)).alloc (.map #[] 0) := ⟨_, rfl⟩
  have bb : Blk w0 w.heap.size 38 (sivC k n key text) := by rw [hw0]; exact (Blk.new _ _ _).alloc _
  have hB : Below w.heap.size w w0 := by rw [hw0]; exact ((Below.refl _ w).alloc (Nat.le_refl _) _).alloc (by simp) _
  have hs : (w.alloc (.cells (sivC k n key text) 38)).heap.size = w.heap.size + 1 := World.size_alloc _ _
  have o0 : w0.ownsMap Tryd.prog 3 (plainElem (H := Unit) Tryd.prog 3) (w.heap.size + 1) 0 (.map []) := by
    rw [hw0, ← hs]
    exact World.ownsMap_made _ _ _ _
  obtain ⟨w1, r1, o1, g1⟩ := o0.update mkeyI Tryd.underlying79 (by unfold maxLen; omega) (keyOf_int_mk (q := .i64) (a := 1) Tryd.underlying3 (by decide)) (plainElem_int (q := .i64) (a := 1) Tryd.underlying3 (by decide))
  obtain ⟨w2, r2, o2, g2⟩ := o1.update mkeyI Tryd.underlying79 (by unfold maxLen; omega) (keyOf_int_mk (q := .i64) (a := 2) Tryd.underlying3 (by decide)) (plainElem_int (q := .i64) (a := 2) Tryd.underlying3 (by decide))
  obtain ⟨w3, r3, o3, g3⟩ := o2.update mkeyI Tryd.underlying79 (by unfold maxLen; omega) (keyOf_int_mk (q := .i64) (a := 3) Tryd.underlying3 (by decide)) (plainElem_int (q := .i64) (a := 1) Tryd.underlying3 (by decide))
  obtain ⟨w4, r4, o4, g4⟩ := o3.update mkeyI Tryd.underlying79 (by unfold maxLen; omega) (keyOf_int_mk (q := .i64) (a := 4) Tryd.underlying3 (by decide)) (plainElem_int (q := .i64) (a := 1) Tryd.underlying3 (by decide))
  obtain ⟨w5, r5, o5, g5⟩ := o4.update mkeyI Tryd.underlying79 (by unfold maxLen; omega) (keyOf_int_mk (q := .i64) (a := 5) Tryd.underlying3 (by decide)) (plainElem_int (q := .i64) (a := 1) Tryd.underlying3 (by decide))
  obtain ⟨w6, r6, o6, g6⟩ := o5.update mkeyI Tryd.underlying79 (by unfold maxLen; omega) (keyOf_int_mk (q := .i64) (a := 6) Tryd.underlying3 (by decide)) (plainElem_int (q := .i64) (a := 2) Tryd.underlying3 (by decide))
  obtain ⟨c, rl, hat, _⟩ := o6.lookup_int mkeyI Tryd.underlying79 Tryd.underlying3 (mzeroI _) (keyOf_int_mk (q := .i64) (a := k) Tryd.underlying3 hk)
  go_enter Tryd.func28, Tryd.ntmps28
  have hgb := ((((g1.trans g2).trans g3).trans g4).trans g5).trans g6
  have bb := bb.grown hgb (fun e => by injection e with e; omega)
  have k0 := bb.c4.1
  have hb6 : Below w.heap.size w w6 := hB.grown hgb hB.size (fun g hg => by cases hg; omega)
  subst hw0
  go_wp2
  go_ret
  exact ⟨⟨c, rfl, hat⟩, hb6⟩
set_option maxRecDepth 100000 in
theorem refCan_any (k n : Int) (hk : (Lit.int .i64 k).wf = true) (key text : ByteArray) (w : World) :
    Calls Tryd.prog 28 #[sivV k n key text] w fun e w' => e = .returned (.int .i64 (canF k n)) ∧ Below w.heap.size w w' := by
  by_cases h7 : k = 7
  · subst h7
    have hv : canF 7 n = bits .and .i64 n 7 := rfl
    rw [hv]
    clear hv
    go_enter Tryd.func28, Tryd.ntmps28
    go_wp2
    go_ret
    exact ⟨rfl, (Below.refl _ w).alloc (Nat.le_refl _) _⟩
  · refine (refCan_no k n key text w h7 hk).mono ?_
    rintro e w' ⟨⟨c, rfl, hat⟩, hb⟩
    refine ⟨?_, hb⟩
    have hc : c = canF k n := by
      by_cases h : k < 1 ∨ 6 < k
      · rw [can_out h] at hat
        have hv : canF k n = 0 := by
          unfold canF
          rw [if_neg (by omega), if_neg (by omega), if_neg (by omega)]
        cases hat
        rw [hv]
      · rcases (show k = 1 ∨ k = 2 ∨ k = 3 ∨ k = 4 ∨ k = 5 ∨ k = 6 by omega) with rfl | rfl | rfl | rfl | rfl | rfl
        · have e : canMap.atKey (.int .i64 1) (.lit (.int .i64 0)) = .lit (.int .i64 1) := rfl
          rw [e] at hat; cases hat; rfl
        · have e : canMap.atKey (.int .i64 2) (.lit (.int .i64 0)) = .lit (.int .i64 2) := rfl
          rw [e] at hat; cases hat; rfl
        · have e : canMap.atKey (.int .i64 3) (.lit (.int .i64 0)) = .lit (.int .i64 1) := rfl
          rw [e] at hat; cases hat; rfl
        · have e : canMap.atKey (.int .i64 4) (.lit (.int .i64 0)) = .lit (.int .i64 1) := rfl
          rw [e] at hat; cases hat; rfl
        · have e : canMap.atKey (.int .i64 5) (.lit (.int .i64 0)) = .lit (.int .i64 1) := rfl
          rw [e] at hat; cases hat; rfl
        · have e : canMap.atKey (.int .i64 6) (.lit (.int .i64 0)) = .lit (.int .i64 2) := rfl
          rw [e] at hat; cases hat; rfl
    rw [hc]
set_option maxRecDepth 100000 in
set_option maxHeartbeats 4000000 in
theorem capsCan_any (k n : Int) (key text : ByteArray) (call : Int) (r : Nat) (hr : r < 8) (hrr : canF k n = r) (w : World) :
    Calls Tryd.prog 29 #[sivV k n key text, .int .i64 call] w fun e w' => e = .returned (.bool (capB r call)) ∧ Below w.heap.size w w' := by
  have ho := ofF_any k n key text
  rw [hrr] at ho
  clear hrr
  obtain ⟨w0, hw0⟩ : ∃ w0, w0 = w.alloc (.cells (sivC k n key text) 38) := ⟨_, rfl⟩
  have hB : Below w.heap.size w w0 := by rw [hw0]; exact (Below.refl _ w).alloc (Nat.le_refl _) _
  by_cases h123 : call < 1 ∨ 3 < call
  · have hv : capB r call = false := by
      unfold capB
      rw [if_neg (by omega), if_neg (by omega), if_neg (by omega)]
    have g1 : (call == 1) = false := by simp; omega
    have g2 : (call == 2) = false := by simp; omega
    have g3 : (call == 3) = false := by simp; omega
    rw [hv]
    clear hv ho hr h123
    go_enter Tryd.func29, Tryd.ntmps29
    go_wp2
    rw [← hw0]
    go_ret
    exact ⟨rfl, hB⟩
  have hc : call = 1 ∨ call = 2 ∨ call = 3 := by omega
  clear h123
  rcases eight hr with rfl | rfl | rfl | rfl | rfl | rfl | rfl | rfl <;> rcases hc with rfl | rfl | rfl
  all_goals
    clear hr
    go_enter Tryd.func29, Tryd.ntmps29
    go_wp2_with (go_at_call 27; refine Hid.out ?_)
    unfold Hid
    rw [← hw0]
    refine (ho w0).mono ?_
    rintro e w1 ⟨rfl, hb⟩
    have hB := hB.trans (hb.mono hB.size)
    clear ho hw0
    go_wp2
    go_ret
    refine ⟨?_, hB⟩
    rfl
set_option maxRecDepth 100000 in
set_option maxHeartbeats 4000000 in
theorem canCall_any (k n : Int) (hk : (Lit.int .i64 k).wf = true) (key text : ByteArray) (call : Int) (r : Nat) (hr : r < 8) (hrr : canF k n = r) (w : World) :
    Calls Tryd.prog 30 #[sivV k n key text, .int .i64 call] w fun e w' => e = .returned (.bool (capB r call)) ∧ Below w.heap.size w w' := by
  have ho := refCan_any k n hk key text
  rw [hrr] at ho
  clear hrr
  obtain ⟨w0, hw0⟩ : ∃ w0, w0 = w.alloc (.cells (sivC k n key text) 38) := ⟨_, rfl⟩
  have hB : Below w.heap.size w w0 := by rw [hw0]; exact (Below.refl _ w).alloc (Nat.le_refl _) _
  by_cases h1 : call < 1
  · have hv : capB r call = false := by
      unfold capB
      rw [if_neg (by omega), if_neg (by omega), if_neg (by omega)]
    have g1 : ¬ (1 ≤ call) := by omega
    rw [hv]
    clear hv ho hr h1
    go_enter Tryd.func30, Tryd.ntmps30
    go_wp2
    rw [← hw0]
    go_ret
    exact ⟨rfl, hB⟩
  by_cases h3 : 3 < call
  · have hv : capB r call = false := by
      unfold capB
      rw [if_neg (by omega), if_neg (by omega), if_neg (by omega)]
    have g1 : 1 ≤ call := by omega
    have g3 : ¬ (call ≤ 3) := by omega
    rw [hv]
    clear hv ho hr h1 h3
    go_enter Tryd.func30, Tryd.ntmps30
    go_wp2
    rw [← hw0]
    go_ret
    exact ⟨rfl, hB⟩
  have h123 : ¬ (call < 1 ∨ 3 < call) := by omega
  clear h1 h3
  have hc : call = 1 ∨ call = 2 ∨ call = 3 := by omega
  clear h123
  rcases eight hr with rfl | rfl | rfl | rfl | rfl | rfl | rfl | rfl <;> rcases hc with rfl | rfl | rfl
  all_goals
    clear hr
    go_enter Tryd.func30, Tryd.ntmps30
    go_wp2_with (go_at_call 28; refine Hid.out ?_)
    unfold Hid
    rw [← hw0]
    refine (ho w0).mono ?_
    rintro e w1 ⟨rfl, hb⟩
    have hB := hB.trans (hb.mono hB.size)
    clear ho hw0
    go_wp2
    go_ret
    refine ⟨?_, hB⟩
    rfl
end Go.Proofs.YtmcjgfoaiannoabDoor
