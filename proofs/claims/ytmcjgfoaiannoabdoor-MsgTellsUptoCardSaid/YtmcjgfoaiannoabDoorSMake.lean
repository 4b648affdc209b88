/-
  What sieve.Make makes of a filter. No condition.
-/
import Derived.Test.YtmcjgfoaiannoabDoorSMeth
import Derived.Test.YtmcjgfoaiannoabDoorCCan
import Derived.Test.YtmcjgfoaiannoabDoorGate
namespace Go.Proofs.YtmcjgfoaiannoabDoor
open Go.RowKit Go.Lib

set_option maxRecDepth 100000 in
theorem make_1 (n : Int) (key text : ByteArray) (w : World) :
    Calls Tryd.prog 62 #[sivV 1 n key text] w fun e w' => e = .returned (.iface 125 (.agg #[.string key, .string text])) ∧ w' = w.alloc (.cells (sivC 1 n key text) 38) := by
  go_enter Tryd.func62, Tryd.ntmps62
  go_wp2_with (first | (go_at_call 81; go_in))
  go_ret
  exact ⟨rfl, rfl⟩
set_option maxRecDepth 100000 in
theorem make_2 (n : Int) (key text : ByteArray) (w : World) :
    Calls Tryd.prog 62 #[sivV 2 n key text] w fun e w' => e = .returned (.iface 126 (.agg #[.string key, .string text])) ∧ w' = w.alloc (.cells (sivC 2 n key text) 38) := by
  go_enter Tryd.func62, Tryd.ntmps62
  go_wp2_with (first | (go_at_call 81; go_in))
  go_ret
  exact ⟨rfl, rfl⟩
set_option maxRecDepth 100000 in
theorem make_3 (n : Int) (key text : ByteArray) (w : World) :
    Calls Tryd.prog 62 #[sivV 3 n key text] w fun e w' => e = .returned (.iface 127 (.agg #[.string key, .string text])) ∧ w' = w.alloc (.cells (sivC 3 n key text) 38) := by
  go_enter Tryd.func62, Tryd.ntmps62
  go_wp2_with (first | (go_at_call 81; go_in))
  go_ret
  exact ⟨rfl, rfl⟩
set_option maxRecDepth 100000 in
theorem make_4 (n : Int) (key text : ByteArray) (w : World) :
    Calls Tryd.prog 62 #[sivV 4 n key text] w fun e w' => e = .returned (.iface 129 (.agg #[.int .i64 n])) ∧ w' = w.alloc (.cells (sivC 4 n key text) 38) := by
  go_enter Tryd.func62, Tryd.ntmps62
  go_wp2_with (first | (go_at_call 81; go_in))
  go_ret
  exact ⟨rfl, rfl⟩
set_option maxRecDepth 100000 in
theorem make_5 (n : Int) (key text : ByteArray) (w : World) :
    Calls Tryd.prog 62 #[sivV 5 n key text] w fun e w' => e = .returned (.iface 130 (.agg #[.int .i64 n])) ∧ w' = w.alloc (.cells (sivC 5 n key text) 38) := by
  go_enter Tryd.func62, Tryd.ntmps62
  go_wp2_with (first | (go_at_call 81; go_in))
  go_ret
  exact ⟨rfl, rfl⟩
set_option maxRecDepth 100000 in
theorem make_6 (n : Int) (key text : ByteArray) (w : World) :
    Calls Tryd.prog 62 #[sivV 6 n key text] w fun e w' => e = .returned (.iface 131 (.agg #[.int .i64 n])) ∧ w' = w.alloc (.cells (sivC 6 n key text) 38) := by
  go_enter Tryd.func62, Tryd.ntmps62
  go_wp2_with (first | (go_at_call 81; go_in))
  go_ret
  exact ⟨rfl, rfl⟩
set_option maxRecDepth 100000 in
theorem make_7_0 (n : Int) (key text : ByteArray) (hb7 : bits .and .i64 n 7 = 0) (w : World) :
    Calls Tryd.prog 62 #[sivV 7 n key text] w fun e w' => e = .returned (.iface 156 (.agg #[])) ∧ w' = w.alloc (.cells (sivC 7 n key text) 38) := by
  go_enter Tryd.func62, Tryd.ntmps62
  go_wp2_with (first | (go_at_call 81; go_in))
  go_ret
  exact ⟨rfl, rfl⟩
set_option maxRecDepth 100000 in
theorem make_7_1 (n : Int) (key text : ByteArray) (hb7 : bits .and .i64 n 7 = 1) (w : World) :
    Calls Tryd.prog 62 #[sivV 7 n key text] w fun e w' => e = .returned (.iface 157 (.agg #[])) ∧ w' = w.alloc (.cells (sivC 7 n key text) 38) := by
  go_enter Tryd.func62, Tryd.ntmps62
  go_wp2_with (first | (go_at_call 81; go_in))
  go_ret
  exact ⟨rfl, rfl⟩
set_option maxRecDepth 100000 in
theorem make_7_2 (n : Int) (key text : ByteArray) (hb7 : bits .and .i64 n 7 = 2) (w : World) :
    Calls Tryd.prog 62 #[sivV 7 n key text] w fun e w' => e = .returned (.iface 158 (.agg #[])) ∧ w' = w.alloc (.cells (sivC 7 n key text) 38) := by
  go_enter Tryd.func62, Tryd.ntmps62
  go_wp2_with (first | (go_at_call 81; go_in))
  go_ret
  exact ⟨rfl, rfl⟩
set_option maxRecDepth 100000 in
theorem make_7_3 (n : Int) (key text : ByteArray) (hb7 : bits .and .i64 n 7 = 3) (w : World) :
    Calls Tryd.prog 62 #[sivV 7 n key text] w fun e w' => e = .returned (.iface 160 (.agg #[])) ∧ w' = w.alloc (.cells (sivC 7 n key text) 38) := by
  go_enter Tryd.func62, Tryd.ntmps62
  go_wp2_with (first | (go_at_call 81; go_in))
  go_ret
  exact ⟨rfl, rfl⟩
set_option maxRecDepth 100000 in
theorem make_7_4 (n : Int) (key text : ByteArray) (hb7 : bits .and .i64 n 7 = 4) (w : World) :
    Calls Tryd.prog 62 #[sivV 7 n key text] w fun e w' => e = .returned (.iface 159 (.agg #[])) ∧ w' = w.alloc (.cells (sivC 7 n key text) 38) := by
  go_enter Tryd.func62, Tryd.ntmps62
  go_wp2_with (first | (go_at_call 81; go_in))
  go_ret
  exact ⟨rfl, rfl⟩
set_option maxRecDepth 100000 in
theorem make_7_5 (n : Int) (key text : ByteArray) (hb7 : bits .and .i64 n 7 = 5) (w : World) :
    Calls Tryd.prog 62 #[sivV 7 n key text] w fun e w' => e = .returned (.iface 161 (.agg #[])) ∧ w' = w.alloc (.cells (sivC 7 n key text) 38) := by
  go_enter Tryd.func62, Tryd.ntmps62
  go_wp2_with (first | (go_at_call 81; go_in))
  go_ret
  exact ⟨rfl, rfl⟩
set_option maxRecDepth 100000 in
theorem make_7_6 (n : Int) (key text : ByteArray) (hb7 : bits .and .i64 n 7 = 6) (w : World) :
    Calls Tryd.prog 62 #[sivV 7 n key text] w fun e w' => e = .returned (.iface 162 (.agg #[])) ∧ w' = w.alloc (.cells (sivC 7 n key text) 38) := by
  go_enter Tryd.func62, Tryd.ntmps62
  go_wp2_with (first | (go_at_call 81; go_in))
  go_ret
  exact ⟨rfl, rfl⟩
set_option maxRecDepth 100000 in
theorem make_7_7 (n : Int) (key text : ByteArray) (hb7 : bits .and .i64 n 7 = 7) (w : World) :
    Calls Tryd.prog 62 #[sivV 7 n key text] w fun e w' => e = .returned (.iface 163 (.agg #[])) ∧ w' = w.alloc (.cells (sivC 7 n key text) 38) := by
  go_enter Tryd.func62, Tryd.ntmps62
  go_wp2_with (first | (go_at_call 81; go_in))
  go_ret
  exact ⟨rfl, rfl⟩
set_option maxRecDepth 100000 in
theorem make_no (k : Int) (n : Int) (key text : ByteArray) (hk17 : k < 1 ∨ 7 < k) (w : World) :
    Calls Tryd.prog 62 #[sivV k n key text] w fun e w' => e = .returned (.nilIface) ∧ w' = w.alloc (.cells (sivC k n key text) 38) := by
  have g1 : (k == 1) = false := by simp; omega
  have g2 : (k == 2) = false := by simp; omega
  have g3 : (k == 3) = false := by simp; omega
  have g4 : (k == 4) = false := by simp; omega
  have g5 : (k == 5) = false := by simp; omega
  have g6 : (k == 6) = false := by simp; omega
  have g7 : (k == 7) = false := by simp; omega
  clear hk17
  go_enter Tryd.func62, Tryd.ntmps62
  go_wp2_with (first | (go_at_call 81; go_in))
  go_ret
  exact ⟨rfl, rfl⟩
end Go.Proofs.YtmcjgfoaiannoabDoor
