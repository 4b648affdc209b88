/-
  What a filter can: Of. No condition.
-/
import Derived.Test.YtmcjgfoaiannoabDoorFrame
import Derived.Stop.Asserts
namespace Go.Proofs.YtmcjgfoaiannoabDoor
open Go.RowKit

theorem as125_92 (v : Value) (xT : TypeId) (w : World) : (Instr.typeAssert (.iface 125 v) xT 92 true).run Tryd.prog w = .ok (.tuple #[.iface 125 v, .bool true]) w := run_typeAssert_hasB Tryd.underlying92 (by kernel_rfl) v xT w
theorem as125_95 (v : Value) (xT : TypeId) (w : World) : (Instr.typeAssert (.iface 125 v) xT 95 true).run Tryd.prog w = .ok (.tuple #[.nilIface, .bool false]) w := run_typeAssert_lacksB Tryd.underlying95 (by kernel_rfl) (by kernel_rfl) v xT w
theorem as125_98 (v : Value) (xT : TypeId) (w : World) : (Instr.typeAssert (.iface 125 v) xT 98 true).run Tryd.prog w = .ok (.tuple #[.nilIface, .bool false]) w := run_typeAssert_lacksB Tryd.underlying98 (by kernel_rfl) (by kernel_rfl) v xT w
theorem as126_92 (v : Value) (xT : TypeId) (w : World) : (Instr.typeAssert (.iface 126 v) xT 92 true).run Tryd.prog w = .ok (.tuple #[.nilIface, .bool false]) w := run_typeAssert_lacksB Tryd.underlying92 (by kernel_rfl) (by kernel_rfl) v xT w
theorem as126_95 (v : Value) (xT : TypeId) (w : World) : (Instr.typeAssert (.iface 126 v) xT 95 true).run Tryd.prog w = .ok (.tuple #[.iface 126 v, .bool true]) w := run_typeAssert_hasB Tryd.underlying95 (by kernel_rfl) v xT w
theorem as126_98 (v : Value) (xT : TypeId) (w : World) : (Instr.typeAssert (.iface 126 v) xT 98 true).run Tryd.prog w = .ok (.tuple #[.nilIface, .bool false]) w := run_typeAssert_lacksB Tryd.underlying98 (by kernel_rfl) (by kernel_rfl) v xT w
theorem as127_92 (v : Value) (xT : TypeId) (w : World) : (Instr.typeAssert (.iface 127 v) xT 92 true).run Tryd.prog w = .ok (.tuple #[.iface 127 v, .bool true]) w := run_typeAssert_hasB Tryd.underlying92 (by kernel_rfl) v xT w
theorem as127_95 (v : Value) (xT : TypeId) (w : World) : (Instr.typeAssert (.iface 127 v) xT 95 true).run Tryd.prog w = .ok (.tuple #[.nilIface, .bool false]) w := run_typeAssert_lacksB Tryd.underlying95 (by kernel_rfl) (by kernel_rfl) v xT w
theorem as127_98 (v : Value) (xT : TypeId) (w : World) : (Instr.typeAssert (.iface 127 v) xT 98 true).run Tryd.prog w = .ok (.tuple #[.nilIface, .bool false]) w := run_typeAssert_lacksB Tryd.underlying98 (by kernel_rfl) (by kernel_rfl) v xT w
theorem as129_92 (v : Value) (xT : TypeId) (w : World) : (Instr.typeAssert (.iface 129 v) xT 92 true).run Tryd.prog w = .ok (.tuple #[.iface 129 v, .bool true]) w := run_typeAssert_hasB Tryd.underlying92 (by kernel_rfl) v xT w
theorem as129_95 (v : Value) (xT : TypeId) (w : World) : (Instr.typeAssert (.iface 129 v) xT 95 true).run Tryd.prog w = .ok (.tuple #[.nilIface, .bool false]) w := run_typeAssert_lacksB Tryd.underlying95 (by kernel_rfl) (by kernel_rfl) v xT w
theorem as129_98 (v : Value) (xT : TypeId) (w : World) : (Instr.typeAssert (.iface 129 v) xT 98 true).run Tryd.prog w = .ok (.tuple #[.nilIface, .bool false]) w := run_typeAssert_lacksB Tryd.underlying98 (by kernel_rfl) (by kernel_rfl) v xT w
theorem as130_92 (v : Value) (xT : TypeId) (w : World) : (Instr.typeAssert (.iface 130 v) xT 92 true).run Tryd.prog w = .ok (.tuple #[.iface 130 v, .bool true]) w := run_typeAssert_hasB Tryd.underlying92 (by kernel_rfl) v xT w
theorem as130_95 (v : Value) (xT : TypeId) (w : World) : (Instr.typeAssert (.iface 130 v) xT 95 true).run Tryd.prog w = .ok (.tuple #[.nilIface, .bool false]) w := run_typeAssert_lacksB Tryd.underlying95 (by kernel_rfl) (by kernel_rfl) v xT w
theorem as130_98 (v : Value) (xT : TypeId) (w : World) : (Instr.typeAssert (.iface 130 v) xT 98 true).run Tryd.prog w = .ok (.tuple #[.nilIface, .bool false]) w := run_typeAssert_lacksB Tryd.underlying98 (by kernel_rfl) (by kernel_rfl) v xT w
theorem as131_92 (v : Value) (xT : TypeId) (w : World) : (Instr.typeAssert (.iface 131 v) xT 92 true).run Tryd.prog w = .ok (.tuple #[.nilIface, .bool false]) w := run_typeAssert_lacksB Tryd.underlying92 (by kernel_rfl) (by kernel_rfl) v xT w
theorem as131_95 (v : Value) (xT : TypeId) (w : World) : (Instr.typeAssert (.iface 131 v) xT 95 true).run Tryd.prog w = .ok (.tuple #[.iface 131 v, .bool true]) w := run_typeAssert_hasB Tryd.underlying95 (by kernel_rfl) v xT w
theorem as131_98 (v : Value) (xT : TypeId) (w : World) : (Instr.typeAssert (.iface 131 v) xT 98 true).run Tryd.prog w = .ok (.tuple #[.nilIface, .bool false]) w := run_typeAssert_lacksB Tryd.underlying98 (by kernel_rfl) (by kernel_rfl) v xT w
theorem as157_92 (v : Value) (xT : TypeId) (w : World) : (Instr.typeAssert (.iface 157 v) xT 92 true).run Tryd.prog w = .ok (.tuple #[.iface 157 v, .bool true]) w := run_typeAssert_hasB Tryd.underlying92 (by kernel_rfl) v xT w
theorem as157_95 (v : Value) (xT : TypeId) (w : World) : (Instr.typeAssert (.iface 157 v) xT 95 true).run Tryd.prog w = .ok (.tuple #[.nilIface, .bool false]) w := run_typeAssert_lacksB Tryd.underlying95 (by kernel_rfl) (by kernel_rfl) v xT w
theorem as157_98 (v : Value) (xT : TypeId) (w : World) : (Instr.typeAssert (.iface 157 v) xT 98 true).run Tryd.prog w = .ok (.tuple #[.nilIface, .bool false]) w := run_typeAssert_lacksB Tryd.underlying98 (by kernel_rfl) (by kernel_rfl) v xT w
theorem as158_92 (v : Value) (xT : TypeId) (w : World) : (Instr.typeAssert (.iface 158 v) xT 92 true).run Tryd.prog w = .ok (.tuple #[.nilIface, .bool false]) w := run_typeAssert_lacksB Tryd.underlying92 (by kernel_rfl) (by kernel_rfl) v xT w
theorem as158_95 (v : Value) (xT : TypeId) (w : World) : (Instr.typeAssert (.iface 158 v) xT 95 true).run Tryd.prog w = .ok (.tuple #[.iface 158 v, .bool true]) w := run_typeAssert_hasB Tryd.underlying95 (by kernel_rfl) v xT w
theorem as158_98 (v : Value) (xT : TypeId) (w : World) : (Instr.typeAssert (.iface 158 v) xT 98 true).run Tryd.prog w = .ok (.tuple #[.nilIface, .bool false]) w := run_typeAssert_lacksB Tryd.underlying98 (by kernel_rfl) (by kernel_rfl) v xT w
theorem as159_92 (v : Value) (xT : TypeId) (w : World) : (Instr.typeAssert (.iface 159 v) xT 92 true).run Tryd.prog w = .ok (.tuple #[.nilIface, .bool false]) w := run_typeAssert_lacksB Tryd.underlying92 (by kernel_rfl) (by kernel_rfl) v xT w
theorem as159_95 (v : Value) (xT : TypeId) (w : World) : (Instr.typeAssert (.iface 159 v) xT 95 true).run Tryd.prog w = .ok (.tuple #[.nilIface, .bool false]) w := run_typeAssert_lacksB Tryd.underlying95 (by kernel_rfl) (by kernel_rfl) v xT w
theorem as159_98 (v : Value) (xT : TypeId) (w : World) : (Instr.typeAssert (.iface 159 v) xT 98 true).run Tryd.prog w = .ok (.tuple #[.iface 159 v, .bool true]) w := run_typeAssert_hasB Tryd.underlying98 (by kernel_rfl) v xT w
theorem as160_92 (v : Value) (xT : TypeId) (w : World) : (Instr.typeAssert (.iface 160 v) xT 92 true).run Tryd.prog w = .ok (.tuple #[.iface 160 v, .bool true]) w := run_typeAssert_hasB Tryd.underlying92 (by kernel_rfl) v xT w
theorem as160_95 (v : Value) (xT : TypeId) (w : World) : (Instr.typeAssert (.iface 160 v) xT 95 true).run Tryd.prog w = .ok (.tuple #[.iface 160 v, .bool true]) w := run_typeAssert_hasB Tryd.underlying95 (by kernel_rfl) v xT w
theorem as160_98 (v : Value) (xT : TypeId) (w : World) : (Instr.typeAssert (.iface 160 v) xT 98 true).run Tryd.prog w = .ok (.tuple #[.nilIface, .bool false]) w := run_typeAssert_lacksB Tryd.underlying98 (by kernel_rfl) (by kernel_rfl) v xT w
theorem as161_92 (v : Value) (xT : TypeId) (w : World) : (Instr.typeAssert (.iface 161 v) xT 92 true).run Tryd.prog w = .ok (.tuple #[.iface 161 v, .bool true]) w := run_typeAssert_hasB Tryd.underlying92 (by kernel_rfl) v xT w
theorem as161_95 (v : Value) (xT : TypeId) (w : World) : (Instr.typeAssert (.iface 161 v) xT 95 true).run Tryd.prog w = .ok (.tuple #[.nilIface, .bool false]) w := run_typeAssert_lacksB Tryd.underlying95 (by kernel_rfl) (by kernel_rfl) v xT w
theorem as161_98 (v : Value) (xT : TypeId) (w : World) : (Instr.typeAssert (.iface 161 v) xT 98 true).run Tryd.prog w = .ok (.tuple #[.iface 161 v, .bool true]) w := run_typeAssert_hasB Tryd.underlying98 (by kernel_rfl) v xT w
theorem as162_92 (v : Value) (xT : TypeId) (w : World) : (Instr.typeAssert (.iface 162 v) xT 92 true).run Tryd.prog w = .ok (.tuple #[.nilIface, .bool false]) w := run_typeAssert_lacksB Tryd.underlying92 (by kernel_rfl) (by kernel_rfl) v xT w
theorem as162_95 (v : Value) (xT : TypeId) (w : World) : (Instr.typeAssert (.iface 162 v) xT 95 true).run Tryd.prog w = .ok (.tuple #[.iface 162 v, .bool true]) w := run_typeAssert_hasB Tryd.underlying95 (by kernel_rfl) v xT w
theorem as162_98 (v : Value) (xT : TypeId) (w : World) : (Instr.typeAssert (.iface 162 v) xT 98 true).run Tryd.prog w = .ok (.tuple #[.iface 162 v, .bool true]) w := run_typeAssert_hasB Tryd.underlying98 (by kernel_rfl) v xT w
theorem as163_92 (v : Value) (xT : TypeId) (w : World) : (Instr.typeAssert (.iface 163 v) xT 92 true).run Tryd.prog w = .ok (.tuple #[.iface 163 v, .bool true]) w := run_typeAssert_hasB Tryd.underlying92 (by kernel_rfl) v xT w
theorem as163_95 (v : Value) (xT : TypeId) (w : World) : (Instr.typeAssert (.iface 163 v) xT 95 true).run Tryd.prog w = .ok (.tuple #[.iface 163 v, .bool true]) w := run_typeAssert_hasB Tryd.underlying95 (by kernel_rfl) v xT w
theorem as163_98 (v : Value) (xT : TypeId) (w : World) : (Instr.typeAssert (.iface 163 v) xT 98 true).run Tryd.prog w = .ok (.tuple #[.iface 163 v, .bool true]) w := run_typeAssert_hasB Tryd.underlying98 (by kernel_rfl) v xT w
theorem as156_92 (v : Value) (xT : TypeId) (w : World) : (Instr.typeAssert (.iface 156 v) xT 92 true).run Tryd.prog w = .ok (.tuple #[.nilIface, .bool false]) w := run_typeAssert_lacksB Tryd.underlying92 (by kernel_rfl) (by kernel_rfl) v xT w
theorem as156_95 (v : Value) (xT : TypeId) (w : World) : (Instr.typeAssert (.iface 156 v) xT 95 true).run Tryd.prog w = .ok (.tuple #[.nilIface, .bool false]) w := run_typeAssert_lacksB Tryd.underlying95 (by kernel_rfl) (by kernel_rfl) v xT w
theorem as156_98 (v : Value) (xT : TypeId) (w : World) : (Instr.typeAssert (.iface 156 v) xT 98 true).run Tryd.prog w = .ok (.tuple #[.nilIface, .bool false]) w := run_typeAssert_lacksB Tryd.underlying98 (by kernel_rfl) (by kernel_rfl) v xT w
set_option maxRecDepth 100000 in
theorem of_1 (n : Int) (key text : ByteArray) (w : World) :
    Calls Tryd.prog 27 #[.agg #[.int .i64 1, .int .i64 n, .string key, .string text]] w fun e w' => e = .returned (.int .i64 1) ∧ Below w.heap.size w w' := by
  have a1 := as125_92
  have a2 := as125_95
  have a3 := as125_98
  go_enter Tryd.func27, Tryd.ntmps27
  go_wp2_with (first | (go_at_call 62; go_in) | (go_at_call 81; go_in))
  go_ret
  exact ⟨rfl, by repeat (first | exact Below.refl _ _ | refine Below.alloc ?_ (by simp <;> omega) _)⟩
set_option maxRecDepth 100000 in
theorem of_2 (n : Int) (key text : ByteArray) (w : World) :
    Calls Tryd.prog 27 #[.agg #[.int .i64 2, .int .i64 n, .string key, .string text]] w fun e w' => e = .returned (.int .i64 2) ∧ Below w.heap.size w w' := by
  have a1 := as126_92
  have a2 := as126_95
  have a3 := as126_98
  go_enter Tryd.func27, Tryd.ntmps27
  go_wp2_with (first | (go_at_call 62; go_in) | (go_at_call 81; go_in))
  go_ret
  exact ⟨rfl, by repeat (first | exact Below.refl _ _ | refine Below.alloc ?_ (by simp <;> omega) _)⟩
set_option maxRecDepth 100000 in
theorem of_3 (n : Int) (key text : ByteArray) (w : World) :
    Calls Tryd.prog 27 #[.agg #[.int .i64 3, .int .i64 n, .string key, .string text]] w fun e w' => e = .returned (.int .i64 1) ∧ Below w.heap.size w w' := by
  have a1 := as127_92
  have a2 := as127_95
  have a3 := as127_98
  go_enter Tryd.func27, Tryd.ntmps27
  go_wp2_with (first | (go_at_call 62; go_in) | (go_at_call 81; go_in))
  go_ret
  exact ⟨rfl, by repeat (first | exact Below.refl _ _ | refine Below.alloc ?_ (by simp <;> omega) _)⟩
set_option maxRecDepth 100000 in
theorem of_4 (n : Int) (key text : ByteArray) (w : World) :
    Calls Tryd.prog 27 #[.agg #[.int .i64 4, .int .i64 n, .string key, .string text]] w fun e w' => e = .returned (.int .i64 1) ∧ Below w.heap.size w w' := by
  have a1 := as129_92
  have a2 := as129_95
  have a3 := as129_98
  go_enter Tryd.func27, Tryd.ntmps27
  go_wp2_with (first | (go_at_call 62; go_in) | (go_at_call 81; go_in))
  go_ret
  exact ⟨rfl, by repeat (first | exact Below.refl _ _ | refine Below.alloc ?_ (by simp <;> omega) _)⟩
set_option maxRecDepth 100000 in
theorem of_5 (n : Int) (key text : ByteArray) (w : World) :
    Calls Tryd.prog 27 #[.agg #[.int .i64 5, .int .i64 n, .string key, .string text]] w fun e w' => e = .returned (.int .i64 1) ∧ Below w.heap.size w w' := by
  have a1 := as130_92
  have a2 := as130_95
  have a3 := as130_98
  go_enter Tryd.func27, Tryd.ntmps27
  go_wp2_with (first | (go_at_call 62; go_in) | (go_at_call 81; go_in))
  go_ret
  exact ⟨rfl, by repeat (first | exact Below.refl _ _ | refine Below.alloc ?_ (by simp <;> omega) _)⟩
set_option maxRecDepth 100000 in
theorem of_6 (n : Int) (key text : ByteArray) (w : World) :
    Calls Tryd.prog 27 #[.agg #[.int .i64 6, .int .i64 n, .string key, .string text]] w fun e w' => e = .returned (.int .i64 2) ∧ Below w.heap.size w w' := by
  have a1 := as131_92
  have a2 := as131_95
  have a3 := as131_98
  go_enter Tryd.func27, Tryd.ntmps27
  go_wp2_with (first | (go_at_call 62; go_in) | (go_at_call 81; go_in))
  go_ret
  exact ⟨rfl, by repeat (first | exact Below.refl _ _ | refine Below.alloc ?_ (by simp <;> omega) _)⟩
set_option maxRecDepth 100000 in
theorem of_7_0 (n : Int) (hr : bits .and .i64 n 7 = 0) (key text : ByteArray) (w : World) :
    Calls Tryd.prog 27 #[.agg #[.int .i64 7, .int .i64 n, .string key, .string text]] w fun e w' => e = .returned (.int .i64 0) ∧ Below w.heap.size w w' := by
  have a1 := as156_92
  have a2 := as156_95
  have a3 := as156_98
  go_enter Tryd.func27, Tryd.ntmps27
  go_wp2_with (first | (go_at_call 62; go_in) | (go_at_call 81; go_in))
  go_ret
  exact ⟨rfl, by repeat (first | exact Below.refl _ _ | refine Below.alloc ?_ (by simp <;> omega) _)⟩
set_option maxRecDepth 100000 in
theorem of_7_1 (n : Int) (hr : bits .and .i64 n 7 = 1) (key text : ByteArray) (w : World) :
    Calls Tryd.prog 27 #[.agg #[.int .i64 7, .int .i64 n, .string key, .string text]] w fun e w' => e = .returned (.int .i64 1) ∧ Below w.heap.size w w' := by
  have a1 := as157_92
  have a2 := as157_95
  have a3 := as157_98
  go_enter Tryd.func27, Tryd.ntmps27
  go_wp2_with (first | (go_at_call 62; go_in) | (go_at_call 81; go_in))
  go_ret
  exact ⟨rfl, by repeat (first | exact Below.refl _ _ | refine Below.alloc ?_ (by simp <;> omega) _)⟩
set_option maxRecDepth 100000 in
theorem of_7_2 (n : Int) (hr : bits .and .i64 n 7 = 2) (key text : ByteArray) (w : World) :
    Calls Tryd.prog 27 #[.agg #[.int .i64 7, .int .i64 n, .string key, .string text]] w fun e w' => e = .returned (.int .i64 2) ∧ Below w.heap.size w w' := by
  have a1 := as158_92
  have a2 := as158_95
  have a3 := as158_98
  go_enter Tryd.func27, Tryd.ntmps27
  go_wp2_with (first | (go_at_call 62; go_in) | (go_at_call 81; go_in))
  go_ret
  exact ⟨rfl, by repeat (first | exact Below.refl _ _ | refine Below.alloc ?_ (by simp <;> omega) _)⟩
set_option maxRecDepth 100000 in
theorem of_7_3 (n : Int) (hr : bits .and .i64 n 7 = 3) (key text : ByteArray) (w : World) :
    Calls Tryd.prog 27 #[.agg #[.int .i64 7, .int .i64 n, .string key, .string text]] w fun e w' => e = .returned (.int .i64 3) ∧ Below w.heap.size w w' := by
  have a1 := as160_92
  have a2 := as160_95
  have a3 := as160_98
  go_enter Tryd.func27, Tryd.ntmps27
  go_wp2_with (first | (go_at_call 62; go_in) | (go_at_call 81; go_in))
  go_ret
  exact ⟨rfl, by repeat (first | exact Below.refl _ _ | refine Below.alloc ?_ (by simp <;> omega) _)⟩
set_option maxRecDepth 100000 in
theorem of_7_4 (n : Int) (hr : bits .and .i64 n 7 = 4) (key text : ByteArray) (w : World) :
    Calls Tryd.prog 27 #[.agg #[.int .i64 7, .int .i64 n, .string key, .string text]] w fun e w' => e = .returned (.int .i64 4) ∧ Below w.heap.size w w' := by
  have a1 := as159_92
  have a2 := as159_95
  have a3 := as159_98
  go_enter Tryd.func27, Tryd.ntmps27
  go_wp2_with (first | (go_at_call 62; go_in) | (go_at_call 81; go_in))
  go_ret
  exact ⟨rfl, by repeat (first | exact Below.refl _ _ | refine Below.alloc ?_ (by simp <;> omega) _)⟩
set_option maxRecDepth 100000 in
theorem of_7_5 (n : Int) (hr : bits .and .i64 n 7 = 5) (key text : ByteArray) (w : World) :
    Calls Tryd.prog 27 #[.agg #[.int .i64 7, .int .i64 n, .string key, .string text]] w fun e w' => e = .returned (.int .i64 5) ∧ Below w.heap.size w w' := by
  have a1 := as161_92
  have a2 := as161_95
  have a3 := as161_98
  go_enter Tryd.func27, Tryd.ntmps27
  go_wp2_with (first | (go_at_call 62; go_in) | (go_at_call 81; go_in))
  go_ret
  exact ⟨rfl, by repeat (first | exact Below.refl _ _ | refine Below.alloc ?_ (by simp <;> omega) _)⟩
set_option maxRecDepth 100000 in
theorem of_7_6 (n : Int) (hr : bits .and .i64 n 7 = 6) (key text : ByteArray) (w : World) :
    Calls Tryd.prog 27 #[.agg #[.int .i64 7, .int .i64 n, .string key, .string text]] w fun e w' => e = .returned (.int .i64 6) ∧ Below w.heap.size w w' := by
  have a1 := as162_92
  have a2 := as162_95
  have a3 := as162_98
  go_enter Tryd.func27, Tryd.ntmps27
  go_wp2_with (first | (go_at_call 62; go_in) | (go_at_call 81; go_in))
  go_ret
  exact ⟨rfl, by repeat (first | exact Below.refl _ _ | refine Below.alloc ?_ (by simp <;> omega) _)⟩
set_option maxRecDepth 100000 in
theorem of_7_7 (n : Int) (hr : bits .and .i64 n 7 = 7) (key text : ByteArray) (w : World) :
    Calls Tryd.prog 27 #[.agg #[.int .i64 7, .int .i64 n, .string key, .string text]] w fun e w' => e = .returned (.int .i64 7) ∧ Below w.heap.size w w' := by
  have a1 := as163_92
  have a2 := as163_95
  have a3 := as163_98
  go_enter Tryd.func27, Tryd.ntmps27
  go_wp2_with (first | (go_at_call 62; go_in) | (go_at_call 81; go_in))
  go_ret
  exact ⟨rfl, by repeat (first | exact Below.refl _ _ | refine Below.alloc ?_ (by simp <;> omega) _)⟩
end Go.Proofs.YtmcjgfoaiannoabDoor
