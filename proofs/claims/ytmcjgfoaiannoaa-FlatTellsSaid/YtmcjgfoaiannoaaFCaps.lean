/-
  What a filter can, for the flat table: Of. No condition.
-/
import Derived.Test.YtmcjgfoaiannoaaFrame
import Derived.Stop.Asserts
namespace Go.Proofs.Ytmcjgfoaiannoaa
open Go.RowKit

theorem as136_127 (v : Value) (xT : TypeId) (w : World) : (Instr.typeAssert (.iface 136 v) xT 127 true).run Try.prog w = .ok (.tuple #[.iface 136 v, .bool true]) w := run_typeAssert_hasB Try.underlying127 (by kernel_rfl) v xT w
theorem as136_130 (v : Value) (xT : TypeId) (w : World) : (Instr.typeAssert (.iface 136 v) xT 130 true).run Try.prog w = .ok (.tuple #[.nilIface, .bool false]) w := run_typeAssert_lacksB Try.underlying130 (by kernel_rfl) (by kernel_rfl) v xT w
theorem as136_133 (v : Value) (xT : TypeId) (w : World) : (Instr.typeAssert (.iface 136 v) xT 133 true).run Try.prog w = .ok (.tuple #[.nilIface, .bool false]) w := run_typeAssert_lacksB Try.underlying133 (by kernel_rfl) (by kernel_rfl) v xT w
theorem as137_127 (v : Value) (xT : TypeId) (w : World) : (Instr.typeAssert (.iface 137 v) xT 127 true).run Try.prog w = .ok (.tuple #[.nilIface, .bool false]) w := run_typeAssert_lacksB Try.underlying127 (by kernel_rfl) (by kernel_rfl) v xT w
theorem as137_130 (v : Value) (xT : TypeId) (w : World) : (Instr.typeAssert (.iface 137 v) xT 130 true).run Try.prog w = .ok (.tuple #[.iface 137 v, .bool true]) w := run_typeAssert_hasB Try.underlying130 (by kernel_rfl) v xT w
theorem as137_133 (v : Value) (xT : TypeId) (w : World) : (Instr.typeAssert (.iface 137 v) xT 133 true).run Try.prog w = .ok (.tuple #[.nilIface, .bool false]) w := run_typeAssert_lacksB Try.underlying133 (by kernel_rfl) (by kernel_rfl) v xT w
theorem as138_127 (v : Value) (xT : TypeId) (w : World) : (Instr.typeAssert (.iface 138 v) xT 127 true).run Try.prog w = .ok (.tuple #[.iface 138 v, .bool true]) w := run_typeAssert_hasB Try.underlying127 (by kernel_rfl) v xT w
theorem as138_130 (v : Value) (xT : TypeId) (w : World) : (Instr.typeAssert (.iface 138 v) xT 130 true).run Try.prog w = .ok (.tuple #[.nilIface, .bool false]) w := run_typeAssert_lacksB Try.underlying130 (by kernel_rfl) (by kernel_rfl) v xT w
theorem as138_133 (v : Value) (xT : TypeId) (w : World) : (Instr.typeAssert (.iface 138 v) xT 133 true).run Try.prog w = .ok (.tuple #[.nilIface, .bool false]) w := run_typeAssert_lacksB Try.underlying133 (by kernel_rfl) (by kernel_rfl) v xT w
theorem as140_127 (v : Value) (xT : TypeId) (w : World) : (Instr.typeAssert (.iface 140 v) xT 127 true).run Try.prog w = .ok (.tuple #[.iface 140 v, .bool true]) w := run_typeAssert_hasB Try.underlying127 (by kernel_rfl) v xT w
theorem as140_130 (v : Value) (xT : TypeId) (w : World) : (Instr.typeAssert (.iface 140 v) xT 130 true).run Try.prog w = .ok (.tuple #[.nilIface, .bool false]) w := run_typeAssert_lacksB Try.underlying130 (by kernel_rfl) (by kernel_rfl) v xT w
theorem as140_133 (v : Value) (xT : TypeId) (w : World) : (Instr.typeAssert (.iface 140 v) xT 133 true).run Try.prog w = .ok (.tuple #[.nilIface, .bool false]) w := run_typeAssert_lacksB Try.underlying133 (by kernel_rfl) (by kernel_rfl) v xT w
theorem as141_127 (v : Value) (xT : TypeId) (w : World) : (Instr.typeAssert (.iface 141 v) xT 127 true).run Try.prog w = .ok (.tuple #[.iface 141 v, .bool true]) w := run_typeAssert_hasB Try.underlying127 (by kernel_rfl) v xT w
theorem as141_130 (v : Value) (xT : TypeId) (w : World) : (Instr.typeAssert (.iface 141 v) xT 130 true).run Try.prog w = .ok (.tuple #[.nilIface, .bool false]) w := run_typeAssert_lacksB Try.underlying130 (by kernel_rfl) (by kernel_rfl) v xT w
theorem as141_133 (v : Value) (xT : TypeId) (w : World) : (Instr.typeAssert (.iface 141 v) xT 133 true).run Try.prog w = .ok (.tuple #[.nilIface, .bool false]) w := run_typeAssert_lacksB Try.underlying133 (by kernel_rfl) (by kernel_rfl) v xT w
theorem as142_127 (v : Value) (xT : TypeId) (w : World) : (Instr.typeAssert (.iface 142 v) xT 127 true).run Try.prog w = .ok (.tuple #[.nilIface, .bool false]) w := run_typeAssert_lacksB Try.underlying127 (by kernel_rfl) (by kernel_rfl) v xT w
theorem as142_130 (v : Value) (xT : TypeId) (w : World) : (Instr.typeAssert (.iface 142 v) xT 130 true).run Try.prog w = .ok (.tuple #[.iface 142 v, .bool true]) w := run_typeAssert_hasB Try.underlying130 (by kernel_rfl) v xT w
theorem as142_133 (v : Value) (xT : TypeId) (w : World) : (Instr.typeAssert (.iface 142 v) xT 133 true).run Try.prog w = .ok (.tuple #[.nilIface, .bool false]) w := run_typeAssert_lacksB Try.underlying133 (by kernel_rfl) (by kernel_rfl) v xT w
theorem as145_127 (v : Value) (xT : TypeId) (w : World) : (Instr.typeAssert (.iface 145 v) xT 127 true).run Try.prog w = .ok (.tuple #[.iface 145 v, .bool true]) w := run_typeAssert_hasB Try.underlying127 (by kernel_rfl) v xT w
theorem as145_130 (v : Value) (xT : TypeId) (w : World) : (Instr.typeAssert (.iface 145 v) xT 130 true).run Try.prog w = .ok (.tuple #[.nilIface, .bool false]) w := run_typeAssert_lacksB Try.underlying130 (by kernel_rfl) (by kernel_rfl) v xT w
theorem as145_133 (v : Value) (xT : TypeId) (w : World) : (Instr.typeAssert (.iface 145 v) xT 133 true).run Try.prog w = .ok (.tuple #[.nilIface, .bool false]) w := run_typeAssert_lacksB Try.underlying133 (by kernel_rfl) (by kernel_rfl) v xT w
theorem as146_127 (v : Value) (xT : TypeId) (w : World) : (Instr.typeAssert (.iface 146 v) xT 127 true).run Try.prog w = .ok (.tuple #[.nilIface, .bool false]) w := run_typeAssert_lacksB Try.underlying127 (by kernel_rfl) (by kernel_rfl) v xT w
theorem as146_130 (v : Value) (xT : TypeId) (w : World) : (Instr.typeAssert (.iface 146 v) xT 130 true).run Try.prog w = .ok (.tuple #[.iface 146 v, .bool true]) w := run_typeAssert_hasB Try.underlying130 (by kernel_rfl) v xT w
theorem as146_133 (v : Value) (xT : TypeId) (w : World) : (Instr.typeAssert (.iface 146 v) xT 133 true).run Try.prog w = .ok (.tuple #[.nilIface, .bool false]) w := run_typeAssert_lacksB Try.underlying133 (by kernel_rfl) (by kernel_rfl) v xT w
theorem as147_127 (v : Value) (xT : TypeId) (w : World) : (Instr.typeAssert (.iface 147 v) xT 127 true).run Try.prog w = .ok (.tuple #[.nilIface, .bool false]) w := run_typeAssert_lacksB Try.underlying127 (by kernel_rfl) (by kernel_rfl) v xT w
theorem as147_130 (v : Value) (xT : TypeId) (w : World) : (Instr.typeAssert (.iface 147 v) xT 130 true).run Try.prog w = .ok (.tuple #[.nilIface, .bool false]) w := run_typeAssert_lacksB Try.underlying130 (by kernel_rfl) (by kernel_rfl) v xT w
theorem as147_133 (v : Value) (xT : TypeId) (w : World) : (Instr.typeAssert (.iface 147 v) xT 133 true).run Try.prog w = .ok (.tuple #[.iface 147 v, .bool true]) w := run_typeAssert_hasB Try.underlying133 (by kernel_rfl) v xT w
theorem as148_127 (v : Value) (xT : TypeId) (w : World) : (Instr.typeAssert (.iface 148 v) xT 127 true).run Try.prog w = .ok (.tuple #[.iface 148 v, .bool true]) w := run_typeAssert_hasB Try.underlying127 (by kernel_rfl) v xT w
theorem as148_130 (v : Value) (xT : TypeId) (w : World) : (Instr.typeAssert (.iface 148 v) xT 130 true).run Try.prog w = .ok (.tuple #[.iface 148 v, .bool true]) w := run_typeAssert_hasB Try.underlying130 (by kernel_rfl) v xT w
theorem as148_133 (v : Value) (xT : TypeId) (w : World) : (Instr.typeAssert (.iface 148 v) xT 133 true).run Try.prog w = .ok (.tuple #[.nilIface, .bool false]) w := run_typeAssert_lacksB Try.underlying133 (by kernel_rfl) (by kernel_rfl) v xT w
theorem as149_127 (v : Value) (xT : TypeId) (w : World) : (Instr.typeAssert (.iface 149 v) xT 127 true).run Try.prog w = .ok (.tuple #[.iface 149 v, .bool true]) w := run_typeAssert_hasB Try.underlying127 (by kernel_rfl) v xT w
theorem as149_130 (v : Value) (xT : TypeId) (w : World) : (Instr.typeAssert (.iface 149 v) xT 130 true).run Try.prog w = .ok (.tuple #[.nilIface, .bool false]) w := run_typeAssert_lacksB Try.underlying130 (by kernel_rfl) (by kernel_rfl) v xT w
theorem as149_133 (v : Value) (xT : TypeId) (w : World) : (Instr.typeAssert (.iface 149 v) xT 133 true).run Try.prog w = .ok (.tuple #[.iface 149 v, .bool true]) w := run_typeAssert_hasB Try.underlying133 (by kernel_rfl) v xT w
theorem as150_127 (v : Value) (xT : TypeId) (w : World) : (Instr.typeAssert (.iface 150 v) xT 127 true).run Try.prog w = .ok (.tuple #[.nilIface, .bool false]) w := run_typeAssert_lacksB Try.underlying127 (by kernel_rfl) (by kernel_rfl) v xT w
theorem as150_130 (v : Value) (xT : TypeId) (w : World) : (Instr.typeAssert (.iface 150 v) xT 130 true).run Try.prog w = .ok (.tuple #[.iface 150 v, .bool true]) w := run_typeAssert_hasB Try.underlying130 (by kernel_rfl) v xT w
theorem as150_133 (v : Value) (xT : TypeId) (w : World) : (Instr.typeAssert (.iface 150 v) xT 133 true).run Try.prog w = .ok (.tuple #[.iface 150 v, .bool true]) w := run_typeAssert_hasB Try.underlying133 (by kernel_rfl) v xT w
theorem as151_127 (v : Value) (xT : TypeId) (w : World) : (Instr.typeAssert (.iface 151 v) xT 127 true).run Try.prog w = .ok (.tuple #[.iface 151 v, .bool true]) w := run_typeAssert_hasB Try.underlying127 (by kernel_rfl) v xT w
theorem as151_130 (v : Value) (xT : TypeId) (w : World) : (Instr.typeAssert (.iface 151 v) xT 130 true).run Try.prog w = .ok (.tuple #[.iface 151 v, .bool true]) w := run_typeAssert_hasB Try.underlying130 (by kernel_rfl) v xT w
theorem as151_133 (v : Value) (xT : TypeId) (w : World) : (Instr.typeAssert (.iface 151 v) xT 133 true).run Try.prog w = .ok (.tuple #[.iface 151 v, .bool true]) w := run_typeAssert_hasB Try.underlying133 (by kernel_rfl) v xT w
theorem as144_127 (v : Value) (xT : TypeId) (w : World) : (Instr.typeAssert (.iface 144 v) xT 127 true).run Try.prog w = .ok (.tuple #[.nilIface, .bool false]) w := run_typeAssert_lacksB Try.underlying127 (by kernel_rfl) (by kernel_rfl) v xT w
theorem as144_130 (v : Value) (xT : TypeId) (w : World) : (Instr.typeAssert (.iface 144 v) xT 130 true).run Try.prog w = .ok (.tuple #[.nilIface, .bool false]) w := run_typeAssert_lacksB Try.underlying130 (by kernel_rfl) (by kernel_rfl) v xT w
theorem as144_133 (v : Value) (xT : TypeId) (w : World) : (Instr.typeAssert (.iface 144 v) xT 133 true).run Try.prog w = .ok (.tuple #[.nilIface, .bool false]) w := run_typeAssert_lacksB Try.underlying133 (by kernel_rfl) (by kernel_rfl) v xT w
set_option maxRecDepth 100000 in
theorem of_1 (n : Int) (key text : ByteArray) (w : World) :
    Calls Try.prog 63 #[.agg #[.int .i64 1, .int .i64 n, .string key, .string text]] w fun e w' => e = .returned (.int .i64 1) ∧ Below w.heap.size w w' := by
  have a1 := as136_127
  have a2 := as136_130
  have a3 := as136_133
  go_enter Try.func63, Try.ntmps63
  go_wp2_with (first | (go_at_call 68; go_in) | (go_at_call 69; go_in))
  go_ret
  exact ⟨rfl, by repeat (first | exact Below.refl _ _ | refine Below.alloc ?_ (by simp <;> omega) _)⟩
set_option maxRecDepth 100000 in
theorem of_2 (n : Int) (key text : ByteArray) (w : World) :
    Calls Try.prog 63 #[.agg #[.int .i64 2, .int .i64 n, .string key, .string text]] w fun e w' => e = .returned (.int .i64 2) ∧ Below w.heap.size w w' := by
  have a1 := as137_127
  have a2 := as137_130
  have a3 := as137_133
  go_enter Try.func63, Try.ntmps63
  go_wp2_with (first | (go_at_call 68; go_in) | (go_at_call 69; go_in))
  go_ret
  exact ⟨rfl, by repeat (first | exact Below.refl _ _ | refine Below.alloc ?_ (by simp <;> omega) _)⟩
set_option maxRecDepth 100000 in
theorem of_3 (n : Int) (key text : ByteArray) (w : World) :
    Calls Try.prog 63 #[.agg #[.int .i64 3, .int .i64 n, .string key, .string text]] w fun e w' => e = .returned (.int .i64 1) ∧ Below w.heap.size w w' := by
  have a1 := as138_127
  have a2 := as138_130
  have a3 := as138_133
  go_enter Try.func63, Try.ntmps63
  go_wp2_with (first | (go_at_call 68; go_in) | (go_at_call 69; go_in))
  go_ret
  exact ⟨rfl, by repeat (first | exact Below.refl _ _ | refine Below.alloc ?_ (by simp <;> omega) _)⟩
set_option maxRecDepth 100000 in
theorem of_4 (n : Int) (key text : ByteArray) (w : World) :
    Calls Try.prog 63 #[.agg #[.int .i64 4, .int .i64 n, .string key, .string text]] w fun e w' => e = .returned (.int .i64 1) ∧ Below w.heap.size w w' := by
  have a1 := as140_127
  have a2 := as140_130
  have a3 := as140_133
  go_enter Try.func63, Try.ntmps63
  go_wp2_with (first | (go_at_call 68; go_in) | (go_at_call 69; go_in))
  go_ret
  exact ⟨rfl, by repeat (first | exact Below.refl _ _ | refine Below.alloc ?_ (by simp <;> omega) _)⟩
set_option maxRecDepth 100000 in
theorem of_5 (n : Int) (key text : ByteArray) (w : World) :
    Calls Try.prog 63 #[.agg #[.int .i64 5, .int .i64 n, .string key, .string text]] w fun e w' => e = .returned (.int .i64 1) ∧ Below w.heap.size w w' := by
  have a1 := as141_127
  have a2 := as141_130
  have a3 := as141_133
  go_enter Try.func63, Try.ntmps63
  go_wp2_with (first | (go_at_call 68; go_in) | (go_at_call 69; go_in))
  go_ret
  exact ⟨rfl, by repeat (first | exact Below.refl _ _ | refine Below.alloc ?_ (by simp <;> omega) _)⟩
set_option maxRecDepth 100000 in
theorem of_6 (n : Int) (key text : ByteArray) (w : World) :
    Calls Try.prog 63 #[.agg #[.int .i64 6, .int .i64 n, .string key, .string text]] w fun e w' => e = .returned (.int .i64 2) ∧ Below w.heap.size w w' := by
  have a1 := as142_127
  have a2 := as142_130
  have a3 := as142_133
  go_enter Try.func63, Try.ntmps63
  go_wp2_with (first | (go_at_call 68; go_in) | (go_at_call 69; go_in))
  go_ret
  exact ⟨rfl, by repeat (first | exact Below.refl _ _ | refine Below.alloc ?_ (by simp <;> omega) _)⟩
set_option maxRecDepth 100000 in
theorem of_7_0 (n : Int) (hr : bits .and .i64 n 7 = 0) (key text : ByteArray) (w : World) :
    Calls Try.prog 63 #[.agg #[.int .i64 7, .int .i64 n, .string key, .string text]] w fun e w' => e = .returned (.int .i64 0) ∧ Below w.heap.size w w' := by
  have a1 := as144_127
  have a2 := as144_130
  have a3 := as144_133
  go_enter Try.func63, Try.ntmps63
  go_wp2_with (first | (go_at_call 68; go_in) | (go_at_call 69; go_in))
  go_ret
  exact ⟨rfl, by repeat (first | exact Below.refl _ _ | refine Below.alloc ?_ (by simp <;> omega) _)⟩
set_option maxRecDepth 100000 in
theorem of_7_1 (n : Int) (hr : bits .and .i64 n 7 = 1) (key text : ByteArray) (w : World) :
    Calls Try.prog 63 #[.agg #[.int .i64 7, .int .i64 n, .string key, .string text]] w fun e w' => e = .returned (.int .i64 1) ∧ Below w.heap.size w w' := by
  have a1 := as145_127
  have a2 := as145_130
  have a3 := as145_133
  go_enter Try.func63, Try.ntmps63
  go_wp2_with (first | (go_at_call 68; go_in) | (go_at_call 69; go_in))
  go_ret
  exact ⟨rfl, by repeat (first | exact Below.refl _ _ | refine Below.alloc ?_ (by simp <;> omega) _)⟩
set_option maxRecDepth 100000 in
theorem of_7_2 (n : Int) (hr : bits .and .i64 n 7 = 2) (key text : ByteArray) (w : World) :
    Calls Try.prog 63 #[.agg #[.int .i64 7, .int .i64 n, .string key, .string text]] w fun e w' => e = .returned (.int .i64 2) ∧ Below w.heap.size w w' := by
  have a1 := as146_127
  have a2 := as146_130
  have a3 := as146_133
  go_enter Try.func63, Try.ntmps63
  go_wp2_with (first | (go_at_call 68; go_in) | (go_at_call 69; go_in))
  go_ret
  exact ⟨rfl, by repeat (first | exact Below.refl _ _ | refine Below.alloc ?_ (by simp <;> omega) _)⟩
set_option maxRecDepth 100000 in
theorem of_7_3 (n : Int) (hr : bits .and .i64 n 7 = 3) (key text : ByteArray) (w : World) :
    Calls Try.prog 63 #[.agg #[.int .i64 7, .int .i64 n, .string key, .string text]] w fun e w' => e = .returned (.int .i64 3) ∧ Below w.heap.size w w' := by
  have a1 := as148_127
  have a2 := as148_130
  have a3 := as148_133
  go_enter Try.func63, Try.ntmps63
  go_wp2_with (first | (go_at_call 68; go_in) | (go_at_call 69; go_in))
  go_ret
  exact ⟨rfl, by repeat (first | exact Below.refl _ _ | refine Below.alloc ?_ (by simp <;> omega) _)⟩
set_option maxRecDepth 100000 in
theorem of_7_4 (n : Int) (hr : bits .and .i64 n 7 = 4) (key text : ByteArray) (w : World) :
    Calls Try.prog 63 #[.agg #[.int .i64 7, .int .i64 n, .string key, .string text]] w fun e w' => e = .returned (.int .i64 4) ∧ Below w.heap.size w w' := by
  have a1 := as147_127
  have a2 := as147_130
  have a3 := as147_133
  go_enter Try.func63, Try.ntmps63
  go_wp2_with (first | (go_at_call 68; go_in) | (go_at_call 69; go_in))
  go_ret
  exact ⟨rfl, by repeat (first | exact Below.refl _ _ | refine Below.alloc ?_ (by simp <;> omega) _)⟩
set_option maxRecDepth 100000 in
theorem of_7_5 (n : Int) (hr : bits .and .i64 n 7 = 5) (key text : ByteArray) (w : World) :
    Calls Try.prog 63 #[.agg #[.int .i64 7, .int .i64 n, .string key, .string text]] w fun e w' => e = .returned (.int .i64 5) ∧ Below w.heap.size w w' := by
  have a1 := as149_127
  have a2 := as149_130
  have a3 := as149_133
  go_enter Try.func63, Try.ntmps63
  go_wp2_with (first | (go_at_call 68; go_in) | (go_at_call 69; go_in))
  go_ret
  exact ⟨rfl, by repeat (first | exact Below.refl _ _ | refine Below.alloc ?_ (by simp <;> omega) _)⟩
set_option maxRecDepth 100000 in
theorem of_7_6 (n : Int) (hr : bits .and .i64 n 7 = 6) (key text : ByteArray) (w : World) :
    Calls Try.prog 63 #[.agg #[.int .i64 7, .int .i64 n, .string key, .string text]] w fun e w' => e = .returned (.int .i64 6) ∧ Below w.heap.size w w' := by
  have a1 := as150_127
  have a2 := as150_130
  have a3 := as150_133
  go_enter Try.func63, Try.ntmps63
  go_wp2_with (first | (go_at_call 68; go_in) | (go_at_call 69; go_in))
  go_ret
  exact ⟨rfl, by repeat (first | exact Below.refl _ _ | refine Below.alloc ?_ (by simp <;> omega) _)⟩
set_option maxRecDepth 100000 in
theorem of_7_7 (n : Int) (hr : bits .and .i64 n 7 = 7) (key text : ByteArray) (w : World) :
    Calls Try.prog 63 #[.agg #[.int .i64 7, .int .i64 n, .string key, .string text]] w fun e w' => e = .returned (.int .i64 7) ∧ Below w.heap.size w w' := by
  have a1 := as151_127
  have a2 := as151_130
  have a3 := as151_133
  go_enter Try.func63, Try.ntmps63
  go_wp2_with (first | (go_at_call 68; go_in) | (go_at_call 69; go_in))
  go_ret
  exact ⟨rfl, by repeat (first | exact Below.refl _ _ | refine Below.alloc ?_ (by simp <;> omega) _)⟩
end Go.Proofs.Ytmcjgfoaiannoaa
