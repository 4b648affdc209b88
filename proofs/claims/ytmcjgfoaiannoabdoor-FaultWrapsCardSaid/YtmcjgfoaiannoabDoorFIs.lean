/-
  errors.Is on a fault, as an error, and a kind: what it answers. No condition.
-/
import Derived.Test.YtmcjgfoaiannoabDoorFTold
import Derived.Stop.Asserts
import Derived.Lib.IfaceEq
namespace Go.Proofs.YtmcjgfoaiannoabDoor
open Go.RowKit Go.Extern.Stop Go.Stop Go.Extern

theorem isTypeOf (v : Value) (w : World) : (Extern.ReflectliteType.typeOf #[.iface 75 v]).run Tryd.prog w = .ok (.iface 145 (.agg #[.pointer (some ⟨8, 75, none⟩)])) w := by kernel_rfl
theorem isComparable (w : World) : ((Extern.ReflectliteType.method fun t => (fun a => Value.bool a.comparable) <$> typeInfo t) #[.agg #[.pointer (some ⟨8, 75, none⟩)]]).run Tryd.prog w = .ok (.bool true) w := by kernel_rfl
theorem isMethodComparable (v : Value) (w : World) : (Go.method 344 145 v "Comparable").run Tryd.prog w = .ok (161, v) w := by kernel_rfl
theorem methodUnwrap (v : Value) (w : World) : (Go.method 344 69 v "Unwrap").run Tryd.prog w = .ok (151, v) w := by kernel_rfl
theorem no147K (v : Value) (xT : TypeId) (w : World) : (Instr.typeAssert (.iface 75 v) xT 147 true).run Tryd.prog w = .ok (.tuple #[.nilIface, .bool false]) w := run_typeAssert_lacksB Tryd.underlying147 (by kernel_rfl) (by kernel_rfl) v xT w
theorem no150K (v : Value) (xT : TypeId) (w : World) : (Instr.typeAssert (.iface 75 v) xT 150 true).run Tryd.prog w = .ok (.tuple #[.nilIface, .bool false]) w := run_typeAssert_lacksB Tryd.underlying150 (by kernel_rfl) (by kernel_rfl) v xT w
theorem no152K (v : Value) (xT : TypeId) (w : World) : (Instr.typeAssert (.iface 75 v) xT 152 true).run Tryd.prog w = .ok (.tuple #[.nilIface, .bool false]) w := run_typeAssert_lacksB Tryd.underlying152 (by kernel_rfl) (by kernel_rfl) v xT w
theorem no147E (v : Value) (xT : TypeId) (w : World) : (Instr.typeAssert (.iface 69 v) xT 147 true).run Tryd.prog w = .ok (.tuple #[.nilIface, .bool false]) w := run_typeAssert_lacksB Tryd.underlying147 (by kernel_rfl) (by kernel_rfl) v xT w
theorem no150E (v : Value) (xT : TypeId) (w : World) : (Instr.typeAssert (.iface 69 v) xT 150 true).run Tryd.prog w = .ok (.tuple #[.nilIface, .bool false]) w := run_typeAssert_lacksB Tryd.underlying150 (by kernel_rfl) (by kernel_rfl) v xT w
theorem has152E (v : Value) (xT : TypeId) (w : World) : (Instr.typeAssert (.iface 69 v) xT 152 true).run Tryd.prog w = .ok (.tuple #[.iface 69 v, .bool true]) w := run_typeAssert_hasB Tryd.underlying152 (by kernel_rfl) v xT w
theorem ahead69 (a : Addr) (w : World) : (nilAhead 344 69 (.pointer (some a)) "Unwrap").run Tryd.prog w = .ok (some false) w := by kernel_rfl
theorem ahead145 (w : World) : (nilAhead 344 145 (.agg #[.pointer (some ⟨8, 75, none⟩)]) "Comparable").run Tryd.prog w = .ok (some false) w := by kernel_rfl

def encK (x : Int) : List Value := [.iface 75 (.int .i64 x)]
theorem encK_len (x : Int) : (encK x).length = 1 := rfl
theorem rd_one (w : World) (k : Int) : Rd 1 encK (w.alloc (.cells #[.iface 75 (.int .i64 k)] 73)) (w.alloc (.cells #[.iface 75 (.int .i64 k)] 73)).heap.size (some ⟨w.heap.size, 0, none⟩) [k] := fun _ => by
  refine ⟨w.heap.size, 0, rfl, by simp, fun i x hx j u hu => ?_⟩
  have hb : Blk (w.alloc (.cells #[.iface 75 (.int .i64 k)] 73)) w.heap.size 73 #[.iface 75 (.int .i64 k)] := Blk.new _ _ _
  rcases i with _ | i
  · rcases j with _ | j
    · simp at hx
      subst hx
      simp [encK] at hu
      subst hu
      exact hb.cell 0
    · simp [encK] at hu
  · simp at hx
theorem infoE : (Tryd.prog.info? 73).map (fun i => (i.zero, i.size, i.bytes)) = some (some .nilIface, 1, 16) := by kernel_rfl
/-- what a fault is, and wraps -/
def wrapP (k n : Int) : List Int := if n = 0 then [k] else [k, n]
set_option maxRecDepth 100000 in
set_option maxHeartbeats 1000000 in
theorem unwrap_any (k fi ca : Int) (t : ByteArray) (n : Int) (g : Nat) (w : World) (bb : Blk w g 71 (fltC k fi ca t n)) :
    Calls Tryd.prog 151 #[.pointer (some ⟨g, 0, none⟩)] w fun e w' => ∃ A c, e = .returned (.slice A (wrapP k n).length c) ∧ Rd 1 encK w' w'.heap.size A (wrapP k n) ∧ Below w.heap.size w w' := by
  obtain ⟨q0, q1, q2, q3, q4⟩ := bb.c5
  have bl := bb.lt
  have hB1 : Below w.heap.size w (w.alloc (.cells #[.iface 75 (.int .i64 k)] 73)) := (Below.refl _ w).alloc (Nat.le_refl _) _
  by_cases hn : n = 0
  · subst hn
    go_enter Tryd.func151, Tryd.ntmps151
    go_wp2
    go_ret
    exact ⟨_, _, rfl, rd_one w k, hB1⟩
  have hn1 : (n == 0) = false := by simpa using hn
  have hn2 : (n != 0) = true := by simpa using hn
  have hw : wrapP k n = [k, n] := if_neg hn
  obtain ⟨i0, hi, hz0, hz1, hz2⟩ := info_parts infoE
  have own1 : (w.alloc (.cells #[.iface 75 (.int .i64 k)] 73)).ownsRow w.heap.size 73 1 (.slice (some ⟨w.heap.size, 0, none⟩) 1 1) 1 (encK k) :=
    ⟨rfl, .inr ⟨w.heap.size, 1, #[.iface 75 (.int .i64 k)], rfl, Nat.le_refl _, heap_alloc_new _ _, Nat.le_refl _, by simp [maxLen], rfl, rfl⟩⟩
  have own2 := own_below own1 ((Below.refl _ (w.alloc (.cells #[.iface 75 (.int .i64 k)] 73))).alloc (Nat.le_refl _) (.cells #[.iface 75 (.int .i64 n)] 73)) (own_lt own1)
  have hB2 := hB1.alloc hB1.size (.cells #[.iface 75 (.int .i64 n)] 73)
  have hr2 := (rd_one (w.alloc (.cells #[.iface 75 (.int .i64 k)] 73)) n).reads encK_len (by omega)
  rw [World.size_alloc] at hr2
  clear own1
  go_enter Tryd.func151, Tryd.ntmps151
  go_wp2_with (at_builtin; refine wpList_append_any _ rfl (.tmp 17) (.tmp 24) _ rfl w.heap.size 73 i0 _ 1 16 Tryd.underlying153 hi hz0 hz1 hz2 rfl (by omega) _ 1 (encK k) rfl own2 _ _ 1 _ (encK n) rfl (by simpa using hr2) (by simp [encK, Value.oneCell']) (by simp [maxLen]) (by omega) (by simp; omega) ?_; intro v' w' hown' hgrow hbk)
  obtain ⟨A, c, rfl, _, _⟩ := own_shape hown'
  have hRd : Rd 1 encK w' w'.heap.size A [k, n] := Rd.of_own (c := c) (l := [k, n]) encK_len hown'
  go_ret
  rw [hw]
  exact ⟨A, c, rfl, hRd, hB2.grown hgrow hB2.size (fun j hj => by cases hj; exact Nat.le_refl _)⟩
set_option maxRecDepth 100000 in
theorem isK (x kind : Int) (w : World) : Calls Tryd.prog 78 #[.iface 75 (.int .i64 x), .iface 75 (.int .i64 kind), .bool true] w fun e w' => e = .returned (.bool (x == kind)) ∧ w' = w := by
  have heq := fun w => Lib.run_eql_iface_int (P := Tryd.prog) w (tx := 75) (k := .i64) x kind Tryd.underlying73 (by kernel_rfl) Tryd.underlying75
  have n1 := no147K
  have n2 := no150K
  have n3 := no152K
  by_cases h : (x == kind) = true
  · rw [h] at heq ⊢
    go_enter Tryd.func78, Tryd.ntmps78
    go_wp2
    refine wp_loop_rounds 1 ?_
    rw [rounds_succ]
    go_wp2
    go_ret
    exact ⟨rfl, rfl⟩
  · have h : (x == kind) = false := by simpa using h
    rw [h] at heq ⊢
    go_enter Tryd.func78, Tryd.ntmps78
    go_wp2
    refine wp_loop_rounds 1 ?_
    rw [rounds_succ]
    go_wp2
    go_ret
    exact ⟨rfl, rfl⟩
end Go.Proofs.YtmcjgfoaiannoabDoor
