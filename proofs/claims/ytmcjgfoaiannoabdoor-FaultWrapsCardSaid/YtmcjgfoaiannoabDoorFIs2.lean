/-
  Is of a fault: whether it is, or wraps, one of a kind. No condition.
-/
import Derived.Test.YtmcjgfoaiannoabDoorFIs
namespace Go.Proofs.YtmcjgfoaiannoabDoor
open Go.RowKit Go.Extern.Stop Go.Stop Go.Extern

/-- what the method Comparable does -/
def cmpF (t : TypeId) : Sem Value := do
  Go.Extern.Rtype.noPackHeld "Comparable" t
  pure (.bool (← typeInfo t).comparable)
theorem isComparable2 (w : World) : ((Extern.ReflectliteType.method cmpF) #[.agg #[.pointer (some ⟨8, 75, none⟩)]]).run Tryd.prog w = .ok (.bool true) w := by kernel_rfl
theorem wrapP_len (k n : Int) : (wrapP k n).length ≤ 2 := by
  unfold wrapP
  split <;> simp
theorem any_snoc {l : List Int} {j : Nat} {x kind : Int} (hx : l[j]? = some x) (h : (l.take j).any (· == kind) = false) (h2 : (x == kind) = false) : (l.take (j + 1)).any (· == kind) = false := by
  rw [take_snoc' hx, List.any_append, h]
  simp at h2
  simp [h2]
theorem any_hit {l : List Int} {j : Nat} {x kind : Int} (hx : l[j]? = some x) (h2 : (x == kind) = true) : l.any (· == kind) = true :=
  List.any_eq_true.2 ⟨x, List.mem_of_getElem? hx, h2⟩
set_option maxRecDepth 100000 in
set_option maxHeartbeats 2000000 in
theorem isE (k fi ca : Int) (t : ByteArray) (n kind : Int) (g : Nat) (w : World) (bb : Blk w g 71 (fltC k fi ca t n)) :
    Calls Tryd.prog 78 #[.iface 69 (.pointer (some ⟨g, 0, none⟩)), .iface 75 (.int .i64 kind), .bool true] w fun e w' => e = .returned (.bool ((wrapP k n).any (· == kind))) ∧ Below w.heap.size w w' := by
  have heq := fun w => run_eql_iface_types (P := Tryd.prog) 69 75 (.pointer (some ⟨g, 0, none⟩)) (.int .i64 kind) Tryd.underlying73 (by decide) w
  have n1 := no147E
  have n2 := no150E
  have n3 := has152E
  have me := methodUnwrap
  have ah := ahead69
  obtain ⟨l, hl⟩ : ∃ l, l = wrapP k n := ⟨_, rfl⟩
  have hlen : l.length ≤ 2 := by rw [hl]; exact wrapP_len k n
  have hU := unwrap_any k fi ca t n g w bb
  rw [← hl] at hU ⊢
  clear hl bb
  go_enter Tryd.func78, Tryd.ntmps78
  go_wp2
  refine wp_loop_rounds 1 ?_
  rw [rounds_succ]
  go_wp2_with (go_at_call 151; refine Hid.out ?_)
  unfold Hid
  refine hU.mono ?_
  rintro e w1 ⟨A, c, rfl, hr, hB⟩
  clear hU heq n1 n2 n3 me ah
  go_wp2
  go_loopw [45] (fun i wr => ∃ j : Nat, j ≤ l.length ∧ i = .int .i64 j ∧ Hid ((l.take j).any (· == kind) = false) ∧ Below w.heap.size w wr ∧ Rd 1 encK wr wr.heap.size A l)
    (fun i _ => l.length - (intOf i).toNat)
  case atStart => exact ⟨0, Nat.zero_le _, rfl, Lib.hid rfl, hB, hr⟩
  case round =>
    clear hB hr
    obtain ⟨j, hj, rfl, HA, hB, hr⟩ := hrel
    by_cases hlt : j < l.length
    · obtain ⟨b, off, x, rfl, hbB, hx, hc⟩ := hr.at_ hlt
      have c0 : wr.cell? ⟨b, off + j, none⟩ = some (.iface 75 (.int .i64 x)) := by
        have := hc 0 _ rfl
        simpa using this
      have HK := Lib.hid (isK x kind wr)
      obtain ⟨q, hq⟩ : ∃ q, q = (x == kind) := ⟨_, rfl⟩
      rw [← hq] at HK
      cases q
      · have HA2 := Lib.hid (any_snoc hx HA.out hq.symm)
        clear hc hx hq HA
        go_wp2_with (first | (go_at_call 78; refine Hid.out ?_) | go_in)
        unfold Hid
        refine HK.out.mono ?_
        rintro e w2 ⟨rfl, rfl⟩
        go_wp2
        go_roundw
        case rel => exact ⟨j + 1, by omega, by go_num, HA2, hB, hr⟩
        case measure => simp [intOf]; omega
      · have hv := any_hit (kind := kind) hx hq.symm
        clear hc hx hq HA
        go_wp2_with (first | (go_at_call 78; refine Hid.out ?_) | go_in)
        unfold Hid
        refine HK.out.mono ?_
        rintro e w2 ⟨rfl, rfl⟩
        go_wp2
        go_ret
        try rw [hv]
        exact ⟨rfl, hB⟩
    · have hv : l.any (· == kind) = false := by
        have := HA.out
        rw [List.take_of_length_le (by omega)] at this
        exact this
      have hle : l.length ≤ j := by omega
      clear HA
      go_wp2
      go_ret
      try rw [hv]
      exact ⟨rfl, hB⟩
set_option maxRecDepth 100000 in
set_option maxHeartbeats 1000000 in
theorem is_any (k fi ca : Int) (t : ByteArray) (n kind : Int) (w : World) :
    Calls Tryd.prog 13 #[fltV k fi ca t n, .int .i64 kind] w fun e w' => e = .returned (.bool (decide (k = kind) || (decide (n ≠ 0) && decide (n = kind)))) ∧ Below w.heap.size w w' := by
  have hval : (decide (k = kind) || (decide (n ≠ 0) && decide (n = kind))) = (wrapP k n).any (· == kind) := by
    unfold wrapP
    by_cases hn : n = 0
    · subst hn
      simp [beq_eq_dec]
    · simp [hn, beq_eq_dec]
  rw [hval]
  have h77 := @run_callFunc_extern Tryd.prog 77 _ Extern.ReflectliteType.typeOf Tryd.func77 (by kernel_rfl) (by kernel_rfl) (by kernel_rfl) (by kernel_rfl)
  have h161 := @run_callFunc_extern Tryd.prog 161 _ (Extern.ReflectliteType.method cmpF) Tryd.func161 (by kernel_rfl) (by kernel_rfl) (by kernel_rfl) (by kernel_rfl)
  have tT := isTypeOf
  have cT := isComparable2
  have mR := isMethodComparable
  have aR := ahead145
  obtain ⟨W, hW⟩ : ∃ W, W = (w.alloc (.cells (fltC k fi ca t n) 23)).alloc (.cells (fltC k fi ca t n) 71) := ⟨_, rfl⟩
  have b2 : Blk W (w.heap.size + 1) 71 (fltC k fi ca t n) := by rw [hW]; exact Blk.new' _ _ (by simp) _ _
  have hB : Below w.heap.size w W := by rw [hW]; exact ((Below.refl _ w).alloc (Nat.le_refl _) _).alloc (by simp) _
  have hE := fun kd => isE k fi ca t n kd (w.heap.size + 1) W b2
  have heq := fun w => run_eql_iface_types (P := Tryd.prog) 69 75 (.pointer (some ⟨w.heap.size + 1, 0, none⟩)) (.int .i64 kind) Tryd.underlying73 (by decide) w
  have hIs : Calls Tryd.prog 57 #[.iface 69 (.pointer (some ⟨w.heap.size + 1, 0, none⟩)), .iface 75 (.int .i64 kind)] W fun e w' => e = .returned (.bool ((wrapP k n).any (· == kind))) ∧ Below W.heap.size W w' := by
    clear hW hB b2
    go_enter Tryd.func57, Tryd.ntmps57
    go_wp2_with (go_at_call 78; refine Hid.out ?_)
    unfold Hid
    refine (hE kind).mono ?_
    rintro e w1 ⟨rfl, hb⟩
    go_wp2
    go_ret
    exact ⟨rfl, hb⟩
  clear hE heq h77 h161 tT cT mR aR b2
  go_enter Tryd.func13, Tryd.ntmps13
  go_wp2_with (go_at_call 57; refine Hid.out ?_)
  rw [← hW]
  unfold Hid
  refine hIs.mono ?_
  rintro e w1 ⟨rfl, hb⟩
  go_wp2
  go_ret
  exact ⟨rfl, hB.trans (hb.mono hB.size)⟩
end Go.Proofs.YtmcjgfoaiannoabDoor
