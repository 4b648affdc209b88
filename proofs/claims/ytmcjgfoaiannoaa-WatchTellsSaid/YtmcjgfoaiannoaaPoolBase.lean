/-
  Copies of slices of ints and of marks, and their comparison: contracts. Conditions: the length bounds that the reach pays.
-/
import Derived.Test.YtmcjgfoaiannoaaOwn
import Derived.Test.YtmcjgfoaiannoaaOpenInts
namespace Go.Proofs.Ytmcjgfoaiannoaa
open Go.RowKit

theorem encI_len (n : Int) : (encI n).length = 1 := rfl
theorem encI_one (l : List Int) : ∀ u ∈ l.flatMap encI, u.oneCell' = true := by
  intro u hu
  obtain ⟨x, _, hx⟩ := List.mem_flatMap.1 hu
  simp [encI] at hx
  subst hx
  rfl
theorem infoM : (Try.prog.info? 82).map (fun i => (i.zero, i.size, i.bytes)) = some (some (.agg #[.int .i64 0, .int .i64 0, .int .i64 0]), 3, 24) := by kernel_rfl

set_option maxHeartbeats 400000 in
theorem cloneI_any (A : Option Addr) (c : Nat) (l : List Int) (w : World) (hr : Rd 1 encI w w.heap.size A l) (hn : l.length * 8 ≤ 140737488355328) :
    Calls Try.prog 54 #[.slice A l.length c] w fun e w' => ∃ A' c', e = .returned (.slice A' l.length c') ∧ w'.ownsRow w.heap.size 3 1 (.slice A' l.length c') l.length (l.flatMap encI) ∧ Below w.heap.size w w' := by
  rcases A with _ | ad
  · have hl : l = [] := by
      rcases Nat.eq_zero_or_pos l.length with h | h
      · exact List.eq_nil_of_length_eq_zero h
      · obtain ⟨b, off, e, _⟩ := hr h
        cases e
    subst hl
    have hnn := fun (W : World) => Lib.run_eql_slice_nil (P := Try.prog) W 44 3 none 0 c 0 0 Try.underlying44
    go_enter Try.func54, Try.ntmps54
    go_wp2
    go_ret
    exact ⟨none, 0, rfl, World.ownsRow_nil _ _ _ _, Below.refl _ _⟩
  · have hnn := fun (W : World) => Lib.run_eql_slice_nil (P := Try.prog) W 44 3 (some ad) l.length c 0 0 Try.underlying44
    obtain ⟨i0, hi, hz0, hz1, hz2⟩ := info_parts infoI
    have hrd := hr.reads encI_len (by omega)
    have hb0 : (w.alloc (.cells #[] 3)).ownsRow w.heap.size 3 1 (.slice (some ⟨w.heap.size, 0, none⟩) 0 0) 0 [] :=
      ⟨rfl, .inr ⟨w.heap.size, 0, #[], rfl, Nat.le_refl _, heap_alloc_new _ _, Nat.le_refl _, by simp [maxLen], rfl, rfl⟩⟩
    have hrd' := (hrd.alloc (Nat.le_refl _) (.cells #[] 3))
    clear hrd hr
    go_enter Try.func54, Try.ntmps54
    go_wp2_with (at_builtin; refine wpList_append_any _ rfl (.tmp 5) (.tmp 6) _ rfl w.heap.size 3 i0 _ 1 8 Try.underlying44 hi hz0 hz1 hz2 rfl (by omega) _ 0 [] rfl hb0 w.heap.size (some ad) l.length c _ rfl hrd' (encI_one l) (by simp only [maxLen]; omega) (by omega) (by simp) ?_; intro v1 w1 hown1 hg1 hat1; simp only [Nat.zero_add, List.nil_append] at hown1)
    go_ret
    obtain ⟨A', c', rfl, _, _⟩ := own_shape hown1
    refine ⟨A', c', rfl, hown1, ((Below.refl _ _).alloc (Nat.le_refl _) _).grown hg1 (by simp) (fun g hg => ?_)⟩
    cases hg
    exact Nat.le_refl _

set_option maxHeartbeats 400000 in
theorem cloneM_any (A : Option Addr) (c : Nat) (l : List (Int × Int × Int)) (w : World) (hr : Rd 3 encH w w.heap.size A l) (hn : l.length * 24 ≤ 140737488355328) :
    Calls Try.prog 55 #[.slice A l.length c] w fun e w' => ∃ A' c', e = .returned (.slice A' l.length c') ∧ w'.ownsRow w.heap.size 82 3 (.slice A' l.length c') l.length (l.flatMap encH) ∧ Below w.heap.size w w' := by
  rcases A with _ | ad
  · have hl : l = [] := by
      rcases Nat.eq_zero_or_pos l.length with h | h
      · exact List.eq_nil_of_length_eq_zero h
      · obtain ⟨b, off, e, _⟩ := hr h
        cases e
    subst hl
    have hnn := fun (W : World) => Lib.run_eql_slice_nil (P := Try.prog) W 65 82 none 0 c 0 0 Try.underlying65
    go_enter Try.func55, Try.ntmps55
    go_wp2
    go_ret
    exact ⟨none, 0, rfl, World.ownsRow_nil _ _ _ _, Below.refl _ _⟩
  · have hnn := fun (W : World) => Lib.run_eql_slice_nil (P := Try.prog) W 65 82 (some ad) l.length c 0 0 Try.underlying65
    obtain ⟨i0, hi, hz0, hz1, hz2⟩ := info_parts infoM
    have hrd := hr.reads encH_len (by omega)
    have hb0 : (w.alloc (.cells #[] 82)).ownsRow w.heap.size 82 3 (.slice (some ⟨w.heap.size, 0, none⟩) 0 0) 0 [] :=
      ⟨rfl, .inr ⟨w.heap.size, 0, #[], rfl, Nat.le_refl _, heap_alloc_new _ _, Nat.le_refl _, by simp [maxLen], rfl, rfl⟩⟩
    have hrd' := (hrd.alloc (Nat.le_refl _) (.cells #[] 82))
    clear hrd hr
    go_enter Try.func55, Try.ntmps55
    go_wp2_with (at_builtin; refine wpList_append_any _ rfl (.tmp 5) (.tmp 6) _ rfl w.heap.size 82 i0 _ 3 24 Try.underlying65 hi hz0 hz1 hz2 rfl (by omega) _ 0 [] rfl hb0 w.heap.size (some ad) l.length c _ rfl hrd' (encH_one l) (by simp only [maxLen]; omega) (by omega) (by simp) ?_; intro v1 w1 hown1 hg1 hat1; simp only [Nat.zero_add, List.nil_append] at hown1)
    go_ret
    obtain ⟨A', c', rfl, _, _⟩ := own_shape hown1
    refine ⟨A', c', rfl, hown1, ((Below.refl _ _).alloc (Nat.le_refl _) _).grown hg1 (by simp) (fun g hg => ?_)⟩
    cases hg
    exact Nat.le_refl _


theorem Rd.atI {w : World} {B : Nat} {A : Option Addr} {l : List Int} {i : Nat} (h : Rd 1 encI w B A l) (hi : i < l.length) : ∃ b off x, A = some ⟨b, off, none⟩ ∧ b < B ∧ l[i]? = some x ∧ w.cell? ⟨b, off + i, none⟩ = some (.int .i64 x) := by
  obtain ⟨b, off, x, hA, hb, hx, hc⟩ := h.at_ hi
  exact ⟨b, off, x, hA, hb, hx, by simpa using hc 0 _ rfl⟩
set_option maxHeartbeats 400000 in
theorem sameInts_any (A A' : Option Addr) (c c' : Nat) (l : List Int) (w : World) (B : Nat) (hr : Rd 1 encI w B A l) (hr' : Rd 1 encI w B A' l) (hn : l.length ≤ 140737488355328) :
    Calls Try.prog 53 #[.slice A l.length c, .slice A' l.length c'] w fun e w' => e = .returned (.bool true) ∧ ∃ n, w' = w.drewN n := by
  go_enter Try.func53, Try.ntmps53
  go_wp2
  go_loopw [13] (fun i wr => ∃ k n : Nat, k ≤ l.length ∧ i = .int .i64 k ∧ wr = w.drewN n)
    (fun i _ => l.length - (intOf i).toNat)
  case atStart => exact ⟨0, 0, Nat.zero_le _, rfl, rfl⟩
  case round =>
    obtain ⟨k, n, hk, rfl, rfl⟩ := hrel
    by_cases hlt : k < l.length
    · obtain ⟨b, off, x, rfl, hbB, hx, c0⟩ := (hr.drewN n).atI hlt
      obtain ⟨b', off', x', rfl, hbB', hx', d0⟩ := (hr'.drewN n).atI hlt
      obtain rfl : x' = x := by rw [hx] at hx'; simpa [eq_comm] using hx'
      clear hx hx'
      obtain ⟨w2, hw2⟩ : ∃ w2, w2 = w.drewN n := ⟨_, rfl⟩
      rw [← hw2] at c0 d0 ⊢
      have HW := Lib.hid hw2
      clear hw2
      go_wp2
      go_quiet (fail)
      go_wp2
      go_roundw
      case rel => exact ⟨k + 1, n + nq, by omega, by go_num, by rw [HW.out, World.drewN_drewN]⟩
      case measure => simp [intOf]; omega
    · obtain rfl : k = l.length := by omega
      go_wp2
      go_ret
      exact ⟨rfl, n, rfl⟩
end Go.Proofs.Ytmcjgfoaiannoaa
