/-
  CapsWild: the walk. No condition.
-/
import Derived.Test.YtmcjgfoaiannoabDoorCaps
import Derived.Test.YtmcjgfoaiannoabDoorBase
namespace Go.Proofs.YtmcjgfoaiannoabDoor
open Go.RowKit

set_option maxRecDepth 100000 in
set_option maxHeartbeats 1000000 in
theorem wrong0_any (w : World) : Calls Tryd.prog 25 #[.agg #[.slice none 0 0, .slice none 0 0, .slice none 0 0, .int .i64 0, .int .i64 0, .int .i64 0, .int .i64 0]] w fun e w' => e = .returned (.tuple #[.int .i64 3, .int .i64 (-1)]) ∧ Below w.heap.size w w' := by
  go_enter Tryd.func25, Tryd.ntmps25
  obtain ⟨w0, hw0⟩ : ∃ w0, w0 = (w.alloc (.cells #[.slice none 0 0, .slice none 0 0, .slice none 0 0, .int .i64 0, .int .i64 0, .int .i64 0, .int .i64 0] 43)).alloc (.cells #[.int .i64 0, .int .i64 0, .int .i64 0, .int .i64 0] 3) := ⟨_, rfl⟩
  go_wp2
  rw [← hw0]
  have bb : Blk w0 w.heap.size 43 #[.slice none 0 0, .slice none 0 0, .slice none 0 0, .int .i64 0, .int .i64 0, .int .i64 0, .int .i64 0] := by rw [hw0]; exact (Blk.new _ _ _).alloc _
  have cb : Blk w0 (w.heap.size + 1) 3 #[.int .i64 0, .int .i64 0, .int .i64 0, .int .i64 0] := by rw [hw0]; exact Blk.new' _ _ (by simp) _ _
  have hB : Below w.heap.size w w0 := by rw [hw0]; exact ((Below.refl _ w).alloc (Nat.le_refl _) _).alloc (by simp) _
  have c4 : ∀ k : Nat, k < 4 → w0.cell? ⟨w.heap.size + 1, k, none⟩ = some (.int .i64 0) := fun k hk => by
    rw [cb.cell k]
    match k, hk with
    | 0, _ | 1, _ | 2, _ | 3, _ => rfl
  have k4 : w0.cell? ⟨w.heap.size, 4, none⟩ = some (.int .i64 0) := by rw [bb.cell 4]; rfl
  clear hw0 cb
  go_loopw [39] (fun i wr => ∃ k : Nat, k ≤ 4 ∧ i = .int .i64 k ∧ wr = w0)
    (fun i _ => 4 - (intOf i).toNat)
  case atStart => exact ⟨0, by omega, rfl, rfl⟩
  case round =>
    obtain ⟨k, hk, rfl, rfl⟩ := hrel
    by_cases hlt : k < 4
    · have c0 := c4 k hlt
      clear c4
      go_wp2
      go_roundw
      case rel => exact ⟨k + 1, by omega, by go_num, trivial⟩
      case measure => simp [intOf]; omega
    · obtain rfl : k = 4 := by omega
      clear c4
      go_wp2
      refine bodyPost_ret (v := .tuple #[.int .i64 3, .int .i64 (-1)]) (by simp only [results, Tryd.results25]; go_simp) rfl ⟨rfl, hB⟩

set_option maxRecDepth 100000 in
set_option maxHeartbeats 1000000 in
theorem alive6_any (w : World) : Calls Tryd.prog 31 #[] w fun e w' => e = .returned (.bool true) ∧ Below w.heap.size w w' := by
  have a126_92 := as126_92
  have a126_95 := as126_95
  have a126_98 := as126_98
  have a161_92 := as161_92
  have a161_95 := as161_95
  have a161_98 := as161_98
  go_enter Tryd.func31, Tryd.ntmps31
  go_wp2_with (go_at_call 25; refine Hid.out ?_)
  unfold Hid
  refine (wrong0_any w).mono ?_
  rintro e w1 ⟨rfl, hB⟩
  go_wp2_with (first | (go_at_call 27; go_in) | (go_at_call 29; go_in) | (go_at_call 62; go_in) | (go_at_call 81; go_in))
  go_ret
  exact ⟨rfl, by repeat (first | exact hB | refine Below.alloc ?_ (by have := hB.size; simp <;> omega) _)⟩
set_option maxRecDepth 100000 in
set_option maxHeartbeats 1000000 in
theorem capsWild_0 (call : Int) (w : World) : Calls Tryd.prog 6 #[.int .i64 0, .int .i64 call] w fun e w' => e = .returned (.bool true) ∧ Below w.heap.size w w' := by
  have a156_92 := as156_92
  have a156_95 := as156_95
  have a156_98 := as156_98
  go_enter Tryd.func6, Tryd.ntmps6
  go_wp2_with (go_at_call 31; refine Hid.out ?_)
  unfold Hid
  refine (alive6_any w).mono ?_
  rintro e w1 ⟨rfl, hB⟩
  by_cases h1 : call = 1
  · subst h1
    go_wp2_with (first | (go_at_call 27; go_in) | (go_at_call 29; go_in) | (go_at_call 62; go_in) | (go_at_call 81; go_in))
    go_ret
    exact ⟨rfl, by repeat (first | exact hB | refine Below.alloc ?_ (by have := hB.size; simp <;> omega) _)⟩
  by_cases h2 : call = 2
  · subst h2
    go_wp2_with (first | (go_at_call 27; go_in) | (go_at_call 29; go_in) | (go_at_call 62; go_in) | (go_at_call 81; go_in))
    go_ret
    exact ⟨rfl, by repeat (first | exact hB | refine Below.alloc ?_ (by have := hB.size; simp <;> omega) _)⟩
  by_cases h3 : call = 3
  · subst h3
    go_wp2_with (first | (go_at_call 27; go_in) | (go_at_call 29; go_in) | (go_at_call 62; go_in) | (go_at_call 81; go_in))
    go_ret
    exact ⟨rfl, by repeat (first | exact hB | refine Below.alloc ?_ (by have := hB.size; simp <;> omega) _)⟩
  · have g1 : (call == 1) = false := by simpa using h1
    have g2 : (call == 2) = false := by simpa using h2
    have g3 : (call == 3) = false := by simpa using h3
    go_wp2_with (first | (go_at_call 27; go_in) | (go_at_call 29; go_in) | (go_at_call 62; go_in) | (go_at_call 81; go_in))
    go_ret
    exact ⟨rfl, by repeat (first | exact hB | refine Below.alloc ?_ (by have := hB.size; simp <;> omega) _)⟩
set_option maxRecDepth 100000 in
set_option maxHeartbeats 1000000 in
theorem capsWild_1 (call : Int) (w : World) : Calls Tryd.prog 6 #[.int .i64 1, .int .i64 call] w fun e w' => e = .returned (.bool true) ∧ Below w.heap.size w w' := by
  have a157_92 := as157_92
  have a157_95 := as157_95
  have a157_98 := as157_98
  go_enter Tryd.func6, Tryd.ntmps6
  go_wp2_with (go_at_call 31; refine Hid.out ?_)
  unfold Hid
  refine (alive6_any w).mono ?_
  rintro e w1 ⟨rfl, hB⟩
  by_cases h1 : call = 1
  · subst h1
    go_wp2_with (first | (go_at_call 27; go_in) | (go_at_call 29; go_in) | (go_at_call 62; go_in) | (go_at_call 81; go_in))
    go_ret
    exact ⟨rfl, by repeat (first | exact hB | refine Below.alloc ?_ (by have := hB.size; simp <;> omega) _)⟩
  by_cases h2 : call = 2
  · subst h2
    go_wp2_with (first | (go_at_call 27; go_in) | (go_at_call 29; go_in) | (go_at_call 62; go_in) | (go_at_call 81; go_in))
    go_ret
    exact ⟨rfl, by repeat (first | exact hB | refine Below.alloc ?_ (by have := hB.size; simp <;> omega) _)⟩
  by_cases h3 : call = 3
  · subst h3
    go_wp2_with (first | (go_at_call 27; go_in) | (go_at_call 29; go_in) | (go_at_call 62; go_in) | (go_at_call 81; go_in))
    go_ret
    exact ⟨rfl, by repeat (first | exact hB | refine Below.alloc ?_ (by have := hB.size; simp <;> omega) _)⟩
  · have g1 : (call == 1) = false := by simpa using h1
    have g2 : (call == 2) = false := by simpa using h2
    have g3 : (call == 3) = false := by simpa using h3
    go_wp2_with (first | (go_at_call 27; go_in) | (go_at_call 29; go_in) | (go_at_call 62; go_in) | (go_at_call 81; go_in))
    go_ret
    exact ⟨rfl, by repeat (first | exact hB | refine Below.alloc ?_ (by have := hB.size; simp <;> omega) _)⟩
set_option maxRecDepth 100000 in
set_option maxHeartbeats 1000000 in
theorem capsWild_2 (call : Int) (w : World) : Calls Tryd.prog 6 #[.int .i64 2, .int .i64 call] w fun e w' => e = .returned (.bool true) ∧ Below w.heap.size w w' := by
  have a158_92 := as158_92
  have a158_95 := as158_95
  have a158_98 := as158_98
  go_enter Tryd.func6, Tryd.ntmps6
  go_wp2_with (go_at_call 31; refine Hid.out ?_)
  unfold Hid
  refine (alive6_any w).mono ?_
  rintro e w1 ⟨rfl, hB⟩
  by_cases h1 : call = 1
  · subst h1
    go_wp2_with (first | (go_at_call 27; go_in) | (go_at_call 29; go_in) | (go_at_call 62; go_in) | (go_at_call 81; go_in))
    go_ret
    exact ⟨rfl, by repeat (first | exact hB | refine Below.alloc ?_ (by have := hB.size; simp <;> omega) _)⟩
  by_cases h2 : call = 2
  · subst h2
    go_wp2_with (first | (go_at_call 27; go_in) | (go_at_call 29; go_in) | (go_at_call 62; go_in) | (go_at_call 81; go_in))
    go_ret
    exact ⟨rfl, by repeat (first | exact hB | refine Below.alloc ?_ (by have := hB.size; simp <;> omega) _)⟩
  by_cases h3 : call = 3
  · subst h3
    go_wp2_with (first | (go_at_call 27; go_in) | (go_at_call 29; go_in) | (go_at_call 62; go_in) | (go_at_call 81; go_in))
    go_ret
    exact ⟨rfl, by repeat (first | exact hB | refine Below.alloc ?_ (by have := hB.size; simp <;> omega) _)⟩
  · have g1 : (call == 1) = false := by simpa using h1
    have g2 : (call == 2) = false := by simpa using h2
    have g3 : (call == 3) = false := by simpa using h3
    go_wp2_with (first | (go_at_call 27; go_in) | (go_at_call 29; go_in) | (go_at_call 62; go_in) | (go_at_call 81; go_in))
    go_ret
    exact ⟨rfl, by repeat (first | exact hB | refine Below.alloc ?_ (by have := hB.size; simp <;> omega) _)⟩
set_option maxRecDepth 100000 in
set_option maxHeartbeats 1000000 in
theorem capsWild_3 (call : Int) (w : World) : Calls Tryd.prog 6 #[.int .i64 3, .int .i64 call] w fun e w' => e = .returned (.bool true) ∧ Below w.heap.size w w' := by
  have a160_92 := as160_92
  have a160_95 := as160_95
  have a160_98 := as160_98
  go_enter Tryd.func6, Tryd.ntmps6
  go_wp2_with (go_at_call 31; refine Hid.out ?_)
  unfold Hid
  refine (alive6_any w).mono ?_
  rintro e w1 ⟨rfl, hB⟩
  by_cases h1 : call = 1
  · subst h1
    go_wp2_with (first | (go_at_call 27; go_in) | (go_at_call 29; go_in) | (go_at_call 62; go_in) | (go_at_call 81; go_in))
    go_ret
    exact ⟨rfl, by repeat (first | exact hB | refine Below.alloc ?_ (by have := hB.size; simp <;> omega) _)⟩
  by_cases h2 : call = 2
  · subst h2
    go_wp2_with (first | (go_at_call 27; go_in) | (go_at_call 29; go_in) | (go_at_call 62; go_in) | (go_at_call 81; go_in))
    go_ret
    exact ⟨rfl, by repeat (first | exact hB | refine Below.alloc ?_ (by have := hB.size; simp <;> omega) _)⟩
  by_cases h3 : call = 3
  · subst h3
    go_wp2_with (first | (go_at_call 27; go_in) | (go_at_call 29; go_in) | (go_at_call 62; go_in) | (go_at_call 81; go_in))
    go_ret
    exact ⟨rfl, by repeat (first | exact hB | refine Below.alloc ?_ (by have := hB.size; simp <;> omega) _)⟩
  · have g1 : (call == 1) = false := by simpa using h1
    have g2 : (call == 2) = false := by simpa using h2
    have g3 : (call == 3) = false := by simpa using h3
    go_wp2_with (first | (go_at_call 27; go_in) | (go_at_call 29; go_in) | (go_at_call 62; go_in) | (go_at_call 81; go_in))
    go_ret
    exact ⟨rfl, by repeat (first | exact hB | refine Below.alloc ?_ (by have := hB.size; simp <;> omega) _)⟩
set_option maxRecDepth 100000 in
set_option maxHeartbeats 1000000 in
theorem capsWild_4 (call : Int) (w : World) : Calls Tryd.prog 6 #[.int .i64 4, .int .i64 call] w fun e w' => e = .returned (.bool true) ∧ Below w.heap.size w w' := by
  have a159_92 := as159_92
  have a159_95 := as159_95
  have a159_98 := as159_98
  go_enter Tryd.func6, Tryd.ntmps6
  go_wp2_with (go_at_call 31; refine Hid.out ?_)
  unfold Hid
  refine (alive6_any w).mono ?_
  rintro e w1 ⟨rfl, hB⟩
  by_cases h1 : call = 1
  · subst h1
    go_wp2_with (first | (go_at_call 27; go_in) | (go_at_call 29; go_in) | (go_at_call 62; go_in) | (go_at_call 81; go_in))
    go_ret
    exact ⟨rfl, by repeat (first | exact hB | refine Below.alloc ?_ (by have := hB.size; simp <;> omega) _)⟩
  by_cases h2 : call = 2
  · subst h2
    go_wp2_with (first | (go_at_call 27; go_in) | (go_at_call 29; go_in) | (go_at_call 62; go_in) | (go_at_call 81; go_in))
    go_ret
    exact ⟨rfl, by repeat (first | exact hB | refine Below.alloc ?_ (by have := hB.size; simp <;> omega) _)⟩
  by_cases h3 : call = 3
  · subst h3
    go_wp2_with (first | (go_at_call 27; go_in) | (go_at_call 29; go_in) | (go_at_call 62; go_in) | (go_at_call 81; go_in))
    go_ret
    exact ⟨rfl, by repeat (first | exact hB | refine Below.alloc ?_ (by have := hB.size; simp <;> omega) _)⟩
  · have g1 : (call == 1) = false := by simpa using h1
    have g2 : (call == 2) = false := by simpa using h2
    have g3 : (call == 3) = false := by simpa using h3
    go_wp2_with (first | (go_at_call 27; go_in) | (go_at_call 29; go_in) | (go_at_call 62; go_in) | (go_at_call 81; go_in))
    go_ret
    exact ⟨rfl, by repeat (first | exact hB | refine Below.alloc ?_ (by have := hB.size; simp <;> omega) _)⟩
set_option maxRecDepth 100000 in
set_option maxHeartbeats 1000000 in
theorem capsWild_5 (call : Int) (w : World) : Calls Tryd.prog 6 #[.int .i64 5, .int .i64 call] w fun e w' => e = .returned (.bool true) ∧ Below w.heap.size w w' := by
  have a161_92 := as161_92
  have a161_95 := as161_95
  have a161_98 := as161_98
  go_enter Tryd.func6, Tryd.ntmps6
  go_wp2_with (go_at_call 31; refine Hid.out ?_)
  unfold Hid
  refine (alive6_any w).mono ?_
  rintro e w1 ⟨rfl, hB⟩
  by_cases h1 : call = 1
  · subst h1
    go_wp2_with (first | (go_at_call 27; go_in) | (go_at_call 29; go_in) | (go_at_call 62; go_in) | (go_at_call 81; go_in))
    go_ret
    exact ⟨rfl, by repeat (first | exact hB | refine Below.alloc ?_ (by have := hB.size; simp <;> omega) _)⟩
  by_cases h2 : call = 2
  · subst h2
    go_wp2_with (first | (go_at_call 27; go_in) | (go_at_call 29; go_in) | (go_at_call 62; go_in) | (go_at_call 81; go_in))
    go_ret
    exact ⟨rfl, by repeat (first | exact hB | refine Below.alloc ?_ (by have := hB.size; simp <;> omega) _)⟩
  by_cases h3 : call = 3
  · subst h3
    go_wp2_with (first | (go_at_call 27; go_in) | (go_at_call 29; go_in) | (go_at_call 62; go_in) | (go_at_call 81; go_in))
    go_ret
    exact ⟨rfl, by repeat (first | exact hB | refine Below.alloc ?_ (by have := hB.size; simp <;> omega) _)⟩
  · have g1 : (call == 1) = false := by simpa using h1
    have g2 : (call == 2) = false := by simpa using h2
    have g3 : (call == 3) = false := by simpa using h3
    go_wp2_with (first | (go_at_call 27; go_in) | (go_at_call 29; go_in) | (go_at_call 62; go_in) | (go_at_call 81; go_in))
    go_ret
    exact ⟨rfl, by repeat (first | exact hB | refine Below.alloc ?_ (by have := hB.size; simp <;> omega) _)⟩
set_option maxRecDepth 100000 in
set_option maxHeartbeats 1000000 in
theorem capsWild_6 (call : Int) (w : World) : Calls Tryd.prog 6 #[.int .i64 6, .int .i64 call] w fun e w' => e = .returned (.bool true) ∧ Below w.heap.size w w' := by
  have a162_92 := as162_92
  have a162_95 := as162_95
  have a162_98 := as162_98
  go_enter Tryd.func6, Tryd.ntmps6
  go_wp2_with (go_at_call 31; refine Hid.out ?_)
  unfold Hid
  refine (alive6_any w).mono ?_
  rintro e w1 ⟨rfl, hB⟩
  by_cases h1 : call = 1
  · subst h1
    go_wp2_with (first | (go_at_call 27; go_in) | (go_at_call 29; go_in) | (go_at_call 62; go_in) | (go_at_call 81; go_in))
    go_ret
    exact ⟨rfl, by repeat (first | exact hB | refine Below.alloc ?_ (by have := hB.size; simp <;> omega) _)⟩
  by_cases h2 : call = 2
  · subst h2
    go_wp2_with (first | (go_at_call 27; go_in) | (go_at_call 29; go_in) | (go_at_call 62; go_in) | (go_at_call 81; go_in))
    go_ret
    exact ⟨rfl, by repeat (first | exact hB | refine Below.alloc ?_ (by have := hB.size; simp <;> omega) _)⟩
  by_cases h3 : call = 3
  · subst h3
    go_wp2_with (first | (go_at_call 27; go_in) | (go_at_call 29; go_in) | (go_at_call 62; go_in) | (go_at_call 81; go_in))
    go_ret
    exact ⟨rfl, by repeat (first | exact hB | refine Below.alloc ?_ (by have := hB.size; simp <;> omega) _)⟩
  · have g1 : (call == 1) = false := by simpa using h1
    have g2 : (call == 2) = false := by simpa using h2
    have g3 : (call == 3) = false := by simpa using h3
    go_wp2_with (first | (go_at_call 27; go_in) | (go_at_call 29; go_in) | (go_at_call 62; go_in) | (go_at_call 81; go_in))
    go_ret
    exact ⟨rfl, by repeat (first | exact hB | refine Below.alloc ?_ (by have := hB.size; simp <;> omega) _)⟩
set_option maxRecDepth 100000 in
set_option maxHeartbeats 1000000 in
theorem capsWild_7 (call : Int) (w : World) : Calls Tryd.prog 6 #[.int .i64 7, .int .i64 call] w fun e w' => e = .returned (.bool true) ∧ Below w.heap.size w w' := by
  have a163_92 := as163_92
  have a163_95 := as163_95
  have a163_98 := as163_98
  go_enter Tryd.func6, Tryd.ntmps6
  go_wp2_with (go_at_call 31; refine Hid.out ?_)
  unfold Hid
  refine (alive6_any w).mono ?_
  rintro e w1 ⟨rfl, hB⟩
  by_cases h1 : call = 1
  · subst h1
    go_wp2_with (first | (go_at_call 27; go_in) | (go_at_call 29; go_in) | (go_at_call 62; go_in) | (go_at_call 81; go_in))
    go_ret
    exact ⟨rfl, by repeat (first | exact hB | refine Below.alloc ?_ (by have := hB.size; simp <;> omega) _)⟩
  by_cases h2 : call = 2
  · subst h2
    go_wp2_with (first | (go_at_call 27; go_in) | (go_at_call 29; go_in) | (go_at_call 62; go_in) | (go_at_call 81; go_in))
    go_ret
    exact ⟨rfl, by repeat (first | exact hB | refine Below.alloc ?_ (by have := hB.size; simp <;> omega) _)⟩
  by_cases h3 : call = 3
  · subst h3
    go_wp2_with (first | (go_at_call 27; go_in) | (go_at_call 29; go_in) | (go_at_call 62; go_in) | (go_at_call 81; go_in))
    go_ret
    exact ⟨rfl, by repeat (first | exact hB | refine Below.alloc ?_ (by have := hB.size; simp <;> omega) _)⟩
  · have g1 : (call == 1) = false := by simpa using h1
    have g2 : (call == 2) = false := by simpa using h2
    have g3 : (call == 3) = false := by simpa using h3
    go_wp2_with (first | (go_at_call 27; go_in) | (go_at_call 29; go_in) | (go_at_call 62; go_in) | (go_at_call 81; go_in))
    go_ret
    exact ⟨rfl, by repeat (first | exact hB | refine Below.alloc ?_ (by have := hB.size; simp <;> omega) _)⟩
set_option maxRecDepth 100000 in
theorem capsWild_walk (n call : Int) (w : World) : Calls Tryd.prog 6 #[.int .i64 n, .int .i64 call] w fun e w' => e = .returned (.bool true) ∧ Below w.heap.size w w' := by
  by_cases h1 : n < 0
  · go_enter Tryd.func6, Tryd.ntmps6
    go_wp2_with (go_at_call 31; refine Hid.out ?_)
    unfold Hid
    refine (alive6_any w).mono ?_
    rintro e w1 ⟨rfl, hB⟩
    go_wp2
    go_ret
    exact ⟨rfl, hB⟩
  by_cases h2 : 7 < n
  · go_enter Tryd.func6, Tryd.ntmps6
    go_wp2_with (go_at_call 31; refine Hid.out ?_)
    unfold Hid
    refine (alive6_any w).mono ?_
    rintro e w1 ⟨rfl, hB⟩
    go_wp2
    go_ret
    exact ⟨rfl, hB⟩
  obtain ⟨k, rfl⟩ : ∃ k : Nat, n = k := ⟨n.toNat, by omega⟩
  have hk : k < 8 := by omega
  match k, hk with
  | 0, _ => exact capsWild_0 call w
  | 1, _ => exact capsWild_1 call w
  | 2, _ => exact capsWild_2 call w
  | 3, _ => exact capsWild_3 call w
  | 4, _ => exact capsWild_4 call w
  | 5, _ => exact capsWild_5 call w
  | 6, _ => exact capsWild_6 call w
  | 7, _ => exact capsWild_7 call w
end Go.Proofs.YtmcjgfoaiannoabDoor
