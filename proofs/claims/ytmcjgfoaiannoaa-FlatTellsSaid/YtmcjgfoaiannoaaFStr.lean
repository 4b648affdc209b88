/-
  The reference's looks at strings and at filters: that they come back, and what a right filter is. Condition: the strings are no longer than any may be.
-/
import Derived.Test.YtmcjgfoaiannoaaFCan
import Derived.Test.YtmcjgfoaiannoaaNames
import Derived.Deep.DeepCutAuto
namespace Go.Proofs.Ytmcjgfoaiannoaa
open Go.RowKit

/-- it comes back, with a bool, and what was there lies as it lay -/
def BoolOut (w : World) (e : Ending) (w' : World) : Prop := (∃ b : Bool, e = .returned (.bool b)) ∧ Below w.heap.size w w'
theorem boolOut {w w' : World} {e : Ending} (b : Bool) (h : e = .returned (.bool b)) (hb : Below w.heap.size w w') : BoolOut w e w' := ⟨⟨b, h⟩, hb⟩
set_option maxRecDepth 100000 in
set_option maxHeartbeats 1000000 in
theorem line_any (s : ByteArray) (hs : s.size ≤ maxLen) (w : World) : Calls Try.prog 62 #[.string s] w (BoolOut w) := by
  have hcap : s.size ≤ 9223372036854775807 := by unfold maxLen at hs; omega
  go_enter Try.func62, Try.ntmps62
  go_wp2
  go_loopw [6] (fun i wr => ∃ k : Nat, k ≤ s.size ∧ i = .int .i64 k ∧ wr = w)
    (fun i _ => s.size - (intOf i).toNat)
  case atStart => exact ⟨0, Nat.zero_le _, rfl, rfl⟩
  case round =>
    obtain ⟨k, hk, rfl, rfl⟩ := hrel
    by_cases hlt : k < s.size
    · go_wp2
      all_goals first
        | (go_ret
           exact boolOut false rfl (Below.refl _ _))
        | (go_roundw
           case rel => exact ⟨k + 1, by omega, by go_num, trivial⟩
           case measure => simp [intOf]; omega)
    · obtain rfl : k = s.size := by omega
      go_wp2
      go_ret
      unfold BoolOut
      exact ⟨by simp, Below.refl _ _⟩
set_option maxRecDepth 100000 in
set_option maxHeartbeats 2000000 in
theorem of66_any (s bs : ByteArray) (least most : Int) (hs : s.size ≤ maxLen) (hbs : bs.size ≤ maxLen) (w : World) : Calls Try.prog 66 #[.string s, .string bs, .int .i64 least, .int .i64 most] w (BoolOut w) := by
  have hcap : s.size ≤ 9223372036854775807 := by unfold maxLen at hs; omega
  have hcapb : bs.size ≤ 9223372036854775807 := by unfold maxLen at hbs; omega
  go_enter Try.func66, Try.ntmps66
  go_wp2
  go_loopw [14] (fun i wr => ∃ k : Nat, k ≤ s.size ∧ i = .int .i64 k ∧ Below w.heap.size w wr)
    (fun i _ => s.size - (intOf i).toNat)
  case atStart => exact ⟨0, Nat.zero_le _, rfl, Below.refl _ _⟩
  case round =>
    obtain ⟨k, hk, rfl, hB⟩ := hrel
    by_cases hlt : k < s.size
    · go_wp2
      go_loopw [10, 19] (fun ok i ws => ∃ (j : Nat) (b : Bool), j ≤ bs.size ∧ i = .int .i64 j ∧ ok = .bool b ∧ Below w.heap.size w ws)
        (fun _ i _ => bs.size - (intOf i).toNat)
      case atStart => exact ⟨0, false, Nat.zero_le _, rfl, rfl, hB⟩
      case round =>
        clear hB
        obtain ⟨j, b, hj, rfl, rfl, hB⟩ := hrel
        by_cases hlj : j < bs.size
        · cases b
          · go_upto_region 8 with fail
            go_quiet (fail)
            go_wp2
            go_roundw
            case rel => exact ⟨j + 1, _, by omega, by go_num, rfl, below_drewN hB _⟩
            case measure => simp [intOf]; omega
          · go_upto_region 8 with fail
            go_quiet (fail)
            go_wp2
            go_roundw
            case rel => exact ⟨j + 1, _, by omega, by go_num, rfl, below_drewN hB _⟩
            case measure => simp [intOf]; omega
        · obtain rfl : j = bs.size := by omega
          cases b
          · go_wp2
            go_ret
            exact boolOut false rfl hB
          · go_wp2
            go_roundw
            case rel => exact ⟨k + 1, by omega, by go_num, hB⟩
            case measure => simp [intOf]; omega
    · obtain rfl : k = s.size := by omega
      go_wp2
      all_goals go_ret
      all_goals unfold BoolOut
      all_goals exact ⟨by simp, hB⟩
set_option maxRecDepth 100000 in
theorem key_any (s : ByteArray) (hs : s.size ≤ maxLen) (w : World) : Calls Try.prog 61 #[.string s] w (BoolOut w) := by
  go_enter Try.func61, Try.ntmps61
  go_wp2_with (first | (go_at_call 67; go_in) | (go_at_call 66; refine Hid.out ?_))
  unfold Hid
  refine (of66_any s _ 1 8 hs (by decide) w).mono ?_
  rintro e w1 ⟨⟨b, rfl⟩, hB⟩
  go_wp2
  go_ret
  exact boolOut b rfl hB
/-- what is wrong with a filter: if nothing, it is right -/
def SieveOut (k n : Int) (w : World) (e : Ending) (w' : World) : Prop := (∃ x : Int, e = .returned (.int .i64 x) ∧ (x = 0 → OkS k n)) ∧ Below w.heap.size w w'
theorem sieveOut {k n : Int} {w w' : World} {e : Ending} (x : Int) (h : e = .returned (.int .i64 x)) (h0 : x = 0 → OkS k n) (hb : Below w.heap.size w w') : SieveOut k n w e w' := ⟨⟨x, h, h0⟩, hb⟩
set_option maxRecDepth 100000 in
set_option maxHeartbeats 2000000 in
theorem wrongSieve_any (k n : Int) (key text : ByteArray) (hk : key.size ≤ maxLen) (ht : text.size ≤ maxLen) (w : World) : Calls Try.prog 49 #[.agg #[.int .i64 k, .int .i64 n, .string key, .string text]] w (SieveOut k n w) := by
  obtain ⟨w0, hw0⟩ : ∃ w0, w0 = w.alloc (.cells #[.int .i64 k, .int .i64 n, .string key, .string text] 60) := ⟨_, rfl⟩
  have bb : Blk w0 w.heap.size 60 #[.int .i64 k, .int .i64 n, .string key, .string text] := by rw [hw0]; exact Blk.new _ _ _
  have hB : Below w.heap.size w w0 := by rw [hw0]; exact (Below.refl _ w).alloc (Nat.le_refl _) _
  have strs : ∀ k' : Int, k' = 1 ∨ k' = 2 ∨ k' = 3 → Calls Try.prog 49 #[.agg #[.int .i64 k', .int .i64 n, .string key, .string text]] w (SieveOut k' n w) := by
    intro k' hk'
    have ok : OkS k' n := ⟨by omega, by omega, by omega, by omega⟩
    have OK := Lib.hid ok
    clear ok
    obtain ⟨w0, hw0⟩ : ∃ w0, w0 = w.alloc (.cells #[.int .i64 k', .int .i64 n, .string key, .string text] 60) := ⟨_, rfl⟩
    have bb : Blk w0 w.heap.size 60 #[.int .i64 k', .int .i64 n, .string key, .string text] := by rw [hw0]; exact Blk.new _ _ _
    have hB : Below w.heap.size w w0 := by rw [hw0]; exact (Below.refl _ w).alloc (Nat.le_refl _) _
    rcases hk' with rfl | rfl | rfl
    all_goals
      go_enter Try.func49, Try.ntmps49
      go_wp2_with (go_at_call 61; refine Hid.out ?_)
      unfold Hid
      rw [← hw0]
      refine (key_any key hk w0).mono ?_
      rintro e w1 ⟨⟨b, rfl⟩, hb⟩
      have bb := bb.below hb bb.lt
      have hB := hB.trans (hb.mono hB.size)
      have ⟨k0, k1, k2, k3⟩ := bb.c4
      cases b
      · go_wp2
        go_ret
        exact sieveOut 7 rfl (by omega) hB
      · go_wp2_with (go_at_call 62; refine Hid.out ?_)
        unfold Hid
        refine (line_any text ht w1).mono ?_
        rintro e w2 ⟨⟨b, rfl⟩, hb⟩
        have hB := hB.trans (hb.mono hB.size)
        cases b
        · go_wp2
          go_ret
          exact sieveOut 7 rfl (by omega) hB
        · go_wp2
          go_ret
          exact sieveOut 0 rfl (fun _ => OK.out) hB
  by_cases h1 : k = 1
  · exact strs k (.inl h1)
  by_cases h2 : k = 2
  · exact strs k (.inr (.inl h2))
  by_cases h3 : k = 3
  · exact strs k (.inr (.inr h3))
  clear strs
  have g1 : (k == 1) = false := by simpa using h1
  have g2 : (k == 2) = false := by simpa using h2
  have g3 : (k == 3) = false := by simpa using h3
  by_cases h4 : k = 4
  · subst h4
    have OK := Lib.hid (show OkS 4 n from ⟨by omega, by omega, by omega, by omega⟩)
    clear h1 h2 h3 bb
    by_cases n1 : n < 0
    · go_enter Try.func49, Try.ntmps49
      go_wp2
      rw [← hw0]
      go_ret
      exact sieveOut 3 rfl (by omega) hB
    by_cases n2 : 40 < n
    · go_enter Try.func49, Try.ntmps49
      go_wp2
      rw [← hw0]
      go_ret
      exact sieveOut 3 rfl (by omega) hB
    · go_enter Try.func49, Try.ntmps49
      go_wp2
      rw [← hw0]
      go_ret
      exact sieveOut 0 rfl (fun _ => OK.out) hB
  have g4 : (k == 4) = false := by simpa using h4
  by_cases h56 : k = 5 ∨ k = 6
  · have OK := Lib.hid (show OkS k n from ⟨by omega, by omega, by omega, by omega⟩)
    clear h1 h2 h3 h4 bb
    rcases h56 with rfl | rfl
    all_goals
      by_cases n1 : n < 0
      · go_enter Try.func49, Try.ntmps49
        go_wp2
        rw [← hw0]
        go_ret
        exact sieveOut 3 rfl (by omega) hB
      by_cases n2 : 4 < n
      · go_enter Try.func49, Try.ntmps49
        go_wp2
        rw [← hw0]
        go_ret
        exact sieveOut 3 rfl (by omega) hB
      · go_enter Try.func49, Try.ntmps49
        go_wp2
        rw [← hw0]
        go_ret
        exact sieveOut 0 rfl (fun _ => OK.out) hB
  have g5 : (k == 5) = false := by simp; omega
  have g6 : (k == 6) = false := by simp; omega
  by_cases h7 : k = 7
  · subst h7
    clear h1 h2 h3 h4 h56 bb
    by_cases n1 : n < 0
    · go_enter Try.func49, Try.ntmps49
      go_wp2
      rw [← hw0]
      go_ret
      exact sieveOut 3 rfl (by omega) hB
    by_cases n2 : 7 < n
    · go_enter Try.func49, Try.ntmps49
      go_wp2
      rw [← hw0]
      go_ret
      exact sieveOut 3 rfl (by omega) hB
    · have OK := Lib.hid (show OkS 7 n from ⟨by omega, by omega, by omega, by omega⟩)
      go_enter Try.func49, Try.ntmps49
      go_wp2
      rw [← hw0]
      go_ret
      exact sieveOut 0 rfl (fun _ => OK.out) hB
  · have g7 : (k == 7) = false := by simpa using h7
    go_enter Try.func49, Try.ntmps49
    go_wp2
    rw [← hw0]
    go_ret
    exact sieveOut 1 rfl (by omega) hB
end Go.Proofs.Ytmcjgfoaiannoaa
