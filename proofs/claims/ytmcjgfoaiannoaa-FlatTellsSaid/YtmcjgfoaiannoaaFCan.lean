/-
  What a right filter can, by the program and by the reference. Condition: the filter's kind is one of seven, and a wild one's number has three bits.
-/
import Derived.Test.YtmcjgfoaiannoaaRCan
namespace Go.Proofs.Ytmcjgfoaiannoaa
open Go.RowKit Go.Maps

/-- a filter that is right, as far as what it can goes -/
structure OkS (k n : Int) : Prop where
  lo : 1 ≤ k
  hi : k ≤ 7
  wl : k = 7 → 0 ≤ n
  wh : k = 7 → n ≤ 7
def canP (k n : Int) : Int := if k = 7 then n else if k = 2 ∨ k = 6 then 2 else 1
def capB (r call : Int) : Bool := if call = 1 then r == 1 || r == 3 || r == 5 || r == 7 else if call = 2 then r == 2 || r == 3 || r == 6 || r == 7 else decide (4 ≤ r)
theorem canP_range {k n : Int} (h : OkS k n) : ∃ r : Nat, r < 8 ∧ canP k n = r := by
  unfold canP
  by_cases h7 : k = 7
  · rw [if_pos h7]
    exact ⟨n.toNat, by have := h.wh h7; omega, by have := h.wl h7; omega⟩
  · rw [if_neg h7]
    by_cases h2 : k = 2 ∨ k = 6
    · rw [if_pos h2]
      exact ⟨2, by omega, rfl⟩
    · rw [if_neg h2]
      exact ⟨1, by omega, rfl⟩
theorem seven {k : Int} (h1 : 1 ≤ k) (h2 : k ≤ 7) : k = 1 ∨ k = 2 ∨ k = 3 ∨ k = 4 ∨ k = 5 ∨ k = 6 ∨ k = 7 := by omega
theorem eight {n : Int} (h1 : 0 ≤ n) (h2 : n ≤ 7) : n = 0 ∨ n = 1 ∨ n = 2 ∨ n = 3 ∨ n = 4 ∨ n = 5 ∨ n = 6 ∨ n = 7 := by omega
theorem of_any {k n : Int} (h : OkS k n) (key text : ByteArray) (w : World) :
    Calls Try.prog 63 #[.agg #[.int .i64 k, .int .i64 n, .string key, .string text]] w fun e w' => e = .returned (.int .i64 (canP k n)) ∧ Below w.heap.size w w' := by
  rcases seven h.lo h.hi with rfl | rfl | rfl | rfl | rfl | rfl | rfl
  · exact of_1 n key text w
  · exact of_2 n key text w
  · exact of_3 n key text w
  · exact of_4 n key text w
  · exact of_5 n key text w
  · exact of_6 n key text w
  · rcases eight (h.wl rfl) (h.wh rfl) with rfl | rfl | rfl | rfl | rfl | rfl | rfl | rfl
    · exact of_7_0 0 (by decide) key text w
    · exact of_7_1 1 (by decide) key text w
    · exact of_7_2 2 (by decide) key text w
    · exact of_7_3 3 (by decide) key text w
    · exact of_7_4 4 (by decide) key text w
    · exact of_7_5 5 (by decide) key text w
    · exact of_7_6 6 (by decide) key text w
    · exact of_7_7 7 (by decide) key text w
set_option maxRecDepth 100000 in
theorem refCan_7 (n : Int) (h1 : 0 ≤ n) (h2 : n ≤ 7) (key text : ByteArray) (w : World) :
    Calls Try.prog 51 #[.agg #[.int .i64 7, .int .i64 n, .string key, .string text]] w fun e w' => e = .returned (.int .i64 n) ∧ Below w.heap.size w w' := by
  have hb : bits .and .i64 n 7 = n := by
    rcases eight h1 h2 with rfl | rfl | rfl | rfl | rfl | rfl | rfl | rfl <;> decide
  go_enter Try.func51, Try.ntmps51
  go_wp2
  go_ret
  exact ⟨rfl, (Below.refl _ w).alloc (Nat.le_refl _) _⟩
theorem refCan_any {k n : Int} (h : OkS k n) (key text : ByteArray) (w : World) :
    Calls Try.prog 51 #[.agg #[.int .i64 k, .int .i64 n, .string key, .string text]] w fun e w' => e = .returned (.int .i64 (canP k n)) ∧ Below w.heap.size w w' := by
  by_cases h7 : k = 7
  · subst h7
    exact refCan_7 n (h.wl rfl) (h.wh rfl) key text w
  · have hk : (Lit.int .i64 k).wf = true := by
      rcases seven h.lo h.hi with rfl | rfl | rfl | rfl | rfl | rfl | rfl <;> decide
    refine (refCan_no k n key text w h7 hk).mono ?_
    rintro e w' ⟨⟨c, rfl, hat⟩, hb⟩
    refine ⟨?_, hb⟩
    have hc : c = canP k n := by
      rcases seven h.lo h.hi with rfl | rfl | rfl | rfl | rfl | rfl | rfl
      · have e : canMap.atKey (.int .i64 1) (.lit (.int .i64 0)) = .lit (.int .i64 1) := rfl
        rw [e] at hat; cases hat; rfl
      · have e : canMap.atKey (.int .i64 2) (.lit (.int .i64 0)) = .lit (.int .i64 2) := rfl
        rw [e] at hat; cases hat; rfl
      · have e : canMap.atKey (.int .i64 3) (.lit (.int .i64 0)) = .lit (.int .i64 1) := rfl
        rw [e] at hat; cases hat; rfl
      · have e : canMap.atKey (.int .i64 4) (.lit (.int .i64 0)) = .lit (.int .i64 1) := rfl
        rw [e] at hat; cases hat; rfl
      · have e : canMap.atKey (.int .i64 5) (.lit (.int .i64 0)) = .lit (.int .i64 1) := rfl
        rw [e] at hat; cases hat; rfl
      · have e : canMap.atKey (.int .i64 6) (.lit (.int .i64 0)) = .lit (.int .i64 2) := rfl
        rw [e] at hat; cases hat; rfl
      · exact absurd rfl h7
    rw [hc]
set_option maxRecDepth 100000 in
set_option maxHeartbeats 2000000 in
theorem capsCan_any {k n : Int} (h : OkS k n) (key text : ByteArray) (call : Int) (h1 : 1 ≤ call) (h3 : call ≤ 3) (w : World) :
    Calls Try.prog 50 #[.agg #[.int .i64 k, .int .i64 n, .string key, .string text], .int .i64 call] w fun e w' => e = .returned (.bool (capB (canP k n) call)) ∧ Below w.heap.size w w' := by
  have ho := of_any h key text
  obtain ⟨r, hr, hrr⟩ := canP_range h
  rw [hrr] at ho ⊢
  clear hrr h
  have h8 : r = 0 ∨ r = 1 ∨ r = 2 ∨ r = 3 ∨ r = 4 ∨ r = 5 ∨ r = 6 ∨ r = 7 := by omega
  have h123 : call = 1 ∨ call = 2 ∨ call = 3 := by omega
  clear hr h1 h3
  obtain ⟨w0, hw0⟩ : ∃ w0, w0 = w.alloc (.cells #[.int .i64 k, .int .i64 n, .string key, .string text] 60) := ⟨_, rfl⟩
  have hB : Below w.heap.size w w0 := by rw [hw0]; exact (Below.refl _ w).alloc (Nat.le_refl _) _
  rcases h8 with rfl | rfl | rfl | rfl | rfl | rfl | rfl | rfl <;> rcases h123 with rfl | rfl | rfl
  all_goals
    go_enter Try.func50, Try.ntmps50
    go_wp2_with (go_at_call 63; refine Hid.out ?_)
    unfold Hid
    rw [← hw0]
    refine (ho w0).mono ?_
    rintro e w1 ⟨rfl, hb⟩
    have hB := hB.trans (hb.mono hB.size)
    clear ho hw0
    go_wp2
    go_ret
    refine ⟨?_, hB⟩
    rfl
set_option maxRecDepth 100000 in
set_option maxHeartbeats 2000000 in
theorem canCall_any {k n : Int} (h : OkS k n) (key text : ByteArray) (call : Int) (h1 : 1 ≤ call) (h3 : call ≤ 3) (w : World) :
    Calls Try.prog 28 #[.agg #[.int .i64 k, .int .i64 n, .string key, .string text], .int .i64 call] w fun e w' => e = .returned (.bool (capB (canP k n) call)) ∧ Below w.heap.size w w' := by
  have ho := refCan_any h key text
  obtain ⟨r, hr, hrr⟩ := canP_range h
  rw [hrr] at ho ⊢
  clear hrr h
  have h8 : r = 0 ∨ r = 1 ∨ r = 2 ∨ r = 3 ∨ r = 4 ∨ r = 5 ∨ r = 6 ∨ r = 7 := by omega
  have h123 : call = 1 ∨ call = 2 ∨ call = 3 := by omega
  clear hr h1 h3
  obtain ⟨w0, hw0⟩ : ∃ w0, w0 = w.alloc (.cells #[.int .i64 k, .int .i64 n, .string key, .string text] 60) := ⟨_, rfl⟩
  have hB : Below w.heap.size w w0 := by rw [hw0]; exact (Below.refl _ w).alloc (Nat.le_refl _) _
  rcases h8 with rfl | rfl | rfl | rfl | rfl | rfl | rfl | rfl <;> rcases h123 with rfl | rfl | rfl
  all_goals
    go_enter Try.func28, Try.ntmps28
    go_wp2_with (go_at_call 51; refine Hid.out ?_)
    unfold Hid
    rw [← hw0]
    refine (ho w0).mono ?_
    rintro e w1 ⟨rfl, hb⟩
    have hB := hB.trans (hb.mono hB.size)
    clear ho hw0
    go_wp2
    go_ret
    refine ⟨?_, hB⟩
    rfl
end Go.Proofs.Ytmcjgfoaiannoaa
