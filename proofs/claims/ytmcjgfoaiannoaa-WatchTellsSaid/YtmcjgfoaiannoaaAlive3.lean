/-
  The closed fact that the ledger's laws ask first. No condition.
-/
import Derived.Test.YtmcjgfoaiannoaaRefGive
namespace Go.Proofs.Ytmcjgfoaiannoaa
open Go.RowKit

theorem field25_0 (a b c d e : Value) (w : World) : (Instr.field 25 (.agg #[a, b, c, d, e]) 0).run Try.prog w = .ok a w := by kernel_rfl

set_option maxRecDepth 100000 in
set_option maxHeartbeats 2000000 in
theorem alive3_any (w : World) : Calls Try.prog 25 #[] w fun e w' => e = .returned (.bool true) ∧ Below w.heap.size w w' := by
  have hT : takeP ([], 0, 1, 1, 2) 5 3 3 = (([(5, 3, 3)], 0, 1, 1, 2), 0) := by decide
  have HT := Lib.hid hT
  clear hT
  go_enter Try.func25, Try.ntmps25
  go_wp2_with (go_at_call 15; refine (newL_any _ _ _ _).mono ?_; refine Hid.out ?_)
  unfold Hid
  rintro e w1 ⟨rfl, hb1⟩
  go_wp2_with (go_at_call 21; refine (take_any none 0 [] 0 1 1 2 5 3 3 w1 Rd.nil_ (by simp)).mono ?_; refine Hid.out ?_)
  unfold Hid
  rw [HT.out]
  rintro e w2 ⟨A2, c2, rfl, hr2, hb2⟩
  have hB2 : Below w.heap.size w w2 := hb1.trans (hb2.mono hb1.size)
  obtain ⟨W2, hW2⟩ : ∃ W2, W2 = w2.alloc (.cells #[.slice A2 1 c2, .int .i64 0, .int .i64 1, .int .i64 1, .int .i64 2] 25) := ⟨_, rfl⟩
  have q2 : Blk W2 w2.heap.size 25 #[.slice A2 1 c2, .int .i64 0, .int .i64 1, .int .i64 1, .int .i64 2] := by rw [hW2]; exact Blk.new _ _ _
  have r2 : Rd 3 encH W2 W2.heap.size A2 [(5, 3, 3)] := by rw [hW2]; exact (hr2.alloc (Nat.le_refl _) _).more (by simp)
  have hB3 : Below w.heap.size w W2 := by rw [hW2]; exact hB2.alloc hB2.size _
  simp only [ledV]
  go_wp2_with (go_at_call 20; refine Hid.out ?_)
  unfold Hid
  rw [← hW2]
  clear hW2
  refine (last_any A2 c2 [(5, 3, 3)] 0 1 1 2 5 W2 r2 (by simp)).mono ?_
  rintro e w3 ⟨rfl, hb3⟩
  have hl : lastP [(5, 3, 3)] 5 = ((5, 3, 3), true) := by decide
  rw [hl]
  have hz3 := hb3.size
  have q3 := q2.below hb3 q2.lt
  have r3 := (r2.below hb3).more hb3.size
  have hB4 := hB3.trans (hb3.mono hB3.size)
  obtain ⟨W3, hW3⟩ : ∃ W3, W3 = w3.alloc (.cells #[.int .i64 5, .int .i64 3, .int .i64 3] 27) := ⟨_, rfl⟩
  have q4 : Blk W3 w2.heap.size 25 #[.slice A2 1 c2, .int .i64 0, .int .i64 1, .int .i64 1, .int .i64 2] := by rw [hW3]; exact q3.alloc _
  have h4 : Blk W3 w3.heap.size 27 #[.int .i64 5, .int .i64 3, .int .i64 3] := by rw [hW3]; exact Blk.new _ _ _
  have r4 : Rd 3 encH W3 W3.heap.size A2 [(5, 3, 3)] := by rw [hW3]; exact (r3.alloc (Nat.le_refl _) _).more (by simp)
  have hB5 : Below w.heap.size w W3 := by rw [hW3]; exact hB4.alloc hB4.size _
  obtain ⟨k0, k1, k2, k3, k4⟩ := q3.c5
  have hlt3 := q3.lt
  go_wp2_with (go_at_call 23; refine Hid.out ?_)
  unfold Hid
  rw [← hW3]
  clear hW3 k0 k1 k2 k3 k4 hlt3
  refine (give_any A2 c2 [(5, 3, 3)] 0 1 1 2 5 3 W3 r4 (by simp)).mono ?_
  have hg : giveP ([(5, 3, 3)], 0, 1, 1, 2) 5 3 = (([], 0, 1, 1, 2), 0) := by decide
  rw [hg]
  rintro e w5 ⟨A5, c5, rfl, hr5, hb5⟩
  simp only [ledV]
  have q5 := q4.below hb5 q4.lt
  have h5 := h4.below hb5 h4.lt
  have r5 := (r4.below hb5).more hb5.size
  have hB6 := hB5.trans (hb5.mono hB5.size)
  obtain ⟨W5, hW5⟩ : ∃ W5, W5 = w5.alloc (.cells #[.slice A5 0 c5, .int .i64 0, .int .i64 1, .int .i64 1, .int .i64 2] 25) := ⟨_, rfl⟩
  have q6 : Blk W5 w2.heap.size 25 #[.slice A2 1 c2, .int .i64 0, .int .i64 1, .int .i64 1, .int .i64 2] := by rw [hW5]; exact q5.alloc _
  have h6 : Blk W5 w3.heap.size 27 #[.int .i64 5, .int .i64 3, .int .i64 3] := by rw [hW5]; exact h5.alloc _
  have g6 : Blk W5 w5.heap.size 25 #[.slice A5 0 c5, .int .i64 0, .int .i64 1, .int .i64 1, .int .i64 2] := by rw [hW5]; exact Blk.new _ _ _
  have r6 : Rd 3 encH W5 W5.heap.size A2 [(5, 3, 3)] := by rw [hW5]; exact (r5.alloc (Nat.le_refl _) _).more (by simp)
  have hB7 : Below w.heap.size w W5 := by rw [hW5]; exact hB6.alloc hB6.size _
  have l1 := q5.lt
  have l2 := h5.lt
  obtain ⟨k0, k1, k2, k3, k4⟩ := q5.c5
  obtain ⟨i0, i1, i2⟩ := h5.c3
  go_wp2_with (go_at_call 13; refine Hid.out ?_)
  unfold Hid
  rw [← hW5]
  clear hW5 k0 k1 k2 k3 k4 i0 i1 i2 l1 l2
  refine (count_any A2 c2 [(5, 3, 3)] 0 1 1 2 3 W5 r6 (by simp)).mono ?_
  rintro e w7 ⟨rfl, hb7⟩
  have hk : countK [(5, 3, 3)] 3 = 1 := by decide
  rw [hk]
  have q8 := q6.below hb7 q6.lt
  have g8 := g6.below hb7 g6.lt
  have r8 := (r6.below hb7).more hb7.size
  have hB8 := hB7.trans (hb7.mono hB7.size)
  obtain ⟨k0, k1, k2, k3, k4⟩ := q8.c5
  obtain ⟨i0, i1, i2, i3, i4⟩ := g8.c5
  go_wp2_with (go_at_call 18; refine Hid.out ?_)
  unfold Hid
  refine (all_any A2 c2 [(5, 3, 3)] 0 1 1 2 5 w7 r8 (by simp)).mono ?_
  rintro e w9 ⟨A9, c9, rfl, hr9, hb9⟩
  have hf : (List.filter (fun h : Int × Int × Int => h.1 == 5) [(5, 3, 3)]).reverse.length = 1 := by decide
  rw [hf]
  clear k0 k1 k2 k3 k4 i0 i1 i2 i3 i4
  have q9 := q8.below hb9 q8.lt
  have r9 := (r8.below hb9).more hb9.size
  have hB9 := hB8.trans (hb9.mono hB8.size)
  obtain ⟨k0, k1, k2, k3, k4⟩ := q9.c5
  go_wp2_with (go_at_call 16; refine Hid.out ?_)
  unfold Hid
  refine (ownL_any A2 c2 [(5, 3, 3)] 0 1 1 2 w9 r9 (by simp)).mono ?_
  rintro e w10 ⟨A10, c10, rfl, ho10, hb10⟩
  have hfd := field25_0
  go_wp2
  go_ret
  exact ⟨rfl, hB9.trans (hb10.mono hB9.size)⟩
end Go.Proofs.Ytmcjgfoaiannoaa
