/-
  LedgerBack: the walk: what is taken is there last; given back, all is as it was. Conditions: the length bound that the reach pays.
-/
import Derived.Test.YtmcjgfoaiannoaaAlive3
namespace Go.Proofs.Ytmcjgfoaiannoaa
open Go.RowKit

theorem takeP_cases (L : Led) (id kind filter : Int) : ((takeP L id kind filter).1 = led0 ∧ ((takeP L id kind filter).2 = 1 ∨ (takeP L id kind filter).2 = 8)) ∨ takeP L id kind filter = ((L.1 ++ [(id, kind, filter)], L.2), 0) := by
  unfold takeP
  split
  · exact .inl ⟨rfl, .inl rfl⟩
  · split
    · exact .inl ⟨rfl, .inr rfl⟩
    · exact .inr rfl
theorem lastP_snoc (l : List (Int × Int × Int)) (h : Int × Int × Int) (id : Int) (hh : h.1 = id) : lastP (l ++ [h]) id = (h, true) := by
  simp [lastP, hh]
theorem giveP_snoc (l : List (Int × Int × Int)) (h : Int × Int × Int) (m : Int × Int × Int × Int) : giveP (l ++ [h], m) h.1 h.2.1 = ((l, m), 0) := by
  have : lastIdx (isOf h.1 h.2.1) (l ++ [h]) = some l.length := by rw [lastIdx_snoc, if_pos (by simp [isOf])]
  simp [giveP, this, List.eraseIdx_append_of_length_le]

set_option maxRecDepth 100000 in
set_option maxHeartbeats 2000000 in
theorem ledgerBack_walk (A : Option Addr) (c : Nat) (l : List (Int × Int × Int)) (m0 m1 m2 m3 id kind filter : Int) (w : World) (hr : Rd 3 encH w w.heap.size A l) (hn : l.length * 24 + 24 ≤ 140737488355328) :
    Calls Try.prog 4 #[.agg #[.slice A l.length c, .int .i64 m0, .int .i64 m1, .int .i64 m2, .int .i64 m3], .int .i64 id, .int .i64 kind, .int .i64 filter] w fun e w' => e = .returned (.bool true) ∧ Below w.heap.size w w' := by
  go_enter Try.func4, Try.ntmps4
  obtain ⟨w0, hw0⟩ : ∃ w0, w0 = w.alloc (.cells #[.slice A l.length c, .int .i64 m0, .int .i64 m1, .int .i64 m2, .int .i64 m3] 25) := ⟨_, rfl⟩
  have b0 : Blk w0 w.heap.size 25 #[.slice A l.length c, .int .i64 m0, .int .i64 m1, .int .i64 m2, .int .i64 m3] := by rw [hw0]; exact Blk.new _ _ _
  have hr0 : Rd 3 encH w0 w.heap.size A l := by rw [hw0]; exact hr.alloc (Nat.le_refl _) _
  have hB0 : Below w.heap.size w w0 := by rw [hw0]; exact (Below.refl _ w).alloc (Nat.le_refl _) _
  go_wp2_with (go_at_call 25; refine Hid.out ?_)
  unfold Hid
  rw [← hw0]
  clear hw0
  refine (alive3_any w0).mono ?_
  rintro e w1 ⟨rfl, hb1⟩
  have b1 := b0.below hb1 b0.lt
  have hr1 : Rd 3 encH w1 w1.heap.size A l := (hr0.below' hb1 hB0.size).more (Nat.le_trans hB0.size hb1.size)
  have hB1 := hB0.trans (hb1.mono hB0.size)
  obtain ⟨k0, k1, k2, k3, k4⟩ := b1.c5
  go_wp2_with (go_at_call 21; refine Hid.out ?_)
  unfold Hid
  refine (take_any A c l m0 m1 m2 m3 id kind filter w1 hr1 hn).mono ?_
  clear k0 k1 k2 k3 k4
  rintro e w2 ⟨A2, c2, rfl, hr2, hb2⟩
  have b2 := b1.below hb2 b1.lt
  have hR2 : Rd 3 encH w2 w2.heap.size A l := (hr1.below hb2).more hb2.size
  have hB2 := hB1.trans (hb2.mono hB1.size)
  obtain ⟨k0, k1, k2, k3, k4⟩ := b2.c5
  rcases takeP_cases (l, m0, m1, m2, m3) id kind filter with ⟨h1, h2⟩ | h1
  · rw [h1]
    have hne : (((takeP (l, m0, m1, m2, m3) id kind filter).2 : Int) != 0) = true := by rcases h2 with h | h <;> rw [h] <;> decide
    generalize (takeP (l, m0, m1, m2, m3) id kind filter).2 = er at hne ⊢
    simp only [ledV, led0]
    clear h1 h2 hr2
    go_wp2
    go_ret
    exact ⟨rfl, hB2.alloc hB2.size _⟩
  · rw [h1] at hr2 ⊢
    simp only [ledV] at hr2 ⊢
    have HL := Lib.hid (lastP_snoc l (id, kind, filter) id rfl)
    have HG := Lib.hid (giveP_snoc l (id, kind, filter) (m0, m1, m2, m3))
    go_wp2_with (go_at_call 20; refine Hid.out ?_)
    unfold Hid
    have hlen : (l ++ [((id, kind, filter) : Int × Int × Int)]).length = l.length + 1 := by simp
    obtain ⟨W2, hW2⟩ : ∃ W2, W2 = w2.alloc (.cells #[.slice A2 (l.length + 1) c2, .int .i64 m0, .int .i64 m1, .int .i64 m2, .int .i64 m3] 25) := ⟨_, rfl⟩
    rw [← hW2]
    have b3 : Blk W2 w.heap.size 25 #[.slice A l.length c, .int .i64 m0, .int .i64 m1, .int .i64 m2, .int .i64 m3] := by rw [hW2]; exact b2.alloc _
    have x3 : Blk W2 w2.heap.size 25 #[.slice A2 (l.length + 1) c2, .int .i64 m0, .int .i64 m1, .int .i64 m2, .int .i64 m3] := by rw [hW2]; exact Blk.new _ _ _
    have r3 : Rd 3 encH W2 W2.heap.size A l := by rw [hW2]; exact (hR2.alloc (Nat.le_refl _) _).more (by simp)
    have y3 : Rd 3 encH W2 W2.heap.size A2 (l ++ [(id, kind, filter)]) := by rw [hW2]; exact (hr2.alloc (Nat.le_refl _) _).more (by simp)
    have hB3 : Below w.heap.size w W2 := by rw [hW2]; exact hB2.alloc hB2.size _
    clear hW2 k0 k1 k2 k3 k4
    have hc := last_any A2 c2 (l ++ [(id, kind, filter)]) m0 m1 m2 m3 id W2 y3 (by rw [hlen]; omega)
    rw [hlen, HL.out] at hc
    refine hc.mono ?_
    clear hc
    rintro e w4 ⟨rfl, hb4⟩
    have b4 := b3.below hb4 b3.lt
    have x4 := x3.below hb4 x3.lt
    have r4 := (r3.below hb4).more hb4.size
    have y4 := (y3.below hb4).more hb4.size
    have hB4 := hB3.trans (hb4.mono hB3.size)
    obtain ⟨k0, k1, k2, k3, k4⟩ := x4.c5
    have l4 := x4.lt
    go_wp2_with (go_at_call 23; refine Hid.out ?_)
    unfold Hid
    obtain ⟨W4, hW4⟩ : ∃ W4, W4 = w4.alloc (.cells #[.int .i64 id, .int .i64 kind, .int .i64 filter] 27) := ⟨_, rfl⟩
    rw [← hW4]
    have b5 : Blk W4 w.heap.size 25 #[.slice A l.length c, .int .i64 m0, .int .i64 m1, .int .i64 m2, .int .i64 m3] := by rw [hW4]; exact b4.alloc _
    have h5 : Blk W4 w4.heap.size 27 #[.int .i64 id, .int .i64 kind, .int .i64 filter] := by rw [hW4]; exact Blk.new _ _ _
    have r5 : Rd 3 encH W4 W4.heap.size A l := by rw [hW4]; exact (r4.alloc (Nat.le_refl _) _).more (by simp)
    have y5 : Rd 3 encH W4 W4.heap.size A2 (l ++ [(id, kind, filter)]) := by rw [hW4]; exact (y4.alloc (Nat.le_refl _) _).more (by simp)
    have hB5 : Below w.heap.size w W4 := by rw [hW4]; exact hB4.alloc hB4.size _
    clear hW4 k0 k1 k2 k3 k4 l4
    have hc := give_any A2 c2 (l ++ [(id, kind, filter)]) m0 m1 m2 m3 id kind W4 y5 (by rw [hlen]; omega)
    rw [hlen, HG.out] at hc
    refine hc.mono ?_
    clear hc
    rintro e w6 ⟨A6, c6, rfl, hr6, hb6⟩
    simp only [ledV] at hr6 ⊢
    have b6 := b5.below hb6 b5.lt
    have h6 := h5.below hb6 h5.lt
    have r6 := (r5.below hb6).more hb6.size
    have hB6 := hB5.trans (hb6.mono hB5.size)
    obtain ⟨k0, k1, k2, k3, k4⟩ := b6.c5
    obtain ⟨i0, i1, i2⟩ := h6.c3
    have l6 := b6.lt
    have l7 := h6.lt
    go_wp2_with (go_at_call 14; refine Hid.out ?_)
    unfold Hid
    refine (sameLedger_any A6 A c6 c l m0 m1 m2 m3 _ ((hr6.alloc (Nat.le_refl _) _).more (by simp)) ((r6.alloc (Nat.le_refl _) _).more (by simp)) (by omega)).mono ?_
    rintro e w8 ⟨rfl, hb8⟩
    go_wp2
    go_ret
    exact ⟨rfl, (hB6.alloc hB6.size _).trans (hb8.mono (by simp; exact Nat.le_succ_of_le hB6.size))⟩
end Go.Proofs.Ytmcjgfoaiannoaa
