/-
  What is wrong with a filter, by the program and by the reference: one code. Condition: the lengths' bounds that the reach pays.
-/
import Derived.Test.YtmcjgfoaiannoabDoorMWr
namespace Go.Proofs.YtmcjgfoaiannoabDoor
open Go.RowKit Go.Lib

/-- what is wrong with a filter -/
def wsP (k n : Int) (key text : ByteArray) : Int :=
  if k = 1 ∨ k = 2 ∨ k = 3 then (if (keyP key && lineP text) = true then 0 else 7)
  else if k = 4 then (if n < 0 ∨ 40 < n then 3 else 0)
  else if k = 5 ∨ k = 6 then (if n < 0 ∨ 4 < n then 3 else 0)
  else if k = 7 then (if n < 0 ∨ 7 < n then 3 else 0)
  else 1
abbrev sivC (k n : Int) (key text : ByteArray) : Array Value := #[.int .i64 k, .int .i64 n, .string key, .string text]
abbrev sivV (k n : Int) (key text : ByteArray) : Value := .agg (sivC k n key text)
theorem ws_str {k : Int} (h : k = 1 ∨ k = 2 ∨ k = 3) (n : Int) (key text : ByteArray) : wsP k n key text = if (keyP key && lineP text) = true then 0 else 7 := if_pos h
theorem hds_one (key text : ByteArray) (hk : key.size ≤ 140737488355328) (ht : text.size ≤ 140737488355328) : hdsP [] [⟨key, text, hk, ht⟩] = (keyP key && lineP text) := by
  simp [hdsP]
theorem wrong_200 (key text : ByteArray) (hk : key.size ≤ 140737488355328) (ht : text.size ≤ 140737488355328) : wrongP 200 ⟨#[]⟩ [⟨key, text, hk, ht⟩] 0 = if (keyP key && lineP text) = true then 0 else 7 := by
  rw [wrongP_top (.inr ⟨by omega, by omega, rfl⟩), hds_one]
  rfl
set_option maxRecDepth 100000 in
set_option maxHeartbeats 1000000 in
theorem ws32_1 (n : Int) (key text : ByteArray) (hk : key.size ≤ 140737488355328) (ht : text.size ≤ 140737488355328) (w : World) :
    Calls Tryd.prog 32 #[sivV 1 n key text] w fun e w' => e = .returned (.int .i64 (wsP 1 n key text)) ∧ Below w.heap.size w w' := by
  rw [ws_str (by omega)]
  obtain ⟨wz, hwz⟩ : ∃ W, W = w.alloc (.cells (sivC 1 n key text) 38) := ⟨_, rfl⟩
  have bb : Blk wz w.heap.size 38 (sivC 1 n key text) := by rw [hwz]; exact Blk.new _ _ _
  have hB : Below w.heap.size w wz := by rw [hwz]; exact (Below.refl _ w).alloc (Nat.le_refl _) _
  have hK := key_any key hk wz
  have hW := fun W A (h : Rd 2 encHd W W.heap.size A [⟨key, text, hk, ht⟩]) => wrong_any 200 ⟨#[]⟩ A none [⟨key, text, hk, ht⟩] 1 0 0 (by decide) (by simp) (by omega) W h
  rw [wrong_200] at hW
  obtain ⟨q1, hq1⟩ : ∃ q, q = keyP key := ⟨_, rfl⟩
  obtain ⟨q2, hq2⟩ : ∃ q, q = lineP text := ⟨_, rfl⟩
  rw [← hq1] at hK
  rw [← hq1, ← hq2] at hW
  rw [← hq1, ← hq2]
  have HW := Lib.hid hW
  clear hW hq1 hq2
  go_enter Tryd.func32, Tryd.ntmps32
  go_wp2_with (go_at_call 42; refine Hid.out ?_)
  rw [← hwz]
  unfold Hid
  refine hK.mono ?_
  rintro e w1 ⟨rfl, hb⟩
  have bb := bb.below hb bb.lt
  have hB := hB.trans (hb.mono hB.size)
  have ⟨k0, k1, k2, k3⟩ := bb.c4
  have bl := bb.lt
  clear hK hwz hb
  cases q1
  · clear HW
    go_wp2
    go_ret
    exact ⟨rfl, hB⟩
  · obtain ⟨w2, hw2⟩ : ∃ W, W = w1.alloc (.cells #[.string key, .string text] 81) := ⟨_, rfl⟩
    have hr : Rd 2 encHd w2 w2.heap.size (some ⟨w1.heap.size, 0, none⟩) [⟨key, text, hk, ht⟩] := fun _ => ⟨w1.heap.size, 0, rfl, by rw [hw2]; simp, fun i x hx j u hu => by
      have xb : Blk w2 w1.heap.size 81 #[.string key, .string text] := by rw [hw2]; exact Blk.new _ _ _
      have hi : i = 0 := by
        have := (List.getElem?_eq_some_iff.1 hx).1
        simp at this
        omega
      subst hi
      simp at hx
      subst hx
      simp only [Nat.zero_mul, Nat.zero_add]
      rw [xb.cell j]
      simpa [encHd] using hu⟩
    have hB2 : Below w.heap.size w w2 := by rw [hw2]; exact hB.alloc hB.size _
    have hC := HW.out w2 _ hr
    clear HW hr hB
    go_wp2_with (go_at_call 41; refine Hid.out ?_)
    rw [← hw2]
    unfold Hid
    refine hC.mono ?_
    rintro e w3 ⟨rfl, hb⟩
    have hB := hB2.trans (hb.mono hB2.size)
    clear hC hw2 hb hB2
    cases q2
    · go_wp2
      go_ret
      exact ⟨rfl, hB⟩
    · go_wp2
      go_ret
      exact ⟨rfl, hB⟩
set_option maxRecDepth 100000 in
set_option maxHeartbeats 1000000 in
theorem ws32_2 (n : Int) (key text : ByteArray) (hk : key.size ≤ 140737488355328) (ht : text.size ≤ 140737488355328) (w : World) :
    Calls Tryd.prog 32 #[sivV 2 n key text] w fun e w' => e = .returned (.int .i64 (wsP 2 n key text)) ∧ Below w.heap.size w w' := by
  rw [ws_str (by omega)]
  obtain ⟨wz, hwz⟩ : ∃ W, W = w.alloc (.cells (sivC 2 n key text) 38) := ⟨_, rfl⟩
  have bb : Blk wz w.heap.size 38 (sivC 2 n key text) := by rw [hwz]; exact Blk.new _ _ _
  have hB : Below w.heap.size w wz := by rw [hwz]; exact (Below.refl _ w).alloc (Nat.le_refl _) _
  have hK := key_any key hk wz
  have hW := fun W A (h : Rd 2 encHd W W.heap.size A [⟨key, text, hk, ht⟩]) => wrong_any 200 ⟨#[]⟩ A none [⟨key, text, hk, ht⟩] 1 0 0 (by decide) (by simp) (by omega) W h
  rw [wrong_200] at hW
  obtain ⟨q1, hq1⟩ : ∃ q, q = keyP key := ⟨_, rfl⟩
  obtain ⟨q2, hq2⟩ : ∃ q, q = lineP text := ⟨_, rfl⟩
  rw [← hq1] at hK
  rw [← hq1, ← hq2] at hW
  rw [← hq1, ← hq2]
  have HW := Lib.hid hW
  clear hW hq1 hq2
  go_enter Tryd.func32, Tryd.ntmps32
  go_wp2_with (go_at_call 42; refine Hid.out ?_)
  rw [← hwz]
  unfold Hid
  refine hK.mono ?_
  rintro e w1 ⟨rfl, hb⟩
  have bb := bb.below hb bb.lt
  have hB := hB.trans (hb.mono hB.size)
  have ⟨k0, k1, k2, k3⟩ := bb.c4
  have bl := bb.lt
  clear hK hwz hb
  cases q1
  · clear HW
    go_wp2
    go_ret
    exact ⟨rfl, hB⟩
  · obtain ⟨w2, hw2⟩ : ∃ W, W = w1.alloc (.cells #[.string key, .string text] 81) := ⟨_, rfl⟩
    have hr : Rd 2 encHd w2 w2.heap.size (some ⟨w1.heap.size, 0, none⟩) [⟨key, text, hk, ht⟩] := fun _ => ⟨w1.heap.size, 0, rfl, by rw [hw2]; simp, fun i x hx j u hu => by
      have xb : Blk w2 w1.heap.size 81 #[.string key, .string text] := by rw [hw2]; exact Blk.new _ _ _
      have hi : i = 0 := by
        have := (List.getElem?_eq_some_iff.1 hx).1
        simp at this
        omega
      subst hi
      simp at hx
      subst hx
      simp only [Nat.zero_mul, Nat.zero_add]
      rw [xb.cell j]
      simpa [encHd] using hu⟩
    have hB2 : Below w.heap.size w w2 := by rw [hw2]; exact hB.alloc hB.size _
    have hC := HW.out w2 _ hr
    clear HW hr hB
    go_wp2_with (go_at_call 41; refine Hid.out ?_)
    rw [← hw2]
    unfold Hid
    refine hC.mono ?_
    rintro e w3 ⟨rfl, hb⟩
    have hB := hB2.trans (hb.mono hB2.size)
    clear hC hw2 hb hB2
    cases q2
    · go_wp2
      go_ret
      exact ⟨rfl, hB⟩
    · go_wp2
      go_ret
      exact ⟨rfl, hB⟩
set_option maxRecDepth 100000 in
set_option maxHeartbeats 1000000 in
theorem ws32_3 (n : Int) (key text : ByteArray) (hk : key.size ≤ 140737488355328) (ht : text.size ≤ 140737488355328) (w : World) :
    Calls Tryd.prog 32 #[sivV 3 n key text] w fun e w' => e = .returned (.int .i64 (wsP 3 n key text)) ∧ Below w.heap.size w w' := by
  rw [ws_str (by omega)]
  obtain ⟨wz, hwz⟩ : ∃ W, W = w.alloc (.cells (sivC 3 n key text) 38) := ⟨_, rfl⟩
  have bb : Blk wz w.heap.size 38 (sivC 3 n key text) := by rw [hwz]; exact Blk.new _ _ _
  have hB : Below w.heap.size w wz := by rw [hwz]; exact (Below.refl _ w).alloc (Nat.le_refl _) _
  have hK := key_any key hk wz
  have hW := fun W A (h : Rd 2 encHd W W.heap.size A [⟨key, text, hk, ht⟩]) => wrong_any 200 ⟨#[]⟩ A none [⟨key, text, hk, ht⟩] 1 0 0 (by decide) (by simp) (by omega) W h
  rw [wrong_200] at hW
  obtain ⟨q1, hq1⟩ : ∃ q, q = keyP key := ⟨_, rfl⟩
  obtain ⟨q2, hq2⟩ : ∃ q, q = lineP text := ⟨_, rfl⟩
  rw [← hq1] at hK
  rw [← hq1, ← hq2] at hW
  rw [← hq1, ← hq2]
  have HW := Lib.hid hW
  clear hW hq1 hq2
  go_enter Tryd.func32, Tryd.ntmps32
  go_wp2_with (go_at_call 42; refine Hid.out ?_)
  rw [← hwz]
  unfold Hid
  refine hK.mono ?_
  rintro e w1 ⟨rfl, hb⟩
  have bb := bb.below hb bb.lt
  have hB := hB.trans (hb.mono hB.size)
  have ⟨k0, k1, k2, k3⟩ := bb.c4
  have bl := bb.lt
  clear hK hwz hb
  cases q1
  · clear HW
    go_wp2
    go_ret
    exact ⟨rfl, hB⟩
  · obtain ⟨w2, hw2⟩ : ∃ W, W = w1.alloc (.cells #[.string key, .string text] 81) := ⟨_, rfl⟩
    have hr : Rd 2 encHd w2 w2.heap.size (some ⟨w1.heap.size, 0, none⟩) [⟨key, text, hk, ht⟩] := fun _ => ⟨w1.heap.size, 0, rfl, by rw [hw2]; simp, fun i x hx j u hu => by
      have xb : Blk w2 w1.heap.size 81 #[.string key, .string text] := by rw [hw2]; exact Blk.new _ _ _
      have hi : i = 0 := by
        have := (List.getElem?_eq_some_iff.1 hx).1
        simp at this
        omega
      subst hi
      simp at hx
      subst hx
      simp only [Nat.zero_mul, Nat.zero_add]
      rw [xb.cell j]
      simpa [encHd] using hu⟩
    have hB2 : Below w.heap.size w w2 := by rw [hw2]; exact hB.alloc hB.size _
    have hC := HW.out w2 _ hr
    clear HW hr hB
    go_wp2_with (go_at_call 41; refine Hid.out ?_)
    rw [← hw2]
    unfold Hid
    refine hC.mono ?_
    rintro e w3 ⟨rfl, hb⟩
    have hB := hB2.trans (hb.mono hB2.size)
    clear hC hw2 hb hB2
    cases q2
    · go_wp2
      go_ret
      exact ⟨rfl, hB⟩
    · go_wp2
      go_ret
      exact ⟨rfl, hB⟩
set_option maxRecDepth 100000 in
theorem ws32_4 (n : Int) (key text : ByteArray) (w : World) :
    Calls Tryd.prog 32 #[sivV 4 n key text] w fun e w' => e = .returned (.int .i64 (wsP 4 n key text)) ∧ Below w.heap.size w w' := by
  have hv : wsP 4 n key text = if n < 0 ∨ 40 < n then 3 else 0 := rfl
  rw [hv]
  clear hv
  have hB : Below w.heap.size w (w.alloc (.cells (sivC 4 n key text) 38)) := (Below.refl _ w).alloc (Nat.le_refl _) _
  by_cases n1 : n < 0
  · rw [if_pos (.inl n1)]
    go_enter Tryd.func32, Tryd.ntmps32
    go_wp2
    go_ret
    exact ⟨rfl, hB⟩
  by_cases n2 : 40 < n
  · rw [if_pos (.inr n2)]
    go_enter Tryd.func32, Tryd.ntmps32
    go_wp2
    go_ret
    exact ⟨rfl, hB⟩
  · rw [if_neg (by omega)]
    go_enter Tryd.func32, Tryd.ntmps32
    go_wp2
    go_ret
    exact ⟨rfl, hB⟩
set_option maxRecDepth 100000 in
theorem ws32_5 (n : Int) (key text : ByteArray) (w : World) :
    Calls Tryd.prog 32 #[sivV 5 n key text] w fun e w' => e = .returned (.int .i64 (wsP 5 n key text)) ∧ Below w.heap.size w w' := by
  have hv : wsP 5 n key text = if n < 0 ∨ 4 < n then 3 else 0 := rfl
  rw [hv]
  clear hv
  have hB : Below w.heap.size w (w.alloc (.cells (sivC 5 n key text) 38)) := (Below.refl _ w).alloc (Nat.le_refl _) _
  by_cases n1 : n < 0
  · rw [if_pos (.inl n1)]
    go_enter Tryd.func32, Tryd.ntmps32
    go_wp2
    go_ret
    exact ⟨rfl, hB⟩
  by_cases n2 : 4 < n
  · rw [if_pos (.inr n2)]
    go_enter Tryd.func32, Tryd.ntmps32
    go_wp2
    go_ret
    exact ⟨rfl, hB⟩
  · rw [if_neg (by omega)]
    go_enter Tryd.func32, Tryd.ntmps32
    go_wp2
    go_ret
    exact ⟨rfl, hB⟩
set_option maxRecDepth 100000 in
theorem ws32_6 (n : Int) (key text : ByteArray) (w : World) :
    Calls Tryd.prog 32 #[sivV 6 n key text] w fun e w' => e = .returned (.int .i64 (wsP 6 n key text)) ∧ Below w.heap.size w w' := by
  have hv : wsP 6 n key text = if n < 0 ∨ 4 < n then 3 else 0 := rfl
  rw [hv]
  clear hv
  have hB : Below w.heap.size w (w.alloc (.cells (sivC 6 n key text) 38)) := (Below.refl _ w).alloc (Nat.le_refl _) _
  by_cases n1 : n < 0
  · rw [if_pos (.inl n1)]
    go_enter Tryd.func32, Tryd.ntmps32
    go_wp2
    go_ret
    exact ⟨rfl, hB⟩
  by_cases n2 : 4 < n
  · rw [if_pos (.inr n2)]
    go_enter Tryd.func32, Tryd.ntmps32
    go_wp2
    go_ret
    exact ⟨rfl, hB⟩
  · rw [if_neg (by omega)]
    go_enter Tryd.func32, Tryd.ntmps32
    go_wp2
    go_ret
    exact ⟨rfl, hB⟩
set_option maxRecDepth 100000 in
theorem ws32_7 (n : Int) (key text : ByteArray) (w : World) :
    Calls Tryd.prog 32 #[sivV 7 n key text] w fun e w' => e = .returned (.int .i64 (wsP 7 n key text)) ∧ Below w.heap.size w w' := by
  have hv : wsP 7 n key text = if n < 0 ∨ 7 < n then 3 else 0 := rfl
  rw [hv]
  clear hv
  have hB : Below w.heap.size w (w.alloc (.cells (sivC 7 n key text) 38)) := (Below.refl _ w).alloc (Nat.le_refl _) _
  by_cases n1 : n < 0
  · rw [if_pos (.inl n1)]
    go_enter Tryd.func32, Tryd.ntmps32
    go_wp2
    go_ret
    exact ⟨rfl, hB⟩
  by_cases n2 : 7 < n
  · rw [if_pos (.inr n2)]
    go_enter Tryd.func32, Tryd.ntmps32
    go_wp2
    go_ret
    exact ⟨rfl, hB⟩
  · rw [if_neg (by omega)]
    go_enter Tryd.func32, Tryd.ntmps32
    go_wp2
    go_ret
    exact ⟨rfl, hB⟩
set_option maxRecDepth 100000 in
theorem ws32_no (k n : Int) (key text : ByteArray) (h : k < 1 ∨ 7 < k) (w : World) :
    Calls Tryd.prog 32 #[sivV k n key text] w fun e w' => e = .returned (.int .i64 (wsP k n key text)) ∧ Below w.heap.size w w' := by
  have hv : wsP k n key text = 1 := by
    unfold wsP
    rw [if_neg (by omega), if_neg (by omega), if_neg (by omega), if_neg (by omega)]
  rw [hv]
  clear hv
  have hB : Below w.heap.size w (w.alloc (.cells (sivC k n key text) 38)) := (Below.refl _ w).alloc (Nat.le_refl _) _
  have g1 : (k == 1) = false := by simp; omega
  have g2 : (k == 2) = false := by simp; omega
  have g3 : (k == 3) = false := by simp; omega
  have g4 : (k == 4) = false := by simp; omega
  have g5 : (k == 5) = false := by simp; omega
  have g6 : (k == 6) = false := by simp; omega
  have g7 : (k == 7) = false := by simp; omega
  clear h
  go_enter Tryd.func32, Tryd.ntmps32
  go_wp2
  go_ret
  exact ⟨rfl, hB⟩
theorem sieveWrong_any (k n : Int) (key text : ByteArray) (hk : key.size ≤ 140737488355328) (ht : text.size ≤ 140737488355328) (w : World) :
    Calls Tryd.prog 32 #[sivV k n key text] w fun e w' => e = .returned (.int .i64 (wsP k n key text)) ∧ Below w.heap.size w w' := by
  by_cases h : k < 1 ∨ 7 < k
  · exact ws32_no k n key text h w
  rcases (show k = 1 ∨ k = 2 ∨ k = 3 ∨ k = 4 ∨ k = 5 ∨ k = 6 ∨ k = 7 by omega) with rfl | rfl | rfl | rfl | rfl | rfl | rfl
  · exact ws32_1 n key text hk ht w
  · exact ws32_2 n key text hk ht w
  · exact ws32_3 n key text hk ht w
  · exact ws32_4 n key text w
  · exact ws32_5 n key text w
  · exact ws32_6 n key text w
  · exact ws32_7 n key text w
set_option maxRecDepth 100000 in
set_option maxHeartbeats 1000000 in
theorem ws33_1 (n : Int) (key text : ByteArray) (hk : key.size ≤ 140737488355328) (ht : text.size ≤ 140737488355328) (w : World) :
    Calls Tryd.prog 33 #[sivV 1 n key text] w fun e w' => e = .returned (.int .i64 (wsP 1 n key text)) ∧ Below w.heap.size w w' := by
  rw [ws_str (by omega)]
  obtain ⟨wz, hwz⟩ : ∃ W, W = w.alloc (.cells (sivC 1 n key text) 38) := ⟨_, rfl⟩
  have bb : Blk wz w.heap.size 38 (sivC 1 n key text) := by rw [hwz]; exact Blk.new _ _ _
  have hB : Below w.heap.size w wz := by rw [hwz]; exact (Below.refl _ w).alloc (Nat.le_refl _) _
  have hK := refkey_any key hk wz
  have hW := refline_any text ht
  obtain ⟨q1, hq1⟩ : ∃ q, q = keyP key := ⟨_, rfl⟩
  obtain ⟨q2, hq2⟩ : ∃ q, q = lineP text := ⟨_, rfl⟩
  rw [← hq1] at hK
  rw [← hq2] at hW
  rw [← hq1, ← hq2]
  have HW := Lib.hid hW
  clear hW hq1 hq2
  go_enter Tryd.func33, Tryd.ntmps33
  go_wp2_with (go_at_call 43; refine Hid.out ?_)
  rw [← hwz]
  unfold Hid
  refine hK.mono ?_
  rintro e w1 ⟨rfl, hb⟩
  have bb := bb.below hb bb.lt
  have hB := hB.trans (hb.mono hB.size)
  have ⟨k0, k1, k2, k3⟩ := bb.c4
  have bl := bb.lt
  clear hK hwz hb
  cases q1
  · clear HW
    go_wp2
    go_ret
    exact ⟨rfl, hB⟩
  · go_wp2_with (go_at_call 61; refine Hid.out ?_)
    unfold Hid
    refine (HW.out w1).mono ?_
    rintro e w3 ⟨rfl, rfl⟩
    clear HW
    cases q2
    · go_wp2
      go_ret
      exact ⟨rfl, hB⟩
    · go_wp2
      go_ret
      exact ⟨rfl, hB⟩
set_option maxRecDepth 100000 in
set_option maxHeartbeats 1000000 in
theorem ws33_2 (n : Int) (key text : ByteArray) (hk : key.size ≤ 140737488355328) (ht : text.size ≤ 140737488355328) (w : World) :
    Calls Tryd.prog 33 #[sivV 2 n key text] w fun e w' => e = .returned (.int .i64 (wsP 2 n key text)) ∧ Below w.heap.size w w' := by
  rw [ws_str (by omega)]
  obtain ⟨wz, hwz⟩ : ∃ W, W = w.alloc (.cells (sivC 2 n key text) 38) := ⟨_, rfl⟩
  have bb : Blk wz w.heap.size 38 (sivC 2 n key text) := by rw [hwz]; exact Blk.new _ _ _
  have hB : Below w.heap.size w wz := by rw [hwz]; exact (Below.refl _ w).alloc (Nat.le_refl _) _
  have hK := refkey_any key hk wz
  have hW := refline_any text ht
  obtain ⟨q1, hq1⟩ : ∃ q, q = keyP key := ⟨_, rfl⟩
  obtain ⟨q2, hq2⟩ : ∃ q, q = lineP text := ⟨_, rfl⟩
  rw [← hq1] at hK
  rw [← hq2] at hW
  rw [← hq1, ← hq2]
  have HW := Lib.hid hW
  clear hW hq1 hq2
  go_enter Tryd.func33, Tryd.ntmps33
  go_wp2_with (go_at_call 43; refine Hid.out ?_)
  rw [← hwz]
  unfold Hid
  refine hK.mono ?_
  rintro e w1 ⟨rfl, hb⟩
  have bb := bb.below hb bb.lt
  have hB := hB.trans (hb.mono hB.size)
  have ⟨k0, k1, k2, k3⟩ := bb.c4
  have bl := bb.lt
  clear hK hwz hb
  cases q1
  · clear HW
    go_wp2
    go_ret
    exact ⟨rfl, hB⟩
  · go_wp2_with (go_at_call 61; refine Hid.out ?_)
    unfold Hid
    refine (HW.out w1).mono ?_
    rintro e w3 ⟨rfl, rfl⟩
    clear HW
    cases q2
    · go_wp2
      go_ret
      exact ⟨rfl, hB⟩
    · go_wp2
      go_ret
      exact ⟨rfl, hB⟩
set_option maxRecDepth 100000 in
set_option maxHeartbeats 1000000 in
theorem ws33_3 (n : Int) (key text : ByteArray) (hk : key.size ≤ 140737488355328) (ht : text.size ≤ 140737488355328) (w : World) :
    Calls Tryd.prog 33 #[sivV 3 n key text] w fun e w' => e = .returned (.int .i64 (wsP 3 n key text)) ∧ Below w.heap.size w w' := by
  rw [ws_str (by omega)]
  obtain ⟨wz, hwz⟩ : ∃ W, W = w.alloc (.cells (sivC 3 n key text) 38) := ⟨_, rfl⟩
  have bb : Blk wz w.heap.size 38 (sivC 3 n key text) := by rw [hwz]; exact Blk.new _ _ _
  have hB : Below w.heap.size w wz := by rw [hwz]; exact (Below.refl _ w).alloc (Nat.le_refl _) _
  have hK := refkey_any key hk wz
  have hW := refline_any text ht
  obtain ⟨q1, hq1⟩ : ∃ q, q = keyP key := ⟨_, rfl⟩
  obtain ⟨q2, hq2⟩ : ∃ q, q = lineP text := ⟨_, rfl⟩
  rw [← hq1] at hK
  rw [← hq2] at hW
  rw [← hq1, ← hq2]
  have HW := Lib.hid hW
  clear hW hq1 hq2
  go_enter Tryd.func33, Tryd.ntmps33
  go_wp2_with (go_at_call 43; refine Hid.out ?_)
  rw [← hwz]
  unfold Hid
  refine hK.mono ?_
  rintro e w1 ⟨rfl, hb⟩
  have bb := bb.below hb bb.lt
  have hB := hB.trans (hb.mono hB.size)
  have ⟨k0, k1, k2, k3⟩ := bb.c4
  have bl := bb.lt
  clear hK hwz hb
  cases q1
  · clear HW
    go_wp2
    go_ret
    exact ⟨rfl, hB⟩
  · go_wp2_with (go_at_call 61; refine Hid.out ?_)
    unfold Hid
    refine (HW.out w1).mono ?_
    rintro e w3 ⟨rfl, rfl⟩
    clear HW
    cases q2
    · go_wp2
      go_ret
      exact ⟨rfl, hB⟩
    · go_wp2
      go_ret
      exact ⟨rfl, hB⟩
set_option maxRecDepth 100000 in
theorem ws33_4 (n : Int) (key text : ByteArray) (w : World) :
    Calls Tryd.prog 33 #[sivV 4 n key text] w fun e w' => e = .returned (.int .i64 (wsP 4 n key text)) ∧ Below w.heap.size w w' := by
  have hv : wsP 4 n key text = if n < 0 ∨ 40 < n then 3 else 0 := rfl
  rw [hv]
  clear hv
  have hB : Below w.heap.size w (w.alloc (.cells (sivC 4 n key text) 38)) := (Below.refl _ w).alloc (Nat.le_refl _) _
  by_cases n1 : n < 0
  · rw [if_pos (.inl n1)]
    go_enter Tryd.func33, Tryd.ntmps33
    go_wp2
    go_ret
    exact ⟨rfl, hB⟩
  by_cases n2 : 40 < n
  · rw [if_pos (.inr n2)]
    go_enter Tryd.func33, Tryd.ntmps33
    go_wp2
    go_ret
    exact ⟨rfl, hB⟩
  · rw [if_neg (by omega)]
    go_enter Tryd.func33, Tryd.ntmps33
    go_wp2
    go_ret
    exact ⟨rfl, hB⟩
set_option maxRecDepth 100000 in
theorem ws33_5 (n : Int) (key text : ByteArray) (w : World) :
    Calls Tryd.prog 33 #[sivV 5 n key text] w fun e w' => e = .returned (.int .i64 (wsP 5 n key text)) ∧ Below w.heap.size w w' := by
  have hv : wsP 5 n key text = if n < 0 ∨ 4 < n then 3 else 0 := rfl
  rw [hv]
  clear hv
  have hB : Below w.heap.size w (w.alloc (.cells (sivC 5 n key text) 38)) := (Below.refl _ w).alloc (Nat.le_refl _) _
  by_cases n1 : n < 0
  · rw [if_pos (.inl n1)]
    go_enter Tryd.func33, Tryd.ntmps33
    go_wp2
    go_ret
    exact ⟨rfl, hB⟩
  by_cases n2 : 4 < n
  · rw [if_pos (.inr n2)]
    go_enter Tryd.func33, Tryd.ntmps33
    go_wp2
    go_ret
    exact ⟨rfl, hB⟩
  · rw [if_neg (by omega)]
    go_enter Tryd.func33, Tryd.ntmps33
    go_wp2
    go_ret
    exact ⟨rfl, hB⟩
set_option maxRecDepth 100000 in
theorem ws33_6 (n : Int) (key text : ByteArray) (w : World) :
    Calls Tryd.prog 33 #[sivV 6 n key text] w fun e w' => e = .returned (.int .i64 (wsP 6 n key text)) ∧ Below w.heap.size w w' := by
  have hv : wsP 6 n key text = if n < 0 ∨ 4 < n then 3 else 0 := rfl
  rw [hv]
  clear hv
  have hB : Below w.heap.size w (w.alloc (.cells (sivC 6 n key text) 38)) := (Below.refl _ w).alloc (Nat.le_refl _) _
  by_cases n1 : n < 0
  · rw [if_pos (.inl n1)]
    go_enter Tryd.func33, Tryd.ntmps33
    go_wp2
    go_ret
    exact ⟨rfl, hB⟩
  by_cases n2 : 4 < n
  · rw [if_pos (.inr n2)]
    go_enter Tryd.func33, Tryd.ntmps33
    go_wp2
    go_ret
    exact ⟨rfl, hB⟩
  · rw [if_neg (by omega)]
    go_enter Tryd.func33, Tryd.ntmps33
    go_wp2
    go_ret
    exact ⟨rfl, hB⟩
set_option maxRecDepth 100000 in
theorem ws33_7 (n : Int) (key text : ByteArray) (w : World) :
    Calls Tryd.prog 33 #[sivV 7 n key text] w fun e w' => e = .returned (.int .i64 (wsP 7 n key text)) ∧ Below w.heap.size w w' := by
  have hv : wsP 7 n key text = if n < 0 ∨ 7 < n then 3 else 0 := rfl
  rw [hv]
  clear hv
  have hB : Below w.heap.size w (w.alloc (.cells (sivC 7 n key text) 38)) := (Below.refl _ w).alloc (Nat.le_refl _) _
  by_cases n1 : n < 0
  · rw [if_pos (.inl n1)]
    go_enter Tryd.func33, Tryd.ntmps33
    go_wp2
    go_ret
    exact ⟨rfl, hB⟩
  by_cases n2 : 7 < n
  · rw [if_pos (.inr n2)]
    go_enter Tryd.func33, Tryd.ntmps33
    go_wp2
    go_ret
    exact ⟨rfl, hB⟩
  · rw [if_neg (by omega)]
    go_enter Tryd.func33, Tryd.ntmps33
    go_wp2
    go_ret
    exact ⟨rfl, hB⟩
set_option maxRecDepth 100000 in
theorem ws33_no (k n : Int) (key text : ByteArray) (h : k < 1 ∨ 7 < k) (w : World) :
    Calls Tryd.prog 33 #[sivV k n key text] w fun e w' => e = .returned (.int .i64 (wsP k n key text)) ∧ Below w.heap.size w w' := by
  have hv : wsP k n key text = 1 := by
    unfold wsP
    rw [if_neg (by omega), if_neg (by omega), if_neg (by omega), if_neg (by omega)]
  rw [hv]
  clear hv
  have hB : Below w.heap.size w (w.alloc (.cells (sivC k n key text) 38)) := (Below.refl _ w).alloc (Nat.le_refl _) _
  have g1 : (k == 1) = false := by simp; omega
  have g2 : (k == 2) = false := by simp; omega
  have g3 : (k == 3) = false := by simp; omega
  have g4 : (k == 4) = false := by simp; omega
  have g5 : (k == 5) = false := by simp; omega
  have g6 : (k == 6) = false := by simp; omega
  have g7 : (k == 7) = false := by simp; omega
  clear h
  go_enter Tryd.func33, Tryd.ntmps33
  go_wp2
  go_ret
  exact ⟨rfl, hB⟩
theorem refWrongSieve_any (k n : Int) (key text : ByteArray) (hk : key.size ≤ 140737488355328) (ht : text.size ≤ 140737488355328) (w : World) :
    Calls Tryd.prog 33 #[sivV k n key text] w fun e w' => e = .returned (.int .i64 (wsP k n key text)) ∧ Below w.heap.size w w' := by
  by_cases h : k < 1 ∨ 7 < k
  · exact ws33_no k n key text h w
  rcases (show k = 1 ∨ k = 2 ∨ k = 3 ∨ k = 4 ∨ k = 5 ∨ k = 6 ∨ k = 7 by omega) with rfl | rfl | rfl | rfl | rfl | rfl | rfl
  · exact ws33_1 n key text hk ht w
  · exact ws33_2 n key text hk ht w
  · exact ws33_3 n key text hk ht w
  · exact ws33_4 n key text w
  · exact ws33_5 n key text w
  · exact ws33_6 n key text w
  · exact ws33_7 n key text w
end Go.Proofs.YtmcjgfoaiannoabDoor
