/-
  The walk of FaultWraps: it answers true. Condition: the length bound that the reach pays.
-/
import Derived.Test.YtmcjgfoaiannoabDoorFW
namespace Go.Proofs.YtmcjgfoaiannoabDoor
open Go.RowKit

theorem itoaB_2 : itoaB 2 = ⟨#[50]⟩ := by
  unfold itoaB Lib.itoa
  rw [if_neg (by decide), Lib.decDigits]
  rfl
theorem itoaB_1 : itoaB 1 = ⟨#[49]⟩ := by
  unfold itoaB Lib.itoa
  rw [if_neg (by decide), Lib.decDigits]
  rfl
theorem text_alive : textP 2 2 1 ⟨#[120]⟩ 1 = ⟨#[112, 97, 110, 105, 99, 32, 97, 116, 32, 50, 46, 49, 32, 40, 102, 97, 105, 108, 41, 58, 32, 120]⟩ := by
  unfold textP t2P t1P
  rw [itoaB_2, itoaB_1]
  kernel_rfl
theorem field_body (st : Int) (g n c : Nat) (w : World) : (Instr.field 32 (sayV st g n c) 3).run Tryd.prog w = .ok (.slice (some ⟨g, 0, none⟩) n c) w := by kernel_rfl
set_option maxRecDepth 100000 in
set_option maxHeartbeats 4000000 in
theorem faultAlive (w : World) (hp : pow w) : Calls Tryd.prog 23 #[] w fun e w' => e = .returned (.bool true) ∧ Below w.heap.size w w' := by
  have HT := text_any 2 2 1 ⟨#[120]⟩ 1 (by decide) (by decide) (by decide)
  rw [text_alive] at HT
  have HI := fun kd wz => is_any 2 2 1 ⟨#[120]⟩ 1 kd wz
  have HI1 := HI 1
  have HI2 := HI 2
  have HI4 := HI 4
  rw [show (decide ((2 : Int) = 1) || (decide ((1 : Int) ≠ 0) && decide ((1 : Int) = 1))) = true by decide] at HI1
  rw [show (decide ((2 : Int) = 2) || (decide ((1 : Int) ≠ 0) && decide ((1 : Int) = 2))) = true by decide] at HI2
  rw [show (decide ((2 : Int) = 4) || (decide ((1 : Int) ≠ 0) && decide ((1 : Int) = 4))) = false by decide] at HI4
  have HS := status_any 2 2 1 ⟨#[120]⟩ 1
  rw [show statP 2 = 500 by decide] at HS
  have HA := told_any 2 2 1 ⟨#[120]⟩ 1
  simp only [show statP 2 = 500 by decide, show nameP 2 = ⟨#[112, 97, 110, 105, 99]⟩ by rfl] at HA
  have HN := new_any 4
  clear HI
  have HT := Lib.hid HT
  have HI1 := Lib.hid HI1
  have HI2 := Lib.hid HI2
  have HI4 := Lib.hid HI4
  have HS := Lib.hid HS
  have HA := Lib.hid HA
  have HN := Lib.hid HN
  go_enter Tryd.func23, Tryd.ntmps23
  obtain ⟨W, hW⟩ : ∃ W, W = w.alloc (.cells (fltC 2 2 1 ⟨#[120]⟩ 1) 23) := ⟨_, rfl⟩
  have bb : Blk W w.heap.size 23 (fltC 2 2 1 ⟨#[120]⟩ 1) := by rw [hW]; exact Blk.new _ _ _
  have hB : Below w.heap.size w W := by rw [hW]; exact (Below.refl _ w).alloc (Nat.le_refl _) _
  have hp := pow_below hp hB
  obtain ⟨q0, q1, q2, q3, q4⟩ := bb.c5
  have bl := bb.lt
  go_upto_region 2 with fail
  rw [← hW]
  clear hW
  go_wp2_with (first | (go_at_call 15; refine Hid.out ?_) | go_in)
  unfold Hid
  refine (HT.out _ hp).mono ?_
  rintro e w1 ⟨rfl, hb⟩
  have bb := bb.below hb bb.lt
  have hB := hB.trans (hb.mono hB.size)
  have hp := pow_below hp hb
  obtain ⟨q0, q1, q2, q3, q4⟩ := bb.c5
  have bl := bb.lt
  go_wp2_with (first | (go_at_call 13; refine Hid.out ?_) | go_in)
  unfold Hid
  refine (HI1.out _).mono ?_
  rintro e w1 ⟨rfl, hb⟩
  have bb := bb.below hb bb.lt
  have hB := hB.trans (hb.mono hB.size)
  have hp := pow_below hp hb
  obtain ⟨q0, q1, q2, q3, q4⟩ := bb.c5
  have bl := bb.lt
  go_wp2_with (first | (go_at_call 13; refine Hid.out ?_) | go_in)
  unfold Hid
  refine (HI2.out _).mono ?_
  rintro e w1 ⟨rfl, hb⟩
  have bb := bb.below hb bb.lt
  have hB := hB.trans (hb.mono hB.size)
  have hp := pow_below hp hb
  obtain ⟨q0, q1, q2, q3, q4⟩ := bb.c5
  have bl := bb.lt
  go_wp2_with (first | (go_at_call 13; refine Hid.out ?_) | go_in)
  unfold Hid
  refine (HI4.out _).mono ?_
  rintro e w1 ⟨rfl, hb⟩
  have bb := bb.below hb bb.lt
  have hB := hB.trans (hb.mono hB.size)
  have hp := pow_below hp hb
  obtain ⟨q0, q1, q2, q3, q4⟩ := bb.c5
  have bl := bb.lt
  go_wp2_with (first | (go_at_call 18; refine Hid.out ?_) | go_in)
  unfold Hid
  refine (HS.out _).mono ?_
  rintro e w1 ⟨rfl, hb⟩
  have bb := bb.below hb bb.lt
  have hB := hB.trans (hb.mono hB.size)
  have hp := pow_below hp hb
  obtain ⟨q0, q1, q2, q3, q4⟩ := bb.c5
  have bl := bb.lt
  go_wp2_with (first | (go_at_call 21; refine Hid.out ?_) | go_in)
  unfold Hid
  refine (HA.out _).mono ?_
  rintro e w1 ⟨g1, c1, rfl, y1, hb⟩
  have bb := bb.below hb bb.lt
  have hB := hB.trans (hb.mono hB.size)
  have hp := pow_below hp hb
  obtain ⟨q0, q1, q2, q3, q4⟩ := bb.c5
  have bl := bb.lt
  have hcv : (convert 30 9 (.slice (some ⟨g1, 0, none⟩) 5 c1)).run Tryd.prog w1 = .ok (.string ⟨#[112, 97, 110, 105, 99]⟩) w1 := y1.conv
  have hfld := field_body 500 g1 5 c1
  go_wp2_with (first | (go_at_call 17; refine Hid.out ?_) | go_in)
  unfold Hid
  refine (HN.out _).mono ?_
  rintro e w1 ⟨rfl, hb⟩
  have bb := bb.below hb bb.lt
  have hB := hB.trans (hb.mono hB.size)
  have hp := pow_below hp hb
  obtain ⟨q0, q1, q2, q3, q4⟩ := bb.c5
  have bl := bb.lt
  go_wp2
  go_ret
  exact ⟨by simp, hB⟩
set_option maxRecDepth 100000 in
set_option maxHeartbeats 2000000 in
theorem wrong_say (st : Int) (g n c : Nat) (h1 : 400 ≤ st) (h2 : st ≤ 599) (hn : n ≤ 40) (w : World) :
    Calls Tryd.prog 24 #[sayV st g n c] w fun e w' => e = .returned (.int .i64 0) ∧ Below w.heap.size w w' := by
  have hmm := @run_makeMap Tryd.prog
  have e0 : (st == 0) = false := by simp; omega
  have e1 : (st != 0) = true := by simp; omega
  have hB : Below w.heap.size w ((w.alloc (.cells (sayC st g n c) 32)).alloc (.map #[] 0)) := ((Below.refl _ w).alloc (Nat.le_refl _) _).alloc (by simp) _
  go_enter Tryd.func24, Tryd.ntmps24
  go_wp2
  refine wp_loop_rounds 1 ?_
  rw [rounds_succ]
  go_wp2
  go_ret
  exact ⟨rfl, hB⟩
theorem statP_le (k : Int) : 400 ≤ statP k ∧ statP k ≤ 599 := by
  unfold statP
  repeat' split
  all_goals omega
set_option maxRecDepth 100000 in
set_option maxHeartbeats 8000000 in
theorem faultWraps_walk (k fi ca : Int) (t : ByteArray) (n kind : Int) (_hwk : (Lit.int .i64 k).wf = true) (_hwf : (Lit.int .i64 fi).wf = true) (_hwc : (Lit.int .i64 ca).wf = true) (_hwn : (Lit.int .i64 n).wf = true) (_ht : t.size ≤ 140737488355328) (w : World) (hp : pow w) :
    Calls Tryd.prog 4 #[fltV k fi ca t n, .int .i64 kind] w fun e w' => e = .returned (.bool true) ∧ Below w.heap.size w w' := by
  obtain ⟨s1, s2⟩ := statP_le k
  have s3 := nameP_size k
  have HI := is_any k fi ca t n
  have HA := told_any k fi ca t n
  obtain ⟨st, hst⟩ : ∃ st, st = statP k := ⟨_, rfl⟩
  obtain ⟨nm, hnm⟩ : ∃ nm, nm = nameP k := ⟨_, rfl⟩
  simp only [← hst, ← hnm] at HA s1 s2 s3
  clear hst hnm _hwk _hwf _hwc _hwn _ht
  have HA := Lib.hid HA
  have HAL := Lib.hid faultAlive
  have HK := HI k
  rw [show (decide (k = k) || (decide (n ≠ 0) && decide (n = k))) = true by simp] at HK
  have HK := Lib.hid HK
  have HQ := Lib.hid (HI kind)
  have HM : n ≠ 0 → ∀ wz : World, Calls Tryd.prog 13 #[fltV k fi ca t n, .int .i64 n] wz fun e w' => e = .returned (.bool true) ∧ Below wz.heap.size wz w' := fun hn wz => by
    have h := HI n wz
    rw [show (decide (k = n) || (decide (n ≠ 0) && decide (n = n))) = true by simp [hn]] at h
    exact h
  have HM := Lib.hid HM
  clear HI
  go_enter Tryd.func4, Tryd.ntmps4
  obtain ⟨W, hW⟩ : ∃ W, W = w.alloc (.cells (fltC k fi ca t n) 23) := ⟨_, rfl⟩
  have bb : Blk W w.heap.size 23 (fltC k fi ca t n) := by rw [hW]; exact Blk.new _ _ _
  have hB : Below w.heap.size w W := by rw [hW]; exact (Below.refl _ w).alloc (Nat.le_refl _) _
  have hp := pow_below hp hB
  obtain ⟨q0, q1, q2, q3, q4⟩ := bb.c5
  have bl := bb.lt
  go_upto_region 1 with fail
  rw [← hW]
  clear hW
  go_wp2_with (first | (go_at_call 23; refine Hid.out ?_) | go_in)
  unfold Hid
  refine (HAL.out _ hp).mono ?_
  rintro e w1 ⟨rfl, hb⟩
  have bb := bb.below hb bb.lt
  have hB := hB.trans (hb.mono hB.size)
  have hp := pow_below hp hb
  obtain ⟨q0, q1, q2, q3, q4⟩ := bb.c5
  have bl := bb.lt
  by_cases A1 : k < 1
  · go_wp2
    go_ret
    exact ⟨rfl, hB⟩
  by_cases A2 : 7 < k
  · go_wp2
    go_ret
    exact ⟨rfl, hB⟩
  go_wp2_with (first | (go_at_call 21; refine Hid.out ?_) | go_in)
  unfold Hid
  refine (HA.out _).mono ?_
  rintro e w1 ⟨g1, c1, rfl, y1, hb⟩
  have bb := bb.below hb bb.lt
  have hB := hB.trans (hb.mono hB.size)
  have hp := pow_below hp hb
  obtain ⟨q0, q1, q2, q3, q4⟩ := bb.c5
  have bl := bb.lt
  have HWR := Lib.hid (wrong_say st g1 nm.size c1 s1 s2 (by omega))
  have b2 : Blk (w1.alloc (.cells (sayC st g1 nm.size c1) 32)) w1.heap.size 32 (sayC st g1 nm.size c1) := Blk.new _ _ _
  have bb := bb.alloc (.cells (sayC st g1 nm.size c1) 32)
  have hB := hB.alloc hB.size (.cells (sayC st g1 nm.size c1) 32)
  have hp := pow_below hp ((Below.refl _ w1).alloc (Nat.le_refl _) (.cells (sayC st g1 nm.size c1) 32))
  obtain ⟨W2, hW2⟩ : ∃ W2, W2 = w1.alloc (.cells (sayC st g1 nm.size c1) 32) := ⟨_, rfl⟩
  obtain ⟨g2, hg2⟩ : ∃ g, g = w1.heap.size := ⟨_, rfl⟩
  go_upto_region 6 with fail
  rw [← hW2] at bb hB hp b2 ⊢
  rw [← hg2] at b2 ⊢
  clear hW2 hg2 y1 q0 q1 q2 q3 q4
  obtain ⟨q0, q1, q2, q3, q4⟩ := bb.c5
  have bl := bb.lt
  obtain ⟨z0, z1, z2, z3⟩ := b2.c4
  have b2l := b2.lt
  go_wp2_with (first | (go_at_call 13; refine Hid.out ?_) | go_in)
  unfold Hid
  refine (HK.out _).mono ?_
  rintro e w1 ⟨rfl, hb⟩
  have bb := bb.below hb bb.lt
  have hB := hB.trans (hb.mono hB.size)
  have hp := pow_below hp hb
  obtain ⟨q0, q1, q2, q3, q4⟩ := bb.c5
  have bl := bb.lt
  have b2 := b2.below hb b2.lt
  obtain ⟨z0, z1, z2, z3⟩ := b2.c4
  have b2l := b2.lt
  by_cases hn : n = 0
  · subst hn
    go_wp2_with (first | (go_at_call 24; refine Hid.out ?_) | go_in)
    unfold Hid
    refine (HWR.out _).mono ?_
    rintro e w1 ⟨rfl, hb⟩
    have bb := bb.below hb bb.lt
    have hB := hB.trans (hb.mono hB.size)
    have hp := pow_below hp hb
    obtain ⟨q0, q1, q2, q3, q4⟩ := bb.c5
    have bl := bb.lt
    have b2 := b2.below hb b2.lt
    obtain ⟨z0, z1, z2, z3⟩ := b2.c4
    have b2l := b2.lt
    by_cases K1 : kind = k
    · subst K1
      go_wp2
      go_ret
      exact ⟨by simp, hB⟩
    have K2 : (kind == k) = false := by simpa using K1
    by_cases K3 : kind = 0
    · subst K3
      go_wp2
      go_ret
      exact ⟨by simp, hB⟩
    have K4 : (kind == 0) = false := by simpa using K3
    have HQ := HQ.out
    rw [show (decide (k = kind) || (decide ((0 : Int) ≠ 0) && decide ((0 : Int) = kind))) = false by simp; exact fun h => K1 h.symm] at HQ
    have HQ := Lib.hid HQ
    go_wp2_with (first | (go_at_call 13; refine Hid.out ?_) | go_in)
    unfold Hid
    refine (HQ.out _).mono ?_
    rintro e w1 ⟨rfl, hb⟩
    have bb := bb.below hb bb.lt
    have hB := hB.trans (hb.mono hB.size)
    have hp := pow_below hp hb
    obtain ⟨q0, q1, q2, q3, q4⟩ := bb.c5
    have bl := bb.lt
    have b2 := b2.below hb b2.lt
    obtain ⟨z0, z1, z2, z3⟩ := b2.c4
    have b2l := b2.lt
    go_wp2
    go_ret
    exact ⟨by simp, hB⟩
  have hn1 : (n == 0) = false := by simpa using hn
  have hn2 : (n != 0) = true := by simpa using hn
  have HM := Lib.hid (HM.out hn)
  go_wp2_with (first | (go_at_call 13; refine Hid.out ?_) | go_in)
  unfold Hid
  refine (HM.out _).mono ?_
  rintro e w1 ⟨rfl, hb⟩
  have bb := bb.below hb bb.lt
  have hB := hB.trans (hb.mono hB.size)
  have hp := pow_below hp hb
  obtain ⟨q0, q1, q2, q3, q4⟩ := bb.c5
  have bl := bb.lt
  have b2 := b2.below hb b2.lt
  obtain ⟨z0, z1, z2, z3⟩ := b2.c4
  have b2l := b2.lt
  go_wp2_with (first | (go_at_call 24; refine Hid.out ?_) | go_in)
  unfold Hid
  refine (HWR.out _).mono ?_
  rintro e w1 ⟨rfl, hb⟩
  have bb := bb.below hb bb.lt
  have hB := hB.trans (hb.mono hB.size)
  have hp := pow_below hp hb
  obtain ⟨q0, q1, q2, q3, q4⟩ := bb.c5
  have bl := bb.lt
  have b2 := b2.below hb b2.lt
  obtain ⟨z0, z1, z2, z3⟩ := b2.c4
  have b2l := b2.lt
  by_cases K1 : kind = k
  · subst K1
    go_wp2
    go_ret
    exact ⟨by simp, hB⟩
  have K2 : (kind == k) = false := by simpa using K1
  by_cases K3 : kind = n
  · subst K3
    go_wp2
    go_ret
    exact ⟨by simp, hB⟩
  have K4 : (kind == n) = false := by simpa using K3
  have HQ := HQ.out
  rw [show (decide (k = kind) || (decide (n ≠ 0) && decide (n = kind))) = false by simp; exact ⟨fun h => K1 h.symm, fun _ h => K3 h.symm⟩] at HQ
  have HQ := Lib.hid HQ
  go_wp2_with (first | (go_at_call 13; refine Hid.out ?_) | go_in)
  unfold Hid
  refine (HQ.out _).mono ?_
  rintro e w1 ⟨rfl, hb⟩
  have bb := bb.below hb bb.lt
  have hB := hB.trans (hb.mono hB.size)
  have hp := pow_below hp hb
  obtain ⟨q0, q1, q2, q3, q4⟩ := bb.c5
  have bl := bb.lt
  have b2 := b2.below hb b2.lt
  obtain ⟨z0, z1, z2, z3⟩ := b2.c4
  have b2l := b2.lt
  go_wp2
  go_ret
  exact ⟨by simp, hB⟩
end Go.Proofs.YtmcjgfoaiannoabDoor
