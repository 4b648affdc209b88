/-
  A fault's text, of the program and of the reference: one text. Condition: the length bound that the reach pays.
-/
import Derived.Test.YtmcjgfoaiannoabDoorFItoa
import Derived.Deep.RegionHeld3
import Derived.Deep.DeepCutAuto
namespace Go.Proofs.YtmcjgfoaiannoabDoor
open Go.RowKit

/-- a fault's text -/
def t1P (k fi ca : Int) : ByteArray := if 0 ≤ fi then nameP k ++ (((⟨#[32, 97, 116, 32]⟩ ++ itoaB fi) ++ ⟨#[46]⟩) ++ itoaB ca) else nameP k
def t2P (k fi ca n : Int) : ByteArray := if n = 0 then t1P k fi ca else t1P k fi ca ++ ((⟨#[32, 40]⟩ ++ nameP n) ++ ⟨#[41]⟩)
def textP (k fi ca : Int) (t : ByteArray) (n : Int) : ByteArray := if t = ⟨#[]⟩ then t2P k fi ca n else t2P k fi ca n ++ (⟨#[58, 32]⟩ ++ t)
theorem below_undrew' {w w' : World} (h : Below w.drew.heap.size w.drew w') : Below w.heap.size w w' := ⟨h.os, h.tape, h.output, h.size, h.block⟩
theorem str_ne {t : ByteArray} (h : t ≠ ⟨#[]⟩) : (t == ⟨#[]⟩) = false := by
  cases hq : (t == ⟨#[]⟩)
  · rfl
  · exfalso
    apply h
    cases t with | mk d =>
    have : (d == #[]) = true := hq
    simpa using this
theorem str_ne' {t : ByteArray} (h : t ≠ ⟨#[]⟩) : (t != ⟨#[]⟩) = true := by
  unfold bne
  rw [str_ne h]
  rfl
theorem str_some {t : ByteArray} (h : 0 < t.size) : t.toList.isEmpty = false := by
  rw [ByteArray.toList_eq]
  cases hd : t.data.toList with
  | nil =>
    have : t.data.toList.length = 0 := by rw [hd]; rfl
    rw [Array.length_toList] at this
    exfalso
    have h2 : t.data.size = t.size := rfl
    omega
  | cons => rfl
theorem cat_run (a b : ByteArray) (h : a.size + b.size ≤ 9223372036854775807) (w : World) : (Op.stringOp .add a b).run Tryd.prog w = .ok (.string (a ++ b)) w := run_string_add_sum w a b h
theorem size_pos {t : ByteArray} (h : t ≠ ⟨#[]⟩) : 0 < t.size := by
  rcases Nat.eq_zero_or_pos t.size with h0 | h0
  · exfalso
    apply h
    have : t.data = #[] := Array.size_eq_zero_iff.1 h0
    cases t
    simp_all
  · exact h0
set_option maxRecDepth 100000 in
set_option maxHeartbeats 4000000 in
theorem text_any (k fi ca : Int) (t : ByteArray) (n : Int) (hwf : (Lit.int .i64 fi).wf = true) (hwc : (Lit.int .i64 ca).wf = true) (ht : t.size ≤ 140737488355328) (w : World) (hp : pow w) :
    Calls Tryd.prog 15 #[fltV k fi ca t n] w fun e w' => e = .returned (.string (textP k fi ca t n)) ∧ Below w.heap.size w w' := by
  have hks := nameP_size k
  have hns := nameP_size n
  have his := itoaB_size hwf
  have hcs := itoaB_size hwc
  have z1 : ByteArray.size ⟨#[32, 97, 116, 32]⟩ = 4 := rfl
  have z2 : ByteArray.size ⟨#[46]⟩ = 1 := rfl
  have z3 : ByteArray.size ⟨#[32, 40]⟩ = 2 := rfl
  have z4 : ByteArray.size ⟨#[41]⟩ = 1 := rfl
  have z5 : ByteArray.size ⟨#[58, 32]⟩ = 2 := rfl
  have hsa : ∀ a b : ByteArray, (a ++ b).size = a.size + b.size := fun a b => ByteArray.size_append
  go_enter Tryd.func15, Tryd.ntmps15
  obtain ⟨W, hW⟩ : ∃ W, W = w.alloc (.cells (fltC k fi ca t n) 23) := ⟨_, rfl⟩
  have bb : Blk W w.heap.size 23 (fltC k fi ca t n) := by rw [hW]; exact Blk.new _ _ _
  have hB : Below w.heap.size w W := by rw [hW]; exact (Below.refl _ w).alloc (Nat.le_refl _) _
  have hp := pow_below hp hB
  go_wp2_with (go_at_call 58; refine Hid.out ?_)
  rw [← hW]
  unfold Hid
  refine (error_any k _).mono ?_
  rintro e w1 ⟨rfl, hb⟩
  clear hW
  have bb := bb.below hb bb.lt
  have hB := hB.trans (hb.mono hB.size)
  have hp := pow_below hp hb
  obtain ⟨q0, q1, q2, q3, q4⟩ := bb.c5
  have bl := bb.lt
  by_cases hf : 0 ≤ fi
  · have ht1 := show t1P k fi ca = _ from if_pos hf
    have cr0 := cat_run ⟨#[32, 97, 116, 32]⟩ (itoaB fi) (by (try simp only [hsa]); omega)
    have cr1 := cat_run (⟨#[32, 97, 116, 32]⟩ ++ itoaB fi) ⟨#[46]⟩ (by (try simp only [hsa]); omega)
    have cr2 := cat_run ((⟨#[32, 97, 116, 32]⟩ ++ itoaB fi) ++ ⟨#[46]⟩) (itoaB ca) (by (try simp only [hsa]); omega)
    have cr3 := cat_run (nameP k) (((⟨#[32, 97, 116, 32]⟩ ++ itoaB fi) ++ ⟨#[46]⟩) ++ itoaB ca) (by (try simp only [hsa]); omega)
    go_upto_region 3 with fail
    go_region_held3 (fun wx => wx.cell? ⟨w.heap.size, 1, none⟩ = some (.int .i64 fi) ∧ wx.cell? ⟨w.heap.size, 2, none⟩ = some (.int .i64 ca)) (exact ⟨q1, q2⟩)
      (first
      | (go_at_call 59
         with_reducible refine (itoa_any fi hwf _ ?_).mono ?_
         · exact hp
         rintro e w1 ⟨rfl, hb⟩
         repeat (have hb := below_undrew' hb)
         have bb := bb.below hb bb.lt
         have hB := hB.trans (hb.mono hB.size)
         have hp := pow_below hp hb
         obtain ⟨q0, q1, q2, q3, q4⟩ := bb.c5
         have bl := bb.lt)
      | (go_at_call 59
         with_reducible refine (itoa_any ca hwc _ ?_).mono ?_
         · exact hp
         rintro e w1 ⟨rfl, hb⟩
         repeat (have hb := below_undrew' hb)
         have bb := bb.below hb bb.lt
         have hB := hB.trans (hb.mono hB.size)
         have hp := pow_below hp hb
         obtain ⟨q0, q1, q2, q3, q4⟩ := bb.c5
         have bl := bb.lt))
    all_goals
      by_cases hn : n = 0
      · subst hn
        by_cases he : t = ⟨#[]⟩
        · subst he
          go_wp2
          go_ret
          exact ⟨by first | (simp [textP, t2P, ht1]; done) | simp [textP, t2P, ht1, ByteArray.append_assoc], hB⟩
        · have he1 := str_ne he
          have he2 := str_ne' he
          have he3 := size_pos he
          have he6 := str_some he3
          have he4 : decide (0 < t.size) = true := decide_eq_true he3
          have he5 : decide ((0 : Int) < (t.size : Int)) = true := decide_eq_true (by omega)
          go_wp2
          go_ret
          exact ⟨by first | (simp [textP, t2P, ht1, he]; done) | simp [textP, t2P, ht1, he, ByteArray.append_assoc], hB⟩
      · have hn1 : (n == 0) = false := by simpa using hn
        have hn2 : (n != 0) = true := by simpa using hn
        by_cases he : t = ⟨#[]⟩
        · subst he
          go_wp2_with (go_at_call 58; refine Hid.out ?_)
          unfold Hid
          refine (error_any n _).mono ?_
          rintro e w2 ⟨rfl, hb⟩
          have bb := bb.below hb bb.lt
          have hB := hB.trans (hb.mono hB.size)
          obtain ⟨q0, q1, q2, q3, q4⟩ := bb.c5
          go_wp2
          go_ret
          exact ⟨by first | (simp [textP, t2P, ht1, hn]; done) | simp [textP, t2P, ht1, hn, ByteArray.append_assoc], hB⟩
        · have he1 := str_ne he
          have he2 := str_ne' he
          have he3 := size_pos he
          have he6 := str_some he3
          have he4 : decide (0 < t.size) = true := decide_eq_true he3
          have he5 : decide ((0 : Int) < (t.size : Int)) = true := decide_eq_true (by omega)
          go_wp2_with (go_at_call 58; refine Hid.out ?_)
          unfold Hid
          refine (error_any n _).mono ?_
          rintro e w2 ⟨rfl, hb⟩
          have bb := bb.below hb bb.lt
          have hB := hB.trans (hb.mono hB.size)
          obtain ⟨q0, q1, q2, q3, q4⟩ := bb.c5
          go_wp2
          go_ret
          exact ⟨by first | (simp [textP, t2P, ht1, hn, he]; done) | simp [textP, t2P, ht1, hn, he, ByteArray.append_assoc], hB⟩
  · have ht1 := show t1P k fi ca = _ from if_neg hf
    by_cases hn : n = 0
    · subst hn
      by_cases he : t = ⟨#[]⟩
      · subst he
        go_wp2
        go_ret
        exact ⟨by first | (simp [textP, t2P, ht1]; done) | simp [textP, t2P, ht1, ByteArray.append_assoc], hB⟩
      · have he1 := str_ne he
        have he2 := str_ne' he
        have he3 := size_pos he
        have he6 := str_some he3
        have he4 : decide (0 < t.size) = true := decide_eq_true he3
        have he5 : decide ((0 : Int) < (t.size : Int)) = true := decide_eq_true (by omega)
        go_wp2
        go_ret
        exact ⟨by first | (simp [textP, t2P, ht1, he]; done) | simp [textP, t2P, ht1, he, ByteArray.append_assoc], hB⟩
    · have hn1 : (n == 0) = false := by simpa using hn
      have hn2 : (n != 0) = true := by simpa using hn
      by_cases he : t = ⟨#[]⟩
      · subst he
        go_wp2_with (go_at_call 58; refine Hid.out ?_)
        unfold Hid
        refine (error_any n _).mono ?_
        rintro e w2 ⟨rfl, hb⟩
        have bb := bb.below hb bb.lt
        have hB := hB.trans (hb.mono hB.size)
        obtain ⟨q0, q1, q2, q3, q4⟩ := bb.c5
        go_wp2
        go_ret
        exact ⟨by first | (simp [textP, t2P, ht1, hn]; done) | simp [textP, t2P, ht1, hn, ByteArray.append_assoc], hB⟩
      · have he1 := str_ne he
        have he2 := str_ne' he
        have he3 := size_pos he
        have he6 := str_some he3
        have he4 : decide (0 < t.size) = true := decide_eq_true he3
        have he5 : decide ((0 : Int) < (t.size : Int)) = true := decide_eq_true (by omega)
        go_wp2_with (go_at_call 58; refine Hid.out ?_)
        unfold Hid
        refine (error_any n _).mono ?_
        rintro e w2 ⟨rfl, hb⟩
        have bb := bb.below hb bb.lt
        have hB := hB.trans (hb.mono hB.size)
        obtain ⟨q0, q1, q2, q3, q4⟩ := bb.c5
        go_wp2
        go_ret
        exact ⟨by first | (simp [textP, t2P, ht1, hn, he]; done) | simp [textP, t2P, ht1, hn, he, ByteArray.append_assoc], hB⟩
set_option maxRecDepth 100000 in
set_option maxHeartbeats 4000000 in
theorem reftext_any (k fi ca : Int) (t : ByteArray) (n : Int) (hwk : (Lit.int .i64 k).wf = true) (hwf : (Lit.int .i64 fi).wf = true) (hwc : (Lit.int .i64 ca).wf = true) (hwn : (Lit.int .i64 n).wf = true) (ht : t.size ≤ 140737488355328) (w : World) (hp : pow w) :
    Calls Tryd.prog 16 #[fltV k fi ca t n] w fun e w' => e = .returned (.string (textP k fi ca t n)) ∧ Below w.heap.size w w' := by
  have hks := nameP_size k
  have hns := nameP_size n
  have his := itoaB_size hwf
  have hcs := itoaB_size hwc
  have z1 : ByteArray.size ⟨#[32, 97, 116, 32]⟩ = 4 := rfl
  have z2 : ByteArray.size ⟨#[46]⟩ = 1 := rfl
  have z3 : ByteArray.size ⟨#[32, 40]⟩ = 2 := rfl
  have z4 : ByteArray.size ⟨#[41]⟩ = 1 := rfl
  have z5 : ByteArray.size ⟨#[58, 32]⟩ = 2 := rfl
  have hsa : ∀ a b : ByteArray, (a ++ b).size = a.size + b.size := fun a b => ByteArray.size_append
  go_enter Tryd.func16, Tryd.ntmps16
  obtain ⟨W, hW⟩ : ∃ W, W = w.alloc (.cells (fltC k fi ca t n) 23) := ⟨_, rfl⟩
  have bb : Blk W w.heap.size 23 (fltC k fi ca t n) := by rw [hW]; exact Blk.new _ _ _
  have hB : Below w.heap.size w W := by rw [hW]; exact (Below.refl _ w).alloc (Nat.le_refl _) _
  have hp := pow_below hp hB
  go_wp2_with (go_at_call 60; refine Hid.out ?_)
  rw [← hW]
  unfold Hid
  refine (kind_any k (by assumption) _).mono ?_
  rintro e w1 ⟨rfl, hb⟩
  clear hW
  have bb := bb.below hb bb.lt
  have hB := hB.trans (hb.mono hB.size)
  have hp := pow_below hp hb
  obtain ⟨q0, q1, q2, q3, q4⟩ := bb.c5
  have bl := bb.lt
  by_cases hf : 0 ≤ fi
  · have ht1 := show t1P k fi ca = _ from if_pos hf
    have cr0 := cat_run (nameP k) ⟨#[32, 97, 116, 32]⟩ (by (try simp only [hsa]); omega)
    have cr1 := cat_run (nameP k ++ ⟨#[32, 97, 116, 32]⟩) (itoaB fi) (by (try simp only [hsa]); omega)
    have cr2 := cat_run ((nameP k ++ ⟨#[32, 97, 116, 32]⟩) ++ itoaB fi) ⟨#[46]⟩ (by (try simp only [hsa]); omega)
    have cr3 := cat_run (((nameP k ++ ⟨#[32, 97, 116, 32]⟩) ++ itoaB fi) ++ ⟨#[46]⟩) (itoaB ca) (by (try simp only [hsa]); omega)
    go_upto_region 3 with fail
    go_region_held3 (fun wx => wx.cell? ⟨w.heap.size, 1, none⟩ = some (.int .i64 fi) ∧ wx.cell? ⟨w.heap.size, 2, none⟩ = some (.int .i64 ca)) (exact ⟨q1, q2⟩)
      (first
      | (go_at_call 59
         with_reducible refine (itoa_any fi hwf _ ?_).mono ?_
         · exact hp
         rintro e w1 ⟨rfl, hb⟩
         repeat (have hb := below_undrew' hb)
         have bb := bb.below hb bb.lt
         have hB := hB.trans (hb.mono hB.size)
         have hp := pow_below hp hb
         obtain ⟨q0, q1, q2, q3, q4⟩ := bb.c5
         have bl := bb.lt)
      | (go_at_call 59
         with_reducible refine (itoa_any ca hwc _ ?_).mono ?_
         · exact hp
         rintro e w1 ⟨rfl, hb⟩
         repeat (have hb := below_undrew' hb)
         have bb := bb.below hb bb.lt
         have hB := hB.trans (hb.mono hB.size)
         have hp := pow_below hp hb
         obtain ⟨q0, q1, q2, q3, q4⟩ := bb.c5
         have bl := bb.lt))
    all_goals
      by_cases hn : n = 0
      · subst hn
        by_cases he : t = ⟨#[]⟩
        · subst he
          go_wp2
          go_ret
          exact ⟨by first | (simp [textP, t2P, ht1]; done) | simp [textP, t2P, ht1, ByteArray.append_assoc], hB⟩
        · have he1 := str_ne he
          have he2 := str_ne' he
          have he3 := size_pos he
          have he6 := str_some he3
          have he4 : decide (0 < t.size) = true := decide_eq_true he3
          have he5 : decide ((0 : Int) < (t.size : Int)) = true := decide_eq_true (by omega)
          go_wp2
          go_ret
          exact ⟨by first | (simp [textP, t2P, ht1, he]; done) | simp [textP, t2P, ht1, he, ByteArray.append_assoc], hB⟩
      · have hn1 : (n == 0) = false := by simpa using hn
        have hn2 : (n != 0) = true := by simpa using hn
        by_cases he : t = ⟨#[]⟩
        · subst he
          go_wp2_with (go_at_call 60; refine Hid.out ?_)
          unfold Hid
          refine (kind_any n (by assumption) _).mono ?_
          rintro e w2 ⟨rfl, hb⟩
          have bb := bb.below hb bb.lt
          have hB := hB.trans (hb.mono hB.size)
          obtain ⟨q0, q1, q2, q3, q4⟩ := bb.c5
          go_wp2
          go_ret
          exact ⟨by first | (simp [textP, t2P, ht1, hn]; done) | simp [textP, t2P, ht1, hn, ByteArray.append_assoc], hB⟩
        · have he1 := str_ne he
          have he2 := str_ne' he
          have he3 := size_pos he
          have he6 := str_some he3
          have he4 : decide (0 < t.size) = true := decide_eq_true he3
          have he5 : decide ((0 : Int) < (t.size : Int)) = true := decide_eq_true (by omega)
          go_wp2_with (go_at_call 60; refine Hid.out ?_)
          unfold Hid
          refine (kind_any n (by assumption) _).mono ?_
          rintro e w2 ⟨rfl, hb⟩
          have bb := bb.below hb bb.lt
          have hB := hB.trans (hb.mono hB.size)
          obtain ⟨q0, q1, q2, q3, q4⟩ := bb.c5
          go_wp2
          go_ret
          exact ⟨by first | (simp [textP, t2P, ht1, hn, he]; done) | simp [textP, t2P, ht1, hn, he, ByteArray.append_assoc], hB⟩
  · have ht1 := show t1P k fi ca = _ from if_neg hf
    by_cases hn : n = 0
    · subst hn
      by_cases he : t = ⟨#[]⟩
      · subst he
        go_wp2
        go_ret
        exact ⟨by first | (simp [textP, t2P, ht1]; done) | simp [textP, t2P, ht1, ByteArray.append_assoc], hB⟩
      · have he1 := str_ne he
        have he2 := str_ne' he
        have he3 := size_pos he
        have he6 := str_some he3
        have he4 : decide (0 < t.size) = true := decide_eq_true he3
        have he5 : decide ((0 : Int) < (t.size : Int)) = true := decide_eq_true (by omega)
        go_wp2
        go_ret
        exact ⟨by first | (simp [textP, t2P, ht1, he]; done) | simp [textP, t2P, ht1, he, ByteArray.append_assoc], hB⟩
    · have hn1 : (n == 0) = false := by simpa using hn
      have hn2 : (n != 0) = true := by simpa using hn
      by_cases he : t = ⟨#[]⟩
      · subst he
        go_wp2_with (go_at_call 60; refine Hid.out ?_)
        unfold Hid
        refine (kind_any n (by assumption) _).mono ?_
        rintro e w2 ⟨rfl, hb⟩
        have bb := bb.below hb bb.lt
        have hB := hB.trans (hb.mono hB.size)
        obtain ⟨q0, q1, q2, q3, q4⟩ := bb.c5
        go_wp2
        go_ret
        exact ⟨by first | (simp [textP, t2P, ht1, hn]; done) | simp [textP, t2P, ht1, hn, ByteArray.append_assoc], hB⟩
      · have he1 := str_ne he
        have he2 := str_ne' he
        have he3 := size_pos he
        have he6 := str_some he3
        have he4 : decide (0 < t.size) = true := decide_eq_true he3
        have he5 : decide ((0 : Int) < (t.size : Int)) = true := decide_eq_true (by omega)
        go_wp2_with (go_at_call 60; refine Hid.out ?_)
        unfold Hid
        refine (kind_any n (by assumption) _).mono ?_
        rintro e w2 ⟨rfl, hb⟩
        have bb := bb.below hb bb.lt
        have hB := hB.trans (hb.mono hB.size)
        obtain ⟨q0, q1, q2, q3, q4⟩ := bb.c5
        go_wp2
        go_ret
        exact ⟨by first | (simp [textP, t2P, ht1, hn, he]; done) | simp [textP, t2P, ht1, hn, he, ByteArray.append_assoc], hB⟩
end Go.Proofs.YtmcjgfoaiannoabDoor
