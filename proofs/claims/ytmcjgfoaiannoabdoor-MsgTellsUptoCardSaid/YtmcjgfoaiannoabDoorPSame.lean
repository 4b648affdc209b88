/-
  Messages compared by the program: msg.Same, slices.Equal of heads and of bytes. Condition: what the messages hold can be read.
-/
import Derived.Test.YtmcjgfoaiannoabDoorMGet
import Derived.Deep.DeepCutAuto
namespace Go.Proofs.YtmcjgfoaiannoabDoor
open Go.RowKit Go.Lib

theorem eqY_step {l m : List UInt8} {j : Nat} {x y : UInt8} (hx : l[j]? = some x) (hy : m[j]? = some y) : decide (l.drop j = m.drop j) = (decide (x = y) && decide (l.drop (j + 1) = m.drop (j + 1))) := by
  obtain ⟨hlt, rfl⟩ := List.getElem?_eq_some_iff.1 hx
  obtain ⟨hlt', rfl⟩ := List.getElem?_eq_some_iff.1 hy
  rw [List.drop_eq_getElem_cons hlt, List.drop_eq_getElem_cons hlt', Bool.eq_iff_iff]
  simp only [Bool.and_eq_true, decide_eq_true_eq, List.cons.injEq]
theorem eqY_end {l m : List UInt8} {j : Nat} (h : l.length ≤ j) (h' : m.length ≤ j) : decide (l.drop j = m.drop j) = true := by
  rw [List.drop_of_length_le h, List.drop_of_length_le h']
  rfl
theorem eqY_len {l m : List UInt8} (h : l.length ≠ m.length) : decide (l = m) = false := decide_eq_false fun e => h (by rw [e])
set_option maxRecDepth 100000 in
set_option maxHeartbeats 2000000 in
theorem equalH_any (A A' : Option Addr) (c c' : Nat) (l l' : List Hd) (w : World) (hr : Rd 2 encHd w w.heap.size A l) (hr' : Rd 2 encHd w w.heap.size A' l') (hl : l.length ≤ 140737488355328) :
    Calls Tryd.prog 71 #[.slice A l.length c, .slice A' l'.length c'] w fun e w' => e = .returned (.bool (eqHs l l')) ∧ Below w.heap.size w w' := by
  obtain ⟨rv, hrv⟩ : ∃ v, v = eqHs l l' := ⟨_, rfl⟩
  rw [← hrv]
  have HR := Lib.hid hrv
  clear hrv
  by_cases h4 : l.length ≠ l'.length
  · have HV : Hid (rv = false) := Lib.hid (by rw [HR.out, eqHs_len h4])
    have g1 : ((l.length : Int) == (l'.length : Int)) = false := by simp; omega
    have g2 : ((l.length : Int) != (l'.length : Int)) = true := by simp; omega
    clear HR h4
    go_enter Tryd.func71, Tryd.ntmps71
    go_wp2
    go_ret
    exact ⟨ret_bool HV.out.symm, Below.refl _ _⟩
  have h4 := Decidable.not_not.1 h4
  have HH : Hid (rv = eqHs (l.drop 0) (l'.drop 0)) := Lib.hid HR.out
  have g1 : ((l.length : Int) == (l'.length : Int)) = true := by simp; omega
  have g2 : ((l.length : Int) != (l'.length : Int)) = false := by simp; omega
  have H4 := Lib.hid h4
  clear HR h4
  go_enter Tryd.func71, Tryd.ntmps71
  go_wp2
  clear g1 g2
  go_loopw [13] (fun i wr => ∃ k : Nat, k ≤ l.length ∧ i = .int .i64 k ∧ Hid (rv = eqHs (l.drop k) (l'.drop k)) ∧ Below w.heap.size w wr)
    (fun i _ => l.length - (intOf i).toNat)
  case atStart => exact ⟨0, Nat.zero_le _, rfl, HH, Below.refl _ _⟩
  case round =>
    clear HH
    obtain ⟨k, hk, rfl, HA, hB⟩ := hrel
    by_cases hlt : k < l.length
    · have hlt' : k < l'.length := by have := H4.out; omega
      obtain ⟨b, off, x, rfl, hbB, hx, d0, d1⟩ := (hr.below hB).atH hlt
      obtain ⟨b', off', x', rfl, hbB', hx', e0, e1⟩ := (hr'.below hB).atH hlt'
      have hst := HA.out.trans (eqHs_step hx hx')
      have hk0 : (0 : Int) ≤ (k : Int) := by omega
      have hk1 : (k : Int) < (l.length : Int) := by omega
      have hk2 : (k : Int) < (l'.length : Int) := by omega
      clear hx hx' HA
      by_cases p1 : x.key = x'.key
      · have g1 := str_yes p1
        by_cases p2 : x.text = x'.text
        · have g2 := str_yes p2
          have HA : Hid (rv = eqHs (l.drop (k + 1)) (l'.drop (k + 1))) := Lib.hid (by rw [hst, decide_eq_true p1, decide_eq_true p2]; rfl)
          clear hst p1 p2
          go_wp2_with fail
          go_quiet (fail)
          go_wp2
          go_roundw
          case rel => exact ⟨k + 1, by omega, by go_num, HA, below_drewN hB _⟩
          case measure => simp [intOf]; omega
        · have g2 := str_no p2
          have HV : Hid (rv = false) := Lib.hid (by rw [hst, decide_eq_false p2]; simp)
          clear hst p1 p2
          go_wp2_with fail
          go_quiet (fail)
          go_wp2
          go_ret
          exact ⟨ret_bool HV.out.symm, below_drewN hB _⟩
      · have g1 := str_no p1
        have HV : Hid (rv = false) := Lib.hid (by rw [hst, decide_eq_false p1]; simp)
        clear hst p1
        go_wp2_with fail
        go_quiet (fail)
        go_wp2
        go_ret
        exact ⟨ret_bool HV.out.symm, below_drewN hB _⟩
    · have HV : Hid (rv = true) := Lib.hid (by rw [HA.out, eqHs_end (by omega) (by have := H4.out; omega)])
      have hle : l.length ≤ k := by omega
      clear HA
      go_wp2
      go_ret
      exact ⟨ret_bool HV.out.symm, hB⟩
set_option maxRecDepth 100000 in
set_option maxHeartbeats 2000000 in
theorem equalY_any (A A' : Option Addr) (c c' : Nat) (l l' : List UInt8) (w : World) (hr : Rd 1 encY w w.heap.size A l) (hr' : Rd 1 encY w w.heap.size A' l') (hl : l.length ≤ 140737488355328) :
    Calls Tryd.prog 72 #[.slice A l.length c, .slice A' l'.length c'] w fun e w' => e = .returned (.bool (decide (l = l'))) ∧ Below w.heap.size w w' := by
  obtain ⟨rv, hrv⟩ : ∃ v, v = decide (l = l') := ⟨_, rfl⟩
  rw [← hrv]
  have HR := Lib.hid hrv
  clear hrv
  by_cases h4 : l.length ≠ l'.length
  · have HV : Hid (rv = false) := Lib.hid (by rw [HR.out, eqY_len h4])
    have g1 : ((l.length : Int) == (l'.length : Int)) = false := by simp; omega
    have g2 : ((l.length : Int) != (l'.length : Int)) = true := by simp; omega
    clear HR h4
    go_enter Tryd.func72, Tryd.ntmps72
    go_wp2
    go_ret
    exact ⟨ret_bool HV.out.symm, Below.refl _ _⟩
  have h4 := Decidable.not_not.1 h4
  have HH : Hid (rv = decide ((l.drop 0) = (l'.drop 0))) := Lib.hid HR.out
  have g1 : ((l.length : Int) == (l'.length : Int)) = true := by simp; omega
  have g2 : ((l.length : Int) != (l'.length : Int)) = false := by simp; omega
  have H4 := Lib.hid h4
  clear HR h4
  go_enter Tryd.func72, Tryd.ntmps72
  go_wp2
  clear g1 g2
  go_loopw [13] (fun i wr => ∃ k : Nat, k ≤ l.length ∧ i = .int .i64 k ∧ Hid (rv = decide ((l.drop k) = (l'.drop k))) ∧ Below w.heap.size w wr)
    (fun i _ => l.length - (intOf i).toNat)
  case atStart => exact ⟨0, Nat.zero_le _, rfl, HH, Below.refl _ _⟩
  case round =>
    clear HH
    obtain ⟨k, hk, rfl, HA, hB⟩ := hrel
    by_cases hlt : k < l.length
    · have hlt' : k < l'.length := by have := H4.out; omega
      obtain ⟨b, off, x, rfl, hbB, hx, d0⟩ := (hr.below hB).atY hlt
      obtain ⟨b', off', x', rfl, hbB', hx', e0⟩ := (hr'.below hB).atY hlt'
      have hst := HA.out.trans (eqY_step hx hx')
      have hk0 : (0 : Int) ≤ (k : Int) := by omega
      have hk1 : (k : Int) < (l.length : Int) := by omega
      have hk2 : (k : Int) < (l'.length : Int) := by omega
      clear hx hx' HA
      by_cases p1 : x = x'
      · have g1 : (((x.toNat : Nat) : Int) == ((x'.toNat : Nat) : Int)) = true := by rw [p1]; simp
        have HA : Hid (rv = decide (l.drop (k + 1) = l'.drop (k + 1))) := Lib.hid (by rw [hst, decide_eq_true p1]; rfl)
        clear hst p1
        go_wp2_with fail
        go_quiet (fail)
        go_wp2
        go_roundw
        case rel => exact ⟨k + 1, by omega, by go_num, HA, below_drewN hB _⟩
        case measure => simp [intOf]; omega
      · have g0 : ¬ x.toNat = x'.toNat := fun h => p1 (UInt8.toNat_inj.1 h)
        have g1 : (((x.toNat : Nat) : Int) == ((x'.toNat : Nat) : Int)) = false := by
          rw [beq_eq_false_iff_ne]
          omega
        have HV : Hid (rv = false) := Lib.hid (by rw [hst, decide_eq_false p1]; rfl)
        clear hst p1
        go_wp2_with fail
        go_quiet (fail)
        go_wp2
        go_ret
        exact ⟨ret_bool HV.out.symm, below_drewN hB _⟩
    · have HV : Hid (rv = true) := Lib.hid (by rw [HA.out, eqY_end (by omega) (by have := H4.out; omega)])
      have hle : l.length ≤ k := by omega
      clear HA
      go_wp2
      go_ret
      exact ⟨ret_bool HV.out.symm, hB⟩
set_option maxRecDepth 100000 in
set_option maxHeartbeats 4000000 in
theorem same47_any (st : Int) (path : ByteArray) (A AB : Option Addr) (l : List Hd) (c cb : Nat) (bd : List UInt8) (st' : Int) (path' : ByteArray) (A' AB' : Option Addr) (l' : List Hd) (c' cb' : Nat) (bd' : List UInt8) (w : World)
    (hr : Rd 2 encHd w w.heap.size A l) (hy : Rd 1 encY w w.heap.size AB bd) (hr' : Rd 2 encHd w w.heap.size A' l') (hy' : Rd 1 encY w w.heap.size AB' bd') (hl : l.length ≤ 140737488355328) (hb : bd.length ≤ 140737488355328) :
    Calls Tryd.prog 47 #[msgV st path A l.length c AB bd.length cb, msgV st' path' A' l'.length c' AB' bd'.length cb'] w fun e w' => e = .returned (.bool (sameP st path l bd st' path' l' bd')) ∧ Below w.heap.size w w' := by
  obtain ⟨rv, hrv⟩ : ∃ v, v = sameP st path l bd st' path' l' bd' := ⟨_, rfl⟩
  rw [← hrv]
  have HR := Lib.hid hrv
  clear hrv
  unfold sameP at HR
  obtain ⟨W, hW⟩ : ∃ W, W = (w.alloc (.cells (msgC st path A l.length c AB bd.length cb) 32)).alloc (.cells (msgC st' path' A' l'.length c' AB' bd'.length cb') 32) := ⟨_, rfl⟩
  have hB : Below w.heap.size w W := by rw [hW]; exact ((Below.refl _ w).alloc (Nat.le_refl _) _).alloc (by simp) _
  have b1 : Blk W w.heap.size 32 (msgC st path A l.length c AB bd.length cb) := by rw [hW]; exact (Blk.new _ _ _).alloc _
  have b2 : Blk W (w.heap.size + 1) 32 (msgC st' path' A' l'.length c' AB' bd'.length cb') := by rw [hW]; exact Blk.new' _ _ (by simp) _ _
  have hE1 := equalH_any A A' c c' l l' W ((hr.below hB).more hB.size) ((hr'.below hB).more hB.size) hl
  have hE2 := fun w1 (h : Below w.heap.size w w1) => equalY_any AB AB' cb cb' bd bd' w1 ((hy.below h).more h.size) ((hy'.below h).more h.size) hb
  obtain ⟨q1, hq1⟩ : ∃ q, q = eqHs l l' := ⟨_, rfl⟩
  obtain ⟨q2, hq2⟩ : ∃ q, q = decide (bd = bd') := ⟨_, rfl⟩
  rw [← hq1] at hE1
  simp only [← hq2] at hE2
  rw [← hq1, ← hq2] at HR
  clear hq1 hq2
  have HE2 := Lib.hid hE2
  clear hE2
  obtain ⟨z0, z1, z2, z3⟩ := b2.c4
  obtain ⟨k0, k1, k2, k3⟩ := b1.c4
  have l1 := b1.lt
  have l2 := b2.lt
  by_cases h1 : st ≠ st'
  · have HV : Hid (rv = false) := Lib.hid (by rw [HR.out, decide_eq_false h1]; rfl)
    have g1 : (st == st') = false := by simpa using h1
    clear HR h1 hE1 HE2
    go_enter Tryd.func47, Tryd.ntmps47
    go_upto_region 1 with fail
    rw [← hW]
    clear hW
    go_wp2
    go_ret
    exact ⟨ret_bool HV.out.symm, hB⟩
  have h1 := Decidable.not_not.1 h1
  subst h1
  by_cases h2 : path ≠ path'
  · have HV : Hid (rv = false) := Lib.hid (by rw [HR.out, decide_eq_false h2]; simp)
    have g1 := str_no h2
    clear HR h2 hE1 HE2
    go_enter Tryd.func47, Tryd.ntmps47
    go_upto_region 1 with fail
    rw [← hW]
    clear hW
    go_wp2
    go_ret
    exact ⟨ret_bool HV.out.symm, hB⟩
  have h2 := Decidable.not_not.1 h2
  subst h2
  have g3 := str_yes (rfl : path = path)
  have HV : Hid (rv = (q1 && q2)) := Lib.hid (by rw [HR.out]; simp)
  clear HR
  go_enter Tryd.func47, Tryd.ntmps47
  go_upto_region 1 with fail
  rw [← hW]
  clear hW
  go_wp2_with (go_at_call 71; refine Hid.out ?_)
  unfold Hid
  refine hE1.mono ?_
  rintro e w1 ⟨rfl, hb1⟩
  have b1 := b1.below hb1 l1
  have b2 := b2.below hb1 l2
  have hB := hB.trans (hb1.mono hB.size)
  clear hE1 z0 z1 z2 z3 k0 k1 k2 k3 l1 l2
  obtain ⟨z0, z1, z2, z3⟩ := b2.c4
  obtain ⟨k0, k1, k2, k3⟩ := b1.c4
  have l1 := b1.lt
  have l2 := b2.lt
  cases q1
  · clear HE2
    go_wp2
    go_ret
    exact ⟨ret_bool (by rw [HV.out]; rfl), hB⟩
  · go_wp2_with (go_at_call 72; refine Hid.out ?_)
    unfold Hid
    refine (HE2.out _ hB).mono ?_
    rintro e w2 ⟨rfl, hb2⟩
    have hB := hB.trans (hb2.mono hB.size)
    clear HE2
    go_wp2
    go_ret
    exact ⟨ret_bool (by rw [HV.out]; rfl), hB⟩
end Go.Proofs.YtmcjgfoaiannoabDoor
