/-
  Heads looked up and messages compared: msg.Get, msg.Same, and the reference's. Condition: what the messages hold can be read.
-/
import Derived.Test.YtmcjgfoaiannoabDoorMDat
import Derived.Laws.IdiomStrings
import Derived.Lib.BufferRead
import Derived.BigQuiet
import Derived.Deep.QuietTactic
namespace Go.Proofs.YtmcjgfoaiannoabDoor
open Go.RowKit Go.Lib

/-- the text of the first head that has the key, and whether there is one -/
def getP : List Hd → ByteArray → ByteArray × Bool
  | [], _ => (⟨#[]⟩, false)
  | x :: l, k => if x.key = k then (x.text, true) else getP l k
theorem get_yes {l : List Hd} {j : Nat} {x : Hd} {key : ByteArray} (hx : l[j]? = some x) (h : x.key = key) : getP (l.drop j) key = (x.text, true) := by
  obtain ⟨hlt, rfl⟩ := List.getElem?_eq_some_iff.1 hx
  rw [List.drop_eq_getElem_cons hlt]
  exact if_pos h
theorem get_no {l : List Hd} {j : Nat} {x : Hd} {key : ByteArray} (hx : l[j]? = some x) (h : x.key ≠ key) : getP (l.drop j) key = getP (l.drop (j + 1)) key := by
  obtain ⟨hlt, rfl⟩ := List.getElem?_eq_some_iff.1 hx
  rw [List.drop_eq_getElem_cons hlt]
  exact if_neg h
theorem get_end {l : List Hd} {j : Nat} {key : ByteArray} (h : l.length ≤ j) : getP (l.drop j) key = (⟨#[]⟩, false) := by
  rw [List.drop_of_length_le h]
  rfl
def gtup (r : ByteArray × Bool) : Value := .tuple #[.string r.1, .bool r.2]
theorem ret_gtup {a : ByteArray} {b : Bool} {r : ByteArray × Bool} (h : r = (a, b)) : Ending.returned (.tuple #[.string a, .bool b]) = .returned (gtup r) := by rw [h]; rfl
set_option maxRecDepth 100000 in
set_option maxHeartbeats 1000000 in
theorem get_any (st : Int) (path : ByteArray) (A AB : Option Addr) (l : List Hd) (c nb cb : Nat) (key : ByteArray) (w : World) (hr : Rd 2 encHd w w.heap.size A l) (hl : l.length ≤ 140737488355328) :
    Calls Tryd.prog 52 #[msgV st path A l.length c AB nb cb, .string key] w fun e w' => e = .returned (gtup (getP l key)) ∧ Below w.heap.size w w' := by
  obtain ⟨rv, hrv⟩ : ∃ v, v = getP l key := ⟨_, rfl⟩
  rw [← hrv]
  have HR : Hid (rv = getP (l.drop 0) key) := Lib.hid hrv
  clear hrv
  obtain ⟨wz, hwz⟩ : ∃ W, W = w.alloc (.cells (msgC st path A l.length c AB nb cb) 32) := ⟨_, rfl⟩
  have bb : Blk wz w.heap.size 32 (msgC st path A l.length c AB nb cb) := by rw [hwz]; exact Blk.new _ _ _
  have hB : Below w.heap.size w wz := by rw [hwz]; exact (Below.refl _ w).alloc (Nat.le_refl _) _
  have ⟨k0, k1, k2, k3⟩ := bb.c4
  have bl := bb.lt
  go_enter Tryd.func52, Tryd.ntmps52
  go_wp2
  rw [← hwz]
  clear hwz k0 k1 k2 k3 bl
  go_loopw [11] (fun i wr => ∃ k : Nat, k ≤ l.length ∧ i = .int .i64 k ∧ Hid (rv = getP (l.drop k) key) ∧ Below w.heap.size w wr ∧ Blk wr w.heap.size 32 (msgC st path A l.length c AB nb cb))
    (fun i _ => l.length - (intOf i).toNat)
  case atStart => exact ⟨0, Nat.zero_le _, rfl, HR, hB, bb⟩
  case round =>
    clear hB bb HR
    obtain ⟨k, hk, rfl, HA, hB, bb⟩ := hrel
    have ⟨k0, k1, k2, k3⟩ := bb.c4
    have bl := bb.lt
    by_cases hlt : k < l.length
    · obtain ⟨b, off, x, rfl, hbB, hx, d0, d1⟩ := (hr.below hB).atH hlt
      by_cases he : x.key = key
      · have HS : Hid (rv = (x.text, true)) := Lib.hid (HA.out.trans (get_yes hx he))
        have hq := str_yes he
        clear HA hx he
        go_wp2
        refine bodyPost_ret (v := .tuple #[.string x.text, .bool true]) (by simp only [results, Tryd.results52]; go_simp) rfl ⟨ret_gtup HS.out, ?_⟩
        exact hB.alloc hB.size _
      · have HS : Hid (rv = getP (l.drop (k + 1)) key) := Lib.hid (HA.out.trans (get_no hx he))
        have hq := str_no he
        clear HA hx he
        go_wp2
        go_roundw
        case rel => exact ⟨k + 1, by omega, by go_num, HS, hB.alloc hB.size _, bb.alloc _⟩
        case measure => simp [intOf]; omega
    · have HS : Hid (rv = (⟨#[]⟩, false)) := Lib.hid (HA.out.trans (get_end (by omega)))
      have hle : l.length ≤ k := by omega
      clear HA
      go_wp2
      refine bodyPost_ret (v := .tuple #[.string ⟨#[]⟩, .bool false]) (by simp only [results, Tryd.results52]; go_simp) rfl ⟨ret_gtup HS.out, ?_⟩
      exact hB
set_option maxRecDepth 100000 in
set_option maxHeartbeats 1000000 in
theorem refget_any (st : Int) (path : ByteArray) (A AB : Option Addr) (l : List Hd) (c nb cb : Nat) (key : ByteArray) (w : World) (hr : Rd 2 encHd w w.heap.size A l) (hl : l.length ≤ 140737488355328) :
    Calls Tryd.prog 53 #[msgV st path A l.length c AB nb cb, .string key] w fun e w' => e = .returned (gtup (getP l key)) ∧ Below w.heap.size w w' := by
  obtain ⟨rv, hrv⟩ : ∃ v, v = getP l key := ⟨_, rfl⟩
  rw [← hrv]
  have HR : Hid (rv = getP (l.drop 0) key) := Lib.hid hrv
  clear hrv
  obtain ⟨wz, hwz⟩ : ∃ W, W = w.alloc (.cells (msgC st path A l.length c AB nb cb) 32) := ⟨_, rfl⟩
  have bb : Blk wz w.heap.size 32 (msgC st path A l.length c AB nb cb) := by rw [hwz]; exact Blk.new _ _ _
  have hB : Below w.heap.size w wz := by rw [hwz]; exact (Below.refl _ w).alloc (Nat.le_refl _) _
  have ⟨k0, k1, k2, k3⟩ := bb.c4
  have bl := bb.lt
  go_enter Tryd.func53, Tryd.ntmps53
  go_wp2
  rw [← hwz]
  clear hwz k0 k1 k2 k3 bl
  go_loopw [10] (fun i wr => ∃ k : Nat, k ≤ l.length ∧ i = .int .i64 k ∧ Hid (rv = getP (l.drop k) key) ∧ Below w.heap.size w wr ∧ Blk wr w.heap.size 32 (msgC st path A l.length c AB nb cb))
    (fun i _ => l.length - (intOf i).toNat)
  case atStart => exact ⟨0, Nat.zero_le _, rfl, HR, hB, bb⟩
  case round =>
    clear hB bb HR
    obtain ⟨k, hk, rfl, HA, hB, bb⟩ := hrel
    have ⟨k0, k1, k2, k3⟩ := bb.c4
    have bl := bb.lt
    by_cases hlt : k < l.length
    · obtain ⟨b, off, x, rfl, hbB, hx, d0, d1⟩ := (hr.below hB).atH hlt
      by_cases he : x.key = key
      · have HS : Hid (rv = (x.text, true)) := Lib.hid (HA.out.trans (get_yes hx he))
        have hq := str_yes he
        clear HA hx he
        go_wp2
        refine bodyPost_ret (v := .tuple #[.string x.text, .bool true]) (by simp only [results, Tryd.results53]; go_simp) rfl ⟨ret_gtup HS.out, ?_⟩
        exact hB
      · have HS : Hid (rv = getP (l.drop (k + 1)) key) := Lib.hid (HA.out.trans (get_no hx he))
        have hq := str_no he
        clear HA hx he
        go_wp2
        go_roundw
        case rel => exact ⟨k + 1, by omega, by go_num, HS, hB, bb⟩
        case measure => simp [intOf]; omega
    · have HS : Hid (rv = (⟨#[]⟩, false)) := Lib.hid (HA.out.trans (get_end (by omega)))
      have hle : l.length ≤ k := by omega
      clear HA
      go_wp2
      refine bodyPost_ret (v := .tuple #[.string ⟨#[]⟩, .bool false]) (by simp only [results, Tryd.results53]; go_simp) rfl ⟨ret_gtup HS.out, ?_⟩
      exact hB
/-- the text of a body -/
theorem conv_any {w : World} {A : Option Addr} {bd : List UInt8} (h : Rd 1 encY w w.heap.size A bd) (c : Nat) : (convert 30 9 (.slice A bd.length c)).run Tryd.prog w = .ok (.string ⟨bd.toArray⟩) w := by
  rcases A with _ | ad
  · have hl : bd = [] := by
      rcases Nat.eq_zero_or_pos bd.length with h0 | h0
      · exact List.eq_nil_of_length_eq_zero h0
      · obtain ⟨b, off, e, _⟩ := h h0
        cases e
    subst hl
    exact run_convert_nil_bytes w 30 9 5 c Tryd.underlying30 Tryd.underlying5 Tryd.underlying9
  · exact run_convert_bytes_back (P := Tryd.prog) w 30 9 5 ad c bd Tryd.underlying30 Tryd.underlying5 Tryd.underlying9 (fun j hj => by
      obtain ⟨b, off, x, e, hb, hx, hc⟩ := h.atY hj
      cases e
      rw [add_plain', hc]
      rw [List.getElem?_eq_getElem hj] at hx
      cases hx
      rfl)
/-- whether heads are the same -/
def eqHs : List Hd → List Hd → Bool
  | [], [] => true
  | x :: l, y :: m => decide (x.key = y.key) && decide (x.text = y.text) && eqHs l m
  | _, _ => false
theorem eqHs_refl : ∀ l : List Hd, eqHs l l = true
  | [] => rfl
  | x :: l => by simp [eqHs, eqHs_refl l]
theorem eqHs_len : ∀ {l m : List Hd}, l.length ≠ m.length → eqHs l m = false
  | [], [], h => absurd rfl h
  | [], _ :: _, _ => rfl
  | _ :: _, [], _ => rfl
  | x :: l, y :: m, h => by
    have h' : l.length ≠ m.length := fun e => h (by simp [e])
    simp [eqHs, eqHs_len h']
theorem eqHs_step {l m : List Hd} {j : Nat} {x y : Hd} (hx : l[j]? = some x) (hy : m[j]? = some y) : eqHs (l.drop j) (m.drop j) = (decide (x.key = y.key) && decide (x.text = y.text) && eqHs (l.drop (j + 1)) (m.drop (j + 1))) := by
  obtain ⟨hlt, rfl⟩ := List.getElem?_eq_some_iff.1 hx
  obtain ⟨hlt', rfl⟩ := List.getElem?_eq_some_iff.1 hy
  rw [List.drop_eq_getElem_cons hlt, List.drop_eq_getElem_cons hlt']
  rfl
theorem eqHs_end {l m : List Hd} {j : Nat} (h : l.length ≤ j) (h' : m.length ≤ j) : eqHs (l.drop j) (m.drop j) = true := by
  rw [List.drop_of_length_le h, List.drop_of_length_le h']
  rfl
/-- whether messages are the same -/
def sameP (st : Int) (path : ByteArray) (l : List Hd) (bd : List UInt8) (st' : Int) (path' : ByteArray) (l' : List Hd) (bd' : List UInt8) : Bool :=
  decide (st = st') && decide (path = path') && eqHs l l' && decide (bd = bd')
theorem sameP_refl (st : Int) (path : ByteArray) (l : List Hd) (bd : List UInt8) : sameP st path l bd st path l bd = true := by simp [sameP, eqHs_refl]
theorem arr_inj {a b : List UInt8} : (⟨a.toArray⟩ : ByteArray) = ⟨b.toArray⟩ ↔ a = b := by simp
set_option maxRecDepth 100000 in
set_option maxHeartbeats 4000000 in
theorem sameR_any (st : Int) (path : ByteArray) (A AB : Option Addr) (l : List Hd) (c cb : Nat) (bd : List UInt8) (st' : Int) (path' : ByteArray) (A' AB' : Option Addr) (l' : List Hd) (c' cb' : Nat) (bd' : List UInt8) (w : World)
    (hr : Rd 2 encHd w w.heap.size A l) (hy : Rd 1 encY w w.heap.size AB bd) (hr' : Rd 2 encHd w w.heap.size A' l') (hy' : Rd 1 encY w w.heap.size AB' bd') (hl : l.length ≤ 140737488355328) :
    Calls Tryd.prog 20 #[msgV st path A l.length c AB bd.length cb, msgV st' path' A' l'.length c' AB' bd'.length cb'] w fun e w' => e = .returned (.bool (sameP st path l bd st' path' l' bd')) ∧ Below w.heap.size w w' := by
  obtain ⟨rv, hrv⟩ : ∃ v, v = sameP st path l bd st' path' l' bd' := ⟨_, rfl⟩
  rw [← hrv]
  have HR := Lib.hid hrv
  clear hrv
  unfold sameP at HR
  obtain ⟨W, hW⟩ : ∃ W, W = (w.alloc (.cells (msgC st path A l.length c AB bd.length cb) 32)).alloc (.cells (msgC st' path' A' l'.length c' AB' bd'.length cb') 32) := ⟨_, rfl⟩
  have hB : Below w.heap.size w W := by rw [hW]; exact ((Below.refl _ w).alloc (Nat.le_refl _) _).alloc (by simp) _
  have b1 : Blk W w.heap.size 32 (msgC st path A l.length c AB bd.length cb) := by rw [hW]; exact (Blk.new _ _ _).alloc _
  have b2 : Blk W (w.heap.size + 1) 32 (msgC st' path' A' l'.length c' AB' bd'.length cb') := by rw [hW]; exact Blk.new' _ _ (by simp) _ _
  have hc1 := conv_any ((hy.below hB).more hB.size) cb
  have hc2 := conv_any ((hy'.below hB).more hB.size) cb'
  obtain ⟨q0, q1, q2, q3⟩ := b1.c4
  obtain ⟨z0, z1, z2, z3⟩ := b2.c4
  by_cases h1 : st ≠ st'
  · have HV : Hid (rv = false) := Lib.hid (by rw [HR.out, decide_eq_false h1]; rfl)
    have g1 : (st == st') = false := by simpa using h1
    have g2 : (st != st') = true := by simpa using h1
    clear HR h1 hc1 hc2
    go_enter Tryd.func20, Tryd.ntmps20
    go_upto_region 1 with fail
    rw [← hW]
    clear hW
    go_wp2
    go_ret
    exact ⟨ret_bool HV.out.symm, hB⟩
  have h1 := Decidable.not_not.1 h1
  subst h1
  by_cases h2 : path ≠ path'
  · have HV : Hid (rv = false) := Lib.hid (by rw [HR.out, decide_eq_false h2]; simp)
    have g1 := str_no h2
    have g2 : (path.toList != path'.toList) = true := by rw [bne, g1]; rfl
    clear HR h2 hc1 hc2
    go_enter Tryd.func20, Tryd.ntmps20
    go_upto_region 1 with fail
    rw [← hW]
    clear hW
    go_wp2
    go_ret
    exact ⟨ret_bool HV.out.symm, hB⟩
  have h2 := Decidable.not_not.1 h2
  subst h2
  by_cases h3 : bd ≠ bd'
  · have HV : Hid (rv = false) := Lib.hid (by rw [HR.out, decide_eq_false h3]; simp)
    have g1 : (bd == bd') = false := by simpa using h3
    have g3 := str_yes (rfl : path = path)
    clear HR h3
    go_enter Tryd.func20, Tryd.ntmps20
    go_upto_region 1 with fail
    rw [← hW]
    clear hW
    go_wp2
    go_ret
    exact ⟨ret_bool HV.out.symm, hB⟩
  have h3 := Decidable.not_not.1 h3
  subst h3
  by_cases h4 : l.length ≠ l'.length
  · have HV : Hid (rv = false) := Lib.hid (by rw [HR.out, eqHs_len h4]; simp)
    have g1 : ((l.length : Int) == (l'.length : Int)) = false := by simp; omega
    have g2 : ((l.length : Int) != (l'.length : Int)) = true := by simp; omega
    have g3 := str_yes (rfl : path = path)
    have g4 : (bd == bd) = true := by simp
    clear HR h4
    go_enter Tryd.func20, Tryd.ntmps20
    go_upto_region 1 with fail
    rw [← hW]
    clear hW
    go_wp2
    go_ret
    exact ⟨ret_bool HV.out.symm, hB⟩
  have h4 := Decidable.not_not.1 h4
  have HH : Hid (rv = eqHs (l.drop 0) (l'.drop 0)) := Lib.hid (by rw [HR.out]; simp)
  have g3 := str_yes (rfl : path = path)
  have g4 : (bd == bd) = true := by simp
  have g1 : ((l.length : Int) == (l'.length : Int)) = true := by simp; omega
  have g2 : ((l.length : Int) != (l'.length : Int)) = false := by simp; omega
  have H4 := Lib.hid h4
  clear HR h4
  go_enter Tryd.func20, Tryd.ntmps20
  go_upto_region 1 with fail
  rw [← hW]
  clear hW
  go_wp2
  clear g1 g2 g3 g4 hc1 hc2 q0 q1 q2 q3 z0 z1 z2 z3
  go_loopw [39] (fun i wr => ∃ k : Nat, k ≤ l.length ∧ i = .int .i64 k ∧ Hid (rv = eqHs (l.drop k) (l'.drop k)) ∧ Below w.heap.size w wr ∧ Blk wr w.heap.size 32 (msgC st path A l.length c AB bd.length cb) ∧ Blk wr (w.heap.size + 1) 32 (msgC st path A' l'.length c' AB' bd.length cb'))
    (fun i _ => l.length - (intOf i).toNat)
  case atStart => exact ⟨0, Nat.zero_le _, rfl, HH, hB, b1, b2⟩
  case round =>
    clear hB b1 b2 HH
    obtain ⟨k, hk, rfl, HA, hB, b1, b2⟩ := hrel
    obtain ⟨q0, q1, q2, q3⟩ := b1.c4
    obtain ⟨z0, z1, z2, z3⟩ := b2.c4
    by_cases hlt : k < l.length
    · have hlt' : k < l'.length := by have := H4.out; omega
      obtain ⟨b, off, x, rfl, hbB, hx, d0, d1⟩ := (hr.below hB).atH hlt
      obtain ⟨b', off', x', rfl, hbB', hx', e0, e1⟩ := (hr'.below hB).atH hlt'
      have hst := HA.out.trans (eqHs_step hx hx')
      have hk0 : (0 : Int) ≤ (k : Int) := by omega
      have hk1 : (k : Int) < (l.length : Int) := by omega
      have hk2 : (k : Int) < (l'.length : Int) := by omega
      clear hx hx' HA
      by_cases p1 : x.key = x'.key
      · have g1 := str_yes p1
        by_cases p2 : x.text = x'.text
        · have g2 := str_yes p2
          have HA : Hid (rv = eqHs (l.drop (k + 1)) (l'.drop (k + 1))) := Lib.hid (by rw [hst, decide_eq_true p1, decide_eq_true p2]; rfl)
          clear hst p1 p2
          go_wp2_with fail
          go_quiet (fail)
          go_wp2
          go_roundw
          case rel => exact ⟨k + 1, by omega, by go_num, HA, below_drewN hB _, b1.drewN _, b2.drewN _⟩
          case measure => simp [intOf]; omega
        · have g2 := str_no p2
          have HV : Hid (rv = false) := Lib.hid (by rw [hst, decide_eq_false p2]; simp)
          clear hst p1 p2
          go_wp2_with fail
          go_quiet (fail)
          go_wp2
          go_ret
          exact ⟨ret_bool HV.out.symm, below_drewN hB _⟩
      · have g1 := str_no p1
        have HV : Hid (rv = false) := Lib.hid (by rw [hst, decide_eq_false p1]; simp)
        clear hst p1
        go_wp2_with fail
        go_quiet (fail)
        go_wp2
        go_ret
        exact ⟨ret_bool HV.out.symm, below_drewN hB _⟩
    · have HV : Hid (rv = true) := Lib.hid (by rw [HA.out, eqHs_end (by omega) (by have := H4.out; omega)])
      have hle : l.length ≤ k := by omega
      clear HA
      go_wp2
      go_ret
      exact ⟨ret_bool HV.out.symm, hB⟩
end Go.Proofs.YtmcjgfoaiannoabDoor
