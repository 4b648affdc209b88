/-
  Messages in memory; whether one of a list of heads has a key. Condition: the heads can be read.
-/
import Derived.Test.YtmcjgfoaiannoabDoorMPath
namespace Go.Proofs.YtmcjgfoaiannoabDoor
open Go.RowKit Go.Lib

structure Hd where
  key : ByteArray
  text : ByteArray
  hk : key.size ≤ 140737488355328
  ht : text.size ≤ 140737488355328
def encHd (x : Hd) : List Value := [.string x.key, .string x.text]
def encY (b : UInt8) : List Value := [.int .u8 (b.toNat : Int)]
/-- a message's cells -/
abbrev msgC (st : Int) (path : ByteArray) (A : Option Addr) (n c : Nat) (B : Option Addr) (m d : Nat) : Array Value := #[.int .i64 st, .string path, .slice A n c, .slice B m d]
abbrev msgV (st : Int) (path : ByteArray) (A : Option Addr) (n c : Nat) (B : Option Addr) (m d : Nat) : Value := .agg (msgC st path A n c B m d)
theorem encHd_len (x : Hd) : (encHd x).length = 2 := rfl
theorem encY_len (x : UInt8) : (encY x).length = 1 := rfl
theorem Rd.atH {w : World} {B : Nat} {A : Option Addr} {l : List Hd} (h : Rd 2 encHd w B A l) {i : Nat} (hi : i < l.length) : ∃ b off x, A = some ⟨b, off, none⟩ ∧ b < B ∧ l[i]? = some x ∧
    w.cell? ⟨b, off + i * 2, none⟩ = some (.string x.key) ∧ w.cell? ⟨b, off + i * 2 + 1, none⟩ = some (.string x.text) := by
  obtain ⟨b, off, x, e, hb, hx, hc⟩ := h.at_ hi
  exact ⟨b, off, x, e, hb, hx, hc 0 _ rfl, hc 1 _ rfl⟩
theorem Rd.atY {w : World} {B : Nat} {A : Option Addr} {l : List UInt8} (h : Rd 1 encY w B A l) {i : Nat} (hi : i < l.length) : ∃ b off x, A = some ⟨b, off, none⟩ ∧ b < B ∧ l[i]? = some x ∧
    w.cell? ⟨b, off + i, none⟩ = some (.int .u8 (x.toNat : Int)) := by
  obtain ⟨b, off, x, e, hb, hx, hc⟩ := h.at_ hi
  exact ⟨b, off, x, e, hb, hx, by simpa using hc 0 _ rfl⟩
theorem Rd.take {α : Type} {k : Nat} {enc : α → List Value} {w : World} {B : Nat} {A : Option Addr} {l : List α} (h : Rd k enc w B A l) (n : Nat) : Rd k enc w B A (l.take n) := fun hl => by
  obtain ⟨b, off, e, hb, hc⟩ := h (by rw [List.length_take] at hl; omega)
  refine ⟨b, off, e, hb, fun i x hx j u hu => hc i x ?_ j u hu⟩
  by_cases hi : i < n
  · rwa [List.getElem?_take_of_lt hi] at hx
  · rw [List.getElem?_eq_none (by rw [List.length_take]; omega)] at hx
    cases hx

/-- whether one of the heads has this key -/
def hasK (l : List Hd) (key : ByteArray) : Bool := l.any fun x => decide (x.key = key)
theorem hasK_snoc {l : List Hd} {j : Nat} {x : Hd} {key : ByteArray} (hx : l[j]? = some x) (h : hasK (l.take j) key = false) (h2 : x.key ≠ key) : hasK (l.take (j + 1)) key = false := by
  unfold hasK at h ⊢
  rw [take_snoc' hx, List.any_append, h]
  simp [h2]
theorem hasK_hit {l : List Hd} {j : Nat} {x : Hd} {key : ByteArray} (hx : l[j]? = some x) (h2 : x.key = key) : hasK l key = true :=
  List.any_eq_true.2 ⟨x, List.mem_of_getElem? hx, by simp [h2]⟩
theorem ba_inj {a b : ByteArray} (h : a.data.toList = b.data.toList) : a = b := by
  have h2 : a.data = b.data := Array.toList_inj.1 h
  cases a; cases b; simp_all
theorem str_eq (a b : ByteArray) : (a.toList == b.toList) = decide (a = b) := by
  rw [toList_data, toList_data, Bool.eq_iff_iff]
  simp only [beq_iff_eq, decide_eq_true_eq]
  exact ⟨ba_inj, fun h => by rw [h]⟩
theorem str_yes {a b : ByteArray} (h : a = b) : (a.toList == b.toList) = true := by rw [str_eq, decide_eq_true h]
theorem str_no {a b : ByteArray} (h : a ≠ b) : (a.toList == b.toList) = false := by rw [str_eq, decide_eq_false h]
theorem ret_bool {a b : Bool} (h : a = b) : Ending.returned (.bool a) = .returned (.bool b) := by rw [h]
set_option maxRecDepth 100000 in
theorem sameKey_any (k1 t1 k2 t2 : ByteArray) (g : Nat) (w : World) (bb : Blk w g 81 #[.string k2, .string t2]) :
    Calls Tryd.prog 65 #[.agg #[.string k1, .string t1], .pointer (some ⟨g, 0, none⟩)] w fun e w' => e = .returned (.bool (decide (k1 = k2))) ∧ Below w.heap.size w w' := by
  have hB : Below w.heap.size w (w.alloc (.cells #[.string k1, .string t1] 81)) := (Below.refl _ w).alloc (Nat.le_refl _) _
  have ⟨k0, k1_⟩ := bb.c2
  have hl := bb.lt
  go_enter Tryd.func65, Tryd.ntmps65
  go_wp2
  go_ret
  exact ⟨ret_bool (str_eq k1 k2), hB⟩
set_option maxRecDepth 100000 in
set_option maxHeartbeats 1000000 in
theorem has64_any (A : Option Addr) (l : List Hd) (c g : Nat) (key text : ByteArray) (w : World) (hr : Rd 2 encHd w w.heap.size A l) (bb : Blk w g 81 #[.string key, .string text]) (hl : l.length ≤ 140737488355328) :
    Calls Tryd.prog 64 #[.slice A l.length c, .func (.func 65) #[] #[.pointer (some ⟨g, 0, none⟩)]] w fun e w' => e = .returned (.bool (hasK l key)) ∧ Below w.heap.size w w' := by
  have hI : Calls Tryd.prog 84 #[.slice A l.length c, .func (.func 65) #[] #[.pointer (some ⟨g, 0, none⟩)]] w fun e w' => (∃ i : Int, e = .returned (.int .i64 i) ∧ decide (0 ≤ i) = hasK l key) ∧ Below w.heap.size w w' := by
    have hgl := bb.lt
    go_enter Tryd.func84, Tryd.ntmps84
    go_wp2
    go_loopw [8] (fun i wr => ∃ k : Nat, k ≤ l.length ∧ i = .int .i64 k ∧ Hid (hasK (l.take k) key = false) ∧ Below w.heap.size w wr)
      (fun i _ => l.length - (intOf i).toNat)
    case atStart => exact ⟨0, Nat.zero_le _, rfl, Lib.hid rfl, Below.refl _ _⟩
    case round =>
      obtain ⟨k, hk, rfl, HA, hB⟩ := hrel
      by_cases hlt : k < l.length
      · obtain ⟨b, off, x, rfl, hbB, hx, d0, d1⟩ := (hr.below hB).atH hlt
        have bb' := bb.below hB hgl
        have HS := Lib.hid (sameKey_any x.key x.text key text g wr bb')
        by_cases hd : x.key = key
        · have hv : hasK l key = true := hasK_hit hx hd
          rw [decide_eq_true hd] at HS
          clear hx hd bb' HA
          go_wp2_with (first | (go_at_call 65; refine Hid.out ?_) | go_in)
          unfold Hid
          refine HS.out.mono ?_
          rintro e w1 ⟨rfl, hb⟩
          have hB := hB.trans (hb.mono hB.size)
          clear HS hb d0 d1
          go_wp2
          go_ret
          exact ⟨⟨k, rfl, by rw [hv]; simp⟩, hB⟩
        · have HA2 := Lib.hid (hasK_snoc hx HA.out hd)
          rw [decide_eq_false hd] at HS
          clear hx hd bb' HA
          go_wp2_with (first | (go_at_call 65; refine Hid.out ?_) | go_in)
          unfold Hid
          refine HS.out.mono ?_
          rintro e w1 ⟨rfl, hb⟩
          have hB := hB.trans (hb.mono hB.size)
          clear HS hb d0 d1
          go_wp2
          go_roundw
          case rel => exact ⟨k + 1, by omega, by go_num, HA2, hB⟩
          case measure => simp [intOf]; omega
      · have hv : hasK l key = false := by
          have := HA.out
          rwa [List.take_of_length_le (by omega)] at this
        have hle : l.length ≤ k := by omega
        clear HA
        go_wp2
        go_ret
        exact ⟨⟨-1, rfl, by rw [hv]; rfl⟩, hB⟩
  go_enter Tryd.func64, Tryd.ntmps64
  go_wp2_with (first | (go_at_call 84; refine Hid.out ?_) | go_in)
  unfold Hid
  refine hI.mono ?_
  rintro e w1 ⟨⟨i, rfl, hi⟩, hB⟩
  have HI := Lib.hid hi
  clear hi hI
  go_wp2
  go_ret
  exact ⟨ret_bool HI.out, hB⟩
end Go.Proofs.YtmcjgfoaiannoabDoor
