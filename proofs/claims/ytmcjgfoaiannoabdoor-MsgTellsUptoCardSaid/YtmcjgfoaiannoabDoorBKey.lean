/-
  Keys and lines of messages, of the program and of the reference: which strings may be one. Condition: the length bound that the reach pays.
-/
import Derived.Test.YtmcjgfoaiannoabDoorFrame
import Derived.Test.YtmcjgfoaiannoabDoorBase
import Derived.Shelf.Strings.SlTrimAscii
import Derived.Shelf.GgClosure.StringsIndexFuncTop
import Derived.Deep.DeepCutAuto
import Derived.BigQuiet
import Derived.Deep.QuietTactic
namespace Go.Proofs.YtmcjgfoaiannoabDoor
open Go.RowKit Go.Lib

def Tryd.l160_ren : Go.Shelf.Ren := ⟨fun | 160 => 66 | 232 => 86 | 231 => 85 | 227 => 87 | 234 => 89 | 233 => 88 | 236 => 91 | 235 => 90 | 228 => 97 | 271 => 100 | 151 => 99 | 197 => 98 | 120 => 114 | 152 => 113 | 260 => 112 | 137 => 127 | 119 => 128 | 224 => 117 | 225 => 116 | 217 => 115 | 266 => 129 | n => n, fun | 9 => 9 | 4 => 4 | 3 => 3 | 5 => 5 | 117 => 139 | 116 => 138 | 0 => 0 | 124 => 142 | 21 => 21 | 105 => 166 | 46 => 186 | 119 => 199 | 139 => 202 | 138 => 201 | n => n, fun | 3 => 4 | 4 => 5 | n => n⟩
theorem Tryd.l160 : Go.Proofs.Lays.n160 Tryd.prog Tryd.l160_ren := {
  mixed := by kernel_rfl
  f119 := Tryd.func128.trans (congrArg some (by kernel_rfl))
  f120 := Tryd.func114.trans (congrArg some (by kernel_rfl))
  f137 := Tryd.func127.trans (congrArg some (by kernel_rfl))
  f151 := Tryd.func99.trans (congrArg some (by kernel_rfl))
  f152 := Tryd.func113.trans (congrArg some (by kernel_rfl))
  f160 := Tryd.func66.trans (congrArg some (by kernel_rfl))
  f197 := Tryd.func98.trans (congrArg some (by kernel_rfl))
  f217 := Tryd.func115.trans (congrArg some (by kernel_rfl))
  f224 := Tryd.func117.trans (congrArg some (by kernel_rfl))
  f225 := Tryd.func116.trans (congrArg some (by kernel_rfl))
  f227 := Tryd.func87.trans (congrArg some (by kernel_rfl))
  f228 := Tryd.func97.trans (congrArg some (by kernel_rfl))
  f231 := Tryd.func85.trans (congrArg some (by kernel_rfl))
  f232 := Tryd.func86.trans (congrArg some (by kernel_rfl))
  f233 := Tryd.func88.trans (congrArg some (by kernel_rfl))
  f234 := Tryd.func89.trans (congrArg some (by kernel_rfl))
  f235 := Tryd.func90.trans (congrArg some (by kernel_rfl))
  f236 := Tryd.func91.trans (congrArg some (by kernel_rfl))
  f260 := Tryd.func112.trans (congrArg some (by kernel_rfl))
  f266 := Tryd.func129.trans (congrArg some (by kernel_rfl))
  f271 := Tryd.func100.trans (congrArg some (by kernel_rfl))
  t0 := Tryd.underlying0
  a0 := Tryd.isAgg0
  z0 := Tryd.sizeOf0
  v0 := Tryd.zeroValue0
  t3 := Tryd.underlying3
  a3 := Tryd.isAgg3
  z3 := Tryd.sizeOf3
  v3 := Tryd.zeroValue3
  t4 := Tryd.underlying4
  a4 := Tryd.isAgg4
  z4 := Tryd.sizeOf4
  v4 := Tryd.zeroValue4
  t5 := Tryd.underlying5
  a5 := Tryd.isAgg5
  z5 := Tryd.sizeOf5
  v5 := Tryd.zeroValue5
  t9 := Tryd.underlying9
  a9 := Tryd.isAgg9
  z9 := Tryd.sizeOf9
  v9 := Tryd.zeroValue9
  t21 := Tryd.underlying21
  a21 := Tryd.isAgg21
  z21 := Tryd.sizeOf21
  v21 := Tryd.zeroValue21
  t46 := Tryd.underlying186
  a46 := Tryd.isAgg186
  z46 := Tryd.sizeOf186
  v46 := Tryd.zeroValue186
  t105 := Tryd.underlying166
  a105 := Tryd.isAgg166
  z105 := Tryd.sizeOf166
  v105 := Tryd.zeroValue166
  t116 := Tryd.underlying138
  a116 := Tryd.isAgg138
  z116 := Tryd.sizeOf138
  t117 := Tryd.underlying139
  a117 := Tryd.isAgg139
  z117 := Tryd.sizeOf139
  v117 := Tryd.zeroValue139
  t119 := Tryd.underlying199
  a119 := Tryd.isAgg199
  z119 := Tryd.sizeOf199
  t124 := Tryd.underlying142
  a124 := Tryd.isAgg142
  z124 := Tryd.sizeOf142
  v124 := Tryd.zeroValue142
  t138 := Tryd.underlying201
  a138 := Tryd.isAgg201
  z138 := Tryd.sizeOf201
  v138 := Tryd.zeroValue201
  t139 := Tryd.underlying202
  a139 := Tryd.isAgg202
  z139 := Tryd.sizeOf202
  v139 := Tryd.zeroValue202
  g3 := by kernel_rfl
  g4 := by kernel_rfl }
def Tryd.lg17_ren : Go.Shelf.Ren := ⟨fun | 17 => 82 | 15 => 96 | 20 => 111 | n => n, fun | 9 => 9 | 23 => 134 | 4 => 4 | 3 => 3 | 0 => 0 | 21 => 21 | n => n, fun | n => n⟩
theorem Tryd.lg17 : Go.Proofs.LaysGw.n17 Tryd.prog Tryd.lg17_ren := {
  mixed := by kernel_rfl
  f15 := Tryd.func96.trans (congrArg some (by kernel_rfl))
  f17 := Tryd.func82.trans (congrArg some (by kernel_rfl))
  f20 := Tryd.func111.trans (congrArg some (by kernel_rfl))
  t0 := Tryd.underlying0
  a0 := Tryd.isAgg0
  z0 := Tryd.sizeOf0
  v0 := Tryd.zeroValue0
  i0 := by kernel_rfl
  t3 := Tryd.underlying3
  a3 := Tryd.isAgg3
  z3 := Tryd.sizeOf3
  v3 := Tryd.zeroValue3
  i3 := by kernel_rfl
  t4 := Tryd.underlying4
  a4 := Tryd.isAgg4
  z4 := Tryd.sizeOf4
  v4 := Tryd.zeroValue4
  i4 := by kernel_rfl
  t9 := Tryd.underlying9
  a9 := Tryd.isAgg9
  z9 := Tryd.sizeOf9
  v9 := Tryd.zeroValue9
  i9 := by kernel_rfl
  t21 := Tryd.underlying21
  a21 := Tryd.isAgg21
  z21 := Tryd.sizeOf21
  v21 := Tryd.zeroValue21
  i21 := by kernel_rfl
  t23 := Tryd.underlying134
  a23 := Tryd.isAgg134
  z23 := Tryd.sizeOf134
  v23 := Tryd.zeroValue134
  i23 := by kernel_rfl }

/-- the small letters -/
def smB : ByteArray := ⟨#[97, 98, 99, 100, 101, 102, 103, 104, 105, 106, 107, 108, 109, 110, 111, 112, 113, 114, 115, 116, 117, 118, 119, 120, 121, 122]⟩
/-- whether a string is bytes of a list alone -/
def ofP (s bs : ByteArray) : Bool := s.data.toList.all (bs.data.toList.contains ·)
/-- whether a string may be a key -/
def keyP (s : ByteArray) : Bool := ofP s smB && decide (1 ≤ s.size) && decide (s.size ≤ 8)
def lnB (b : UInt8) : Bool := decide (32 ≤ b.toNat) && decide (b.toNat ≤ 126)
/-- whether a string may be a line -/
def lineP (s : ByteArray) : Bool := s.data.toList.all lnB && decide (s.size ≤ 20)
theorem dropWhile_nil {α : Type} (p : α → Bool) : ∀ l : List α, l.dropWhile p = [] ↔ l.all p = true
  | [] => by simp
  | a :: l => by
    cases h : p a
    · simp [List.dropWhile, h]
    · simp [List.dropWhile, h, dropWhile_nil p l]
theorem dropWhile_all {α : Type} (p : α → Bool) : ∀ l : List α, (l.dropWhile p).all p = true → l.all p = true
  | [], _ => by simp
  | a :: l, hl => by
    cases h : p a
    · simp [List.dropWhile, h] at hl
    · simp only [List.dropWhile, h] at hl
      simp only [List.all_cons, h, Bool.true_and]
      exact dropWhile_all p l hl
theorem trim_nil (l cs : List UInt8) : (trimS l cs).isEmpty = l.all (cs.contains ·) := by
  unfold trimS trimLeftS trimRightS
  rw [Bool.eq_iff_iff, List.isEmpty_iff, dropWhile_nil, List.all_reverse]
  constructor
  · intro h
    have := dropWhile_all _ _ h
    rwa [List.all_reverse] at this
  · intro h
    have : l.reverse.dropWhile (cs.contains ·) = [] := (dropWhile_nil _ _).2 (by rw [List.all_reverse]; exact h)
    rw [this]
    rfl
theorem all_snoc {s : ByteArray} {k : Nat} {f : UInt8 → Bool} (hk : k < s.size) (h : (s.data.toList.take k).all f = true) (h2 : f s[k] = true) : (s.data.toList.take (k + 1)).all f = true := by
  have hx : s.data.toList[k]? = some s[k] := by
    rw [List.getElem?_eq_getElem (by simpa using hk)]
    rfl
  rw [take_snoc' hx, List.all_append, h]
  simp [h2]
theorem all_not {s : ByteArray} {k : Nat} {f : UInt8 → Bool} (hk : k < s.size) (h2 : f s[k] = false) : s.data.toList.all f = false := by
  rw [Bool.eq_false_iff]
  intro h
  have hx : s[k] ∈ s.data.toList := by
    have : s.data.toList[k]'(by simpa using hk) ∈ s.data.toList := List.getElem_mem _
    exact this
  have := List.all_eq_true.1 h _ hx
  rw [h2] at this
  cases this
theorem any_snocB {s : ByteArray} {k : Nat} (hk : k < s.size) (x : UInt8) : (s.data.toList.take (k + 1)).contains x = ((s.data.toList.take k).contains x || x == s[k]) := by
  have hx : s.data.toList[k]? = some s[k] := by
    rw [List.getElem?_eq_getElem (by simpa using hk)]
    rfl
  rw [take_snoc' hx, List.contains_append, Bool.eq_iff_iff]
  simp
set_option maxRecDepth 100000 in
set_option maxHeartbeats 1000000 in
theorem refline_any (s : ByteArray) (hs : s.size ≤ 140737488355328) (w : World) : Calls Tryd.prog 61 #[.string s] w fun e w' => e = .returned (.bool (lineP s)) ∧ w' = w := by
  go_enter Tryd.func61, Tryd.ntmps61
  go_wp2
  go_loopw [6] (fun i wr => ∃ k : Nat, k ≤ s.size ∧ i = .int .i64 k ∧ Hid ((s.data.toList.take k).all lnB = true) ∧ wr = w)
    (fun i _ => s.size - (intOf i).toNat)
  case atStart => exact ⟨0, Nat.zero_le _, rfl, Lib.hid rfl, rfl⟩
  case round =>
    obtain ⟨k, hk, rfl, HA, rfl⟩ := hrel
    by_cases hlt : k < s.size
    · by_cases h1 : s[k].toNat < 32
      · have hv : lineP s = false := by
          unfold lineP
          rw [all_not hlt (f := lnB) (by unfold lnB; rw [decide_eq_false (by omega)]; rfl)]
          rfl
        have h1' : ((s[k].toNat : Nat) : Int) < 32 := by omega
        go_wp2
        go_ret
        try rw [hv]
        exact ⟨rfl, rfl⟩
      by_cases h2 : 126 < s[k].toNat
      · have hv : lineP s = false := by
          unfold lineP
          rw [all_not hlt (f := lnB) (by unfold lnB; rw [decide_eq_false (show ¬ s[k].toNat ≤ 126 by omega), Bool.and_false])]
          rfl
        have h1' : ¬ ((s[k].toNat : Nat) : Int) < 32 := by omega
        have h2' : (126 : Int) < ((s[k].toNat : Nat) : Int) := by omega
        go_wp2
        go_ret
        try rw [hv]
        exact ⟨rfl, rfl⟩
      have h1' : ¬ ((s[k].toNat : Nat) : Int) < 32 := by omega
      have h2' : ¬ (126 : Int) < ((s[k].toNat : Nat) : Int) := by omega
      have HA2 := Lib.hid (all_snoc hlt HA.out (show lnB s[k] = true by simp [lnB]; omega))
      go_wp2
      go_roundw
      case rel => exact ⟨k + 1, by omega, by go_num, HA2, trivial⟩
      case measure => simp [intOf]; omega
    · have hv : lineP s = decide ((s.size : Int) ≤ 20) := by
        have := HA.out
        rw [List.take_of_length_le (by rw [Array.length_toList]; exact Nat.le_of_not_lt hlt)] at this
        unfold lineP
        rw [this, Bool.true_and]
        exact decide_eq_decide.2 (by omega)
      have hle : s.size ≤ k := by omega
      clear HA
      go_wp2
      go_ret
      try rw [hv]
      exact ⟨rfl, rfl⟩
set_option maxRecDepth 100000 in
set_option maxHeartbeats 2000000 in
theorem of_any (s bs : ByteArray) (least most : Int) (hs : s.size ≤ 140737488355328) (hbs : bs.size ≤ 140737488355328) (w : World) : Calls Tryd.prog 67 #[.string s, .string bs, .int .i64 least, .int .i64 most] w fun e w' => e = .returned (.bool (ofP s bs && decide (least ≤ s.size) && decide ((s.size : Int) ≤ most))) ∧ Below w.heap.size w w' := by
  obtain ⟨rv, hrv⟩ : ∃ v, v = (ofP s bs && decide (least ≤ s.size) && decide ((s.size : Int) ≤ most)) := ⟨_, rfl⟩
  rw [← hrv]
  have HR := Lib.hid hrv
  clear hrv
  go_enter Tryd.func67, Tryd.ntmps67
  go_wp2
  go_loopw [14] (fun i wr => ∃ k : Nat, k ≤ s.size ∧ i = .int .i64 k ∧ Hid ((s.data.toList.take k).all (bs.data.toList.contains ·) = true) ∧ Below w.heap.size w wr)
    (fun i _ => s.size - (intOf i).toNat)
  case atStart => exact ⟨0, Nat.zero_le _, rfl, Lib.hid rfl, Below.refl _ _⟩
  case round =>
    obtain ⟨k, hk, rfl, HA, hB⟩ := hrel
    by_cases hlt : k < s.size
    · go_wp2
      go_loopw [10, 19] (fun ok i ws => ∃ (j : Nat) (b : Bool), j ≤ bs.size ∧ i = .int .i64 j ∧ ok = .bool b ∧ Hid ((bs.data.toList.take j).contains s[k] = b) ∧ Below w.heap.size w ws)
        (fun _ i _ => bs.size - (intOf i).toNat)
      case atStart => exact ⟨0, false, Nat.zero_le _, rfl, rfl, Lib.hid rfl, hB⟩
      case round =>
        clear hB
        obtain ⟨j, b, hj, rfl, rfl, HB, hB⟩ := hrel
        by_cases hlj : j < bs.size
        · cases b
          · by_cases he : s[k] = bs[j]
            · have HB2 : Hid ((bs.data.toList.take (j + 1)).contains s[k] = true) := Lib.hid (by rw [any_snocB hlj, HB.out]; simp [he])
              have he1 : (((bs[j].toNat : Nat) : Int) == ((s[k].toNat : Nat) : Int)) = true := by rw [he]; simp
              clear he
              go_upto_region 8 with fail
              go_quiet (fail)
              go_wp2
              go_roundw
              case rel => exact ⟨j + 1, true, by omega, by go_num, rfl, HB2, below_drewN hB _⟩
              case measure => simp [intOf]; omega
            · have HB2 : Hid ((bs.data.toList.take (j + 1)).contains s[k] = false) := Lib.hid (by rw [any_snocB hlj, HB.out]; simp [he])
              have he0 : ¬ bs[j].toNat = s[k].toNat := fun h => he (UInt8.toNat_inj.1 h.symm)
              have he1 : (((bs[j].toNat : Nat) : Int) == ((s[k].toNat : Nat) : Int)) = false := by
                rw [beq_eq_false_iff_ne]
                omega
              clear he
              go_upto_region 8 with fail
              go_quiet (fail)
              go_wp2
              go_roundw
              case rel => exact ⟨j + 1, false, by omega, by go_num, rfl, HB2, below_drewN hB _⟩
              case measure => simp [intOf]; omega
          · have HB2 : Hid ((bs.data.toList.take (j + 1)).contains s[k] = true) := Lib.hid (by rw [any_snocB hlj, HB.out]; rfl)
            go_upto_region 8 with fail
            go_quiet (fail)
            go_wp2
            go_roundw
            case rel => exact ⟨j + 1, true, by omega, by go_num, rfl, HB2, below_drewN hB _⟩
            case measure => simp [intOf]; omega
        · have hb : bs.data.toList.contains s[k] = b := by
            have := HB.out
            rwa [List.take_of_length_le (by rw [Array.length_toList]; exact Nat.le_of_not_lt hlj)] at this
          have hlb : bs.size ≤ j := by omega
          cases b
          · have hv : rv = false := by
              rw [HR.out, ofP, all_not hlt (f := (bs.data.toList.contains ·)) hb]
              rfl
            clear hb HB
            go_wp2
            go_ret
            try rw [hv]
            exact ⟨rfl, hB⟩
          · have HA2 := Lib.hid (all_snoc hlt HA.out hb)
            clear hb HB
            go_wp2
            go_roundw
            case rel => exact ⟨k + 1, by omega, by go_num, HA2, hB⟩
            case measure => simp [intOf]; omega
    · have hv : rv = (decide (least ≤ s.size) && decide ((s.size : Int) ≤ most)) := by
        have := HA.out
        rw [List.take_of_length_le (by rw [Array.length_toList]; exact Nat.le_of_not_lt hlt)] at this
        rw [HR.out, ofP, this, Bool.true_and]
      have hle : s.size ≤ k := by omega
      clear HA
      by_cases h1 : least ≤ (s.size : Int)
      · by_cases h2 : (s.size : Int) ≤ most
        · rw [decide_eq_true h1, decide_eq_true h2] at hv
          go_wp2
          go_ret
          try rw [hv]
          exact ⟨rfl, hB⟩
        · rw [decide_eq_true h1, decide_eq_false h2] at hv
          go_wp2
          go_ret
          try rw [hv]
          exact ⟨rfl, hB⟩
      · rw [decide_eq_false h1] at hv
        go_wp2
        go_ret
        try rw [hv]
        exact ⟨rfl, hB⟩
theorem refkey_any (s : ByteArray) (hs : s.size ≤ 140737488355328) (w : World) : Calls Tryd.prog 43 #[.string s] w fun e w' => e = .returned (.bool (keyP s)) ∧ Below w.heap.size w w' := by
  have hv : keyP s = (ofP s smB && decide ((1 : Int) ≤ s.size) && decide ((s.size : Int) ≤ 8)) := by
    unfold keyP
    have e1 : decide ((1 : Int) ≤ s.size) = decide (1 ≤ s.size) := decide_eq_decide.2 (by omega)
    have e2 : decide ((s.size : Int) ≤ 8) = decide (s.size ≤ 8) := decide_eq_decide.2 (by omega)
    rw [e1, e2]
  rw [hv]
  go_enter Tryd.func43, Tryd.ntmps43
  go_wp2_with (first | (go_at_call 68; go_in) | (go_at_call 67; refine Hid.out ?_))
  unfold Hid
  refine (of_any s smB 1 8 hs (by decide) w).mono ?_
  rintro e w1 ⟨rfl, hB⟩
  go_wp2
  go_ret
  exact ⟨rfl, hB⟩
/-- the bytes that are no line's, as runes -/
def noLn (r : Nat) : Bool := decide (r < 32) || decide (126 < r)
theorem closure_any (w : World) : Go.Proofs.PredAt Tryd.prog 83 #[] encR noLn w := fun W r _ => by
  unfold Go.Proofs.FnGives
  by_cases h1 : r < 32
  · have z1 : (r : Int) < 32 := by omega
    go_enter Tryd.func83, Tryd.ntmps83
    go_wp2
    go_ret
    exact ⟨by simp [noLn, h1], 0, rfl⟩
  · have z1 : ¬ (r : Int) < 32 := by omega
    by_cases h2 : 126 < r
    · have z2 : (126 : Int) < (r : Int) := by omega
      go_enter Tryd.func83, Tryd.ntmps83
      go_wp2
      go_ret
      exact ⟨by simp [noLn, h2], 0, rfl⟩
    · have z2 : ¬ (126 : Int) < (r : Int) := by omega
      go_enter Tryd.func83, Tryd.ntmps83
      go_wp2
      go_ret
      exact ⟨by simp [noLn, h1, h2], 0, rfl⟩
theorem idx_from (s : ByteArray) : ∀ (f pos : Nat), s.size - pos ≤ f → decide (0 ≤ idxFuncFrom noLn true s f pos) = !(s.data.toList.drop pos).all lnB
  | 0, pos, h => by
    have : s.data.toList.drop pos = [] := List.drop_of_length_le (by rw [Array.length_toList]; exact (by omega : s.size ≤ pos))
    rw [this]
    rfl
  | f + 1, pos, h => by
    by_cases hp : pos < s.size
    · have hd : s.data.toList.drop pos = s[pos] :: s.data.toList.drop (pos + 1) := by
        rw [List.drop_eq_getElem_cons (by rw [Array.length_toList]; exact hp)]
        rfl
      rw [hd, List.all_cons]
      unfold idxFuncFrom
      rw [if_pos hp]
      by_cases ha : s[pos].toNat < 128
      · rw [decode_ascii s pos hp ha]
        by_cases hl : lnB s[pos] = true
        · have hn : noLn s[pos].toNat = false := by
            simp only [lnB, Bool.and_eq_true, decide_eq_true_eq] at hl
            unfold noLn
            rw [decide_eq_false (by omega), decide_eq_false (by omega)]
            rfl
          simp only [hn]
          rw [if_neg (by simp), idx_from s f (pos + 1) (by omega), hl, Bool.true_and]
        · have hl : lnB s[pos] = false := by simpa using hl
          have hn : noLn s[pos].toNat = true := by
            unfold lnB at hl
            unfold noLn
            by_cases h1 : s[pos].toNat < 32
            · rw [decide_eq_true h1]
              rfl
            · rw [decide_eq_true (show 32 ≤ s[pos].toNat by omega), Bool.true_and] at hl
              rw [decide_eq_true (show 126 < s[pos].toNat by have := of_decide_eq_false hl; omega), Bool.or_true]
          simp only [hn]
          rw [if_pos trivial, hl]
          simp
      · have hh := (decode_high s pos hp (by omega)).1
        have hl : lnB s[pos] = false := by
          unfold lnB
          rw [decide_eq_false (show ¬ s[pos].toNat ≤ 126 by omega), Bool.and_false]
        have hn : noLn (Utf8.decode s pos).1 = true := by
          unfold noLn
          rw [decide_eq_true (show 126 < (Utf8.decode s pos).1 by omega), Bool.or_true]
        rw [if_pos hn, hl]
        simp
    · have : s.data.toList.drop pos = [] := List.drop_of_length_le (by rw [Array.length_toList]; exact (by omega : s.size ≤ pos))
      rw [this, idxFuncFrom_end noLn true s (f + 1) pos hp]
      rfl
set_option maxRecDepth 100000 in
theorem line_any (s : ByteArray) (hs : s.size ≤ 140737488355328) (w : World) : Calls Tryd.prog 63 #[.string s] w fun e w' => e = .returned (.bool (lineP s)) ∧ Below w.heap.size w w' := by
  have hC := Go.Proofs.Any.strings_ContainsFunc Tryd.lg17 83 #[] (enters_of Tryd.func83 (by kernel_rfl) rfl) noLn s w (closure_any w)
  have hi : decide (0 ≤ idxFunc noLn true s) = !s.data.toList.all lnB := idx_from s s.size 0 (by omega)
  rw [hi] at hC
  have hC : Calls Tryd.prog 82 #[.string s, .func (.func 83) #[] #[]] w fun e w' => e = .returned (.bool (!s.data.toList.all lnB)) ∧ Below w.heap.size w w' := hC
  by_cases h20 : s.size ≤ 20
  · have hv : lineP s = s.data.toList.all lnB := by
      unfold lineP
      rw [decide_eq_true h20, Bool.and_true]
    have h20' : (s.size : Int) ≤ 20 := by omega
    obtain ⟨b, hb⟩ : ∃ b, b = s.data.toList.all lnB := ⟨_, rfl⟩
    rw [← hb] at hv hC
    rw [hv]
    clear hv hb hi
    cases b
    · go_enter Tryd.func63, Tryd.ntmps63
      go_wp2_with (first | (go_at_call 82; refine Hid.out ?_) | go_in)
      unfold Hid
      refine hC.mono ?_
      rintro e w1 ⟨rfl, hB⟩
      go_wp2
      go_ret
      exact ⟨rfl, hB⟩
    · go_enter Tryd.func63, Tryd.ntmps63
      go_wp2_with (first | (go_at_call 82; refine Hid.out ?_) | go_in)
      unfold Hid
      refine hC.mono ?_
      rintro e w1 ⟨rfl, hB⟩
      go_wp2
      go_ret
      exact ⟨rfl, hB⟩
  · have hv : lineP s = false := by
      unfold lineP
      rw [decide_eq_false h20, Bool.and_false]
    have h20' : ¬ (s.size : Int) ≤ 20 := by omega
    rw [hv]
    clear hv hC hi
    go_enter Tryd.func63, Tryd.ntmps63
    go_wp2
    go_ret
    exact ⟨rfl, Below.refl _ _⟩
set_option maxRecDepth 100000 in
theorem key_any (s : ByteArray) (hs : s.size ≤ 140737488355328) (w : World) : Calls Tryd.prog 42 #[.string s] w fun e w' => e = .returned (.bool (keyP s)) ∧ Below w.heap.size w w' := by
  have hT := Go.Proofs.Any.strings_Trim_laid Tryd.l160 (by kernel_rfl) s smB w (by omega) (by decide) (Go.Proofs.ascii_of_all (by decide))
  have hT : Calls Tryd.prog 66 #[.string s, .string smB] w fun e w' => e = .returned (.string ⟨(trimS s.data.toList smB.data.toList).toArray⟩) ∧ Below w.heap.size w w' := hT
  by_cases h1 : 1 ≤ s.size
  · have h1' : (1 : Int) ≤ (s.size : Int) := by omega
    by_cases h8 : s.size ≤ 8
    · have h8' : (s.size : Int) ≤ 8 := by omega
      have hv : keyP s = ofP s smB := by
        unfold keyP
        rw [decide_eq_true h1, decide_eq_true h8, Bool.and_true, Bool.and_true]
      have hn := trim_nil s.data.toList smB.data.toList
      obtain ⟨l, hl⟩ : ∃ l, l = trimS s.data.toList smB.data.toList := ⟨_, rfl⟩
      rw [← hl] at hn hT
      have hn2 : l.isEmpty = keyP s := by rw [hv]; exact hn
      rw [← hn2]
      clear hn hn2 hl hv
      go_enter Tryd.func42, Tryd.ntmps42
      go_wp2_with (first | (go_at_call 66; refine Hid.out ?_) | go_in)
      unfold Hid
      refine hT.mono ?_
      rintro e w1 ⟨rfl, hB⟩
      go_wp2
      go_ret
      exact ⟨by simp, hB⟩
    · have hv : keyP s = false := by
        unfold keyP
        rw [decide_eq_false h8, Bool.and_false]
      have h8' : ¬ (s.size : Int) ≤ 8 := by omega
      rw [hv]
      clear hv hT
      go_enter Tryd.func42, Tryd.ntmps42
      go_wp2
      go_ret
      exact ⟨rfl, Below.refl _ _⟩
  · have hv : keyP s = false := by
      unfold keyP
      rw [decide_eq_false h1, Bool.and_false, Bool.false_and]
    have h1' : ¬ (1 : Int) ≤ (s.size : Int) := by omega
    rw [hv]
    clear hv hT
    go_enter Tryd.func42, Tryd.ntmps42
    go_wp2
    go_ret
    exact ⟨rfl, Below.refl _ _⟩
end Go.Proofs.YtmcjgfoaiannoabDoor
