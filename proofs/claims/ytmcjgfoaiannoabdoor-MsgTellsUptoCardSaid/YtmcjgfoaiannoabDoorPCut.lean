/-
  Cutting a string at a byte: strings.Cut and the reference's upTo. Condition: the length bound that the reach pays.
-/
import Derived.Test.YtmcjgfoaiannoabDoorPLaw
import Derived.Shelf.Strings.Search2
namespace Go.Proofs.YtmcjgfoaiannoabDoor
open Go.RowKit Go.Lib

def Tryd.l219_ren : Go.Shelf.Ren := ⟨fun | 219 => 101 | 217 => 115 | 225 => 116 | 224 => 117 | 267 => 118 | 266 => 129 | 314 => 130 | n => n, fun | 9 => 9 | 3 => 3 | 4 => 4 | 5 => 5 | 46 => 186 | 146 => 203 | 51 => 195 | n => n, fun | 1 => 0 | n => n⟩
theorem Tryd.l219 : Go.Proofs.Lays.n219 Tryd.prog Tryd.l219_ren := {
  mixed := by kernel_rfl
  f217 := Tryd.func115.trans (congrArg some (by kernel_rfl))
  f219 := Tryd.func101.trans (congrArg some (by kernel_rfl))
  f224 := Tryd.func117.trans (congrArg some (by kernel_rfl))
  f225 := Tryd.func116.trans (congrArg some (by kernel_rfl))
  f266 := Tryd.func129.trans (congrArg some (by kernel_rfl))
  f267 := Tryd.func118.trans (congrArg some (by kernel_rfl))
  f314 := Tryd.func130.trans (congrArg some (by kernel_rfl))
  t3 := Tryd.underlying3
  a3 := Tryd.isAgg3
  z3 := Tryd.sizeOf3
  v3 := Tryd.zeroValue3
  t4 := Tryd.underlying4
  a4 := Tryd.isAgg4
  z4 := Tryd.sizeOf4
  v4 := Tryd.zeroValue4
  t5 := Tryd.underlying5
  a5 := Tryd.isAgg5
  z5 := Tryd.sizeOf5
  v5 := Tryd.zeroValue5
  t9 := Tryd.underlying9
  a9 := Tryd.isAgg9
  z9 := Tryd.sizeOf9
  v9 := Tryd.zeroValue9
  t46 := Tryd.underlying186
  a46 := Tryd.isAgg186
  z46 := Tryd.sizeOf186
  v46 := Tryd.zeroValue186
  t51 := Tryd.underlying195
  a51 := Tryd.isAgg195
  z51 := Tryd.sizeOf195
  v51 := Tryd.zeroValue195
  t146 := Tryd.underlying203
  a146 := Tryd.isAgg203
  z146 := Tryd.sizeOf203
  v146 := Tryd.zeroValue203
  g1 := by kernel_rfl }

def ctup (r : List UInt8 × List UInt8 × Bool) : Value := .tuple #[.string (bs r.1), .string (bs r.2.1), .bool r.2.2]
theorem ret_ctup {a b : ByteArray} {q : Bool} {r : List UInt8 × List UInt8 × Bool} (h1 : a = bs r.1) (h2 : b = bs r.2.1) (h3 : q = r.2.2) : Ending.returned (.tuple #[.string a, .string b, .bool q]) = .returned (ctup r) := by
  subst h1 h2 h3
  rfl
theorem ext_take {s : ByteArray} {a b : List UInt8} {c : UInt8} (h : s.data.toList = a ++ c :: b) : s.extract 0 a.length = bs a := by
  apply ba_inj
  rw [extract_data, h, bs_list]
  simp
theorem ext_drop {s : ByteArray} {a b : List UInt8} {c : UInt8} (h : s.data.toList = a ++ c :: b) (n : Nat) (hn : n = s.size) : s.extract (a.length + 1) n = bs b := by
  apply ba_inj
  have hl : n = a.length + (b.length + 1) := by
    rw [hn]
    have := congrArg List.length h
    rw [Array.length_toList] at this
    simpa using this
  rw [extract_data, h, bs_list, hl, show a ++ c :: b = (a ++ [c]) ++ b by simp, show a.length + 1 = (a ++ [c]).length by simp, List.drop_left]
  exact List.take_of_length_le (by simp; omega)
theorem size_of_cut {s : ByteArray} {a b : List UInt8} {c : UInt8} (h : s.data.toList = a ++ c :: b) : s.size = a.length + b.length + 1 := by
  have := congrArg List.length h
  rw [Array.length_toList] at this
  have e : s.size = s.data.size := rfl
  rw [e, this]
  simp
  omega
theorem idx_no {c : UInt8} : ∀ {l : List UInt8}, (cutB c l).2.2 = false → indexByte l c = -1
  | [], _ => rfl
  | b :: l, h => by
    unfold cutB at h
    by_cases hb : b = c
    · rw [if_pos hb] at h
      cases h
    · rw [if_neg hb] at h
      have ih := idx_no (l := l) h
      unfold indexByte
      rw [ih]
      simp [hb]
theorem idx_yes {c : UInt8} : ∀ {l : List UInt8}, (cutB c l).2.2 = true → indexByte l c = ((cutB c l).1.length : Int)
  | [], h => by simp [cutB] at h
  | b :: l, h => by
    unfold cutB at h ⊢
    unfold indexByte
    by_cases hb : b = c
    · rw [if_pos hb]
      simp [hb]
    · rw [if_neg hb] at h ⊢
      have ih := idx_yes (l := l) h
      rw [ih]
      have h2 : ¬ ((((cutB c l).1.length : Nat) : Int) = -1) := by omega
      simp [hb, h2]
set_option maxRecDepth 100000 in
set_option maxHeartbeats 1000000 in
theorem cut92 (s : ByteArray) (c : UInt8) (hs : s.size ≤ 140737488355328) (w : World) :
    Calls Tryd.prog 92 #[.string s, .string ⟨#[c]⟩] w fun e w' => e = .returned (ctup (cutB c s.data.toList)) ∧ ∃ n, w' = w.drewN n := by
  have hI := Go.Proofs.Any.stringslite_Index_one Tryd.l219 s c w
  have hI : Calls Tryd.prog 101 #[.string s, .string ⟨#[c]⟩] w fun e w' => e = .returned (.int .i64 (indexByte s.data.toList c)) ∧ w' = w := hI
  obtain ⟨r, hr⟩ : ∃ r, r = cutB c s.data.toList := ⟨_, rfl⟩
  cases hq : (cutB c s.data.toList).2.2
  · rw [idx_no hq] at hI
    have hn := (cutB_no hq).1
    have HV : Hid (ctup (cutB c s.data.toList) = .tuple #[.string s, .string ⟨#[]⟩, .bool false]) := Lib.hid (by rw [hn]; rfl)
    clear hn hq hr
    go_enter Tryd.func92, Tryd.ntmps92
    go_wp2_with (first | (go_at_call 101; refine Hid.out ?_) | go_in)
    unfold Hid
    refine hI.mono ?_
    rintro e w1 ⟨rfl, rfl⟩
    go_wp2
    go_ret3
    exact ⟨(congrArg Ending.returned HV.out).symm, 0, rfl⟩
  · rw [idx_yes hq] at hI
    have hy := (cutB_yes hq).1
    rw [← hr] at hy hI hq
    rw [← hr]
    clear hr
    obtain ⟨a, b, q⟩ := r
    have hq : q = true := hq
    subst hq
    have hy : s.data.toList = a ++ c :: b := hy
    have e1 := ext_take hy
    have e2 := ext_drop hy s.size rfl
    have hz := size_of_cut hy
    have HV : Hid (ctup (a, b, true) = .tuple #[.string (s.extract 0 a.length), .string (s.extract (a.length + 1) s.size), .bool true]) := Lib.hid (by rw [e1, e2]; rfl)
    have hI : Calls Tryd.prog 101 #[.string s, .string ⟨#[c]⟩] w fun e w' => e = .returned (.int .i64 (a.length : Int)) ∧ w' = w := hI
    obtain ⟨k, hk⟩ : ∃ k, k = a.length := ⟨_, rfl⟩
    rw [← hk] at hI HV
    have c1 : (0 : Int) ≤ (k : Int) := by omega
    have c2 : (k : Int) ≤ (s.size : Int) := by omega
    have c3 : (0 : Int) ≤ (k : Int) + 1 := by omega
    have c4 : (k : Int) + 1 ≤ (s.size : Int) := by omega
    have c5 : IntKind.i64.wrap ((k : Int) + 1) = (k : Int) + 1 := IntWalk.i64_in _ (by omega)
    have c6 : ((k : Int) + 1).toNat = k + 1 := by omega
    clear e1 e2 hy hz hk
    go_enter Tryd.func92, Tryd.ntmps92
    go_wp2_with (first | (go_at_call 101; refine Hid.out ?_) | go_in)
    unfold Hid
    refine hI.mono ?_
    rintro e w1 ⟨rfl, rfl⟩
    clear hI
    go_wp2
    go_quiet (fail)
    go_wp2
    go_ret3
    exact ⟨(congrArg Ending.returned HV.out).symm, _, rfl⟩
theorem cut_any (s : ByteArray) (c : UInt8) (hs : s.size ≤ 140737488355328) (w : World) :
    Calls Tryd.prog 73 #[.string s, .string ⟨#[c]⟩] w fun e w' => e = .returned (ctup (cutB c s.data.toList)) ∧ Below w.heap.size w w' := by
  have hC := cut92 s c hs w
  obtain ⟨r, hr⟩ : ∃ r, r = cutB c s.data.toList := ⟨_, rfl⟩
  rw [← hr] at hC ⊢
  clear hr
  unfold ctup at hC ⊢
  go_enter Tryd.func73, Tryd.ntmps73
  go_wp2_with (first | (go_at_call 92; refine Hid.out ?_) | go_in)
  unfold Hid
  refine hC.mono ?_
  rintro e w1 ⟨rfl, n, rfl⟩
  go_wp2
  go_ret3
  exact ⟨rfl, below_drewN (Below.refl _ _) n⟩
theorem cutB_cons (c b : UInt8) (l : List UInt8) : cutB c (b :: l) = if b = c then ([], l, true) else (b :: (cutB c l).1, (cutB c l).2.1, (cutB c l).2.2) := rfl
theorem cut_step {c : UInt8} {l : List UInt8} {k : Nat} {x : UInt8} (hx : l[k]? = some x) (h : x ≠ c) (hk : cutB c l = (l.take k ++ (cutB c (l.drop k)).1, (cutB c (l.drop k)).2.1, (cutB c (l.drop k)).2.2)) :
    cutB c l = (l.take (k + 1) ++ (cutB c (l.drop (k + 1))).1, (cutB c (l.drop (k + 1))).2.1, (cutB c (l.drop (k + 1))).2.2) := by
  obtain ⟨hlt, rfl⟩ := List.getElem?_eq_some_iff.1 hx
  rw [hk, List.drop_eq_getElem_cons hlt, cutB_cons, if_neg h]
  refine Prod.ext ?_ rfl
  show l.take k ++ (l[k] :: (cutB c (l.drop (k + 1))).1) = l.take (k + 1) ++ (cutB c (l.drop (k + 1))).1
  rw [take_snoc' hx, List.append_assoc]
  rfl
theorem cut_hit {c : UInt8} {l : List UInt8} {k : Nat} {x : UInt8} (hx : l[k]? = some x) (h : x = c) (hk : cutB c l = (l.take k ++ (cutB c (l.drop k)).1, (cutB c (l.drop k)).2.1, (cutB c (l.drop k)).2.2)) :
    cutB c l = (l.take k, l.drop (k + 1), true) := by
  obtain ⟨hlt, rfl⟩ := List.getElem?_eq_some_iff.1 hx
  rw [hk, List.drop_eq_getElem_cons hlt, cutB_cons, if_pos h]
  simp
set_option maxRecDepth 100000 in
set_option maxHeartbeats 1000000 in
theorem upto_any (s : ByteArray) (c : UInt8) (hs : s.size ≤ 140737488355328) (w : World) :
    Calls Tryd.prog 76 #[.string s, .int .u8 (c.toNat : Int)] w fun e w' => e = .returned (ctup (cutB c s.data.toList)) ∧ Below w.heap.size w w' := by
  obtain ⟨rv, hrv⟩ : ∃ v, v = cutB c s.data.toList := ⟨_, rfl⟩
  rw [← hrv]
  have HR : Hid (rv = (s.data.toList.take 0 ++ (cutB c (s.data.toList.drop 0)).1, (cutB c (s.data.toList.drop 0)).2.1, (cutB c (s.data.toList.drop 0)).2.2)) := Lib.hid (by rw [hrv]; rfl)
  have HE := Lib.hid hrv
  clear hrv
  go_enter Tryd.func76, Tryd.ntmps76
  go_wp2
  go_loopw [10] (fun i wr => ∃ k : Nat, k ≤ s.size ∧ i = .int .i64 k ∧ Hid (rv = (s.data.toList.take k ++ (cutB c (s.data.toList.drop k)).1, (cutB c (s.data.toList.drop k)).2.1, (cutB c (s.data.toList.drop k)).2.2)) ∧ wr = w)
    (fun i _ => s.size - (intOf i).toNat)
  case atStart => exact ⟨0, Nat.zero_le _, rfl, HR, rfl⟩
  case round =>
    clear HR
    obtain ⟨k, hk, rfl, HA, rfl⟩ := hrel
    by_cases hlt : k < s.size
    · have hx : s.data.toList[k]? = some s[k] := by
        rw [List.getElem?_eq_getElem (by simpa using hlt)]
        rfl
      by_cases he : s[k] = c
      · have hv := cut_hit hx he (HE.out.symm.trans HA.out)
        have e1 : s.extract 0 k = bs (s.data.toList.take k) := ba_inj (by rw [extract_data, bs_list]; simp)
        have e2 : s.extract (k + 1) s.size = bs (s.data.toList.drop (k + 1)) := ba_inj (by
          rw [extract_data, bs_list]
          exact List.take_of_length_le (by rw [List.length_drop, Array.length_toList]; exact Nat.le_refl _))
        have HV : Hid (ctup rv = .tuple #[.string (s.extract 0 k), .string (s.extract (k + 1) s.size), .bool true]) := Lib.hid (by rw [HE.out, hv, e1, e2]; rfl)
        have g1 : (((s[k].toNat : Nat) : Int) == ((c.toNat : Nat) : Int)) = true := by rw [he]; simp
        have c1 : (0 : Int) ≤ (k : Int) := by omega
        have c2 : (k : Int) ≤ (s.size : Int) := by omega
        have c3 : (0 : Int) ≤ (k : Int) + 1 := by omega
        have c4 : (k : Int) + 1 ≤ (s.size : Int) := by omega
        have c5 : IntKind.i64.wrap ((k : Int) + 1) = (k : Int) + 1 := IntWalk.i64_in _ (by omega)
        have c6 : ((k : Int) + 1).toNat = k + 1 := by omega
        clear hv e1 e2 hx he HA
        go_wp2
        go_quiet (fail)
        go_wp2
        go_ret3
        exact ⟨(congrArg Ending.returned HV.out).symm, below_drewN (Below.refl _ _) _⟩
      · have HB := Lib.hid (HE.out.trans (cut_step hx he (HE.out.symm.trans HA.out)))
        have g0 : ¬ s[k].toNat = c.toNat := fun h => he (UInt8.toNat_inj.1 h)
        have g1 : (((s[k].toNat : Nat) : Int) == ((c.toNat : Nat) : Int)) = false := by
          rw [beq_eq_false_iff_ne]
          omega
        clear hx he HA
        go_wp2
        go_roundw
        case rel => exact ⟨k + 1, by omega, by go_num, HB, trivial⟩
        case measure => simp [intOf]; omega
    · have hd : s.data.toList.drop k = [] := List.drop_of_length_le (by rw [Array.length_toList]; exact Nat.le_of_not_lt hlt)
      have ht : s.data.toList.take k = s.data.toList := List.take_of_length_le (by rw [Array.length_toList]; exact Nat.le_of_not_lt hlt)
      have HV : Hid (ctup rv = .tuple #[.string s, .string ⟨#[]⟩, .bool false]) := Lib.hid (by rw [HA.out, hd, ht]; simp [cutB, ctup, bs])
      have hle : s.size ≤ k := by omega
      clear HA hd ht
      go_wp2
      go_ret3
      exact ⟨(congrArg Ending.returned HV.out).symm, Below.refl _ _⟩
end Go.Proofs.YtmcjgfoaiannoabDoor
