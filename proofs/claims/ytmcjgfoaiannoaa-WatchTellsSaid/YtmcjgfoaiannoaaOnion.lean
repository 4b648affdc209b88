/-
  Onion of watch: whether calls are in order. Condition: the length bound that the reach pays.
-/
import Derived.Test.YtmcjgfoaiannoaaNames
import Derived.Test.YtmcjgfoaiannoaaLed1
namespace Go.Proofs.Ytmcjgfoaiannoaa
open Go.RowKit

/-- one call more: the call and the place where it stands; none: it is out of order -/
def stepW (s : Int × Int) (m : Int × Int × Int) : Option (Int × Int) :=
  if m.2.2 = 5 then (if s.1 = 1 ∨ s.1 = 2 then some (2, 6) else none)
  else if m.2.2 < s.1 then (if s.1 = 2 ∧ m.2.2 = 1 then (if m.2.1 ≤ s.2 then none else some (1, m.2.1)) else none)
  else
    if m.2.2 = 1 then (if m.2.1 ≤ (if s.1 < m.2.2 then 6 else s.2) then none else some (1, m.2.1))
    else if m.2.2 = 2 ∨ m.2.2 = 3 then (if (if s.1 < m.2.2 then 6 else s.2) ≤ m.2.1 then none else some (m.2.2, m.2.1))
    else some (m.2.2, if s.1 < m.2.2 then 6 else s.2)
def onW (l : List (Int × Int × Int)) : Option (Int × Int) := l.foldl (fun s m => s.bind (stepW · m)) (some (1, -1))
theorem onW_snoc (l : List (Int × Int × Int)) (m : Int × Int × Int) : onW (l ++ [m]) = (onW l).bind (stepW · m) := by
  simp [onW, List.foldl_append]
theorem onW_none {a b : List (Int × Int × Int)} (h : onW a = none) : onW (a ++ b) = none := by
  unfold onW at h ⊢
  rw [List.foldl_append, h]
  induction b with
  | nil => rfl
  | cons m b ih => simpa using ih
theorem onW_stop {l : List (Int × Int × Int)} {k : Nat} (h : onW (l.take k) = none) : onW l = none := by
  have := onW_none (b := l.drop k) h
  rwa [List.take_append_drop] at this
set_option maxRecDepth 100000 in
set_option maxHeartbeats 4000000 in
theorem onion_any (A : Option Addr) (c : Nat) (l : List (Int × Int × Int)) (w : World) (hr : Rd 3 encH w w.heap.size A l) (hn : l.length * 24 ≤ 140737488355328) :
    Calls Try.prog 44 #[.slice A l.length c] w fun e w' => e = .returned (.bool (onW l).isSome) ∧ Below w.heap.size w w' := by
  go_enter Try.func44, Try.ntmps44
  go_wp2
  go_loopw [3, 4, 9] (fun cl at_ i wr => ∃ (k : Nat) (s t : Int), k ≤ l.length ∧ i = .int .i64 k ∧ cl = .int .i64 s ∧ at_ = .int .i64 t ∧ Hid (onW (l.take k) = some (s, t)) ∧ Below w.heap.size w wr)
    (fun _ _ i _ => l.length - (intOf i).toNat)
  case atStart => exact ⟨0, 1, -1, Nat.zero_le _, rfl, rfl, rfl, Lib.hid rfl, Below.refl _ _⟩
  case round =>
    obtain ⟨k, s, t, hk, rfl, rfl, rfl, HO, hB⟩ := hrel
    by_cases hlt : k < l.length
    · obtain ⟨b, off, x, y, z, rfl, hbB, hx, d0, d1, d2⟩ := (hr.below hB).atH hlt
      have HS := Lib.hid (show onW (l.take (k + 1)) = stepW (s, t) (x, y, z) by rw [take_snoc' hx, onW_snoc, HO.out]; rfl)
      clear hx
      by_cases z5 : z = 5
      · subst z5
        by_cases s1 : s = 1
        · subst s1
          have hst : stepW (1, t) (x, y, 5) = some (2, 6) := by
            first
            | (simp [stepW]; done)
            | (simp [stepW]; omega)
            | (simp only [stepW]
               repeat' split
               all_goals first | rfl | (exfalso; omega) | (exfalso; simp_all; done) | (exfalso; simp_all; omega))
          have HT := Lib.hid (HS.out.trans hst)
          clear hst HS
          go_wp2
          go_roundw
          case rel => exact ⟨k + 1, 2, 6, by omega, by go_num, rfl, rfl, HT, hB.alloc hB.size _⟩
          case measure => simp [intOf] <;> omega
        by_cases s2 : s = 2
        · subst s2
          have hst : stepW (2, t) (x, y, 5) = some (2, 6) := by
            first
            | (simp [stepW]; done)
            | (simp [stepW]; omega)
            | (simp only [stepW]
               repeat' split
               all_goals first | rfl | (exfalso; omega) | (exfalso; simp_all; done) | (exfalso; simp_all; omega))
          have HT := Lib.hid (HS.out.trans hst)
          clear hst HS
          go_wp2
          go_roundw
          case rel => exact ⟨k + 1, 2, 6, by omega, by go_num, rfl, rfl, HT, hB.alloc hB.size _⟩
          case measure => simp [intOf] <;> omega
        · skip
          have qs1 : (s == 1) = false := by simp; omega
          have ps1 : (s != 1) = true := by simp; omega
          have qs2 : (s == 2) = false := by simp; omega
          have ps2 : (s != 2) = true := by simp; omega
          have hst : stepW (s, t) (x, y, 5) = none := by
            first
            | (simp [stepW]; done)
            | (simp [stepW]; omega)
            | (simp only [stepW]
               repeat' split
               all_goals first | rfl | (exfalso; omega) | (exfalso; simp_all; done) | (exfalso; simp_all; omega))
          have HT := Lib.hid (onW_stop (HS.out.trans hst))
          clear hst HS
          go_wp2
          go_ret
          rw [HT.out]
          exact ⟨rfl, hB.alloc hB.size _⟩
      have qz5 : (z == 5) = false := by simp; omega
      by_cases zs : z < s
      · by_cases s2 : s = 2
        · subst s2
          by_cases z1 : z = 1
          · subst z1
            by_cases yt : y ≤ t
            · skip
              have hst : stepW (2, t) (x, y, 1) = none := by
                first
                | (simp [stepW]; done)
                | (simp [stepW]; omega)
                | (simp only [stepW]
                   repeat' split
                   all_goals first | rfl | (exfalso; omega) | (exfalso; simp_all; done) | (exfalso; simp_all; omega))
              have HT := Lib.hid (onW_stop (HS.out.trans hst))
              clear hst HS
              go_wp2
              go_ret
              rw [HT.out]
              exact ⟨rfl, hB.alloc hB.size _⟩
            · skip
              have hst : stepW (2, t) (x, y, 1) = some (1, y) := by
                first
                | (simp [stepW]; done)
                | (simp [stepW]; omega)
                | (simp only [stepW]
                   repeat' split
                   all_goals first | rfl | (exfalso; omega) | (exfalso; simp_all; done) | (exfalso; simp_all; omega))
              have HT := Lib.hid (HS.out.trans hst)
              clear hst HS
              go_wp2
              go_roundw
              case rel => exact ⟨k + 1, 1, y, by omega, by go_num, rfl, rfl, HT, hB.alloc hB.size _⟩
              case measure => simp [intOf] <;> omega
          · skip
            have qz1 : (z == 1) = false := by simp; omega
            have pz1 : (z != 1) = true := by simp; omega
            have hst : stepW (2, t) (x, y, z) = none := by
              first
              | (simp [stepW]; done)
              | (simp [stepW]; omega)
              | (simp only [stepW]
                 repeat' split
                 all_goals first | rfl | (exfalso; omega) | (exfalso; simp_all; done) | (exfalso; simp_all; omega))
            have HT := Lib.hid (onW_stop (HS.out.trans hst))
            clear hst HS
            go_wp2
            go_ret
            rw [HT.out]
            exact ⟨rfl, hB.alloc hB.size _⟩
        · skip
          have qs2 : (s == 2) = false := by simp; omega
          have ps2 : (s != 2) = true := by simp; omega
          have hst : stepW (s, t) (x, y, z) = none := by
            first
            | (simp [stepW]; done)
            | (simp [stepW]; omega)
            | (simp only [stepW]
               repeat' split
               all_goals first | rfl | (exfalso; omega) | (exfalso; simp_all; done) | (exfalso; simp_all; omega))
          have HT := Lib.hid (onW_stop (HS.out.trans hst))
          clear hst HS
          go_wp2
          go_ret
          rw [HT.out]
          exact ⟨rfl, hB.alloc hB.size _⟩
      by_cases sz : s < z
      · skip
        by_cases z1 : z = 1
        · subst z1
          by_cases yt : y ≤ 6
          · skip
            have hst : stepW (s, t) (x, y, 1) = none := by
              first
              | (simp [stepW]; done)
              | (simp [stepW]; omega)
              | (simp only [stepW]
                 repeat' split
                 all_goals first | rfl | (exfalso; omega) | (exfalso; simp_all; done) | (exfalso; simp_all; omega))
            have HT := Lib.hid (onW_stop (HS.out.trans hst))
            clear hst HS
            go_wp2
            go_ret
            rw [HT.out]
            exact ⟨rfl, hB.alloc hB.size _⟩
          · skip
            have hst : stepW (s, t) (x, y, 1) = some (1, y) := by
              first
              | (simp [stepW]; done)
              | (simp [stepW]; omega)
              | (simp only [stepW]
                 repeat' split
                 all_goals first | rfl | (exfalso; omega) | (exfalso; simp_all; done) | (exfalso; simp_all; omega))
            have HT := Lib.hid (HS.out.trans hst)
            clear hst HS
            go_wp2
            go_roundw
            case rel => exact ⟨k + 1, 1, y, by omega, by go_num, rfl, rfl, HT, hB.alloc hB.size _⟩
            case measure => simp [intOf] <;> omega
        by_cases z2 : z = 2
        · subst z2
          by_cases yt : 6 ≤ y
          · skip
            have hst : stepW (s, t) (x, y, 2) = none := by
              first
              | (simp [stepW]; done)
              | (simp [stepW]; omega)
              | (simp only [stepW]
                 repeat' split
                 all_goals first | rfl | (exfalso; omega) | (exfalso; simp_all; done) | (exfalso; simp_all; omega))
            have HT := Lib.hid (onW_stop (HS.out.trans hst))
            clear hst HS
            go_wp2
            go_ret
            rw [HT.out]
            exact ⟨rfl, hB.alloc hB.size _⟩
          · skip
            have hst : stepW (s, t) (x, y, 2) = some (2, y) := by
              first
              | (simp [stepW]; done)
              | (simp [stepW]; omega)
              | (simp only [stepW]
                 repeat' split
                 all_goals first | rfl | (exfalso; omega) | (exfalso; simp_all; done) | (exfalso; simp_all; omega))
            have HT := Lib.hid (HS.out.trans hst)
            clear hst HS
            go_wp2
            go_roundw
            case rel => exact ⟨k + 1, 2, y, by omega, by go_num, rfl, rfl, HT, hB.alloc hB.size _⟩
            case measure => simp [intOf] <;> omega
        by_cases z3 : z = 3
        · subst z3
          by_cases yt : 6 ≤ y
          · skip
            have hst : stepW (s, t) (x, y, 3) = none := by
              first
              | (simp [stepW]; done)
              | (simp [stepW]; omega)
              | (simp only [stepW]
                 repeat' split
                 all_goals first | rfl | (exfalso; omega) | (exfalso; simp_all; done) | (exfalso; simp_all; omega))
            have HT := Lib.hid (onW_stop (HS.out.trans hst))
            clear hst HS
            go_wp2
            go_ret
            rw [HT.out]
            exact ⟨rfl, hB.alloc hB.size _⟩
          · skip
            have hst : stepW (s, t) (x, y, 3) = some (3, y) := by
              first
              | (simp [stepW]; done)
              | (simp [stepW]; omega)
              | (simp only [stepW]
                 repeat' split
                 all_goals first | rfl | (exfalso; omega) | (exfalso; simp_all; done) | (exfalso; simp_all; omega))
            have HT := Lib.hid (HS.out.trans hst)
            clear hst HS
            go_wp2
            go_roundw
            case rel => exact ⟨k + 1, 3, y, by omega, by go_num, rfl, rfl, HT, hB.alloc hB.size _⟩
            case measure => simp [intOf] <;> omega
        have qz1 : (z == 1) = false := by simp; omega
        have pz1 : (z != 1) = true := by simp; omega
        have qz2 : (z == 2) = false := by simp; omega
        have pz2 : (z != 2) = true := by simp; omega
        have qz3 : (z == 3) = false := by simp; omega
        have pz3 : (z != 3) = true := by simp; omega
        have hst : stepW (s, t) (x, y, z) = some (z, 6) := by
          first
          | (simp [stepW]; done)
          | (simp [stepW]; omega)
          | (simp only [stepW]
             repeat' split
             all_goals first | rfl | (exfalso; omega) | (exfalso; simp_all; done) | (exfalso; simp_all; omega))
        have HT := Lib.hid (HS.out.trans hst)
        clear hst HS
        go_wp2
        go_roundw
        case rel => exact ⟨k + 1, z, 6, by omega, by go_num, rfl, rfl, HT, hB.alloc hB.size _⟩
        case measure => simp [intOf] <;> omega
      · have e : z = s := by omega
        subst e
        by_cases z1 : z = 1
        · subst z1
          by_cases yt : y ≤ t
          · skip
            have hst : stepW (1, t) (x, y, 1) = none := by
              first
              | (simp [stepW]; done)
              | (simp [stepW]; omega)
              | (simp only [stepW]
                 repeat' split
                 all_goals first | rfl | (exfalso; omega) | (exfalso; simp_all; done) | (exfalso; simp_all; omega))
            have HT := Lib.hid (onW_stop (HS.out.trans hst))
            clear hst HS
            go_wp2
            go_ret
            rw [HT.out]
            exact ⟨rfl, hB.alloc hB.size _⟩
          · skip
            have hst : stepW (1, t) (x, y, 1) = some (1, y) := by
              first
              | (simp [stepW]; done)
              | (simp [stepW]; omega)
              | (simp only [stepW]
                 repeat' split
                 all_goals first | rfl | (exfalso; omega) | (exfalso; simp_all; done) | (exfalso; simp_all; omega))
            have HT := Lib.hid (HS.out.trans hst)
            clear hst HS
            go_wp2
            go_roundw
            case rel => exact ⟨k + 1, 1, y, by omega, by go_num, rfl, rfl, HT, hB.alloc hB.size _⟩
            case measure => simp [intOf] <;> omega
        by_cases z2 : z = 2
        · subst z2
          by_cases yt : t ≤ y
          · skip
            have hst : stepW (2, t) (x, y, 2) = none := by
              first
              | (simp [stepW]; done)
              | (simp [stepW]; omega)
              | (simp only [stepW]
                 repeat' split
                 all_goals first | rfl | (exfalso; omega) | (exfalso; simp_all; done) | (exfalso; simp_all; omega))
            have HT := Lib.hid (onW_stop (HS.out.trans hst))
            clear hst HS
            go_wp2
            go_ret
            rw [HT.out]
            exact ⟨rfl, hB.alloc hB.size _⟩
          · skip
            have hst : stepW (2, t) (x, y, 2) = some (2, y) := by
              first
              | (simp [stepW]; done)
              | (simp [stepW]; omega)
              | (simp only [stepW]
                 repeat' split
                 all_goals first | rfl | (exfalso; omega) | (exfalso; simp_all; done) | (exfalso; simp_all; omega))
            have HT := Lib.hid (HS.out.trans hst)
            clear hst HS
            go_wp2
            go_roundw
            case rel => exact ⟨k + 1, 2, y, by omega, by go_num, rfl, rfl, HT, hB.alloc hB.size _⟩
            case measure => simp [intOf] <;> omega
        by_cases z3 : z = 3
        · subst z3
          by_cases yt : t ≤ y
          · skip
            have hst : stepW (3, t) (x, y, 3) = none := by
              first
              | (simp [stepW]; done)
              | (simp [stepW]; omega)
              | (simp only [stepW]
                 repeat' split
                 all_goals first | rfl | (exfalso; omega) | (exfalso; simp_all; done) | (exfalso; simp_all; omega))
            have HT := Lib.hid (onW_stop (HS.out.trans hst))
            clear hst HS
            go_wp2
            go_ret
            rw [HT.out]
            exact ⟨rfl, hB.alloc hB.size _⟩
          · skip
            have hst : stepW (3, t) (x, y, 3) = some (3, y) := by
              first
              | (simp [stepW]; done)
              | (simp [stepW]; omega)
              | (simp only [stepW]
                 repeat' split
                 all_goals first | rfl | (exfalso; omega) | (exfalso; simp_all; done) | (exfalso; simp_all; omega))
            have HT := Lib.hid (HS.out.trans hst)
            clear hst HS
            go_wp2
            go_roundw
            case rel => exact ⟨k + 1, 3, y, by omega, by go_num, rfl, rfl, HT, hB.alloc hB.size _⟩
            case measure => simp [intOf] <;> omega
        have qz1 : (z == 1) = false := by simp; omega
        have pz1 : (z != 1) = true := by simp; omega
        have qz2 : (z == 2) = false := by simp; omega
        have pz2 : (z != 2) = true := by simp; omega
        have qz3 : (z == 3) = false := by simp; omega
        have pz3 : (z != 3) = true := by simp; omega
        have hst : stepW (z, t) (x, y, z) = some (z, t) := by
          first
          | (simp [stepW]; done)
          | (simp [stepW]; omega)
          | (simp only [stepW]
             repeat' split
             all_goals first | rfl | (exfalso; omega) | (exfalso; simp_all; done) | (exfalso; simp_all; omega))
        have HT := Lib.hid (HS.out.trans hst)
        clear hst HS
        go_wp2
        go_roundw
        case rel => exact ⟨k + 1, z, t, by omega, by go_num, rfl, rfl, HT, hB.alloc hB.size _⟩
        case measure => simp [intOf] <;> omega
    · obtain rfl : k = l.length := by omega
      have h9 : onW l = some (s, t) := by have := HO.out; rwa [List.take_length] at this
      have HT := Lib.hid h9
      clear h9
      go_wp2
      go_ret
      rw [HT.out]
      exact ⟨rfl, hB⟩
end Go.Proofs.Ytmcjgfoaiannoaa
