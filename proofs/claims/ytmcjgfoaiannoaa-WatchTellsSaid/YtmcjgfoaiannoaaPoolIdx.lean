/-
  slices.Index and slices.Contains over ints; whether an ask holds a lease. Conditions: the length bounds that the reach pays.
-/
import Derived.Test.YtmcjgfoaiannoaaPoolBase
namespace Go.Proofs.Ytmcjgfoaiannoaa
open Go.RowKit

/-- where x stands first, or -1 -/
def idxP {α : Type} (p : α → Bool) (l : List α) : Int := match l.findIdx? p with | some i => (i : Int) | none => -1
theorem idxP_hit {α : Type} {p : α → Bool} {l : List α} {i : Nat} {x : α} (h : l[i]? = some x) (hp : p x = true) (hn : ∀ y ∈ l.take i, p y = false) : idxP p l = i := by
  have : l.findIdx? p = some i := by
    rw [List.findIdx?_eq_some_iff_getElem]
    obtain ⟨hi, rfl⟩ := List.getElem?_eq_some_iff.1 h
    refine ⟨hi, hp, fun j hj => ?_⟩
    have := hn (l[j]'(by omega)) (List.mem_take_iff_getElem.2 ⟨j, by omega, rfl⟩)
    simp [this]
  simp [idxP, this]
theorem idxP_none {α : Type} {p : α → Bool} {l : List α} (hn : ∀ y ∈ l, p y = false) : idxP p l = -1 := by
  have : l.findIdx? p = none := by
    rw [List.findIdx?_eq_none_iff]
    exact hn
  simp [idxP, this]
theorem idxP_any {α : Type} (p : α → Bool) (l : List α) : decide (0 ≤ idxP p l) = l.any p := by
  unfold idxP
  cases h : l.findIdx? p with
  | none =>
    rw [List.findIdx?_eq_none_iff] at h
    have : l.any p = false := by simpa using h
    simp [this]
  | some i =>
    rw [List.findIdx?_eq_some_iff_getElem] at h
    obtain ⟨hi, hp, -⟩ := h
    have : l.any p = true := List.any_eq_true.2 ⟨_, List.getElem_mem hi, hp⟩
    simp [this]

set_option maxHeartbeats 400000 in
theorem indexI_any (A : Option Addr) (c : Nat) (l : List Int) (x : Int) (w : World) (B : Nat) (hr : Rd 1 encI w B A l) (hn : l.length ≤ 140737488355328) :
    Calls Try.prog 64 #[.slice A l.length c, .int .i64 x] w fun e w' => e = .returned (.int .i64 (idxP (· == x) l)) ∧ w' = w := by
  go_enter Try.func64, Try.ntmps64
  go_wp2
  go_loopw [8] (fun i wr => ∃ k : Nat, k ≤ l.length ∧ i = .int .i64 k ∧ wr = w ∧ ∀ y ∈ l.take k, (y == x) = false)
    (fun i _ => l.length - (intOf i).toNat)
  case atStart => exact ⟨0, Nat.zero_le _, rfl, rfl, by simp⟩
  case round =>
    obtain ⟨k, hk, rfl, rfl, hno⟩ := hrel
    by_cases hlt : k < l.length
    · obtain ⟨b, off, y, rfl, hbB, hy, c0⟩ := hr.atI hlt
      have HN := Lib.hid hno
      have HY := Lib.hid hy
      clear hno hy
      by_cases ht : y = x
      · subst ht
        go_wp2
        go_ret
        exact ⟨by rw [idxP_hit HY.out (by simp) HN.out]; rfl, rfl⟩
      · have ht' : (x == y) = false := by simp [Ne.symm ht]
        have HT := Lib.hid ht
        clear ht
        go_wp2
        go_roundw
        case rel =>
          refine ⟨k + 1, by omega, by go_num, trivial, ?_⟩
          rw [take_snoc' HY.out]
          intro z hz
          rcases List.mem_append.1 hz with hz | hz
          · exact HN.out z hz
          · simp at hz
            subst hz
            simp [HT.out]
        case measure => simp [intOf]; omega
    · obtain rfl : k = l.length := by omega
      rw [List.take_length] at hno
      have HN := Lib.hid hno
      clear hno
      go_wp2
      go_ret
      exact ⟨by rw [idxP_none HN.out]; rfl, rfl⟩
set_option maxHeartbeats 400000 in
theorem containsI_any (A : Option Addr) (c : Nat) (l : List Int) (x : Int) (w : World) (B : Nat) (hr : Rd 1 encI w B A l) (hn : l.length ≤ 140737488355328) :
    Calls Try.prog 56 #[.slice A l.length c, .int .i64 x] w fun e w' => e = .returned (.bool (l.any (· == x))) ∧ w' = w := by
  go_enter Try.func56, Try.ntmps56
  go_wp2_with (go_at_call 64; refine Hid.out ?_)
  unfold Hid
  refine (indexI_any A c l x w B hr hn).mono ?_
  rintro e w1 ⟨rfl, rfl⟩
  have HA := Lib.hid (idxP_any (· == x) l)
  go_wp2
  go_ret
  exact ⟨by rw [← HA.out]; rfl, rfl⟩
end Go.Proofs.Ytmcjgfoaiannoaa
