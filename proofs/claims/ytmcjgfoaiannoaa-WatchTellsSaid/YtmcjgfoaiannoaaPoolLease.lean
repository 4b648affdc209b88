/-
  Whether an ask holds a lease: the closure of pool.Ask, slices.IndexFunc and slices.ContainsFunc at it. Conditions: the length bounds that the reach pays.
-/
import Derived.Test.YtmcjgfoaiannoaaPoolIdx
namespace Go.Proofs.Ytmcjgfoaiannoaa
open Go.RowKit

def leaseP (id : Int) (h : Int × Int × Int) : Bool := h.1 == id && h.2.1 == 2
theorem lease_any (h0 h1 h2 id : Int) (B : Nat) (w : World) (hB : B < w.heap.size) (hc : w.cell? ⟨B, 0, none⟩ = some (.int .i64 id)) :
    Calls Try.prog 58 #[.agg #[.int .i64 h0, .int .i64 h1, .int .i64 h2], .pointer (some ⟨B, 0, none⟩)] w fun e w' => e = .returned (.bool (leaseP id (h0, h1, h2))) ∧ Below w.heap.size w w' := by
  go_enter Try.func58, Try.ntmps58
  cases hq : (h0 == id) with
  | true =>
    go_wp2
    go_ret
    exact ⟨by simp [leaseP, hq], (Below.refl _ _).alloc (Nat.le_refl _) _⟩
  | false =>
    go_wp2
    go_ret
    exact ⟨by simp [leaseP, hq], (Below.refl _ _).alloc (Nat.le_refl _) _⟩
set_option maxHeartbeats 400000 in
theorem leaseIdx_any (A : Option Addr) (c : Nat) (l : List (Int × Int × Int)) (id : Int) (G : Nat) (w : World) (hr : Rd 3 encH w w.heap.size A l) (hn : l.length ≤ 140737488355328) (hG : G < w.heap.size) (hg : w.cell? ⟨G, 0, none⟩ = some (.int .i64 id)) :
    Calls Try.prog 65 #[.slice A l.length c, .func (.func 58) #[] #[.pointer (some ⟨G, 0, none⟩)]] w fun e w' => e = .returned (.int .i64 (idxP (leaseP id) l)) ∧ Below w.heap.size w w' := by
  go_enter Try.func65, Try.ntmps65
  go_wp2
  go_loopw [8] (fun i wr => ∃ k : Nat, k ≤ l.length ∧ i = .int .i64 k ∧ Below w.heap.size w wr ∧ ∀ y ∈ l.take k, leaseP id y = false)
    (fun i _ => l.length - (intOf i).toNat)
  case atStart => exact ⟨0, Nat.zero_le _, rfl, Below.refl _ _, by simp⟩
  case round =>
    obtain ⟨k, hk, rfl, hb, hno⟩ := hrel
    by_cases hlt : k < l.length
    · obtain ⟨b, off, x, y, z, rfl, hbB, hy, c0, c1, c2⟩ := (hr.below hb).atH hlt
      have HN := Lib.hid hno
      have HY := Lib.hid hy
      have hg' : wr.cell? ⟨G, 0, none⟩ = some (.int .i64 id) := (hb.cell (p := ⟨G, 0, none⟩) hG).trans hg
      clear hno hy
      go_wp2_with (go_at_call 58; refine Hid.out ?_)
      unfold Hid
      refine (lease_any x y z id G wr (by have := hb.size; omega) hg').mono ?_
      rintro e v ⟨rfl, hb1⟩
      have hbv := hb.trans (hb1.mono hb.size)
      cases hp : leaseP id (x, y, z) with
      | true =>
        go_wp2
        go_ret
        exact ⟨by rw [idxP_hit HY.out hp HN.out]; rfl, hbv⟩
      | false =>
        go_wp2
        go_roundw
        case rel =>
          refine ⟨k + 1, by omega, by go_num, hbv, ?_⟩
          rw [take_snoc' HY.out]
          intro z hz
          rcases List.mem_append.1 hz with hz | hz
          · exact HN.out z hz
          · simp at hz
            subst hz
            exact hp
        case measure => simp [intOf]; omega
    · obtain rfl : k = l.length := by omega
      rw [List.take_length] at hno
      have HN := Lib.hid hno
      clear hno
      go_wp2
      go_ret
      exact ⟨by rw [idxP_none HN.out]; rfl, hb⟩
set_option maxHeartbeats 400000 in
theorem leases_any (A : Option Addr) (c : Nat) (l : List (Int × Int × Int)) (id : Int) (G : Nat) (w : World) (hr : Rd 3 encH w w.heap.size A l) (hn : l.length ≤ 140737488355328) (hG : G < w.heap.size) (hg : w.cell? ⟨G, 0, none⟩ = some (.int .i64 id)) :
    Calls Try.prog 57 #[.slice A l.length c, .func (.func 58) #[] #[.pointer (some ⟨G, 0, none⟩)]] w fun e w' => e = .returned (.bool (l.any (leaseP id))) ∧ Below w.heap.size w w' := by
  go_enter Try.func57, Try.ntmps57
  go_wp2_with (go_at_call 65; refine Hid.out ?_)
  unfold Hid
  refine (leaseIdx_any A c l id G w hr hn hG hg).mono ?_
  rintro e w1 ⟨rfl, hb⟩
  have HA := Lib.hid (idxP_any (leaseP id) l)
  go_wp2
  go_ret
  exact ⟨by rw [← HA.out]; rfl, hb⟩
end Go.Proofs.Ytmcjgfoaiannoaa
