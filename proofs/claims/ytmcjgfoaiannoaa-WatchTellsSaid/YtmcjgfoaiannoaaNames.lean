/-
  Each constant of package api has its value: the closed law Names returns true. No condition.
-/
import Derived.Test.YtmcjgfoaiannoaaFrame
import Derived.Deep.QuietTactic
import Derived.BigQuiet
import Derived.Lib.Hide
namespace Go.Proofs.Ytmcjgfoaiannoaa
open Go.ChangeShapes Go.WideShapes Go.ChangeAt Go.RowKit
theorem below_drewN {B : Nat} {a w : World} (h : Below B a w) (n : Nat) : Below B a (w.drewN n) := ⟨h.os, h.tape, h.output, h.size, h.block⟩
theorem cell_of_blk {w : World} {b : Nat} {t : TypeId} {cs : Array Value} {fr : Nat × Nat} (h : w.heap[b]? = some (.cells cs t fr)) (i : Nat) : w.cell? ⟨b, i, none⟩ = cs[i]? := by
  simp [World.cell?, h]
theorem cells_int_new (w : World) (l : List Int) (t : TypeId) (cs : Array Value) (h : cs = (l.map (Value.int .i64)).toArray) (j : Nat) (hj : j < l.length) : (w.alloc (.cells cs t)).cell? ⟨w.heap.size, j, none⟩ = some (.int .i64 (l[j]?.getD 0)) := by
  rw [cell_of_blk (heap_alloc_new _ _), h]
  simp [hj]
def errsL : List Int := [0, 1, 2, 3, 4, 5, 6, 7, 8, 9, 10]
def wantL : List Int := [24, 6, 8, 20, 40, 1, 2, 3, 4, 5, 6, 7, 1, 2, 3, 4, 5, 0, 1, 2, 3, 4, 5, 6, 1, 2, 3, 4, 5, 6, 7, 1, 2, 4, 6, 4, 8, 4, 1, 2, 3, 1, 2, 3, 4, 5, 6, 1, 2, 3, 200, 5000]
set_option maxRecDepth 100000 in
set_option maxHeartbeats 400000 in
theorem names_any (w : World) :
    Calls Try.prog 12 #[] w fun e w' => e = .returned (.bool true) ∧ Below w.heap.size w w' := by
  go_enter Try.func12, Try.ntmps12
  go_wp2
  go_loopw [10] (fun i wr => ∃ k : Nat, k ≤ 11 ∧ i = .int .i64 k ∧ Below w.heap.size w wr ∧ w.heap.size < wr.heap.size ∧ ∀ j : Nat, j < 11 → wr.cell? ⟨w.heap.size, j, none⟩ = some (.int .i64 (errsL[j]?.getD 0)))
    (fun i _ => 11 - (intOf i).toNat)
  case atStart => exact ⟨0, by omega, rfl, (Below.refl _ _).alloc (Nat.le_refl _) _, by simp, fun j hj => cells_int_new w errsL _ _ rfl j hj⟩
  case round =>
    obtain ⟨k, hk, rfl, hb, hz, hc⟩ := hrel
    by_cases hlt : k < 11
    · have c0 : wr.cell? ⟨w.heap.size, k, none⟩ = some (.int .i64 k) := by
        rw [hc k hlt]
        match k, hlt with
        | 0, _ | 1, _ | 2, _ | 3, _ | 4, _ | 5, _ | 6, _ | 7, _ | 8, _ | 9, _ | 10, _ => rfl
      have HC := Lib.hid hc
      clear hc
      go_wp2
      go_roundw
      case rel => exact ⟨k + 1, by omega, by go_num, hb, hz, HC.out⟩
      case measure => simp [intOf]; omega
    · obtain rfl : k = 11 := by omega
      clear hc
      go_wp2
      go_loopw [23] (fun i w2 => ∃ k : Nat, k ≤ 52 ∧ i = .int .i64 k ∧ Below w.heap.size w w2 ∧ ∀ j : Nat, j < 52 → w2.cell? ⟨wr.heap.size, j, none⟩ = some (.int .i64 (wantL[j]?.getD 0)) ∧ w2.cell? ⟨wr.heap.size + 1, j, none⟩ = some (.int .i64 (wantL[j]?.getD 0)))
        (fun i _ => 52 - (intOf i).toNat)
      case atStart => exact ⟨0, by omega, rfl, (hb.alloc (by omega) _).alloc (by simp; omega) _, fun j hj => ⟨(World.cell?_alloc_lt _ _ _ (by simp)).trans (cells_int_new wr wantL _ _ rfl j hj), by
        have := cells_int_new (wr.alloc (.cells ((wantL.map (Value.int .i64)).toArray) 3)) wantL 3 _ rfl j hj
        rw [World.size_alloc] at this
        exact this⟩⟩
      case round =>
        obtain ⟨k, hk, rfl, hb2, hc⟩ := hrel
        by_cases hlt : k < 52
        · obtain ⟨c0, c1⟩ := hc k hlt
          have HC := Lib.hid hc
          clear hc
          go_wp2
          go_quiet (fail)
          go_wp2
          go_roundw
          case rel => exact ⟨k + 1, by omega, by go_num, below_drewN hb2 _, HC.out⟩
          case measure => simp [intOf]; omega
        · obtain rfl : k = 52 := by omega
          go_wp2
          go_ret
          exact ⟨rfl, hb2⟩
set_option maxRecDepth 100000 in
theorem names_lifted (os : Os) (started : os.Started) (H : Type) (enc : TypeId × Value → H) :
    ReturnsInHanded {} Try.checked os 12 .any (Rows.namesSpec.pre6 enc Try.prog Try.f12 [] false) (Rows.namesSpec.post enc Try.prog Try.f12 false true false false) :=
  lifted_of (C := Try.checked) own laidOut os started 12 Try.f12 Rows.namesSpec Try.func12 (by kernel_rfl) rfl
    (fun ds h => by
      rw [Try.params12] at h
      match ds, h with
      | [], _ => rfl) 4 Try.underlying4 rfl (by kernel_rfl)
    (ChangeSpec.witness6 (enc := enc) (C := Try.checked) false ⟨#[], #[], []⟩ 8 (by kernel_rfl) (by kernel_rfl) (by kernel_rfl) (by kernel_rfl))
    (fun W _ args ds ps _ hA _ _ => by
      rw [Try.params12] at hA
      obtain ⟨h0, -, -⟩ := trodAll_nil hA
      obtain rfl : args = #[] := by cases args; simp_all
      exact names_any W)
theorem names_holds : Rows.NamesSaid :=
  OpenClaim.holds_of_wide 12 Try.f12 rfl rfl rfl rfl rfl rfl rfl ⟨rfl, rfl, rfl, rfl, rfl⟩ rfl rfl rfl rfl rfl (by kernel_rfl) Try.func12 (by kernel_rfl)
    (of_decide_eq_true (by kernel_rfl)) (by unfold Func.isWrapper; first | (rw [if_pos (by decide +kernel)]; kernel_rfl) | (rw [if_neg (by decide +kernel)]; exact ⟨rfl, rfl⟩))
    (fun os started H enc _ => names_lifted os started H enc)
#print axioms names_holds
end Go.Proofs.Ytmcjgfoaiannoaa
