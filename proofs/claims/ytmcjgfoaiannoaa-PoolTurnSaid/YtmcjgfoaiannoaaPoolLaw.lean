/-
  Plain facts of the pool laws: what asks one behind the other make of the world. No condition.
-/
import Derived.Test.YtmcjgfoaiannoaaPoolAlive
namespace Go.Proofs.Ytmcjgfoaiannoaa
open Go.RowKit

def hOf (i : Int) : Int × Int × Int := (i, 2, -1)
def idsF (j : Nat) : List Int := (List.range j).map fun (i : Nat) => (i : Int)
def queueF (M k : Nat) : List Int := (List.range' M (k - M)).map fun (i : Nat) => (i : Int)
/-- the world behind k asks, when M may be asked at once -/
def stP (M k : Nat) : WD := wdM M ((idsF (min k M)).map hOf) (queueF M k)

theorem countK_hOf (l : List Int) : countK (l.map hOf) 2 = l.length := by
  induction l with
  | nil => rfl
  | cons x l ih => simpa [countK, hOf] using ih
theorem leaseP_hOf (id : Int) (l : List Int) : (l.map hOf).any (leaseP id) = l.any (· == id) := by
  rw [List.any_map]
  congr 1
  funext x
  simp [leaseP, hOf]
theorem queueF_succ (M k : Nat) (h : M ≤ k) : queueF M (k + 1) = queueF M k ++ [(k : Int)] := by
  unfold queueF
  rw [show k + 1 - M = (k - M) + 1 by omega, List.range'_concat]
  simp
  omega
theorem queueF_nil (M k : Nat) (h : k ≤ M) : queueF M k = [] := by
  unfold queueF
  rw [show k - M = 0 by omega]
  rfl
theorem queueF_len (M k : Nat) : (queueF M k).length = k - M := by simp [queueF]
theorem queueF_mem (M k : Nat) (x : Int) (h : x ∈ queueF M k) : (M : Int) ≤ x ∧ x < k := by
  unfold queueF at h
  simp only [List.mem_map, List.mem_range'_1] at h
  obtain ⟨i, hi, rfl⟩ := h
  omega
theorem queueF_cons (M k : Nat) (h : M < k) : queueF M k = (M : Int) :: queueF (M + 1) k := by
  unfold queueF
  rw [show k - M = (k - (M + 1)) + 1 by omega, List.range'_succ]
  simp
theorem idsF_succ (j : Nat) : idsF (j + 1) = idsF j ++ [(j : Int)] := by simp [idsF, List.range_succ]
theorem idsF_len (j : Nat) : (idsF j).length = j := by simp [idsF]
theorem idsF_mem (j : Nat) (x : Int) (h : x ∈ idsF j) : 0 ≤ x ∧ x < j := by
  unfold idsF at h
  simp only [List.mem_map, List.mem_range] at h
  obtain ⟨i, hi, rfl⟩ := h
  omega
theorem idsF_nodup (j : Nat) : (idsF j).Nodup := by
  unfold idsF List.Nodup
  rw [List.pairwise_map]
  exact List.Pairwise.imp (fun h => by omega) List.nodup_range
theorem any_ids_no {l : List Int} {id : Int} (h : ∀ x ∈ l, x ≠ id) : l.any (· == id) = false := by
  simp only [List.any_eq_false, beq_iff_eq]
  exact h
theorem ask_step (M k : Nat) (W : Int) (hW : M ≤ k → ((k - M : Nat) : Int) < W) : askP (stP M k) k W = (stP M (k + 1), if k < M then 0 else 10) := by
  have h1 : (stP M k).q.any (· == (k : Int)) = false := any_ids_no fun x hx => by have := queueF_mem M k x hx; omega
  have h2 : (stP M k).l.any (leaseP k) = false := by
    show ((idsF (min k M)).map hOf).any (leaseP k) = false
    rw [leaseP_hOf]
    exact any_ids_no fun x hx => by have := idsF_mem _ x hx; omega
  have h3 : (countK (stP M k).l 2 : Int) = (min k M : Nat) := by
    show (countK ((idsF (min k M)).map hOf) 2 : Int) = _
    rw [countK_hOf, idsF_len]
  unfold askP
  rw [h1, h2, h3]
  by_cases hk : k < M
  · have hq : (stP M k).q = [] := queueF_nil M k (by omega)
    have hn : ¬ ((stP M k).m2 ≤ ((min k M : Nat) : Int) ∨ (stP M k).q ≠ []) := by
      rintro (h | h)
      · have : (M : Int) ≤ ((min k M : Nat) : Int) := h
        omega
      · exact h hq
    rw [if_neg (by simp), if_neg hn, if_pos hk]
    have e1 : min (k + 1) M = k + 1 := by omega
    have e2 : min k M = k := by omega
    have e3 : queueF M (k + 1) = [] := queueF_nil M (k + 1) (by omega)
    have e4 : queueF M k = [] := queueF_nil M k (by omega)
    simp only [stP, wdM, e1, e2, e3, e4, idsF_succ, List.map_append, List.map_cons, List.map_nil, hOf]
  · have hy : (stP M k).m2 ≤ ((min k M : Nat) : Int) ∨ (stP M k).q ≠ [] := .inl (by show (M : Int) ≤ _; omega)
    have hl : ¬ W ≤ ((stP M k).q.length : Int) := by
      show ¬ W ≤ ((queueF M k).length : Int)
      rw [queueF_len]
      have := hW (by omega)
      omega
    rw [if_neg (by simp), if_pos hy, if_neg hl, if_neg hk]
    have e1 : min (k + 1) M = min k M := by omega
    simp only [stP, wdM, e1, queueF_succ M k (by omega)]
theorem ask_full (M w : Nat) (id : Int) (h1 : ∀ x ∈ idsF M, x ≠ id) (h2 : ∀ x ∈ queueF M (M + w), x ≠ id) : askP (stP M (M + w)) id w = (wd0, 8) := by
  have g1 : (stP M (M + w)).q.any (· == id) = false := any_ids_no h2
  have g2 : (stP M (M + w)).l.any (leaseP id) = false := by
    show ((idsF (min (M + w) M)).map hOf).any (leaseP id) = false
    rw [leaseP_hOf, show min (M + w) M = M by omega]
    exact any_ids_no h1
  have g3 : (countK (stP M (M + w)).l 2 : Int) = M := by
    show (countK ((idsF (min (M + w) M)).map hOf) 2 : Int) = _
    rw [countK_hOf, idsF_len, show min (M + w) M = M by omega]
  have hy : (stP M (M + w)).m2 ≤ (M : Int) ∨ (stP M (M + w)).q ≠ [] := .inl (by show (M : Int) ≤ _; omega)
  have hl : (w : Int) ≤ ((stP M (M + w)).q.length : Int) := by
    show (w : Int) ≤ ((queueF M (M + w)).length : Int)
    rw [queueF_len]
    omega
  unfold askP
  rw [g1, g2, g3, if_neg (by simp), if_pos hy, if_pos hl]
theorem ask_done (M w : Nat) (h : 0 < M) (W : Int) : askP (stP M (M + w)) 0 W = (wd0, 9) := by
  have g2 : (stP M (M + w)).l.any (leaseP 0) = true := by
    show ((idsF (min (M + w) M)).map hOf).any (leaseP 0) = true
    rw [leaseP_hOf, show min (M + w) M = M by omega]
    rw [List.any_eq_true]
    refine ⟨0, ?_, rfl⟩
    simp only [idsF, List.mem_map, List.mem_range]
    exact ⟨0, h, rfl⟩
  unfold askP
  rw [g2]
  simp
theorem stP_fit (M k : Nat) (h1 : M ≤ 8) (h2 : k ≤ 100) : Fit (stP M k) :=
  fitM _ _ _ (by rw [List.length_map, idsF_len]; omega) (by rw [queueF_len]; omega)
end Go.Proofs.Ytmcjgfoaiannoaa
