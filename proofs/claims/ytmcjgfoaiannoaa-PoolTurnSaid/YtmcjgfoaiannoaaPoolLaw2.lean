/-
  Plain facts of PoolTurn: what a lease given back makes of the world. No condition.
-/
import Derived.Test.YtmcjgfoaiannoaaPoolLaw
import Derived.Test.YtmcjgfoaiannoaaAllLaw
namespace Go.Proofs.Ytmcjgfoaiannoaa
open Go.RowKit

theorem split_at {α : Type} {l : List α} {n : Nat} {x : α} (h : l[n]? = some x) : l = l.take n ++ x :: l.drop (n + 1) := by
  obtain ⟨hn, rfl⟩ := List.getElem?_eq_some_iff.1 h
  rw [List.getElem_cons_drop, List.take_append_drop]
theorem lastIdx_hOf {hs : List Int} {n : Nat} {id : Int} (hn : hs[n]? = some id) (nd : hs.Nodup) : lastIdx (isOf id 2) (hs.map hOf) = some n := by
  have hlt : n < hs.length := (List.getElem?_eq_some_iff.1 hn).1
  have e := split_at hn
  rw [e, List.map_append, List.map_cons, lastIdx_split (isOf id 2) _ (hOf id) (by simp [isOf, hOf])]
  · simp; omega
  · intro x hx
    obtain ⟨y, hy, rfl⟩ := List.mem_map.1 hx
    have : id ≠ y := by
      rintro rfl
      rw [e] at nd
      have := (List.nodup_append.1 nd).2.1
      exact (List.nodup_cons.1 this).1 hy
    simp only [isOf, hOf]
    have h9 : (y == id) = false := by simp; exact fun h => this h.symm
    rw [h9]
    rfl
theorem map_eraseIdx {α β : Type} (f : α → β) (l : List α) (n : Nat) : (l.map f).eraseIdx n = (l.eraseIdx n).map f := by
  induction l generalizing n with
  | nil => rfl
  | cons x l ih => cases n with
    | zero => rfl
    | succ n => simp [ih]
theorem back_end {M nx A n : Nat} {hs : List Int} {id : Int} (hn : hs[n]? = some id) (nd : hs.Nodup) (h : A ≤ nx) : backP (wdM M (hs.map hOf) (queueF nx A)) id = (wdM M ((hs.eraseIdx n).map hOf) (queueF nx A), -1, 0) := by
  have h1 : lastIdx (isOf id 2) (wdM M (hs.map hOf) (queueF nx A)).l = some n := lastIdx_hOf hn nd
  rw [backP_nil h1 (queueF_nil nx A h)]
  simp only [wdM, map_eraseIdx]
theorem back_go {M nx A n : Nat} {hs : List Int} {id : Int} (hn : hs[n]? = some id) (nd : hs.Nodup) (h : nx < A) (hM : hs.length ≤ M) : backP (wdM M (hs.map hOf) (queueF nx A)) id = (wdM M ((hs.eraseIdx n ++ [(nx : Int)]).map hOf) (queueF (nx + 1) A), (nx : Int), 0) := by
  have h1 : lastIdx (isOf id 2) (wdM M (hs.map hOf) (queueF nx A)).l = some n := lastIdx_hOf hn nd
  have hlt : n < hs.length := (List.getElem?_eq_some_iff.1 hn).1
  rw [backP_ok h1 (queueF_cons nx A h)]
  · simp only [wdM, map_eraseIdx, List.map_append, List.map_cons, List.map_nil, hOf]
  · show ¬ (M : Int) ≤ (countK ((hs.map hOf).eraseIdx n) 2 : Int)
    rw [map_eraseIdx, countK_hOf, List.length_eraseIdx_of_lt hlt]
    omega
theorem nodup_go {nx n : Nat} {hs : List Int} (nd : hs.Nodup) (hb : ∀ x ∈ hs, x < nx) : (hs.eraseIdx n ++ [(nx : Int)]).Nodup ∧ ∀ x ∈ hs.eraseIdx n ++ [(nx : Int)], x < (nx + 1 : Nat) := by
  have hm : ∀ x ∈ hs.eraseIdx n, x ∈ hs := fun x hx => (List.eraseIdx_sublist hs n).subset hx
  refine ⟨?_, ?_⟩
  · rw [List.nodup_append]
    refine ⟨nd.sublist (List.eraseIdx_sublist hs n), by simp, ?_⟩
    intro a ha b hb'
    simp at hb'
    subst hb'
    have := hb a (hm a ha)
    omega
  · intro x hx
    rcases List.mem_append.1 hx with hx | hx
    · have := hb x (hm x hx)
      omega
    · simp at hx
      omega
theorem nodup_end {nx n : Nat} {hs : List Int} (nd : hs.Nodup) (hb : ∀ x ∈ hs, x < nx) : (hs.eraseIdx n).Nodup ∧ ∀ x ∈ hs.eraseIdx n, x < nx :=
  ⟨nd.sublist (List.eraseIdx_sublist hs n), fun x hx => hb x ((List.eraseIdx_sublist hs n).subset hx)⟩
theorem OwW.grown {w w' : World} {B : Nat} {a : WA} {D : WD} (h : OwW w B a D) {row : Option Nat} (hg : w.grownBy w' row) (hr : ∀ g, row = some g → g < B) : OwW w' B a D := by
  have hne : ∀ {e : TypeId} {size n : Nat} {v : Value} {xs : List Value}, w.ownsRow B e size v n xs → ∀ x, v.ownBlock = some x → some x ≠ row := fun h x hx e => by
    have := own_ge h x hx
    have := hr x e.symm
    omega
  exact ⟨own_grown h.l hg (hne h.l), own_grown h.g hg (hne h.g), own_grown h.f hg (hne h.f), own_grown h.q hg (hne h.q), own_grown h.m hg (hne h.m)⟩
theorem wdM_fit (M nx A : Nat) (hs : List Int) (h1 : hs.length ≤ 8) (h2 : A ≤ 100) : Fit (wdM M (hs.map hOf) (queueF nx A)) :=
  fitM _ _ _ (by rw [List.length_map]; omega) (by rw [queueF_len]; omega)
end Go.Proofs.Ytmcjgfoaiannoaa
