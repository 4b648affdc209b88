/-
  LedgerAll: the plain law: handing back the last of one's own, one by one. No condition.
-/
import Derived.Test.YtmcjgfoaiannoaaBackWalk
namespace Go.Proofs.Ytmcjgfoaiannoaa

theorem snocInd {α : Type} {p : List α → Prop} (nil : p []) (snoc : ∀ l x, p l → p (l ++ [x])) (l : List α) : p l := by
  rw [← List.reverse_reverse l]
  generalize l.reverse = r
  induction r with
  | nil => exact nil
  | cons x r ih => rw [List.reverse_cons]; exact snoc _ _ ih
theorem mineP_split : ∀ (l : List (Int × Int × Int)) {id : Int} {h : Int × Int × Int} {rest : List (Int × Int × Int)}, mineP l id = h :: rest → ∃ a b, l = a ++ h :: b ∧ (∀ x ∈ b, x.1 ≠ id) ∧ h.1 = id ∧ mineP a id = rest := by
  intro l id h rest
  induction l using snocInd with
  | nil => simp [mineP]
  | snoc l x ih =>
    intro hm
    cases hx : (x.1 == id) with
    | true =>
      rw [mineP_yes hx] at hm
      simp only [List.cons.injEq] at hm
      obtain ⟨rfl, rfl⟩ := hm
      exact ⟨l, [], rfl, by simp, by simpa using hx, rfl⟩
    | false =>
      rw [mineP_no hx] at hm
      obtain ⟨a, b, rfl, h1, h2, h3⟩ := ih hm
      refine ⟨a, b ++ [x], by simp, ?_, h2, h3⟩
      intro y hy
      rcases List.mem_append.1 hy with hy | hy
      · exact h1 y hy
      · simp at hy
        subst hy
        simpa using hx
theorem lastIdx_split (p : Int × Int × Int → Bool) (a : List (Int × Int × Int)) (h : Int × Int × Int) (hp : p h = true) : ∀ b : List (Int × Int × Int), (∀ x ∈ b, p x = false) → lastIdx p (a ++ h :: b) = some a.length := by
  intro b
  induction b using snocInd with
  | nil => intro _; rw [lastIdx_snoc, if_pos hp]
  | snoc b x ih =>
    intro hb
    rw [show a ++ h :: (b ++ [x]) = (a ++ h :: b) ++ [x] by simp, lastIdx_snoc, if_neg (by simp [hb x (by simp)])]
    exact ih fun y hy => hb y (by simp [hy])

/-- one step of the loop -/
theorem all_step {l : List (Int × Int × Int)} {id : Int} {h : Int × Int × Int} {rest : List (Int × Int × Int)} (hm : mineP l id = h :: rest) (m : Int × Int × Int × Int) :
    lastP l id = (h, true) ∧ ∃ l', giveP (l, m) id h.2.1 = ((l', m), 0) ∧ l'.length ≤ l.length ∧ mineP l' id = rest ∧ ∀ other, other ≠ id → mineP l' other = mineP l other := by
  obtain ⟨a, b, rfl, h1, h2, h3⟩ := mineP_split l hm
  have hb : mineP b id = [] := by
    simp only [mineP, List.reverse_eq_nil_iff, List.filter_eq_nil_iff]
    intro x hx
    simpa using h1 x hx
  refine ⟨?_, a ++ b, ?_, by simp, ?_, ?_⟩
  · have : (a ++ h :: b).reverse.find? (fun x => x.1 == id) = some h := by
      rw [← List.head?_filter, List.filter_reverse]
      have : (List.filter (fun x => x.1 == id) (a ++ h :: b)).reverse = mineP (a ++ h :: b) id := rfl
      rw [this, hm]
      rfl
    unfold lastP
    rw [this]
  · have : lastIdx (isOf id h.2.1) (a ++ h :: b) = some a.length := lastIdx_split _ _ _ (by simp [isOf, h2]) _ (fun x hx => by simp [isOf, h1 x hx])
    simp only [giveP, this]
    rw [List.eraseIdx_append_of_length_le (Nat.le_refl _)]
    simp
  · simp only [mineP, List.filter_append, List.reverse_append] at hb h3 ⊢
    rw [hb, h3]
    rfl
  · intro o ho
    have : (h.1 == o) = false := by simp [h2, Ne.symm ho]
    simp [mineP, List.filter_append, this]
theorem lastP_none {l : List (Int × Int × Int)} {id : Int} (hm : mineP l id = []) : lastP l id = ((0, 0, 0), false) := by
  have : l.reverse.find? (fun x => x.1 == id) = none := by
    rw [List.find?_eq_none]
    simp only [mineP, List.reverse_eq_nil_iff, List.filter_eq_nil_iff] at hm
    intro x hx
    exact hm x (by simpa using hx)
  simp [lastP, this]
end Go.Proofs.Ytmcjgfoaiannoaa
