/-
  LedgerMost: the plain law: Take and Give keep each kind's count within its most. No condition.
-/
import Derived.Test.YtmcjgfoaiannoaaOwn
namespace Go.Proofs.Ytmcjgfoaiannoaa

/-- every hold is of a kind, and of no kind are there more than the most -/
def Fits (a b c : Int) (l : List (Int × Int × Int)) : Prop :=
  (∀ h ∈ l, h.2.1 = 1 ∨ h.2.1 = 2 ∨ h.2.1 = 3) ∧ (countK l 1 : Int) ≤ a ∧ (countK l 2 : Int) ≤ b ∧ (countK l 3 : Int) ≤ c

theorem countK_sum (l : List (Int × Int × Int)) (h : ∀ x ∈ l, x.2.1 = 1 ∨ x.2.1 = 2 ∨ x.2.1 = 3) : l.length = countK l 1 + countK l 2 + countK l 3 := by
  induction l with
  | nil => rfl
  | cons x l ih =>
    have h1 := ih fun y hy => h y (by simp [hy])
    have h2 := h x (by simp)
    simp only [countK, List.filter_cons, List.length_cons] at h1 ⊢
    rcases h2 with h2 | h2 | h2 <;> simp [h2] <;> omega
theorem Fits.len {a b c : Int} {l : List (Int × Int × Int)} (h : Fits a b c l) (ha : a ≤ 10) (hb : b ≤ 10) (hc : c ≤ 10) : l.length ≤ 30 := by
  have := countK_sum l h.1
  have h2 := h.2
  omega
theorem fits_nil {a b c : Int} (ha : 0 ≤ a) (hb : 0 ≤ b) (hc : 0 ≤ c) : Fits a b c [] := ⟨by simp, by simpa [countK] using ha, by simpa [countK] using hb, by simpa [countK] using hc⟩
theorem fits_sub {a b c : Int} {l l' : List (Int × Int × Int)} (h : Fits a b c l) (hs : l'.Sublist l) : Fits a b c l' := by
  have hk : ∀ k, countK l' k ≤ countK l k := fun k => (hs.filter _).length_le
  have h1 := hk 1
  have h2 := hk 2
  have h3 := hk 3
  obtain ⟨h0, ha, hb, hc⟩ := h
  exact ⟨fun x hx => h0 x (hs.subset hx), by omega, by omega, by omega⟩
/-- Give: no more than before -/
theorem fits_give {a b c : Int} {l : List (Int × Int × Int)} (h : Fits a b c l) (m : Int × Int × Int × Int) (id kind : Int) : (∃ l', giveP (l, m) id kind = ((l', m), 0) ∧ Fits a b c l') ∨ giveP (l, m) id kind = (led0, 6) := by
  unfold giveP
  split
  · exact .inl ⟨_, rfl, fits_sub h (List.eraseIdx_sublist ..)⟩
  · exact .inr rfl
/-- Take: within the most -/
theorem fits_take {a b c m0 : Int} {l : List (Int × Int × Int)} (h : Fits a b c l) (id kind filter : Int) : (∃ l', takeP (l, m0, a, b, c) id kind filter = ((l', m0, a, b, c), 0) ∧ Fits a b c l') ∨ ∃ e, e ≠ 0 ∧ takeP (l, m0, a, b, c) id kind filter = (led0, e) := by
  unfold takeP
  split
  · exact .inr ⟨1, by decide, rfl⟩
  · rename_i hk
    split
    · exact .inr ⟨8, by decide, rfl⟩
    · rename_i hm
      refine .inl ⟨_, rfl, ?_⟩
      obtain ⟨h0, ha, hb, hc⟩ := h
      have hk' : kind = 1 ∨ kind = 2 ∨ kind = 3 := by omega
      refine ⟨fun x hx => ?_, ?_⟩
      · rcases List.mem_append.1 hx with hx | hx
        · exact h0 x hx
        · simp at hx
          subst hx
          exact hk'
      · simp only [countK_snoc]
        rcases hk' with rfl | rfl | rfl
        all_goals
          simp [mostP] at hm
          simp
          omega
end Go.Proofs.Ytmcjgfoaiannoaa
