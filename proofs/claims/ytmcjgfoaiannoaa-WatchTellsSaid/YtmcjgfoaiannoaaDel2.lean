/-
  slices.Delete of one hold, at any owned row; Give of the ledger. Conditions: the length bound that the reach pays.
-/
import Derived.Test.YtmcjgfoaiannoaaDel
namespace Go.Proofs.Ytmcjgfoaiannoaa
open Go.RowKit

theorem flatMap_take {α : Type} {k : Nat} {enc : α → List Value} (hk : ∀ x, (enc x).length = k) : ∀ (l : List α) (i : Nat), (l.take i).flatMap enc = (l.flatMap enc).take (i * k)
  | [], i => by simp
  | x :: l, 0 => by simp
  | x :: l, i + 1 => by
    have h1 : (enc x).take (i * k + k) = enc x := List.take_of_length_le (by rw [hk]; omega)
    rw [List.take_succ_cons, List.flatMap_cons, List.flatMap_cons, flatMap_take hk l i, Nat.succ_mul, List.take_append, h1, hk, Nat.add_sub_cancel]
theorem flatMap_drop {α : Type} {k : Nat} {enc : α → List Value} (hk : ∀ x, (enc x).length = k) (l : List α) (i : Nat) : (l.drop i).flatMap enc = (l.flatMap enc).drop (i * k) := by
  have h1 : l.flatMap enc = (l.take i).flatMap enc ++ (l.drop i).flatMap enc := by rw [← List.flatMap_append, List.take_append_drop]
  have h2 : l.flatMap enc = (l.flatMap enc).take (i * k) ++ (l.flatMap enc).drop (i * k) := (List.take_append_drop _ _).symm
  rw [flatMap_take hk] at h1
  exact List.append_cancel_left (h1.symm.trans h2)

theorem deleteH_any (A : Option Addr) (c i : Nat) (l : List (Int × Int × Int)) (w : World) (base : Nat) (hi : i < l.length) (ho : w.ownsRow base 27 3 (.slice A l.length c) l.length (l.flatMap encH)) (hn : l.length ≤ 140737488355328) (hc : l.length ≤ c) (hcm : c ≤ maxLen) :
    Calls Try.prog 48 #[.slice A l.length c, .int .i64 i, .int .i64 (i + 1)] w fun e w' =>
      e = .returned (.slice A (l.eraseIdx i).length c) ∧ w'.ownsRow base 27 3 (.slice A (l.eraseIdx i).length c) (l.eraseIdx i).length ((l.eraseIdx i).flatMap encH) ∧ w.grownBy w' (Value.slice A l.length c).ownBlock := by
  obtain ⟨g, cap, hv, _, hlt⟩ := ho.form (by omega)
  obtain rfl : A = some ⟨g, 0, none⟩ := by injection hv
  have hone := encH_one l
  have hlist : (l.eraseIdx i).flatMap encH = (l.flatMap encH).take (i * 3) ++ (l.flatMap encH).drop ((i + 1) * 3) := by
    rw [List.eraseIdx_eq_take_drop_succ, List.flatMap_append, flatMap_take encH_len, flatMap_drop encH_len]
  have hle : (l.eraseIdx i).length = i + (l.length - (i + 1)) := by rw [List.length_eraseIdx_of_lt hi]; omega
  rw [hlist, hle]
  have hl := ho.1
  obtain ⟨m, hm⟩ : ∃ m, l.length = i + 1 + m := ⟨l.length - (i + 1), by omega⟩
  rw [hm] at ho hn hc hl ⊢
  rw [show i + 1 + m - (i + 1) = m by omega]
  by_cases hci : c = i + 1
  · obtain rfl : m = 0 := by omega
    subst hci
    have hd : (l.flatMap encH).drop ((i + 1) * 3) = [] := List.drop_eq_nil_of_le (by rw [hl]; omega)
    rw [hd, List.append_nil]
    exact deleteH_end g i _ w base ho hn
  · exact deleteH_mid g c i m _ w base ho hone hn hc hcm hci
end Go.Proofs.Ytmcjgfoaiannoaa
