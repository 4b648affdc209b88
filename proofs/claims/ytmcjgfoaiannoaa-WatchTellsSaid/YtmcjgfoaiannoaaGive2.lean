/-
  Give of the ledger: what giveP says. Condition: the length bound that the reach pays.
-/
import Derived.Test.YtmcjgfoaiannoaaGive
namespace Go.Proofs.Ytmcjgfoaiannoaa
open Go.RowKit

/-- the last index of which p holds -/
def lastIdx (p : Int × Int × Int → Bool) (l : List (Int × Int × Int)) : Option Nat := (downs l.length l.length).find? (fun i => (l[i]?).any p)
theorem downs_cons (n : Nat) : downs (n + 1) (n + 1) = n :: downs n n := by
  simp only [downs, List.range_succ_eq_map, List.map_cons, List.map_map]
  congr 1
  apply List.map_congr_left
  intro j hj
  simp only [Function.comp]
  omega
theorem downs_mem {n k i : Nat} (hk : k ≤ n) (h : i ∈ downs n k) : i < n := by
  simp only [downs, List.mem_map, List.mem_range] at h
  obtain ⟨j, h1, rfl⟩ := h
  omega
theorem find_congr' {α : Type} {p q : α → Bool} : ∀ {l : List α}, (∀ x ∈ l, p x = q x) → l.find? p = l.find? q
  | [], _ => rfl
  | x :: l, h => by
    rw [List.find?_cons, List.find?_cons, h x (by simp), find_congr' (fun y hy => h y (by simp [hy]))]
theorem lastIdx_snoc (p : Int × Int × Int → Bool) (l : List (Int × Int × Int)) (h : Int × Int × Int) : lastIdx p (l ++ [h]) = if p h = true then some l.length else lastIdx p l := by
  unfold lastIdx
  rw [List.length_append, List.length_singleton, downs_cons, List.find?_cons]
  have e : ((l ++ [h])[l.length]?).any p = p h := by simp
  rw [e]
  cases p h
  · simp only [Bool.false_eq_true, if_false]
    exact find_congr' fun i hi => by
      have := downs_mem (Nat.le_refl _) hi
      rw [List.getElem?_append_left this]
  · rfl
theorem lastIdx_lt {p : Int × Int × Int → Bool} {l : List (Int × Int × Int)} {i : Nat} (h : lastIdx p l = some i) : i < l.length := downs_mem (Nat.le_refl _) (List.mem_of_find?_eq_some h)
theorem downs_split (n k : Nat) (hk : k ≤ n) : ∃ r, downs n n = downs n k ++ r := by
  refine ⟨(downs n n).drop k, ?_⟩
  have : downs n k = (downs n n).take k := by
    simp only [downs, ← List.map_take, List.take_range]
    rw [Nat.min_eq_left hk]
  rw [this, List.take_append_drop]

/-- what Give comes to -/
def giveP (L : Led) (id kind : Int) : Led × Int := match lastIdx (isOf id kind) L.1 with | some i => ((L.1.eraseIdx i, L.2), 0) | none => (led0, 6)

theorem elt_any (p : Int × Int × Int → Bool) (l : List (Int × Int × Int)) (i : Ix l.length) : (l[i.1]?).any p = p (elt l i) := by
  rw [List.getElem?_eq_getElem i.2]
  rfl

theorem give_any (A : Option Addr) (c : Nat) (l : List (Int × Int × Int)) (m0 m1 m2 m3 id kind : Int) (w : World) (hr : Rd 3 encH w w.heap.size A l) (hn : l.length * 24 ≤ 140737488355328) :
    Calls Try.prog 23 #[.agg #[.slice A l.length c, .int .i64 m0, .int .i64 m1, .int .i64 m2, .int .i64 m3], .int .i64 id, .int .i64 kind] w fun e w' =>
      ∃ A' c', e = .returned (.tuple #[ledV A' c' (giveP (l, m0, m1, m2, m3) id kind).1, .int .i64 (giveP (l, m0, m1, m2, m3) id kind).2]) ∧ Rd 3 encH w' w'.heap.size A' (giveP (l, m0, m1, m2, m3) id kind).1.1 ∧ Below w.heap.size w w' := by
  refine (callsIn_wide.1 (give_in A c l m0 m1 m2 m3 id kind w hr hn)).mono fun e w' h => ?_
  obtain ⟨⟨rfl, ys, hys, hp⟩ | ⟨ini, x, k, hk, hm, hp, hx, A', c', rfl, ho⟩, hb⟩ := h
  · have hf : lastIdx (isOf id kind) l = none := by
      unfold lastIdx
      rw [List.find?_eq_none, ← hys]
      intro i hi
      obtain ⟨j, hj, rfl⟩ := List.mem_map.1 hi
      rw [elt_any, hp j hj]
      simp
    have hg : giveP (l, m0, m1, m2, m3) id kind = (led0, 6) := by simp [giveP, hf]
    rw [hg]
    exact ⟨none, 0, rfl, Rd.nil_, hb⟩
  · have hf : lastIdx (isOf id kind) l = some x.1 := by
      unfold lastIdx
      obtain ⟨r, hr'⟩ := downs_split l.length k hk
      rw [hr', ← hm, List.map_append, List.append_assoc, List.find?_append]
      have : (ini.map (·.1)).find? (fun i => (l[i]?).any (isOf id kind)) = none := by
        rw [List.find?_eq_none]
        intro i hi
        obtain ⟨j, hj, rfl⟩ := List.mem_map.1 hi
        rw [elt_any, hp j hj]
        simp
      rw [this]
      simp only [List.map_cons, List.map_nil, List.cons_append, List.nil_append, List.find?_cons, Option.none_or]
      rw [elt_any, hx]
    have hg : giveP (l, m0, m1, m2, m3) id kind = ((l.eraseIdx x.1, m0, m1, m2, m3), 0) := by simp [giveP, hf]
    rw [hg]
    exact ⟨A', c', rfl, Rd.of_own encH_len ho, hb⟩
end Go.Proofs.Ytmcjgfoaiannoaa
