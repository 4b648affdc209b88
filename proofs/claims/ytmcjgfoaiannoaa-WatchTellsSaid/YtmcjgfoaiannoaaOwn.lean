/-
  Take, Give and All once more: the lists that they return lie in rows of their own. Conditions: the length bounds that the reach pays.
-/
import Derived.Test.YtmcjgfoaiannoaaAllLaw
namespace Go.Proofs.Ytmcjgfoaiannoaa
open Go.RowKit

/-- the list lies in a row of its own that is no older than block B -/
def Ow (w : World) (B : Nat) (A : Option Addr) (c : Nat) (l : List (Int × Int × Int)) : Prop := w.ownsRow B 27 3 (.slice A l.length c) l.length (l.flatMap encH)
section
variable {w w' : World} {B : Nat} {A : Option Addr} {c : Nat} {l : List (Int × Int × Int)}
theorem Ow.nil_ : Ow w B none 0 [] := World.ownsRow_nil _ _ _ _
theorem Ow.rd (h : Ow w B A c l) : Rd 3 encH w w.heap.size A l := Rd.of_own encH_len h
theorem Ow.below (h : Ow w B A c l) (hb : Below w.heap.size w w') : Ow w' B A c l := own_below h hb (own_lt h)
theorem Ow.alloc (h : Ow w B A c l) (o : Obj) : Ow (w.alloc o) B A c l := h.below ((Below.refl _ w).alloc (Nat.le_refl _) o)
theorem Ow.set_ (h : Ow w B A c l) {g i : Nat} {t : TypeId} {cs : Array Value} (hg : Blk w g t cs) (ht : (27 : TypeId) ≠ t) (u : Value) : Ow (w.setCell ⟨g, i, none⟩ u) B A c l := own_setCell h (own_blk_ne h hg ht) u
theorem Ow.more (h : Ow w B A c l) {B' : Nat} (hB : B' ≤ B) : Ow w B' A c l := own_mono h hB
end

theorem all_own (A : Option Addr) (c : Nat) (l : List (Int × Int × Int)) (m0 m1 m2 m3 id : Int) (w : World) (hr : Rd 3 encH w w.heap.size A l) (hn : l.length * 24 ≤ 140737488355328) :
    Calls Try.prog 18 #[.agg #[.slice A l.length c, .int .i64 m0, .int .i64 m1, .int .i64 m2, .int .i64 m3], .int .i64 id] w fun e w' =>
      ∃ A' c', e = .returned (.slice A' (mineP l id).length c') ∧ Ow w' w.heap.size A' c' (mineP l id) ∧ Below w.heap.size w w' := by
  refine (callsIn_wide.1 (all_in A c l m0 m1 m2 m3 id w hr hn)).mono fun e w' h => ?_
  obtain ⟨ys, hys, ⟨A', c', rfl, ho⟩, hb⟩ := h
  have he := elt_take (Nat.le_refl _) hys
  have hm : mineOf l id ys = mineP l id := by
    rw [mineOf, he, List.take_of_length_le (by simp), List.filter_reverse]
    rfl
  rw [hm] at ho ⊢
  exact ⟨A', c', rfl, ho, hb⟩

theorem give_own (A : Option Addr) (c : Nat) (l : List (Int × Int × Int)) (m0 m1 m2 m3 id kind : Int) (w : World) (hr : Rd 3 encH w w.heap.size A l) (hn : l.length * 24 ≤ 140737488355328) :
    Calls Try.prog 23 #[.agg #[.slice A l.length c, .int .i64 m0, .int .i64 m1, .int .i64 m2, .int .i64 m3], .int .i64 id, .int .i64 kind] w fun e w' =>
      ∃ A' c', e = .returned (.tuple #[ledV A' c' (giveP (l, m0, m1, m2, m3) id kind).1, .int .i64 (giveP (l, m0, m1, m2, m3) id kind).2]) ∧ Ow w' w.heap.size A' c' (giveP (l, m0, m1, m2, m3) id kind).1.1 ∧ Below w.heap.size w w' := by
  refine (callsIn_wide.1 (give_in A c l m0 m1 m2 m3 id kind w hr hn)).mono fun e w' h => ?_
  obtain ⟨⟨rfl, ys, hys, hp⟩ | ⟨ini, x, k, hk, hm, hp, hx, A', c', rfl, ho⟩, hb⟩ := h
  · have hf : lastIdx (isOf id kind) l = none := by
      unfold lastIdx
      rw [List.find?_eq_none, ← hys]
      intro i hi
      obtain ⟨j, hj, rfl⟩ := List.mem_map.1 hi
      rw [elt_any, hp j hj]
      simp
    have hg : giveP (l, m0, m1, m2, m3) id kind = (led0, 6) := by simp [giveP, hf]
    rw [hg]
    exact ⟨none, 0, rfl, Ow.nil_, hb⟩
  · have hf : lastIdx (isOf id kind) l = some x.1 := by
      unfold lastIdx
      obtain ⟨r, hr'⟩ := downs_split l.length k hk
      rw [hr', ← hm, List.map_append, List.append_assoc, List.find?_append]
      have : (ini.map (·.1)).find? (fun i => (l[i]?).any (isOf id kind)) = none := by
        rw [List.find?_eq_none]
        intro i hi
        obtain ⟨j, hj, rfl⟩ := List.mem_map.1 hi
        rw [elt_any, hp j hj]
        simp
      rw [this]
      simp only [List.map_cons, List.map_nil, List.cons_append, List.nil_append, List.find?_cons, Option.none_or]
      rw [elt_any, hx]
    have hg : giveP (l, m0, m1, m2, m3) id kind = ((l.eraseIdx x.1, m0, m1, m2, m3), 0) := by simp [giveP, hf]
    rw [hg]
    exact ⟨A', c', rfl, ho, hb⟩

theorem take_own (A : Option Addr) (c : Nat) (l : List (Int × Int × Int)) (m0 m1 m2 m3 id kind filter : Int) (w : World) (hr : Rd 3 encH w w.heap.size A l) (hn : l.length * 24 + 24 ≤ 140737488355328) :
    Calls Try.prog 21 #[.agg #[.slice A l.length c, .int .i64 m0, .int .i64 m1, .int .i64 m2, .int .i64 m3], .int .i64 id, .int .i64 kind, .int .i64 filter] w fun e w' =>
      ∃ A' c', e = .returned (.tuple #[ledV A' c' (takeP (l, m0, m1, m2, m3) id kind filter).1, .int .i64 (takeP (l, m0, m1, m2, m3) id kind filter).2]) ∧ Ow w' w.heap.size A' c' (takeP (l, m0, m1, m2, m3) id kind filter).1.1 ∧ Below w.heap.size w w' := by
  by_cases hk : kind < 1 ∨ 3 < kind
  · rw [takeP, if_pos hk]
    exact (take_no1 A c l m0 m1 m2 m3 id kind filter w hk).mono fun e w' ⟨he, hb⟩ => ⟨none, 0, he, Ow.nil_, hb⟩
  · obtain ⟨k, rfl⟩ : ∃ k : Nat, kind = k := ⟨kind.toNat, by omega⟩
    have hmk : ∃ mk, mostP (l, m0, m1, m2, m3) k = mk ∧ #[Value.slice A l.length c, .int .i64 m0, .int .i64 m1, .int .i64 m2, .int .i64 m3][1 + k]? = some (.int .i64 mk) := by
      rcases (show k = 1 ∨ k = 2 ∨ k = 3 by omega) with rfl | rfl | rfl
      · exact ⟨m1, rfl, rfl⟩
      · exact ⟨m2, rfl, rfl⟩
      · exact ⟨m3, rfl, rfl⟩
    obtain ⟨mk, h1, h2⟩ := hmk
    by_cases hm : mk ≤ (countK l k : Int)
    · have ht : takeP (l, m0, m1, m2, m3) id k filter = (led0, 8) := by rw [takeP, if_neg hk, h1, if_pos hm]
      rw [ht]
      exact (take_full A c l m0 m1 m2 m3 id filter k w hr hn (by omega) (by omega) mk h2 hm).mono fun e w' ⟨he, hb⟩ => ⟨none, 0, he, Ow.nil_, hb⟩
    · have ht : takeP (l, m0, m1, m2, m3) id k filter = ((l ++ [(id, (k : Int), filter)], m0, m1, m2, m3), 0) := by rw [takeP, if_neg hk, h1, if_neg hm]
      rw [ht]
      exact (take_ok A c l m0 m1 m2 m3 id filter k w hr hn (by omega) (by omega) mk h2 (by omega)).mono fun e w' ⟨A', c', he, ho, hb⟩ => ⟨A', c', he, ho, hb⟩

end Go.Proofs.Ytmcjgfoaiannoaa
