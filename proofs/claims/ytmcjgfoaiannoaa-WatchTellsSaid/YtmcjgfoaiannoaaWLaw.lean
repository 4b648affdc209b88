/-
  Plain law of watch: how much an ask holds of each kind, and when a server is right. No condition.
-/
import Derived.Test.YtmcjgfoaiannoaaPoolIdx
import Derived.Test.YtmcjgfoaiannoaaOwn
namespace Go.Proofs.Ytmcjgfoaiannoaa
open Go.RowKit

/-- how many of a kind an ask holds -/
def kOf (l : List (Int × Int × Int)) (id k : Int) : Nat := countK (l.filter (fun h => h.1 == id)) k
theorem kOf_le (l : List (Int × Int × Int)) (id k : Int) : kOf l id k ≤ l.length := Nat.le_trans (countK_le _ _) (List.length_filter_le _ _)
theorem kOf_mine (l : List (Int × Int × Int)) (id k : Int) : countK (mineP l id) k = kOf l id k := by
  unfold kOf mineP countK
  rw [List.filter_reverse, List.length_reverse]
theorem kOf_snoc (l : List (Int × Int × Int)) (h : Int × Int × Int) (id k : Int) : kOf (l ++ [h]) id k = kOf l id k + if h.1 = id ∧ h.2.1 = k then 1 else 0 := by
  unfold kOf
  rw [List.filter_append]
  by_cases h1 : h.1 = id
  · rw [show [h].filter (fun h => h.1 == id) = [h] by simp [h1], countK_snoc]
    simp [h1]
  · rw [show [h].filter (fun h => h.1 == id) = [] by simp [h1], List.append_nil]
    simp [h1]
theorem kOf_nil (id k : Int) : kOf [] id k = 0 := rfl

/-- a value that takes one cell -/
abbrev OneV := {v : Value // v.oneCell' = true}
instance : Inhabited OneV := ⟨⟨.int .i64 0, rfl⟩⟩
/-- an ask, as its cells have it -/
structure Fl where
  id : Int
  ph : Int
  a2 : OneV
  a3 : OneV
  a4 : OneV
  a5 : OneV
  a6 : OneV
  st : Int
  a8 : OneV
  a9 : OneV
  a10 : OneV
  a11 : OneV
  a12 : OneV
  a13 : OneV
  wt : Bool
  a15 : OneV
instance : Inhabited Fl := ⟨⟨0, 0, default, default, default, default, default, 0, default, default, default, default, default, default, false, default⟩⟩
def encFl (f : Fl) : List Value := [.int .i64 f.id, .int .i64 f.ph, f.a2.1, f.a3.1, f.a4.1, f.a5.1, f.a6.1, .int .i64 f.st, f.a8.1, f.a9.1, f.a10.1, f.a11.1, f.a12.1, f.a13.1, .bool f.wt, f.a15.1]
theorem encFl_len (f : Fl) : (encFl f).length = 16 := rfl

/-- whether an ask is right -/
def flOk (l : List (Int × Int × Int)) (Q : List Int) (f : Fl) : Bool :=
  if f.ph < 1 ∨ 6 < f.ph then false
  else if f.ph = 6 then decide (kOf l f.id 0 = 0) && decide (kOf l f.id 1 = 0) && decide (kOf l f.id 2 = 0) && decide (kOf l f.id 3 = 0) && !f.wt && decide (f.st ≠ 0)
  else if 1 < kOf l f.id 2 ∨ (kOf l f.id 2 = 1 ∧ f.ph ≠ 2) then false
  else if (f.ph < 5 ∧ kOf l f.id 1 ≠ 1) ∨ 1 < kOf l f.id 1 then false
  else (f.wt == Q.any (· == f.id)) && (!f.wt || decide (f.ph = 2))

def qAt (Q : List Int) (n i : Nat) : Bool := match Q[i]? with
  | some x => !((Q.take i).any (· == x)) && decide (0 ≤ x) && decide (x < n)
  | none => true
def fAt (l : List (Int × Int × Int)) (Q : List Int) (F : List Fl) (i : Nat) : Bool := match F[i]? with
  | some f => decide (f.id = i) && flOk l Q f
  | none => true
/-- whether the places below n all are so -/
def allTo (p : Nat → Bool) (n : Nat) : Bool := (List.range n).all p
theorem allTo_zero (p : Nat → Bool) : allTo p 0 = true := rfl
theorem allTo_succ {p : Nat → Bool} {n : Nat} (h : allTo p n = true) (hp : p n = true) : allTo p (n + 1) = true := by
  unfold allTo at h ⊢
  rw [List.range_succ, List.all_append, h]
  simp [hp]
theorem allTo_stop {p : Nat → Bool} {k n : Nat} (hk : k < n) (hp : p k = false) : allTo p n = false := by
  unfold allTo
  rw [← Bool.not_eq_true, List.all_eq_true]
  intro h
  have := h k (List.mem_range.2 hk)
  rw [hp] at this
  cases this
/-- whether a server is right -/
def mostOk (l : List (Int × Int × Int)) (m1 m2 m3 : Int) : Bool := decide ((countK l 1 : Int) ≤ m1) && decide ((countK l 2 : Int) ≤ m2) && decide ((countK l 3 : Int) ≤ m3)
def leaseOk (l : List (Int × Int × Int)) (Q : List Int) (conns : Int) : Bool := decide (Q.length = 0) || decide (conns ≤ (countK l 2 : Int))
def rightV (conns : Int) (l : List (Int × Int × Int)) (m1 m2 m3 : Int) (Q : List Int) (F : List Fl) : Bool :=
  mostOk l m1 m2 m3 && (allTo (qAt Q F.length) Q.length && (leaseOk l Q conns && allTo (fAt l Q F) F.length))
theorem right_most {conns : Int} {l : List (Int × Int × Int)} {m1 m2 m3 : Int} {Q : List Int} {F : List Fl} (h : mostOk l m1 m2 m3 = false) : rightV conns l m1 m2 m3 Q F = false := by
  simp [rightV, h]
theorem right_q {conns : Int} {l : List (Int × Int × Int)} {m1 m2 m3 : Int} {Q : List Int} {F : List Fl} {k : Nat} (hk : k < Q.length) (h : qAt Q F.length k = false) : rightV conns l m1 m2 m3 Q F = false := by
  simp [rightV, allTo_stop hk h]
theorem right_lease {conns : Int} {l : List (Int × Int × Int)} {m1 m2 m3 : Int} {Q : List Int} {F : List Fl} (h : leaseOk l Q conns = false) : rightV conns l m1 m2 m3 Q F = false := by
  simp [rightV, h]
theorem right_f {conns : Int} {l : List (Int × Int × Int)} {m1 m2 m3 : Int} {Q : List Int} {F : List Fl} {k : Nat} (hk : k < F.length) (h : fAt l Q F k = false) : rightV conns l m1 m2 m3 Q F = false := by
  simp [rightV, allTo_stop hk h]
theorem right_yes {conns : Int} {l : List (Int × Int × Int)} {m1 m2 m3 : Int} {Q : List Int} {F : List Fl} (h1 : mostOk l m1 m2 m3 = true) (h2 : allTo (qAt Q F.length) Q.length = true) (h3 : leaseOk l Q conns = true) (h4 : allTo (fAt l Q F) F.length = true) : rightV conns l m1 m2 m3 Q F = true := by
  simp [rightV, h1, h2, h3, h4]
end Go.Proofs.Ytmcjgfoaiannoaa
