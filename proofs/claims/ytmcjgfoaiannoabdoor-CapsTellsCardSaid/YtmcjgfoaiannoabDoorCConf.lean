/-
  What is wrong with a conf, by the program and by the reference: one code and one place. Condition: what a conf holds can be read.
-/
import Derived.Test.YtmcjgfoaiannoabDoorSWr
namespace Go.Proofs.YtmcjgfoaiannoabDoor
open Go.RowKit Go.Lib

structure Sv where
  k : Int
  n : Int
  key : ByteArray
  text : ByteArray
  hk : key.size ≤ 140737488355328
  ht : text.size ≤ 140737488355328
structure Up where
  path : ByteArray
  st : Int
  text : ByteArray
  fails : Int
  hp : path.size ≤ 140737488355328
  ht : text.size ≤ 140737488355328
structure Bd where
  id : Int
  filter : Int
  call : Int
  do_ : Int
  text : ByteArray
  ht : text.size ≤ 140737488355328
def encS (x : Sv) : List Value := [.int .i64 x.k, .int .i64 x.n, .string x.key, .string x.text]
def encU (x : Up) : List Value := [.string x.path, .int .i64 x.st, .string x.text, .int .i64 x.fails]
def encB (x : Bd) : List Value := [.int .i64 x.id, .int .i64 x.filter, .int .i64 x.call, .int .i64 x.do_, .string x.text]
theorem Rd.atS {w : World} {B : Nat} {A : Option Addr} {l : List Sv} (h : Rd 4 encS w B A l) {i : Nat} (hi : i < l.length) : ∃ b off x, A = some ⟨b, off, none⟩ ∧ b < B ∧ l[i]? = some x ∧
    w.cell? ⟨b, off + i * 4, none⟩ = some (.int .i64 x.k) ∧ w.cell? ⟨b, off + i * 4 + 1, none⟩ = some (.int .i64 x.n) ∧ w.cell? ⟨b, off + i * 4 + 2, none⟩ = some (.string x.key) ∧ w.cell? ⟨b, off + i * 4 + 3, none⟩ = some (.string x.text) := by
  obtain ⟨b, off, x, e, hb, hx, hc⟩ := h.at_ hi
  exact ⟨b, off, x, e, hb, hx, hc 0 _ rfl, hc 1 _ rfl, hc 2 _ rfl, hc 3 _ rfl⟩
theorem Rd.atU {w : World} {B : Nat} {A : Option Addr} {l : List Up} (h : Rd 4 encU w B A l) {i : Nat} (hi : i < l.length) : ∃ b off x, A = some ⟨b, off, none⟩ ∧ b < B ∧ l[i]? = some x ∧
    w.cell? ⟨b, off + i * 4, none⟩ = some (.string x.path) ∧ w.cell? ⟨b, off + i * 4 + 1, none⟩ = some (.int .i64 x.st) ∧ w.cell? ⟨b, off + i * 4 + 2, none⟩ = some (.string x.text) ∧ w.cell? ⟨b, off + i * 4 + 3, none⟩ = some (.int .i64 x.fails) := by
  obtain ⟨b, off, x, e, hb, hx, hc⟩ := h.at_ hi
  exact ⟨b, off, x, e, hb, hx, hc 0 _ rfl, hc 1 _ rfl, hc 2 _ rfl, hc 3 _ rfl⟩
theorem Rd.atB {w : World} {B : Nat} {A : Option Addr} {l : List Bd} (h : Rd 5 encB w B A l) {i : Nat} (hi : i < l.length) : ∃ b off x, A = some ⟨b, off, none⟩ ∧ b < B ∧ l[i]? = some x ∧
    w.cell? ⟨b, off + i * 5, none⟩ = some (.int .i64 x.id) ∧ w.cell? ⟨b, off + i * 5 + 1, none⟩ = some (.int .i64 x.filter) ∧ w.cell? ⟨b, off + i * 5 + 2, none⟩ = some (.int .i64 x.call) ∧ w.cell? ⟨b, off + i * 5 + 3, none⟩ = some (.int .i64 x.do_) ∧ w.cell? ⟨b, off + i * 5 + 4, none⟩ = some (.string x.text) := by
  obtain ⟨b, off, x, e, hb, hx, hc⟩ := h.at_ hi
  exact ⟨b, off, x, e, hb, hx, hc 0 _ rfl, hc 1 _ rfl, hc 2 _ rfl, hc 3 _ rfl, hc 4 _ rfl⟩

def svP (x : Sv) : Int := wsP x.k x.n x.key x.text
def upP (x : Up) : Int := if x.st < 100 ∨ 599 < x.st ∨ x.fails < 0 ∨ 4 < x.fails ∨ 40 < x.text.size ∨ 24 < x.path.size then 3 else 0
def bdP (x : Bd) : Int := if x.call < 1 ∨ 4 < x.call ∨ x.do_ < 0 ∨ 6 < x.do_ then 1 else if 20 < x.text.size then 4 else 0
/-- the first one of a list with which something is wrong: the code and the place -/
def firstP {α : Type} (f : α → Int) : List α → Int → Option (Int × Int)
  | [], _ => none
  | x :: l, i => if f x = 0 then firstP f l (i + 1) else some (f x, i)
def scan3 (o1 o2 o3 : Option (Int × Int)) : Int × Int :=
  match o1 with
  | some r => r
  | none => match o2 with
    | some r => r
    | none => match o3 with
      | some r => r
      | none => (0, -1)
def numsP (fl cn wt tm : Int) : Prop := 0 ≤ fl ∧ fl ≤ 4 ∧ 1 ≤ cn ∧ cn ≤ 4 ∧ 0 ≤ wt ∧ wt ≤ 4 ∧ 0 ≤ tm ∧ tm ≤ 4
instance (fl cn wt tm : Int) : Decidable (numsP fl cn wt tm) := by unfold numsP; infer_instance
/-- what is wrong with a conf, and where -/
def confP (l1 : List Sv) (l2 : List Up) (l3 : List Bd) (fl cn wt tm : Int) : Int × Int :=
  if 6 < l1.length ∨ 4 < l2.length ∨ 8 < l3.length then (5, -1)
  else if numsP fl cn wt tm then scan3 (firstP svP l1 0) (firstP upP l2 0) (firstP bdP l3 0)
  else (3, -1)
theorem first_yes {α : Type} {f : α → Int} {l : List α} {k : Nat} {x : α} (hx : l[k]? = some x) (h : f x = 0) : firstP f (l.drop k) k = firstP f (l.drop (k + 1)) ((k + 1 : Nat) : Int) := by
  obtain ⟨hlt, rfl⟩ := List.getElem?_eq_some_iff.1 hx
  rw [List.drop_eq_getElem_cons hlt]
  show (if _ then _ else _) = _
  rw [if_pos h]
  simp
theorem first_no {α : Type} {f : α → Int} {l : List α} {k : Nat} {x : α} (hx : l[k]? = some x) (h : f x ≠ 0) : firstP f (l.drop k) k = some (f x, (k : Int)) := by
  obtain ⟨hlt, rfl⟩ := List.getElem?_eq_some_iff.1 hx
  rw [List.drop_eq_getElem_cons hlt]
  show (if _ then _ else _) = _
  rw [if_neg h]
theorem first_end {α : Type} {f : α → Int} {l : List α} {k : Nat} (h : l.length ≤ k) (i : Int) : firstP f (l.drop k) i = none := by
  rw [List.drop_of_length_le h]
  rfl
/-- the two results -/
def tup (r : Int × Int) : Value := .tuple #[.int .i64 r.1, .int .i64 r.2]
theorem ret_tup {a b : Int} {r : Int × Int} (h : r = (a, b)) : Ending.returned (.tuple #[.int .i64 a, .int .i64 b]) = .returned (tup r) := by rw [h]; rfl
abbrev cnfC (A1 A2 A3 : Option Addr) (n1 n2 n3 c1 c2 c3 : Nat) (fl cn wt tm : Int) : Array Value := #[.slice A1 n1 c1, .slice A2 n2 c2, .slice A3 n3 c3, .int .i64 fl, .int .i64 cn, .int .i64 wt, .int .i64 tm]
abbrev cnfV (A1 A2 A3 : Option Addr) (n1 n2 n3 c1 c2 c3 : Nat) (fl cn wt tm : Int) : Value := .agg (cnfC A1 A2 A3 n1 n2 n3 c1 c2 c3 fl cn wt tm)
set_option maxRecDepth 100000 in
theorem conf25_many (A1 A2 A3 : Option Addr) (c1 c2 c3 : Nat) (l1 : List Sv) (l2 : List Up) (l3 : List Bd) (fl cn wt tm : Int) (w : World) (h : 6 < l1.length ∨ 4 < l2.length ∨ 8 < l3.length) :
    Calls Tryd.prog 25 #[cnfV A1 A2 A3 l1.length l2.length l3.length c1 c2 c3 fl cn wt tm] w fun e w' => e = .returned (tup (confP l1 l2 l3 fl cn wt tm)) ∧ Below w.heap.size w w' := by
  have hB : Below w.heap.size w (w.alloc (.cells (cnfC A1 A2 A3 l1.length l2.length l3.length c1 c2 c3 fl cn wt tm) 43)) := (Below.refl _ w).alloc (Nat.le_refl _) _
  have HV := Lib.hid (show confP l1 l2 l3 fl cn wt tm = (5, -1) from if_pos h)
  by_cases h1 : (6 : Int) < (l1.length : Int)
  · clear h
    go_enter Tryd.func25, Tryd.ntmps25
    go_wp2
    refine bodyPost_ret (v := .tuple #[.int .i64 5, .int .i64 (-1)]) (by simp only [results, Tryd.results25]; go_simp) rfl ⟨ret_tup (HV.out), ?_⟩
    exact hB
  by_cases h2 : (4 : Int) < (l2.length : Int)
  · clear h
    go_enter Tryd.func25, Tryd.ntmps25
    go_wp2
    refine bodyPost_ret (v := .tuple #[.int .i64 5, .int .i64 (-1)]) (by simp only [results, Tryd.results25]; go_simp) rfl ⟨ret_tup (HV.out), ?_⟩
    exact hB
  by_cases h3 : (8 : Int) < (l3.length : Int)
  · clear h
    go_enter Tryd.func25, Tryd.ntmps25
    go_wp2
    refine bodyPost_ret (v := .tuple #[.int .i64 5, .int .i64 (-1)]) (by simp only [results, Tryd.results25]; go_simp) rfl ⟨ret_tup (HV.out), ?_⟩
    exact hB
  exact absurd h (by omega)
set_option maxRecDepth 100000 in
set_option maxHeartbeats 4000000 in
theorem conf25_nums (A1 A2 A3 : Option Addr) (c1 c2 c3 : Nat) (l1 : List Sv) (l2 : List Up) (l3 : List Bd) (fl cn wt tm : Int) (w : World) (h1 : l1.length ≤ 6) (h2 : l2.length ≤ 4) (h3 : l3.length ≤ 8) (h : ¬ numsP fl cn wt tm) :
    Calls Tryd.prog 25 #[cnfV A1 A2 A3 l1.length l2.length l3.length c1 c2 c3 fl cn wt tm] w fun e w' => e = .returned (tup (confP l1 l2 l3 fl cn wt tm)) ∧ Below w.heap.size w w' := by
  have HV := Lib.hid (show confP l1 l2 l3 fl cn wt tm = (3, -1) by unfold confP; rw [if_neg (by omega), if_neg h])
  have h1' : ¬ (6 : Int) < (l1.length : Int) := by omega
  have h2' : ¬ (4 : Int) < (l2.length : Int) := by omega
  have h3' : ¬ (8 : Int) < (l3.length : Int) := by omega
  clear h1 h2 h3
  obtain ⟨w0, hw0⟩ : ∃ W, W = w.alloc (.cells (cnfC A1 A2 A3 l1.length l2.length l3.length c1 c2 c3 fl cn wt tm) 43) := ⟨_, rfl⟩
  obtain ⟨w1, hw1⟩ : ∃ W, W = w0.alloc (.cells #[.int .i64 fl, .int .i64 cn, .int .i64 wt, .int .i64 tm] 3) := ⟨_, rfl⟩
  have bb : Blk w1 w.heap.size 43 (cnfC A1 A2 A3 l1.length l2.length l3.length c1 c2 c3 fl cn wt tm) := by rw [hw1, hw0]; exact (Blk.new _ _ _).alloc _
  have pb : Blk w1 (w.heap.size + 1) 3 #[.int .i64 fl, .int .i64 cn, .int .i64 wt, .int .i64 tm] := by rw [hw1]; exact Blk.new' _ _ (by rw [hw0]; simp) _ _
  have hB : Below w.heap.size w w1 := by rw [hw1, hw0]; exact ((Below.refl _ w).alloc (Nat.le_refl _) _).alloc (by simp) _
  have d0 := pb.cell 0
  have d1 := pb.cell 1
  have d2 := pb.cell 2
  have d3 := pb.cell 3
  simp at d0 d1 d2 d3
  have pl := pb.lt
  have ⟨k0, k1, k2, k3, k4, k5, k6⟩ := bb.c7
  have bl := bb.lt
  by_cases a0 : fl < 0
  · clear h
    go_enter Tryd.func25, Tryd.ntmps25
    go_wp2
    rw [← hw0, ← hw1]
    clear hw0 hw1
    refine wp_loop_rounds 1 ?_
    rw [rounds_succ]
    go_wp2
    refine bodyPost_ret (v := .tuple #[.int .i64 3, .int .i64 (-1)]) (by simp only [results, Tryd.results25]; go_simp) rfl ⟨ret_tup (HV.out), ?_⟩
    repeat (first | exact hB | refine Below.alloc ?_ (by have := hB.size; simp <;> omega) _)
  by_cases a1 : 4 < fl
  · clear h
    go_enter Tryd.func25, Tryd.ntmps25
    go_wp2
    rw [← hw0, ← hw1]
    clear hw0 hw1
    refine wp_loop_rounds 1 ?_
    rw [rounds_succ]
    go_wp2
    refine bodyPost_ret (v := .tuple #[.int .i64 3, .int .i64 (-1)]) (by simp only [results, Tryd.results25]; go_simp) rfl ⟨ret_tup (HV.out), ?_⟩
    repeat (first | exact hB | refine Below.alloc ?_ (by have := hB.size; simp <;> omega) _)
  by_cases a2 : cn < 0
  · clear h
    go_enter Tryd.func25, Tryd.ntmps25
    go_wp2
    rw [← hw0, ← hw1]
    clear hw0 hw1
    refine wp_loop_rounds 2 ?_
    rw [rounds_succ]
    go_wp2
    rw [rounds_succ]
    go_wp2
    refine bodyPost_ret (v := .tuple #[.int .i64 3, .int .i64 (-1)]) (by simp only [results, Tryd.results25]; go_simp) rfl ⟨ret_tup (HV.out), ?_⟩
    repeat (first | exact hB | refine Below.alloc ?_ (by have := hB.size; simp <;> omega) _)
  by_cases a3 : 4 < cn
  · clear h
    go_enter Tryd.func25, Tryd.ntmps25
    go_wp2
    rw [← hw0, ← hw1]
    clear hw0 hw1
    refine wp_loop_rounds 2 ?_
    rw [rounds_succ]
    go_wp2
    rw [rounds_succ]
    go_wp2
    refine bodyPost_ret (v := .tuple #[.int .i64 3, .int .i64 (-1)]) (by simp only [results, Tryd.results25]; go_simp) rfl ⟨ret_tup (HV.out), ?_⟩
    repeat (first | exact hB | refine Below.alloc ?_ (by have := hB.size; simp <;> omega) _)
  by_cases a4 : wt < 0
  · clear h
    go_enter Tryd.func25, Tryd.ntmps25
    go_wp2
    rw [← hw0, ← hw1]
    clear hw0 hw1
    refine wp_loop_rounds 3 ?_
    rw [rounds_succ]
    go_wp2
    rw [rounds_succ]
    go_wp2
    rw [rounds_succ]
    go_wp2
    refine bodyPost_ret (v := .tuple #[.int .i64 3, .int .i64 (-1)]) (by simp only [results, Tryd.results25]; go_simp) rfl ⟨ret_tup (HV.out), ?_⟩
    repeat (first | exact hB | refine Below.alloc ?_ (by have := hB.size; simp <;> omega) _)
  by_cases a5 : 4 < wt
  · clear h
    go_enter Tryd.func25, Tryd.ntmps25
    go_wp2
    rw [← hw0, ← hw1]
    clear hw0 hw1
    refine wp_loop_rounds 3 ?_
    rw [rounds_succ]
    go_wp2
    rw [rounds_succ]
    go_wp2
    rw [rounds_succ]
    go_wp2
    refine bodyPost_ret (v := .tuple #[.int .i64 3, .int .i64 (-1)]) (by simp only [results, Tryd.results25]; go_simp) rfl ⟨ret_tup (HV.out), ?_⟩
    repeat (first | exact hB | refine Below.alloc ?_ (by have := hB.size; simp <;> omega) _)
  by_cases a6 : tm < 0
  · clear h
    go_enter Tryd.func25, Tryd.ntmps25
    go_wp2
    rw [← hw0, ← hw1]
    clear hw0 hw1
    refine wp_loop_rounds 4 ?_
    rw [rounds_succ]
    go_wp2
    rw [rounds_succ]
    go_wp2
    rw [rounds_succ]
    go_wp2
    rw [rounds_succ]
    go_wp2
    refine bodyPost_ret (v := .tuple #[.int .i64 3, .int .i64 (-1)]) (by simp only [results, Tryd.results25]; go_simp) rfl ⟨ret_tup (HV.out), ?_⟩
    repeat (first | exact hB | refine Below.alloc ?_ (by have := hB.size; simp <;> omega) _)
  by_cases a7 : 4 < tm
  · clear h
    go_enter Tryd.func25, Tryd.ntmps25
    go_wp2
    rw [← hw0, ← hw1]
    clear hw0 hw1
    refine wp_loop_rounds 4 ?_
    rw [rounds_succ]
    go_wp2
    rw [rounds_succ]
    go_wp2
    rw [rounds_succ]
    go_wp2
    rw [rounds_succ]
    go_wp2
    refine bodyPost_ret (v := .tuple #[.int .i64 3, .int .i64 (-1)]) (by simp only [results, Tryd.results25]; go_simp) rfl ⟨ret_tup (HV.out), ?_⟩
    repeat (first | exact hB | refine Below.alloc ?_ (by have := hB.size; simp <;> omega) _)
  by_cases a8 : cn < 1
  · clear h
    go_enter Tryd.func25, Tryd.ntmps25
    go_wp2
    rw [← hw0, ← hw1]
    clear hw0 hw1
    refine wp_loop_rounds 5 ?_
    rw [rounds_succ]
    go_wp2
    rw [rounds_succ]
    go_wp2
    rw [rounds_succ]
    go_wp2
    rw [rounds_succ]
    go_wp2
    rw [rounds_succ]
    go_wp2
    refine bodyPost_ret (v := .tuple #[.int .i64 3, .int .i64 (-1)]) (by simp only [results, Tryd.results25]; go_simp) rfl ⟨ret_tup (HV.out), ?_⟩
    repeat (first | exact hB | refine Below.alloc ?_ (by have := hB.size; simp <;> omega) _)
  exact absurd (show numsP fl cn wt tm from ⟨by omega, by omega, by omega, by omega, by omega, by omega, by omega, by omega⟩) h
set_option maxRecDepth 100000 in
set_option maxHeartbeats 8000000 in
theorem conf25_good (A1 A2 A3 : Option Addr) (c1 c2 c3 : Nat) (l1 : List Sv) (l2 : List Up) (l3 : List Bd) (fl cn wt tm : Int) (w : World) (r1 : Rd 4 encS w w.heap.size A1 l1) (r2 : Rd 4 encU w w.heap.size A2 l2) (r3 : Rd 5 encB w w.heap.size A3 l3) (h1 : l1.length ≤ 6) (h2 : l2.length ≤ 4) (h3 : l3.length ≤ 8) (h : numsP fl cn wt tm) :
    Calls Tryd.prog 25 #[cnfV A1 A2 A3 l1.length l2.length l3.length c1 c2 c3 fl cn wt tm] w fun e w' => e = .returned (tup (confP l1 l2 l3 fl cn wt tm)) ∧ Below w.heap.size w w' := by
  obtain ⟨rv, hrv⟩ : ∃ v, v = confP l1 l2 l3 fl cn wt tm := ⟨_, rfl⟩
  rw [← hrv]
  have HR : Hid (rv = scan3 (firstP svP (l1.drop 0) ((0 : Nat) : Int)) (firstP upP (l2.drop 0) ((0 : Nat) : Int)) (firstP bdP (l3.drop 0) ((0 : Nat) : Int))) := Lib.hid (by rw [hrv]; unfold confP; rw [if_neg (by omega), if_pos h]; rfl)
  clear hrv
  have h1' : (l1.length : Int) ≤ 6 := by omega
  have h2' : (l2.length : Int) ≤ 4 := by omega
  have h3' : (l3.length : Int) ≤ 8 := by omega
  obtain ⟨f1, f2, f3, f4, f5, f6, f7, f8⟩ := h
  have f3' : 0 ≤ cn := by omega
  clear h1 h2 h3
  obtain ⟨w0, hw0⟩ : ∃ W, W = w.alloc (.cells (cnfC A1 A2 A3 l1.length l2.length l3.length c1 c2 c3 fl cn wt tm) 43) := ⟨_, rfl⟩
  obtain ⟨w1, hw1⟩ : ∃ W, W = w0.alloc (.cells #[.int .i64 fl, .int .i64 cn, .int .i64 wt, .int .i64 tm] 3) := ⟨_, rfl⟩
  have bb : Blk w1 w.heap.size 43 (cnfC A1 A2 A3 l1.length l2.length l3.length c1 c2 c3 fl cn wt tm) := by rw [hw1, hw0]; exact (Blk.new _ _ _).alloc _
  have pb : Blk w1 (w.heap.size + 1) 3 #[.int .i64 fl, .int .i64 cn, .int .i64 wt, .int .i64 tm] := by rw [hw1]; exact Blk.new' _ _ (by rw [hw0]; simp) _ _
  have hB : Below w.heap.size w w1 := by rw [hw1, hw0]; exact ((Below.refl _ w).alloc (Nat.le_refl _) _).alloc (by simp) _
  have d0 := pb.cell 0
  have d1 := pb.cell 1
  have d2 := pb.cell 2
  have d3 := pb.cell 3
  simp at d0 d1 d2 d3
  have pl := pb.lt
  have ⟨k0, k1, k2, k3, k4, k5, k6⟩ := bb.c7
  have bl := bb.lt
  go_enter Tryd.func25, Tryd.ntmps25
  go_wp2
  rw [← hw0, ← hw1]
  clear hw0 hw1
  refine wp_loop_rounds 5 ?_
  rw [rounds_succ]
  go_wp2
  rw [rounds_succ]
  go_wp2
  rw [rounds_succ]
  go_wp2
  rw [rounds_succ]
  go_wp2
  rw [rounds_succ]
  go_wp2
  clear d0 d1 d2 d3 pl pb k0 k1 k2 k3 k4 k5 k6 bl f1 f2 f3 f4 f5 f6 f7 f8 f3'
  go_loopw [56] (fun i ws => ∃ j : Nat, j ≤ l1.length ∧ i = .int .i64 j ∧ Below w.heap.size w ws ∧ Blk ws w.heap.size 43 (cnfC A1 A2 A3 l1.length l2.length l3.length c1 c2 c3 fl cn wt tm) ∧ Hid (rv = scan3 (firstP svP (l1.drop j) (j : Int)) (firstP upP (l2.drop 0) ((0 : Nat) : Int)) (firstP bdP (l3.drop 0) ((0 : Nat) : Int))))
    (fun i _ => l1.length - (intOf i).toNat)
  case atStart => exact ⟨0, by omega, rfl, hB, bb, HR⟩
  case round =>
    clear hB bb HR
    obtain ⟨j, hj, rfl, hB, bb, HR⟩ := hrel
    have ⟨k0, k1, k2, k3, k4, k5, k6⟩ := bb.c7
    have bl := bb.lt
    by_cases hlt : j < l1.length
    · obtain ⟨b, off, x, rfl, hbB, hx, d0, d1, d2, d3⟩ := (r1.below hB).atS hlt
      obtain ⟨wq, hwq⟩ : ∃ wq, wq = wr.alloc (.cells (sivC x.k x.n x.key x.text) 38) := ⟨_, rfl⟩
      have bbq : Blk wq w.heap.size 43 (cnfC (some ⟨b, off, none⟩) A2 A3 l1.length l2.length l3.length c1 c2 c3 fl cn wt tm) := by rw [hwq]; exact bb.alloc _
      have hBq : Below w.heap.size w wq := by rw [hwq]; exact hB.alloc hB.size _
      have hC := sieveWrong_any x.k x.n x.key x.text x.hk x.ht wq
      obtain ⟨y, hy⟩ : ∃ y, y = svP x := ⟨_, rfl⟩
      have hC : Calls Tryd.prog 32 #[sivV x.k x.n x.key x.text] wq fun e w' => e = .returned (.int .i64 y) ∧ Below wq.heap.size wq w' := by rw [hy]; exact hC
      by_cases hy0 : y = 0
      · have HS : Hid (rv = scan3 (firstP svP (l1.drop (j + 1)) ((j + 1 : Nat) : Int)) (firstP upP (l2.drop 0) ((0 : Nat) : Int)) (firstP bdP (l3.drop 0) ((0 : Nat) : Int))) := Lib.hid (by rw [HR.out, first_yes hx (hy.symm.trans hy0)])
        subst hy0
        clear HR hx hy bb hB
        go_wp2_with (go_at_call 32; refine Hid.out ?_)
        unfold Hid
        rw [← hwq]
        clear hwq d0 d1 d2 d3 k0 k1 k2 k3 k4 k5 k6
        refine hC.mono ?_
        rintro e w2 ⟨rfl, hb⟩
        have bb := bbq.below hb bbq.lt
        have hB := hBq.trans (hb.mono hBq.size)
        clear hC hb
        go_wp2
        go_roundw
        case rel => exact ⟨j + 1, by omega, by go_num, hB, bb, HS⟩
        case measure => simp [intOf]; omega
      · have HS : Hid (rv = (y, (j : Int))) := Lib.hid (by rw [HR.out, first_no hx (fun e => hy0 (hy.trans e)), hy]; rfl)
        have hy1 : (y == 0) = false := by simpa using hy0
        have hy2 : (y != 0) = true := by simpa using hy0
        clear HR hx hy bb hB
        go_wp2_with (go_at_call 32; refine Hid.out ?_)
        unfold Hid
        rw [← hwq]
        clear hwq d0 d1 d2 d3 k0 k1 k2 k3 k4 k5 k6
        refine hC.mono ?_
        rintro e w2 ⟨rfl, hb⟩
        have hB := hBq.trans (hb.mono hBq.size)
        clear hC hb
        go_wp2
        refine bodyPost_ret (v := .tuple #[.int .i64 y, .int .i64 j]) (by simp only [results, Tryd.results25]; go_simp) rfl ⟨ret_tup (HS.out), ?_⟩
        exact hB
    · have HS : Hid (rv = scan3 none (firstP upP (l2.drop 0) ((0 : Nat) : Int)) (firstP bdP (l3.drop 0) ((0 : Nat) : Int))) := Lib.hid (by rw [HR.out, first_end (by omega)])
      have hle : l1.length ≤ j := by omega
      clear HR
      go_wp2
      clear k0 k1 k2 k3 k4 k5 k6 bl
      go_loopw [71] (fun i ws => ∃ j : Nat, j ≤ l2.length ∧ i = .int .i64 j ∧ Below w.heap.size w ws ∧ Blk ws w.heap.size 43 (cnfC A1 A2 A3 l1.length l2.length l3.length c1 c2 c3 fl cn wt tm) ∧ Hid (rv = scan3 none (firstP upP (l2.drop j) (j : Int)) (firstP bdP (l3.drop 0) ((0 : Nat) : Int))))
        (fun i _ => l2.length - (intOf i).toNat)
      case atStart => exact ⟨0, by omega, rfl, hB, bb, HS⟩
      case round =>
        clear hB bb HS hle hlt hj
        obtain ⟨j, hj, rfl, hB, bb, HR⟩ := hrel
        have ⟨k0, k1, k2, k3, k4, k5, k6⟩ := bb.c7
        have bl := bb.lt
        by_cases hlt : j < l2.length
        · obtain ⟨b, off, x, rfl, hbB, hx, d0, d1, d2, d3⟩ := (r2.below hB).atU hlt
          by_cases q0 : x.st < 100
          · have HS : Hid (rv = (3, (j : Int))) := Lib.hid (by
              have hu : upP x = 3 := if_pos (by omega)
              rw [HR.out, first_no hx (by rw [hu]; omega), hu]; rfl)
            clear HR hx
            go_wp2
            refine bodyPost_ret (v := .tuple #[.int .i64 3, .int .i64 j]) (by simp only [results, Tryd.results25]; go_simp) rfl ⟨ret_tup (HS.out), ?_⟩
            exact hB.alloc hB.size _
          by_cases q1 : 599 < x.st
          · have HS : Hid (rv = (3, (j : Int))) := Lib.hid (by
              have hu : upP x = 3 := if_pos (by omega)
              rw [HR.out, first_no hx (by rw [hu]; omega), hu]; rfl)
            clear HR hx
            go_wp2
            refine bodyPost_ret (v := .tuple #[.int .i64 3, .int .i64 j]) (by simp only [results, Tryd.results25]; go_simp) rfl ⟨ret_tup (HS.out), ?_⟩
            exact hB.alloc hB.size _
          by_cases q2 : x.fails < 0
          · have HS : Hid (rv = (3, (j : Int))) := Lib.hid (by
              have hu : upP x = 3 := if_pos (by omega)
              rw [HR.out, first_no hx (by rw [hu]; omega), hu]; rfl)
            clear HR hx
            go_wp2
            refine bodyPost_ret (v := .tuple #[.int .i64 3, .int .i64 j]) (by simp only [results, Tryd.results25]; go_simp) rfl ⟨ret_tup (HS.out), ?_⟩
            exact hB.alloc hB.size _
          by_cases q3 : 4 < x.fails
          · have HS : Hid (rv = (3, (j : Int))) := Lib.hid (by
              have hu : upP x = 3 := if_pos (by omega)
              rw [HR.out, first_no hx (by rw [hu]; omega), hu]; rfl)
            clear HR hx
            go_wp2
            refine bodyPost_ret (v := .tuple #[.int .i64 3, .int .i64 j]) (by simp only [results, Tryd.results25]; go_simp) rfl ⟨ret_tup (HS.out), ?_⟩
            exact hB.alloc hB.size _
          by_cases q4 : (40 : Int) < (x.text.size : Int)
          · have HS : Hid (rv = (3, (j : Int))) := Lib.hid (by
              have hu : upP x = 3 := if_pos (by omega)
              rw [HR.out, first_no hx (by rw [hu]; omega), hu]; rfl)
            clear HR hx
            go_wp2
            refine bodyPost_ret (v := .tuple #[.int .i64 3, .int .i64 j]) (by simp only [results, Tryd.results25]; go_simp) rfl ⟨ret_tup (HS.out), ?_⟩
            exact hB.alloc hB.size _
          by_cases q5 : (24 : Int) < (x.path.size : Int)
          · have HS : Hid (rv = (3, (j : Int))) := Lib.hid (by
              have hu : upP x = 3 := if_pos (by omega)
              rw [HR.out, first_no hx (by rw [hu]; omega), hu]; rfl)
            clear HR hx
            go_wp2
            refine bodyPost_ret (v := .tuple #[.int .i64 3, .int .i64 j]) (by simp only [results, Tryd.results25]; go_simp) rfl ⟨ret_tup (HS.out), ?_⟩
            exact hB.alloc hB.size _
          have HS : Hid (rv = scan3 none (firstP upP (l2.drop (j + 1)) ((j + 1 : Nat) : Int)) (firstP bdP (l3.drop 0) ((0 : Nat) : Int))) := Lib.hid (by rw [HR.out, first_yes hx (if_neg (by omega))])
          clear HR hx
          go_wp2
          go_roundw
          case rel => exact ⟨j + 1, by omega, by go_num, hB.alloc hB.size _, bb.alloc _, HS⟩
          case measure => simp [intOf]; omega
        · have HS : Hid (rv = scan3 none none (firstP bdP (l3.drop 0) ((0 : Nat) : Int))) := Lib.hid (by rw [HR.out, first_end (by omega)])
          have hle : l2.length ≤ j := by omega
          clear HR
          go_wp2
          clear k0 k1 k2 k3 k4 k5 k6 bl
          go_loopw [111] (fun i ws => ∃ j : Nat, j ≤ l3.length ∧ i = .int .i64 j ∧ Below w.heap.size w ws ∧ Blk ws w.heap.size 43 (cnfC A1 A2 A3 l1.length l2.length l3.length c1 c2 c3 fl cn wt tm) ∧ Hid (rv = scan3 none none (firstP bdP (l3.drop j) (j : Int))))
            (fun i _ => l3.length - (intOf i).toNat)
          case atStart => exact ⟨0, by omega, rfl, hB, bb, HS⟩
          case round =>
            clear hB bb HS hle hlt hj
            obtain ⟨j, hj, rfl, hB, bb, HR⟩ := hrel
            have ⟨k0, k1, k2, k3, k4, k5, k6⟩ := bb.c7
            have bl := bb.lt
            by_cases hlt : j < l3.length
            · obtain ⟨b, off, x, rfl, hbB, hx, d0, d1, d2, d3, d4⟩ := (r3.below hB).atB hlt
              by_cases q0 : x.call < 1
              · have HS : Hid (rv = (1, (j : Int))) := Lib.hid (by
                  have hu : bdP x = 1 := if_pos (by omega)
                  rw [HR.out, first_no hx (by rw [hu]; omega), hu]; rfl)
                clear HR hx
                go_wp2
                refine bodyPost_ret (v := .tuple #[.int .i64 1, .int .i64 j]) (by simp only [results, Tryd.results25]; go_simp) rfl ⟨ret_tup (HS.out), ?_⟩
                exact hB.alloc hB.size _
              by_cases q1 : 4 < x.call
              · have HS : Hid (rv = (1, (j : Int))) := Lib.hid (by
                  have hu : bdP x = 1 := if_pos (by omega)
                  rw [HR.out, first_no hx (by rw [hu]; omega), hu]; rfl)
                clear HR hx
                go_wp2
                refine bodyPost_ret (v := .tuple #[.int .i64 1, .int .i64 j]) (by simp only [results, Tryd.results25]; go_simp) rfl ⟨ret_tup (HS.out), ?_⟩
                exact hB.alloc hB.size _
              by_cases q2 : x.do_ < 0
              · have HS : Hid (rv = (1, (j : Int))) := Lib.hid (by
                  have hu : bdP x = 1 := if_pos (by omega)
                  rw [HR.out, first_no hx (by rw [hu]; omega), hu]; rfl)
                clear HR hx
                go_wp2
                refine bodyPost_ret (v := .tuple #[.int .i64 1, .int .i64 j]) (by simp only [results, Tryd.results25]; go_simp) rfl ⟨ret_tup (HS.out), ?_⟩
                exact hB.alloc hB.size _
              by_cases q3 : 6 < x.do_
              · have HS : Hid (rv = (1, (j : Int))) := Lib.hid (by
                  have hu : bdP x = 1 := if_pos (by omega)
                  rw [HR.out, first_no hx (by rw [hu]; omega), hu]; rfl)
                clear HR hx
                go_wp2
                refine bodyPost_ret (v := .tuple #[.int .i64 1, .int .i64 j]) (by simp only [results, Tryd.results25]; go_simp) rfl ⟨ret_tup (HS.out), ?_⟩
                exact hB.alloc hB.size _
              by_cases q5 : (20 : Int) < (x.text.size : Int)
              · have HS : Hid (rv = (4, (j : Int))) := Lib.hid (by
                  have hu : bdP x = 4 := by unfold bdP; rw [if_neg (by omega), if_pos (by omega)]
                  rw [HR.out, first_no hx (by rw [hu]; omega), hu]; rfl)
                clear HR hx
                go_wp2
                refine bodyPost_ret (v := .tuple #[.int .i64 4, .int .i64 j]) (by simp only [results, Tryd.results25]; go_simp) rfl ⟨ret_tup (HS.out), ?_⟩
                exact hB.alloc hB.size _
              have HS : Hid (rv = scan3 none none (firstP bdP (l3.drop (j + 1)) ((j + 1 : Nat) : Int))) := Lib.hid (by rw [HR.out, first_yes hx (by unfold bdP; rw [if_neg (by omega), if_neg (by omega)])])
              clear HR hx
              go_wp2
              go_roundw
              case rel => exact ⟨j + 1, by omega, by go_num, hB.alloc hB.size _, bb.alloc _, HS⟩
              case measure => simp [intOf]; omega
            · have HS : Hid (rv = (0, -1)) := Lib.hid (by rw [HR.out, first_end (by omega)]; rfl)
              have hle : l3.length ≤ j := by omega
              clear HR
              go_wp2
              refine bodyPost_ret (v := .tuple #[.int .i64 0, .int .i64 (-1)]) (by simp only [results, Tryd.results25]; go_simp) rfl ⟨ret_tup (HS.out), ?_⟩
              exact hB
theorem capsWrong_any (A1 A2 A3 : Option Addr) (c1 c2 c3 : Nat) (l1 : List Sv) (l2 : List Up) (l3 : List Bd) (fl cn wt tm : Int) (w : World) (r1 : Rd 4 encS w w.heap.size A1 l1) (r2 : Rd 4 encU w w.heap.size A2 l2) (r3 : Rd 5 encB w w.heap.size A3 l3) :
    Calls Tryd.prog 25 #[cnfV A1 A2 A3 l1.length l2.length l3.length c1 c2 c3 fl cn wt tm] w fun e w' => e = .returned (tup (confP l1 l2 l3 fl cn wt tm)) ∧ Below w.heap.size w w' := by
  by_cases h : 6 < l1.length ∨ 4 < l2.length ∨ 8 < l3.length
  · exact conf25_many A1 A2 A3 c1 c2 c3 l1 l2 l3 fl cn wt tm w h
  by_cases hn : numsP fl cn wt tm
  · exact conf25_good A1 A2 A3 c1 c2 c3 l1 l2 l3 fl cn wt tm w r1 r2 r3 (by omega) (by omega) (by omega) hn
  · exact conf25_nums A1 A2 A3 c1 c2 c3 l1 l2 l3 fl cn wt tm w (by omega) (by omega) (by omega) hn
end Go.Proofs.YtmcjgfoaiannoabDoor
