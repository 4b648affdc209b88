/-
  slices.Backward over holds: what it yields, for every loop body that keeps what lay ahead. Condition: the length bound that the reach pays.
-/
import Derived.RangeFuncNested
import Derived.RangeFuncBound
import Derived.RangeFuncBox
import Derived.RangeFuncCalls
import Derived.RangeFuncLeaves
import Derived.Shelf.Abstract
import Derived.Shelf.RegionOpen
import Derived.WalkKit
import Derived.OwnWalkIn
import Derived.TacticsInMore
import Derived.LoopNIn
import Derived.LoopIn
import Derived.Test.YtmcjgfoaiannoaaLed2
namespace Go.Proofs.Ytmcjgfoaiannoaa
open Go.RowKit Go.Shelf
attribute [local go_sem] Oper.semAt_some

/-- an index of a list of so many -/
abbrev Ix (n : Nat) := { i : Nat // i < n }
/-- the element at an index -/
def elt (l : List (Int × Int × Int)) (i : Ix l.length) : Int × Int × Int := l[i.1]'i.2
def encBk (l : List (Int × Int × Int)) (i : Ix l.length) : Array Value := #[.int .i64 (i.1 : Int), .agg #[.int .i64 (elt l i).1, .int .i64 (elt l i).2.1, .int .i64 (elt l i).2.2]]
/-- so many indices, from the last one on -/
def downs (n k : Nat) : List Nat := (List.range k).map fun j => n - 1 - j
theorem downs_succ (n k : Nat) : downs n (k + 1) = downs n k ++ [n - 1 - k] := by simp [downs, List.range_succ]
theorem downs_len (n k : Nat) : (downs n k).length = k := by simp [downs]

/-- what a round keeps: what lay below n₀, and the block Bs -/
def KpB (n₀ Bs : Nat) (W W' : World) : Prop := Below n₀ W W' ∧ W'.heap[Bs]? = W.heap[Bs]?
theorem KpB.refl (n₀ Bs : Nat) (W : World) : KpB n₀ Bs W W := ⟨Below.refl _ _, rfl⟩
theorem KpB.trans {n₀ Bs : Nat} {A B C : World} (h : KpB n₀ Bs A B) (k : KpB n₀ Bs B C) : KpB n₀ Bs A C := ⟨h.1.trans k.1, k.2.trans h.2⟩
theorem KpB.put {n₀ Bs : Nat} {w : World} (hn : n₀ ≤ w.heap.size) (hs : Bs < w.heap.size) (W : World) (l : Nat) (o o' : Obj) (hl : w.heap.size ≤ l) (h1 : W.heap[l]? = some o) (h2 : o.isCells = false) (h3 : o.isWalk = false) : KpB n₀ Bs W (W.putObj l o') :=
  ⟨belowK_b (w := w) hn W l o o' hl h1 h2 h3, World.putObj_heap_other (by omega)⟩
theorem KpB.alloc {n₀ Bs : Nat} {W : World} (hn : n₀ ≤ W.heap.size) (hs : Bs < W.heap.size) (o : Obj) : KpB n₀ Bs W (W.alloc o) := ⟨(Below.refl _ _).alloc hn _, Below.heap_alloc W o Bs hs⟩
theorem KpB.blk {n₀ Bs : Nat} {W W' : World} {t : TypeId} {cs : Array Value} (h : KpB n₀ Bs W W') (hb : Blk W Bs t cs) : Blk W' Bs t cs := h.2.trans hb

set_option maxRecDepth 100000 in
set_option maxHeartbeats 2000000 in
/-- slices.Backward's closure, for every loop body that keeps what lay below n₀ -/
theorem backward1_in (F : Fence) (n : Nat) (h60 : F.fn 60) (hro : F.round = none) (hn : 1 ≤ n) (lp Bs n₀ : Nat) (A : Option Addr) (c : Nat) (l : List (Int × Int × Int)) (hreach : l.length ≤ 140737488355328) (J Jx : List (Ix l.length) → World → Prop)
    (hY : ∀ pre x W, J pre W → pre.length < l.length → YieldAt F (n - 1) Try.prog lp (encBk l x) W fun e W' =>
      (e = .returned (.bool true) ∧ J (pre ++ [x]) W' ∧ KpB n₀ Bs W W') ∨ (e = .returned (.bool false) ∧ Jx (pre ++ [x]) W'))
    (W : World) (hBs : Blk W Bs 22 #[.slice A l.length c]) (hr : Rd 3 encH W n₀ A l) (h0 : J [] W) :
    CallsIn F n Try.prog 60 #[.func (.yield lp) #[] #[], .pointer (some ⟨Bs, 0, none⟩)] W fun e W' => (∃ v, e = .returned v) ∧
      ((∃ ys : List (Ix l.length), ys.map (·.1) = downs l.length l.length ∧ J ys W') ∨ (∃ pre : List (Ix l.length), (∃ k, k ≤ l.length ∧ pre.map (·.1) = downs l.length k) ∧ Jx pre W')) := by
  refine callsIn_of_wp Try.func60 rfl h60 ?_ hro
  simp only [Try.ntmps60, List.size_toArray, List.length_cons, List.length_nil, Nat.reduceAdd, Nat.reduceSub, Array.replicate_succ, Array.replicate_zero, List.push_toArray, List.append_toArray, List.nil_append, List.cons_append]
  have hBc := hBs.c1
  gi_wp2
  gi_loopw [3] (fun i wr => (∃ (m : Nat) (pre : List (Ix l.length)), m < l.length ∧ i = .int .i64 m ∧ pre.map (·.1) = downs l.length (l.length - 1 - m) ∧ J pre wr ∧ KpB n₀ Bs W wr) ∨
      (i = .int .i64 (-1) ∧ ∃ pre : List (Ix l.length), pre.map (·.1) = downs l.length l.length ∧ J pre wr))
    (fun i _ => (intOf i + 1).toNat)
  case atStart =>
    rcases Nat.eq_zero_or_pos l.length with hl | hl
    · exact .inr ⟨by rw [hl]; rfl, [], by rw [hl]; rfl, h0⟩
    · exact .inl ⟨l.length - 1, [], by omega, by congr 1; omega, by simp [downs], h0, KpB.refl _ _ _⟩
  case round =>
    rcases hrel with ⟨m, pre, hm, rfl, hp, hJ, hb⟩ | ⟨rfl, pre, hp, hJ⟩
    · have hlen : pre.length < l.length := by
        have := congrArg List.length hp
        rw [List.length_map, downs_len] at this
        omega
      obtain ⟨b, off, x, y, z, rfl, hbB, hx, c0, c1, c2⟩ := (hr.below hb.1).atH hm
      have hcs : wr.cell? ⟨Bs, 0, none⟩ = some (.slice (some ⟨b, off, none⟩) l.length c) := (hb.blk hBs).c1
      obtain ⟨fn, tmps, assign, body, hy, hR⟩ := hY pre ⟨m, hm⟩ wr hJ hlen
      have he : encBk l ⟨m, hm⟩ = #[.int .i64 (m : Int), .agg #[.int .i64 x, .int .i64 y, .int .i64 z]] := by
        obtain ⟨h1, h2⟩ := List.getElem?_eq_some_iff.1 hx
        simp [encBk, elt, h2]
      rw [he] at hy
      have HX := Lib.hid hx
      have HP := Lib.hid hp
      clear hx he hp
      gi_wp2
      refine hR.mono ?_
      rintro e W3 (⟨rfl, hJ3, hk3⟩ | ⟨rfl, hJx3⟩)
      · have hp3 : (pre ++ [(⟨m, hm⟩ : Ix l.length)]).map (·.1) = downs l.length (l.length - m) := by
          rw [List.map_append, HP.out, show l.length - m = (l.length - 1 - m) + 1 by omega, downs_succ]
          simp
          omega
        have HP3 := Lib.hid hp3
        clear hp3
        gi_wp2
        go_roundw
        case rel =>
          rcases Nat.eq_zero_or_pos m with rfl | hm0
          · exact .inr ⟨rfl, _, HP3.out, hJ3⟩
          · exact .inl ⟨m - 1, _, by omega, by congr 1; omega, HP3.out.trans (congrArg _ (by omega)), hJ3, hb.trans hk3⟩
        case measure => simp [intOf]
      · gi_wp2
        refine bodyPost_ret (results_none rfl _ _ _) rfl ?_
        refine ⟨⟨_, rfl⟩, .inr ⟨_, ⟨l.length - m, by omega, ?_⟩, hJx3⟩⟩
        rw [List.map_append, HP.out, show l.length - m = (l.length - 1 - m) + 1 by omega, downs_succ]
        simp
        omega
    · gi_wp2
      go_end0
      exact ⟨⟨_, rfl⟩, .inl ⟨_, hp, hJ⟩⟩

set_option maxHeartbeats 1000000 in
/-- slices.Backward(s): the slice value is boxed; the function value captures the box -/
theorem backward_in (F : Fence) (n : Nat) (h47 : F.fn 47) (hro : F.round = none) (a : Option Addr) (len cap : Nat) (w : World) :
    CallsIn F n Try.prog 47 #[.slice a len cap] w fun e w' => e = .returned (.func (.func 60) #[] #[.pointer (some ⟨w.heap.size, 0, none⟩)]) ∧ w' = w.alloc (.cells #[.slice a len cap] 22) := by
  refine callsIn_of_wp Try.func47 rfl h47 ?_ hro
  simp only [Try.ntmps47, List.size_toArray, List.length_cons, List.length_nil, Nat.reduceAdd, Nat.reduceSub, Array.replicate_succ, Array.replicate_zero, List.push_toArray, List.append_toArray, List.nil_append, List.cons_append]
  gi_wp2
  go_ret
  exact ⟨rfl, rfl⟩

/-- slices.Backward(s) hands back a value that goes through all indices from the last one on, or so many of them -/
theorem backward_stops (F : Fence) (n : Nat) (h60 : F.fn 60) (hro : F.round = none) (hn : 1 ≤ n) (Bs n₀ : Nat) (A : Option Addr) (c : Nat) (l : List (Int × Int × Int)) (hreach : l.length ≤ 140737488355328) (w : World) (hn₀ : n₀ ≤ w.heap.size)
    (hc : Blk w Bs 22 #[.slice A l.length c]) (hI : Rd 3 encH w n₀ A l) :
    SeqStopsK F n Try.prog 60 #[.pointer (some ⟨Bs, 0, none⟩)] (encBk l) (KpB n₀ Bs) (fun ys => ys.map (·.1) = downs l.length l.length) (fun pre => ∃ k, k ≤ l.length ∧ pre.map (·.1) = downs l.length k) l.length w := fun lp J Jx W hW _ _ hY h0 =>
  backward1_in F n h60 hro hn lp Bs n₀ A c l hreach J Jx hY W (hc.below hW hc.lt) (hI.below' hW hn₀) h0
end Go.Proofs.Ytmcjgfoaiannoaa
