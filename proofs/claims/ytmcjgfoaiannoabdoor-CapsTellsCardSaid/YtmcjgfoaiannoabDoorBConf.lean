/-
  Confs as arguments: what their cells are. No condition.
-/
import Derived.Test.YtmcjgfoaiannoabDoorBMsg
import Derived.Test.YtmcjgfoaiannoabDoorCConf
namespace Go.Proofs.YtmcjgfoaiannoabDoor
open Go.RowKit Go.Deep Go.ChangeShapes Go.WideShapes Go.ChangeAt

instance : Inhabited Sv := ⟨⟨0, 0, ByteArray.empty, ByteArray.empty, by decide, by decide⟩⟩
instance : Inhabited Up := ⟨⟨ByteArray.empty, 0, ByteArray.empty, 0, by decide, by decide⟩⟩
instance : Inhabited Bd := ⟨⟨0, 0, 0, 0, ByteArray.empty, by decide⟩⟩
section
variable {H : Type} {enc : TypeId × Value → H} {w : World}
theorem open_sv (n : Nat) (ecs : List Value) (x : DataW H × List MemPlace) (h : DataW.trod enc Tryd.prog w 0 (fun _ => true) true n 38 ecs = some x) (hsz : ∀ n ∈ x.1.weights Tryd.prog 38, n ≤ reachBytes) : ∃ a : Sv, ecs = encS a := by
  obtain ⟨xs, m, _, hx, hlen, hxs, hf⟩ := DataW.trod_struct Tryd.underlying38 h
  rw [show Tryd.prog.cellsOf 38 = 4 by kernel_rfl] at hlen
  have c9 : Tryd.prog.cellsOf 9 = 1 := by kernel_rfl
  have c3 : Tryd.prog.cellsOf 3 = 1 := by kernel_rfl
  obtain ⟨a0, a1, a2, a3, rfl⟩ := len4 hlen
  obtain ⟨x0, x1, x2, x3, rfl⟩ := len4 hxs
  all_goals
    have f0 : DataW.trod enc Tryd.prog w 0 (fun _ => true) true m 3 ((List.drop 0 [a0, a1, a2, a3]).take (Tryd.prog.cellsOf 3)) = _ := hf 0 _ rfl
    have f1 : DataW.trod enc Tryd.prog w 0 (fun _ => true) true m 3 ((List.drop 1 [a0, a1, a2, a3]).take (Tryd.prog.cellsOf 3)) = _ := hf 1 _ rfl
    have f2 : DataW.trod enc Tryd.prog w 0 (fun _ => true) true m 9 ((List.drop 2 [a0, a1, a2, a3]).take (Tryd.prog.cellsOf 9)) = _ := hf 2 _ rfl
    have f3 : DataW.trod enc Tryd.prog w 0 (fun _ => true) true m 9 ((List.drop 3 [a0, a1, a2, a3]).take (Tryd.prog.cellsOf 9)) = _ := hf 3 _ rfl
    simp only [c3, c9] at f0 f1 f2 f3
    obtain ⟨n0, h0, g0, _⟩ := DataW.trod_int Tryd.underlying3 f0
    obtain ⟨n1, h1, g1, _⟩ := DataW.trod_int Tryd.underlying3 f1
    obtain ⟨n2, h2, g2, q2⟩ := DataW.trod_string Tryd.underlying9 f2
    obtain ⟨n3, h3, g3, q3⟩ := DataW.trod_string Tryd.underlying9 f3
    simp at h0 h1 h2 h3
    subst h0 h1 h2 h3
    subst g0 g1 g2 g3
    subst hx
    have s2 := hsz n2.data.toList.length (by
      simp only [List.map_cons, List.map_nil, DataW.weights, Tryd.underlying38, List.mem_append, DataW.weightsEach, List.mem_cons, List.not_mem_nil, or_false]
      simp)
    rw [Array.length_toList] at s2
    simp only [reachBytes] at s2
    have s2 : n2.size ≤ 140737488355328 := by show n2.data.size ≤ _; omega
    have s3 := hsz n3.data.toList.length (by
      simp only [List.map_cons, List.map_nil, DataW.weights, Tryd.underlying38, List.mem_append, DataW.weightsEach, List.mem_cons, List.not_mem_nil, or_false]
      simp)
    rw [Array.length_toList] at s3
    simp only [reachBytes] at s3
    have s3 : n3.size ≤ 140737488355328 := by show n3.data.size ≤ _; omega
    exact ⟨⟨n0, n1, n2, n3, s2, s3⟩, rfl⟩
theorem open_up (n : Nat) (ecs : List Value) (x : DataW H × List MemPlace) (h : DataW.trod enc Tryd.prog w 0 (fun _ => true) true n 85 ecs = some x) (hsz : ∀ n ∈ x.1.weights Tryd.prog 85, n ≤ reachBytes) : ∃ a : Up, ecs = encU a := by
  obtain ⟨xs, m, _, hx, hlen, hxs, hf⟩ := DataW.trod_struct Tryd.underlying85 h
  rw [show Tryd.prog.cellsOf 85 = 4 by kernel_rfl] at hlen
  have c9 : Tryd.prog.cellsOf 9 = 1 := by kernel_rfl
  have c3 : Tryd.prog.cellsOf 3 = 1 := by kernel_rfl
  obtain ⟨a0, a1, a2, a3, rfl⟩ := len4 hlen
  obtain ⟨x0, x1, x2, x3, rfl⟩ := len4 hxs
  all_goals
    have f0 : DataW.trod enc Tryd.prog w 0 (fun _ => true) true m 9 ((List.drop 0 [a0, a1, a2, a3]).take (Tryd.prog.cellsOf 9)) = _ := hf 0 _ rfl
    have f1 : DataW.trod enc Tryd.prog w 0 (fun _ => true) true m 3 ((List.drop 1 [a0, a1, a2, a3]).take (Tryd.prog.cellsOf 3)) = _ := hf 1 _ rfl
    have f2 : DataW.trod enc Tryd.prog w 0 (fun _ => true) true m 9 ((List.drop 2 [a0, a1, a2, a3]).take (Tryd.prog.cellsOf 9)) = _ := hf 2 _ rfl
    have f3 : DataW.trod enc Tryd.prog w 0 (fun _ => true) true m 3 ((List.drop 3 [a0, a1, a2, a3]).take (Tryd.prog.cellsOf 3)) = _ := hf 3 _ rfl
    simp only [c3, c9] at f0 f1 f2 f3
    obtain ⟨n0, h0, g0, q0⟩ := DataW.trod_string Tryd.underlying9 f0
    obtain ⟨n1, h1, g1, _⟩ := DataW.trod_int Tryd.underlying3 f1
    obtain ⟨n2, h2, g2, q2⟩ := DataW.trod_string Tryd.underlying9 f2
    obtain ⟨n3, h3, g3, _⟩ := DataW.trod_int Tryd.underlying3 f3
    simp at h0 h1 h2 h3
    subst h0 h1 h2 h3
    subst g0 g1 g2 g3
    subst hx
    have s0 := hsz n0.data.toList.length (by
      simp only [List.map_cons, List.map_nil, DataW.weights, Tryd.underlying85, List.mem_append, DataW.weightsEach, List.mem_cons, List.not_mem_nil, or_false]
      simp)
    rw [Array.length_toList] at s0
    simp only [reachBytes] at s0
    have s0 : n0.size ≤ 140737488355328 := by show n0.data.size ≤ _; omega
    have s2 := hsz n2.data.toList.length (by
      simp only [List.map_cons, List.map_nil, DataW.weights, Tryd.underlying85, List.mem_append, DataW.weightsEach, List.mem_cons, List.not_mem_nil, or_false]
      simp)
    rw [Array.length_toList] at s2
    simp only [reachBytes] at s2
    have s2 : n2.size ≤ 140737488355328 := by show n2.data.size ≤ _; omega
    exact ⟨⟨n0, n1, n2, n3, s0, s2⟩, rfl⟩
theorem open_bd (n : Nat) (ecs : List Value) (x : DataW H × List MemPlace) (h : DataW.trod enc Tryd.prog w 0 (fun _ => true) true n 87 ecs = some x) (hsz : ∀ n ∈ x.1.weights Tryd.prog 87, n ≤ reachBytes) : ∃ a : Bd, ecs = encB a := by
  obtain ⟨xs, m, _, hx, hlen, hxs, hf⟩ := DataW.trod_struct Tryd.underlying87 h
  rw [show Tryd.prog.cellsOf 87 = 5 by kernel_rfl] at hlen
  have c9 : Tryd.prog.cellsOf 9 = 1 := by kernel_rfl
  have c3 : Tryd.prog.cellsOf 3 = 1 := by kernel_rfl
  obtain ⟨a0, a1, a2, a3, a4, rfl⟩ := len5 hlen
  obtain ⟨x0, x1, x2, x3, x4, rfl⟩ := len5 hxs
  all_goals
    have f0 : DataW.trod enc Tryd.prog w 0 (fun _ => true) true m 3 ((List.drop 0 [a0, a1, a2, a3, a4]).take (Tryd.prog.cellsOf 3)) = _ := hf 0 _ rfl
    have f1 : DataW.trod enc Tryd.prog w 0 (fun _ => true) true m 3 ((List.drop 1 [a0, a1, a2, a3, a4]).take (Tryd.prog.cellsOf 3)) = _ := hf 1 _ rfl
    have f2 : DataW.trod enc Tryd.prog w 0 (fun _ => true) true m 3 ((List.drop 2 [a0, a1, a2, a3, a4]).take (Tryd.prog.cellsOf 3)) = _ := hf 2 _ rfl
    have f3 : DataW.trod enc Tryd.prog w 0 (fun _ => true) true m 3 ((List.drop 3 [a0, a1, a2, a3, a4]).take (Tryd.prog.cellsOf 3)) = _ := hf 3 _ rfl
    have f4 : DataW.trod enc Tryd.prog w 0 (fun _ => true) true m 9 ((List.drop 4 [a0, a1, a2, a3, a4]).take (Tryd.prog.cellsOf 9)) = _ := hf 4 _ rfl
    simp only [c3, c9] at f0 f1 f2 f3 f4
    obtain ⟨n0, h0, g0, _⟩ := DataW.trod_int Tryd.underlying3 f0
    obtain ⟨n1, h1, g1, _⟩ := DataW.trod_int Tryd.underlying3 f1
    obtain ⟨n2, h2, g2, _⟩ := DataW.trod_int Tryd.underlying3 f2
    obtain ⟨n3, h3, g3, _⟩ := DataW.trod_int Tryd.underlying3 f3
    obtain ⟨n4, h4, g4, q4⟩ := DataW.trod_string Tryd.underlying9 f4
    simp at h0 h1 h2 h3 h4
    subst h0 h1 h2 h3 h4
    subst g0 g1 g2 g3 g4
    subst hx
    have s4 := hsz n4.data.toList.length (by
      simp only [List.map_cons, List.map_nil, DataW.weights, Tryd.underlying87, List.mem_append, DataW.weightsEach, List.mem_cons, List.not_mem_nil, or_false]
      simp)
    rw [Array.length_toList] at s4
    simp only [reachBytes] at s4
    have s4 : n4.size ≤ 140737488355328 := by show n4.data.size ≤ _; omega
    exact ⟨⟨n0, n1, n2, n3, n4, s4⟩, rfl⟩
set_option maxRecDepth 100000 in
/-- what a conf's cells are -/
theorem open_conf {B fuel : Nat} {cs : List Value} {d : DataW H} {ps : List MemPlace} (h : DataW.trod enc Tryd.prog w 0 (fun _ => true) true fuel 43 cs = some (d, ps)) (hlt : ∀ x ∈ ps, x.block < B) (hsz : ∀ n ∈ d.weights Tryd.prog 43, n ≤ reachBytes) :
    ∃ A1 c1 A2 c2 A3 c3, ∃ l1 : List Sv, ∃ l2 : List Up, ∃ l3 : List Bd, ∃ fl cn wt tm : Int, cs = [.slice A1 l1.length c1, .slice A2 l2.length c2, .slice A3 l3.length c3, .int .i64 fl, .int .i64 cn, .int .i64 wt, .int .i64 tm] ∧ Rd 4 encS w B A1 l1 ∧ Rd 4 encU w B A2 l2 ∧ Rd 5 encB w B A3 l3 := by
  obtain ⟨xs, m, _, hx, hlen, hxs, hf⟩ := DataW.trod_struct Tryd.underlying43 h
  rw [show Tryd.prog.cellsOf 43 = 7 by kernel_rfl] at hlen
  have c3 : Tryd.prog.cellsOf 3 = 1 := by kernel_rfl
  have c39 : Tryd.prog.cellsOf 39 = 1 := by kernel_rfl
  have c40 : Tryd.prog.cellsOf 40 = 1 := by kernel_rfl
  have c41 : Tryd.prog.cellsOf 41 = 1 := by kernel_rfl
  obtain ⟨a0, a1, a2, a3, a4, a5, a6, rfl⟩ := len7 hlen
  obtain ⟨x0, x1, x2, x3, x4, x5, x6, rfl⟩ := len7 hxs
  all_goals
    have f0 : DataW.trod enc Tryd.prog w 0 (fun _ => true) true m 39 ((List.drop 0 [a0, a1, a2, a3, a4, a5, a6]).take (Tryd.prog.cellsOf 39)) = _ := hf 0 _ rfl
    have f1 : DataW.trod enc Tryd.prog w 0 (fun _ => true) true m 40 ((List.drop 1 [a0, a1, a2, a3, a4, a5, a6]).take (Tryd.prog.cellsOf 40)) = _ := hf 1 _ rfl
    have f2 : DataW.trod enc Tryd.prog w 0 (fun _ => true) true m 41 ((List.drop 2 [a0, a1, a2, a3, a4, a5, a6]).take (Tryd.prog.cellsOf 41)) = _ := hf 2 _ rfl
    have f3 : DataW.trod enc Tryd.prog w 0 (fun _ => true) true m 3 ((List.drop 3 [a0, a1, a2, a3, a4, a5, a6]).take (Tryd.prog.cellsOf 3)) = _ := hf 3 _ rfl
    have f4 : DataW.trod enc Tryd.prog w 0 (fun _ => true) true m 3 ((List.drop 4 [a0, a1, a2, a3, a4, a5, a6]).take (Tryd.prog.cellsOf 3)) = _ := hf 4 _ rfl
    have f5 : DataW.trod enc Tryd.prog w 0 (fun _ => true) true m 3 ((List.drop 5 [a0, a1, a2, a3, a4, a5, a6]).take (Tryd.prog.cellsOf 3)) = _ := hf 5 _ rfl
    have f6 : DataW.trod enc Tryd.prog w 0 (fun _ => true) true m 3 ((List.drop 6 [a0, a1, a2, a3, a4, a5, a6]).take (Tryd.prog.cellsOf 3)) = _ := hf 6 _ rfl
    simp only [c3, c39, c40, c41] at f0 f1 f2 f3 f4 f5 f6
    simp only [Prod.mk.injEq] at hx
    obtain ⟨rfl, rfl⟩ := hx
    obtain ⟨d0, p0⟩ := x0
    obtain ⟨d1, p1⟩ := x1
    obtain ⟨d2, p2⟩ := x2
    have hw : ∀ n, n ∈ d0.weights Tryd.prog 39 ∨ n ∈ d1.weights Tryd.prog 40 ∨ n ∈ d2.weights Tryd.prog 41 → n ≤ reachBytes := fun n hn => hsz n (by
      simp only [List.map_cons, List.map_nil, DataW.weights, Tryd.underlying43, List.mem_append, DataW.weightsEach, List.not_mem_nil, or_false]
      rcases hn with hn | hn | hn
      · exact .inl hn
      · exact .inr (.inl hn)
      · exact .inr (.inr (.inl hn)))
    obtain ⟨A1, k1, l1, e1, r1, _⟩ := open_flatW (B := B) Tryd.underlying39 (show Tryd.prog.cellsOf 38 = 4 by kernel_rfl) (by omega) (show Tryd.prog.bytesOf 38 = 48 by kernel_rfl) open_sv f0 (fun x hx => hlt x (by simp [hx])) (fun n hn => hw n (.inl hn))
    obtain ⟨A2, k2, l2, e2, r2, _⟩ := open_flatW (B := B) Tryd.underlying40 (show Tryd.prog.cellsOf 85 = 4 by kernel_rfl) (by omega) (show Tryd.prog.bytesOf 85 = 48 by kernel_rfl) open_up f1 (fun x hx => hlt x (by simp [hx])) (fun n hn => hw n (.inr (.inl hn)))
    obtain ⟨A3, k3, l3, e3, r3, _⟩ := open_flatW (B := B) Tryd.underlying41 (show Tryd.prog.cellsOf 87 = 5 by kernel_rfl) (by omega) (show Tryd.prog.bytesOf 87 = 48 by kernel_rfl) open_bd f2 (fun x hx => hlt x (by simp [hx])) (fun n hn => hw n (.inr (.inr hn)))
    obtain ⟨n3, h3, _, _⟩ := DataW.trod_int Tryd.underlying3 f3
    obtain ⟨n4, h4, _, _⟩ := DataW.trod_int Tryd.underlying3 f4
    obtain ⟨n5, h5, _, _⟩ := DataW.trod_int Tryd.underlying3 f5
    obtain ⟨n6, h6, _, _⟩ := DataW.trod_int Tryd.underlying3 f6
    simp at e1 e2 e3 h3 h4 h5 h6
    subst e1 e2 e3 h3 h4 h5 h6
    exact ⟨A1, k1, A2, k2, A3, k3, l1, l2, l3, n3, n4, n5, n6, rfl, r1, r2, r3⟩
end
section
variable {H : Type} {enc : TypeId × Value → H} {W : World} {base : Nat}
set_option maxRecDepth 100000 in
/-- a conf given as an argument -/
theorem open_confArg {v : Value} {d : DataW H} {ps : List MemPlace} (hval : Value.okWide Tryd.prog W .any base 43 v) (h : DataW.Trod enc Tryd.prog W 0 (fun _ => true) true 43 v d ps) (hlt : ∀ x ∈ ps, x.block < W.heap.size) (hsz : ∀ n ∈ d.weights Tryd.prog 43, n ≤ reachBytes) :
    ∃ A1 c1 A2 c2 A3 c3, ∃ l1 : List Sv, ∃ l2 : List Up, ∃ l3 : List Bd, ∃ fl cn wt tm : Int, v = .agg #[.slice A1 l1.length c1, .slice A2 l2.length c2, .slice A3 l3.length c3, .int .i64 fl, .int .i64 cn, .int .i64 wt, .int .i64 tm] ∧ Rd 4 encS W W.heap.size A1 l1 ∧ Rd 4 encU W W.heap.size A2 l2 ∧ Rd 5 encB W W.heap.size A3 l3 := by
  obtain ⟨cs, hcs, -⟩ := okWide_struct Tryd.underlying43 hval
  subst hcs
  obtain ⟨fuel, hf⟩ := h
  obtain ⟨A1, c1, A2, c2, A3, c3, l1, l2, l3, fl, cn, wt, tm, he, r1, r2, r3⟩ := open_conf hf hlt hsz
  refine ⟨A1, c1, A2, c2, A3, c3, l1, l2, l3, fl, cn, wt, tm, ?_, r1, r2, r3⟩
  cases cs
  simp only [Value.cells] at he
  rw [he]
end
end Go.Proofs.YtmcjgfoaiannoabDoor
