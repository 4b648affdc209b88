/-
  A world as an argument: what its cells are. No condition.
-/
import Derived.Test.YtmcjgfoaiannoaaOpenInts
import Derived.Test.YtmcjgfoaiannoaaPoolDat
namespace Go.Proofs.Ytmcjgfoaiannoaa
open Go.RowKit Go.Deep Go.ChangeShapes Go.WideShapes Go.ChangeAt

section
variable {H : Type} {enc : TypeId × Value → H} {w : World}
theorem open_mark (n : Nat) (ecs : List Value) (x : DataW H × List MemPlace) (h : DataW.trod enc Try.prog w 0 (fun _ => true) true n 82 ecs = some x) : ∃ a : Int × Int × Int, ecs = encH a := by
  obtain ⟨xs, m, _, _, hlen, hxs, hf⟩ := DataW.trod_struct Try.underlying82 h
  rw [show Try.prog.cellsOf 82 = 3 by kernel_rfl] at hlen
  have c3 : Try.prog.cellsOf 3 = 1 := by kernel_rfl
  obtain ⟨a0, a1, a2, rfl⟩ := len3 hlen
  obtain ⟨x0, x1, x2, rfl⟩ := len3 hxs
  all_goals
    have f0 : DataW.trod enc Try.prog w 0 (fun _ => true) true m 3 ((List.drop 0 [a0, a1, a2]).take (Try.prog.cellsOf 3)) = _ := hf 0 _ rfl
    have f1 : DataW.trod enc Try.prog w 0 (fun _ => true) true m 3 ((List.drop 1 [a0, a1, a2]).take (Try.prog.cellsOf 3)) = _ := hf 1 _ rfl
    have f2 : DataW.trod enc Try.prog w 0 (fun _ => true) true m 3 ((List.drop 2 [a0, a1, a2]).take (Try.prog.cellsOf 3)) = _ := hf 2 _ rfl
    simp only [c3] at f0 f1 f2
    obtain ⟨n0, h0, _, _⟩ := DataW.trod_int Try.underlying3 f0
    obtain ⟨n1, h1, _, _⟩ := DataW.trod_int Try.underlying3 f1
    obtain ⟨n2, h2, _, _⟩ := DataW.trod_int Try.underlying3 f2
    simp at h0 h1 h2
    subst h0 h1 h2
    exact ⟨(n0, n1, n2), rfl⟩
/-- what a world's lengths take -/
structure CapW (a : WA) (D : WD) : Prop where
  l : D.l.length ≤ a.c ∧ a.c ≤ maxLen ∧ a.c * 24 ≤ reachBytes
  g : D.g.length ≤ a.cg ∧ a.cg ≤ maxLen ∧ a.cg * 8 ≤ reachBytes
  f : D.f.length ≤ a.cf ∧ a.cf ≤ maxLen ∧ a.cf * 8 ≤ reachBytes
  q : D.q.length ≤ a.cq ∧ a.cq ≤ maxLen ∧ a.cq * 8 ≤ reachBytes
  m : D.m.length ≤ a.cm ∧ a.cm ≤ maxLen ∧ a.cm * 24 ≤ reachBytes
theorem CapW.fit {a : WA} {D : WD} (h : CapW a D) : Fit D := by
  obtain ⟨h1, h2, h3, h4, h5⟩ := h
  simp only [reachBytes] at h1 h2 h3 h4 h5
  exact ⟨by omega, by omega, by omega, by omega, by omega⟩
set_option maxRecDepth 100000 in
/-- what a world's cells are -/
theorem open_world {B fuel : Nat} {cs : List Value} {d : DataW H} {ps : List MemPlace} (h : DataW.trod enc Try.prog w 0 (fun _ => true) true fuel 67 cs = some (d, ps)) (hlt : ∀ x ∈ ps, x.block < B) (hsz : ∀ n ∈ d.weights Try.prog 67, n ≤ reachBytes) :
    ∃ a : WA, ∃ D : WD, cs = [.slice a.A D.l.length a.c, .int .i64 D.m0, .int .i64 D.m1, .int .i64 D.m2, .int .i64 D.m3, .slice a.Ag D.g.length a.cg, .slice a.Af D.f.length a.cf, .slice a.Aq D.q.length a.cq, .slice a.Am D.m.length a.cm] ∧ RdW w B a D ∧ CapW a D := by
  obtain ⟨xs, m, _, hx, hlen, hxs, hf⟩ := DataW.trod_struct Try.underlying67 h
  rw [show Try.prog.cellsOf 67 = 9 by kernel_rfl] at hlen
  have c25 : Try.prog.cellsOf 25 = 5 := by kernel_rfl
  have c44 : Try.prog.cellsOf 44 = 1 := by kernel_rfl
  have c65 : Try.prog.cellsOf 65 = 1 := by kernel_rfl
  obtain ⟨a0, a1, a2, a3, a4, a5, a6, a7, a8, rfl⟩ := len9 hlen
  obtain ⟨x0, x1, x2, x3, x4, rfl⟩ := len5 hxs
  all_goals
    have f0 : DataW.trod enc Try.prog w 0 (fun _ => true) true m 25 ((List.drop 0 [a0, a1, a2, a3, a4, a5, a6, a7, a8]).take (Try.prog.cellsOf 25)) = _ := hf 0 _ rfl
    have f1 : DataW.trod enc Try.prog w 0 (fun _ => true) true m 44 ((List.drop 5 [a0, a1, a2, a3, a4, a5, a6, a7, a8]).take (Try.prog.cellsOf 44)) = _ := hf 1 _ rfl
    have f2 : DataW.trod enc Try.prog w 0 (fun _ => true) true m 44 ((List.drop 6 [a0, a1, a2, a3, a4, a5, a6, a7, a8]).take (Try.prog.cellsOf 44)) = _ := hf 2 _ rfl
    have f3 : DataW.trod enc Try.prog w 0 (fun _ => true) true m 44 ((List.drop 7 [a0, a1, a2, a3, a4, a5, a6, a7, a8]).take (Try.prog.cellsOf 44)) = _ := hf 3 _ rfl
    have f4 : DataW.trod enc Try.prog w 0 (fun _ => true) true m 65 ((List.drop 8 [a0, a1, a2, a3, a4, a5, a6, a7, a8]).take (Try.prog.cellsOf 65)) = _ := hf 4 _ rfl
    simp only [c25, c44, c65] at f0 f1 f2 f3 f4
    simp only [Prod.mk.injEq] at hx
    obtain ⟨rfl, rfl⟩ := hx
    obtain ⟨d0, p0⟩ := x0
    obtain ⟨d1, p1⟩ := x1
    obtain ⟨d2, p2⟩ := x2
    obtain ⟨d3, p3⟩ := x3
    obtain ⟨d4, p4⟩ := x4
    have hw : ∀ n, n ∈ d0.weights Try.prog 25 ∨ n ∈ d1.weights Try.prog 44 ∨ n ∈ d2.weights Try.prog 44 ∨ n ∈ d3.weights Try.prog 44 ∨ n ∈ d4.weights Try.prog 65 → n ≤ reachBytes := fun n hn => hsz n (by
      simp only [List.map_cons, List.map_nil, DataW.weights, Try.underlying67, List.mem_append, DataW.weightsEach, List.not_mem_nil, or_false]
      exact hn)
    obtain ⟨A, c, l, m0, m1, m2, m3, ha, hr, h1, h2, h3⟩ := open_ledger (B := B) f0 (fun x hx => hlt x (by simp [hx])) (fun n hn => hw n (.inl hn))
    obtain ⟨Ag, cg, g, hag, hrg, g1, g2, g3⟩ := open_flat (B := B) Try.underlying44 (show Try.prog.cellsOf 3 = 1 by kernel_rfl) (by omega) (show Try.prog.bytesOf 3 = 8 by kernel_rfl) open_intElem f1 (fun x hx => hlt x (by simp [hx])) (fun n hn => hw n (.inr (.inl hn)))
    obtain ⟨Af, cf, f, haf, hrf, i1, i2, i3⟩ := open_flat (B := B) Try.underlying44 (show Try.prog.cellsOf 3 = 1 by kernel_rfl) (by omega) (show Try.prog.bytesOf 3 = 8 by kernel_rfl) open_intElem f2 (fun x hx => hlt x (by simp [hx])) (fun n hn => hw n (.inr (.inr (.inl hn))))
    obtain ⟨Aq, cq, q, haq, hrq, q1, q2, q3⟩ := open_flat (B := B) Try.underlying44 (show Try.prog.cellsOf 3 = 1 by kernel_rfl) (by omega) (show Try.prog.bytesOf 3 = 8 by kernel_rfl) open_intElem f3 (fun x hx => hlt x (by simp [hx])) (fun n hn => hw n (.inr (.inr (.inr (.inl hn)))))
    obtain ⟨Am, cm, mk, ham, hrm, k1, k2, k3⟩ := open_flat (B := B) Try.underlying65 (show Try.prog.cellsOf 82 = 3 by kernel_rfl) (by omega) (show Try.prog.bytesOf 82 = 24 by kernel_rfl) open_mark f4 (fun x hx => hlt x (by simp [hx])) (fun n hn => hw n (.inr (.inr (.inr (.inr hn)))))
    simp at ha hag haf haq ham
    obtain ⟨rfl, rfl, rfl, rfl, rfl⟩ := ha
    subst hag haf haq ham
    exact ⟨⟨A, Ag, Af, Aq, Am, c, cg, cf, cq, cm⟩, ⟨l, m0, m1, m2, m3, g, f, q, mk⟩, rfl, ⟨hr, hrg, hrf, hrq, hrm⟩, ⟨⟨h1, h2, h3⟩, ⟨g1, g2, g3⟩, ⟨i1, i2, i3⟩, ⟨q1, q2, q3⟩, ⟨k1, k2, k3⟩⟩⟩
end
section
variable {H : Type} {enc : TypeId × Value → H} {W : World} {base : Nat}
set_option maxRecDepth 100000 in
/-- a world given as an argument -/
theorem open_worldArg {v : Value} {d : DataW H} {ps : List MemPlace} (hval : Value.okWide Try.prog W .any base 67 v) (h : DataW.Trod enc Try.prog W 0 (fun _ => true) true 67 v d ps) (hlt : ∀ x ∈ ps, x.block < W.heap.size) (hsz : ∀ n ∈ d.weights Try.prog 67, n ≤ reachBytes) :
    ∃ a : WA, ∃ D : WD, v = wV a D ∧ RdW W W.heap.size a D ∧ CapW a D := by
  obtain ⟨cs, hcs, -⟩ := okWide_struct Try.underlying67 hval
  subst hcs
  obtain ⟨fuel, hf⟩ := h
  obtain ⟨a, D, he, hr, hc⟩ := open_world hf hlt hsz
  refine ⟨a, D, ?_, hr, hc⟩
  cases cs
  simp only [Value.cells] at he
  rw [he]
end
end Go.Proofs.Ytmcjgfoaiannoaa
