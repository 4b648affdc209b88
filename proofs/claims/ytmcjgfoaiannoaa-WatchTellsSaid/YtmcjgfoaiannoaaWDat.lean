/-
  A server as an argument: what its cells are. No condition.
-/
import Derived.Test.YtmcjgfoaiannoaaPoolOpen
import Derived.Test.YtmcjgfoaiannoaaWLaw
namespace Go.Proofs.Ytmcjgfoaiannoaa
open Go.RowKit Go.Deep Go.ChangeShapes Go.WideShapes Go.ChangeAt

structure SA where
  a : WA
  AF : Option Addr
  cF : Nat
structure SD where
  D : WD
  F : List Fl
  k0 : Value
  k1 : Value
  k2 : Value
  fl : Int
  cn : Int
  wt : Int
  tm : Int
abbrev sV (s : SA) (d : SD) : Value := .agg #[d.k0, d.k1, d.k2, .int .i64 d.fl, .int .i64 d.cn, .int .i64 d.wt, .int .i64 d.tm, .slice s.a.A d.D.l.length s.a.c, .int .i64 d.D.m0, .int .i64 d.D.m1, .int .i64 d.D.m2, .int .i64 d.D.m3, .slice s.a.Ag d.D.g.length s.a.cg, .slice s.a.Af d.D.f.length s.a.cf, .slice s.a.Aq d.D.q.length s.a.cq, .slice s.a.Am d.D.m.length s.a.cm, .slice s.AF d.F.length s.cF]
/-- its slices read so, in blocks below B -/
structure RdS (w : World) (B : Nat) (s : SA) (d : SD) : Prop where
  W : RdW w B s.a d.D
  F : Rd 16 encFl w B s.AF d.F
/-- what its lengths take, and the ints of its queue -/
structure FitS (d : SD) : Prop where
  W : Fit d.D
  F : d.F.length ≤ 140737488355328
  q : ∀ x ∈ d.D.q, (Lit.int .i64 x).wf = true
section
variable {H : Type} {enc : TypeId × Value → H} {w : World}
abbrev WI := {x : Int // (Lit.int .i64 x).wf = true}
instance : Inhabited WI := ⟨⟨0, by decide⟩⟩
theorem open_wi (n : Nat) (ecs : List Value) (x : DataW H × List MemPlace) (h : DataW.trod enc Try.prog w 0 (fun _ => true) true n 3 ecs = some x) : ∃ a : WI, ecs = encI a.1 := by
  obtain ⟨n0, h0, h1, h2⟩ := DataW.trod_int Try.underlying3 h
  exact ⟨⟨n0, by assumption⟩, h0⟩
theorem rd_wi {B : Nat} {A : Option Addr} {q : List WI} (h : Rd 1 (fun a : WI => encI a.1) w B A q) : Rd 1 encI w B A (q.map (·.1)) := fun hl => by
  obtain ⟨b, off, e, hb, hc⟩ := h (by simpa using hl)
  refine ⟨b, off, e, hb, fun i x hx j u hu => ?_⟩
  rw [List.getElem?_map] at hx
  obtain ⟨y, hy, rfl⟩ := Option.map_eq_some_iff.1 hx
  exact hc i y hy j u hu
theorem one_slice {n : Nat} {t e : TypeId} {v : Value} {x : DataW H × List MemPlace} (ht : Try.prog.underlying t = some (.slice e)) (h : DataW.trod enc Try.prog w 0 (fun _ => true) true n t [v] = some x) : v.oneCell' = true := by
  rcases Go.Deep.open_slice ht h with ⟨hv, hx⟩ | ⟨_, _, _, _, _, _, _, hv, _⟩ <;> (simp at hv; subst hv; rfl)
theorem open_msg1 {n : Nat} {u0 u1 u2 u3 : Value} {x : DataW H × List MemPlace} (h : DataW.trod enc Try.prog w 0 (fun _ => true) true n 110 [u0, u1, u2, u3] = some x) : ∃ n0 : Int, [u0] = [.int .i64 n0] ∧ u1.oneCell' = true ∧ u2.oneCell' = true ∧ u3.oneCell' = true := by
  obtain ⟨ys, m2, _, _, _, hys, hg⟩ := DataW.trod_struct Try.underlying110 h
  obtain ⟨y0, y1, y2, y3, rfl⟩ := len4 hys
  have c3 : Try.prog.cellsOf 3 = 1 := by kernel_rfl
  have c9 : Try.prog.cellsOf 9 = 1 := by kernel_rfl
  have c107 : Try.prog.cellsOf 107 = 1 := by kernel_rfl
  have c108 : Try.prog.cellsOf 108 = 1 := by kernel_rfl
  have g0 : DataW.trod enc Try.prog w 0 (fun _ => true) true m2 3 ((List.drop 0 [u0, u1, u2, u3]).take (Try.prog.cellsOf 3)) = _ := hg 0 _ rfl
  have g1 : DataW.trod enc Try.prog w 0 (fun _ => true) true m2 9 ((List.drop 1 [u0, u1, u2, u3]).take (Try.prog.cellsOf 9)) = _ := hg 1 _ rfl
  have g2 : DataW.trod enc Try.prog w 0 (fun _ => true) true m2 107 ((List.drop 2 [u0, u1, u2, u3]).take (Try.prog.cellsOf 107)) = _ := hg 2 _ rfl
  have g3 : DataW.trod enc Try.prog w 0 (fun _ => true) true m2 108 ((List.drop 3 [u0, u1, u2, u3]).take (Try.prog.cellsOf 108)) = _ := hg 3 _ rfl
  simp only [c3, c9, c107, c108] at g0 g1 g2 g3
  obtain ⟨n0, h0, _, _⟩ := DataW.trod_int Try.underlying3 g0
  obtain ⟨s, h1, _, _⟩ := DataW.trod_string Try.underlying9 g1
  have o2 := one_slice Try.underlying107 g2
  have o3 := one_slice Try.underlying108 g3
  simp at h1
  subst h1
  exact ⟨n0, h0, rfl, o2, o3⟩
set_option maxRecDepth 100000 in
theorem open_fl (n : Nat) (ecs : List Value) (x : DataW H × List MemPlace) (h : DataW.trod enc Try.prog w 0 (fun _ => true) true n 113 ecs = some x) : ∃ a : Fl, ecs = encFl a := by
  obtain ⟨xs, m, _, _, hlen, hxs, hf⟩ := DataW.trod_struct Try.underlying113 h
  rw [show Try.prog.cellsOf 113 = 16 by kernel_rfl] at hlen
  have c3 : Try.prog.cellsOf 3 = 1 := by kernel_rfl
  have c4 : Try.prog.cellsOf 4 = 1 := by kernel_rfl
  have c110 : Try.prog.cellsOf 110 = 4 := by kernel_rfl
  have c9 : Try.prog.cellsOf 9 = 1 := by kernel_rfl
  have c44 : Try.prog.cellsOf 44 = 1 := by kernel_rfl
  have c111 : Try.prog.cellsOf 111 = 1 := by kernel_rfl
  obtain ⟨a0, a1, a2, a3, a4, a5, a6, a7, a8, a9, a10, a11, a12, a13, a14, a15, rfl⟩ := len16 hlen
  obtain ⟨x0, x1, x2, x3, x4, x5, x6, x7, x8, x9, rfl⟩ := len10 hxs
  all_goals
    have f0 : DataW.trod enc Try.prog w 0 (fun _ => true) true m 3 ((List.drop 0 [a0, a1, a2, a3, a4, a5, a6, a7, a8, a9, a10, a11, a12, a13, a14, a15]).take (Try.prog.cellsOf 3)) = _ := hf 0 _ rfl
    have f1 : DataW.trod enc Try.prog w 0 (fun _ => true) true m 3 ((List.drop 1 [a0, a1, a2, a3, a4, a5, a6, a7, a8, a9, a10, a11, a12, a13, a14, a15]).take (Try.prog.cellsOf 3)) = _ := hf 1 _ rfl
    have f2 : DataW.trod enc Try.prog w 0 (fun _ => true) true m 3 ((List.drop 2 [a0, a1, a2, a3, a4, a5, a6, a7, a8, a9, a10, a11, a12, a13, a14, a15]).take (Try.prog.cellsOf 3)) = _ := hf 2 _ rfl
    have f3 : DataW.trod enc Try.prog w 0 (fun _ => true) true m 110 ((List.drop 3 [a0, a1, a2, a3, a4, a5, a6, a7, a8, a9, a10, a11, a12, a13, a14, a15]).take (Try.prog.cellsOf 110)) = _ := hf 3 _ rfl
    have f4 : DataW.trod enc Try.prog w 0 (fun _ => true) true m 110 ((List.drop 7 [a0, a1, a2, a3, a4, a5, a6, a7, a8, a9, a10, a11, a12, a13, a14, a15]).take (Try.prog.cellsOf 110)) = _ := hf 4 _ rfl
    have f5 : DataW.trod enc Try.prog w 0 (fun _ => true) true m 44 ((List.drop 11 [a0, a1, a2, a3, a4, a5, a6, a7, a8, a9, a10, a11, a12, a13, a14, a15]).take (Try.prog.cellsOf 44)) = _ := hf 5 _ rfl
    have f6 : DataW.trod enc Try.prog w 0 (fun _ => true) true m 44 ((List.drop 12 [a0, a1, a2, a3, a4, a5, a6, a7, a8, a9, a10, a11, a12, a13, a14, a15]).take (Try.prog.cellsOf 44)) = _ := hf 6 _ rfl
    have f7 : DataW.trod enc Try.prog w 0 (fun _ => true) true m 111 ((List.drop 13 [a0, a1, a2, a3, a4, a5, a6, a7, a8, a9, a10, a11, a12, a13, a14, a15]).take (Try.prog.cellsOf 111)) = _ := hf 7 _ rfl
    have f8 : DataW.trod enc Try.prog w 0 (fun _ => true) true m 4 ((List.drop 14 [a0, a1, a2, a3, a4, a5, a6, a7, a8, a9, a10, a11, a12, a13, a14, a15]).take (Try.prog.cellsOf 4)) = _ := hf 8 _ rfl
    have f9 : DataW.trod enc Try.prog w 0 (fun _ => true) true m 4 ((List.drop 15 [a0, a1, a2, a3, a4, a5, a6, a7, a8, a9, a10, a11, a12, a13, a14, a15]).take (Try.prog.cellsOf 4)) = _ := hf 9 _ rfl
    simp only [c3, c4, c110, c44, c111] at f0 f1 f2 f3 f4 f5 f6 f7 f8 f9
    obtain ⟨n0, h0, _, _⟩ := DataW.trod_int Try.underlying3 f0
    obtain ⟨n1, h1, _, _⟩ := DataW.trod_int Try.underlying3 f1
    obtain ⟨n8, h8, _⟩ := DataW.trod_bool Try.underlying4 f8
    obtain ⟨n2, h2, _, _⟩ := DataW.trod_int Try.underlying3 f2
    obtain ⟨n9, h9, _⟩ := DataW.trod_bool Try.underlying4 f9
    have o11 := one_slice Try.underlying44 f5
    have o12 := one_slice Try.underlying44 f6
    have o13 := one_slice Try.underlying111 f7
    obtain ⟨n7, h7, o8, o9, o10⟩ := open_msg1 f4
    obtain ⟨n3, h3, o4, o5, o6⟩ := open_msg1 f3
    simp at h0 h1 h2 h3 h7 h8 h9
    subst h0 h1 h2 h3 h7 h8 h9
    exact ⟨⟨n0, n1, ⟨_, rfl⟩, ⟨_, rfl⟩, ⟨a4, o4⟩, ⟨a5, o5⟩, ⟨a6, o6⟩, n7, ⟨a8, o8⟩, ⟨a9, o9⟩, ⟨a10, o10⟩, ⟨a11, o11⟩, ⟨a12, o12⟩, ⟨a13, o13⟩, n8, ⟨_, rfl⟩⟩, rfl⟩
set_option maxRecDepth 100000 in
set_option maxHeartbeats 1000000 in
/-- what a server's cells are -/
theorem open_server {B fuel : Nat} {cs : List Value} {d : DataW H} {ps : List MemPlace} (h : DataW.trod enc Try.prog w 0 (fun _ => true) true fuel 79 cs = some (d, ps)) (hlt : ∀ x ∈ ps, x.block < B) (hsz : ∀ n ∈ d.weights Try.prog 79, n ≤ reachBytes) :
    ∃ s : SA, ∃ d : SD, cs = [d.k0, d.k1, d.k2, .int .i64 d.fl, .int .i64 d.cn, .int .i64 d.wt, .int .i64 d.tm, .slice s.a.A d.D.l.length s.a.c, .int .i64 d.D.m0, .int .i64 d.D.m1, .int .i64 d.D.m2, .int .i64 d.D.m3, .slice s.a.Ag d.D.g.length s.a.cg, .slice s.a.Af d.D.f.length s.a.cf, .slice s.a.Aq d.D.q.length s.a.cq, .slice s.a.Am d.D.m.length s.a.cm, .slice s.AF d.F.length s.cF] ∧ RdS w B s d ∧ FitS d ∧ d.D.q.length ≤ s.a.cq ∧ s.a.cq ≤ maxLen := by
  obtain ⟨xs, m, _, hx, hlen, hxs, hf⟩ := DataW.trod_struct Try.underlying79 h
  rw [show Try.prog.cellsOf 79 = 17 by kernel_rfl] at hlen
  have c3 : Try.prog.cellsOf 3 = 1 := by kernel_rfl
  have c50 : Try.prog.cellsOf 50 = 7 := by kernel_rfl
  have c67 : Try.prog.cellsOf 67 = 9 := by kernel_rfl
  have c77 : Try.prog.cellsOf 77 = 1 := by kernel_rfl
  have c44 : Try.prog.cellsOf 44 = 1 := by kernel_rfl
  obtain ⟨a0, a1, a2, a3, a4, a5, a6, a7, a8, a9, a10, a11, a12, a13, a14, a15, a16, rfl⟩ := len17 hlen
  obtain ⟨x0, x1, x2, rfl⟩ := len3 hxs
  all_goals
    have f0 : DataW.trod enc Try.prog w 0 (fun _ => true) true m 50 ((List.drop 0 [a0, a1, a2, a3, a4, a5, a6, a7, a8, a9, a10, a11, a12, a13, a14, a15, a16]).take (Try.prog.cellsOf 50)) = _ := hf 0 _ rfl
    have f1 : DataW.trod enc Try.prog w 0 (fun _ => true) true m 67 ((List.drop 7 [a0, a1, a2, a3, a4, a5, a6, a7, a8, a9, a10, a11, a12, a13, a14, a15, a16]).take (Try.prog.cellsOf 67)) = _ := hf 1 _ rfl
    have f2 : DataW.trod enc Try.prog w 0 (fun _ => true) true m 77 ((List.drop 16 [a0, a1, a2, a3, a4, a5, a6, a7, a8, a9, a10, a11, a12, a13, a14, a15, a16]).take (Try.prog.cellsOf 77)) = _ := hf 2 _ rfl
    simp only [c50, c67, c77] at f0 f1 f2
    simp only [List.drop, List.take] at f0 f1 f2
    simp only [Prod.mk.injEq] at hx
    obtain ⟨rfl, rfl⟩ := hx
    obtain ⟨d0, p0⟩ := x0
    obtain ⟨d1, p1⟩ := x1
    obtain ⟨d2, p2⟩ := x2
    have hw : ∀ n, n ∈ d0.weights Try.prog 50 ∨ n ∈ d1.weights Try.prog 67 ∨ n ∈ d2.weights Try.prog 77 → n ≤ reachBytes := fun n hn => hsz n (by
      simp only [List.map_cons, List.map_nil, DataW.weights, Try.underlying79, List.mem_append, DataW.weightsEach, List.not_mem_nil, or_false]
      exact hn)
    obtain ⟨AF, cF, F, haF, hrF, g1, g2, g3⟩ := open_flat (B := B) Try.underlying77 (show Try.prog.cellsOf 113 = 16 by kernel_rfl) (by omega) (show Try.prog.bytesOf 113 = 248 by kernel_rfl) open_fl f2 (fun x hx => hlt x (by simp [hx])) (fun n hn => hw n (.inr (.inr hn)))
    obtain ⟨a, D, ha, hr, hcap⟩ := open_world (B := B) f1 (fun x hx => hlt x (by simp [hx])) (fun n hn => hw n (.inr (.inl hn)))
    -- the ints of the queue
    obtain ⟨ys, m1, _, hy, _, hys, hg⟩ := DataW.trod_struct Try.underlying67 f1
    obtain ⟨y0, y1, y2, y3, y4, rfl⟩ := len5 hys
    have g7 : DataW.trod enc Try.prog w 0 (fun _ => true) true m1 44 ((List.drop 7 [a7, a8, a9, a10, a11, a12, a13, a14, a15]).take (Try.prog.cellsOf 44)) = some y3 := hg 3 _ rfl
    simp only [c44] at g7
    simp only [List.drop, List.take] at g7
    simp only [Prod.mk.injEq] at hy
    obtain ⟨rfl, rfl⟩ := hy
    obtain ⟨e3, p3⟩ := y3
    have hw2 : ∀ n, n ∈ e3.weights Try.prog 44 → n ≤ reachBytes := fun n hn => hw n (.inr (.inl (by
      simp only [List.map_cons, List.map_nil, DataW.weights, Try.underlying67, List.mem_append, DataW.weightsEach, List.not_mem_nil, or_false]
      exact .inr (.inr (.inr (.inl hn))))))
    obtain ⟨Aq, cq, q, haq, hrq, _, _, _⟩ := open_flat (α := WI) (en := fun a => encI a.1) (B := B) Try.underlying44 (show Try.prog.cellsOf 3 = 1 by kernel_rfl) (by omega) (show Try.prog.bytesOf 3 = 8 by kernel_rfl) open_wi g7 (fun x hx => hlt x (by simp [hx])) hw2
    -- the conf
    obtain ⟨zs, m3, _, _, _, hzs, hk⟩ := DataW.trod_struct Try.underlying50 f0
    obtain ⟨z0, z1, z2, z3, z4, z5, z6, rfl⟩ := len7 hzs
    have k3 : DataW.trod enc Try.prog w 0 (fun _ => true) true m3 3 ((List.drop 3 [a0, a1, a2, a3, a4, a5, a6]).take (Try.prog.cellsOf 3)) = _ := hk 3 _ rfl
    have k4 : DataW.trod enc Try.prog w 0 (fun _ => true) true m3 3 ((List.drop 4 [a0, a1, a2, a3, a4, a5, a6]).take (Try.prog.cellsOf 3)) = _ := hk 4 _ rfl
    have k5 : DataW.trod enc Try.prog w 0 (fun _ => true) true m3 3 ((List.drop 5 [a0, a1, a2, a3, a4, a5, a6]).take (Try.prog.cellsOf 3)) = _ := hk 5 _ rfl
    have k6 : DataW.trod enc Try.prog w 0 (fun _ => true) true m3 3 ((List.drop 6 [a0, a1, a2, a3, a4, a5, a6]).take (Try.prog.cellsOf 3)) = _ := hk 6 _ rfl
    simp only [c3] at k3 k4 k5 k6
    obtain ⟨n3, h3, _, _⟩ := DataW.trod_int Try.underlying3 k3
    obtain ⟨n4, h4, _, _⟩ := DataW.trod_int Try.underlying3 k4
    obtain ⟨n5, h5, _, _⟩ := DataW.trod_int Try.underlying3 k5
    obtain ⟨n6, h6, _, _⟩ := DataW.trod_int Try.underlying3 k6
    simp at ha haF haq h3 h4 h5 h6
    obtain ⟨rfl, rfl, rfl, rfl, rfl, rfl, rfl, rfl, rfl⟩ := ha
    simp at haq
    obtain ⟨hA, hL, hC⟩ := haq
    have hfit := hcap.fit
    have hrq2 := rd_wi hrq
    subst haF h3 h4 h5 h6
    refine ⟨⟨⟨a.A, a.Ag, a.Af, Aq, a.Am, a.c, a.cg, a.cf, a.cq, a.cm⟩, AF, cF⟩, ⟨⟨D.l, D.m0, D.m1, D.m2, D.m3, D.g, D.f, q.map (·.1), D.m⟩, F, a0, a1, a2, n3, n4, n5, n6⟩, ?_, ⟨⟨hr.l, hr.g, hr.f, hrq2, hr.m⟩, hrF⟩, ⟨⟨hfit.l, hfit.g, hfit.f, ?_, hfit.m⟩, ?_, ?_⟩, ?_, hcap.q.2.1⟩
    · simp [hA, hL]
    · have := hfit.q
      simp only [List.length_map]
      omega
    · simp only [reachBytes] at g3
      show F.length ≤ _
      omega
    · intro x hx
      obtain ⟨y, _, rfl⟩ := List.mem_map.1 hx
      exact y.2
    · have := hcap.q.1
      simp only [List.length_map]
      omega
end
section
variable {H : Type} {enc : TypeId × Value → H} {W : World} {base : Nat}
set_option maxRecDepth 100000 in
/-- a server given as an argument -/
theorem open_serverArg {v : Value} {d : DataW H} {ps : List MemPlace} (hval : Value.okWide Try.prog W .any base 79 v) (h : DataW.Trod enc Try.prog W 0 (fun _ => true) true 79 v d ps) (hlt : ∀ x ∈ ps, x.block < W.heap.size) (hsz : ∀ n ∈ d.weights Try.prog 79, n ≤ reachBytes) :
    ∃ s : SA, ∃ d : SD, v = sV s d ∧ RdS W W.heap.size s d ∧ FitS d ∧ d.D.q.length ≤ s.a.cq ∧ s.a.cq ≤ maxLen := by
  obtain ⟨cs, hcs, -⟩ := okWide_struct Try.underlying79 hval
  subst hcs
  obtain ⟨fuel, hf⟩ := h
  obtain ⟨s, d, he, hr, hc⟩ := open_server hf hlt hsz
  refine ⟨s, d, ?_, hr, hc⟩
  cases cs
  simp only [Value.cells] at he
  rw [he]
end
end Go.Proofs.Ytmcjgfoaiannoaa
