/-
  Messages and filters as arguments: what their cells are. No condition.
-/
import Derived.Test.YtmcjgfoaiannoabDoorBOpen
import Derived.Test.YtmcjgfoaiannoabDoorMDat
import Derived.Test.YtmcjgfoaiannoabDoorSWr
namespace Go.Proofs.YtmcjgfoaiannoabDoor
open Go.RowKit Go.Deep Go.ChangeShapes Go.WideShapes Go.ChangeAt

theorem len1 {α : Type} {l : List α} (h : l.length = 1) : ∃ a0, l = [a0] := by
  match l, h with
  | [a0], _ => exact ⟨_, rfl⟩
theorem len2 {α : Type} {l : List α} (h : l.length = 2) : ∃ a0 a1, l = [a0, a1] := by
  match l, h with
  | [a0, a1], _ => exact ⟨_, _, rfl⟩
theorem len4 {α : Type} {l : List α} (h : l.length = 4) : ∃ a0 a1 a2 a3, l = [a0, a1, a2, a3] := by
  match l, h with
  | [a0, a1, a2, a3], _ => exact ⟨_, _, _, _, rfl⟩
theorem len7 {α : Type} {l : List α} (h : l.length = 7) : ∃ a0 a1 a2 a3 a4 a5 a6, l = [a0, a1, a2, a3, a4, a5, a6] := by
  match l, h with
  | [a0, a1, a2, a3, a4, a5, a6], _ => exact ⟨_, _, _, _, _, _, _, rfl⟩
section
variable {H : Type} {enc : TypeId × Value → H} {P : Program} {w : World}
theorem weightsAll_mem {e : TypeId} {n : Nat} : ∀ {ds : List (DataW H)} {d : DataW H}, d ∈ ds → n ∈ d.weights P e → n ∈ DataW.weightsAll P e ds
  | [], _, h, _ => absurd h (by simp)
  | x :: ds, d, h, hn => by
    simp only [DataW.weightsAll, List.mem_append]
    rcases List.mem_cons.1 h with rfl | h
    · exact .inl hn
    · exact .inr (weightsAll_mem h hn)
/-- a slice of elements of k cells each, whose cells are known if the reach bounds them: as a list -/
theorem open_flatW {α : Type} [Inhabited α] {cs : List Value} {k by_ B : Nat} {en : α → List Value} {t e : TypeId} {fuel : Nat} {d : DataW H} {ps : List MemPlace} (ht : P.underlying t = some (.slice e)) (hk : P.cellsOf e = k) (h0 : 0 < k) (hb : P.bytesOf e = by_)
    (helem : ∀ n ecs x, DataW.trod enc P w 0 (fun _ => true) true n e ecs = some x → (∀ n ∈ x.1.weights P e, n ≤ reachBytes) → ∃ a : α, ecs = en a)
    (h : DataW.trod enc P w 0 (fun _ => true) true fuel t cs = some (d, ps)) (hlt : ∀ x ∈ ps, x.block < B) (hsz : ∀ n ∈ d.weights P t, n ≤ reachBytes) :
    ∃ A c, ∃ l : List α, cs = [.slice A l.length c] ∧ Rd k en w B A l ∧ l.length ≤ c ∧ c ≤ maxLen ∧ c * by_ ≤ reachBytes ∧ (A = none → l.length = 0 ∧ c = 0) := by
  rcases open_slice ht h with ⟨rfl, hx⟩ | ⟨a, len, cap, m, n, D, Pl, rfl, _, hl, hm, hmm, hx, hi⟩
  · exact ⟨none, 0, [], rfl, Rd.nil_, Nat.le_refl _, by simp [maxLen], by simp [reachBytes], fun _ => ⟨rfl, rfl⟩⟩
  · simp only [if_true] at hmm
    subst hmm
    simp only [Prod.mk.injEq] at hx
    obtain ⟨rfl, rfl⟩ := hx
    have hch : ∀ i, i < len → ∃ x : α, w.cells? 0 (a.add (i * k)) k = some (en x) := fun i hil => by
      obtain ⟨cs', h1, h2⟩ := hi i (by omega)
      obtain ⟨x, rfl⟩ := helem _ _ _ h2 (fun n hn => hsz n (by
        simp only [DataW.weights, ht, List.mem_cons, List.mem_append]
        exact .inr (.inl (weightsAll_mem (List.mem_map.2 ⟨i, List.mem_range.2 hil, rfl⟩) hn))))
      rw [hk] at h1
      exact ⟨x, h1⟩
    obtain ⟨f, hf⟩ := choose_lt hch
    refine ⟨some a, m, (List.range len).map f, by simp, ?_, by simpa using hl, hm, ?_, fun h => by cases h⟩
    · intro hlen
      have hl0 : 0 < len := by simpa using hlen
      obtain ⟨_, hc0, hat⟩ := World.cells?_some (hf 0 hl0)
      have hsp := hat 0 h0
      obtain ⟨b, off, spot⟩ := a
      have hspot : spot = none := by
        have h9 : (en (f 0))[0]? = some ((en (f 0))[0]'(by omega)) := List.getElem?_eq_getElem (by omega)
        rw [h9] at hsp
        simpa [Addr.add] using World.cell?_spot hsp
      subst hspot
      refine ⟨b, off, rfl, ?_, ?_⟩
      · have hmem : MemPlace.cell b off ∈ MemPlace.row ⟨b, off, none⟩ (m * P.cellsOf e) := by
          simp only [MemPlace.row, List.mem_map, List.mem_range]
          exact ⟨0, by rw [hk]; exact Nat.mul_pos (by omega) h0, by simp⟩
        exact hlt _ (List.mem_append_left _ hmem)
      · intro i x hx j u hu
        have hil : i < len := by
          have := (List.getElem?_eq_some_iff.1 hx).1
          simpa using this
        have hxf : x = f i := by simpa [hil] using hx.symm
        subst hxf
        obtain ⟨_, hci, hati⟩ := World.cells?_some (hf i hil)
        have hj : j < k := by rw [← hci]; exact (List.getElem?_eq_some_iff.1 hu).1
        have := (hati j hj).trans hu
        rw [add_plain', add_plain'] at this
        exact this
    · have := hsz ((len + (m - len)) * P.bytesOf e) (by simp [DataW.weights, ht])
      rw [hb] at this
      rwa [show len + (m - len) = m by omega] at this
end
instance : Inhabited Hd := ⟨⟨ByteArray.empty, ByteArray.empty, by decide, by decide⟩⟩
section
variable {H : Type} {enc : TypeId × Value → H} {w : World}
theorem open_hd (n : Nat) (ecs : List Value) (x : DataW H × List MemPlace) (h : DataW.trod enc Tryd.prog w 0 (fun _ => true) true n 81 ecs = some x) (hsz : ∀ n ∈ x.1.weights Tryd.prog 81, n ≤ reachBytes) : ∃ a : Hd, ecs = encHd a := by
  obtain ⟨xs, m, _, hx, hlen, hxs, hf⟩ := DataW.trod_struct Tryd.underlying81 h
  rw [show Tryd.prog.cellsOf 81 = 2 by kernel_rfl] at hlen
  have c9 : Tryd.prog.cellsOf 9 = 1 := by kernel_rfl
  obtain ⟨a0, a1, rfl⟩ := len2 hlen
  obtain ⟨x0, x1, rfl⟩ := len2 hxs
  all_goals
    have f0 : DataW.trod enc Tryd.prog w 0 (fun _ => true) true m 9 ((List.drop 0 [a0, a1]).take (Tryd.prog.cellsOf 9)) = _ := hf 0 _ rfl
    have f1 : DataW.trod enc Tryd.prog w 0 (fun _ => true) true m 9 ((List.drop 1 [a0, a1]).take (Tryd.prog.cellsOf 9)) = _ := hf 1 _ rfl
    simp only [c9] at f0 f1
    obtain ⟨n0, h0, g0, q0⟩ := DataW.trod_string Tryd.underlying9 f0
    obtain ⟨n1, h1, g1, q1⟩ := DataW.trod_string Tryd.underlying9 f1
    simp at h0 h1
    subst h0 h1
    subst g0 g1
    subst hx
    have s0 := hsz n0.data.toList.length (by
      simp only [List.map_cons, List.map_nil, DataW.weights, Tryd.underlying81, List.mem_append, DataW.weightsEach, List.mem_cons, List.not_mem_nil, or_false]
      simp)
    rw [Array.length_toList] at s0
    simp only [reachBytes] at s0
    have s0 : n0.size ≤ 140737488355328 := by show n0.data.size ≤ _; omega
    have s1 := hsz n1.data.toList.length (by
      simp only [List.map_cons, List.map_nil, DataW.weights, Tryd.underlying81, List.mem_append, DataW.weightsEach, List.mem_cons, List.not_mem_nil, or_false]
      simp)
    rw [Array.length_toList] at s1
    simp only [reachBytes] at s1
    have s1 : n1.size ≤ 140737488355328 := by show n1.data.size ≤ _; omega
    exact ⟨⟨n0, n1, s0, s1⟩, rfl⟩
theorem open_byte (n : Nat) (ecs : List Value) (x : DataW H × List MemPlace) (h : DataW.trod enc Tryd.prog w 0 (fun _ => true) true n 5 ecs = some x) (_ : ∀ n ∈ x.1.weights Tryd.prog 5, n ≤ reachBytes) : ∃ a : UInt8, ecs = encY a := by
  obtain ⟨m, rfl, _, hw⟩ := DataW.trod_int Tryd.underlying5 h
  have h0 : 0 ≤ m ∧ m < 256 := by
    simp [Lit.wf] at hw
    have e1 : IntKind.u8.min = 0 := by decide
    have e2 : IntKind.u8.max = 255 := by decide
    omega
  refine ⟨UInt8.ofNat m.toNat, ?_⟩
  have e : (UInt8.ofNat m.toNat).toNat = m.toNat := by
    rw [UInt8.toNat_ofNat']
    omega
  show [Value.int .u8 m] = [Value.int .u8 ((UInt8.ofNat m.toNat).toNat : Int)]
  rw [e, Int.toNat_of_nonneg h0.1]
/-- a message that can be read: bounds -/
structure MsgOk (w : World) (B : Nat) (st : Int) (path : ByteArray) (A : Option Addr) (l : List Hd) (c : Nat) (AB : Option Addr) (bd : List UInt8) (cb : Nat) : Prop where
  st_ : (Lit.int .i64 st).wf = true
  path_ : path.size ≤ 140737488355328
  rl : Rd 2 encHd w B A l
  lc : l.length ≤ c
  cc : c * 32 ≤ 140737488351232
  ln : A = none → l.length = 0 ∧ c = 0
  rb : Rd 1 encY w B AB bd
  bc : bd.length ≤ cb
  cb_ : cb ≤ 140737488351232
  bn : AB = none → bd.length = 0 ∧ cb = 0
set_option maxRecDepth 100000 in
/-- what a message's cells are -/
theorem open_msg {B fuel : Nat} {cs : List Value} {d : DataW H} {ps : List MemPlace} (h : DataW.trod enc Tryd.prog w 0 (fun _ => true) true fuel 32 cs = some (d, ps)) (hlt : ∀ x ∈ ps, x.block < B) (hsz : ∀ n ∈ d.weights Tryd.prog 32, n ≤ reachBytes) :
    ∃ st path A l c AB bd cb, cs = (msgC st path A l.length c AB bd.length cb).toList ∧ MsgOk w B st path A l c AB bd cb := by
  obtain ⟨xs, m, _, hx, hlen, hxs, hf⟩ := DataW.trod_struct Tryd.underlying32 h
  rw [show Tryd.prog.cellsOf 32 = 4 by kernel_rfl] at hlen
  have c3 : Tryd.prog.cellsOf 3 = 1 := by kernel_rfl
  have c9 : Tryd.prog.cellsOf 9 = 1 := by kernel_rfl
  have c29 : Tryd.prog.cellsOf 29 = 1 := by kernel_rfl
  have c30 : Tryd.prog.cellsOf 30 = 1 := by kernel_rfl
  obtain ⟨a0, a1, a2, a3, rfl⟩ := len4 hlen
  obtain ⟨x0, x1, x2, x3, rfl⟩ := len4 hxs
  all_goals
    have f0 : DataW.trod enc Tryd.prog w 0 (fun _ => true) true m 3 ((List.drop 0 [a0, a1, a2, a3]).take (Tryd.prog.cellsOf 3)) = _ := hf 0 _ rfl
    have f1 : DataW.trod enc Tryd.prog w 0 (fun _ => true) true m 9 ((List.drop 1 [a0, a1, a2, a3]).take (Tryd.prog.cellsOf 9)) = _ := hf 1 _ rfl
    have f2 : DataW.trod enc Tryd.prog w 0 (fun _ => true) true m 29 ((List.drop 2 [a0, a1, a2, a3]).take (Tryd.prog.cellsOf 29)) = _ := hf 2 _ rfl
    have f3 : DataW.trod enc Tryd.prog w 0 (fun _ => true) true m 30 ((List.drop 3 [a0, a1, a2, a3]).take (Tryd.prog.cellsOf 30)) = _ := hf 3 _ rfl
    simp only [c3, c9, c29, c30] at f0 f1 f2 f3
    simp only [Prod.mk.injEq] at hx
    obtain ⟨rfl, rfl⟩ := hx
    obtain ⟨d2, p2⟩ := x2
    obtain ⟨d3, p3⟩ := x3
    have hw : ∀ n, n ∈ x1.1.weights Tryd.prog 9 ∨ n ∈ d2.weights Tryd.prog 29 ∨ n ∈ d3.weights Tryd.prog 30 → n ≤ reachBytes := fun n hn => hsz n (by
      simp only [List.map_cons, List.map_nil, DataW.weights, Tryd.underlying32, List.mem_append, DataW.weightsEach, List.not_mem_nil, or_false]
      rcases hn with hn | hn | hn
      · exact .inr (.inl hn)
      · exact .inr (.inr (.inl hn))
      · exact .inr (.inr (.inr hn)))
    obtain ⟨A1, k1, l1, e1, r1, q1, _, u1, z1⟩ := open_flatW (B := B) Tryd.underlying29 (show Tryd.prog.cellsOf 81 = 2 by kernel_rfl) (by omega) (show Tryd.prog.bytesOf 81 = 32 by kernel_rfl) open_hd f2 (fun x hx => hlt x (by simp [hx])) (fun n hn => hw n (.inr (.inl hn)))
    obtain ⟨A2, k2, l2, e2, r2, q2, _, u2, z2⟩ := open_flatW (B := B) Tryd.underlying30 (show Tryd.prog.cellsOf 5 = 1 by kernel_rfl) (by omega) (show Tryd.prog.bytesOf 5 = 1 by kernel_rfl) open_byte f3 (fun x hx => hlt x (by simp [hx])) (fun n hn => hw n (.inr (.inr hn)))
    obtain ⟨n0, h0, _, w0⟩ := DataW.trod_int Tryd.underlying3 f0
    obtain ⟨n1, h1, g1, _⟩ := DataW.trod_string Tryd.underlying9 f1
    simp at h0 h1 e1 e2
    subst h0 h1 e1 e2 g1
    have s1 := hw n1.data.toList.length (.inl (by simp [DataW.weights]))
    rw [Array.length_toList] at s1
    simp only [reachBytes] at s1 u1 u2
    have s1 : n1.size ≤ 140737488355328 := by show n1.data.size ≤ _; omega
    exact ⟨n0, n1, A1, l1, k1, A2, l2, k2, rfl, w0, s1, r1, q1, u1, z1, r2, q2, by omega, z2⟩
end
section
variable {H : Type} {enc : TypeId × Value → H} {W : World} {base : Nat}
set_option maxRecDepth 100000 in
/-- a message given as an argument -/
theorem open_msgArg {v : Value} {d : DataW H} {ps : List MemPlace} (hval : Value.okWide Tryd.prog W .any base 32 v) (h : DataW.Trod enc Tryd.prog W 0 (fun _ => true) true 32 v d ps) (hlt : ∀ x ∈ ps, x.block < W.heap.size) (hsz : ∀ n ∈ d.weights Tryd.prog 32, n ≤ reachBytes) :
    ∃ st path A l c AB bd cb, v = msgV st path A l.length c AB bd.length cb ∧ MsgOk W W.heap.size st path A l c AB bd cb := by
  obtain ⟨cs, hcs, -⟩ := okWide_struct Tryd.underlying32 hval
  subst hcs
  obtain ⟨fuel, hf⟩ := h
  obtain ⟨st, path, A, l, c, AB, bd, cb, he, r⟩ := open_msg hf hlt hsz
  refine ⟨st, path, A, l, c, AB, bd, cb, ?_, r⟩
  cases cs
  simp only [Value.cells] at he
  rw [he]
set_option maxRecDepth 100000 in
/-- a filter given as an argument -/
theorem open_sivArg {v : Value} {d : DataW H} {ps : List MemPlace} (hval : Value.okWide Tryd.prog W .any base 38 v) (h : DataW.Trod enc Tryd.prog W 0 (fun _ => true) true 38 v d ps) (hsz : ∀ n ∈ d.weights Tryd.prog 38, n ≤ reachBytes) :
    ∃ k n key text, v = sivV k n key text ∧ (Lit.int .i64 k).wf = true ∧ (Lit.int .i64 n).wf = true ∧ key.size ≤ 140737488355328 ∧ text.size ≤ 140737488355328 := by
  obtain ⟨cs, hcs, -⟩ := okWide_struct Tryd.underlying38 hval
  subst hcs
  obtain ⟨fuel, hh⟩ := h
  obtain ⟨xs, m, _, hx, hlen, hxs, hf⟩ := DataW.trod_struct Tryd.underlying38 hh
  rw [show Tryd.prog.cellsOf 38 = 4 by kernel_rfl] at hlen
  have c3 : Tryd.prog.cellsOf 3 = 1 := by kernel_rfl
  have c9 : Tryd.prog.cellsOf 9 = 1 := by kernel_rfl
  obtain ⟨a0, a1, a2, a3, hal⟩ := len4 hlen
  rw [hal] at hf
  obtain ⟨x0, x1, x2, x3, rfl⟩ := len4 hxs
  all_goals
    have f0 : DataW.trod enc Tryd.prog W 0 (fun _ => true) true m 3 ((List.drop 0 [a0, a1, a2, a3]).take (Tryd.prog.cellsOf 3)) = _ := hf 0 _ rfl
    have f1 : DataW.trod enc Tryd.prog W 0 (fun _ => true) true m 3 ((List.drop 1 [a0, a1, a2, a3]).take (Tryd.prog.cellsOf 3)) = _ := hf 1 _ rfl
    have f2 : DataW.trod enc Tryd.prog W 0 (fun _ => true) true m 9 ((List.drop 2 [a0, a1, a2, a3]).take (Tryd.prog.cellsOf 9)) = _ := hf 2 _ rfl
    have f3 : DataW.trod enc Tryd.prog W 0 (fun _ => true) true m 9 ((List.drop 3 [a0, a1, a2, a3]).take (Tryd.prog.cellsOf 9)) = _ := hf 3 _ rfl
    simp only [c3, c9] at f0 f1 f2 f3
    obtain ⟨n0, h0, g0, w0⟩ := DataW.trod_int Tryd.underlying3 f0
    obtain ⟨n1, h1, g1, w1⟩ := DataW.trod_int Tryd.underlying3 f1
    obtain ⟨n2, h2, g2, _⟩ := DataW.trod_string Tryd.underlying9 f2
    obtain ⟨n3, h3, g3, _⟩ := DataW.trod_string Tryd.underlying9 f3
    simp at h0 h1 h2 h3
    subst h0 h1 h2 h3 g0 g1 g2 g3
    simp only [Prod.mk.injEq] at hx
    obtain ⟨rfl, rfl⟩ := hx
    have s2 := hsz n2.data.toList.length (by
      simp only [List.map_cons, List.map_nil, DataW.weights, Tryd.underlying38, List.mem_append, DataW.weightsEach, List.mem_cons, List.not_mem_nil, or_false]
      simp)
    rw [Array.length_toList] at s2
    simp only [reachBytes] at s2
    have s2 : n2.size ≤ 140737488355328 := by show n2.data.size ≤ _; omega
    have s3 := hsz n3.data.toList.length (by
      simp only [List.map_cons, List.map_nil, DataW.weights, Tryd.underlying38, List.mem_append, DataW.weightsEach, List.mem_cons, List.not_mem_nil, or_false]
      simp)
    rw [Array.length_toList] at s3
    simp only [reachBytes] at s3
    have s3 : n3.size ≤ 140737488355328 := by show n3.data.size ≤ _; omega
    refine ⟨n0, n1, n2, n3, ?_, w0, w1, s2, s3⟩
    cases cs
    simp only [Value.cells] at hal
    rw [hal]
set_option maxRecDepth 100000 in
/-- a string given as an argument -/
theorem open_strArg {v : Value} {d : DataW H} {ps : List MemPlace} (h : DataW.Trod enc Tryd.prog W 0 (fun _ => true) true 9 v d ps) (hval : Value.okWide Tryd.prog W .any base 9 v) (hsz : ∀ n ∈ d.weights Tryd.prog 9, n ≤ reachBytes) : ∃ s : ByteArray, v = .string s ∧ s.size ≤ 140737488355328 := by
  obtain ⟨s, rfl⟩ := okWide_string Tryd.underlying9 hval
  obtain ⟨fuel, hf⟩ := h
  obtain ⟨s', h', hx, _⟩ := DataW.trod_string Tryd.underlying9 hf
  simp [Value.cells] at h'
  subst h'
  simp only [Prod.mk.injEq] at hx
  obtain ⟨rfl, rfl⟩ := hx
  have s1 := hsz s.data.toList.length (by simp [DataW.weights])
  rw [Array.length_toList] at s1
  simp only [reachBytes] at s1
  exact ⟨s, rfl, by show s.data.size ≤ _; omega⟩
end
end Go.Proofs.YtmcjgfoaiannoabDoor
