/-
  What the cells of the opening arguments are: slices of flat elements, ledgers. No condition.
-/
import Derived.Test.YtmcjgfoaiannoaaLed1
import Derived.Test.YtmcjgfoaiannoaaFrame
import Derived.Deep.Slices
import Derived.OpenShut
import Derived.Outline
namespace Go.Proofs.Ytmcjgfoaiannoaa
open Go.RowKit Go.Deep Go.ChangeShapes Go.WideShapes Go.ChangeAt

theorem len1 {α : Type} {l : List α} (h : l.length = 1) : ∃ a0, l = [a0] := by
  match l, h with
  | [a0], _ => exact ⟨_, rfl⟩
theorem len2 {α : Type} {l : List α} (h : l.length = 2) : ∃ a0 a1, l = [a0, a1] := by
  match l, h with
  | [a0, a1], _ => exact ⟨_, _, rfl⟩
theorem len3 {α : Type} {l : List α} (h : l.length = 3) : ∃ a0 a1 a2, l = [a0, a1, a2] := by
  match l, h with
  | [a0, a1, a2], _ => exact ⟨_, _, _, rfl⟩
theorem len4 {α : Type} {l : List α} (h : l.length = 4) : ∃ a0 a1 a2 a3, l = [a0, a1, a2, a3] := by
  match l, h with
  | [a0, a1, a2, a3], _ => exact ⟨_, _, _, _, rfl⟩
theorem len5 {α : Type} {l : List α} (h : l.length = 5) : ∃ a0 a1 a2 a3 a4, l = [a0, a1, a2, a3, a4] := by
  match l, h with
  | [a0, a1, a2, a3, a4], _ => exact ⟨_, _, _, _, _, rfl⟩
theorem len7 {α : Type} {l : List α} (h : l.length = 7) : ∃ a0 a1 a2 a3 a4 a5 a6, l = [a0, a1, a2, a3, a4, a5, a6] := by
  match l, h with
  | [a0, a1, a2, a3, a4, a5, a6], _ => exact ⟨_, _, _, _, _, _, _, rfl⟩
theorem len9 {α : Type} {l : List α} (h : l.length = 9) : ∃ a0 a1 a2 a3 a4 a5 a6 a7 a8, l = [a0, a1, a2, a3, a4, a5, a6, a7, a8] := by
  match l, h with
  | [a0, a1, a2, a3, a4, a5, a6, a7, a8], _ => exact ⟨_, _, _, _, _, _, _, _, _, rfl⟩
theorem len10 {α : Type} {l : List α} (h : l.length = 10) : ∃ a0 a1 a2 a3 a4 a5 a6 a7 a8 a9, l = [a0, a1, a2, a3, a4, a5, a6, a7, a8, a9] := by
  match l, h with
  | [a0, a1, a2, a3, a4, a5, a6, a7, a8, a9], _ => exact ⟨_, _, _, _, _, _, _, _, _, _, rfl⟩
theorem len16 {α : Type} {l : List α} (h : l.length = 16) : ∃ a0 a1 a2 a3 a4 a5 a6 a7 a8 a9 a10 a11 a12 a13 a14 a15, l = [a0, a1, a2, a3, a4, a5, a6, a7, a8, a9, a10, a11, a12, a13, a14, a15] := by
  match l, h with
  | [a0, a1, a2, a3, a4, a5, a6, a7, a8, a9, a10, a11, a12, a13, a14, a15], _ => exact ⟨_, _, _, _, _, _, _, _, _, _, _, _, _, _, _, _, rfl⟩
theorem len17 {α : Type} {l : List α} (h : l.length = 17) : ∃ a0 a1 a2 a3 a4 a5 a6 a7 a8 a9 a10 a11 a12 a13 a14 a15 a16, l = [a0, a1, a2, a3, a4, a5, a6, a7, a8, a9, a10, a11, a12, a13, a14, a15, a16] := by
  match l, h with
  | [a0, a1, a2, a3, a4, a5, a6, a7, a8, a9, a10, a11, a12, a13, a14, a15, a16], _ => exact ⟨_, _, _, _, _, _, _, _, _, _, _, _, _, _, _, _, _, rfl⟩
section
variable {H : Type} {enc : TypeId × Value → H} {P : Program} {w : World}

/-- a slice of elements of k cells each, whose cells are known: as a list -/
theorem open_flat {α : Type} [Inhabited α] {cs : List Value} {k by_ B : Nat} {en : α → List Value} {t e : TypeId} {fuel : Nat} {d : DataW H} {ps : List MemPlace} (ht : P.underlying t = some (.slice e)) (hk : P.cellsOf e = k) (h0 : 0 < k) (hb : P.bytesOf e = by_)
    (helem : ∀ n ecs x, DataW.trod enc P w 0 (fun _ => true) true n e ecs = some x → ∃ a : α, ecs = en a)
    (h : DataW.trod enc P w 0 (fun _ => true) true fuel t cs = some (d, ps)) (hlt : ∀ x ∈ ps, x.block < B) (hsz : ∀ n ∈ d.weights P t, n ≤ reachBytes) :
    ∃ A c, ∃ l : List α, cs = [.slice A l.length c] ∧ Rd k en w B A l ∧ l.length ≤ c ∧ c ≤ maxLen ∧ c * by_ ≤ reachBytes := by
  rcases open_slice ht h with ⟨rfl, hx⟩ | ⟨a, len, cap, m, n, D, Pl, rfl, _, hl, hm, hmm, hx, hi⟩
  · exact ⟨none, 0, [], rfl, Rd.nil_, Nat.le_refl _, by simp [maxLen], by simp [reachBytes]⟩
  · simp only [if_true] at hmm
    subst hmm
    simp only [Prod.mk.injEq] at hx
    obtain ⟨rfl, rfl⟩ := hx
    have hch : ∀ i, i < len → ∃ x : α, w.cells? 0 (a.add (i * k)) k = some (en x) := fun i hil => by
      obtain ⟨cs', h1, h2⟩ := hi i (by omega)
      obtain ⟨x, rfl⟩ := helem _ _ _ h2
      rw [hk] at h1
      exact ⟨x, h1⟩
    obtain ⟨f, hf⟩ := choose_lt hch
    refine ⟨some a, m, (List.range len).map f, by simp, ?_, by simpa using hl, hm, ?_⟩
    · intro hlen
      have hl0 : 0 < len := by simpa using hlen
      obtain ⟨_, hc0, hat⟩ := World.cells?_some (hf 0 hl0)
      have hsp := hat 0 h0
      obtain ⟨b, off, spot⟩ := a
      have hspot : spot = none := by
        have h9 : (en (f 0))[0]? = some ((en (f 0))[0]'(by omega)) := List.getElem?_eq_getElem (by omega)
        rw [h9] at hsp
        simpa [Addr.add] using World.cell?_spot hsp
      subst hspot
      refine ⟨b, off, rfl, ?_, ?_⟩
      · have hmem : MemPlace.cell b off ∈ MemPlace.row ⟨b, off, none⟩ (m * P.cellsOf e) := by
          simp only [MemPlace.row, List.mem_map, List.mem_range]
          exact ⟨0, by rw [hk]; exact Nat.mul_pos (by omega) h0, by simp⟩
        exact hlt _ (List.mem_append_left _ hmem)
      · intro i x hx j u hu
        have hil : i < len := by
          have := (List.getElem?_eq_some_iff.1 hx).1
          simpa using this
        have hxf : x = f i := by simpa [hil] using hx.symm
        subst hxf
        obtain ⟨_, hci, hati⟩ := World.cells?_some (hf i hil)
        have hj : j < k := by rw [← hci]; exact (List.getElem?_eq_some_iff.1 hu).1
        have := (hati j hj).trans hu
        rw [add_plain', add_plain'] at this
        exact this
    · have := hsz ((len + (m - len)) * P.bytesOf e) (by simp [DataW.weights, ht])
      rw [hb] at this
      rwa [show len + (m - len) = m by omega] at this
end

section
variable {H : Type} {enc : TypeId × Value → H} {w : World}

theorem open_hold (n : Nat) (ecs : List Value) (x : DataW H × List MemPlace) (h : DataW.trod enc Try.prog w 0 (fun _ => true) true n 27 ecs = some x) : ∃ a : Int × Int × Int, ecs = encH a := by
  obtain ⟨xs, m, _, _, hlen, hxs, hf⟩ := DataW.trod_struct Try.underlying27 h
  rw [show Try.prog.cellsOf 27 = 3 by kernel_rfl] at hlen
  have c3 : Try.prog.cellsOf 3 = 1 := by kernel_rfl
  obtain ⟨a0, a1, a2, rfl⟩ := len3 hlen
  obtain ⟨x0, x1, x2, rfl⟩ := len3 hxs
  all_goals
    have f0 : DataW.trod enc Try.prog w 0 (fun _ => true) true m 3 ((List.drop 0 [a0, a1, a2]).take (Try.prog.cellsOf 3)) = _ := hf 0 _ rfl
    have f1 : DataW.trod enc Try.prog w 0 (fun _ => true) true m 3 ((List.drop 1 [a0, a1, a2]).take (Try.prog.cellsOf 3)) = _ := hf 1 _ rfl
    have f2 : DataW.trod enc Try.prog w 0 (fun _ => true) true m 3 ((List.drop 2 [a0, a1, a2]).take (Try.prog.cellsOf 3)) = _ := hf 2 _ rfl
    simp only [c3] at f0 f1 f2
    obtain ⟨n0, h0, _, _⟩ := DataW.trod_int Try.underlying3 f0
    obtain ⟨n1, h1, _, _⟩ := DataW.trod_int Try.underlying3 f1
    obtain ⟨n2, h2, _, _⟩ := DataW.trod_int Try.underlying3 f2
    simp at h0 h1 h2
    subst h0 h1 h2
    exact ⟨(n0, n1, n2), rfl⟩

theorem open_arr4 {n : Nat} {ecs : List Value} {x : DataW H × List MemPlace} (h : DataW.trod enc Try.prog w 0 (fun _ => true) true n 23 ecs = some x) : ∃ a b c d : Int, ecs = [.int .i64 a, .int .i64 b, .int .i64 c, .int .i64 d] := by
  obtain ⟨xs, m, _, _, hlen, hxs, hf⟩ := DataW.trod_array Try.underlying23 h
  rw [show Try.prog.cellsOf 23 = 4 by kernel_rfl] at hlen
  have c3 : Try.prog.cellsOf 3 = 1 := by kernel_rfl
  obtain ⟨a0, a1, a2, a3, rfl⟩ := len4 hlen
  obtain ⟨x0, x1, x2, x3, rfl⟩ := len4 hxs
  all_goals
    have f0 := hf 0 (by omega)
    have f1 := hf 1 (by omega)
    have f2 := hf 2 (by omega)
    have f3 := hf 3 (by omega)
    simp only [c3] at f0 f1 f2 f3
    obtain ⟨n0, h0, _, _⟩ := DataW.trod_int Try.underlying3 f0
    obtain ⟨n1, h1, _, _⟩ := DataW.trod_int Try.underlying3 f1
    obtain ⟨n2, h2, _, _⟩ := DataW.trod_int Try.underlying3 f2
    obtain ⟨n3, h3, _, _⟩ := DataW.trod_int Try.underlying3 f3
    simp at h0 h1 h2 h3
    subst h0 h1 h2 h3
    exact ⟨n0, n1, n2, n3, rfl⟩

/-- what a ledger's cells are -/
theorem open_ledger {B fuel : Nat} {cs : List Value} {d : DataW H} {ps : List MemPlace} (h : DataW.trod enc Try.prog w 0 (fun _ => true) true fuel 25 cs = some (d, ps)) (hlt : ∀ x ∈ ps, x.block < B) (hsz : ∀ n ∈ d.weights Try.prog 25, n ≤ reachBytes) :
    ∃ A c, ∃ l : List (Int × Int × Int), ∃ m0 m1 m2 m3 : Int, cs = [.slice A l.length c, .int .i64 m0, .int .i64 m1, .int .i64 m2, .int .i64 m3] ∧ Rd 3 encH w B A l ∧ l.length ≤ c ∧ c ≤ maxLen ∧ c * 24 ≤ reachBytes := by
  obtain ⟨xs, m, _, hx, hlen, hxs, hf⟩ := DataW.trod_struct Try.underlying25 h
  rw [show Try.prog.cellsOf 25 = 5 by kernel_rfl] at hlen
  have c22 : Try.prog.cellsOf 22 = 1 := by kernel_rfl
  have c23 : Try.prog.cellsOf 23 = 4 := by kernel_rfl
  obtain ⟨a0, a1, a2, a3, a4, rfl⟩ := len5 hlen
  obtain ⟨x0, x1, rfl⟩ := len2 hxs
  all_goals
    have f0 : DataW.trod enc Try.prog w 0 (fun _ => true) true m 22 ((List.drop 0 [a0, a1, a2, a3, a4]).take (Try.prog.cellsOf 22)) = _ := hf 0 _ rfl
    have f1 : DataW.trod enc Try.prog w 0 (fun _ => true) true m 23 ((List.drop 1 [a0, a1, a2, a3, a4]).take (Try.prog.cellsOf 23)) = _ := hf 1 _ rfl
    simp only [c22, c23] at f0 f1
    simp only [Prod.mk.injEq] at hx
    obtain ⟨rfl, rfl⟩ := hx
    obtain ⟨b0, b1, b2, b3, hb⟩ := open_arr4 f1
    obtain ⟨d0, p0⟩ := x0
    obtain ⟨A, c, l, ha, hr, h1, h2, h3⟩ := open_flat (B := B) Try.underlying22 (show Try.prog.cellsOf 27 = 3 by kernel_rfl) (by omega) (show Try.prog.bytesOf 27 = 24 by kernel_rfl) open_hold f0 (fun x hx => hlt x (by simp [hx])) (fun n hn => hsz n (by
      simp only [List.map_cons, List.map_nil, DataW.weights, Try.underlying25, List.mem_append, DataW.weightsEach]
      exact .inl hn))
    simp at ha hb
    obtain ⟨rfl, rfl, rfl, rfl⟩ := hb
    subst ha
    exact ⟨A, c, l, b0, b1, b2, b3, rfl, hr, h1, h2, h3⟩
end
section
variable {H : Type} {enc : TypeId × Value → H} {W : World} {base : Nat}
set_option maxRecDepth 100000 in
/-- a ledger given as an argument -/
theorem open_ledgerArg {v : Value} {d : DataW H} {ps : List MemPlace} (hval : Value.okWide Try.prog W .any base 25 v) (h : DataW.Trod enc Try.prog W 0 (fun _ => true) true 25 v d ps) (hlt : ∀ x ∈ ps, x.block < W.heap.size) (hsz : ∀ n ∈ d.weights Try.prog 25, n ≤ reachBytes) :
    ∃ A c, ∃ l : List (Int × Int × Int), ∃ m0 m1 m2 m3 : Int, v = .agg #[.slice A l.length c, .int .i64 m0, .int .i64 m1, .int .i64 m2, .int .i64 m3] ∧ Rd 3 encH W W.heap.size A l ∧ l.length ≤ c ∧ c ≤ maxLen ∧ c * 24 ≤ reachBytes := by
  obtain ⟨cs, hcs, -⟩ := okWide_struct Try.underlying25 hval
  subst hcs
  obtain ⟨fuel, hf⟩ := h
  obtain ⟨A, c, l, m0, m1, m2, m3, he, hr, h1, h2, h3⟩ := open_ledger hf hlt hsz
  refine ⟨A, c, l, m0, m1, m2, m3, ?_, hr, h1, h2, h3⟩
  cases cs
  simp only [Value.cells] at he
  rw [he]
theorem weights_each {P : Program} : ∀ {ts : List TypeId} {ds : List (DataW H)} (_ : (DataW.weightsEach P ts ds).all (· ≤ reachBytes) = true) (j : Nat) (t : TypeId) (d : DataW H), ts[j]? = some t → ds[j]? = some d → ∀ n ∈ d.weights P t, n ≤ reachBytes
  | [], _, _, _, _, _, h, _ => by simp at h
  | _ :: _, [], _, _, _, _, _, h => by simp at h
  | t :: ts, d :: ds, h, j, t', d', ht, hd => by
    simp only [DataW.weightsEach, List.all_append, Bool.and_eq_true] at h
    cases j with
    | zero =>
      simp at ht hd
      subst ht hd
      intro n hn
      simpa using List.all_eq_true.1 h.1 n hn
    | succ j => exact weights_each h.2 j t' d' (by simpa using ht) (by simpa using hd)
end
end Go.Proofs.Ytmcjgfoaiannoaa
