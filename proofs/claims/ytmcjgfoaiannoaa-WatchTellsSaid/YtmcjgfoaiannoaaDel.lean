/-
  slices.Delete of one hold out of a row that the call owns. Conditions: the index is one, the length bound that the reach pays.
-/
import Derived.Test.YtmcjgfoaiannoaaMine
import Derived.Deep.RegionLaw
namespace Go.Proofs.Ytmcjgfoaiannoaa
open Go.RowKit

theorem step_append_fits {P : Program} (w : World) {ops : Array Oper} {o : Oper} {a : Act} {K : Act → World → Prop} {Q : Exit → Act → World → Prop} {E : Prop}
    (hg : o.guard = none) (s x : Operand) (t : TypeId) (hop : o.op = Op.call { callee := Callee.builtin Builtin.append, args := #[s, x], argTypes := #[t, t] })
    (base : Nat) (e : TypeId) (i : TypeInfo) (size : Nat) (h1 : P.underlying t = some (.slice e)) (h2 : P.info? e = some i) (h4 : i.size = size)
    (g k cap : Nat) (xs : List Value) (hs : a.eval s = .slice (some ⟨g, 0, none⟩) k cap) (hown : w.ownsRow base e size (.slice (some ⟨g, 0, none⟩) k cap) k xs) (ad : Addr) (m c : Nat) (news : List Value) (hx : a.eval x = .slice (some ad) m c) (hn : news.length = m * size)
    (hc : ∀ j u, news[j]? = some u → w.cell? (ad.add j) = some u) (h1c : ∀ u ∈ news, u.oneCell' = true) (b1 : k + m ≤ cap)
    (hK : ∀ w', w'.ownsRow base e size (.slice (some ⟨g, 0, none⟩) (k + m) cap) (k + m) (xs ++ news) → w.grownBy w' (some g) → K (a.put o.dst (.slice (some ⟨g, 0, none⟩) (k + m) cap)) w') :
    if Region.wanted o (yielded ops a.tmps) = true then Oper.wp P o a w K Q else E := by
  have hw : Region.wanted o (yielded ops a.tmps) = true := by simp [Region.wanted, hg]
  rw [if_pos hw]
  obtain ⟨w', hrun, r1, r2⟩ := run_append_fits (P := P) w base t o.type e i size h1 h2 h4 g k cap xs hown ad m c news hn hc h1c b1
  unfold Oper.wp
  simp [execOp, hop, resolve, invoke, builtin, hs, hx, hrun, Result.andThen]
  exact hK w' r1 r2

/-- the first n of what is owned -/
theorem own_take {w : World} {base : Nat} {e : TypeId} {size n cap m : Nat} {A : Option Addr} {xs : List Value} (h : w.ownsRow base e size (.slice A n cap) n xs) (hn : 0 < n) (hm : m ≤ n) : w.ownsRow base e size (.slice A m cap) m (xs.take (m * size)) := by
  obtain ⟨h1, h2⟩ := h
  rcases h2 with ⟨_, rfl⟩ | ⟨g, cap', cur, hv, hg, hh, hc, hM, hs, ht⟩
  · omega
  · injection hv with hA _ hcap
    subst hA hcap
    have hms : m * size ≤ n * size := Nat.mul_le_mul_right _ hm
    refine ⟨by rw [List.length_take, h1]; omega, .inr ⟨g, cap, cur, rfl, hg, hh, by omega, hM, hs, ?_⟩⟩
    rw [← ht, List.take_take]
    congr 1
    omega
/-- a store behind what is owned -/
theorem own_beyond {w : World} {base : Nat} {e : TypeId} {size n cap g off : Nat} {xs : List Value} (h : w.ownsRow base e size (.slice (some ⟨g, 0, none⟩) n cap) n xs) (ho : n * size ≤ off) (u : Value) : (w.setCell ⟨g, off, none⟩ u).ownsRow base e size (.slice (some ⟨g, 0, none⟩) n cap) n xs := by
  obtain ⟨h1, h2⟩ := h
  rcases h2 with ⟨h, _⟩ | ⟨g', cap', cur, hv, hg, hh, hc, hM, hs, ht⟩
  · cases h
  · injection hv with hA _ hcap
    injection hA with hA
    injection hA with hA
    subst hA hcap
    refine ⟨h1, .inr ⟨g, cap, cur.setIfInBounds off u, rfl, hg, Blk.set_ hh off u, hc, hM, by simpa using hs, ?_⟩⟩
    rw [← ht]
    apply List.ext_getElem?
    intro j
    simp only [List.getElem?_take]
    split
    · simp [show off ≠ j by omega]
    · rfl
/-- the cells up to the capacity are there -/
theorem own_there {w : World} {base : Nat} {e : TypeId} {size n cap g off : Nat} {xs : List Value} (h : w.ownsRow base e size (.slice (some ⟨g, 0, none⟩) n cap) n xs) (ho : off < cap * size) : (∃ u, w.cell? ⟨g, off, none⟩ = some u) ∧ ∀ j, w.frozen? ⟨g, j, none⟩ = false := by
  obtain ⟨h1, h2⟩ := h
  rcases h2 with ⟨h, _⟩ | ⟨g', cap', cur, hv, hg, hh, hc, hM, hs, ht⟩
  · cases h
  · injection hv with hA _ hcap
    injection hA with hA
    injection hA with hA
    subst hA hcap
    refine ⟨⟨cur[off]'(by omega), ?_⟩, Blk.frz hh⟩
    rw [Blk.cell hh off]
    exact Array.getElem?_eq_getElem _

theorem only_setCell {a w : World} {g : Nat} (h : a.grownBy w (some g)) {p : Addr} (hp : p.block = g ∨ a.heap.size ≤ p.block) (u : Value) : a.grownBy (w.setCell p u) (some g) :=
  ⟨h.os, h.tape, h.output, by simpa [World.setCell] using h.size, fun i hi hne => (Below.heap_setCell w p u i (by
    rintro rfl
    rcases hp with hp | hp
    · exact hne (by rw [hp])
    · omega)).trans (h.block i hi hne)⟩
theorem only_drew' {a w : World} {row : Option Nat} (h : a.drew.grownBy w row) : a.grownBy w row := ⟨h.os, h.tape, h.output, h.size, h.block⟩
theorem run_clear1 (g off c n : Nat) (hn : n = 1) (w : World) (v0 v1 v2 : Value) (z0 : w.cell? ⟨g, off, none⟩ = some v0) (z1 : w.cell? ⟨g, off + 1, none⟩ = some v1) (z2 : w.cell? ⟨g, off + 2, none⟩ = some v2) (z3 : ∀ j, w.frozen? ⟨g, j, none⟩ = false) :
    Sem.run Try.prog (Builtin.clear_ #[22] 0 #[.slice (some ⟨g, off, none⟩) n c]) w = .ok (.tuple #[]) (((w.setCell ⟨g, off, none⟩ (.int .i64 0)).setCell ⟨g, off + 1, none⟩ (.int .i64 0)).setCell ⟨g, off + 2, none⟩ (.int .i64 0)) := by
  subst hn
  have hzero : ∀ W : World, (zeroValue 27).run Try.prog W = .ok (.agg #[.int .i64 0, .int .i64 0, .int .i64 0]) W := fun _ => by kernel_rfl
  simp [Builtin.clear_, run_underlying Try.underlying22, hzero, Builtin.zeroCells, z0, z1, z2, z3, go_sem]
set_option maxRecDepth 100000 in
set_option maxHeartbeats 2000000 in
theorem deleteH_end (g i : Nat) (xs : List Value) (w : World) (base : Nat) (ho : w.ownsRow base 27 3 (.slice (some ⟨g, 0, none⟩) (i + 1) (i + 1)) (i + 1) xs) (hn : i + 1 ≤ 140737488355328) :
    Calls Try.prog 48 #[.slice (some ⟨g, 0, none⟩) (i + 1) (i + 1), .int .i64 i, .int .i64 (i + 1)] w fun e w' =>
      e = .returned (.slice (some ⟨g, 0, none⟩) i (i + 1)) ∧ w'.ownsRow base 27 3 (.slice (some ⟨g, 0, none⟩) i (i + 1)) i (xs.take (i * 3)) ∧ w.grownBy w' (some g) := by
  have e1 : ((i : Int) == (i : Int) + 1) = false := by simp; omega
  have hp := own_take ho (by omega) (show i ≤ i + 1 by omega)
  obtain ⟨i0, hi0, hz0, hz1, hz2⟩ := info_parts infoH
  have HP := Lib.hid hp
  have HI := Lib.hid (And.intro hi0 hz1)
  clear hp hi0 hz0 hz1 hz2 ho
  have f1 : i ≤ i + 1 := by omega
  have f0 : (i : Int) ≤ (i : Int) + 1 := by omega
  have f5 : (0 : Int) ≤ (i : Int) + 1 := by omega
  go_enter Try.func48, Try.ntmps48
  go_wp2
  go_region_law (refine step_append_fits _ rfl (.tmp 22) (.tmp 25) 22 rfl base 27 i0 3 Try.underlying22 HI.out.1 HI.out.2 g i (i + 1) _ rfl HP.out ⟨g, 0, none⟩ 0 0 [] rfl rfl (fun j u hu => absurd hu (by simp)) (fun u hu => absurd hu (by simp)) (by omega) ?_; intro w3 hown3 hg3; simp only [List.append_nil, Nat.add_zero] at hown3)
  have ⟨⟨v0, z0⟩, z3⟩ := own_there (off := i * 3) hown3 (by omega)
  have ⟨⟨v1, z1⟩, _⟩ := own_there (off := i * 3 + 1) hown3 (by omega)
  have ⟨⟨v2, z2⟩, _⟩ := own_there (off := i * 3 + 2) hown3 (by omega)
  have hclr := run_clear1 g (i * 3) 1 1 rfl w3 v0 v1 v2 z0 z1 z2 z3
  have HW3 := Lib.hid hown3
  clear hown3 z0 z1 z2 z3
  simp only [Exit.then]
  go_wp2
  go_ret
  refine ⟨rfl, ?_, ?_⟩
  · exact own_beyond (own_beyond (own_beyond HW3.out (by omega) _) (by omega) _) (by omega) _
  · exact only_setCell (p := ⟨g, i * 3 + 2, none⟩) (only_setCell (p := ⟨g, i * 3 + 1, none⟩) (only_setCell (p := ⟨g, i * 3, none⟩) (only_drew' hg3) (.inl rfl) _) (.inl rfl) _) (.inl rfl) _

set_option maxRecDepth 100000 in
set_option maxHeartbeats 2000000 in
theorem deleteH_mid (g c i m : Nat) (xs : List Value) (w : World) (base : Nat) (ho : w.ownsRow base 27 3 (.slice (some ⟨g, 0, none⟩) (i + 1 + m) c) (i + 1 + m) xs) (h1 : ∀ u ∈ xs, u.oneCell' = true) (hn : i + 1 + m ≤ 140737488355328) (hc : i + 1 + m ≤ c) (hcm : c ≤ maxLen) (hci : ¬ c = i + 1) :
    Calls Try.prog 48 #[.slice (some ⟨g, 0, none⟩) (i + 1 + m) c, .int .i64 i, .int .i64 (i + 1)] w fun e w' =>
      e = .returned (.slice (some ⟨g, 0, none⟩) (i + m) c) ∧ w'.ownsRow base 27 3 (.slice (some ⟨g, 0, none⟩) (i + m) c) (i + m) (xs.take (i * 3) ++ xs.drop ((i + 1) * 3)) ∧ w.grownBy w' (some g) := by
  unfold maxLen at hcm
  have e1 : ((i : Int) == (i : Int) + 1) = false := by simp; omega
  have hp := own_take ho (by omega) (show i ≤ i + 1 + m by omega)
  have hl := ho.1
  have hnews : (xs.drop ((i + 1) * 3)).length = m * 3 := by rw [List.length_drop, hl]; omega
  have hcell : ∀ j u, (xs.drop ((i + 1) * 3))[j]? = some u → w.cell? ⟨g, (i + 1) * 3 + j, none⟩ = some u := by
    intro j u hu
    rw [List.getElem?_drop] at hu
    have := ho.cells (g := g) rfl ((i + 1) * 3 + j) u hu
    simpa [add_plain'] using this
  have hone : ∀ u ∈ xs.drop ((i + 1) * 3), u.oneCell' = true := fun u hu => h1 u (List.mem_of_mem_drop hu)
  obtain ⟨i0, hi0, hz0, hz1, hz2⟩ := info_parts infoH
  have hzero : ∀ W : World, (zeroValue 27).run Try.prog W = .ok (.agg #[.int .i64 0, .int .i64 0, .int .i64 0]) W := fun _ => by kernel_rfl
  have HP := Lib.hid hp
  have HN := Lib.hid hnews
  have HC := Lib.hid hcell
  have HO := Lib.hid hone
  have HI := Lib.hid (And.intro hi0 hz1)
  have HW := Lib.hid ho
  clear hp hnews hcell hone hi0 hz0 hz1 hz2 hl ho h1
  have f1 : i ≤ c := by omega
  have f2 : i + 1 ≤ c := by omega
  have f3 : i + 1 ≤ i + 1 + m := by omega
  have f4 : i ≤ i + 1 + m := by omega
  have f5 : (0 : Int) ≤ (i : Int) + 1 := by omega
  have f6 : (i : Int) + 1 ≤ (i : Int) + 1 + (m : Int) := by omega
  go_enter Try.func48, Try.ntmps48
  go_wp2
  go_region_law (refine step_append_fits _ rfl (.tmp 22) (.tmp 25) 22 rfl base 27 i0 3 Try.underlying22 HI.out.1 HI.out.2 g i c _ rfl HP.out ⟨g, (i + 1) * 3, none⟩ m (c - (i + 1)) _ rfl HN.out (fun j u hu => by rw [add_plain']; exact HC.out j u hu) HO.out (by omega) ?_; intro w3 hown3 hg3)
  have ⟨⟨v0, z0⟩, z3⟩ := own_there (off := (i + m) * 3) hown3 (by omega)
  have ⟨⟨v1, z1⟩, _⟩ := own_there (off := (i + m) * 3 + 1) hown3 (by omega)
  have ⟨⟨v2, z2⟩, _⟩ := own_there (off := (i + m) * 3 + 2) hown3 (by omega)
  have hclr := run_clear1 g ((i + m) * 3) (c - (i + m)) (i + 1 + m - (i + m)) (by omega) w3 v0 v1 v2 z0 z1 z2 z3
  have HW3 := Lib.hid hown3
  clear hown3 z0 z1 z2 z3
  have f7 : (i : Int) + (m : Int) ≤ (i : Int) + 1 + (m : Int) := by omega
  have f8 : (0 : Int) ≤ (i : Int) + (m : Int) := by omega
  have f9 : i + m ≤ c := by omega
  have f10 : i + 1 + m ≤ c := by omega
  have f11 : ¬ c = i + m := by omega
  simp only [Exit.then]
  go_wp2
  go_ret
  refine ⟨rfl, ?_, ?_⟩
  · exact own_beyond (own_beyond (own_beyond HW3.out (by omega) _) (by omega) _) (by omega) _
  · exact only_setCell (p := ⟨g, (i + m) * 3 + 2, none⟩) (only_setCell (p := ⟨g, (i + m) * 3 + 1, none⟩) (only_setCell (p := ⟨g, (i + m) * 3, none⟩) (only_drew' hg3) (.inl rfl) _) (.inl rfl) _) (.inl rfl) _
end Go.Proofs.Ytmcjgfoaiannoaa
