/-
  All of the ledger: what an id holds, what it has taken last first. Condition: the length bound that the reach pays.
-/
import Derived.Test.YtmcjgfoaiannoaaLast
namespace Go.Proofs.Ytmcjgfoaiannoaa
open Go.RowKit Go.Shelf
attribute [local go_sem] Oper.semAt_some

theorem own_own {β : Type} (B base : Nat) (e : TypeId) (size n : Nat) (v : Value) (xs : List Value) : OwnFrom B (fun (_ : β) W => W.ownsRow base e size v n xs) := fun _ W W' row hs hg hr => by
  refine ⟨hs.1, ?_⟩
  rcases hs.2 with h2 | ⟨g, cap, cur, rfl, hgb, hh, r⟩
  · exact .inl h2
  · refine .inr ⟨g, cap, cur, rfl, hgb, ?_, r⟩
    have := blk_own (β := Unit) g e cur B () W W' row hh hg hr
    exact this

/-- what is an id's, of what has come -/
def mineOf (l : List (Int × Int × Int)) (id : Int) (pre : List (Ix l.length)) : List (Int × Int × Int) := (pre.map (elt l)).filter (fun h => h.1 == id)
theorem mineOf_snoc_yes {l : List (Int × Int × Int)} {id : Int} {pre : List (Ix l.length)} {x : Ix l.length} (h : ((elt l x).1 == id) = true) : mineOf l id (pre ++ [x]) = mineOf l id pre ++ [elt l x] := by
  simp only [mineOf, List.map_append, List.filter_append, List.map_cons, List.map_nil]
  congr 1
  simp [h]
theorem mineOf_snoc_no {l : List (Int × Int × Int)} {id : Int} {pre : List (Ix l.length)} {x : Ix l.length} (h : ((elt l x).1 == id) = false) : mineOf l id (pre ++ [x]) = mineOf l id pre := by
  simp only [mineOf, List.map_append, List.filter_append, List.map_cons, List.map_nil]
  rw [List.filter_cons_of_neg (by simp [h])]
  simp
theorem mineOf_len (l : List (Int × Int × Int)) (id : Int) (pre : List (Ix l.length)) : (mineOf l id pre).length ≤ pre.length := by
  have := List.length_filter_le (fun h : Int × Int × Int => h.1 == id) (pre.map (elt l))
  simpa [mineOf] using this

theorem own_keeps {W W' : World} {base : Nat} {e : TypeId} {size n : Nat} {v : Value} {xs : List Value} (h : W.ownsRow base e size v n xs) (hg : W.grownBy W' v.ownBlock) : KeepsOthers W W' :=
  KeepsOthers.of_grownBy hg fun j o ej hj => by
    rcases h.2 with ⟨rfl, _⟩ | ⟨g, cap, cur, rfl, _, hgb, _⟩
    · simp [Value.ownBlock] at ej
    · obtain rfl : g = j := by simpa [Value.ownBlock] using ej
      rw [hgb] at hj; cases hj; rfl

def AllOut (N : Nat) (w : World) (l : List (Int × Int × Int)) (id : Int) (e : Ending) (w' : World) : Prop :=
  ∃ ys : List (Ix l.length), ys.map (·.1) = downs l.length l.length ∧ (∃ A c, e = .returned (.slice A (mineOf l id ys).length c) ∧ w'.ownsRow N 27 3 (.slice A (mineOf l id ys).length c) (mineOf l id ys).length ((mineOf l id ys).flatMap encH)) ∧ Below N w w'

set_option maxRecDepth 100000 in
set_option maxHeartbeats 2000000 in
theorem all_in (A : Option Addr) (c : Nat) (l : List (Int × Int × Int)) (m0 m1 m2 m3 id : Int) (w : World) (hr : Rd 3 encH w w.heap.size A l) (hn : l.length * 24 ≤ 140737488355328) :
    CallsIn Fence.wide 3 Try.prog 18 #[.agg #[.slice A l.length c, .int .i64 m0, .int .i64 m1, .int .i64 m2, .int .i64 m3], .int .i64 id] w (AllOut w.heap.size w l id) := by
  have t47 : Fence.wide.fn 47 := trivial
  have t60 : Fence.wide.fn 60 := trivial
  obtain ⟨N, hN⟩ : ∃ N, w.heap.size = N := ⟨_, rfl⟩
  rw [hN] at hr ⊢
  obtain ⟨W0, hW0⟩ : ∃ W0, W0 = (((w.alloc (.cells #[.slice A l.length c, .int .i64 m0, .int .i64 m1, .int .i64 m2, .int .i64 m3] 25)).alloc (.cells #[.int .i64 id] 3)).alloc (.cells #[.slice none 0 0] 22)).alloc (.cells #[.slice A l.length c] 22) := ⟨_, rfl⟩
  have bI : Blk W0 (N + 1) 3 #[.int .i64 id] := by rw [hW0]; exact ((Blk.new' _ _ (by simp [hN]) _ _).alloc _).alloc _
  have bR : Blk W0 (N + 1 + 1) 22 #[.slice none 0 0] := by rw [hW0]; exact (Blk.new' _ _ (by simp [hN]) _ _).alloc _
  have bS : Blk W0 (N + 1 + 1 + 1) 22 #[.slice A l.length c] := by rw [hW0]; exact Blk.new' _ _ (by simp [hN]) _ _
  have hB0 : Below N w W0 := by rw [hW0]; exact ((((Below.refl _ w).alloc (by omega) _).alloc (by simp; omega) _).alloc (by simp; omega) _).alloc (by simp; omega) _
  have hz0 : W0.heap.size = N + 1 + 1 + 1 + 1 := by rw [hW0]; simp [hN]
  obtain ⟨i0, hi, hz0', hz1', hz2'⟩ := info_parts infoH
  refine callsIn_of_wp_marks Try.func18 rfl trivial ?_ rfl
  simp only [Try.ntmps18, List.size_toArray, List.length_cons, List.length_nil, Nat.reduceAdd, Nat.reduceSub, Array.replicate_succ, Array.replicate_zero, List.push_toArray, List.append_toArray, List.nil_append, List.cons_append]
  have HZ0 := Lib.hid hz0
  have HW0 := Lib.hid hW0
  have HI := Lib.hid (And.intro hi (And.intro hz0' (And.intro hz1' hz2')))
  clear hz0 hW0 hi hz0' hz1' hz2'
  gi_wp2_with (gi_at_call 47; refine (backward_in Fence.wide _ t47 rfl _ _ _ _).mono ?_; rintro e w' ⟨rfl, rfl⟩)
  rw [← HW0.out]
  refine wpIn_rangeFunc_ownH rfl (by omega) (gf := 60) (lb := #[.pointer (some ⟨N + 1 + 1 + 1, 0, none⟩)]) rfl t60 (enters_of Try.func60 (by kernel_rfl) rfl)
    (backward_stops Fence.wide 2 t60 rfl (by omega) (N + 1 + 1 + 1) N A c l (by omega) W0 (by rw [HZ0.out]; omega) bS (hr.below hB0)) KpB.trans (KpB.put (by rw [HZ0.out]; omega) (by rw [HZ0.out]; omega)) (Below.refl _ _) (fun _ => rfl)
    (fun pre W => ((Blk W (N + 1) 3 #[.int .i64 id] ∧ Blk W (N + 1 + 1 + 1) 22 #[.slice A l.length c]) ∧ ∃ A' c', Blk W (N + 1 + 1) 22 #[.slice A' (mineOf l id pre).length c'] ∧ W.ownsRow (N + 1 + 1 + 1 + 1) 27 3 (.slice A' (mineOf l id pre).length c') (mineOf l id pre).length ((mineOf l id pre).flatMap encH)) ∧ Below N w W)
    (fun cd pre W => False)
    ?hI ?hIx ?h0 (fun x a' W => ∃ Bx, N + 1 + 1 + 1 + 1 ≤ Bx ∧ Blk W Bx 27 #[.int .i64 (elt l x).1, .int .i64 (elt l x).2.1, .int .i64 (elt l x).2.2] ∧ a' = { tmps := #[.agg #[.slice A l.length c, .int .i64 m0, .int .i64 m1, .int .i64 m2, .int .i64 m3], .int .i64 id, .pointer (some ⟨N, 0, none⟩), .pointer (some ⟨N + 1, 0, none⟩), .slice none 0 0, .pointer (some ⟨N + 1 + 1, 0, none⟩), undef, .pointer (some ⟨Bx, 0, none⟩), .pointer (some ⟨N, 0, none⟩), .slice A l.length c, .func (.func 60) #[] #[.pointer (some ⟨N + 1 + 1 + 1, 0, none⟩)], .int .i64 (x.1 : Int), .agg #[.int .i64 (elt l x).1, .int .i64 (elt l x).2.1, .int .i64 (elt l x).2.2], undef, undef, undef, undef, undef, undef, undef, undef, undef], defers := [] }) ?hAx ?assign ?body ?done ?stop
  case hI =>
    refine OwnFrom.and (OwnFrom.and (OwnFrom.and (blk_own _ _ _ _) (blk_own _ _ _ _)) (fun s W W' row h hg hr => ?_)) (ownFrom_below (by omega) (by rw [HZ0.out]; omega))
    obtain ⟨A', c', h1, h2⟩ := h
    exact ⟨A', c', blk_own (β := Unit) _ _ _ _ () W W' row h1 hg hr, own_own (β := Unit) _ _ _ _ _ _ _ () W W' row h2 hg hr⟩
  case hIx => exact fun cd s W W' row h hg hr => h
  case h0 => exact ⟨⟨⟨bI, bS⟩, none, 0, bR, World.ownsRow_nil _ _ _ _⟩, hB0⟩
  case hAx =>
    intro x a' s W W' row h hg hr
    obtain ⟨Bx, h1, h2, h3⟩ := h
    exact ⟨Bx, h1, blk_own (β := Unit) _ _ _ _ () W W' row h2 hg hr, h3⟩
  case assign =>
    rintro lp pre x W K ⟨⟨⟨hI, hS⟩, A', c', hR, hO⟩, hB⟩ hK
    simp only [encBk]
    have hz1 : N + 1 + 1 + 1 + 1 ≤ W.heap.size := hS.lt
    gi_wp2
    exact hK _ _ ((KeepsOthers.alloc _ _).from _) (KpB.alloc (by omega) (by omega) _) ⟨⟨⟨hI.alloc _, hS.alloc _⟩, A', c', hR.alloc _, hO.alloc _⟩, hB.alloc (by omega) _⟩ ⟨W.heap.size, hz1, Blk.new W 27 _, rfl⟩
  case body =>
    rintro lp pre x a' W hlp ⟨r, hr'⟩ ⟨⟨⟨hI, hS⟩, A', c', hR, hO⟩, hB⟩ ⟨Bx, hBx, bX, rfl⟩ hlen
    obtain ⟨c0, c1, c2⟩ := bX.c3
    have i0' := hI.c1
    have r0 := hR.c1
    have fR := hR.frz
    have hlt := hS.lt
    have hml := mineOf_len l id pre
    obtain ⟨hi, hz0', hz1', hz2'⟩ := HI.out
    by_cases ht : (elt l x).1 = id
    · have ht' : ((elt l x).1 == id) = true := by simpa using ht
      have HT := Lib.hid (mineOf_snoc_yes (pre := pre) ht')
      clear ht
      have hcn := cells_new W W.heap.size rfl (encH (elt l x)) 27
      have hone : ∀ u ∈ encH (elt l x), u.oneCell' = true := fun u hu => encH_one [elt l x] u (by simpa using hu)
      have hown4 := hO.alloc (.cells #[.int .i64 (elt l x).1, .int .i64 (elt l x).2.1, .int .i64 (elt l x).2.2] 27)
      have hge := Lib.hid (own_ge hO)
      have HKO := Lib.hid hown4
      gi_wp2_with (gi_at_builtin; refine wpListIn_append_own _ rfl (.tmp 17) (.tmp 19) 22 rfl (N + 1 + 1 + 1 + 1) 27 i0 _ 3 24 Try.underlying22 hi hz0' hz1' hz2' rfl (by decide) _ _ _ rfl hown4 ⟨W.heap.size, 0, none⟩ 1 1 (encH (elt l x)) rfl rfl hcn hone (by simp only [maxLen]; omega) (by omega) (by simp; omega) ?_; intro v5 w5 hown5 hg5 _; obtain ⟨A5, c5, rfl, _, _⟩ := own_shape hown5; have q := (hR.alloc (.cells #[.int .i64 (elt l x).1, .int .i64 (elt l x).2.1, .int .i64 (elt l x).2.2] 27)).grown hg5 (fun e => by have := hge.out _ e.symm; omega); have qc := q.c1; have qf := q.frz)
      have hne : some (N + 1 + 1 + 1) ≠ (Value.slice A' (mineOf l id pre).length c').ownBlock := fun e => by have := hge.out _ e.symm; omega
      have hne' : some (N + 1) ≠ (Value.slice A' (mineOf l id pre).length c').ownBlock := fun e => by have := hge.out _ e.symm; omega
      have hl5 : (mineOf l id (pre ++ [x])).length = (mineOf l id pre).length + 1 := by rw [HT.out]; simp
      refine ⟨?_, ⟨?_, ?_⟩, ⟨⟨?_, ?_⟩, A5, c5, ?_, ?_⟩, ?_⟩
      · exact (((KeepsOthers.alloc _ _).trans (own_keeps HKO.out hg5)).trans (KeepsOthers.setCell _ _ _)).from _
      · refine Below.setCell ?_ (by (try simp) <;> omega) _
        exact ((Below.refl N W).alloc (by omega) _).grown hg5 (by simp; omega) (fun g hg => by have := hge.out g hg; omega)
      · rw [Below.heap_setCell _ _ _ _ (by simp), hg5.block _ (by simp; omega) hne, Below.heap_alloc _ _ _ (by omega)]
      · exact ((hI.alloc _).grown hg5 hne').far (p := ⟨N + 1 + 1, 0, none⟩) (by simp) _
      · exact ((hS.alloc _).grown hg5 hne).far (p := ⟨N + 1 + 1, 0, none⟩) (by simp) _
      · rw [hl5]
        exact q.set_ 0 _
      · rw [hl5, HT.out, List.flatMap_append]
        simp only [List.flatMap_cons, List.flatMap_nil, List.append_nil]
        exact own_setCell hown5 (own_blk_ne hown5 q (by decide)) _
      · refine Below.setCell ?_ (by (try simp) <;> omega) _
        exact (hB.alloc (by omega) _).grown hg5 (by simp; omega) (fun g hg => by have := hge.out g hg; omega)
    · have ht' : ((elt l x).1 == id) = false := by simpa using ht
      have HT := Lib.hid (mineOf_snoc_no (pre := pre) ht')
      clear ht
      gi_wp2
      refine ⟨KeepsFrom.refl _ _, KpB.refl _ _ _, ⟨⟨hI, hS⟩, A', c', ?_, ?_⟩, hB⟩
      · rw [HT.out]; exact hR
      · rw [HT.out]; exact hO
  case done =>
    rintro D ys W hD hys ⟨⟨⟨hI, hS⟩, A', c', hR, hO⟩, hB⟩ hK
    have r0 := hR.c1
    gi_wp2
    refine ⟨by simp, .inl ⟨_, _, rfl, run_takeDeferred hK, ?_⟩⟩
    have hO' := own_own (β := Unit) 0 _ _ _ _ _ _ () W _ (some D) hO (grownBy_putObj' W D (.deferred none)) (fun r e => by cases e; exact ⟨Nat.zero_le _, _, hK, rfl⟩)
    refine ⟨_, results_tmp rfl _ _ _, ys, hys, ⟨A', c', rfl, own_mono hO' (by omega)⟩, ?_⟩
    exact hB.trans (belowK_b (w := w) (by omega) _ D _ _ (by have := HZ0.out; omega) hK rfl rfl)
  case stop =>
    rintro D cd pre W hD _ h _
    exact h.elim

theorem all_any (A : Option Addr) (c : Nat) (l : List (Int × Int × Int)) (m0 m1 m2 m3 id : Int) (w : World) (hr : Rd 3 encH w w.heap.size A l) (hn : l.length * 24 ≤ 140737488355328) :
    Calls Try.prog 18 #[.agg #[.slice A l.length c, .int .i64 m0, .int .i64 m1, .int .i64 m2, .int .i64 m3], .int .i64 id] w fun e w' =>
      ∃ A' c', e = .returned (.slice A' (l.filter (fun h => h.1 == id)).reverse.length c') ∧ Rd 3 encH w' w'.heap.size A' (l.filter (fun h => h.1 == id)).reverse ∧ Below w.heap.size w w' := by
  refine (callsIn_wide.1 (all_in A c l m0 m1 m2 m3 id w hr hn)).mono fun e w' h => ?_
  obtain ⟨ys, hys, ⟨A', c', rfl, ho⟩, hb⟩ := h
  have he := elt_take (Nat.le_refl _) hys
  have hm : mineOf l id ys = (l.filter (fun h => h.1 == id)).reverse := by
    rw [mineOf, he, List.take_of_length_le (by simp), List.filter_reverse]
  rw [hm] at ho ⊢
  exact ⟨A', c', rfl, Rd.of_own encH_len ho, hb⟩
end Go.Proofs.Ytmcjgfoaiannoaa
