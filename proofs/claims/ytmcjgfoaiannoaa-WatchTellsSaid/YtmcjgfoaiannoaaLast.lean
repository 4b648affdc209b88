/-
  Last of the ledger: what an id has taken last. Condition: the length bound that the reach pays.
-/
import Derived.Test.YtmcjgfoaiannoaaBack
namespace Go.Proofs.Ytmcjgfoaiannoaa
open Go.RowKit Go.Shelf
attribute [local go_sem] Oper.semAt_some

theorem blk_own {β : Type} (g : Nat) (t : TypeId) (cs : Array Value) (B : Nat) : OwnFrom B (fun (_ : β) W => Blk W g t cs) := fun _ W W' row hs hg hr => by
  refine hs.grown hg (fun e => ?_)
  obtain ⟨_, o, ho, hc⟩ := hr g e.symm
  unfold Blk at hs
  rw [hs] at ho
  injection ho with ho
  subst ho
  cases hc


theorem blk_put {W : World} {D g : Nat} {o : Obj} {t : TypeId} {cs : Array Value} (h : Blk W g t cs) (hD : W.heap[D]? = some o) (hc : o.isCells = false) (o' : Obj) : Blk (W.putObj D o') g t cs :=
  blk_own (β := Unit) g t cs 0 () W _ (some D) h (grownBy_putObj' W D o') (fun r e => by cases e; exact ⟨Nat.zero_le _, o, hD, hc⟩)

/-- the last one, from the end on, of which it holds that it is an id's -/
def LastOut (N : Nat) (w : World) (l : List (Int × Int × Int)) (id : Int) (e : Ending) (w' : World) : Prop :=
  ((e = .returned (.tuple #[.agg #[.int .i64 0, .int .i64 0, .int .i64 0], .bool false]) ∧ ∃ ys : List (Ix l.length), ys.map (·.1) = downs l.length l.length ∧ ∀ i ∈ ys, (elt l i).1 ≠ id) ∨
    ∃ (ini : List (Ix l.length)) (x : Ix l.length) (k : Nat), k ≤ l.length ∧ (ini ++ [x]).map (·.1) = downs l.length k ∧ (∀ i ∈ ini, (elt l i).1 ≠ id) ∧ (elt l x).1 = id ∧
      e = .returned (.tuple #[.agg #[.int .i64 (elt l x).1, .int .i64 (elt l x).2.1, .int .i64 (elt l x).2.2], .bool true])) ∧ Below N w w'

set_option maxRecDepth 100000 in
set_option maxHeartbeats 2000000 in
theorem last_in (A : Option Addr) (c : Nat) (l : List (Int × Int × Int)) (m0 m1 m2 m3 id : Int) (w : World) (hr : Rd 3 encH w w.heap.size A l) (hn : l.length ≤ 140737488355328) :
    CallsIn Fence.wide 3 Try.prog 20 #[.agg #[.slice A l.length c, .int .i64 m0, .int .i64 m1, .int .i64 m2, .int .i64 m3], .int .i64 id] w (LastOut w.heap.size w l id) := by
  have t47 : Fence.wide.fn 47 := trivial
  have t60 : Fence.wide.fn 60 := trivial
  obtain ⟨N, hN⟩ : ∃ N, w.heap.size = N := ⟨_, rfl⟩
  rw [hN] at hr ⊢
  obtain ⟨W0, hW0⟩ : ∃ W0, W0 = ((((w.alloc (.cells #[.slice A l.length c, .int .i64 m0, .int .i64 m1, .int .i64 m2, .int .i64 m3] 25)).alloc (.cells #[.int .i64 id] 3)).alloc (.cells #[.int .i64 0, .int .i64 0, .int .i64 0] 27)).alloc (.cells #[.bool false] 4)).alloc (.cells #[.slice A l.length c] 22) := ⟨_, rfl⟩
  have bI : Blk W0 (N + 1) 3 #[.int .i64 id] := by rw [hW0]; exact (((Blk.new' _ _ (by simp [hN]) _ _).alloc _).alloc _).alloc _
  have bR : Blk W0 (N + 1 + 1) 27 #[.int .i64 0, .int .i64 0, .int .i64 0] := by rw [hW0]; exact ((Blk.new' _ _ (by simp [hN]) _ _).alloc _).alloc _
  have bO : Blk W0 (N + 1 + 1 + 1) 4 #[.bool false] := by rw [hW0]; exact (Blk.new' _ _ (by simp [hN]) _ _).alloc _
  have bS : Blk W0 (N + 1 + 1 + 1 + 1) 22 #[.slice A l.length c] := by rw [hW0]; exact Blk.new' _ _ (by simp [hN]) _ _
  have hB0 : Below N w W0 := by rw [hW0]; exact (((((Below.refl _ w).alloc (by omega) _).alloc (by simp; omega) _).alloc (by simp; omega) _).alloc (by simp; omega) _).alloc (by simp; omega) _
  have hz0 : W0.heap.size = N + 1 + 1 + 1 + 1 + 1 := by rw [hW0]; simp [hN]
  refine callsIn_of_wp_marks Try.func20 rfl trivial ?_ rfl
  simp only [Try.ntmps20, List.size_toArray, List.length_cons, List.length_nil, Nat.reduceAdd, Nat.reduceSub, Array.replicate_succ, Array.replicate_zero, List.push_toArray, List.append_toArray, List.nil_append, List.cons_append]
  have HZ0 := Lib.hid hz0
  have HW0 := Lib.hid hW0
  clear hz0 hW0
  gi_wp2_with (gi_at_call 47; refine (backward_in Fence.wide _ t47 rfl _ _ _ _).mono ?_; rintro e w' ⟨rfl, rfl⟩)
  rw [← HW0.out]
  refine wpIn_rangeFunc_ownH rfl (by omega) (gf := 60) (lb := #[.pointer (some ⟨N + 1 + 1 + 1 + 1, 0, none⟩)]) rfl t60 (enters_of Try.func60 (by kernel_rfl) rfl)
    (backward_stops Fence.wide 2 t60 rfl (by omega) (N + 1 + 1 + 1 + 1) N A c l hn W0 (by rw [HZ0.out]; omega) bS (hr.below hB0)) KpB.trans (KpB.put (by rw [HZ0.out]; omega) (by rw [HZ0.out]; omega)) (Below.refl _ _) (fun _ => rfl)
    (fun pre W => (((∀ i ∈ pre, (elt l i).1 ≠ id) ∧ Blk W (N + 1) 3 #[.int .i64 id]) ∧ Blk W (N + 1 + 1) 27 #[.int .i64 0, .int .i64 0, .int .i64 0] ∧ Blk W (N + 1 + 1 + 1) 4 #[.bool false] ∧ Blk W (N + 1 + 1 + 1 + 1) 22 #[.slice A l.length c]) ∧ Below N w W)
    (fun cd pre W => ((cd = .ret ∧ ∃ ini x, pre = ini ++ [x] ∧ (∀ i ∈ ini, (elt l i).1 ≠ id) ∧ (elt l x).1 = id ∧ Blk W (N + 1 + 1) 27 #[.int .i64 (elt l x).1, .int .i64 (elt l x).2.1, .int .i64 (elt l x).2.2] ∧ Blk W (N + 1 + 1 + 1) 4 #[.bool true])) ∧ Below N w W)
    ?hI ?hIx ?h0 (fun x a' W => ∃ Bx, N + 1 + 1 + 1 + 1 + 1 ≤ Bx ∧ Blk W Bx 27 #[.int .i64 (elt l x).1, .int .i64 (elt l x).2.1, .int .i64 (elt l x).2.2] ∧ a' = { tmps := #[.agg #[.slice A l.length c, .int .i64 m0, .int .i64 m1, .int .i64 m2, .int .i64 m3], .int .i64 id, .pointer (some ⟨N, 0, none⟩), .pointer (some ⟨N + 1, 0, none⟩), .pointer (some ⟨N + 1 + 1, 0, none⟩), .pointer (some ⟨N + 1 + 1 + 1, 0, none⟩), undef, .pointer (some ⟨Bx, 0, none⟩), .pointer (some ⟨N, 0, none⟩), .slice A l.length c, .func (.func 60) #[] #[.pointer (some ⟨N + 1 + 1 + 1 + 1, 0, none⟩)], .int .i64 (x.1 : Int), .agg #[.int .i64 (elt l x).1, .int .i64 (elt l x).2.1, .int .i64 (elt l x).2.2], undef, undef, undef, undef, undef, undef], defers := [] }) ?hAx ?assign ?body ?done ?stop
  case hI =>
    refine OwnFrom.and (OwnFrom.and (OwnFrom.and (fun _ _ _ _ h _ _ => h) (blk_own _ _ _ _)) (OwnFrom.and (blk_own _ _ _ _) (OwnFrom.and (blk_own _ _ _ _) (blk_own _ _ _ _)))) (ownFrom_below (by omega) (by rw [HZ0.out]; omega))
  case hIx =>
    intro cd
    refine OwnFrom.and (fun s W W' row h hg hr => ?_) (ownFrom_below (by omega) (by rw [HZ0.out]; omega))
    obtain ⟨h1, ini, x, h2, h3, h4, h5, h6⟩ := h
    exact ⟨h1, ini, x, h2, h3, h4, blk_own (β := Unit) _ _ _ _ () W W' row h5 hg hr, blk_own (β := Unit) _ _ _ _ () W W' row h6 hg hr⟩
  case h0 => exact ⟨⟨⟨by simp, bI⟩, bR, bO, bS⟩, hB0⟩
  case hAx =>
    intro x a' s W W' row h hg hr
    obtain ⟨Bx, h1, h2, h3⟩ := h
    exact ⟨Bx, h1, blk_own (β := Unit) _ _ _ _ () W W' row h2 hg hr, h3⟩
  case assign =>
    rintro lp pre x W K ⟨⟨⟨hp, hI⟩, hR, hO, hS⟩, hB⟩ hK
    simp only [encBk]
    have hz1 : N + 1 + 1 + 1 + 1 + 1 ≤ W.heap.size := hS.lt
    gi_wp2
    exact hK _ _ ((KeepsOthers.alloc _ _).from _) (KpB.alloc (by omega) (by omega) _) ⟨⟨⟨hp, hI.alloc _⟩, hR.alloc _, hO.alloc _, hS.alloc _⟩, hB.alloc (by omega) _⟩ ⟨W.heap.size, hz1, Blk.new W 27 _, rfl⟩
  case body =>
    rintro lp pre x a' W hlp ⟨r, hr'⟩ ⟨⟨⟨hp, hI⟩, hR, hO, hS⟩, hB⟩ ⟨Bx, hBx, bX, rfl⟩ hlen
    obtain ⟨c0, c1, c2⟩ := bX.c3
    have i0 := hI.c1
    obtain ⟨r0, r1, r2⟩ := hR.c3
    have o0 := hO.c1
    have fR := hR.frz
    have fO := hO.frz
    by_cases ht : (elt l x).1 = id
    · have ht' : ((elt l x).1 == id) = true := by simpa using ht
      have HT := Lib.hid ht
      clear ht
      gi_wp2
      refine ⟨?_, ⟨rfl, pre, x, rfl, hp, HT.out, ?_, ?_⟩, ?_⟩
      · exact ((((KeepsOthers.setCell _ _ _).trans (KeepsOthers.setCell _ _ _)).trans (KeepsOthers.setCell _ _ _)).trans (KeepsOthers.setCell _ _ _)).from _
      · exact (((hR.set_ 0 _).set_ 1 _).set_ 2 _).far (p := ⟨N + 1 + 1 + 1, 0, none⟩) (by simp) _
      · exact (((hO.far (p := ⟨N + 1 + 1, 0, none⟩) (by simp) _).far (p := ⟨N + 1 + 1, 1, none⟩) (by simp) _).far (p := ⟨N + 1 + 1, 2, none⟩) (by simp) _).set_ 0 _
      · iterate 4 refine Below.setCell ?_ (by (try simp) <;> omega) _
        exact hB
    · have ht' : ((elt l x).1 == id) = false := by simpa using ht
      have HT := Lib.hid ht
      clear ht
      gi_wp2
      refine ⟨KeepsFrom.refl _ _, KpB.refl _ _ _, ⟨⟨fun i hi => ?_, hI⟩, hR, hO, hS⟩, hB⟩
      rcases List.mem_append.1 hi with hi | hi
      · exact hp i hi
      · obtain rfl := List.mem_singleton.1 hi
        exact HT.out
  case done =>
    rintro D ys W hD hys ⟨⟨⟨hp, hI⟩, hR, hO, hS⟩, hB⟩ hK
    obtain ⟨r0, r1, r2⟩ := hR.c3
    have o0 := hO.c1
    have fR := hR.frz
    have fO := hO.frz
    gi_wp2
    have q1 : Blk ((((W.setCell ⟨N + 1 + 1, 0, none⟩ (.int .i64 0)).setCell ⟨N + 1 + 1, 1, none⟩ (.int .i64 0)).setCell ⟨N + 1 + 1, 2, none⟩ (.int .i64 0)).setCell ⟨N + 1 + 1 + 1, 0, none⟩ (.bool false)) (N + 1 + 1) 27 #[.int .i64 0, .int .i64 0, .int .i64 0] :=
      (((hR.set_ 0 _).set_ 1 _).set_ 2 _).far (p := ⟨N + 1 + 1 + 1, 0, none⟩) (by simp) _
    have q2 : Blk ((((W.setCell ⟨N + 1 + 1, 0, none⟩ (.int .i64 0)).setCell ⟨N + 1 + 1, 1, none⟩ (.int .i64 0)).setCell ⟨N + 1 + 1, 2, none⟩ (.int .i64 0)).setCell ⟨N + 1 + 1 + 1, 0, none⟩ (.bool false)) (N + 1 + 1 + 1) 4 #[.bool false] :=
      (((hO.far (p := ⟨N + 1 + 1, 0, none⟩) (by simp) _).far (p := ⟨N + 1 + 1, 1, none⟩) (by simp) _).far (p := ⟨N + 1 + 1, 2, none⟩) (by simp) _).set_ 0 _
    have hK' := ((((KeepsOthers.setCell W ⟨N + 1 + 1, 0, none⟩ (.int .i64 0)).trans (KeepsOthers.setCell _ ⟨N + 1 + 1, 1, none⟩ (.int .i64 0))).trans (KeepsOthers.setCell _ ⟨N + 1 + 1, 2, none⟩ (.int .i64 0))).trans (KeepsOthers.setCell _ ⟨N + 1 + 1 + 1, 0, none⟩ (.bool false))).same D _ hK rfl
    obtain ⟨W5, hW5⟩ : ∃ W5, W5 = ((((W.setCell ⟨N + 1 + 1, 0, none⟩ (.int .i64 0)).setCell ⟨N + 1 + 1, 1, none⟩ (.int .i64 0)).setCell ⟨N + 1 + 1, 2, none⟩ (.int .i64 0)).setCell ⟨N + 1 + 1 + 1, 0, none⟩ (.bool false)) := ⟨_, rfl⟩
    have hB5 : Below N w W5 := by
      rw [hW5]
      iterate 4 refine Below.setCell ?_ (by (try simp) <;> omega) _
      exact hB
    rw [← hW5] at q1 q2 hK' ⊢
    clear hW5
    refine ⟨by simp, .inl ⟨_, _, rfl, run_takeDeferred hK', ?_⟩⟩
    obtain ⟨s0, s1, s2⟩ := (blk_put q1 hK' rfl (.deferred none)).c3
    have s3 := (blk_put q2 hK' rfl (.deferred none)).c1
    refine ⟨.tuple #[.agg #[.int .i64 0, .int .i64 0, .int .i64 0], .bool false], by simp only [results, Try.results20]; go_simp, .inl ⟨rfl, ys, hys, hp⟩, ?_⟩
    exact hB5.trans (belowK_b (w := w) (by omega) _ D _ _ (by have := HZ0.out; omega) hK' rfl rfl)
  case stop =>
    rintro D cd pre W hD ⟨k, hk, hpre⟩ ⟨⟨rfl, ini, x, rfl, h3, h4, hR, hO⟩, hB⟩ hK
    gi_wp2
    refine ⟨by simp, .inl ⟨_, _, rfl, run_takeDeferred hK, ?_⟩⟩
    obtain ⟨s0, s1, s2⟩ := (blk_put hR hK rfl (.deferred none)).c3
    have s3 := (blk_put hO hK rfl (.deferred none)).c1
    refine ⟨.tuple #[.agg #[.int .i64 (elt l x).1, .int .i64 (elt l x).2.1, .int .i64 (elt l x).2.2], .bool true], by simp only [results, Try.results20]; go_simp, .inr ⟨ini, x, k, hk, hpre, h3, h4, rfl⟩, ?_⟩
    exact hB.trans (belowK_b (w := w) (by omega) _ D _ _ (by have := HZ0.out; omega) hK rfl rfl)

theorem elt_take {l : List (Int × Int × Int)} {ys : List (Ix l.length)} {k : Nat} (hk : k ≤ l.length) (h : ys.map (·.1) = downs l.length k) : ys.map (elt l) = l.reverse.take k := by
  have hl : ys.length = k := by rw [← List.length_map (f := fun x : Ix l.length => x.1), h, downs_len]
  apply List.ext_getElem
  · simp [hl, hk]
  · intro j h1 h2
    have h3 : (ys.map (·.1))[j]? = some (l.length - 1 - j) := by
      rw [h]
      simp at h1
      simp [downs, show j < k by omega]
    have h4 : (ys[j]'(by simpa using h1)).1 = l.length - 1 - j := by
      have : j < ys.length := by simpa using h1
      simpa [this] using h3
    simp [elt, h4]
def lastP (l : List (Int × Int × Int)) (id : Int) : (Int × Int × Int) × Bool := match l.reverse.find? (fun h => h.1 == id) with | some h => (h, true) | none => ((0, 0, 0), false)

theorem last_any (A : Option Addr) (c : Nat) (l : List (Int × Int × Int)) (m0 m1 m2 m3 id : Int) (w : World) (hr : Rd 3 encH w w.heap.size A l) (hn : l.length ≤ 140737488355328) :
    Calls Try.prog 20 #[.agg #[.slice A l.length c, .int .i64 m0, .int .i64 m1, .int .i64 m2, .int .i64 m3], .int .i64 id] w fun e w' =>
      e = .returned (.tuple #[.agg #[.int .i64 (lastP l id).1.1, .int .i64 (lastP l id).1.2.1, .int .i64 (lastP l id).1.2.2], .bool (lastP l id).2]) ∧ Below w.heap.size w w' := by
  refine (callsIn_wide.1 (last_in A c l m0 m1 m2 m3 id w hr hn)).mono fun e w' h => ?_
  obtain ⟨⟨rfl, ys, hys, hp⟩ | ⟨ini, x, k, hk, hm, hp, hx, rfl⟩, hb⟩ := h
  · refine ⟨?_, hb⟩
    have he := elt_take (Nat.le_refl _) hys
    have hf : l.reverse.find? (fun h => h.1 == id) = none := by
      rw [List.find?_eq_none]
      intro h hh
      have hh' : h ∈ ys.map (elt l) := by rw [he, List.take_of_length_le (by simp)]; exact hh
      obtain ⟨i, hi, rfl⟩ := List.mem_map.1 hh'
      simpa using hp i hi
    simp [lastP, hf]
  · refine ⟨?_, hb⟩
    have he := elt_take hk hm
    have hf : l.reverse.find? (fun h => h.1 == id) = some (elt l x) := by
      rw [← List.take_append_drop k l.reverse, ← he, List.map_append, List.append_assoc, List.find?_append]
      have : (ini.map (elt l)).find? (fun h => h.1 == id) = none := by
        rw [List.find?_eq_none]
        intro h hh
        obtain ⟨i, hi, rfl⟩ := List.mem_map.1 hh
        simpa using hp i hi
      simp [this, hx]
    simp [lastP, hf]
end Go.Proofs.Ytmcjgfoaiannoaa
