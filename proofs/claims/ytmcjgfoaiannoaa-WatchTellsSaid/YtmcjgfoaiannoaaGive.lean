/-
  Give of the ledger. Condition: the length bound that the reach pays.
-/
import Derived.Test.YtmcjgfoaiannoaaDel2
namespace Go.Proofs.Ytmcjgfoaiannoaa
open Go.RowKit Go.Shelf
attribute [local go_sem] Oper.semAt_some

theorem below_keeps {W W' : World} (h : Below W.heap.size W W') : KeepsOthers W W' := ⟨h.size, fun k _ hk _ => (h.block k (Array.getElem?_eq_some_iff.1 hk).1).trans hk⟩

theorem own_cap {w : World} {base : Nat} {e : TypeId} {size n c : Nat} {A : Option Addr} {xs : List Value} (h : w.ownsRow base e size (.slice A n c) n xs) : n ≤ c ∧ c ≤ maxLen := by
  obtain ⟨A', c', hv, h1, h2⟩ := own_shape h
  injection hv with _ _ hc
  subst hc
  exact ⟨h1, h2⟩

def isOf (id kind : Int) (h : Int × Int × Int) : Bool := h.1 == id && h.2.1 == kind

/-- what comes of Give -/
def GiveOut (N : Nat) (w : World) (l : List (Int × Int × Int)) (m0 m1 m2 m3 id kind : Int) (e : Ending) (w' : World) : Prop :=
  ((e = .returned (.tuple #[.agg #[.slice none 0 0, .int .i64 0, .int .i64 0, .int .i64 0, .int .i64 0], .int .i64 6]) ∧ ∃ ys : List (Ix l.length), ys.map (·.1) = downs l.length l.length ∧ ∀ i ∈ ys, isOf id kind (elt l i) = false) ∨
    ∃ (ini : List (Ix l.length)) (x : Ix l.length) (k : Nat), k ≤ l.length ∧ (ini ++ [x]).map (·.1) = downs l.length k ∧ (∀ i ∈ ini, isOf id kind (elt l i) = false) ∧ isOf id kind (elt l x) = true ∧
      ∃ A c, e = .returned (.tuple #[.agg #[.slice A (l.eraseIdx x.1).length c, .int .i64 m0, .int .i64 m1, .int .i64 m2, .int .i64 m3], .int .i64 0]) ∧ w'.ownsRow N 27 3 (.slice A (l.eraseIdx x.1).length c) (l.eraseIdx x.1).length ((l.eraseIdx x.1).flatMap encH)) ∧ Below N w w'

set_option maxRecDepth 100000 in
set_option maxHeartbeats 2000000 in
theorem give_in (A : Option Addr) (c : Nat) (l : List (Int × Int × Int)) (m0 m1 m2 m3 id kind : Int) (w : World) (hr : Rd 3 encH w w.heap.size A l) (hn : l.length * 24 ≤ 140737488355328) :
    CallsIn Fence.wide 3 Try.prog 23 #[.agg #[.slice A l.length c, .int .i64 m0, .int .i64 m1, .int .i64 m2, .int .i64 m3], .int .i64 id, .int .i64 kind] w (GiveOut w.heap.size w l m0 m1 m2 m3 id kind) := by
  have t47 : Fence.wide.fn 47 := trivial
  have t60 : Fence.wide.fn 60 := trivial
  have t16 : Fence.wide.fn 16 := trivial
  have t48 : Fence.wide.fn 48 := trivial
  obtain ⟨N, hN⟩ : ∃ N, w.heap.size = N := ⟨_, rfl⟩
  rw [hN] at hr ⊢
  obtain ⟨W0, hW0⟩ : ∃ W0, W0 = (((((w.alloc (.cells #[.slice A l.length c, .int .i64 m0, .int .i64 m1, .int .i64 m2, .int .i64 m3] 25)).alloc (.cells #[.int .i64 id] 3)).alloc (.cells #[.int .i64 kind] 3)).alloc (.cells #[.slice none 0 0, .int .i64 0, .int .i64 0, .int .i64 0, .int .i64 0] 25)).alloc (.cells #[.int .i64 0] 36)).alloc (.cells #[.slice A l.length c] 22) := ⟨_, rfl⟩
  have bL : Blk W0 N 25 #[.slice A l.length c, .int .i64 m0, .int .i64 m1, .int .i64 m2, .int .i64 m3] := by rw [hW0]; exact (((((Blk.new' _ _ (by simp [hN]) _ _).alloc _).alloc _).alloc _).alloc _).alloc _
  have bI : Blk W0 (N + 1) 3 #[.int .i64 id] := by rw [hW0]; exact ((((Blk.new' _ _ (by simp [hN]) _ _).alloc _).alloc _).alloc _).alloc _
  have bK : Blk W0 (N + 1 + 1) 3 #[.int .i64 kind] := by rw [hW0]; exact (((Blk.new' _ _ (by simp [hN]) _ _).alloc _).alloc _).alloc _
  have bR : Blk W0 (N + 1 + 1 + 1) 25 #[.slice none 0 0, .int .i64 0, .int .i64 0, .int .i64 0, .int .i64 0] := by rw [hW0]; exact ((Blk.new' _ _ (by simp [hN]) _ _).alloc _).alloc _
  have bO : Blk W0 (N + 1 + 1 + 1 + 1) 36 #[.int .i64 0] := by rw [hW0]; exact (Blk.new' _ _ (by simp [hN]) _ _).alloc _
  have bS : Blk W0 (N + 1 + 1 + 1 + 1 + 1) 22 #[.slice A l.length c] := by rw [hW0]; exact Blk.new' _ _ (by simp [hN]) _ _
  have hB0 : Below N w W0 := by rw [hW0]; exact ((((((Below.refl _ w).alloc (by omega) _).alloc (by simp; omega) _).alloc (by simp; omega) _).alloc (by simp; omega) _).alloc (by simp; omega) _).alloc (by simp; omega) _
  have hz0 : W0.heap.size = N + 1 + 1 + 1 + 1 + 1 + 1 := by rw [hW0]; simp [hN]
  refine callsIn_of_wp_marks Try.func23 rfl trivial ?_ rfl
  simp only [Try.ntmps23, List.size_toArray, List.length_cons, List.length_nil, Nat.reduceAdd, Nat.reduceSub, Array.replicate_succ, Array.replicate_zero, List.push_toArray, List.append_toArray, List.nil_append, List.cons_append]
  have HZ0 := Lib.hid hz0
  have HW0 := Lib.hid hW0
  clear hz0 hW0
  gi_wp2_with (gi_at_call 47; refine (backward_in Fence.wide _ t47 rfl _ _ _ _).mono ?_; rintro e w' ⟨rfl, rfl⟩)
  rw [← HW0.out]
  refine wpIn_rangeFunc_ownH rfl (by omega) (gf := 60) (lb := #[.pointer (some ⟨N + 1 + 1 + 1 + 1 + 1, 0, none⟩)]) rfl t60 (enters_of Try.func60 (by kernel_rfl) rfl)
    (backward_stops Fence.wide 2 t60 rfl (by omega) (N + 1 + 1 + 1 + 1 + 1) N A c l (by omega) W0 (by rw [HZ0.out]; omega) bS (hr.below hB0)) KpB.trans (KpB.put (by rw [HZ0.out]; omega) (by rw [HZ0.out]; omega)) (Below.refl _ _) (fun _ => rfl)
    (fun pre W => ((∀ i ∈ pre, isOf id kind (elt l i) = false) ∧ Blk W N 25 #[.slice A l.length c, .int .i64 m0, .int .i64 m1, .int .i64 m2, .int .i64 m3] ∧ Blk W (N + 1) 3 #[.int .i64 id] ∧ Blk W (N + 1 + 1) 3 #[.int .i64 kind] ∧ Blk W (N + 1 + 1 + 1) 25 #[.slice none 0 0, .int .i64 0, .int .i64 0, .int .i64 0, .int .i64 0] ∧ Blk W (N + 1 + 1 + 1 + 1) 36 #[.int .i64 0] ∧ Blk W (N + 1 + 1 + 1 + 1 + 1) 22 #[.slice A l.length c]) ∧ Below N w W)
    (fun cd pre W => (cd = .ret ∧ ∃ ini x, pre = ini ++ [x] ∧ (∀ i ∈ ini, isOf id kind (elt l i) = false) ∧ isOf id kind (elt l x) = true ∧ ∃ A' c', Blk W (N + 1 + 1 + 1) 25 #[.slice A' (l.eraseIdx x.1).length c', .int .i64 m0, .int .i64 m1, .int .i64 m2, .int .i64 m3] ∧ Blk W (N + 1 + 1 + 1 + 1) 36 #[.int .i64 0] ∧ W.ownsRow N 27 3 (.slice A' (l.eraseIdx x.1).length c') (l.eraseIdx x.1).length ((l.eraseIdx x.1).flatMap encH)) ∧ Below N w W)
    ?hI ?hIx ?h0 (fun x a' W => ∃ Bx, N + 1 + 1 + 1 + 1 + 1 + 1 ≤ Bx ∧ Blk W Bx 27 #[.int .i64 (elt l x).1, .int .i64 (elt l x).2.1, .int .i64 (elt l x).2.2] ∧ a' = { tmps := #[.agg #[.slice A l.length c, .int .i64 m0, .int .i64 m1, .int .i64 m2, .int .i64 m3], .int .i64 id, .int .i64 kind, .pointer (some ⟨N, 0, none⟩), .pointer (some ⟨N + 1, 0, none⟩), .pointer (some ⟨N + 1 + 1, 0, none⟩), .pointer (some ⟨N + 1 + 1 + 1, 0, none⟩), .pointer (some ⟨N + 1 + 1 + 1 + 1, 0, none⟩), .int .i64 (x.1 : Int), .pointer (some ⟨Bx, 0, none⟩), undef, .pointer (some ⟨N, 0, none⟩), .slice A l.length c, .func (.func 60) #[] #[.pointer (some ⟨N + 1 + 1 + 1 + 1 + 1, 0, none⟩)], .int .i64 (x.1 : Int), .agg #[.int .i64 (elt l x).1, .int .i64 (elt l x).2.1, .int .i64 (elt l x).2.2], undef, undef, undef, undef, undef, undef, undef, undef, undef, undef, undef, undef, undef, undef, undef, undef, undef, undef, undef, undef, undef], defers := [] }) ?hAx ?assign ?body ?done ?stop
  case hI =>
    exact OwnFrom.and (OwnFrom.and (fun _ _ _ _ h _ _ => h) (OwnFrom.and (blk_own _ _ _ _) (OwnFrom.and (blk_own _ _ _ _) (OwnFrom.and (blk_own _ _ _ _) (OwnFrom.and (blk_own _ _ _ _) (OwnFrom.and (blk_own _ _ _ _) (blk_own _ _ _ _))))))) (ownFrom_below (by omega) (by rw [HZ0.out]; omega))
  case hIx =>
    intro cd
    refine OwnFrom.and (fun s W W' row h hg hr => ?_) (ownFrom_below (by omega) (by rw [HZ0.out]; omega))
    obtain ⟨h1, ini, x, h2, h3, h4, A', c', h5, h6, h7⟩ := h
    exact ⟨h1, ini, x, h2, h3, h4, A', c', blk_own (β := Unit) _ _ _ _ () W W' row h5 hg hr, blk_own (β := Unit) _ _ _ _ () W W' row h6 hg hr, own_own (β := Unit) _ _ _ _ _ _ _ () W W' row h7 hg hr⟩
  case h0 => exact ⟨⟨by simp, bL, bI, bK, bR, bO, bS⟩, hB0⟩
  case hAx =>
    intro x a' s W W' row h hg hr
    obtain ⟨Bx, h1, h2, h3⟩ := h
    exact ⟨Bx, h1, blk_own (β := Unit) _ _ _ _ () W W' row h2 hg hr, h3⟩
  case assign =>
    rintro lp pre x W K ⟨⟨hp, hL, hI, hK0, hR, hO, hS⟩, hB⟩ hK
    simp only [encBk]
    have hz1 : N + 1 + 1 + 1 + 1 + 1 + 1 ≤ W.heap.size := hS.lt
    gi_wp2
    exact hK _ _ ((KeepsOthers.alloc _ _).from _) (KpB.alloc (by omega) (by omega) _) ⟨⟨hp, hL.alloc _, hI.alloc _, hK0.alloc _, hR.alloc _, hO.alloc _, hS.alloc _⟩, hB.alloc (by omega) _⟩ ⟨W.heap.size, hz1, Blk.new W 27 _, rfl⟩
  case body =>
    rintro lp pre x a' W hlp ⟨r, hr'⟩ ⟨⟨hp, hL, hI, hK0, hR, hO, hS⟩, hB⟩ ⟨Bx, hBx, bX, rfl⟩ hlen
    obtain ⟨c0, c1, c2⟩ := bX.c3
    have i0 := hI.c1
    have k0 := hK0.c1
    have hnot : isOf id kind (elt l x) = false → ∀ i ∈ pre ++ [x], isOf id kind (elt l i) = false := fun h i hi => by
      rcases List.mem_append.1 hi with hi | hi
      · exact hp i hi
      · obtain rfl := List.mem_singleton.1 hi
        exact h
    by_cases ht : (elt l x).1 = id
    · have ht' : ((elt l x).1 == id) = true := by simpa using ht
      by_cases hu : (elt l x).2.1 = kind
      · have hu' : ((elt l x).2.1 == kind) = true := by simpa using hu
        have HT := Lib.hid (show isOf id kind (elt l x) = true by simp [isOf, ht, hu])
        clear ht hu hnot
        obtain ⟨l0, l1, l2, l3, l4⟩ := hL.c5
        have hz1 : N + 1 + 1 + 1 + 1 + 1 + 1 ≤ W.heap.size := hS.lt
        have hrW : Rd 3 encH W W.heap.size A l := (hr.below hB).more (by omega)
        have HRW := Lib.hid hrW
        clear hrW
        gi_wp2_with (gi_at_call 16; refine (CallsIn.inRound lp (callsIn_wide.2 (ownL_any A c l m0 m1 m2 m3 W HRW.out hn))).mono ?_; refine Hid.out ?_)
        unfold Hid
        rintro e w1 ⟨A1, c1', rfl, hown1, hb1⟩
        have hz2 := hb1.size
        clear l0 l1 l2 l3 l4 c0 c1 c2 i0 k0
        have hown1' := hown1.alloc (.cells #[.slice A1 l.length c1', .int .i64 m0, .int .i64 m1, .int .i64 m2, .int .i64 m3] 25)
        have hdel := deleteH_any A1 c1' x.1 l (w1.alloc (.cells #[.slice A1 l.length c1', .int .i64 m0, .int .i64 m1, .int .i64 m2, .int .i64 m3] 25)) W.heap.size x.2 hown1' (by omega) (own_cap hown1).1 (own_cap hown1).2
        have HDEL := Lib.hid hdel
        have HGE := Lib.hid (own_ge hown1)
        have HLT := Lib.hid (own_lt hown1)
        have HOWN := Lib.hid hown1'
        clear hdel hown1'
        have hxr : (x.1 : Int) + 1 ≤ 140737488355328 := by have := x.2; omega
        have hx0 : (0 : Int) ≤ (x.1 : Int) := by omega
        have q := (Blk.new w1 25 #[.slice A1 l.length c1', .int .i64 m0, .int .i64 m1, .int .i64 m2, .int .i64 m3])
        gi_wp2_with (gi_at_call 48; refine (CallsIn.inRound lp (callsIn_wide.2 HDEL.out)).mono ?_; refine Hid.out ?_)
        unfold Hid
        rintro e w2 ⟨rfl, hown2, hg2⟩
        have q2 := q.grown hg2 (fun e => by have := HLT.out _ e.symm; omega)
        have hR2 := ((hR.below hb1 (by omega)).alloc (.cells #[.slice A1 l.length c1', .int .i64 m0, .int .i64 m1, .int .i64 m2, .int .i64 m3] 25)).grown hg2 (fun e => by have := HGE.out _ e.symm; omega)
        have hO2 := ((hO.below hb1 (by omega)).alloc (.cells #[.slice A1 l.length c1', .int .i64 m0, .int .i64 m1, .int .i64 m2, .int .i64 m3] 25)).grown hg2 (fun e => by have := HGE.out _ e.symm; omega)
        have hz3 := hg2.size
        have N0 := Lib.hid (own_blk_ne hown2 q2 (by decide))
        have N1 := Lib.hid (own_blk_ne hown2 hR2 (by decide))
        have N2 := Lib.hid (own_blk_ne hown2 hO2 (by decide))
        obtain ⟨r0, r1, r2, r3, r4⟩ := hR2.c5
        obtain ⟨s0, s1, s2, s3, s4⟩ := q2.c5
        have o0 := hO2.c1
        have fR := hR2.frz
        have fq := q2.frz
        have fO := hO2.frz
        have hz5 : N + 1 + 1 + 1 + 1 + 1 + 1 ≤ w1.heap.size := by omega
        have HK1 := Lib.hid (((below_keeps hb1).trans (KeepsOthers.alloc w1 (.cells #[.slice A1 l.length c1', .int .i64 m0, .int .i64 m1, .int .i64 m2, .int .i64 m3] 25))).trans (own_keeps HOWN.out hg2))
        have HB2 := Lib.hid ((((hB.trans (hb1.mono (by omega))).alloc (by omega) (.cells #[.slice A1 l.length c1', .int .i64 m0, .int .i64 m1, .int .i64 m2, .int .i64 m3] 25)).grown hg2 (by simp; omega) (fun g hg => by have := HGE.out g hg; omega)))
        have hz4 : w1.heap.size < w2.heap.size := by simp at hz3; omega
        clear hz3 hg2 hown1 q HDEL HOWN
        gi_wp2
        refine ⟨?_, ⟨rfl, pre, x, rfl, hp, HT.out, A1, c1', ?_, ?_, ?_⟩, ?_⟩
        · exact (((((((HK1.out.trans (KeepsOthers.setCell _ _ _)).trans (KeepsOthers.setCell _ _ _)).trans (KeepsOthers.setCell _ _ _)).trans (KeepsOthers.setCell _ _ _)).trans (KeepsOthers.setCell _ _ _)).trans (KeepsOthers.setCell _ _ _)).trans (KeepsOthers.setCell _ _ _)).from _
        · exact ((((((hR2.far (p := ⟨w1.heap.size, 0, none⟩) (by simp; omega) _).set_ 0 _).set_ 1 _).set_ 2 _).set_ 3 _).set_ 4 _).far (p := ⟨N + 1 + 1 + 1 + 1, 0, none⟩) (by simp) _
        · refine Blk.set_ (cs := #[.int .i64 0]) ?_ 0 _
          iterate 5 refine Blk.far ?_ (by simp) _
          exact hO2.far (p := ⟨w1.heap.size, 0, none⟩) (by simp; omega) _
        · refine own_mono ?_ (show N ≤ W.heap.size by omega)
          refine own_setCell ?_ N2.out _
          iterate 5 refine own_setCell ?_ N1.out _
          exact own_setCell hown2 N0.out _
        · iterate 7 refine Below.setCell ?_ (by (try simp) <;> omega) _
          exact HB2.out
      · have hu' : ((elt l x).2.1 == kind) = false := by simpa using hu
        have HT := Lib.hid (hnot (by simp [isOf, hu]))
        clear ht hu hnot
        gi_wp2
        exact ⟨KeepsFrom.refl _ _, KpB.refl _ _ _, ⟨HT.out, hL, hI, hK0, hR, hO, hS⟩, hB⟩
    · have ht' : ((elt l x).1 == id) = false := by simpa using ht
      have HT := Lib.hid (hnot (by simp [isOf, ht]))
      clear ht hnot
      gi_wp2
      exact ⟨KeepsFrom.refl _ _, KpB.refl _ _ _, ⟨HT.out, hL, hI, hK0, hR, hO, hS⟩, hB⟩
  case done =>
    rintro D ys W hD hys ⟨⟨hp, hL, hI, hK0, hR, hO, hS⟩, hB⟩ hK
    obtain ⟨r0, r1, r2, r3, r4⟩ := hR.c5
    have o0 := hO.c1
    have fR := hR.frz
    have fO := hO.frz
    gi_wp2
    obtain ⟨W5, hW5⟩ : ∃ W5, W5 = ((((((W.setCell ⟨N + 1 + 1 + 1, 0, none⟩ (.slice none 0 0)).setCell ⟨N + 1 + 1 + 1, 1, none⟩ (.int .i64 0)).setCell ⟨N + 1 + 1 + 1, 2, none⟩ (.int .i64 0)).setCell ⟨N + 1 + 1 + 1, 3, none⟩ (.int .i64 0)).setCell ⟨N + 1 + 1 + 1, 4, none⟩ (.int .i64 0)).setCell ⟨N + 1 + 1 + 1 + 1, 0, none⟩ (.int .i64 6)) := ⟨_, rfl⟩
    have q1 : Blk W5 (N + 1 + 1 + 1) 25 #[.slice none 0 0, .int .i64 0, .int .i64 0, .int .i64 0, .int .i64 0] := by
      rw [hW5]; exact (((((hR.set_ 0 _).set_ 1 _).set_ 2 _).set_ 3 _).set_ 4 _).far (p := ⟨N + 1 + 1 + 1 + 1, 0, none⟩) (by simp) _
    have q2 : Blk W5 (N + 1 + 1 + 1 + 1) 36 #[.int .i64 6] := by
      rw [hW5]
      refine Blk.set_ (cs := #[.int .i64 0]) ?_ 0 _
      iterate 5 refine Blk.far ?_ (by simp) _
      exact hO
    have hK' : W5.heap[D]? = some (.deferred (some [])) := by
      rw [hW5]
      exact ((((((KeepsOthers.setCell _ _ _).trans (KeepsOthers.setCell _ _ _)).trans (KeepsOthers.setCell _ _ _)).trans (KeepsOthers.setCell _ _ _)).trans (KeepsOthers.setCell _ _ _)).trans (KeepsOthers.setCell _ _ _)).same D _ hK rfl
    have hB5 : Below N w W5 := by
      rw [hW5]
      iterate 6 refine Below.setCell ?_ (by (try simp) <;> omega) _
      exact hB
    rw [← hW5]
    clear hW5
    refine ⟨by simp, .inl ⟨_, _, rfl, run_takeDeferred hK', ?_⟩⟩
    obtain ⟨s0, s1, s2, s3, s4⟩ := (blk_put q1 hK' rfl (.deferred none)).c5
    have s5 := (blk_put q2 hK' rfl (.deferred none)).c1
    refine ⟨.tuple #[.agg #[.slice none 0 0, .int .i64 0, .int .i64 0, .int .i64 0, .int .i64 0], .int .i64 6], by simp only [results, Try.results23]; go_simp, .inl ⟨rfl, ys, hys, hp⟩, ?_⟩
    exact hB5.trans (belowK_b (w := w) (by omega) _ D _ _ (by have := HZ0.out; omega) hK' rfl rfl)
  case stop =>
    rintro D cd pre W hD ⟨k, hk, hpre⟩ ⟨⟨rfl, ini, x, rfl, h3, h4, A', c', hR, hO, hOw⟩, hB⟩ hK
    gi_wp2
    refine ⟨by simp, .inl ⟨_, _, rfl, run_takeDeferred hK, ?_⟩⟩
    obtain ⟨s0, s1, s2, s3, s4⟩ := (blk_put hR hK rfl (.deferred none)).c5
    have s5 := (blk_put hO hK rfl (.deferred none)).c1
    have hO' := own_own (β := Unit) 0 _ _ _ _ _ _ () W _ (some D) hOw (grownBy_putObj' W D (.deferred none)) (fun r e => by cases e; exact ⟨Nat.zero_le _, _, hK, rfl⟩)
    refine ⟨.tuple #[.agg #[.slice A' (l.eraseIdx x.1).length c', .int .i64 m0, .int .i64 m1, .int .i64 m2, .int .i64 m3], .int .i64 0], by simp only [results, Try.results23]; go_simp, .inr ⟨ini, x, k, hk, hpre, h3, h4, A', c', rfl, hO'⟩, ?_⟩
    exact hB.trans (belowK_b (w := w) (by omega) _ D _ _ (by have := HZ0.out; omega) hK rfl rfl)
end Go.Proofs.Ytmcjgfoaiannoaa
