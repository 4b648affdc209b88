/-
  pool.Ask: what it makes of a world. Conditions: the length bounds that the reach pays.
-/
import Derived.Test.YtmcjgfoaiannoaaPoolCopy
namespace Go.Proofs.Ytmcjgfoaiannoaa
open Go.RowKit

def AskOut (D : WD) (id waits : Int) (w : World) (e : Ending) (w' : World) : Prop :=
  ∃ a' : WA, e = .returned (.tuple #[wV a' (askP D id waits).1, .int .i64 (askP D id waits).2]) ∧ OwW w' w.heap.size a' (askP D id waits).1 ∧ Below w.heap.size w w'
theorem askOut_no {D : WD} {id waits : Int} {w w' : World} {n : Int} (h : askP D id waits = (wd0, n)) (hb : Below w.heap.size w w') :
    AskOut D id waits w (.returned (.tuple #[.agg #[.slice none 0 0, .int .i64 0, .int .i64 0, .int .i64 0, .int .i64 0, .slice none 0 0, .slice none 0 0, .slice none 0 0, .slice none 0 0], .int .i64 n])) w' := by
  unfold AskOut
  rw [h]
  exact ⟨wa0, rfl, OwW.nil_, hb⟩
theorem askOut_yes {D D' : WD} {id waits : Int} {w w' : World} {n : Int} (h : askP D id waits = (D', n)) (a' : WA) (ho : OwW w' w.heap.size a' D') (hb : Below w.heap.size w w') :
    AskOut D id waits w (.returned (.tuple #[wV a' D', .int .i64 n])) w' := by
  unfold AskOut
  rw [h]
  exact ⟨a', rfl, ho, hb⟩

set_option maxRecDepth 100000 in
set_option maxHeartbeats 4000000 in
theorem poolAsk_any (a : WA) (D : WD) (id waits : Int) (w : World) (rr : RdW w w.heap.size a D) (hf : Fit D) :
    Calls Try.prog 32 #[.agg #[.slice a.A D.l.length a.c, .int .i64 D.m0, .int .i64 D.m1, .int .i64 D.m2, .int .i64 D.m3, .slice a.Ag D.g.length a.cg, .slice a.Af D.f.length a.cf, .slice a.Aq D.q.length a.cq, .slice a.Am D.m.length a.cm], .int .i64 id, .int .i64 waits] w (AskOut D id waits w) := by
  have hfq := hf.q
  go_enter Try.func32, Try.ntmps32
  obtain ⟨w0, hw0⟩ : ∃ w0, w0 = ((w.alloc (.cells #[.slice a.A D.l.length a.c, .int .i64 D.m0, .int .i64 D.m1, .int .i64 D.m2, .int .i64 D.m3, .slice a.Ag D.g.length a.cg, .slice a.Af D.f.length a.cf, .slice a.Aq D.q.length a.cq, .slice a.Am D.m.length a.cm] 67)).alloc (.cells #[.int .i64 id] 3)).alloc (.cells #[.slice none 0 0, .int .i64 0, .int .i64 0, .int .i64 0, .int .i64 0, .slice none 0 0, .slice none 0 0, .slice none 0 0, .slice none 0 0] 67) := ⟨_, rfl⟩
  have bb : Blk w0 w.heap.size 67 #[.slice a.A D.l.length a.c, .int .i64 D.m0, .int .i64 D.m1, .int .i64 D.m2, .int .i64 D.m3, .slice a.Ag D.g.length a.cg, .slice a.Af D.f.length a.cf, .slice a.Aq D.q.length a.cq, .slice a.Am D.m.length a.cm] := by rw [hw0]; exact ((Blk.new _ _ _).alloc _).alloc _
  have ib : Blk w0 (w.heap.size + 1) 3 #[.int .i64 id] := by rw [hw0]; exact (Blk.new' _ _ (by simp) _ _).alloc _
  have zb : Blk w0 (w.heap.size + 1 + 1) 67 #[.slice none 0 0, .int .i64 0, .int .i64 0, .int .i64 0, .int .i64 0, .slice none 0 0, .slice none 0 0, .slice none 0 0, .slice none 0 0] := by rw [hw0]; exact Blk.new' _ _ (by simp) _ _
  have hB : Below w.heap.size w w0 := by rw [hw0]; exact (((Below.refl _ w).alloc (Nat.le_refl _) _).alloc (by simp) _).alloc (by simp; omega) _
  have rr := rr.up hB
  have ⟨k0, k1, k2, k3, k4, k5, k6, k7, k8⟩ := bb.c9
  have i0 := ib.c1
  go_wp2_with (go_at_call 56; refine Hid.out ?_)
  unfold Hid
  rw [← hw0]
  clear hw0
  have hc := containsI_any a.Aq a.cq D.q id w0 _ rr.q (by have := hf.q; omega)
  rcases h1 : D.q.any (· == id) with _ | _
  · rw [h1] at hc
    have H1 := Lib.hid h1
    clear h1
    refine hc.mono ?_
    clear hc
    rintro e w1 ⟨rfl, rfl⟩
    go_wp2_with (go_at_call 57; refine Hid.out ?_)
    unfold Hid
    have hc := leases_any a.A a.c D.l id (w.heap.size + 1) w1 rr.l (by have := hf.l; omega) ib.lt i0
    rcases h2 : D.l.any (leaseP id) with _ | _
    · rw [h2] at hc
      have H2 := Lib.hid h2
      clear h2
      refine hc.mono ?_
      clear hc
      rintro e w2 ⟨rfl, hb⟩
      have bb := bb.below hb bb.lt
      have ib := ib.below hb ib.lt
      have zb := zb.below hb zb.lt
      have rr := rr.up hb
      have hB := hB.trans (hb.mono hB.size)
      clear hb i0 k0 k1 k2 k3 k4 k5 k6 k7 k8
      have ⟨k0, k1, k2, k3, k4, k5, k6, k7, k8⟩ := bb.c9
      go_wp2_with (go_at_call 31; refine Hid.out ?_)
      unfold Hid
      refine (poolOwn_any a D w2 rr hf).mono ?_
      rintro e w3 ⟨b, rfl, ow, ap, hb⟩
      have bb := bb.below hb bb.lt
      have ib := ib.below hb ib.lt
      have zb := zb.below hb zb.lt
      have rr := rr.up hb
      have ow := ow.more hB.size
      have hB := hB.trans (hb.mono hB.size)
      clear hb k0 k1 k2 k3 k4 k5 k6 k7 k8
      have ⟨k0, k1, k2, k3, k4, k5, k6, k7, k8⟩ := bb.c9
      have i0 := ib.c1
      have l1 := bb.lt
      have l2 := ib.lt
      have l3 := zb.lt
      obtain ⟨M, hM⟩ : ∃ M, M = w3.heap.size := ⟨_, rfl⟩
      obtain ⟨w4, hw4⟩ : ∃ w4, w4 = w3.alloc (.cells #[.slice b.A D.l.length b.c, .int .i64 D.m0, .int .i64 D.m1, .int .i64 D.m2, .int .i64 D.m3, .slice b.Ag D.g.length b.cg, .slice b.Af D.f.length b.cf, .slice b.Aq D.q.length b.cq, .slice b.Am D.m.length b.cm] 67) := ⟨_, rfl⟩
      go_wp2_with (go_at_call 21; refine Hid.out ?_)
      unfold Hid
      rw [← hM, ← hw4]
      have ob : Blk w4 M 67 #[.slice b.A D.l.length b.c, .int .i64 D.m0, .int .i64 D.m1, .int .i64 D.m2, .int .i64 D.m3, .slice b.Ag D.g.length b.cg, .slice b.Af D.f.length b.cf, .slice b.Aq D.q.length b.cq, .slice b.Am D.m.length b.cm] := by rw [hw4, hM]; exact Blk.new _ _ _
      have bb : Blk w4 w.heap.size 67 #[.slice a.A D.l.length a.c, .int .i64 D.m0, .int .i64 D.m1, .int .i64 D.m2, .int .i64 D.m3, .slice a.Ag D.g.length a.cg, .slice a.Af D.f.length a.cf, .slice a.Aq D.q.length a.cq, .slice a.Am D.m.length a.cm] := by rw [hw4]; exact bb.alloc _
      have ib : Blk w4 (w.heap.size + 1) 3 #[.int .i64 id] := by rw [hw4]; exact ib.alloc _
      have zb : Blk w4 (w.heap.size + 1 + 1) 67 #[.slice none 0 0, .int .i64 0, .int .i64 0, .int .i64 0, .int .i64 0, .slice none 0 0, .slice none 0 0, .slice none 0 0, .slice none 0 0] := by rw [hw4]; exact zb.alloc _
      have rr : RdW w4 w4.heap.size a D := by rw [hw4]; exact (rr.alloc (Nat.le_refl _) _).more (by simp)
      have ow : OwW w4 w.heap.size b D := by rw [hw4]; exact ow.alloc _
      have hB : Below w.heap.size w w4 := by rw [hw4]; exact hB.alloc (by omega) _
      have lM : w.heap.size + 1 + 1 < M := by omega
      clear l1 l2 l3
      clear hw4 i0 k0 k1 k2 k3 k4 k5 k6 k7 k8
      have hc := take_own a.A a.c D.l D.m0 D.m1 D.m2 D.m3 id 2 (-1) w4 rr.l hf.l
      clear hM
      by_cases h3 : D.m2 ≤ (countK D.l 2 : Int)
      · have ht : takeP (D.l, D.m0, D.m1, D.m2, D.m3) id 2 (-1) = (led0, 8) := by simp [takeP, mostP, h3]
        rw [ht] at hc
        refine hc.mono ?_
        clear hc ht
        rintro e w5 ⟨A', c', rfl, ol, hb⟩
        simp only [ledV, led0] at ol ⊢
        have ob := ob.below hb ob.lt
        have bb := bb.below hb bb.lt
        have ib := ib.below hb ib.lt
        have zb := zb.below hb zb.lt
        have rr := rr.up hb
        have ow := ow.below hb
        have hB := hB.trans (hb.mono hB.size)
        clear hb
        have H3 := Lib.hid (show D.m2 ≤ (countK D.l 2 : Int) ∨ D.q ≠ [] from .inl h3)
        clear h3
        have ⟨k0, k1, k2, k3, k4, k5, k6, k7, k8⟩ := bb.c9
        have ⟨o0, o1, o2, o3, o4, o5, o6, o7, o8⟩ := ob.c9
        have ⟨j0, j1, j2, j3, j4, j5, j6, j7, j8⟩ := zb.c9
        have i0 := ib.c1
        have of_ := ob.frz
        have zf := zb.frz
        have l1 := bb.lt
        have l2 := ib.lt
        have l3 := zb.lt
        have l4 := ob.lt
        by_cases h5 : waits ≤ (D.q.length : Int)
        · have HA := Lib.hid (show askP D id waits = (wd0, 8) by simp [askP, H1.out, H2.out, H3.out, h5])
          clear H1 H2 H3
          go_wp2
          refine bodyPost_ret (v := .tuple #[.agg #[.slice none 0 0, .int .i64 0, .int .i64 0, .int .i64 0, .int .i64 0, .slice none 0 0, .slice none 0 0, .slice none 0 0, .slice none 0 0], .int .i64 8]) (by simp only [results, Try.results32]; go_simp) rfl (askOut_no HA.out ?_)
          exact (below_put9 hB (by omega) _ _ _ _ _ _ _ _ _).alloc (by rw [size_put9]; omega) _
        · obtain ⟨Q, hQ⟩ : ∃ Q, D.q ++ [id] = Q := ⟨_, rfl⟩
          have HA := Lib.hid (show askP D id waits = ({ D with q := Q }, 10) by simp [askP, H1.out, H2.out, H3.out, h5, hQ])
          have HL := Lib.hid (show D.q.length + 1 = Q.length by rw [← hQ]; simp)
          have HX := Lib.hid (show D.q.flatMap encI ++ [.int .i64 id] = Q.flatMap encI by rw [← hQ]; simp [encI])
          clear H1 H2 H3 hQ
          obtain ⟨i0', hi, hz0, hz1, hz2⟩ := info_parts infoI
          have own6 : ((w5.alloc (.cells #[.slice A' 0 c', .int .i64 0, .int .i64 0, .int .i64 0, .int .i64 0] 25)).alloc (.cells #[.int .i64 id] 3)).ownsRow w.heap.size 3 1 (.slice b.Aq D.q.length b.cq) D.q.length (D.q.flatMap encI) := (ow.q.alloc _).alloc _
          have rd6 : Reads ((w5.alloc (.cells #[.slice A' 0 c', .int .i64 0, .int .i64 0, .int .i64 0, .int .i64 0] 25)).alloc (.cells #[.int .i64 id] 3)) (w5.heap.size + 1 + 1) 1 (some ⟨w5.heap.size + 1, 0, none⟩) 1 [.int .i64 id] := ⟨rfl, fun _ => ⟨_, rfl, Nat.lt_succ_self _, cells_new (w5.alloc (.cells #[.slice A' 0 c', .int .i64 0, .int .i64 0, .int .i64 0, .int .i64 0] 25)) (w5.heap.size + 1) (by simp) [.int .i64 id] 3⟩⟩
          have h1 : ∀ u ∈ [Value.int .i64 id], u.oneCell' = true := by simp [Value.oneCell']
          go_wp2_with (at_builtin; refine wpList_append_any _ rfl (.tmp 50) (.tmp 52) _ rfl w.heap.size 3 i0' _ 1 8 Try.underlying44 hi hz0 hz1 hz2 rfl (by omega) _ D.q.length (D.q.flatMap encI) rfl own6 (w5.heap.size + 1 + 1) (some ⟨w5.heap.size + 1, 0, none⟩) 1 1 [.int .i64 id] rfl rd6 h1 (by simp only [maxLen]; omega) (by omega) (by simp; omega) ?_; intro v6 w6 own7 hg6 hat6; rw [HL.out, HX.out] at own7; obtain ⟨A6, c6, rfl, _, _⟩ := own_shape own7; have ob6 : Blk w6 M 67 #[.slice b.A D.l.length b.c, .int .i64 D.m0, .int .i64 D.m1, .int .i64 D.m2, .int .i64 D.m3, .slice b.Ag D.g.length b.cg, .slice b.Af D.f.length b.cf, .slice b.Aq D.q.length b.cq, .slice b.Am D.m.length b.cm] := Blk.grown (w := ((w5.alloc (.cells #[.slice A' 0 c', .int .i64 0, .int .i64 0, .int .i64 0, .int .i64 0] 25)).alloc (.cells #[.int .i64 id] 3))) ((ob.alloc _).alloc _) hg6 (Ne.symm (own_blk_ne ow.q ob (by decide))); have zb6 : Blk w6 (w.heap.size + 1 + 1) 67 #[.slice none 0 0, .int .i64 0, .int .i64 0, .int .i64 0, .int .i64 0, .slice none 0 0, .slice none 0 0, .slice none 0 0, .slice none 0 0] := Blk.grown (w := ((w5.alloc (.cells #[.slice A' 0 c', .int .i64 0, .int .i64 0, .int .i64 0, .int .i64 0] 25)).alloc (.cells #[.int .i64 id] 3))) ((zb.alloc _).alloc _) hg6 (Ne.symm (own_blk_ne ow.q zb (by decide))); have hB6 : Below w.heap.size w w6 := Below.grown ((hB.alloc (by omega) (.cells #[.slice A' 0 c', .int .i64 0, .int .i64 0, .int .i64 0, .int .i64 0] 25)).alloc (by simp; omega) (.cells #[.int .i64 id] 3)) hg6 (by simp; omega) (fun g hg => own_ge ow.q g hg); have ol6 := own_grown ((ow.l.alloc (.cells #[.slice A' 0 c', .int .i64 0, .int .i64 0, .int .i64 0, .int .i64 0] 25)).alloc (.cells #[.int .i64 id] 3)) hg6 (own_own_ne ow.l ow.q (by decide)); have om6 := own_grown ((ow.m.alloc (.cells #[.slice A' 0 c', .int .i64 0, .int .i64 0, .int .i64 0, .int .i64 0] 25)).alloc (.cells #[.int .i64 id] 3)) hg6 (own_own_ne ow.m ow.q (by decide)); have og6 := own_grown ((ow.g.alloc (.cells #[.slice A' 0 c', .int .i64 0, .int .i64 0, .int .i64 0, .int .i64 0] 25)).alloc (.cells #[.int .i64 id] 3)) hg6 ap.1; have of6 := own_grown ((ow.f.alloc (.cells #[.slice A' 0 c', .int .i64 0, .int .i64 0, .int .i64 0, .int .i64 0] 25)).alloc (.cells #[.int .i64 id] 3)) hg6 ap.2; clear o0 o1 o2 o3 o4 o5 o6 o7 o8 j0 j1 j2 j3 j4 j5 j6 j7 j8 of_ zf own6 rd6 hat6 k7; have ⟨o0, o1, o2, o3, o4, o5, o6, o7, o8⟩ := ob6.c9; have ⟨j0, j1, j2, j3, j4, j5, j6, j7, j8⟩ := zb6.c9; have of_ := ob6.frz; have zf := zb6.frz; have l6 := ob6.lt; have l7 := zb6.lt)
          refine bodyPost_ret (v := .tuple #[.agg #[.slice b.A D.l.length b.c, .int .i64 D.m0, .int .i64 D.m1, .int .i64 D.m2, .int .i64 D.m3, .slice b.Ag D.g.length b.cg, .slice b.Af D.f.length b.cf, .slice A6 Q.length c6, .slice b.Am D.m.length b.cm], .int .i64 10]) (by simp only [results, Try.results32]; go_simp) rfl (askOut_yes HA.out ⟨b.A, b.Ag, b.Af, A6, b.Am, b.c, b.cg, b.cf, c6, b.cm⟩ ?_ ?_)
          · have ow6 : OwW w6 w.heap.size ⟨b.A, b.Ag, b.Af, A6, b.Am, b.c, b.cg, b.cf, c6, b.cm⟩ { D with q := Q } := ⟨ol6, og6, of6, own7, om6⟩
            have hq := ow6.set_ (i := 7) ob6 (by decide) (by decide) (by decide) (.slice A6 Q.length c6)
            exact hq.put9 (zb6.far (p := ⟨M, 7, none⟩) (by simp; omega) _) (by decide) (by decide) (by decide) _ _ _ _ _ _ _ _ _
          · exact below_put9 (hB6.setCell (p := ⟨M, 7, none⟩) (by show w.heap.size ≤ M; omega) _) (by omega) _ _ _ _ _ _ _ _ _
      · have ht : takeP (D.l, D.m0, D.m1, D.m2, D.m3) id 2 (-1) = ((D.l ++ [(id, 2, -1)], D.m0, D.m1, D.m2, D.m3), 0) := by simp [takeP, mostP, h3]
        obtain ⟨L, hL⟩ : ∃ L, D.l ++ [(id, 2, -1)] = L := ⟨_, rfl⟩
        rw [ht, hL] at hc
        refine hc.mono ?_
        clear hc ht
        rintro e w5 ⟨A', c', rfl, ol, hb⟩
        simp only [ledV] at ol ⊢
        have ol := ol.more hB.size
        have ob := ob.below hb ob.lt
        have bb := bb.below hb bb.lt
        have ib := ib.below hb ib.lt
        have zb := zb.below hb zb.lt
        have rr := rr.up hb
        have ow := ow.below hb
        have hB := hB.trans (hb.mono hB.size)
        clear hb
        by_cases h4 : D.q = []
        · have hq1 : (((D.q.length : Nat) : Int) == 0) = true := by simp [h4]
          have HA := Lib.hid (show askP D id waits = ({ D with l := L }, 0) by simp [askP, H2.out, h3, h4, hL])
          clear h3 h4 H1 H2 hL
          have ⟨k0, k1, k2, k3, k4, k5, k6, k7, k8⟩ := bb.c9
          have ⟨o0, o1, o2, o3, o4, o5, o6, o7, o8⟩ := ob.c9
          have ⟨j0, j1, j2, j3, j4, j5, j6, j7, j8⟩ := zb.c9
          have i0 := ib.c1
          have of_ := ob.frz
          have zf := zb.frz
          have l1 := bb.lt
          have l2 := ib.lt
          have l3 := zb.lt
          have l4 := ob.lt
          go_wp2
          refine bodyPost_ret (v := .tuple #[.agg #[.slice A' L.length c', .int .i64 D.m0, .int .i64 D.m1, .int .i64 D.m2, .int .i64 D.m3, .slice b.Ag D.g.length b.cg, .slice b.Af D.f.length b.cf, .slice b.Aq D.q.length b.cq, .slice b.Am D.m.length b.cm], .int .i64 0]) (by simp only [results, Try.results32]; go_simp) rfl (askOut_yes HA.out ⟨A', b.Ag, b.Af, b.Aq, b.Am, c', b.cg, b.cf, b.cq, b.cm⟩ ?_ ?_)
          · have ow5 : OwW w5 w.heap.size ⟨A', b.Ag, b.Af, b.Aq, b.Am, c', b.cg, b.cf, b.cq, b.cm⟩ { D with l := L } := ⟨ol, ow.g, ow.f, ow.q, ow.m⟩
            exact ((ow5.put5 ob (by decide) (by decide) (by decide) _ _ _ _ _).put9 (zb.farP5 (by omega) _ _ _ _ _) (by decide) (by decide) (by decide) _ _ _ _ _ _ _ _ _).alloc _
          · exact (below_put9 (below_put5 hB (by omega) _ _ _ _ _) (by omega) _ _ _ _ _ _ _ _ _).alloc (by rw [size_put9, size_put5]; omega) _
        · have H3 := Lib.hid (show D.m2 ≤ (countK D.l 2 : Int) ∨ D.q ≠ [] from .inr h4)
          have hq1 : (((D.q.length : Nat) : Int) == 0) = false := by have := List.length_pos_iff.2 h4; simp; omega
          clear h3 h4
          have ⟨k0, k1, k2, k3, k4, k5, k6, k7, k8⟩ := bb.c9
          have ⟨o0, o1, o2, o3, o4, o5, o6, o7, o8⟩ := ob.c9
          have ⟨j0, j1, j2, j3, j4, j5, j6, j7, j8⟩ := zb.c9
          have i0 := ib.c1
          have of_ := ob.frz
          have zf := zb.frz
          have l1 := bb.lt
          have l2 := ib.lt
          have l3 := zb.lt
          have l4 := ob.lt
          by_cases h5 : waits ≤ (D.q.length : Int)
          · have HA := Lib.hid (show askP D id waits = (wd0, 8) by simp [askP, H1.out, H2.out, H3.out, h5])
            clear H1 H2 H3
            go_wp2
            refine bodyPost_ret (v := .tuple #[.agg #[.slice none 0 0, .int .i64 0, .int .i64 0, .int .i64 0, .int .i64 0, .slice none 0 0, .slice none 0 0, .slice none 0 0, .slice none 0 0], .int .i64 8]) (by simp only [results, Try.results32]; go_simp) rfl (askOut_no HA.out ?_)
            exact (below_put9 hB (by omega) _ _ _ _ _ _ _ _ _).alloc (by rw [size_put9]; omega) _
          · obtain ⟨Q, hQ⟩ : ∃ Q, D.q ++ [id] = Q := ⟨_, rfl⟩
            have HA := Lib.hid (show askP D id waits = ({ D with q := Q }, 10) by simp [askP, H1.out, H2.out, H3.out, h5, hQ])
            have HL := Lib.hid (show D.q.length + 1 = Q.length by rw [← hQ]; simp)
            have HX := Lib.hid (show D.q.flatMap encI ++ [.int .i64 id] = Q.flatMap encI by rw [← hQ]; simp [encI])
            clear H1 H2 H3 hQ
            obtain ⟨i0', hi, hz0, hz1, hz2⟩ := info_parts infoI
            have own6 : ((w5.alloc (.cells #[.slice A' L.length c', .int .i64 D.m0, .int .i64 D.m1, .int .i64 D.m2, .int .i64 D.m3] 25)).alloc (.cells #[.int .i64 id] 3)).ownsRow w.heap.size 3 1 (.slice b.Aq D.q.length b.cq) D.q.length (D.q.flatMap encI) := (ow.q.alloc _).alloc _
            have rd6 : Reads ((w5.alloc (.cells #[.slice A' L.length c', .int .i64 D.m0, .int .i64 D.m1, .int .i64 D.m2, .int .i64 D.m3] 25)).alloc (.cells #[.int .i64 id] 3)) (w5.heap.size + 1 + 1) 1 (some ⟨w5.heap.size + 1, 0, none⟩) 1 [.int .i64 id] := ⟨rfl, fun _ => ⟨_, rfl, Nat.lt_succ_self _, cells_new (w5.alloc (.cells #[.slice A' L.length c', .int .i64 D.m0, .int .i64 D.m1, .int .i64 D.m2, .int .i64 D.m3] 25)) (w5.heap.size + 1) (by simp) [.int .i64 id] 3⟩⟩
            have h1 : ∀ u ∈ [Value.int .i64 id], u.oneCell' = true := by simp [Value.oneCell']
            go_wp2_with (at_builtin; refine wpList_append_any _ rfl (.tmp 50) (.tmp 52) _ rfl w.heap.size 3 i0' _ 1 8 Try.underlying44 hi hz0 hz1 hz2 rfl (by omega) _ D.q.length (D.q.flatMap encI) rfl own6 (w5.heap.size + 1 + 1) (some ⟨w5.heap.size + 1, 0, none⟩) 1 1 [.int .i64 id] rfl rd6 h1 (by simp only [maxLen]; omega) (by omega) (by simp; omega) ?_; intro v6 w6 own7 hg6 hat6; rw [HL.out, HX.out] at own7; obtain ⟨A6, c6, rfl, _, _⟩ := own_shape own7; have ob6 : Blk w6 M 67 #[.slice b.A D.l.length b.c, .int .i64 D.m0, .int .i64 D.m1, .int .i64 D.m2, .int .i64 D.m3, .slice b.Ag D.g.length b.cg, .slice b.Af D.f.length b.cf, .slice b.Aq D.q.length b.cq, .slice b.Am D.m.length b.cm] := Blk.grown (w := ((w5.alloc (.cells #[.slice A' L.length c', .int .i64 D.m0, .int .i64 D.m1, .int .i64 D.m2, .int .i64 D.m3] 25)).alloc (.cells #[.int .i64 id] 3))) ((ob.alloc _).alloc _) hg6 (Ne.symm (own_blk_ne ow.q ob (by decide))); have zb6 : Blk w6 (w.heap.size + 1 + 1) 67 #[.slice none 0 0, .int .i64 0, .int .i64 0, .int .i64 0, .int .i64 0, .slice none 0 0, .slice none 0 0, .slice none 0 0, .slice none 0 0] := Blk.grown (w := ((w5.alloc (.cells #[.slice A' L.length c', .int .i64 D.m0, .int .i64 D.m1, .int .i64 D.m2, .int .i64 D.m3] 25)).alloc (.cells #[.int .i64 id] 3))) ((zb.alloc _).alloc _) hg6 (Ne.symm (own_blk_ne ow.q zb (by decide))); have hB6 : Below w.heap.size w w6 := Below.grown ((hB.alloc (by omega) (.cells #[.slice A' L.length c', .int .i64 D.m0, .int .i64 D.m1, .int .i64 D.m2, .int .i64 D.m3] 25)).alloc (by simp; omega) (.cells #[.int .i64 id] 3)) hg6 (by simp; omega) (fun g hg => own_ge ow.q g hg); have ol6 := own_grown ((ow.l.alloc (.cells #[.slice A' L.length c', .int .i64 D.m0, .int .i64 D.m1, .int .i64 D.m2, .int .i64 D.m3] 25)).alloc (.cells #[.int .i64 id] 3)) hg6 (own_own_ne ow.l ow.q (by decide)); have om6 := own_grown ((ow.m.alloc (.cells #[.slice A' L.length c', .int .i64 D.m0, .int .i64 D.m1, .int .i64 D.m2, .int .i64 D.m3] 25)).alloc (.cells #[.int .i64 id] 3)) hg6 (own_own_ne ow.m ow.q (by decide)); have og6 := own_grown ((ow.g.alloc (.cells #[.slice A' L.length c', .int .i64 D.m0, .int .i64 D.m1, .int .i64 D.m2, .int .i64 D.m3] 25)).alloc (.cells #[.int .i64 id] 3)) hg6 ap.1; have of6 := own_grown ((ow.f.alloc (.cells #[.slice A' L.length c', .int .i64 D.m0, .int .i64 D.m1, .int .i64 D.m2, .int .i64 D.m3] 25)).alloc (.cells #[.int .i64 id] 3)) hg6 ap.2; clear o0 o1 o2 o3 o4 o5 o6 o7 o8 j0 j1 j2 j3 j4 j5 j6 j7 j8 of_ zf own6 rd6 hat6 k7; have ⟨o0, o1, o2, o3, o4, o5, o6, o7, o8⟩ := ob6.c9; have ⟨j0, j1, j2, j3, j4, j5, j6, j7, j8⟩ := zb6.c9; have of_ := ob6.frz; have zf := zb6.frz; have l6 := ob6.lt; have l7 := zb6.lt)
            refine bodyPost_ret (v := .tuple #[.agg #[.slice b.A D.l.length b.c, .int .i64 D.m0, .int .i64 D.m1, .int .i64 D.m2, .int .i64 D.m3, .slice b.Ag D.g.length b.cg, .slice b.Af D.f.length b.cf, .slice A6 Q.length c6, .slice b.Am D.m.length b.cm], .int .i64 10]) (by simp only [results, Try.results32]; go_simp) rfl (askOut_yes HA.out ⟨b.A, b.Ag, b.Af, A6, b.Am, b.c, b.cg, b.cf, c6, b.cm⟩ ?_ ?_)
            · have ow6 : OwW w6 w.heap.size ⟨b.A, b.Ag, b.Af, A6, b.Am, b.c, b.cg, b.cf, c6, b.cm⟩ { D with q := Q } := ⟨ol6, og6, of6, own7, om6⟩
              have hq := ow6.set_ (i := 7) ob6 (by decide) (by decide) (by decide) (.slice A6 Q.length c6)
              exact hq.put9 (zb6.far (p := ⟨M, 7, none⟩) (by simp; omega) _) (by decide) (by decide) (by decide) _ _ _ _ _ _ _ _ _
            · exact below_put9 (hB6.setCell (p := ⟨M, 7, none⟩) (by show w.heap.size ≤ M; omega) _) (by omega) _ _ _ _ _ _ _ _ _
    · rw [h2] at hc
      have H2 := h2
      clear h2
      have HA := Lib.hid (show askP D id waits = (wd0, 9) by simp [askP, H2])
      clear H1 H2
      refine hc.mono ?_
      clear hc
      rintro e w2 ⟨rfl, hb⟩
      have zb := zb.below hb zb.lt
      have hB := hB.trans (hb.mono hB.size)
      have ⟨j0, j1, j2, j3, j4, j5, j6, j7, j8⟩ := zb.c9
      have zf := zb.frz
      have l3 := zb.lt
      go_wp2
      refine bodyPost_ret (v := .tuple #[.agg #[.slice none 0 0, .int .i64 0, .int .i64 0, .int .i64 0, .int .i64 0, .slice none 0 0, .slice none 0 0, .slice none 0 0, .slice none 0 0], .int .i64 9]) (by simp only [results, Try.results32]; go_simp) rfl (askOut_no HA.out ?_)
      exact below_put9 hB (by omega) _ _ _ _ _ _ _ _ _
  · rw [h1] at hc
    have H1 := h1
    clear h1
    have HA := Lib.hid (show askP D id waits = (wd0, 9) by simp [askP, H1])
    clear H1
    refine hc.mono ?_
    clear hc
    rintro e w2 ⟨rfl, rfl⟩
    have ⟨j0, j1, j2, j3, j4, j5, j6, j7, j8⟩ := zb.c9
    have zf := zb.frz
    have l3 := zb.lt
    go_wp2
    refine bodyPost_ret (v := .tuple #[.agg #[.slice none 0 0, .int .i64 0, .int .i64 0, .int .i64 0, .int .i64 0, .slice none 0 0, .slice none 0 0, .slice none 0 0, .slice none 0 0], .int .i64 9]) (by simp only [results, Try.results32]; go_simp) rfl (askOut_no HA.out ?_)
    exact below_put9 hB (by omega) _ _ _ _ _ _ _ _ _
end Go.Proofs.Ytmcjgfoaiannoaa
