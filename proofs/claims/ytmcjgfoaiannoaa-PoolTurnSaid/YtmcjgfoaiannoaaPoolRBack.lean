/-
  The reference's PoolBack: what it makes of a world. Conditions: the length bounds that the reach pays.
-/
import Derived.Test.YtmcjgfoaiannoaaPoolBack
import Derived.Test.YtmcjgfoaiannoaaPoolRAsk
import Derived.Test.YtmcjgfoaiannoaaRefOwn
namespace Go.Proofs.Ytmcjgfoaiannoaa
open Go.RowKit

def RefBackOut (D : WD) (id : Int) (B : Nat) (w : World) (e : Ending) (w' : World) : Prop :=
  ∃ a' : WA, e = .returned (.tuple #[wV a' (backP D id).1, .int .i64 (backP D id).2.1, .int .i64 (backP D id).2.2]) ∧ HdW w' B a' (backP D id).1 ∧ Below w.heap.size w w'
theorem refBackOut_no {D : WD} {id : Int} {B : Nat} {w w' : World} {n k : Int} (h : backP D id = (wd0, n, k)) (hb : Below w.heap.size w w') :
    RefBackOut D id B w (.returned (.tuple #[.agg #[.slice none 0 0, .int .i64 0, .int .i64 0, .int .i64 0, .int .i64 0, .slice none 0 0, .slice none 0 0, .slice none 0 0, .slice none 0 0], .int .i64 n, .int .i64 k])) w' := by
  unfold RefBackOut
  rw [h]
  exact ⟨wa0, rfl, (OwW.nil_ (B := 0)).hd, hb⟩
theorem refBackOut_yes {D D' : WD} {id : Int} {B : Nat} {w w' : World} {n k : Int} (h : backP D id = (D', n, k)) (a' : WA) (ho : HdW w' B a' D') (hb : Below w.heap.size w w') :
    RefBackOut D id B w (.returned (.tuple #[wV a' D', .int .i64 n, .int .i64 k])) w' := by
  unfold RefBackOut
  rw [h]
  exact ⟨a', rfl, ho, hb⟩

theorem append_own0 (w : World) : (w.alloc (.cells #[] 3)).ownsRow w.heap.size 3 1 (.slice (some ⟨w.heap.size, 0, none⟩) 0 0) 0 [] :=
  ⟨rfl, .inr ⟨w.heap.size, 0, #[], rfl, Nat.le_refl _, heap_alloc_new _ _, Nat.le_refl _, by simp [maxLen], rfl, rfl⟩⟩
theorem append_below {w w7 : World} {H : Nat} (hs : w.heap.size = H) (hg : (w.alloc (.cells #[] 3)).grownBy w7 (Value.slice (some ⟨H, 0, none⟩) 0 0).ownBlock) : Below w.heap.size w w7 :=
  ((Below.refl _ w).alloc (Nat.le_refl _) _).grown hg (by simp) (fun g hg => by cases hg; show w.heap.size ≤ H; omega)
theorem append_src {w : World} {B : Nat} {A : Option Addr} {qs : List Int} (rd : Rd 1 encI w B A qs) (hB : B ≤ w.heap.size) : Reads (w.alloc (.cells #[] 3)) w.heap.size 1 A qs.length (qs.flatMap encI) :=
  ((rd.more hB).reads encI_len (by omega)).alloc (Nat.le_refl _) (.cells #[] 3)

set_option maxRecDepth 100000 in
set_option maxHeartbeats 1000000 in
theorem refBack_any (a : WA) (D : WD) (id : Int) (B : Nat) (w : World) (rr : RdW w B a D) (hBw : B ≤ w.heap.size) (hf : Fit D) (hcl : D.l.length ≤ a.c) (hcm : a.c ≤ maxLen) (hcq : D.q.length ≤ a.cq) :
    Calls Try.prog 35 #[.agg #[.slice a.A D.l.length a.c, .int .i64 D.m0, .int .i64 D.m1, .int .i64 D.m2, .int .i64 D.m3, .slice a.Ag D.g.length a.cg, .slice a.Af D.f.length a.cf, .slice a.Aq D.q.length a.cq, .slice a.Am D.m.length a.cm], .int .i64 id] w (RefBackOut D id B w) := by
  have hfq := hf.q
  have hfl := hf.l
  go_enter Try.func35, Try.ntmps35
  obtain ⟨w0, hw0⟩ : ∃ w0, w0 = (w.alloc (.cells #[.slice a.A D.l.length a.c, .int .i64 D.m0, .int .i64 D.m1, .int .i64 D.m2, .int .i64 D.m3, .slice a.Ag D.g.length a.cg, .slice a.Af D.f.length a.cf, .slice a.Aq D.q.length a.cq, .slice a.Am D.m.length a.cm] 67)).alloc (.cells #[.slice none 0 0, .int .i64 0, .int .i64 0, .int .i64 0, .int .i64 0, .slice none 0 0, .slice none 0 0, .slice none 0 0, .slice none 0 0] 67) := ⟨_, rfl⟩
  have bb : Blk w0 w.heap.size 67 #[.slice a.A D.l.length a.c, .int .i64 D.m0, .int .i64 D.m1, .int .i64 D.m2, .int .i64 D.m3, .slice a.Ag D.g.length a.cg, .slice a.Af D.f.length a.cf, .slice a.Aq D.q.length a.cq, .slice a.Am D.m.length a.cm] := by rw [hw0]; exact (Blk.new _ _ _).alloc _
  have zb : Blk w0 (w.heap.size + 1) 67 #[.slice none 0 0, .int .i64 0, .int .i64 0, .int .i64 0, .int .i64 0, .slice none 0 0, .slice none 0 0, .slice none 0 0, .slice none 0 0] := by rw [hw0]; exact Blk.new' _ _ (by simp) _ _
  have hB : Below w.heap.size w w0 := by rw [hw0]; exact ((Below.refl _ w).alloc (Nat.le_refl _) _).alloc (by simp) _
  have rr : RdW w0 B a D := rr.below hB hBw
  have ⟨k0, k1, k2, k3, k4, k5, k6, k7, k8⟩ := bb.c9
  go_wp2_with (go_at_call 24; refine Hid.out ?_)
  unfold Hid
  rw [← hw0]
  clear hw0
  have hc := refgive_own a.A a.c D.l D.m0 D.m1 D.m2 D.m3 id 2 w0 (rr.l.more (Nat.le_trans hBw hB.size)) (by omega) hcl hcm
  rcases h1 : lastIdx (isOf id 2) D.l with _ | i
  · have hg : giveP (D.l, D.m0, D.m1, D.m2, D.m3) id 2 = (led0, 6) := by simp [giveP, h1]
    have HA := Lib.hid (show backP D id = (wd0, -1, 6) by simp [backP, h1])
    unfold RefOwn at hc
    rw [hg] at hc
    clear hg h1
    refine hc.mono ?_
    clear hc
    rintro e w1 ⟨A1, c1, rfl, ol, hb⟩
    simp only [ledV, led0] at ol ⊢
    have zb := zb.below hb zb.lt
    have hB := hB.trans (hb.mono hB.size)
    clear k0 k1 k2 k3 k4 k5 k6 k7 k8
    have ⟨j0, j1, j2, j3, j4, j5, j6, j7, j8⟩ := zb.c9
    have zf := zb.frz
    have l3 := zb.lt
    go_wp2
    refine bodyPost_ret (v := .tuple #[.agg #[.slice none 0 0, .int .i64 0, .int .i64 0, .int .i64 0, .int .i64 0, .slice none 0 0, .slice none 0 0, .slice none 0 0, .slice none 0 0], .int .i64 (-1), .int .i64 6]) (by simp only [results, Try.results35]; go_simp) rfl (refBackOut_no HA.out ?_)
    exact (below_put9 hB (by omega) _ _ _ _ _ _ _ _ _).alloc (by rw [size_put9]; exact hB.size) _
  · have hg : giveP (D.l, D.m0, D.m1, D.m2, D.m3) id 2 = ((D.l.eraseIdx i, D.m0, D.m1, D.m2, D.m3), 0) := by simp [giveP, h1]
    have b1 := fun h4 => backP_nil (D := D) (id := id) h1 h4
    have b2 := fun n qs h4 h5 => backP_full (D := D) (id := id) (n := n) (qs := qs) h1 h4 h5
    have b3 := fun n qs h4 h5 => backP_ok (D := D) (id := id) (n := n) (qs := qs) h1 h4 h5
    have hgl := List.length_eraseIdx_le D.l i
    obtain ⟨G, hG⟩ : ∃ G, D.l.eraseIdx i = G := ⟨_, rfl⟩
    rw [hG] at hgl
    simp only [hG] at b1 b2 b3
    have B1 := Lib.hid b1
    have B2 := Lib.hid b2
    have B3 := Lib.hid b3
    clear b1 b2 b3
    unfold RefOwn at hc
    rw [hg, hG] at hc
    clear hg h1 hG
    refine hc.mono ?_
    clear hc
    rintro e w1 ⟨A1, c1, rfl, ol, hb⟩
    simp only [ledV] at ol ⊢
    have bb := bb.below hb bb.lt
    have zb := zb.below hb zb.lt
    have rr := rr.below hb (Nat.le_trans hBw hB.size)
    have hB := hB.trans (hb.mono hB.size)
    clear hb k0 k1 k2 k3 k4 k5 k6 k7 k8
    have ⟨k0, k1, k2, k3, k4, k5, k6, k7, k8⟩ := bb.c9
    have ⟨j0, j1, j2, j3, j4, j5, j6, j7, j8⟩ := zb.c9
    have kf := bb.frz
    have zf := zb.frz
    have l1 := bb.lt
    have l3 := zb.lt
    obtain ⟨K, hK⟩ : ∃ K, K = w1.heap.size := ⟨_, rfl⟩
    obtain ⟨wp, hwp⟩ : ∃ wp, wp = (World.setCell (World.setCell (World.setCell (World.setCell (World.setCell w1 ⟨w.heap.size, 0, none⟩ (.slice A1 G.length c1)) ⟨w.heap.size, 1, none⟩ (.int .i64 D.m0)) ⟨w.heap.size, 2, none⟩ (.int .i64 D.m1)) ⟨w.heap.size, 3, none⟩ (.int .i64 D.m2)) ⟨w.heap.size, 4, none⟩ (.int .i64 D.m3)) := ⟨_, rfl⟩
    obtain ⟨w2, hw2⟩ : ∃ w2, w2 = wp.alloc (.cells #[.slice A1 G.length c1, .int .i64 D.m0, .int .i64 D.m1, .int .i64 D.m2, .int .i64 D.m3] 25) := ⟨_, rfl⟩
    have hsp : wp.heap.size = w1.heap.size := by rw [hwp]; exact size_put5 _ _ _ _ _
    have bbp : Blk wp w.heap.size 67 #[.slice A1 G.length c1, .int .i64 D.m0, .int .i64 D.m1, .int .i64 D.m2, .int .i64 D.m3, .slice a.Ag D.g.length a.cg, .slice a.Af D.f.length a.cf, .slice a.Aq D.q.length a.cq, .slice a.Am D.m.length a.cm] := by rw [hwp]; exact bb.put59 _ _ _ _ _
    have zbp : Blk wp (w.heap.size + 1) 67 #[.slice none 0 0, .int .i64 0, .int .i64 0, .int .i64 0, .int .i64 0, .slice none 0 0, .slice none 0 0, .slice none 0 0, .slice none 0 0] := by rw [hwp]; exact zb.farP5 (by omega) _ _ _ _ _
    have hBp : Below w.heap.size w wp := by rw [hwp]; exact below_put5 hB (Nat.le_refl _) _ _ _ _ _
    have hdp : HdW wp B ⟨A1, a.Ag, a.Af, a.Aq, a.Am, c1, a.cg, a.cf, a.cq, a.cm⟩ { D with l := G } := by
      have h0 : HdW w1 B ⟨A1, a.Ag, a.Af, a.Aq, a.Am, c1, a.cg, a.cf, a.cq, a.cm⟩ { D with l := G } := ⟨.of_own ol, .of_rd rr.g (by omega), .of_rd rr.f (by omega), .of_rd rr.q (by omega), .of_rd rr.m (by omega)⟩
      rw [hwp]
      exact h0.put5 bb hBw (by decide) (by decide) (by decide) _ _ _ _ _
    have rrp : RdW wp B a D := by rw [hwp]; exact rr.put5 hBw _ _ _ _ _
    have lK : w.heap.size + 1 < K := by omega
    by_cases h4 : D.q = []
    · have HA := Lib.hid (show backP D id = ({ D with l := G }, -1, 0) from B1.out h4)
      have hq1 : (((D.q.length : Nat) : Int) == 0) = true := by simp [h4]
      clear h4 B1 B2 B3
      go_wp2
      rw [← hwp]
      refine bodyPost_ret (v := .tuple #[.agg #[.slice A1 G.length c1, .int .i64 D.m0, .int .i64 D.m1, .int .i64 D.m2, .int .i64 D.m3, .slice a.Ag D.g.length a.cg, .slice a.Af D.f.length a.cf, .slice a.Aq D.q.length a.cq, .slice a.Am D.m.length a.cm], .int .i64 (-1), .int .i64 0]) (by simp only [results, Try.results35]; go_simp) rfl (refBackOut_yes HA.out ⟨A1, a.Ag, a.Af, a.Aq, a.Am, c1, a.cg, a.cf, a.cq, a.cm⟩ ?_ ?_)
      · exact (hdp.put9 zbp (by omega) (by decide) (by decide) (by decide) _ _ _ _ _ _ _ _ _).alloc _
      · exact (below_put9 hBp (by omega) _ _ _ _ _ _ _ _ _).alloc (by rw [size_put9]; exact hBp.size) _
    · obtain ⟨n, qs, hq⟩ : ∃ n qs, D.q = n :: qs := by
        cases h : D.q with
        | nil => exact absurd h h4
        | cons n qs => exact ⟨n, qs, rfl⟩
      have b2 := B2.out n qs hq
      have b3 := B3.out n qs hq
      have hq1 : (((D.q.length : Nat) : Int) == 0) = false := by simp [hq]; omega
      have hq2 : 0 < D.q.length := by simp [hq]
      have HQ := Lib.hid hq
      clear h4 hq B1 B2 B3
      obtain ⟨qb, qo, x, eq1, hbq, hx, q0⟩ := rr.q.atI hq2
      have q0' : w1.cell? ⟨qb, qo, none⟩ = some (.int .i64 x) := by simpa using q0
      obtain rfl : x = n := by simpa [HQ.out] using hx.symm
      clear hx q0
      have hqne : ¬ qb = w.heap.size := by omega
      have hqlt : qb < w1.heap.size := by omega
      have hqn2 : ¬ qb = w1.heap.size := by omega
      rw [eq1] at k7 bbp hdp
      go_wp2_with (go_at_call 22; refine Hid.out ?_)
      unfold Hid
      rw [← hwp, ← hK, ← hw2]
      have lb : Blk w2 K 25 #[.slice A1 G.length c1, .int .i64 D.m0, .int .i64 D.m1, .int .i64 D.m2, .int .i64 D.m3] := by rw [hw2, hK, ← hsp]; exact Blk.new _ _ _
      have bb : Blk w2 w.heap.size 67 #[.slice A1 G.length c1, .int .i64 D.m0, .int .i64 D.m1, .int .i64 D.m2, .int .i64 D.m3, .slice a.Ag D.g.length a.cg, .slice a.Af D.f.length a.cf, .slice (some ⟨qb, qo, none⟩) D.q.length a.cq, .slice a.Am D.m.length a.cm] := by rw [hw2]; exact bbp.alloc _
      have zb : Blk w2 (w.heap.size + 1) 67 #[.slice none 0 0, .int .i64 0, .int .i64 0, .int .i64 0, .int .i64 0, .slice none 0 0, .slice none 0 0, .slice none 0 0, .slice none 0 0] := by rw [hw2]; exact zbp.alloc _
      have hd : HdW w2 B ⟨A1, a.Ag, a.Af, some ⟨qb, qo, none⟩, a.Am, c1, a.cg, a.cf, a.cq, a.cm⟩ { D with l := G } := by rw [hw2]; exact hdp.alloc _
      have rr : RdW w2 B a D := by rw [hw2]; exact rrp.alloc (by rw [hsp]; omega) _
      have hB : Below w.heap.size w w2 := by rw [hw2]; exact hBp.alloc hBp.size _
      rw [← eq1] at hd
      clear hw2 hwp hK k0 k1 k2 k3 k4 k5 k6 k7 k8 j0 j1 j2 j3 j4 j5 j6 j7 j8 l1 l3 kf zf q0' ol hbq bbp zbp hdp rrp hBp hsp
      have hc := reftake_own A1 c1 G D.m0 D.m1 D.m2 D.m3 x (-1) w2 hd.rd.l (by omega)
      by_cases h5 : D.m2 ≤ (countK G 2 : Int)
      · have HA := Lib.hid (b2 h5)
        have ht : takeP (G, D.m0, D.m1, D.m2, D.m3) x 2 (-1) = (led0, 8) := by simp [takeP, mostP, h5]
        rw [ht] at hc
        clear b2 b3 h5 ht
        refine hc.mono ?_
        clear hc
        rintro e w5 ⟨A2, c2, rfl, ol, hb⟩
        simp only [ledV, led0] at ol ⊢
        have bb := bb.below hb bb.lt
        have zb := zb.below hb zb.lt
        have lb := lb.below hb lb.lt
        have hd := hd.below hb
        have hB := hB.trans (hb.mono hB.size)
        clear hb rr
        have ⟨k0, k1, k2, k3, k4, k5, k6, k7, k8⟩ := bb.c9
        have ⟨j0, j1, j2, j3, j4, j5, j6, j7, j8⟩ := zb.c9
        have zf := zb.frz
        have lf := lb.frz
        have ⟨p0, p1, p2, p3, p4⟩ := lb.c5
        have l1 := bb.lt
        have l3 := zb.lt
        have l4 := lb.lt
        have hne1 : ¬ K = w.heap.size := by omega
        have hne2 : ¬ K = w.heap.size + 1 := by omega
        rw [eq1] at hd
        go_wp2
        refine bodyPost_ret (v := .tuple #[.agg #[.slice A1 G.length c1, .int .i64 D.m0, .int .i64 D.m1, .int .i64 D.m2, .int .i64 D.m3, .slice a.Ag D.g.length a.cg, .slice a.Af D.f.length a.cf, .slice (some ⟨qb, qo, none⟩) D.q.length a.cq, .slice a.Am D.m.length a.cm], .int .i64 (-1), .int .i64 0]) (by simp only [results, Try.results35]; go_simp) rfl (refBackOut_yes HA.out ⟨A1, a.Ag, a.Af, some ⟨qb, qo, none⟩, a.Am, c1, a.cg, a.cf, a.cq, a.cm⟩ ?_ ?_)
        · exact (hd.put5 lb (by omega) (by decide) (by decide) (by decide) _ _ _ _ _).put9 (zb.farP5 (by omega) _ _ _ _ _) (by omega) (by decide) (by decide) (by decide) _ _ _ _ _ _ _ _ _
        · exact below_put9 (below_put5 hB (by omega) _ _ _ _ _) (by omega) _ _ _ _ _ _ _ _ _
      · obtain ⟨L, hL⟩ : ∃ L, G ++ [(x, 2, -1)] = L := ⟨_, rfl⟩
        have HA := Lib.hid (b3 (by omega))
        rw [hL] at HA
        have ht : takeP (G, D.m0, D.m1, D.m2, D.m3) x 2 (-1) = ((G ++ [(x, 2, -1)], D.m0, D.m1, D.m2, D.m3), 0) := by simp [takeP, mostP, h5]
        rw [ht, hL] at hc
        clear b2 b3 h5 ht hL
        refine hc.mono ?_
        clear hc
        rintro e w5 ⟨A2, c2, rfl, ol, hb⟩
        simp only [ledV] at ol ⊢
        have bb := bb.below hb bb.lt
        have zb := zb.below hb zb.lt
        have lb := lb.below hb lb.lt
        have rr := rr.below hb (Nat.le_trans hBw hB.size)
        have hB := hB.trans (hb.mono hB.size)
        clear hb hd
        have ⟨k0, k1, k2, k3, k4, k5, k6, k7, k8⟩ := bb.c9
        have ⟨j0, j1, j2, j3, j4, j5, j6, j7, j8⟩ := zb.c9
        have zf := zb.frz
        have lf := lb.frz
        have ⟨p0, p1, p2, p3, p4⟩ := lb.c5
        have l1 := bb.lt
        have l3 := zb.lt
        have l4 := lb.lt
        have hne1 : ¬ K = w.heap.size := by omega
        have hne2 : ¬ K = w.heap.size + 1 := by omega
        obtain ⟨w6, hw6⟩ : ∃ w6, w6 = (World.setCell (World.setCell (World.setCell (World.setCell (World.setCell w5 ⟨K, 0, none⟩ (.slice A2 L.length c2)) ⟨K, 1, none⟩ (.int .i64 D.m0)) ⟨K, 2, none⟩ (.int .i64 D.m1)) ⟨K, 3, none⟩ (.int .i64 D.m2)) ⟨K, 4, none⟩ (.int .i64 D.m3)) := ⟨_, rfl⟩
        go_upto_region 11 with fail
        rw [← hw6]
        have hd : HdW w6 B ⟨A2, a.Ag, a.Af, a.Aq, a.Am, c2, a.cg, a.cf, a.cq, a.cm⟩ { D with l := L } := by
          have h0 : HdW w5 B ⟨A2, a.Ag, a.Af, a.Aq, a.Am, c2, a.cg, a.cf, a.cq, a.cm⟩ { D with l := L } := ⟨.of_own ol, .of_rd rr.g (by omega), .of_rd rr.f (by omega), .of_rd rr.q (by omega), .of_rd rr.m (by omega)⟩
          rw [hw6]
          exact h0.put5 lb (by omega) (by decide) (by decide) (by decide) _ _ _ _ _
        have rq : Rd 1 encI w6 B (some ⟨qb, qo, none⟩) D.q := by rw [hw6, ← eq1]; exact (rr.put5 (by omega) _ _ _ _ _).q
        have BB_ : Blk w6 w.heap.size 67 #[.slice A1 G.length c1, .int .i64 D.m0, .int .i64 D.m1, .int .i64 D.m2, .int .i64 D.m3, .slice a.Ag D.g.length a.cg, .slice a.Af D.f.length a.cf, .slice (some ⟨qb, qo, none⟩) D.q.length a.cq, .slice a.Am D.m.length a.cm] := by rw [hw6]; exact bb.farP5 (by omega) _ _ _ _ _
        have BB := Lib.hid (show Blk w6.drew w.heap.size 67 #[.slice A1 G.length c1, .int .i64 D.m0, .int .i64 D.m1, .int .i64 D.m2, .int .i64 D.m3, .slice a.Ag D.g.length a.cg, .slice a.Af D.f.length a.cf, .slice (some ⟨qb, qo, none⟩) D.q.length a.cq, .slice a.Am D.m.length a.cm] from BB_)
        have ZB_ : Blk w6 (w.heap.size + 1) 67 #[.slice none 0 0, .int .i64 0, .int .i64 0, .int .i64 0, .int .i64 0, .slice none 0 0, .slice none 0 0, .slice none 0 0, .slice none 0 0] := by rw [hw6]; exact zb.farP5 (by omega) _ _ _ _ _
        have ZB := Lib.hid (show Blk w6.drew (w.heap.size + 1) 67 #[.slice none 0 0, .int .i64 0, .int .i64 0, .int .i64 0, .int .i64 0, .slice none 0 0, .slice none 0 0, .slice none 0 0, .slice none 0 0] from ZB_)
        have LB_ : Blk w6 K 25 #[.slice A2 L.length c2, .int .i64 D.m0, .int .i64 D.m1, .int .i64 D.m2, .int .i64 D.m3] := by rw [hw6]; exact lb.put5 _ _ _ _ _
        have LB := Lib.hid (show Blk w6.drew K 25 #[.slice A2 L.length c2, .int .i64 D.m0, .int .i64 D.m1, .int .i64 D.m2, .int .i64 D.m3] from LB_)
        have hB : Below w.heap.size w w6 := by rw [hw6]; exact below_put5 hB (by omega) _ _ _ _ _
        have HD := Lib.hid (show HdW w6.drew B ⟨A2, a.Ag, a.Af, a.Aq, a.Am, c2, a.cg, a.cf, a.cq, a.cm⟩ { D with l := L } from ⟨hd.l, hd.g, hd.f, hd.q, hd.m⟩)
        have HB := Lib.hid (show Below w.heap.size w w6.drew from hB.drew)
        clear p0 p1 p2 p3 p4 hw6 k0 k1 k2 k3 k4 k5 k6 k7 k8 j0 j1 j2 j3 j4 j5 j6 j7 j8 zf lf l1 l3 l4 ol rr bb zb lb hd ZB_
        obtain ⟨i0', hi, hz0, hz1, hz2⟩ := info_parts infoI
        have OW0 := Lib.hid (append_own0 w6.drew)
        have hl1 : D.q.length = qs.length + 1 := by rw [HQ.out]; rfl
        have hnq : qs.length * 8 ≤ 140737488355328 := by omega
        have HLN := Lib.hid (show D.q.length - 1 = qs.length by omega)
        have hqi : (1 : Int) ≤ (D.q.length : Int) := by omega
        have hqc : (D.q.length : Int) ≤ (a.cq : Int) := by omega
        have ⟨k0, k1, k2, k3, k4, k5, k6, k7, k8⟩ := BB_.c9
        have ⟨p0, p1, p2, p3, p4⟩ := LB_.c5
        have kf := BB_.frz
        have l8 := BB_.lt
        have l7 := LB_.lt
        clear BB_ LB_
        clear hl1
        by_cases hcap : a.cq = 1
        · have hqs : qs = [] := by have h9 := HQ.out; rw [h9] at hcq; simp at hcq; exact List.eq_nil_of_length_eq_zero (by omega)
          have rtl : Rd 1 encI w6 B (some ⟨qb, qo, none⟩) qs := by rw [hqs]; exact Rd.nil_
          have RS := Lib.hid (append_src (w := w6.drew) rtl (Nat.le_trans hBw hB.size))
          go_region_law ((refine step_append_any _ (by rfl) (.tmp 42) (.tmp 45) 44 (by rfl) w6.heap.size 3 i0' _ 1 8 Try.underlying44 hi hz0 hz1 hz2 rfl (by omega) _ 0 [] (by rfl) OW0.out w6.heap.size (some ⟨qb, qo, none⟩) qs.length (0) _ (by simp only [HLN.out]; rfl) RS.out (encI_one qs) (by simp only [maxLen]; omega) (by omega) (by simp) ?_
                          intro v7 w7 own7 hg7 hat7
                          simp only [Nat.zero_add, List.nil_append] at own7
                          obtain ⟨A7, c7, rfl, _, _⟩ := own_shape own7
                          have hb := append_below (w := w6.drew) rfl hg7
                          have bb := Blk.below (w := w6.drew) BB.out hb BB.out.lt
                          have zb := Blk.below (w := w6.drew) ZB.out hb ZB.out.lt
                          have lb := Blk.below (w := w6.drew) LB.out hb LB.out.lt
                          have hd := HdW.below (w := w6.drew) HD.out hb
                          have hB7 := HB.out.trans (hb.mono HB.out.size)
                          have hd7 : HdW w7 B ⟨A2, a.Ag, a.Af, A7, a.Am, c2, a.cg, a.cf, c7, a.cm⟩ { D with l := L, q := qs } := ⟨hd.l, hd.g, hd.f, Hd.of_own own7, hd.m⟩
                          have ⟨p0, p1, p2, p3, p4⟩ := lb.c5
                          have ⟨j0, j1, j2, j3, j4, j5, j6, j7, j8⟩ := zb.c9
                          have ⟨k0, k1, k2, k3, k4, k5, k6, k7, k8⟩ := bb.c9
                          have kf := bb.frz
                          have zf := zb.frz
                          have l8 := bb.lt
                          have l9 := zb.lt))
          all_goals
            simp only [Exit.then]
            go_wp2
            refine bodyPost_ret (v := .tuple #[.agg #[.slice A2 L.length c2, .int .i64 D.m0, .int .i64 D.m1, .int .i64 D.m2, .int .i64 D.m3, .slice a.Ag D.g.length a.cg, .slice a.Af D.f.length a.cf, .slice A7 qs.length c7, .slice a.Am D.m.length a.cm], .int .i64 x, .int .i64 0]) (by simp only [results, Try.results35]; go_simp) rfl (refBackOut_yes HA.out ⟨A2, a.Ag, a.Af, A7, a.Am, c2, a.cg, a.cf, c7, a.cm⟩ ?_ ?_)
            · exact ((hd7.put5 bb hBw (by decide) (by decide) (by decide) _ _ _ _ _).set_ (i := 7) (bb.put59 _ _ _ _ _) hBw (by decide) (by decide) (by decide) _).put9 ((zb.farP5 (by omega) _ _ _ _ _).far (p := ⟨w.heap.size, 7, none⟩) (by show w.heap.size + 1 ≠ w.heap.size; omega) _) (by omega) (by decide) (by decide) (by decide) _ _ _ _ _ _ _ _ _
            · exact below_put9 ((below_put5 hB7 (Nat.le_refl _) _ _ _ _ _).setCell (p := ⟨w.heap.size, 7, none⟩) (Nat.le_refl _) _) (by omega) _ _ _ _ _ _ _ _ _
        · have hcap' : (2 : Int) ≤ a.cq := by omega
          have rtl : Rd 1 encI w6 B (some ⟨qb, qo + 1, none⟩) qs := Rd.tl rq HQ.out
          have RS := Lib.hid (append_src (w := w6.drew) rtl (Nat.le_trans hBw hB.size))
          go_region_law ((refine step_append_any _ (by rfl) (.tmp 42) (.tmp 45) 44 (by rfl) w6.heap.size 3 i0' _ 1 8 Try.underlying44 hi hz0 hz1 hz2 rfl (by omega) _ 0 [] (by rfl) OW0.out w6.heap.size (some ⟨qb, qo + 1, none⟩) qs.length (a.cq - 1) _ (by simp only [HLN.out]; rfl) RS.out (encI_one qs) (by simp only [maxLen]; omega) (by omega) (by simp) ?_
                          intro v7 w7 own7 hg7 hat7
                          simp only [Nat.zero_add, List.nil_append] at own7
                          obtain ⟨A7, c7, rfl, _, _⟩ := own_shape own7
                          have hb := append_below (w := w6.drew) rfl hg7
                          have bb := Blk.below (w := w6.drew) BB.out hb BB.out.lt
                          have zb := Blk.below (w := w6.drew) ZB.out hb ZB.out.lt
                          have lb := Blk.below (w := w6.drew) LB.out hb LB.out.lt
                          have hd := HdW.below (w := w6.drew) HD.out hb
                          have hB7 := HB.out.trans (hb.mono HB.out.size)
                          have hd7 : HdW w7 B ⟨A2, a.Ag, a.Af, A7, a.Am, c2, a.cg, a.cf, c7, a.cm⟩ { D with l := L, q := qs } := ⟨hd.l, hd.g, hd.f, Hd.of_own own7, hd.m⟩
                          have ⟨p0, p1, p2, p3, p4⟩ := lb.c5
                          have ⟨j0, j1, j2, j3, j4, j5, j6, j7, j8⟩ := zb.c9
                          have ⟨k0, k1, k2, k3, k4, k5, k6, k7, k8⟩ := bb.c9
                          have kf := bb.frz
                          have zf := zb.frz
                          have l8 := bb.lt
                          have l9 := zb.lt))
          all_goals
            simp only [Exit.then]
            go_wp2
            refine bodyPost_ret (v := .tuple #[.agg #[.slice A2 L.length c2, .int .i64 D.m0, .int .i64 D.m1, .int .i64 D.m2, .int .i64 D.m3, .slice a.Ag D.g.length a.cg, .slice a.Af D.f.length a.cf, .slice A7 qs.length c7, .slice a.Am D.m.length a.cm], .int .i64 x, .int .i64 0]) (by simp only [results, Try.results35]; go_simp) rfl (refBackOut_yes HA.out ⟨A2, a.Ag, a.Af, A7, a.Am, c2, a.cg, a.cf, c7, a.cm⟩ ?_ ?_)
            · exact ((hd7.put5 bb hBw (by decide) (by decide) (by decide) _ _ _ _ _).set_ (i := 7) (bb.put59 _ _ _ _ _) hBw (by decide) (by decide) (by decide) _).put9 ((zb.farP5 (by omega) _ _ _ _ _).far (p := ⟨w.heap.size, 7, none⟩) (by show w.heap.size + 1 ≠ w.heap.size; omega) _) (by omega) (by decide) (by decide) (by decide) _ _ _ _ _ _ _ _ _
            · exact below_put9 ((below_put5 hB7 (Nat.le_refl _) _ _ _ _ _).setCell (p := ⟨w.heap.size, 7, none⟩) (Nat.le_refl _) _) (by omega) _ _ _ _ _ _ _ _ _
end Go.Proofs.Ytmcjgfoaiannoaa
