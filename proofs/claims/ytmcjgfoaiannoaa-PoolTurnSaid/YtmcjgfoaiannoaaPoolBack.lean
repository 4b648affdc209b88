/-
  pool.Back: what it makes of a world. Conditions: the length bounds that the reach pays.
-/
import Derived.Test.YtmcjgfoaiannoaaPoolAsk
import Derived.Deep.RegionLaw
namespace Go.Proofs.Ytmcjgfoaiannoaa
open Go.RowKit

def BackOut (D : WD) (id : Int) (w : World) (e : Ending) (w' : World) : Prop :=
  ∃ a' : WA, e = .returned (.tuple #[wV a' (backP D id).1, .int .i64 (backP D id).2.1, .int .i64 (backP D id).2.2]) ∧ OwW w' w.heap.size a' (backP D id).1 ∧ Below w.heap.size w w'
theorem backOut_no {D : WD} {id : Int} {w w' : World} {n k : Int} (h : backP D id = (wd0, n, k)) (hb : Below w.heap.size w w') :
    BackOut D id w (.returned (.tuple #[.agg #[.slice none 0 0, .int .i64 0, .int .i64 0, .int .i64 0, .int .i64 0, .slice none 0 0, .slice none 0 0, .slice none 0 0, .slice none 0 0], .int .i64 n, .int .i64 k])) w' := by
  unfold BackOut
  rw [h]
  exact ⟨wa0, rfl, OwW.nil_, hb⟩
theorem backOut_yes {D D' : WD} {id : Int} {w w' : World} {n k : Int} (h : backP D id = (D', n, k)) (a' : WA) (ho : OwW w' w.heap.size a' D') (hb : Below w.heap.size w w') :
    BackOut D id w (.returned (.tuple #[wV a' D', .int .i64 n, .int .i64 k])) w' := by
  unfold BackOut
  rw [h]
  exact ⟨a', rfl, ho, hb⟩

theorem Rd.tl {w : World} {B b off : Nat} {l qs : List Int} {x : Int} (h : Rd 1 encI w B (some ⟨b, off, none⟩) l) (hl : l = x :: qs) : Rd 1 encI w B (some ⟨b, off + 1, none⟩) qs := fun hlt => by
  subst hl
  obtain ⟨b', off', e, hb, hc⟩ := h (by simp)
  injection e with e
  injection e with e1 e2
  subst e1 e2
  refine ⟨b, off + 1, rfl, hb, fun i x hx j u hu => ?_⟩
  have := hc (i + 1) x (by simpa using hx) j u hu
  rwa [show off + (i + 1) * 1 + j = off + 1 + i * 1 + j by omega] at this
theorem OwI.cap {w : World} {B c : Nat} {A : Option Addr} {l : List Int} (h : OwI w B A c l) : l.length ≤ c := by
  obtain ⟨_, _, hs, hle, _⟩ := own_shape h
  injection hs with _ _ e
  omega
theorem backP_nil {D : WD} {id : Int} {i : Nat} (h : lastIdx (isOf id 2) D.l = some i) (h4 : D.q = []) : backP D id = ({ D with l := D.l.eraseIdx i }, -1, 0) := by simp [backP, h, h4]
theorem backP_full {D : WD} {id n : Int} {qs : List Int} {i : Nat} (h : lastIdx (isOf id 2) D.l = some i) (h4 : D.q = n :: qs) (h5 : D.m2 ≤ (countK (D.l.eraseIdx i) 2 : Int)) : backP D id = ({ D with l := D.l.eraseIdx i }, -1, 0) := by simp [backP, h, h4, h5]
theorem backP_ok {D : WD} {id n : Int} {qs : List Int} {i : Nat} (h : lastIdx (isOf id 2) D.l = some i) (h4 : D.q = n :: qs) (h5 : ¬ D.m2 ≤ (countK (D.l.eraseIdx i) 2 : Int)) : backP D id = ({ D with l := D.l.eraseIdx i ++ [(n, 2, -1)], q := qs }, n, 0) := by simp [backP, h, h4, h5]

set_option maxRecDepth 100000 in
set_option maxHeartbeats 4000000 in
theorem poolBack_any (a : WA) (D : WD) (id : Int) (w : World) (rr : RdW w w.heap.size a D) (hf : Fit D) :
    Calls Try.prog 34 #[.agg #[.slice a.A D.l.length a.c, .int .i64 D.m0, .int .i64 D.m1, .int .i64 D.m2, .int .i64 D.m3, .slice a.Ag D.g.length a.cg, .slice a.Af D.f.length a.cf, .slice a.Aq D.q.length a.cq, .slice a.Am D.m.length a.cm], .int .i64 id] w (BackOut D id w) := by
  have hfq := hf.q
  have hfl := hf.l
  go_enter Try.func34, Try.ntmps34
  obtain ⟨w0, hw0⟩ : ∃ w0, w0 = (w.alloc (.cells #[.slice a.A D.l.length a.c, .int .i64 D.m0, .int .i64 D.m1, .int .i64 D.m2, .int .i64 D.m3, .slice a.Ag D.g.length a.cg, .slice a.Af D.f.length a.cf, .slice a.Aq D.q.length a.cq, .slice a.Am D.m.length a.cm] 67)).alloc (.cells #[.slice none 0 0, .int .i64 0, .int .i64 0, .int .i64 0, .int .i64 0, .slice none 0 0, .slice none 0 0, .slice none 0 0, .slice none 0 0] 67) := ⟨_, rfl⟩
  have bb : Blk w0 w.heap.size 67 #[.slice a.A D.l.length a.c, .int .i64 D.m0, .int .i64 D.m1, .int .i64 D.m2, .int .i64 D.m3, .slice a.Ag D.g.length a.cg, .slice a.Af D.f.length a.cf, .slice a.Aq D.q.length a.cq, .slice a.Am D.m.length a.cm] := by rw [hw0]; exact (Blk.new _ _ _).alloc _
  have zb : Blk w0 (w.heap.size + 1) 67 #[.slice none 0 0, .int .i64 0, .int .i64 0, .int .i64 0, .int .i64 0, .slice none 0 0, .slice none 0 0, .slice none 0 0, .slice none 0 0] := by rw [hw0]; exact Blk.new' _ _ (by simp) _ _
  have hB : Below w.heap.size w w0 := by rw [hw0]; exact ((Below.refl _ w).alloc (Nat.le_refl _) _).alloc (by simp) _
  have rr := rr.up hB
  have ⟨k0, k1, k2, k3, k4, k5, k6, k7, k8⟩ := bb.c9
  go_wp2_with (go_at_call 23; refine Hid.out ?_)
  unfold Hid
  rw [← hw0]
  clear hw0
  have hc := give_own a.A a.c D.l D.m0 D.m1 D.m2 D.m3 id 2 w0 rr.l (by omega)
  rcases h1 : lastIdx (isOf id 2) D.l with _ | i
  · have hg : giveP (D.l, D.m0, D.m1, D.m2, D.m3) id 2 = (led0, 6) := by simp [giveP, h1]
    have HA := Lib.hid (show backP D id = (wd0, -1, 6) by simp [backP, h1])
    rw [hg] at hc
    clear hg h1
    refine hc.mono ?_
    clear hc
    rintro e w1 ⟨A1, c1, rfl, ol, hb⟩
    simp only [ledV, led0] at ol ⊢
    have zb := zb.below hb zb.lt
    have hB := hB.trans (hb.mono hB.size)
    clear k0 k1 k2 k3 k4 k5 k6 k7 k8
    have ⟨j0, j1, j2, j3, j4, j5, j6, j7, j8⟩ := zb.c9
    have zf := zb.frz
    have l3 := zb.lt
    go_wp2
    refine bodyPost_ret (v := .tuple #[.agg #[.slice none 0 0, .int .i64 0, .int .i64 0, .int .i64 0, .int .i64 0, .slice none 0 0, .slice none 0 0, .slice none 0 0, .slice none 0 0], .int .i64 (-1), .int .i64 6]) (by simp only [results, Try.results34]; go_simp) rfl (backOut_no HA.out ?_)
    exact (below_put9 hB (by omega) _ _ _ _ _ _ _ _ _).alloc (by rw [size_put9]; exact hB.size) _
  · have hg : giveP (D.l, D.m0, D.m1, D.m2, D.m3) id 2 = ((D.l.eraseIdx i, D.m0, D.m1, D.m2, D.m3), 0) := by simp [giveP, h1]
    have b1 := fun h4 => backP_nil (D := D) (id := id) h1 h4
    have b2 := fun n qs h4 h5 => backP_full (D := D) (id := id) (n := n) (qs := qs) h1 h4 h5
    have b3 := fun n qs h4 h5 => backP_ok (D := D) (id := id) (n := n) (qs := qs) h1 h4 h5
    have hgl := List.length_eraseIdx_le D.l i
    obtain ⟨G, hG⟩ : ∃ G, D.l.eraseIdx i = G := ⟨_, rfl⟩
    rw [hG] at hgl
    simp only [hG] at b1 b2 b3
    have B1 := Lib.hid b1
    have B2 := Lib.hid b2
    have B3 := Lib.hid b3
    clear b1 b2 b3
    rw [hg, hG] at hc
    clear hg h1 hG
    refine hc.mono ?_
    clear hc
    rintro e w1 ⟨A1, c1, rfl, ol, hb⟩
    simp only [ledV] at ol ⊢
    have bb := bb.below hb bb.lt
    have zb := zb.below hb zb.lt
    have ol := ol.more hB.size
    have rr := rr.up hb
    have hB := hB.trans (hb.mono hB.size)
    clear hb k0 k1 k2 k3 k4 k5 k6 k7 k8
    have ⟨k0, k1, k2, k3, k4, k5, k6, k7, k8⟩ := bb.c9
    have l1 := bb.lt
    have l3 := zb.lt
    obtain ⟨K, hK⟩ : ∃ K, K = w1.heap.size := ⟨_, rfl⟩
    obtain ⟨w2, hw2⟩ : ∃ w2, w2 = w1.alloc (.cells #[.slice A1 G.length c1, .int .i64 D.m0, .int .i64 D.m1, .int .i64 D.m2, .int .i64 D.m3] 25) := ⟨_, rfl⟩
    go_wp2_with (go_at_call 31; refine Hid.out ?_)
    unfold Hid
    rw [← hK, ← hw2]
    have lb : Blk w2 K 25 #[.slice A1 G.length c1, .int .i64 D.m0, .int .i64 D.m1, .int .i64 D.m2, .int .i64 D.m3] := by rw [hw2, hK]; exact Blk.new _ _ _
    have bb : Blk w2 w.heap.size 67 #[.slice a.A D.l.length a.c, .int .i64 D.m0, .int .i64 D.m1, .int .i64 D.m2, .int .i64 D.m3, .slice a.Ag D.g.length a.cg, .slice a.Af D.f.length a.cf, .slice a.Aq D.q.length a.cq, .slice a.Am D.m.length a.cm] := by rw [hw2]; exact bb.alloc _
    have zb : Blk w2 (w.heap.size + 1) 67 #[.slice none 0 0, .int .i64 0, .int .i64 0, .int .i64 0, .int .i64 0, .slice none 0 0, .slice none 0 0, .slice none 0 0, .slice none 0 0] := by rw [hw2]; exact zb.alloc _
    have rr : RdW w2 w2.heap.size a D := by rw [hw2]; exact (rr.alloc (Nat.le_refl _) _).more (by simp)
    have ol : Ow w2 w.heap.size A1 c1 G := by rw [hw2]; exact ol.alloc _
    have hB : Below w.heap.size w w2 := by rw [hw2]; exact hB.alloc hB.size _
    have lK : w.heap.size + 1 < K := by omega
    clear hw2 hK l1 l3 k0 k1 k2 k3 k4 k5 k6 k7 k8
    refine (poolOwn_any a D w2 rr hf).mono ?_
    rintro e w3 ⟨b, rfl, ow, ap, hb⟩
    have lb := lb.below hb lb.lt
    have bb := bb.below hb bb.lt
    have zb := zb.below hb zb.lt
    have ow := ow.more hB.size
    have ol := ol.below hb
    have hB := hB.trans (hb.mono hB.size)
    clear hb rr
    have ⟨j0, j1, j2, j3, j4, j5, j6, j7, j8⟩ := zb.c9
    have ⟨o0, o1, o2, o3, o4⟩ := lb.c5
    have zf := zb.frz
    have l1 := bb.lt
    have l3 := zb.lt
    have l4 := lb.lt
    have hd : OwW w3 w.heap.size ⟨A1, b.Ag, b.Af, b.Aq, b.Am, c1, b.cg, b.cf, b.cq, b.cm⟩ { D with l := G } := ⟨ol, ow.g, ow.f, ow.q, ow.m⟩
    by_cases h4 : D.q = []
    · have HA := Lib.hid (show backP D id = ({ D with l := G }, -1, 0) from B1.out h4)
      have hq1 : (((D.q.length : Nat) : Int) == 0) = true := by simp [h4]
      clear h4 B1 B2 B3
      go_wp2
      refine bodyPost_ret (v := .tuple #[.agg #[.slice A1 G.length c1, .int .i64 D.m0, .int .i64 D.m1, .int .i64 D.m2, .int .i64 D.m3, .slice b.Ag D.g.length b.cg, .slice b.Af D.f.length b.cf, .slice b.Aq D.q.length b.cq, .slice b.Am D.m.length b.cm], .int .i64 (-1), .int .i64 0]) (by simp only [results, Try.results34]; go_simp) rfl (backOut_yes HA.out ⟨A1, b.Ag, b.Af, b.Aq, b.Am, c1, b.cg, b.cf, b.cq, b.cm⟩ ?_ ?_)
      · exact (hd.put9 zb (by decide) (by decide) (by decide) _ _ _ _ _ _ _ _ _).alloc _
      · exact (below_put9 hB (by omega) _ _ _ _ _ _ _ _ _).alloc (by rw [size_put9]; exact hB.size) _
    · obtain ⟨n, qs, hq⟩ : ∃ n qs, D.q = n :: qs := by
        cases h : D.q with
        | nil => exact absurd h h4
        | cons n qs => exact ⟨n, qs, rfl⟩
      have b2 := B2.out n qs hq
      have b3 := B3.out n qs hq
      have hq1 : (((D.q.length : Nat) : Int) == 0) = false := by simp [hq]; omega
      have hq2 : 0 < D.q.length := by simp [hq]
      have HQ := Lib.hid hq
      clear h4 hq B1 B2 B3
      obtain ⟨M, hM⟩ : ∃ M, M = w3.heap.size := ⟨_, rfl⟩
      obtain ⟨qb, qo, x, eq1, hbq, hx, q0⟩ := hd.q.rd.atI hq2
      have q0' : w3.cell? ⟨qb, qo, none⟩ = some (.int .i64 x) := by simpa using q0
      obtain rfl : x = n := by simpa [HQ.out] using hx.symm
      clear hx q0
      simp only at eq1
      have hd : OwW w3 w.heap.size ⟨A1, b.Ag, b.Af, some ⟨qb, qo, none⟩, b.Am, c1, b.cg, b.cf, b.cq, b.cm⟩ { D with l := G } := by rw [← eq1]; exact hd
      obtain ⟨w4, hw4⟩ : ∃ w4, w4 = w3.alloc (.cells #[.slice A1 G.length c1, .int .i64 D.m0, .int .i64 D.m1, .int .i64 D.m2, .int .i64 D.m3, .slice b.Ag D.g.length b.cg, .slice b.Af D.f.length b.cf, .slice (some ⟨qb, qo, none⟩) D.q.length b.cq, .slice b.Am D.m.length b.cm] 67) := ⟨_, rfl⟩
      go_wp2_with (go_at_call 21; refine Hid.out ?_)
      unfold Hid
      rw [← hM, ← hw4]
      clear eq1 ow ap ol
      have ob : Blk w4 M 67 #[.slice A1 G.length c1, .int .i64 D.m0, .int .i64 D.m1, .int .i64 D.m2, .int .i64 D.m3, .slice b.Ag D.g.length b.cg, .slice b.Af D.f.length b.cf, .slice (some ⟨qb, qo, none⟩) D.q.length b.cq, .slice b.Am D.m.length b.cm] := by rw [hw4, hM]; exact Blk.new _ _ _
      have hd : OwW w4 w.heap.size ⟨A1, b.Ag, b.Af, some ⟨qb, qo, none⟩, b.Am, c1, b.cg, b.cf, b.cq, b.cm⟩ { D with l := G } := by rw [hw4]; exact hd.alloc _
      have zb : Blk w4 (w.heap.size + 1) 67 #[.slice none 0 0, .int .i64 0, .int .i64 0, .int .i64 0, .int .i64 0, .slice none 0 0, .slice none 0 0, .slice none 0 0, .slice none 0 0] := by rw [hw4]; exact zb.alloc _
      have hB : Below w.heap.size w w4 := by rw [hw4]; exact hB.alloc hB.size _
      have lM : w.heap.size + 1 < M := by omega
      clear hw4 hM j0 j1 j2 j3 j4 j5 j6 j7 j8 o0 o1 o2 o3 o4 l1 l3 l4 q0' hbq bb lb zf
      have hc := take_own A1 c1 G D.m0 D.m1 D.m2 D.m3 x 2 (-1) w4 hd.l.rd (by omega)
      by_cases h5 : D.m2 ≤ (countK G 2 : Int)
      · have HA := Lib.hid (b2 h5)
        have ht : takeP (G, D.m0, D.m1, D.m2, D.m3) x 2 (-1) = (led0, 8) := by simp [takeP, mostP, h5]
        rw [ht] at hc
        clear b2 b3 h5 ht
        refine hc.mono ?_
        clear hc
        rintro e w5 ⟨A2, c2, rfl, ol, hb⟩
        simp only [ledV, led0] at ol ⊢
        have ob := ob.below hb ob.lt
        have zb := zb.below hb zb.lt
        have hd := hd.below hb
        have hB := hB.trans (hb.mono hB.size)
        clear hb
        have ⟨j0, j1, j2, j3, j4, j5, j6, j7, j8⟩ := zb.c9
        have ⟨o0, o1, o2, o3, o4, o5, o6, o7, o8⟩ := ob.c9
        have zf := zb.frz
        have l3 := zb.lt
        have l4 := ob.lt
        go_wp2
        refine bodyPost_ret (v := .tuple #[.agg #[.slice A1 G.length c1, .int .i64 D.m0, .int .i64 D.m1, .int .i64 D.m2, .int .i64 D.m3, .slice b.Ag D.g.length b.cg, .slice b.Af D.f.length b.cf, .slice (some ⟨qb, qo, none⟩) D.q.length b.cq, .slice b.Am D.m.length b.cm], .int .i64 (-1), .int .i64 0]) (by simp only [results, Try.results34]; go_simp) rfl (backOut_yes HA.out ⟨A1, b.Ag, b.Af, some ⟨qb, qo, none⟩, b.Am, c1, b.cg, b.cf, b.cq, b.cm⟩ ?_ ?_)
        · exact (hd.put9 zb (by decide) (by decide) (by decide) _ _ _ _ _ _ _ _ _).alloc _
        · exact (below_put9 hB (by omega) _ _ _ _ _ _ _ _ _).alloc (by rw [size_put9]; exact hB.size) _
      · obtain ⟨L, hL⟩ : ∃ L, G ++ [(x, 2, -1)] = L := ⟨_, rfl⟩
        have HA := Lib.hid (b3 (by omega))
        rw [hL] at HA
        have ht : takeP (G, D.m0, D.m1, D.m2, D.m3) x 2 (-1) = ((G ++ [(x, 2, -1)], D.m0, D.m1, D.m2, D.m3), 0) := by simp [takeP, mostP, h5]
        rw [ht, hL] at hc
        clear b2 b3 h5 ht hL
        refine hc.mono ?_
        clear hc
        rintro e w5 ⟨A2, c2, rfl, ol, hb⟩
        simp only [ledV] at ol ⊢
        have ol := ol.more hB.size
        have ob := ob.below hb ob.lt
        have zb := zb.below hb zb.lt
        have hd := hd.below hb
        have hB := hB.trans (hb.mono hB.size)
        clear hb
        obtain ⟨P, hP⟩ : ∃ P, P = w5.heap.size := ⟨_, rfl⟩
        obtain ⟨w6, hw6⟩ : ∃ w6, w6 = w5.alloc (.cells #[.slice A2 L.length c2, .int .i64 D.m0, .int .i64 D.m1, .int .i64 D.m2, .int .i64 D.m3] 25) := ⟨_, rfl⟩
        have l4 := ob.lt
        have hz := hd.q.rd
        go_upto_region 11 with fail
        rw [← hP, ← hw6]
        have lb : Blk w6 P 25 #[.slice A2 L.length c2, .int .i64 D.m0, .int .i64 D.m1, .int .i64 D.m2, .int .i64 D.m3] := by rw [hw6, hP]; exact Blk.new _ _ _
        have ob : Blk w6 M 67 #[.slice A1 G.length c1, .int .i64 D.m0, .int .i64 D.m1, .int .i64 D.m2, .int .i64 D.m3, .slice b.Ag D.g.length b.cg, .slice b.Af D.f.length b.cf, .slice (some ⟨qb, qo, none⟩) D.q.length b.cq, .slice b.Am D.m.length b.cm] := by rw [hw6]; exact ob.alloc _
        have zb : Blk w6 (w.heap.size + 1) 67 #[.slice none 0 0, .int .i64 0, .int .i64 0, .int .i64 0, .int .i64 0, .slice none 0 0, .slice none 0 0, .slice none 0 0, .slice none 0 0] := by rw [hw6]; exact zb.alloc _
        have hd6 : OwW w5 w.heap.size ⟨A2, b.Ag, b.Af, some ⟨qb, qo, none⟩, b.Am, c2, b.cg, b.cf, b.cq, b.cm⟩ { D with l := L } := ⟨ol, hd.g, hd.f, hd.q, hd.m⟩
        have hd : OwW w6 w.heap.size ⟨A2, b.Ag, b.Af, some ⟨qb, qo, none⟩, b.Am, c2, b.cg, b.cf, b.cq, b.cm⟩ { D with l := L } := by rw [hw6]; exact hd6.alloc _
        clear hd6
        have hB : Below w.heap.size w w6 := by rw [hw6]; exact hB.alloc hB.size _
        have lP : M < P := by omega
        clear hw6 hP ol l4 hz
        have hcq : D.q.length ≤ b.cq := hd.q.cap
        by_cases hcap : b.cq = 1
        · have hqs : qs = [] := by have h9 := HQ.out; rw [h9] at hcq; simp at hcq; exact List.eq_nil_of_length_eq_zero (by omega)
          have hl1 : D.q.length = qs.length + 1 := by rw [HQ.out]; rfl
          have hnq : qs.length * 8 ≤ 140737488355328 := by omega
          have HLN := Lib.hid (show D.q.length - 1 = qs.length by omega)
          have HBA := Lib.hid (show Below w.heap.size w w6.drew from hB.drew)
          have HBB := Lib.hid (show Below w.heap.size w (World.setCell (World.setCell (World.setCell (World.setCell (World.setCell w6.drew ⟨M, 0, none⟩ (.slice A2 L.length c2)) ⟨M, 1, none⟩ (.int .i64 D.m0)) ⟨M, 2, none⟩ (.int .i64 D.m1)) ⟨M, 3, none⟩ (.int .i64 D.m2)) ⟨M, 4, none⟩ (.int .i64 D.m3)) from below_put5 hB.drew (by omega) _ _ _ _ _)
          have hdA : OwW w6.drew w.heap.size ⟨A2, b.Ag, b.Af, some ⟨qb, qo, none⟩, b.Am, c2, b.cg, b.cf, b.cq, b.cm⟩ { D with l := L } := ⟨hd.l, hd.g, hd.f, hd.q, hd.m⟩
          have obA : Blk w6.drew M 67 #[.slice A1 G.length c1, .int .i64 D.m0, .int .i64 D.m1, .int .i64 D.m2, .int .i64 D.m3, .slice b.Ag D.g.length b.cg, .slice b.Af D.f.length b.cf, .slice (some ⟨qb, qo, none⟩) D.q.length b.cq, .slice b.Am D.m.length b.cm] := ob
          have zbA : Blk w6.drew (w.heap.size + 1) 67 #[.slice none 0 0, .int .i64 0, .int .i64 0, .int .i64 0, .int .i64 0, .slice none 0 0, .slice none 0 0, .slice none 0 0, .slice none 0 0] := zb
          have hdB : OwW (World.setCell (World.setCell (World.setCell (World.setCell (World.setCell w6.drew ⟨M, 0, none⟩ (.slice A2 L.length c2)) ⟨M, 1, none⟩ (.int .i64 D.m0)) ⟨M, 2, none⟩ (.int .i64 D.m1)) ⟨M, 3, none⟩ (.int .i64 D.m2)) ⟨M, 4, none⟩ (.int .i64 D.m3)) w.heap.size ⟨A2, b.Ag, b.Af, some ⟨qb, qo, none⟩, b.Am, c2, b.cg, b.cf, b.cq, b.cm⟩ { D with l := L } := hdA.put5 obA (by decide) (by decide) (by decide) _ _ _ _ _
          have rtlA : Rd 1 encI w6.drew w6.drew.heap.size (some ⟨qb, qo, none⟩) qs := by rw [hqs]; exact Rd.nil_
          have rtlB : Rd 1 encI (World.setCell (World.setCell (World.setCell (World.setCell (World.setCell w6.drew ⟨M, 0, none⟩ (.slice A2 L.length c2)) ⟨M, 1, none⟩ (.int .i64 D.m0)) ⟨M, 2, none⟩ (.int .i64 D.m1)) ⟨M, 3, none⟩ (.int .i64 D.m2)) ⟨M, 4, none⟩ (.int .i64 D.m3)) (World.heap (World.setCell (World.setCell (World.setCell (World.setCell (World.setCell w6.drew ⟨M, 0, none⟩ (.slice A2 L.length c2)) ⟨M, 1, none⟩ (.int .i64 D.m0)) ⟨M, 2, none⟩ (.int .i64 D.m1)) ⟨M, 3, none⟩ (.int .i64 D.m2)) ⟨M, 4, none⟩ (.int .i64 D.m3))).size (some ⟨qb, qo, none⟩) qs := by rw [hqs]; exact Rd.nil_
          have obB := obA.put59 (.slice A2 L.length c2) (.int .i64 D.m0) (.int .i64 D.m1) (.int .i64 D.m2) (.int .i64 D.m3)
          have zbB := zbA.farP5 (g := M) (by omega) (.slice A2 L.length c2) (.int .i64 D.m0) (.int .i64 D.m1) (.int .i64 D.m2) (.int .i64 D.m3)
          have lbA : Blk w6.drew P 25 #[.slice A2 L.length c2, .int .i64 D.m0, .int .i64 D.m1, .int .i64 D.m2, .int .i64 D.m3] := lb
          have lbB := lbA.farP5 (g := M) (by omega) (.slice A2 L.length c2) (.int .i64 D.m0) (.int .i64 D.m1) (.int .i64 D.m2) (.int .i64 D.m3)
          have ⟨p0, p1, p2, p3, p4⟩ := lb.c5
          have ⟨o0, o1, o2, o3, o4, o5, o6, o7, o8⟩ := ob.c9
          have of_ := ob.frz
          have hne1 : ¬ P = M := by omega
          have hne2 : ¬ M = P := by omega
          clear hqs
          have hqi : (1 : Int) ≤ (D.q.length : Int) := by omega
          have hqc : (D.q.length : Int) ≤ (b.cq : Int) := by omega
          have l4 := ob.lt
          have l5 := lb.lt
          clear hl1 hd hB
          go_region_law (first
              | (go_simp
                 rw [HLN.out]
                 with_reducible refine (cloneI_any (some ⟨qb, qo, none⟩) 0 qs w6.drew rtlA hnq).mono ?_
                 rintro e w7 ⟨A3, c3, rfl, oq, hb⟩
                 have tagA : True := trivial
                 change OwI _ _ A3 c3 qs at oq
                 have ob7 := Blk.below (w := w6.drew) obA hb (by simp; omega)
                 have zb7 := Blk.below (w := w6.drew) zbA hb (by simp; omega)
                 have lb7 := Blk.below (w := w6.drew) lbA hb (by simp; omega)
                 have ⟨p0, p1, p2, p3, p4⟩ := lb7.c5
                 have hdd := OwW.below (w := w6.drew) hdA hb
                 have hB7 := HBA.out.trans (hb.mono HBA.out.size)
                 have hd7 : OwW w7 w.heap.size ⟨A2, b.Ag, b.Af, A3, b.Am, c2, b.cg, b.cf, c3, b.cm⟩ { D with l := L, q := qs } := ⟨hdd.l, hdd.g, hdd.f, oq.more HBA.out.size, hdd.m⟩
                 have ⟨j0, j1, j2, j3, j4, j5, j6, j7, j8⟩ := zb7.c9
                 have ⟨o0, o1, o2, o3, o4, o5, o6, o7, o8⟩ := ob7.c9
                 have zf := zb7.frz
                 have of_ := ob7.frz
                 have l8 := ob7.lt
                 have l9 := zb7.lt)
              | (go_simp
                 rw [HLN.out]
                 with_reducible refine (cloneI_any (some ⟨qb, qo, none⟩) 0 qs (World.setCell (World.setCell (World.setCell (World.setCell (World.setCell w6.drew ⟨M, 0, none⟩ (.slice A2 L.length c2)) ⟨M, 1, none⟩ (.int .i64 D.m0)) ⟨M, 2, none⟩ (.int .i64 D.m1)) ⟨M, 3, none⟩ (.int .i64 D.m2)) ⟨M, 4, none⟩ (.int .i64 D.m3)) rtlB hnq).mono ?_
                 rintro e w7 ⟨A3, c3, rfl, oq, hb⟩
                 have tagB : True := trivial
                 change OwI _ _ A3 c3 qs at oq
                 have ob7 := Blk.below (w := (World.setCell (World.setCell (World.setCell (World.setCell (World.setCell w6.drew ⟨M, 0, none⟩ (.slice A2 L.length c2)) ⟨M, 1, none⟩ (.int .i64 D.m0)) ⟨M, 2, none⟩ (.int .i64 D.m1)) ⟨M, 3, none⟩ (.int .i64 D.m2)) ⟨M, 4, none⟩ (.int .i64 D.m3))) obB hb (by simp; omega)
                 have zb7 := Blk.below (w := (World.setCell (World.setCell (World.setCell (World.setCell (World.setCell w6.drew ⟨M, 0, none⟩ (.slice A2 L.length c2)) ⟨M, 1, none⟩ (.int .i64 D.m0)) ⟨M, 2, none⟩ (.int .i64 D.m1)) ⟨M, 3, none⟩ (.int .i64 D.m2)) ⟨M, 4, none⟩ (.int .i64 D.m3))) zbB hb (by simp; omega)
                 have lb7 := Blk.below (w := (World.setCell (World.setCell (World.setCell (World.setCell (World.setCell w6.drew ⟨M, 0, none⟩ (.slice A2 L.length c2)) ⟨M, 1, none⟩ (.int .i64 D.m0)) ⟨M, 2, none⟩ (.int .i64 D.m1)) ⟨M, 3, none⟩ (.int .i64 D.m2)) ⟨M, 4, none⟩ (.int .i64 D.m3))) lbB hb (by simp; omega)
                 have ⟨p0, p1, p2, p3, p4⟩ := lb7.c5
                 have hdd := OwW.below (w := (World.setCell (World.setCell (World.setCell (World.setCell (World.setCell w6.drew ⟨M, 0, none⟩ (.slice A2 L.length c2)) ⟨M, 1, none⟩ (.int .i64 D.m0)) ⟨M, 2, none⟩ (.int .i64 D.m1)) ⟨M, 3, none⟩ (.int .i64 D.m2)) ⟨M, 4, none⟩ (.int .i64 D.m3))) hdB hb
                 have hB7 := HBB.out.trans (hb.mono HBB.out.size)
                 have hd7 : OwW w7 w.heap.size ⟨A2, b.Ag, b.Af, A3, b.Am, c2, b.cg, b.cf, c3, b.cm⟩ { D with l := L, q := qs } := ⟨hdd.l, hdd.g, hdd.f, oq.more HBB.out.size, hdd.m⟩
                 have ⟨j0, j1, j2, j3, j4, j5, j6, j7, j8⟩ := zb7.c9
                 have ⟨o0, o1, o2, o3, o4, o5, o6, o7, o8⟩ := ob7.c9
                 have zf := zb7.frz
                 have of_ := ob7.frz
                 have l8 := ob7.lt
                 have l9 := zb7.lt))
          all_goals
            simp only [Exit.then]
            go_wp2
            refine bodyPost_ret (v := .tuple #[.agg #[.slice A2 L.length c2, .int .i64 D.m0, .int .i64 D.m1, .int .i64 D.m2, .int .i64 D.m3, .slice b.Ag D.g.length b.cg, .slice b.Af D.f.length b.cf, .slice A3 qs.length c3, .slice b.Am D.m.length b.cm], .int .i64 x, .int .i64 0]) (by simp only [results, Try.results34]; go_simp) rfl (backOut_yes HA.out ⟨A2, b.Ag, b.Af, A3, b.Am, c2, b.cg, b.cf, c3, b.cm⟩ ?_ ?_)
            · exact ((hd7.put5 ob7 (by decide) (by decide) (by decide) _ _ _ _ _).set_ (i := 7) (ob7.put59 _ _ _ _ _) (by decide) (by decide) (by decide) _).put9 ((zb7.farP5 (by omega) _ _ _ _ _).far (p := ⟨M, 7, none⟩) (by show w.heap.size + 1 ≠ M; omega) _) (by decide) (by decide) (by decide) _ _ _ _ _ _ _ _ _
            · exact below_put9 ((below_put5 hB7 (by omega) _ _ _ _ _).setCell (p := ⟨M, 7, none⟩) (by show w.heap.size ≤ M; omega) _) (by omega) _ _ _ _ _ _ _ _ _
        · have hcap' : (2 : Int) ≤ b.cq := by omega
          have hl1 : D.q.length = qs.length + 1 := by rw [HQ.out]; rfl
          have hnq : qs.length * 8 ≤ 140737488355328 := by omega
          have HLN := Lib.hid (show D.q.length - 1 = qs.length by omega)
          have HBA := Lib.hid (show Below w.heap.size w w6.drew from hB.drew)
          have HBB := Lib.hid (show Below w.heap.size w (World.setCell (World.setCell (World.setCell (World.setCell (World.setCell w6.drew ⟨M, 0, none⟩ (.slice A2 L.length c2)) ⟨M, 1, none⟩ (.int .i64 D.m0)) ⟨M, 2, none⟩ (.int .i64 D.m1)) ⟨M, 3, none⟩ (.int .i64 D.m2)) ⟨M, 4, none⟩ (.int .i64 D.m3)) from below_put5 hB.drew (by omega) _ _ _ _ _)
          have hdA : OwW w6.drew w.heap.size ⟨A2, b.Ag, b.Af, some ⟨qb, qo, none⟩, b.Am, c2, b.cg, b.cf, b.cq, b.cm⟩ { D with l := L } := ⟨hd.l, hd.g, hd.f, hd.q, hd.m⟩
          have obA : Blk w6.drew M 67 #[.slice A1 G.length c1, .int .i64 D.m0, .int .i64 D.m1, .int .i64 D.m2, .int .i64 D.m3, .slice b.Ag D.g.length b.cg, .slice b.Af D.f.length b.cf, .slice (some ⟨qb, qo, none⟩) D.q.length b.cq, .slice b.Am D.m.length b.cm] := ob
          have zbA : Blk w6.drew (w.heap.size + 1) 67 #[.slice none 0 0, .int .i64 0, .int .i64 0, .int .i64 0, .int .i64 0, .slice none 0 0, .slice none 0 0, .slice none 0 0, .slice none 0 0] := zb
          have hdB : OwW (World.setCell (World.setCell (World.setCell (World.setCell (World.setCell w6.drew ⟨M, 0, none⟩ (.slice A2 L.length c2)) ⟨M, 1, none⟩ (.int .i64 D.m0)) ⟨M, 2, none⟩ (.int .i64 D.m1)) ⟨M, 3, none⟩ (.int .i64 D.m2)) ⟨M, 4, none⟩ (.int .i64 D.m3)) w.heap.size ⟨A2, b.Ag, b.Af, some ⟨qb, qo, none⟩, b.Am, c2, b.cg, b.cf, b.cq, b.cm⟩ { D with l := L } := hdA.put5 obA (by decide) (by decide) (by decide) _ _ _ _ _
          have rtlA : Rd 1 encI w6.drew w6.drew.heap.size (some ⟨qb, qo + 1, none⟩) qs := Rd.tl hdA.q.rd HQ.out
          have rtlB : Rd 1 encI (World.setCell (World.setCell (World.setCell (World.setCell (World.setCell w6.drew ⟨M, 0, none⟩ (.slice A2 L.length c2)) ⟨M, 1, none⟩ (.int .i64 D.m0)) ⟨M, 2, none⟩ (.int .i64 D.m1)) ⟨M, 3, none⟩ (.int .i64 D.m2)) ⟨M, 4, none⟩ (.int .i64 D.m3)) (World.heap (World.setCell (World.setCell (World.setCell (World.setCell (World.setCell w6.drew ⟨M, 0, none⟩ (.slice A2 L.length c2)) ⟨M, 1, none⟩ (.int .i64 D.m0)) ⟨M, 2, none⟩ (.int .i64 D.m1)) ⟨M, 3, none⟩ (.int .i64 D.m2)) ⟨M, 4, none⟩ (.int .i64 D.m3))).size (some ⟨qb, qo + 1, none⟩) qs := Rd.tl hdB.q.rd HQ.out
          have obB := obA.put59 (.slice A2 L.length c2) (.int .i64 D.m0) (.int .i64 D.m1) (.int .i64 D.m2) (.int .i64 D.m3)
          have zbB := zbA.farP5 (g := M) (by omega) (.slice A2 L.length c2) (.int .i64 D.m0) (.int .i64 D.m1) (.int .i64 D.m2) (.int .i64 D.m3)
          have lbA : Blk w6.drew P 25 #[.slice A2 L.length c2, .int .i64 D.m0, .int .i64 D.m1, .int .i64 D.m2, .int .i64 D.m3] := lb
          have lbB := lbA.farP5 (g := M) (by omega) (.slice A2 L.length c2) (.int .i64 D.m0) (.int .i64 D.m1) (.int .i64 D.m2) (.int .i64 D.m3)
          have ⟨p0, p1, p2, p3, p4⟩ := lb.c5
          have ⟨o0, o1, o2, o3, o4, o5, o6, o7, o8⟩ := ob.c9
          have of_ := ob.frz
          have hne1 : ¬ P = M := by omega
          have hne2 : ¬ M = P := by omega
          have hqi : (1 : Int) ≤ (D.q.length : Int) := by omega
          have hqc : (D.q.length : Int) ≤ (b.cq : Int) := by omega
          have l4 := ob.lt
          have l5 := lb.lt
          clear hl1 hd hB
          go_region_law (first
              | (go_simp
                 rw [HLN.out]
                 with_reducible refine (cloneI_any (some ⟨qb, qo + 1, none⟩) (b.cq - 1) qs w6.drew rtlA hnq).mono ?_
                 rintro e w7 ⟨A3, c3, rfl, oq, hb⟩
                 have tagA : True := trivial
                 change OwI _ _ A3 c3 qs at oq
                 have ob7 := Blk.below (w := w6.drew) obA hb (by simp; omega)
                 have zb7 := Blk.below (w := w6.drew) zbA hb (by simp; omega)
                 have lb7 := Blk.below (w := w6.drew) lbA hb (by simp; omega)
                 have ⟨p0, p1, p2, p3, p4⟩ := lb7.c5
                 have hdd := OwW.below (w := w6.drew) hdA hb
                 have hB7 := HBA.out.trans (hb.mono HBA.out.size)
                 have hd7 : OwW w7 w.heap.size ⟨A2, b.Ag, b.Af, A3, b.Am, c2, b.cg, b.cf, c3, b.cm⟩ { D with l := L, q := qs } := ⟨hdd.l, hdd.g, hdd.f, oq.more HBA.out.size, hdd.m⟩
                 have ⟨j0, j1, j2, j3, j4, j5, j6, j7, j8⟩ := zb7.c9
                 have ⟨o0, o1, o2, o3, o4, o5, o6, o7, o8⟩ := ob7.c9
                 have zf := zb7.frz
                 have of_ := ob7.frz
                 have l8 := ob7.lt
                 have l9 := zb7.lt)
              | (go_simp
                 rw [HLN.out]
                 with_reducible refine (cloneI_any (some ⟨qb, qo + 1, none⟩) (b.cq - 1) qs (World.setCell (World.setCell (World.setCell (World.setCell (World.setCell w6.drew ⟨M, 0, none⟩ (.slice A2 L.length c2)) ⟨M, 1, none⟩ (.int .i64 D.m0)) ⟨M, 2, none⟩ (.int .i64 D.m1)) ⟨M, 3, none⟩ (.int .i64 D.m2)) ⟨M, 4, none⟩ (.int .i64 D.m3)) rtlB hnq).mono ?_
                 rintro e w7 ⟨A3, c3, rfl, oq, hb⟩
                 have tagB : True := trivial
                 change OwI _ _ A3 c3 qs at oq
                 have ob7 := Blk.below (w := (World.setCell (World.setCell (World.setCell (World.setCell (World.setCell w6.drew ⟨M, 0, none⟩ (.slice A2 L.length c2)) ⟨M, 1, none⟩ (.int .i64 D.m0)) ⟨M, 2, none⟩ (.int .i64 D.m1)) ⟨M, 3, none⟩ (.int .i64 D.m2)) ⟨M, 4, none⟩ (.int .i64 D.m3))) obB hb (by simp; omega)
                 have zb7 := Blk.below (w := (World.setCell (World.setCell (World.setCell (World.setCell (World.setCell w6.drew ⟨M, 0, none⟩ (.slice A2 L.length c2)) ⟨M, 1, none⟩ (.int .i64 D.m0)) ⟨M, 2, none⟩ (.int .i64 D.m1)) ⟨M, 3, none⟩ (.int .i64 D.m2)) ⟨M, 4, none⟩ (.int .i64 D.m3))) zbB hb (by simp; omega)
                 have lb7 := Blk.below (w := (World.setCell (World.setCell (World.setCell (World.setCell (World.setCell w6.drew ⟨M, 0, none⟩ (.slice A2 L.length c2)) ⟨M, 1, none⟩ (.int .i64 D.m0)) ⟨M, 2, none⟩ (.int .i64 D.m1)) ⟨M, 3, none⟩ (.int .i64 D.m2)) ⟨M, 4, none⟩ (.int .i64 D.m3))) lbB hb (by simp; omega)
                 have ⟨p0, p1, p2, p3, p4⟩ := lb7.c5
                 have hdd := OwW.below (w := (World.setCell (World.setCell (World.setCell (World.setCell (World.setCell w6.drew ⟨M, 0, none⟩ (.slice A2 L.length c2)) ⟨M, 1, none⟩ (.int .i64 D.m0)) ⟨M, 2, none⟩ (.int .i64 D.m1)) ⟨M, 3, none⟩ (.int .i64 D.m2)) ⟨M, 4, none⟩ (.int .i64 D.m3))) hdB hb
                 have hB7 := HBB.out.trans (hb.mono HBB.out.size)
                 have hd7 : OwW w7 w.heap.size ⟨A2, b.Ag, b.Af, A3, b.Am, c2, b.cg, b.cf, c3, b.cm⟩ { D with l := L, q := qs } := ⟨hdd.l, hdd.g, hdd.f, oq.more HBB.out.size, hdd.m⟩
                 have ⟨j0, j1, j2, j3, j4, j5, j6, j7, j8⟩ := zb7.c9
                 have ⟨o0, o1, o2, o3, o4, o5, o6, o7, o8⟩ := ob7.c9
                 have zf := zb7.frz
                 have of_ := ob7.frz
                 have l8 := ob7.lt
                 have l9 := zb7.lt))
          all_goals
            simp only [Exit.then]
            go_wp2
            refine bodyPost_ret (v := .tuple #[.agg #[.slice A2 L.length c2, .int .i64 D.m0, .int .i64 D.m1, .int .i64 D.m2, .int .i64 D.m3, .slice b.Ag D.g.length b.cg, .slice b.Af D.f.length b.cf, .slice A3 qs.length c3, .slice b.Am D.m.length b.cm], .int .i64 x, .int .i64 0]) (by simp only [results, Try.results34]; go_simp) rfl (backOut_yes HA.out ⟨A2, b.Ag, b.Af, A3, b.Am, c2, b.cg, b.cf, c3, b.cm⟩ ?_ ?_)
            · exact ((hd7.put5 ob7 (by decide) (by decide) (by decide) _ _ _ _ _).set_ (i := 7) (ob7.put59 _ _ _ _ _) (by decide) (by decide) (by decide) _).put9 ((zb7.farP5 (by omega) _ _ _ _ _).far (p := ⟨M, 7, none⟩) (by show w.heap.size + 1 ≠ M; omega) _) (by decide) (by decide) (by decide) _ _ _ _ _ _ _ _ _
            · exact below_put9 ((below_put5 hB7 (by omega) _ _ _ _ _).setCell (p := ⟨M, 7, none⟩) (by show w.heap.size ≤ M; omega) _) (by omega) _ _ _ _ _ _ _ _ _
end Go.Proofs.Ytmcjgfoaiannoaa
