/-
  PoolTells: the walk. Conditions: the length bounds that the reach pays.
-/
import Derived.Test.YtmcjgfoaiannoaaPoolRBack
import Derived.Test.YtmcjgfoaiannoaaPoolSame
import Derived.Test.YtmcjgfoaiannoaaAllWalk
import Derived.Deep.RegionHeld3
import Derived.Deep.DeepCutAuto
namespace Go.Proofs.Ytmcjgfoaiannoaa
open Go.RowKit

/-- bounds with room for one more -/
structure Wide (D : WD) : Prop where
  l : D.l.length * 24 + 4096 ≤ 140737488355328
  g : D.g.length * 8 ≤ 140737488355328
  f : D.f.length * 8 ≤ 140737488355328
  q : D.q.length * 8 + 4096 ≤ 140737488355328
  m : D.m.length * 24 ≤ 140737488355328
theorem Wide.fit {D : WD} (h : Wide D) : Fit D := ⟨by have := h.l; omega, h.g, h.f, by have := h.q; omega, h.m⟩
theorem Fit.wd0 : Fit wd0 := ⟨by simp [_root_.Go.Proofs.Ytmcjgfoaiannoaa.wd0], by simp [_root_.Go.Proofs.Ytmcjgfoaiannoaa.wd0], by simp [_root_.Go.Proofs.Ytmcjgfoaiannoaa.wd0], by simp [_root_.Go.Proofs.Ytmcjgfoaiannoaa.wd0], by simp [_root_.Go.Proofs.Ytmcjgfoaiannoaa.wd0]⟩
theorem Wide.ask {D : WD} (h : Wide D) (id waits : Int) : Fit (askP D id waits).1 := by
  obtain ⟨h1, h2, h3, h4, h5⟩ := h
  unfold askP
  repeat' split
  · exact Fit.wd0
  · exact Fit.wd0
  · exact ⟨by simp; omega, h2, h3, by simp; omega, h5⟩
  · exact ⟨by simp; omega, h2, h3, by simp; omega, h5⟩
theorem Wide.back {D : WD} (h : Wide D) (id : Int) : Fit (backP D id).1 := by
  obtain ⟨h1, h2, h3, h4, h5⟩ := h
  unfold backP
  split
  · exact Fit.wd0
  · rename_i i _
    have hl := List.length_eraseIdx_le D.l i
    split
    · exact ⟨by simp only; omega, h2, h3, by simp only; omega, h5⟩
    · rename_i n qs hq
      rw [hq] at h4
      simp at h4
      split
      · exact ⟨by simp only; omega, h2, h3, by simp only [hq]; simp; omega, h5⟩
      · exact ⟨by simp; omega, h2, h3, by simp only; omega, h5⟩

set_option maxRecDepth 100000 in
set_option maxHeartbeats 4000000 in
theorem poolTells_walk (a : WA) (D : WD) (id waits : Int) (w : World) (rr : RdW w w.heap.size a D) (hw : Wide D) (hcl : D.l.length ≤ a.c) (hcm : a.c ≤ maxLen) (hcq : D.q.length ≤ a.cq) :
    Calls Try.prog 8 #[.agg #[.slice a.A D.l.length a.c, .int .i64 D.m0, .int .i64 D.m1, .int .i64 D.m2, .int .i64 D.m3, .slice a.Ag D.g.length a.cg, .slice a.Af D.f.length a.cf, .slice a.Aq D.q.length a.cq, .slice a.Am D.m.length a.cm], .int .i64 id, .int .i64 waits] w fun e w' => e = .returned (.bool true) ∧ Below w.heap.size w w' := by
  go_enter Try.func8, Try.ntmps8
  have hf := hw.fit
  have hfa := hw.ask id waits
  have hfb := hw.back id
  clear hw
  obtain ⟨w0, hw0⟩ : ∃ w0, w0 = w.alloc (.cells #[.slice a.A D.l.length a.c, .int .i64 D.m0, .int .i64 D.m1, .int .i64 D.m2, .int .i64 D.m3, .slice a.Ag D.g.length a.cg, .slice a.Af D.f.length a.cf, .slice a.Aq D.q.length a.cq, .slice a.Am D.m.length a.cm] 67) := ⟨_, rfl⟩
  have bb : Blk w0 w.heap.size 67 #[.slice a.A D.l.length a.c, .int .i64 D.m0, .int .i64 D.m1, .int .i64 D.m2, .int .i64 D.m3, .slice a.Ag D.g.length a.cg, .slice a.Af D.f.length a.cf, .slice a.Aq D.q.length a.cq, .slice a.Am D.m.length a.cm] := by rw [hw0]; exact Blk.new _ _ _
  have hB : Below w.heap.size w w0 := by rw [hw0]; exact (Below.refl _ w).alloc (Nat.le_refl _) _
  have ro := rr
  have rr := rr.up hB
  have ⟨k0, k1, k2, k3, k4, k5, k6, k7, k8⟩ := bb.c9
  go_upto_region 1 with fail
  rw [← hw0]
  clear hw0
  have ow : True := trivial
  go_region_held3 (fun wx => wx.cell? ⟨w.heap.size, 0, none⟩ = some (.slice a.A D.l.length a.c) ∧ wx.cell? ⟨w.heap.size, 1, none⟩ = some (.int .i64 D.m0) ∧ wx.cell? ⟨w.heap.size, 2, none⟩ = some (.int .i64 D.m1) ∧ wx.cell? ⟨w.heap.size, 3, none⟩ = some (.int .i64 D.m2) ∧ wx.cell? ⟨w.heap.size, 4, none⟩ = some (.int .i64 D.m3) ∧ wx.cell? ⟨w.heap.size, 5, none⟩ = some (.slice a.Ag D.g.length a.cg) ∧ wx.cell? ⟨w.heap.size, 6, none⟩ = some (.slice a.Af D.f.length a.cf) ∧ wx.cell? ⟨w.heap.size, 7, none⟩ = some (.slice a.Aq D.q.length a.cq) ∧ wx.cell? ⟨w.heap.size, 8, none⟩ = some (.slice a.Am D.m.length a.cm)) (exact ⟨k0, k1, k2, k3, k4, k5, k6, k7, k8⟩)
    (first
    | (go_at_call 31
       with_reducible refine (poolOwn_any a D _ ?_ ?_).mono ?_
       · exact ⟨rr.l, rr.g, rr.f, rr.q, rr.m⟩
       · exact hf
       rintro e w' ⟨b, rfl, ow, ap, hb⟩
       repeat (have hb := below_undrew' hb)
       have bb := bb.below hb bb.lt
       have rr := rr.up hb
       have hB := hB.trans (hb.mono hB.size)
       have ⟨k0, k1, k2, k3, k4, k5, k6, k7, k8⟩ := bb.c9)
    | (go_at_call 30
       with_reducible refine (sameWorld_any b a D _ ?_ ?_ ?_).mono ?_
       · exact ⟨ow.rd.l, ow.rd.g, ow.rd.f, ow.rd.q, ow.rd.m⟩
       · exact ⟨rr.l, rr.g, rr.f, rr.q, rr.m⟩
       · exact hf
       rintro e w' ⟨rfl, hb⟩
       repeat (have hb := below_undrew' hb)
       have bb := bb.below hb bb.lt
       have rr := rr.up hb
       have hB := hB.trans (hb.mono hB.size)
       have ⟨k0, k1, k2, k3, k4, k5, k6, k7, k8⟩ := bb.c9))
  simp only [Exit.then]
  clear ow ap hb k0 k1 k2 k3 k4 k5 k6 k7 k8
  have ⟨k0, k1, k2, k3, k4, k5, k6, k7, k8⟩ := bb.c9
  have l1 := bb.lt
  go_wp2_with (go_at_call 32; refine Hid.out ?_)
  unfold Hid
  refine (poolAsk_any a D id waits _ ⟨rr.l, rr.g, rr.f, rr.q, rr.m⟩ hf).mono ?_
  rintro e w1 ⟨a1, rfl, o1, hb⟩
  repeat (have hb := below_undrew' hb)
  have bb := bb.below hb bb.lt
  have hB := hB.trans (hb.mono hB.size)
  obtain ⟨R, hR⟩ : ∃ R, askP D id waits = R := ⟨_, rfl⟩
  rw [hR] at o1 hfa ⊢
  obtain ⟨D1, n1⟩ := R
  have HR := Lib.hid hR
  simp only at o1 hfa ⊢
  clear hR hb rr k0 k1 k2 k3 k4 k5 k6 k7 k8 l1
  have o1 := o1.more (Nat.zero_le _)
  have ⟨k0, k1, k2, k3, k4, k5, k6, k7, k8⟩ := bb.c9
  have l1 := bb.lt
  obtain ⟨K7, hK7⟩ : ∃ K7, K7 = w1.heap.size := ⟨_, rfl⟩
  obtain ⟨w2, hw2⟩ : ∃ w2, w2 = w1.alloc (.cells #[.slice a1.A D1.l.length a1.c, .int .i64 D1.m0, .int .i64 D1.m1, .int .i64 D1.m2, .int .i64 D1.m3, .slice a1.Ag D1.g.length a1.cg, .slice a1.Af D1.f.length a1.cf, .slice a1.Aq D1.q.length a1.cq, .slice a1.Am D1.m.length a1.cm] 67) := ⟨_, rfl⟩
  go_wp2_with (go_at_call 33; refine Hid.out ?_)
  unfold Hid
  rw [← hK7, ← hw2]
  have xb : Blk w2 K7 67 #[.slice a1.A D1.l.length a1.c, .int .i64 D1.m0, .int .i64 D1.m1, .int .i64 D1.m2, .int .i64 D1.m3, .slice a1.Ag D1.g.length a1.cg, .slice a1.Af D1.f.length a1.cf, .slice a1.Aq D1.q.length a1.cq, .slice a1.Am D1.m.length a1.cm] := by rw [hw2, hK7]; exact Blk.new _ _ _
  have bb : Blk w2 w.heap.size 67 #[.slice a.A D.l.length a.c, .int .i64 D.m0, .int .i64 D.m1, .int .i64 D.m2, .int .i64 D.m3, .slice a.Ag D.g.length a.cg, .slice a.Af D.f.length a.cf, .slice a.Aq D.q.length a.cq, .slice a.Am D.m.length a.cm] := by rw [hw2]; exact bb.alloc _
  have o1 : OwW w2 0 a1 D1 := by rw [hw2]; exact o1.alloc _
  have hB : Below w.heap.size w w2 := by rw [hw2]; exact hB.alloc hB.size _
  have lK7 : w.heap.size < K7 := by omega
  clear hw2 hK7 k0 k1 k2 k3 k4 k5 k6 k7 k8 l1
  refine (refAsk_any a D id waits w.heap.size w2 (ro.below hB (Nat.le_refl _)) hB.size hf).mono ?_
  rintro e w3 ⟨a2, rfl, o2, hb⟩
  rw [HR.out] at o2 ⊢
  simp only at o2 ⊢
  have bb := bb.below hb bb.lt
  have xb := xb.below hb xb.lt
  have o1 := o1.below hb
  have hB := hB.trans (hb.mono hB.size)
  clear hb HR
  have ⟨k0, k1, k2, k3, k4, k5, k6, k7, k8⟩ := bb.c9
  have ⟨x0, x1, x2, x3, x4, x5, x6, x7, x8⟩ := xb.c9
  have l1 := bb.lt
  have l2 := xb.lt
  obtain ⟨K9, hK9⟩ : ∃ K9, K9 = w3.heap.size := ⟨_, rfl⟩
  obtain ⟨w4, hw4⟩ : ∃ w4, w4 = w3.alloc (.cells #[.slice a2.A D1.l.length a2.c, .int .i64 D1.m0, .int .i64 D1.m1, .int .i64 D1.m2, .int .i64 D1.m3, .slice a2.Ag D1.g.length a2.cg, .slice a2.Af D1.f.length a2.cf, .slice a2.Aq D1.q.length a2.cq, .slice a2.Am D1.m.length a2.cm] 67) := ⟨_, rfl⟩
  go_wp2_with (go_at_call 30; refine Hid.out ?_)
  unfold Hid
  rw [← hK9, ← hw4]
  have yb : Blk w4 K9 67 #[.slice a2.A D1.l.length a2.c, .int .i64 D1.m0, .int .i64 D1.m1, .int .i64 D1.m2, .int .i64 D1.m3, .slice a2.Ag D1.g.length a2.cg, .slice a2.Af D1.f.length a2.cf, .slice a2.Aq D1.q.length a2.cq, .slice a2.Am D1.m.length a2.cm] := by rw [hw4, hK9]; exact Blk.new _ _ _
  have bb : Blk w4 w.heap.size 67 #[.slice a.A D.l.length a.c, .int .i64 D.m0, .int .i64 D.m1, .int .i64 D.m2, .int .i64 D.m3, .slice a.Ag D.g.length a.cg, .slice a.Af D.f.length a.cf, .slice a.Aq D.q.length a.cq, .slice a.Am D.m.length a.cm] := by rw [hw4]; exact bb.alloc _
  have xb : Blk w4 K7 67 #[.slice a1.A D1.l.length a1.c, .int .i64 D1.m0, .int .i64 D1.m1, .int .i64 D1.m2, .int .i64 D1.m3, .slice a1.Ag D1.g.length a1.cg, .slice a1.Af D1.f.length a1.cf, .slice a1.Aq D1.q.length a1.cq, .slice a1.Am D1.m.length a1.cm] := by rw [hw4]; exact xb.alloc _
  have o1 : OwW w4 0 a1 D1 := by rw [hw4]; exact o1.alloc _
  have o2 : HdW w4 w.heap.size a2 D1 := by rw [hw4]; exact o2.alloc _
  have hB : Below w.heap.size w w4 := by rw [hw4]; exact hB.alloc hB.size _
  have lK9 : K7 < K9 := by omega
  clear hw4 hK9 k0 k1 k2 k3 k4 k5 k6 k7 k8 x0 x1 x2 x3 x4 x5 x6 x7 x8 l1 l2
  refine (sameWorld_any a1 a2 D1 w4 o1.rd o2.rd hfa).mono ?_
  rintro e w5 ⟨rfl, hb⟩
  have bb := bb.below hb bb.lt
  have xb := xb.below hb xb.lt
  have yb := yb.below hb yb.lt
  have hB := hB.trans (hb.mono hB.size)
  clear hb o1 o2 hfa
  have ⟨k0, k1, k2, k3, k4, k5, k6, k7, k8⟩ := bb.c9
  have l1 := bb.lt
  go_wp2_with (go_at_call 34; refine Hid.out ?_)
  unfold Hid
  refine (poolBack_any a D id w5 (ro.up hB) hf).mono ?_
  rintro e w6 ⟨a3, rfl, o3, hb⟩
  have bb := bb.below hb bb.lt
  have xb := xb.below hb xb.lt
  have yb := yb.below hb yb.lt
  have hB := hB.trans (hb.mono hB.size)
  obtain ⟨R, hR⟩ : ∃ R, backP D id = R := ⟨_, rfl⟩
  rw [hR] at o3 hfb ⊢
  obtain ⟨D3, n3, m3⟩ := R
  have HR := Lib.hid hR
  simp only at o3 hfb ⊢
  clear hR hb k0 k1 k2 k3 k4 k5 k6 k7 k8 l1
  have o3 := o3.more (Nat.zero_le _)
  have ⟨k0, k1, k2, k3, k4, k5, k6, k7, k8⟩ := bb.c9
  have ⟨x0, x1, x2, x3, x4, x5, x6, x7, x8⟩ := xb.c9
  have kx := xb.frz
  have l1 := bb.lt
  have l2 := xb.lt
  have hn1 : ¬ w.heap.size = K7 := by omega
  obtain ⟨w7, hw7⟩ : ∃ w7, w7 = (World.setCell (World.setCell (World.setCell (World.setCell (World.setCell (World.setCell (World.setCell (World.setCell (World.setCell w6 ⟨K7, 0, none⟩ (.slice a3.A D3.l.length a3.c)) ⟨K7, 1, none⟩ (.int .i64 D3.m0)) ⟨K7, 2, none⟩ (.int .i64 D3.m1)) ⟨K7, 3, none⟩ (.int .i64 D3.m2)) ⟨K7, 4, none⟩ (.int .i64 D3.m3)) ⟨K7, 5, none⟩ (.slice a3.Ag D3.g.length a3.cg)) ⟨K7, 6, none⟩ (.slice a3.Af D3.f.length a3.cf)) ⟨K7, 7, none⟩ (.slice a3.Aq D3.q.length a3.cq)) ⟨K7, 8, none⟩ (.slice a3.Am D3.m.length a3.cm)) := ⟨_, rfl⟩
  go_wp2_with (go_at_call 35; refine Hid.out ?_)
  unfold Hid
  rw [← hw7]
  have bb : Blk w7 w.heap.size 67 #[.slice a.A D.l.length a.c, .int .i64 D.m0, .int .i64 D.m1, .int .i64 D.m2, .int .i64 D.m3, .slice a.Ag D.g.length a.cg, .slice a.Af D.f.length a.cf, .slice a.Aq D.q.length a.cq, .slice a.Am D.m.length a.cm] := by rw [hw7]; exact bb.farP9 (by omega) _ _ _ _ _ _ _ _ _
  have yb : Blk w7 K9 67 #[.slice a2.A D1.l.length a2.c, .int .i64 D1.m0, .int .i64 D1.m1, .int .i64 D1.m2, .int .i64 D1.m3, .slice a2.Ag D1.g.length a2.cg, .slice a2.Af D1.f.length a2.cf, .slice a2.Aq D1.q.length a2.cq, .slice a2.Am D1.m.length a2.cm] := by rw [hw7]; exact yb.farP9 (by omega) _ _ _ _ _ _ _ _ _
  have o3 : OwW w7 0 a3 D3 := by rw [hw7]; exact o3.put9 xb (by decide) (by decide) (by decide) _ _ _ _ _ _ _ _ _
  have xb : Blk w7 K7 67 #[.slice a3.A D3.l.length a3.c, .int .i64 D3.m0, .int .i64 D3.m1, .int .i64 D3.m2, .int .i64 D3.m3, .slice a3.Ag D3.g.length a3.cg, .slice a3.Af D3.f.length a3.cf, .slice a3.Aq D3.q.length a3.cq, .slice a3.Am D3.m.length a3.cm] := by rw [hw7]; exact xb.put9 _ _ _ _ _ _ _ _ _
  have hB : Below w.heap.size w w7 := by rw [hw7]; exact below_put9 hB (by omega) _ _ _ _ _ _ _ _ _
  clear hw7 kx k0 k1 k2 k3 k4 k5 k6 k7 k8 x0 x1 x2 x3 x4 x5 x6 x7 x8 l1 l2
  refine (refBack_any a D id w.heap.size w7 (ro.below hB (Nat.le_refl _)) hB.size hf hcl hcm hcq).mono ?_
  rintro e w8 ⟨a4, rfl, o4, hb⟩
  rw [HR.out] at o4 ⊢
  simp only at o4 ⊢
  have xb := xb.below hb xb.lt
  have yb := yb.below hb yb.lt
  have o3 := o3.below hb
  have hB := hB.trans (hb.mono hB.size)
  clear hb HR
  have ⟨y0, y1, y2, y3, y4, y5, y6, y7, y8⟩ := yb.c9
  have ⟨x0, x1, x2, x3, x4, x5, x6, x7, x8⟩ := xb.c9
  have ky := yb.frz
  have l1 := yb.lt
  have l2 := xb.lt
  have hn2 : ¬ K7 = K9 := by omega
  obtain ⟨w9, hw9⟩ : ∃ w9, w9 = (World.setCell (World.setCell (World.setCell (World.setCell (World.setCell (World.setCell (World.setCell (World.setCell (World.setCell w8 ⟨K9, 0, none⟩ (.slice a4.A D3.l.length a4.c)) ⟨K9, 1, none⟩ (.int .i64 D3.m0)) ⟨K9, 2, none⟩ (.int .i64 D3.m1)) ⟨K9, 3, none⟩ (.int .i64 D3.m2)) ⟨K9, 4, none⟩ (.int .i64 D3.m3)) ⟨K9, 5, none⟩ (.slice a4.Ag D3.g.length a4.cg)) ⟨K9, 6, none⟩ (.slice a4.Af D3.f.length a4.cf)) ⟨K9, 7, none⟩ (.slice a4.Aq D3.q.length a4.cq)) ⟨K9, 8, none⟩ (.slice a4.Am D3.m.length a4.cm)) := ⟨_, rfl⟩
  go_wp2_with (go_at_call 30; refine Hid.out ?_)
  unfold Hid
  rw [← hw9]
  have o3 : OwW w9 0 a3 D3 := by rw [hw9]; exact o3.put9 yb (by decide) (by decide) (by decide) _ _ _ _ _ _ _ _ _
  have o4 : HdW w9 w.heap.size a4 D3 := by rw [hw9]; exact o4.put9 yb (by omega) (by decide) (by decide) (by decide) _ _ _ _ _ _ _ _ _
  have hB : Below w.heap.size w w9 := by rw [hw9]; exact below_put9 hB (by omega) _ _ _ _ _ _ _ _ _
  clear hw9 ky y0 y1 y2 y3 y4 y5 y6 y7 y8 x0 x1 x2 x3 x4 x5 x6 x7 x8 l1 l2
  refine (sameWorld_any a3 a4 D3 w9 o3.rd o4.rd hfb).mono ?_
  rintro e wz ⟨rfl, hb⟩
  go_wp2
  have hB := hB.trans (hb.mono hB.size)
  go_ret
  exact ⟨rfl, hB⟩
end Go.Proofs.Ytmcjgfoaiannoaa
