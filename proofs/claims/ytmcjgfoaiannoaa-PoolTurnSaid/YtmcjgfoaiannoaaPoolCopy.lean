/-
  pool.Own: a copy of a world, each of its slices in a row of its own. Conditions: the length bounds that the reach pays.
-/
import Derived.Test.YtmcjgfoaiannoaaPoolDat
namespace Go.Proofs.Ytmcjgfoaiannoaa
open Go.RowKit

set_option maxRecDepth 100000 in
set_option maxHeartbeats 4000000 in
theorem poolOwn_any (a : WA) (D : WD) (w : World) (rr : RdW w w.heap.size a D) (hf : Fit D) :
    Calls Try.prog 31 #[.agg #[.slice a.A D.l.length a.c, .int .i64 D.m0, .int .i64 D.m1, .int .i64 D.m2, .int .i64 D.m3, .slice a.Ag D.g.length a.cg, .slice a.Af D.f.length a.cf, .slice a.Aq D.q.length a.cq, .slice a.Am D.m.length a.cm]] w fun e w' => ∃ a' : WA, e = .returned (wV a' D) ∧ OwW w' w.heap.size a' D ∧ ApQ a' D ∧ Below w.heap.size w w' := by
  go_enter Try.func31, Try.ntmps31
  obtain ⟨w0, hw0⟩ : ∃ w0, w0 = (w.alloc (.cells #[.slice a.A D.l.length a.c, .int .i64 D.m0, .int .i64 D.m1, .int .i64 D.m2, .int .i64 D.m3, .slice a.Ag D.g.length a.cg, .slice a.Af D.f.length a.cf, .slice a.Aq D.q.length a.cq, .slice a.Am D.m.length a.cm] 67)).alloc (.cells #[.slice none 0 0, .int .i64 0, .int .i64 0, .int .i64 0, .int .i64 0, .slice none 0 0, .slice none 0 0, .slice none 0 0, .slice none 0 0] 67) := ⟨_, rfl⟩
  have bb : Blk w0 w.heap.size 67 #[.slice a.A D.l.length a.c, .int .i64 D.m0, .int .i64 D.m1, .int .i64 D.m2, .int .i64 D.m3, .slice a.Ag D.g.length a.cg, .slice a.Af D.f.length a.cf, .slice a.Aq D.q.length a.cq, .slice a.Am D.m.length a.cm] := by rw [hw0]; exact (Blk.new _ _ _).alloc _
  have ob : Blk w0 (w.heap.size + 1) 67 #[.slice none 0 0, .int .i64 0, .int .i64 0, .int .i64 0, .int .i64 0, .slice none 0 0, .slice none 0 0, .slice none 0 0, .slice none 0 0] := by rw [hw0]; exact Blk.new' _ _ (by simp) _ _
  have hB : Below w.heap.size w w0 := by rw [hw0]; exact ((Below.refl _ w).alloc (Nat.le_refl _) _).alloc (by simp) _
  have rr := rr.up hB
  go_wp2
  rw [← hw0]
  clear hw0
  obtain ⟨k0, k1, k2, k3, k4, k5, k6, k7, k8⟩ := bb.c9
  have hz2 := ob.lt
  have ol : True := trivial
  have og : True := trivial
  have of : True := trivial
  have oq : True := trivial
  have om : True := trivial
  go_region_held3 (fun wx => wx.cell? ⟨w.heap.size, 0, none⟩ = some (.slice a.A D.l.length a.c) ∧ wx.cell? ⟨w.heap.size, 1, none⟩ = some (.int .i64 D.m0) ∧ wx.cell? ⟨w.heap.size, 2, none⟩ = some (.int .i64 D.m1) ∧ wx.cell? ⟨w.heap.size, 3, none⟩ = some (.int .i64 D.m2) ∧ wx.cell? ⟨w.heap.size, 4, none⟩ = some (.int .i64 D.m3) ∧ wx.cell? ⟨w.heap.size, 5, none⟩ = some (.slice a.Ag D.g.length a.cg) ∧ wx.cell? ⟨w.heap.size, 6, none⟩ = some (.slice a.Af D.f.length a.cf) ∧ wx.cell? ⟨w.heap.size, 7, none⟩ = some (.slice a.Aq D.q.length a.cq) ∧ wx.cell? ⟨w.heap.size, 8, none⟩ = some (.slice a.Am D.m.length a.cm)) ((first | (with_reducible exact ⟨k0, k1, k2, k3, k4, k5, k6, k7, k8⟩) | go_keep))
    (first
      | (go_at_call 16
         with_reducible refine (ownL_any a.A a.c D.l D.m0 D.m1 D.m2 D.m3 _ ?_ ?_).mono ?_
         · exact rr.l
         · have := hf.l; omega
         rintro e w' ⟨A', c', rfl, ol, hb⟩
         change Ow _ _ A' c' D.l at ol
         have ol := ol.more hB.size
         repeat (have hb := below_undrew' hb)
         have bb := bb.below hb bb.lt
         have ob := ob.below hb ob.lt
         have rr := rr.up hb
         have hB := hB.trans (hb.mono hB.size)
         have hz2 := ob.lt
         try have og := og.below hb
         try have of := of.below hb
         try have oq := oq.below hb
         try have om := om.below hb
         obtain ⟨k0, k1, k2, k3, k4, k5, k6, k7, k8⟩ := bb.c9)
      | (go_at_call_of 54 (Value.slice a.Ag D.g.length a.cg)
         with_reducible refine (cloneI_any a.Ag a.cg D.g _ ?_ ?_).mono ?_
         · exact rr.g
         · exact hf.g
         rintro e w' ⟨Ag', cg', rfl, og, hb⟩
         change OwI _ _ Ag' cg' D.g at og
         have og := og.more hB.size
         repeat (have hb := below_undrew' hb)
         have bb := bb.below hb bb.lt
         have ob := ob.below hb ob.lt
         have rr := rr.up hb
         have hB := hB.trans (hb.mono hB.size)
         have hz2 := ob.lt
         try have ol := ol.below hb
         try have of := of.below hb
         try have oq := oq.below hb
         try have om := om.below hb
         obtain ⟨k0, k1, k2, k3, k4, k5, k6, k7, k8⟩ := bb.c9)
      | (go_at_call_of 54 (Value.slice a.Af D.f.length a.cf)
         with_reducible refine (cloneI_any a.Af a.cf D.f _ ?_ ?_).mono ?_
         · exact rr.f
         · exact hf.f
         rintro e w' ⟨Af', cf', rfl, of, hb⟩
         change OwI _ _ Af' cf' D.f at of
         have of := of.more hB.size
         repeat (have hb := below_undrew' hb)
         have bb := bb.below hb bb.lt
         have ob := ob.below hb ob.lt
         have rr := rr.up hb
         have hB := hB.trans (hb.mono hB.size)
         have hz2 := ob.lt
         try have ol := ol.below hb
         try have og := og.below hb
         try have oq := oq.below hb
         try have om := om.below hb
         obtain ⟨k0, k1, k2, k3, k4, k5, k6, k7, k8⟩ := bb.c9)
      | (go_at_call_of 54 (Value.slice a.Aq D.q.length a.cq)
         with_reducible refine (cloneI_any a.Aq a.cq D.q _ ?_ ?_).mono ?_
         · exact rr.q
         · have := hf.q; omega
         rintro e w' ⟨Aq', cq', rfl, oq, hb⟩
         change OwI _ _ Aq' cq' D.q at oq
         have apg : ∀ x, (Value.slice Ag' D.g.length cg').ownBlock = some x → some x ≠ (Value.slice Aq' D.q.length cq').ownBlock := fun x hx hy => by have h1 := own_lt og x hx; have h2 := own_ge oq x hy.symm; omega
         have apf : ∀ x, (Value.slice Af' D.f.length cf').ownBlock = some x → some x ≠ (Value.slice Aq' D.q.length cq').ownBlock := fun x hx hy => by have h1 := own_lt of x hx; have h2 := own_ge oq x hy.symm; omega
         have oq := oq.more hB.size
         repeat (have hb := below_undrew' hb)
         have bb := bb.below hb bb.lt
         have ob := ob.below hb ob.lt
         have rr := rr.up hb
         have hB := hB.trans (hb.mono hB.size)
         have hz2 := ob.lt
         try have ol := ol.below hb
         try have og := og.below hb
         try have of := of.below hb
         try have om := om.below hb
         obtain ⟨k0, k1, k2, k3, k4, k5, k6, k7, k8⟩ := bb.c9)
      | (go_at_call 55
         with_reducible refine (cloneM_any a.Am a.cm D.m _ ?_ ?_).mono ?_
         · exact rr.m
         · exact hf.m
         rintro e w' ⟨Am', cm', rfl, om, hb⟩
         change OwM _ _ Am' cm' D.m at om
         have om := om.more hB.size
         repeat (have hb := below_undrew' hb)
         have bb := bb.below hb bb.lt
         have ob := ob.below hb ob.lt
         have rr := rr.up hb
         have hB := hB.trans (hb.mono hB.size)
         have hz2 := ob.lt
         try have ol := ol.below hb
         try have og := og.below hb
         try have of := of.below hb
         try have oq := oq.below hb
         obtain ⟨k0, k1, k2, k3, k4, k5, k6, k7, k8⟩ := bb.c9
         obtain ⟨j0, j1, j2, j3, j4, j5, j6, j7, j8⟩ := ob.c9
         have obf := ob.frz))
  all_goals
    go_wp2_with fail
    refine bodyPost_ret (v := .agg #[.slice A' D.l.length c', .int .i64 D.m0, .int .i64 D.m1, .int .i64 D.m2, .int .i64 D.m3, .slice Ag' D.g.length cg', .slice Af' D.f.length cf', .slice Aq' D.q.length cq', .slice Am' D.m.length cm']) (by simp only [results, Try.results31]; go_simp) rfl ⟨⟨A', Ag', Af', Aq', Am', c', cg', cf', cq', cm'⟩, rfl, ?_, ⟨apg, apf⟩, ?_⟩
    · refine OwW.put9 ?_ ob (by decide) (by decide) (by decide) _ _ _ _ _ _ _ _ _
      exact ⟨ol, og, of, oq, om⟩
    · exact below_put9 hB (by omega) _ _ _ _ _ _ _ _ _
end Go.Proofs.Ytmcjgfoaiannoaa
