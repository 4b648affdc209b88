/-
  SameWorld of two worlds that read alike says true. Conditions: the length bounds that the reach pays.
-/
import Derived.Test.YtmcjgfoaiannoaaPoolDat
namespace Go.Proofs.Ytmcjgfoaiannoaa
open Go.RowKit

set_option maxRecDepth 100000 in
set_option maxHeartbeats 4000000 in
theorem sameWorld_any (a a' : WA) (D : WD) (w : World) (rr : RdW w w.heap.size a D) (ss : RdW w w.heap.size a' D) (hf : Fit D) :
    Calls Try.prog 30 #[.agg #[.slice a.A D.l.length a.c, .int .i64 D.m0, .int .i64 D.m1, .int .i64 D.m2, .int .i64 D.m3, .slice a.Ag D.g.length a.cg, .slice a.Af D.f.length a.cf, .slice a.Aq D.q.length a.cq, .slice a.Am D.m.length a.cm], .agg #[.slice a'.A D.l.length a'.c, .int .i64 D.m0, .int .i64 D.m1, .int .i64 D.m2, .int .i64 D.m3, .slice a'.Ag D.g.length a'.cg, .slice a'.Af D.f.length a'.cf, .slice a'.Aq D.q.length a'.cq, .slice a'.Am D.m.length a'.cm]] w fun e w' => e = .returned (.bool true) ∧ Below w.heap.size w w' := by
  have hfm := hf.m
  go_enter Try.func30, Try.ntmps30
  obtain ⟨w0, hw0⟩ : ∃ w0, w0 = (w.alloc (.cells (wC a D) 67)).alloc (.cells (wC a' D) 67) := ⟨_, rfl⟩
  have bb : Blk w0 w.heap.size 67 (wC a D) := by rw [hw0]; exact (Blk.new _ _ _).alloc _
  have ob : Blk w0 (w.heap.size + 1) 67 (wC a' D) := by rw [hw0]; exact Blk.new' _ _ (by simp) _ _
  have hB : Below w.heap.size w w0 := by rw [hw0]; exact ((Below.refl _ w).alloc (Nat.le_refl _) _).alloc (by simp) _
  have rr := rr.up hB
  have ss := ss.up hB
  have ⟨k0, k1, k2, k3, k4, k5, k6, k7, k8⟩ := bb.c9
  have ⟨j0, j1, j2, j3, j4, j5, j6, j7, j8⟩ := ob.c9
  simp only [wC] at hw0
  go_wp2
  rw [← hw0]
  clear hw0
  go_loopw [16] (fun i wr => ∃ k n : Nat, k ≤ D.m.length ∧ i = .int .i64 k ∧ wr = w0.drewN n)
    (fun i _ => D.m.length - (intOf i).toNat)
  case atStart => exact ⟨0, 0, Nat.zero_le _, rfl, rfl⟩
  case round =>
    clear k0 k1 k2 k3 k4 k5 k6 k7 k8 j0 j1 j2 j3 j4 j5 j6 j7 j8
    obtain ⟨k, n, hk, rfl, rfl⟩ := hrel
    obtain ⟨w2, hw2⟩ : ∃ w2, w2 = w0.drewN n := ⟨_, rfl⟩
    have bb : Blk w2 w.heap.size 67 (wC a D) := by rw [hw2]; exact bb.drewN n
    have ob : Blk w2 (w.heap.size + 1) 67 (wC a' D) := by rw [hw2]; exact ob.drewN n
    by_cases hlt : k < D.m.length
    · obtain ⟨b, off, x, y, z, e1, hbB, hx, c0, c1, c2⟩ := (rr.m.drewN n).atH hlt
      obtain ⟨b', off', x', y', z', e1', hbB', hx', d0, d1, d2⟩ := (ss.m.drewN n).atH hlt
      obtain ⟨rfl, rfl, rfl⟩ : x' = x ∧ y' = y ∧ z' = z := by rw [hx] at hx'; simpa [eq_comm] using hx'
      clear hx hx'
      have k8 := bb.c9.2.2.2.2.2.2.2.2
      have j8 := ob.c9.2.2.2.2.2.2.2.2
      rw [← hw2] at c0 c1 c2 d0 d1 d2 ⊢
      rw [e1] at k8
      rw [e1'] at j8
      have HW := Lib.hid hw2
      clear hw2 bb ob rr ss hf e1 e1' hB
      go_wp2
      go_quiet (fail)
      go_wp2
      go_roundw
      case rel => exact ⟨k + 1, n + nq, by omega, by go_num, by rw [HW.out, World.drewN_drewN]⟩
      case measure => simp [intOf]; omega
    · obtain rfl : k = D.m.length := by omega
      have rr : RdW w2 w2.heap.size a D := by rw [hw2]; exact ⟨rr.l, rr.g, rr.f, rr.q, rr.m⟩
      have ss : RdW w2 w2.heap.size a' D := by rw [hw2]; exact ⟨ss.l, ss.g, ss.f, ss.q, ss.m⟩
      have hB : Below w.heap.size w w2 := by rw [hw2]; exact below_drewN hB n
      have ⟨k0, k1, k2, k3, k4, k5, k6, k7, k8⟩ := bb.c9
      have ⟨j0, j1, j2, j3, j4, j5, j6, j7, j8⟩ := ob.c9
      rw [← hw2]
      clear hw2
      go_wp2_with (go_at_call 14; refine Hid.out ?_)
      unfold Hid
      refine (sameLedger_any a.A a'.A a.c a'.c D.l D.m0 D.m1 D.m2 D.m3 w2 rr.l ss.l (by have := hf.l; omega)).mono ?_
      rintro e w3 ⟨rfl, hb⟩
      have bb := bb.below hb bb.lt
      have ob := ob.below hb ob.lt
      have rr := rr.up hb
      have ss := ss.up hb
      have hB := hB.trans (hb.mono hB.size)
      clear k0 k1 k2 k3 k4 k5 k6 k7 k8 j0 j1 j2 j3 j4 j5 j6 j7 j8
      have ⟨k0, k1, k2, k3, k4, k5, k6, k7, k8⟩ := bb.c9
      have ⟨j0, j1, j2, j3, j4, j5, j6, j7, j8⟩ := ob.c9
      go_wp2_with (first
        | (go_at_call_of 53 (Value.slice a.Ag D.g.length a.cg)
           (with_reducible refine (sameInts_any a.Ag a'.Ag a.cg a'.cg D.g _ w3.heap.size ?_ ?_ ?_).mono ?_)
           · exact rr.g
           · exact ss.g
           · have := hf.g; omega
           rintro e w' ⟨rfl, n1, rfl⟩)
        | (go_at_call_of 53 (Value.slice a.Af D.f.length a.cf)
           (with_reducible refine (sameInts_any a.Af a'.Af a.cf a'.cf D.f _ w3.heap.size ?_ ?_ ?_).mono ?_)
           · exact rr.f
           · exact ss.f
           · have := hf.f; omega
           rintro e w' ⟨rfl, n2, rfl⟩)
        | (go_at_call_of 53 (Value.slice a.Aq D.q.length a.cq)
           (with_reducible refine (sameInts_any a.Aq a'.Aq a.cq a'.cq D.q _ w3.heap.size ?_ ?_ ?_).mono ?_)
           · exact rr.q
           · exact ss.q
           · have := hf.q; omega
           rintro e w' ⟨rfl, n3, rfl⟩))
      go_ret
      refine ⟨rfl, ?_⟩
      first | exact below_drewN hB _ | exact below_drewN (below_drewN hB _) _ | exact below_drewN (below_drewN (below_drewN hB _) _) _
end Go.Proofs.Ytmcjgfoaiannoaa
