/-
  LedgerAll: the walk: handing back all one's own leaves the others' as they were. Conditions: the length bound that the reach pays.
-/
import Derived.Test.YtmcjgfoaiannoaaOwn
import Derived.Deep.RegionLaw
namespace Go.Proofs.Ytmcjgfoaiannoaa
open Go.RowKit

theorem below_undrew {B : Nat} {w w' : World} (h : Below B w.drew w') : Below B w w' := ⟨h.os, h.tape, h.output, h.size, h.block⟩
theorem below_undrew' {w w' : World} (h : Below w.drew.heap.size w.drew w') : Below w.heap.size w w' := ⟨h.os, h.tape, h.output, h.size, h.block⟩

set_option maxRecDepth 100000 in
set_option maxHeartbeats 2000000 in
theorem ledgerAll_walk (A : Option Addr) (c : Nat) (l : List (Int × Int × Int)) (m0 m1 m2 m3 id other : Int) (w : World) (hr : Rd 3 encH w w.heap.size A l) (hn : l.length * 24 ≤ 140737488355328) :
    Calls Try.prog 5 #[.agg #[.slice A l.length c, .int .i64 m0, .int .i64 m1, .int .i64 m2, .int .i64 m3], .int .i64 id, .int .i64 other] w fun e w' => e = .returned (.bool true) ∧ Below w.heap.size w w' := by
  go_enter Try.func5, Try.ntmps5
  obtain ⟨w0, hw0⟩ : ∃ w0, w0 = w.alloc (.cells #[.slice A l.length c, .int .i64 m0, .int .i64 m1, .int .i64 m2, .int .i64 m3] 25) := ⟨_, rfl⟩
  have b0 : Blk w0 w.heap.size 25 #[.slice A l.length c, .int .i64 m0, .int .i64 m1, .int .i64 m2, .int .i64 m3] := by rw [hw0]; exact Blk.new _ _ _
  have hr0 : Rd 3 encH w0 w.heap.size A l := by rw [hw0]; exact hr.alloc (Nat.le_refl _) _
  have hB0 : Below w.heap.size w w0 := by rw [hw0]; exact (Below.refl _ w).alloc (Nat.le_refl _) _
  go_wp2_with (go_at_call 25; refine Hid.out ?_)
  unfold Hid
  rw [← hw0]
  clear hw0
  refine (alive3_any w0).mono ?_
  rintro e w1 ⟨rfl, hb1⟩
  have b1 := b0.below hb1 b0.lt
  have hr1 : Rd 3 encH w1 w1.heap.size A l := (hr0.below' hb1 hB0.size).more (Nat.le_trans hB0.size hb1.size)
  have hB1 := hB0.trans (hb1.mono hB0.size)
  obtain ⟨k0, k1, k2, k3, k4⟩ := b1.c5
  have l1 := b1.lt
  by_cases hid : other = id
  · subst hid
    go_wp2
    go_ret
    exact ⟨rfl, hB1⟩
  have hid' : (other == id) = false := by simp [hid]
  go_wp2_with (go_at_call 18; refine Hid.out ?_)
  unfold Hid
  obtain ⟨W1, hW1⟩ : ∃ W1, W1 = w1.alloc (.cells #[.slice A l.length c, .int .i64 m0, .int .i64 m1, .int .i64 m2, .int .i64 m3] 25) := ⟨_, rfl⟩
  rw [← hW1]
  have b2 : Blk W1 w.heap.size 25 #[.slice A l.length c, .int .i64 m0, .int .i64 m1, .int .i64 m2, .int .i64 m3] := by rw [hW1]; exact b1.alloc _
  have x2 : Blk W1 w1.heap.size 25 #[.slice A l.length c, .int .i64 m0, .int .i64 m1, .int .i64 m2, .int .i64 m3] := by rw [hW1]; exact Blk.new _ _ _
  have r2 : Rd 3 encH W1 W1.heap.size A l := by rw [hW1]; exact (hr1.alloc (Nat.le_refl _) _).more (by simp)
  have hB2 : Below w.heap.size w W1 := by rw [hW1]; exact hB1.alloc hB1.size _
  have hz : w.heap.size < w1.heap.size := l1
  clear hW1 k0 k1 k2 k3 k4 l1 hr1 b1 hb1 b0 hr0 hB0 hB1
  generalize w1.heap.size = bx at x2 hz ⊢
  clear w0 w1
  refine (all_own A c l m0 m1 m2 m3 id W1 r2 hn).mono ?_
  rintro e w2 ⟨A2, c2, rfl, hr2, hb2⟩
  have b3 := b2.below hb2 b2.lt
  have x3 := x2.below hb2 x2.lt
  have hB3 := hB2.trans (hb2.mono hB2.size)
  have r2' := r2.below hb2
  have r3 : Rd 3 encH w2 w2.heap.size A l := r2'.more hb2.size
  clear b2 x2 r2 r2' hb2 hB2
  have hlen := mineP_len l id
  go_wp2
  go_loopw [26] (fun i wr => ∃ (k cx : Nat) (Ax : Option Addr) (x : List (Int × Int × Int)), k ≤ (mineP l id).length ∧ i = .int .i64 k ∧ Blk wr bx 25 #[.slice Ax x.length cx, .int .i64 m0, .int .i64 m1, .int .i64 m2, .int .i64 m3] ∧ Rd 3 encH wr wr.heap.size Ax x ∧ x.length ≤ l.length ∧ mineP x id = (mineP l id).drop k ∧ mineP x other = mineP l other ∧ Blk wr w.heap.size 25 #[.slice A l.length c, .int .i64 m0, .int .i64 m1, .int .i64 m2, .int .i64 m3] ∧ Ow wr 0 A2 c2 (mineP l id) ∧ Below w.heap.size w wr)
    (fun i _ => (mineP l id).length - (intOf i).toNat)
  case atStart => exact ⟨0, c, A, l, Nat.zero_le _, rfl, x3, r3, Nat.le_refl _, by simp, rfl, b3, hr2.more (Nat.zero_le _), hB3⟩
  case round =>
    clear b3 x3 r3 hB3 hr2
    obtain ⟨k, cx, Ax, x, hk, rfl, xb, xr, xl, xm, xo, lb, qo', hB⟩ := hrel
    by_cases hlt : k < (mineP l id).length
    · obtain ⟨qb, qo, h, rfl, hqb, hqk, hqc⟩ := qo'.rd.at_ hlt
      have q0 : wr.cell? ⟨qb, qo + k * 3, none⟩ = some (.int .i64 h.1) := hqc 0 _ rfl
      have q1 := hqc 1 _ rfl
      have q2 := hqc 2 _ rfl
      clear hqc
      have xm' : mineP x id = h :: (mineP l id).drop (k + 1) := by rw [xm, List.drop_eq_getElem_cons hlt, (List.getElem?_eq_some_iff.1 hqk).2]
      obtain ⟨hla, x', hgv, xl', xm2, xo2⟩ := all_step xm' (m0, m1, m2, m3)
      have hid2 := Lib.hid (xo2 other hid)
      have HLA := Lib.hid hla
      have HGV := Lib.hid hgv
      clear xo2 hla hgv
      obtain ⟨h0, h1, h2⟩ := h
      simp only at q0 q1 q2 HLA HGV xm'
      obtain ⟨k0, k1, k2, k3, k4⟩ := xb.c5
      have hl1 := xb.lt
      go_wp2_with (go_at_call 20; refine Hid.out ?_)
      unfold Hid
      obtain ⟨V1, hV1⟩ : ∃ V1, V1 = wr.alloc (.cells #[.int .i64 h0, .int .i64 h1, .int .i64 h2] 27) := ⟨_, rfl⟩
      rw [← hV1]
      have xb1 : Blk V1 bx 25 #[.slice Ax x.length cx, .int .i64 m0, .int .i64 m1, .int .i64 m2, .int .i64 m3] := by rw [hV1]; exact xb.alloc _
      have xr1 : Rd 3 encH V1 V1.heap.size Ax x := by rw [hV1]; exact (xr.alloc (Nat.le_refl _) _).more (by simp)
      have lb1 : Blk V1 w.heap.size 25 #[.slice A l.length c, .int .i64 m0, .int .i64 m1, .int .i64 m2, .int .i64 m3] := by rw [hV1]; exact lb.alloc _
      have qr1 : Ow V1 0 (some ⟨qb, qo, none⟩) c2 (mineP l id) := by rw [hV1]; exact qo'.alloc _
      have hh1 : Blk V1 wr.heap.size 27 #[.int .i64 h0, .int .i64 h1, .int .i64 h2] := by rw [hV1]; exact Blk.new _ _ _
      have hB1 : Below w.heap.size w V1 := by rw [hV1]; exact hB.alloc hB.size _
      clear hV1 k0 k1 k2 k3 k4 xb xr lb hB q0 q1 q2
      have hc := last_any Ax cx x m0 m1 m2 m3 id V1 xr1 (by omega)
      rw [HLA.out] at hc
      refine hc.mono ?_
      clear hc
      rintro e V2 ⟨rfl, hb2⟩
      have xb2 := xb1.below hb2 xb1.lt
      have xr2 : Rd 3 encH V2 V2.heap.size Ax x := (xr1.below hb2).more hb2.size
      have lb2 := lb1.below hb2 lb1.lt
      have qr2 := qr1.below hb2
      have hh2 := hh1.below hb2 hh1.lt
      have hB2 := hB1.trans (hb2.mono hB1.size)
      obtain ⟨k0, k1, k2, k3, k4⟩ := xb2.c5
      obtain ⟨g0, g1, g2⟩ := hh2.c3
      have l1 := xb2.lt
      have l2 := hh2.lt
      clear xb1 xr1 lb1 qr1 hh1 hB1
      go_wp2_with (go_at_call 23; refine Hid.out ?_)
      unfold Hid
      have hc := give_own Ax cx x m0 m1 m2 m3 id h1 _ ((xr2.alloc (Nat.le_refl _) (.cells #[.int .i64 h0, .int .i64 h1, .int .i64 h2] 27)).more (by simp)) (by omega)
      rw [HGV.out] at hc
      refine hc.mono ?_
      clear hc
      rintro e V3 ⟨A3, c3, rfl, hr3, hb3⟩
      simp only [ledV] at hr3 ⊢
      have hb3' := (Below.alloc (Below.refl V2.heap.size V2) (Nat.le_refl _) (.cells #[.int .i64 h0, .int .i64 h1, .int .i64 h2] 27)).trans (hb3.mono (by simp))
      have xb3 := xb2.below hb3' xb2.lt
      have lb3 := lb2.below hb3' lb2.lt
      have qr3 := qr2.below hb3'
      have hB3 := hB2.trans (hb3'.mono hB2.size)
      clear k0 k1 k2 k3 k4 g0 g1 g2 xb2 xr2 lb2 qr2 hh2 hB2 hb3 hb3'
      obtain ⟨k0, k1, k2, k3, k4⟩ := xb3.c5
      have kf := xb3.frz
      have l3 := xb3.lt
      go_wp2
      go_roundw
      case rel =>
        refine ⟨k + 1, c3, A3, x', by omega, by go_num, ?_, ?_, by omega, xm2, hid2.out.trans xo, ?_, ?_, ?_⟩
        · exact (((((xb3.set_ 0 _).set_ 1 _).set_ 2 _).set_ 3 _).set_ 4 _).alloc _
        · exact ((((((((hr3.more (Nat.zero_le _)).set_ xb3 (by decide) _).set_ (xb3.set_ 0 _) (by decide) _).set_ ((xb3.set_ 0 _).set_ 1 _) (by decide) _).set_ (((xb3.set_ 0 _).set_ 1 _).set_ 2 _) (by decide) _).set_ ((((xb3.set_ 0 _).set_ 1 _).set_ 2 _).set_ 3 _) (by decide) _).alloc _)).rd
        · exact (((((lb3.far (by simp; omega) _).far (by simp; omega) _).far (by simp; omega) _).far (by simp; omega) _).far (by simp; omega) _).alloc _
        · exact ((((((((qr3).set_ xb3 (by decide) _).set_ (xb3.set_ 0 _) (by decide) _).set_ ((xb3.set_ 0 _).set_ 1 _) (by decide) _).set_ (((xb3.set_ 0 _).set_ 1 _).set_ 2 _) (by decide) _).set_ ((((xb3.set_ 0 _).set_ 1 _).set_ 2 _).set_ 3 _) (by decide) _).alloc _))
        · refine Below.alloc ?_ (by simpa using hB3.size) _
          iterate 5 refine Below.setCell ?_ (by (try simp) <;> omega) _
          exact hB3
      case measure => simp [intOf]; omega
    · obtain rfl : k = (mineP l id).length := by omega
      rw [List.drop_length] at xm
      have HLA := Lib.hid (lastP_none xm)
      obtain ⟨k0, k1, k2, k3, k4⟩ := xb.c5
      have l1 := xb.lt
      go_wp2_with (go_at_call 20; refine Hid.out ?_)
      unfold Hid
      have hc := last_any Ax cx x m0 m1 m2 m3 id wr xr (by omega)
      rw [HLA.out] at hc
      refine hc.mono ?_
      clear hc
      rintro e v1 ⟨rfl, hb1⟩
      simp only
      have xb := xb.below hb1 xb.lt
      have lb := lb.below hb1 lb.lt
      have xr : Rd 3 encH v1 v1.heap.size Ax x := (xr.below hb1).more hb1.size
      have hB := hB.trans (hb1.mono hB.size)
      clear qo' k0 k1 k2 k3 k4 l1 hb1
      go_wp2
      obtain ⟨V, hV⟩ : ∃ V, V = v1.alloc (.cells #[.int .i64 0, .int .i64 0, .int .i64 0] 27) := ⟨_, rfl⟩
      rw [← hV]
      have xb : Blk V bx 25 #[.slice Ax x.length cx, .int .i64 m0, .int .i64 m1, .int .i64 m2, .int .i64 m3] := by rw [hV]; exact xb.alloc _
      have lb : Blk V w.heap.size 25 #[.slice A l.length c, .int .i64 m0, .int .i64 m1, .int .i64 m2, .int .i64 m3] := by rw [hV]; exact lb.alloc _
      have xr : Rd 3 encH V V.heap.size Ax x := by rw [hV]; exact (xr.alloc (Nat.le_refl _) _).more (by simp)
      have hB : Below w.heap.size w V := by rw [hV]; exact hB.alloc hB.size _
      have lr : Rd 3 encH V w.heap.size A l := hr.below' hB (Nat.le_refl _)
      have lr : Rd 3 encH V V.heap.size A l := lr.more hB.size
      clear hV
      obtain ⟨k0, k1, k2, k3, k4⟩ := xb.c5
      obtain ⟨j0, j1, j2, j3, j4⟩ := lb.c5
      have ra : True := trivial
      have rb : True := trivial
      go_region_law (first
        | (go_simp
           with_reducible refine (all_own Ax cx x m0 m1 m2 m3 other _ ?_ ?_).mono ?_
           · exact xr
           · omega
           rintro e w' ⟨Aa, ca, rfl, ra, hb⟩
           repeat (have hb := below_undrew' hb)
           have xb := xb.below hb xb.lt
           have lb := lb.below hb lb.lt
           have xr := (xr.below hb).more hb.size
           have lr := (lr.below hb).more hb.size
           have hB := hB.trans (hb.mono hB.size)
           try have rb := rb.below hb
           obtain ⟨k0, k1, k2, k3, k4⟩ := xb.c5
           obtain ⟨j0, j1, j2, j3, j4⟩ := lb.c5
           rw [xo] at ra ⊢)
        | (go_simp
           with_reducible refine (all_own A c l m0 m1 m2 m3 other _ ?_ ?_).mono ?_
           · exact lr
           · omega
           rintro e w' ⟨Ab, cb, rfl, rb, hb⟩
           repeat (have hb := below_undrew' hb)
           have xb := xb.below hb xb.lt
           have lb := lb.below hb lb.lt
           have xr := (xr.below hb).more hb.size
           have lr := (lr.below hb).more hb.size
           have hB := hB.trans (hb.mono hB.size)
           try have ra := ra.below hb
           obtain ⟨k0, k1, k2, k3, k4⟩ := xb.c5
           obtain ⟨j0, j1, j2, j3, j4⟩ := lb.c5)
        | (go_simp
           with_reducible refine (sameHolds_any Aa Ab ca cb (mineP l other) _ w'.heap.size ?_ ?_ ?_).mono ?_
           · exact ra.rd
           · exact rb.rd
           · have := mineP_len l other
             omega
           rintro e w' ⟨rfl, n, rfl⟩))
      all_goals (go_wp2; go_ret; exact ⟨rfl, below_drewN hB _⟩)
end Go.Proofs.Ytmcjgfoaiannoaa
