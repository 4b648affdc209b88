/-
  LedgerTells: the walk. Conditions: the length bounds that the reach pays.
-/
import Derived.Test.YtmcjgfoaiannoaaRefOwn
import Derived.Test.YtmcjgfoaiannoaaAllWalk
import Derived.Deep.RegionHeld3
import Derived.Deep.DeepCutAuto
namespace Go.Proofs.Ytmcjgfoaiannoaa
open Go.RowKit

theorem sameNil (a b c : Int) (w : World) : Calls Try.prog 14 #[.agg #[.slice none 0 0, .int .i64 0, .int .i64 a, .int .i64 b, .int .i64 c], .agg #[.slice none 0 0, .int .i64 0, .int .i64 a, .int .i64 b, .int .i64 c]] w fun e w' => e = .returned (.bool true) ∧ Below w.heap.size w w' :=
  sameLedger_any none none 0 0 [] 0 a b c w Rd.nil_ Rd.nil_ (by simp)

set_option maxRecDepth 100000 in
set_option maxHeartbeats 4000000 in
theorem ledgerTells_walk (A : Option Addr) (c : Nat) (l : List (Int × Int × Int)) (m0 m1 m2 m3 id kind filter ma mb mc : Int) (w : World) (hr : Rd 3 encH w w.heap.size A l) (hn : l.length * 24 + 24 ≤ 140737488355328) (hc : l.length ≤ c) (hcm : c ≤ maxLen) :
    Calls Try.prog 3 #[.agg #[.slice A l.length c, .int .i64 m0, .int .i64 m1, .int .i64 m2, .int .i64 m3], .int .i64 id, .int .i64 kind, .int .i64 filter, .int .i64 ma, .int .i64 mb, .int .i64 mc] w fun e w' => e = .returned (.bool true) ∧ Below w.heap.size w w' := by
  go_enter Try.func3, Try.ntmps3
  obtain ⟨w0, hw0⟩ : ∃ w0, w0 = w.alloc (.cells #[.slice A l.length c, .int .i64 m0, .int .i64 m1, .int .i64 m2, .int .i64 m3] 25) := ⟨_, rfl⟩
  have b0 : Blk w0 w.heap.size 25 #[.slice A l.length c, .int .i64 m0, .int .i64 m1, .int .i64 m2, .int .i64 m3] := by rw [hw0]; exact Blk.new _ _ _
  have hB0 : Below w.heap.size w w0 := by rw [hw0]; exact (Below.refl _ w).alloc (Nat.le_refl _) _
  obtain ⟨k0, k1, k2, k3, k4⟩ := b0.c5
  go_wp2
  rw [← hw0]
  go_loopw [15, 28] (fun n i wr => ∃ k : Nat, k ≤ l.length ∧ i = .int .i64 k ∧ n = .int .i64 (countK (l.take k) kind) ∧ Below w.heap.size w wr ∧ Blk wr w.heap.size 25 #[.slice A l.length c, .int .i64 m0, .int .i64 m1, .int .i64 m2, .int .i64 m3])
    (fun _ i _ => l.length - (intOf i).toNat)
  case atStart => exact ⟨0, Nat.zero_le _, rfl, rfl, hB0, b0⟩
  case round =>
    obtain ⟨k, hk, rfl, rfl, hb, bb⟩ := hrel
    clear b0 hB0 hw0 k0 k1 k2 k3 k4
    by_cases hlt : k < l.length
    · obtain ⟨b, off, x, y, z, rfl, hbB, hx, c0, c1, c2⟩ := (hr.below hb).atH hlt
      have H1 := Lib.hid (countK_snoc (l.take k) (x, y, z) kind)
      have H2 := Lib.hid (take_snoc' hx)
      have hle := countK_le (l.take k) kind
      have hle2 : (l.take k).length ≤ k := List.length_take_le _ _
      clear hx
      by_cases ht : (y == kind) = true
      · go_wp2
        go_roundw
        case rel => exact ⟨k + 1, by omega, by go_num, by rw [H2.out, H1.out, if_pos ht]; rfl, hb.alloc hb.size _, bb.alloc _⟩
        case measure => simp [intOf]; omega
      · have ht' : (y == kind) = false := by simpa using ht
        have H3 := Lib.hid ht
        clear ht
        go_wp2
        go_roundw
        case rel => exact ⟨k + 1, by omega, by go_num, by rw [H2.out, H1.out, if_neg H3.out]; rfl, hb.alloc hb.size _, bb.alloc _⟩
        case measure => simp [intOf]; omega
    · obtain rfl : k = l.length := by omega
      rw [List.take_length]
      go_upto_region 8 with fail
      have lr : Rd 3 encH wr wr.heap.size A l := (hr.below hb).more hb.size
      have hB := hb
      clear hb
      go_cut [73] (fun s wx => s = .bool false ∧ Blk wx w.heap.size 25 #[.slice A l.length c, .int .i64 m0, .int .i64 m1, .int .i64 m2, .int .i64 m3] ∧ Below w.heap.size w wx)
      case first =>
        obtain ⟨k0, k1, k2, k3, k4⟩ := bb.c5
        have ro : True := trivial
        have ra : True := trivial
        go_region_held3 (fun wx => wx.cell? ⟨w.heap.size, 0, none⟩ = some (.slice A l.length c) ∧ wx.cell? ⟨w.heap.size, 1, none⟩ = some (.int .i64 m0) ∧ wx.cell? ⟨w.heap.size, 2, none⟩ = some (.int .i64 m1) ∧ wx.cell? ⟨w.heap.size, 3, none⟩ = some (.int .i64 m2) ∧ wx.cell? ⟨w.heap.size, 4, none⟩ = some (.int .i64 m3)) (exact ⟨k0, k1, k2, k3, k4⟩)
          (first
          | (go_at_call 13
             with_reducible refine (count_any A c l m0 m1 m2 m3 kind _ ?_ ?_).mono ?_
             · exact lr
             · omega
             rintro e w' ⟨rfl, hb⟩
             repeat (have hb := below_undrew' hb)
             have bb := bb.below hb bb.lt
             have lr := (lr.below hb).more hb.size
             have hB := hB.trans (hb.mono hB.size)
             try have ro := ro.below hb
             try have ra := ra.below hb
             obtain ⟨k0, k1, k2, k3, k4⟩ := bb.c5)
          | (go_at_call 15
             with_reducible refine (newL_any ma mb mc _).mono ?_
             rintro e w' ⟨rfl, hb⟩
             repeat (have hb := below_undrew' hb)
             have bb := bb.below hb bb.lt
             have lr := (lr.below hb).more hb.size
             have hB := hB.trans (hb.mono hB.size)
             try have ro := ro.below hb
             try have ra := ra.below hb
             obtain ⟨k0, k1, k2, k3, k4⟩ := bb.c5)
          | (go_at_call 14
             with_reducible refine (sameNil ma mb mc _).mono ?_
             rintro e w' ⟨rfl, hb⟩
             repeat (have hb := below_undrew' hb)
             have bb := bb.below hb bb.lt
             have lr := (lr.below hb).more hb.size
             have hB := hB.trans (hb.mono hB.size)
             try have ro := ro.below hb
             try have ra := ra.below hb
             obtain ⟨k0, k1, k2, k3, k4⟩ := bb.c5)
          | (go_at_call 16
             with_reducible refine (ownL_any A c l m0 m1 m2 m3 _ ?_ ?_).mono ?_
             · exact lr
             · omega
             rintro e w' ⟨Ao, co, rfl, ro, hb⟩
             change Ow _ _ Ao co l at ro
             repeat (have hb := below_undrew' hb)
             have bb := bb.below hb bb.lt
             have lr := (lr.below hb).more hb.size
             have hB := hB.trans (hb.mono hB.size)
             try have ra := ra.below hb
             obtain ⟨k0, k1, k2, k3, k4⟩ := bb.c5)
          | (go_at_call 14
             with_reducible refine (sameLedger_any Ao A co c l m0 m1 m2 m3 _ ?_ ?_ ?_).mono ?_
             · exact ro.rd
             · exact lr
             · omega
             rintro e w' ⟨rfl, hb⟩
             repeat (have hb := below_undrew' hb)
             have bb := bb.below hb bb.lt
             have lr := (lr.below hb).more hb.size
             have hB := hB.trans (hb.mono hB.size)
             try have ro := ro.below hb
             try have ra := ra.below hb
             obtain ⟨k0, k1, k2, k3, k4⟩ := bb.c5)
          | (go_at_call 18
             with_reducible refine (all_own A c l m0 m1 m2 m3 id _ ?_ ?_).mono ?_
             · exact lr
             · omega
             rintro e w' ⟨Aa, ca, rfl, ra, hb⟩
             repeat (have hb := below_undrew' hb)
             have bb := bb.below hb bb.lt
             have lr := (lr.below hb).more hb.size
             have hB := hB.trans (hb.mono hB.size)
             try have ro := ro.below hb
             obtain ⟨k0, k1, k2, k3, k4⟩ := bb.c5)
          | (go_at_call 19
             with_reducible refine (mine_any A c l m0 m1 m2 m3 id _ ?_ ?_).mono ?_
             · exact lr
             · omega
             rintro e w' ⟨Am, cm, rfl, rm, hb⟩
             repeat (have hb := below_undrew' hb)
             have bb := bb.below hb bb.lt
             have lr := (lr.below hb).more hb.size
             have hB := hB.trans (hb.mono hB.size)
             try have ro := ro.below hb
             try have ra := ra.below hb
             obtain ⟨k0, k1, k2, k3, k4⟩ := bb.c5)
          | (go_at_call 17
             with_reducible refine (sameHolds_any Aa Am ca cm (mineP l id) _ w'.heap.size ?_ ?_ ?_).mono ?_
             · exact ra.rd
             · exact rm
             · have := mineP_len l id; omega
             rintro e w' ⟨rfl, n, rfl⟩))
        all_goals (go_wp2_with fail; go_meet; exact ⟨rfl, bb, below_drewN hB _⟩)
      case rest =>
        obtain ⟨rfl, bb, hB⟩ := hcut
        have lr : Rd 3 encH wc wc.heap.size A l := (hr.below hB).more hB.size

        obtain ⟨k0, k1, k2, k3, k4⟩ := bb.c5
        have l1 := bb.lt
        go_wp2_with (go_at_call 20; refine Hid.out ?_)
        unfold Hid
        obtain ⟨h0, h1, h2, okv, hP⟩ : ∃ h0 h1 h2 okv, lastP l id = ((h0, h1, h2), okv) := ⟨_, _, _, _, rfl⟩
        obtain ⟨L, hL⟩ : ∃ L, mineP l id = L := ⟨_, rfl⟩
        have hc1 := last_any A c l m0 m1 m2 m3 id wc lr (by omega)
        rw [hP] at hc1
        refine hc1.mono ?_
        clear hc1
        rintro e v1 ⟨rfl, hb1⟩
        simp only
        have bb := bb.below hb1 bb.lt
        have lr := (lr.below hb1).more hb1.size
        have hB := hB.trans (hb1.mono hB.size)
        obtain ⟨k0, k1, k2, k3, k4⟩ := bb.c5
        have l1 := bb.lt
        clear hb1
        go_wp2_with (go_at_call 19; refine Hid.out ?_)
        unfold Hid
        obtain ⟨v2, hv2⟩ : ∃ v2, v2 = v1.alloc (.cells #[.int .i64 h0, .int .i64 h1, .int .i64 h2] 27) := ⟨_, rfl⟩
        rw [← hv2]
        have hh : Blk v2 v1.heap.size 27 #[.int .i64 h0, .int .i64 h1, .int .i64 h2] := by rw [hv2]; exact Blk.new _ _ _
        have bb : Blk v2 w.heap.size 25 #[.slice A l.length c, .int .i64 m0, .int .i64 m1, .int .i64 m2, .int .i64 m3] := by rw [hv2]; exact bb.alloc _
        have lr : Rd 3 encH v2 v2.heap.size A l := by rw [hv2]; exact (lr.alloc (Nat.le_refl _) _).more (by simp)
        have hB : Below w.heap.size w v2 := by rw [hv2]; exact hB.alloc hB.size _
        clear hv2 k0 k1 k2 k3 k4 l1
        have hc1 := mine_any A c l m0 m1 m2 m3 id v2 lr (by omega)
        rw [hL] at hc1
        refine hc1.mono ?_
        clear hc1
        rintro e v3 ⟨Am, cm, rfl, rm, hb1⟩
        have bb := bb.below hb1 bb.lt
        have hh := hh.below hb1 hh.lt
        have lr := (lr.below hb1).more hb1.size
        have hB := hB.trans (hb1.mono hB.size)
        clear hb1
        go_upto_region 12 with fail
        go_cut [106] (fun s wx => s = .bool false ∧ Blk wx w.heap.size 25 #[.slice A l.length c, .int .i64 m0, .int .i64 m1, .int .i64 m2, .int .i64 m3] ∧ Below w.heap.size w wx)
        case first =>
          obtain ⟨g0, g1, g2⟩ := hh.c3
          have l2 := hh.lt
          have HB := Lib.hid hB
          have BB := Lib.hid bb
          have hml : L.length ≤ 140737488355328 := by have := mineP_len l id; rw [hL] at this; omega
          cases L with
          | nil =>
            rw [lastP_none hL] at hP
            simp only [Prod.mk.injEq] at hP
            obtain ⟨⟨rfl, rfl, rfl⟩, rfl⟩ := hP
            clear hB bb lr rm hr hml hL
            go_quiet (fail)
            go_wp2_with fail
            go_meet
            exact ⟨rfl, BB.out, below_drewN HB.out _⟩
          | cons h rest =>
            rw [(all_step hL (m0, m1, m2, m3)).1] at hP
            simp only [Prod.mk.injEq] at hP
            obtain ⟨rfl, rfl⟩ := hP
            obtain ⟨qb, qo, x, rfl, hqb, hqk, hqc⟩ := rm.at_ (i := 0) (by simp)
            obtain rfl : x = (h0, h1, h2) := by simpa using hqk.symm
            have q0 : v3.cell? ⟨qb, qo, none⟩ = some (.int .i64 h0) := by simpa using hqc 0 _ rfl
            have q1 : v3.cell? ⟨qb, qo + 1, none⟩ = some (.int .i64 h1) := by simpa using hqc 1 _ rfl
            have q2 : v3.cell? ⟨qb, qo + 2, none⟩ = some (.int .i64 h2) := by simpa using hqc 2 _ rfl
            clear hB bb lr rm hr hqk hqc hL
            have e0 : ((((h0, h1, h2) : Int × Int × Int) :: rest).length) = rest.length + 1 := rfl
            have e1 : (0 : Int) < ((rest.length + 1 : Nat) : Int) := by omega
            simp only [List.length_cons] at hml e0
            go_quiet (fail)
            go_wp2_with fail
            go_meet
            exact ⟨rfl, BB.out, below_drewN HB.out _⟩
        case rest =>
          clear bb lr hB hh rm hP hL
          obtain ⟨rfl, bb, hB⟩ := hcut
          have lr : Rd 3 encH wc wc.heap.size A l := (hr.below hB).more hB.size
          obtain ⟨⟨lx, n0, n1, n2, n3⟩, er, hT⟩ : ∃ L e, takeP (l, m0, m1, m2, m3) id kind filter = (L, e) := ⟨_, _, rfl⟩
          have hlx : lx.length ≤ l.length + 1 := by
            rcases takeP_cases (l, m0, m1, m2, m3) id kind filter with ⟨h1, -⟩ | h1
            · rw [hT] at h1
              simp only [led0, Prod.mk.injEq] at h1
              rw [h1.1]
              simp
            · rw [hT] at h1
              simp only [Prod.mk.injEq] at h1
              rw [h1.1.1]
              simp
          obtain ⟨k0, k1, k2, k3, k4⟩ := bb.c5
          have l1 := bb.lt
          go_wp2_with (go_at_call 21; refine Hid.out ?_)
          unfold Hid
          have hc1 := take_own A c l m0 m1 m2 m3 id kind filter wc lr hn
          rw [hT] at hc1
          refine hc1.mono ?_
          clear hc1
          rintro e v4 ⟨Ax, cx, rfl, ox, hb1⟩
          simp only [ledV] at ox ⊢
          have bb := bb.below hb1 bb.lt
          have lr := (lr.below hb1).more hb1.size
          have hB := hB.trans (hb1.mono hB.size)
          clear hb1
          obtain ⟨k0, k1, k2, k3, k4⟩ := bb.c5
          have l1 := bb.lt
          go_wp2_with (go_at_call 22; refine Hid.out ?_)
          unfold Hid
          obtain ⟨v5, hv5⟩ : ∃ v5, v5 = v4.alloc (.cells #[.slice Ax lx.length cx, .int .i64 n0, .int .i64 n1, .int .i64 n2, .int .i64 n3] 25) := ⟨_, rfl⟩
          rw [← hv5]
          have xb : Blk v5 v4.heap.size 25 #[.slice Ax lx.length cx, .int .i64 n0, .int .i64 n1, .int .i64 n2, .int .i64 n3] := by rw [hv5]; exact Blk.new _ _ _
          have bb : Blk v5 w.heap.size 25 #[.slice A l.length c, .int .i64 m0, .int .i64 m1, .int .i64 m2, .int .i64 m3] := by rw [hv5]; exact bb.alloc _
          have lr : Rd 3 encH v5 v5.heap.size A l := by rw [hv5]; exact (lr.alloc (Nat.le_refl _) _).more (by simp)
          have ox : Ow v5 0 Ax cx lx := by rw [hv5]; exact (ox.more (Nat.zero_le _)).alloc _
          have hB : Below w.heap.size w v5 := by rw [hv5]; exact hB.alloc hB.size _
          have hbx : w.heap.size < v4.heap.size := l1
          clear hv5 k0 k1 k2 k3 k4 l1
          have hc1 := reftake_any A c l m0 m1 m2 m3 id kind filter v5 lr hn
          rw [hT] at hc1
          refine hc1.mono ?_
          clear hc1
          rintro e v6 ⟨Ay, cy, rfl, ry, hb1⟩
          simp only [ledV] at ry ⊢
          have bb := bb.below hb1 bb.lt
          have xb := xb.below hb1 xb.lt
          have lr := (lr.below hb1).more hb1.size
          have ox := ox.below hb1
          have hB := hB.trans (hb1.mono hB.size)
          clear hb1
          obtain ⟨k0, k1, k2, k3, k4⟩ := xb.c5
          have l1 := xb.lt
          go_wp2_with (go_at_call 14; refine Hid.out ?_)
          unfold Hid
          obtain ⟨v7, hv7⟩ : ∃ v7, v7 = v6.alloc (.cells #[.slice Ay lx.length cy, .int .i64 n0, .int .i64 n1, .int .i64 n2, .int .i64 n3] 25) := ⟨_, rfl⟩
          rw [← hv7]
          have yb : Blk v7 v6.heap.size 25 #[.slice Ay lx.length cy, .int .i64 n0, .int .i64 n1, .int .i64 n2, .int .i64 n3] := by rw [hv7]; exact Blk.new _ _ _
          have xb : Blk v7 v4.heap.size 25 #[.slice Ax lx.length cx, .int .i64 n0, .int .i64 n1, .int .i64 n2, .int .i64 n3] := by rw [hv7]; exact xb.alloc _
          have bb : Blk v7 w.heap.size 25 #[.slice A l.length c, .int .i64 m0, .int .i64 m1, .int .i64 m2, .int .i64 m3] := by rw [hv7]; exact bb.alloc _
          have lr : Rd 3 encH v7 v7.heap.size A l := by rw [hv7]; exact (lr.alloc (Nat.le_refl _) _).more (by simp)
          have ry : Rd 3 encH v7 v7.heap.size Ay lx := by rw [hv7]; exact (ry.alloc (Nat.le_refl _) _).more (by simp)
          have ox : Ow v7 0 Ax cx lx := by rw [hv7]; exact ox.alloc _
          have hB : Below w.heap.size w v7 := by rw [hv7]; exact hB.alloc hB.size _
          have hxy : v4.heap.size < v6.heap.size := l1
          clear hv7 k0 k1 k2 k3 k4 l1
          refine (sameLedger_any Ax Ay cx cy lx n0 n1 n2 n3 v7 ox.rd ry (by omega)).mono ?_
          rintro e v8 ⟨rfl, hb1⟩
          have bb := bb.below hb1 bb.lt
          have xb := xb.below hb1 xb.lt
          have yb := yb.below hb1 yb.lt
          have lr := (lr.below hb1).more hb1.size
          have hB := hB.trans (hb1.mono hB.size)
          clear hb1 ry ox
          obtain ⟨⟨lg, g0, g1, g2, g3⟩, eg, hT2⟩ : ∃ L e, giveP (l, m0, m1, m2, m3) id kind = (L, e) := ⟨_, _, rfl⟩
          have hlg : lg.length ≤ l.length := by
            unfold giveP at hT2
            split at hT2
            · simp only [Prod.mk.injEq] at hT2
              rw [← hT2.1.1]
              exact List.length_eraseIdx_le ..
            · simp only [led0, Prod.mk.injEq] at hT2
              rw [← hT2.1.1]
              simp
          obtain ⟨k0, k1, k2, k3, k4⟩ := bb.c5
          have l1 := bb.lt
          go_wp2_with (go_at_call 23; refine Hid.out ?_)
          unfold Hid
          have hc1 := give_own A c l m0 m1 m2 m3 id kind v8 lr (by omega)
          rw [hT2] at hc1
          refine hc1.mono ?_
          clear hc1
          rintro e v9 ⟨Ag, cg, rfl, og, hb1⟩
          simp only [ledV] at og ⊢
          have bb := bb.below hb1 bb.lt
          have xb := xb.below hb1 xb.lt
          have yb := yb.below hb1 yb.lt
          have lr := (lr.below hb1).more hb1.size
          have hB := hB.trans (hb1.mono hB.size)
          have og := og.more (Nat.zero_le _)
          clear hb1
          obtain ⟨k0, k1, k2, k3, k4⟩ := bb.c5
          obtain ⟨j0, j1, j2, j3, j4⟩ := xb.c5
          have l1 := bb.lt
          have l2 := xb.lt
          have jf := xb.frz
          go_wp2_with (go_at_call 24; refine Hid.out ?_)
          unfold Hid
          obtain ⟨va, hva⟩ : ∃ va, va = (((((v9.setCell ⟨v4.heap.size, 0, none⟩ (.slice Ag lg.length cg)).setCell ⟨v4.heap.size, 1, none⟩ (.int .i64 g0)).setCell ⟨v4.heap.size, 2, none⟩ (.int .i64 g1)).setCell ⟨v4.heap.size, 3, none⟩ (.int .i64 g2)).setCell ⟨v4.heap.size, 4, none⟩ (.int .i64 g3)) := ⟨_, rfl⟩
          rw [← hva]
          have lr0 : Rd 3 encH v9 w.heap.size A l := hr.below hB
          have hB : Below w.heap.size w va := by
            rw [hva]
            iterate 5 refine Below.setCell ?_ (by (try simp) <;> omega) _
            exact hB
          have bb : Blk va w.heap.size 25 #[.slice A l.length c, .int .i64 m0, .int .i64 m1, .int .i64 m2, .int .i64 m3] := by rw [hva]; exact (((((bb.far (by simp; omega) _).far (by simp; omega) _).far (by simp; omega) _).far (by simp; omega) _).far (by simp; omega) _)
          have yb : Blk va v6.heap.size 25 #[.slice Ay lx.length cy, .int .i64 n0, .int .i64 n1, .int .i64 n2, .int .i64 n3] := by rw [hva]; exact (((((yb.far (by simp; omega) _).far (by simp; omega) _).far (by simp; omega) _).far (by simp; omega) _).far (by simp; omega) _)
          have og : Ow va 0 Ag cg lg := by rw [hva]; exact (((((og.set_ xb (by decide) _).set_ (xb.set_ 0 _) (by decide) _).set_ ((xb.set_ 0 _).set_ 1 _) (by decide) _).set_ (((xb.set_ 0 _).set_ 1 _).set_ 2 _) (by decide) _).set_ ((((xb.set_ 0 _).set_ 1 _).set_ 2 _).set_ 3 _) (by decide) _)
          have xb : Blk va v4.heap.size 25 #[.slice Ag lg.length cg, .int .i64 g0, .int .i64 g1, .int .i64 g2, .int .i64 g3] := by rw [hva]; exact (((((xb.set_ 0 _).set_ 1 _).set_ 2 _).set_ 3 _).set_ 4 _)
          have lr : Rd 3 encH va va.heap.size A l := (hr.below hB).more hB.size
          clear hva lr0 k0 k1 k2 k3 k4 j0 j1 j2 j3 j4 l1 l2 jf
          have hc1 := refgive_own A c l m0 m1 m2 m3 id kind va lr (by omega) hc hcm
          refine hc1.mono ?_
          clear hc1
          intro e vb hbo
          unfold RefOwn at hbo
          rw [hT2] at hbo
          obtain ⟨Ah, ch, rfl, oh, hb1⟩ := hbo
          simp only [ledV] at oh ⊢
          have xb := xb.below hb1 xb.lt
          have yb := yb.below hb1 yb.lt
          have og := og.below hb1
          have hB := hB.trans (hb1.mono hB.size)
          clear hb1 bb lr
          obtain ⟨k0, k1, k2, k3, k4⟩ := xb.c5
          obtain ⟨j0, j1, j2, j3, j4⟩ := yb.c5
          have l1 := xb.lt
          have l2 := yb.lt
          have jf := yb.frz
          have hne : v4.heap.size ≠ v6.heap.size := by omega
          go_wp2_with (go_at_call 14; refine Hid.out ?_)
          unfold Hid
          obtain ⟨vc, hvc⟩ : ∃ vc, vc = (((((vb.setCell ⟨v6.heap.size, 0, none⟩ (.slice Ah lg.length ch)).setCell ⟨v6.heap.size, 1, none⟩ (.int .i64 g0)).setCell ⟨v6.heap.size, 2, none⟩ (.int .i64 g1)).setCell ⟨v6.heap.size, 3, none⟩ (.int .i64 g2)).setCell ⟨v6.heap.size, 4, none⟩ (.int .i64 g3)) := ⟨_, rfl⟩
          rw [← hvc]
          have hB : Below w.heap.size w vc := by
            rw [hvc]
            iterate 5 refine Below.setCell ?_ (by (try simp) <;> omega) _
            exact hB
          have og : Ow vc 0 Ag cg lg := by rw [hvc]; exact (((((og.set_ yb (by decide) _).set_ (yb.set_ 0 _) (by decide) _).set_ ((yb.set_ 0 _).set_ 1 _) (by decide) _).set_ (((yb.set_ 0 _).set_ 1 _).set_ 2 _) (by decide) _).set_ ((((yb.set_ 0 _).set_ 1 _).set_ 2 _).set_ 3 _) (by decide) _)
          have oh : Ow vc 0 Ah ch lg := by rw [hvc]; exact (((((oh.set_ yb (by decide) _).set_ (yb.set_ 0 _) (by decide) _).set_ ((yb.set_ 0 _).set_ 1 _) (by decide) _).set_ (((yb.set_ 0 _).set_ 1 _).set_ 2 _) (by decide) _).set_ ((((yb.set_ 0 _).set_ 1 _).set_ 2 _).set_ 3 _) (by decide) _)
          clear hvc k0 k1 k2 k3 k4 j0 j1 j2 j3 j4 l1 l2 jf xb yb
          refine (sameLedger_any Ag Ah cg ch lg g0 g1 g2 g3 vc og.rd oh.rd (by omega)).mono ?_
          rintro e vd ⟨rfl, hb1⟩
          go_wp2
          go_ret
          exact ⟨rfl, hB.trans (hb1.mono hB.size)⟩
end Go.Proofs.Ytmcjgfoaiannoaa
