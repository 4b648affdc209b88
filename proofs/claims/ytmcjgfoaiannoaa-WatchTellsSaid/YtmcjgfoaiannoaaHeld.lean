/-
  Held, of watch and of the reference: how much an ask holds of each kind. Condition: the length bound that the reach pays.
-/
import Derived.Test.YtmcjgfoaiannoaaWDat
namespace Go.Proofs.Ytmcjgfoaiannoaa
open Go.RowKit

abbrev heldV (l : List (Int × Int × Int)) (id : Int) : Value := .agg #[.int .i64 (kOf l id 0 : Nat), .int .i64 (kOf l id 1 : Nat), .int .i64 (kOf l id 2 : Nat), .int .i64 (kOf l id 3 : Nat)]
theorem ow_h {w : World} {B : Nat} {A : Option Addr} {c : Nat} {l : List (Int × Int × Int)} (h : Ow w B A c l) {k : Nat} (hk : k < l.length) : ∃ b x y z, A = some ⟨b, 0, none⟩ ∧ b < w.heap.size ∧ l[k]? = some (x, y, z) ∧ w.cell? ⟨b, k * 3, none⟩ = some (.int .i64 x) ∧ w.cell? ⟨b, k * 3 + 1, none⟩ = some (.int .i64 y) ∧ w.cell? ⟨b, k * 3 + 2, none⟩ = some (.int .i64 z) := by
  obtain ⟨b, off, x, y, z, e, hb, hx, h0, h1, h2⟩ := h.rd.atH hk
  obtain ⟨g, cap, hv, _, _⟩ := World.ownsRow.form h (by omega)
  have : A = some ⟨g, 0, none⟩ := by injection hv
  rw [this] at e
  injection e with e
  injection e with e1 e2
  subst e1 e2
  simp only [Nat.zero_add] at h0 h1 h2
  exact ⟨g, x, y, z, this, hb, hx, h0, h1, h2⟩
set_option maxRecDepth 100000 in
set_option maxHeartbeats 4000000 in
theorem rheld_any (s : SA) (d : SD) (id : Int) (w : World) (hr : Rd 3 encH w w.heap.size s.a.A d.D.l) (hn : d.D.l.length * 24 ≤ 140737488355328) :
    Calls Try.prog 41 #[sV s d, .int .i64 id] w fun e w' => e = .returned (heldV d.D.l id) ∧ Below w.heap.size w w' := by
  obtain ⟨⟨A, ag, af, aq, am, c, cg, cf, cq, cm⟩, AF, cF⟩ := s
  obtain ⟨⟨l, m0, m1, m2, m3, G, Fa, Q, m⟩, F, k0, k1, k2, fl, cn, wt, tm⟩ := d
  simp only at hr hn ⊢
  go_enter Try.func41, Try.ntmps41
  obtain ⟨W, hW⟩ : ∃ W, W = ((w.alloc (.cells #[k0, k1, k2, .int .i64 fl, .int .i64 cn, .int .i64 wt, .int .i64 tm, .slice A l.length c, .int .i64 m0, .int .i64 m1, .int .i64 m2, .int .i64 m3, .slice ag G.length cg, .slice af Fa.length cf, .slice aq Q.length cq, .slice am m.length cm, .slice AF F.length cF] 79)).alloc (.cells #[.int .i64 0, .int .i64 0, .int .i64 0, .int .i64 0] 23)).alloc (.cells #[.int .i64 0, .int .i64 0, .int .i64 0, .int .i64 0] 23) := ⟨_, rfl⟩
  have hbW : Below w.heap.size w W := by rw [hW]; exact (((Below.refl _ w).alloc (Nat.le_refl _) _).alloc (by simp) _).alloc (by simp; omega) _
  have q1 : Blk W w.heap.size 79 #[k0, k1, k2, .int .i64 fl, .int .i64 cn, .int .i64 wt, .int .i64 tm, .slice A l.length c, .int .i64 m0, .int .i64 m1, .int .i64 m2, .int .i64 m3, .slice ag G.length cg, .slice af Fa.length cf, .slice aq Q.length cq, .slice am m.length cm, .slice AF F.length cF] := by rw [hW]; exact ((Blk.new _ _ _).alloc _).alloc _
  have q4 : Blk W (w.heap.size + 1) 23 #[.int .i64 0, .int .i64 0, .int .i64 0, .int .i64 0] := by rw [hW]; exact (Blk.new' _ _ (by simp) _ _).alloc _
  have q5 : Blk W (w.heap.size + 2) 23 #[.int .i64 0, .int .i64 0, .int .i64 0, .int .i64 0] := by rw [hW]; exact Blk.new' _ _ (by simp) _ _
  have hz : W.heap.size = w.heap.size + 3 := by rw [hW]; simp
  have hrW : Rd 3 encH W W.heap.size A l := (hr.below hbW).more (by omega)
  go_wp2
  rw [← hW]
  clear hW hrW
  go_loopw [14] (fun i wr => ∃ k : Nat, k ≤ l.length ∧ i = .int .i64 k ∧ Blk wr (w.heap.size + 2) 23 #[.int .i64 (kOf (l.take (k)) id 0 : Nat), .int .i64 (kOf (l.take (k)) id 1 : Nat), .int .i64 (kOf (l.take (k)) id 2 : Nat), .int .i64 (kOf (l.take (k)) id 3 : Nat)] ∧ Blk wr (w.heap.size + 1) 23 #[.int .i64 0, .int .i64 0, .int .i64 0, .int .i64 0] ∧ Below w.heap.size w wr ∧ w.heap.size + 3 ≤ wr.heap.size)
    (fun i _ => l.length - (intOf i).toNat)
  case atStart => exact ⟨0, Nat.zero_le _, rfl, q5, q4, hbW, by omega⟩
  case round =>
    obtain ⟨k, hk, rfl, b5, b4, hB, hs⟩ := hrel
    clear q1 q4 q5 hbW hz
    obtain ⟨e0, e1, e2, e3⟩ := b5.c4
    have ef := b5.frz
    have el := b5.lt
    by_cases hlt : k < l.length
    · obtain ⟨b, off, x, y, z, rfl, hbB, hx, d0, d1, d2⟩ := (hr.below hB).atH hlt
      have hle2 : (l.take k).length ≤ k := List.length_take_le _ _
      have hl0 := kOf_le (l.take k) id 0
      have hl1 := kOf_le (l.take k) id 1
      have hl2 := kOf_le (l.take k) id 2
      have hl3 := kOf_le (l.take k) id 3
      by_cases hid : x = id
      · subst x
        by_cases hy0 : y < 0
        · skip
          have H0 := Lib.hid (show kOf (l.take (k + 1)) id 0 = kOf (l.take (k)) id 0 by rw [take_snoc' hx, kOf_snoc]; simp; omega)
          have H1 := Lib.hid (show kOf (l.take (k + 1)) id 1 = kOf (l.take (k)) id 1 by rw [take_snoc' hx, kOf_snoc]; simp; omega)
          have H2 := Lib.hid (show kOf (l.take (k + 1)) id 2 = kOf (l.take (k)) id 2 by rw [take_snoc' hx, kOf_snoc]; simp; omega)
          have H3 := Lib.hid (show kOf (l.take (k + 1)) id 3 = kOf (l.take (k)) id 3 by rw [take_snoc' hx, kOf_snoc]; simp; omega)
          clear hx
          go_wp2
          go_roundw
          case rel => exact ⟨k + 1, by omega, by go_num, by rw [H0.out, H1.out, H2.out, H3.out]; exact b5.alloc _, b4.alloc _, hB.alloc hB.size _, by simp; omega⟩
          case measure => simp [intOf]; omega
        by_cases hy4 : 4 ≤ y
        · skip
          have H0 := Lib.hid (show kOf (l.take (k + 1)) id 0 = kOf (l.take (k)) id 0 by rw [take_snoc' hx, kOf_snoc]; simp; omega)
          have H1 := Lib.hid (show kOf (l.take (k + 1)) id 1 = kOf (l.take (k)) id 1 by rw [take_snoc' hx, kOf_snoc]; simp; omega)
          have H2 := Lib.hid (show kOf (l.take (k + 1)) id 2 = kOf (l.take (k)) id 2 by rw [take_snoc' hx, kOf_snoc]; simp; omega)
          have H3 := Lib.hid (show kOf (l.take (k + 1)) id 3 = kOf (l.take (k)) id 3 by rw [take_snoc' hx, kOf_snoc]; simp; omega)
          clear hx
          go_wp2
          go_roundw
          case rel => exact ⟨k + 1, by omega, by go_num, by rw [H0.out, H1.out, H2.out, H3.out]; exact b5.alloc _, b4.alloc _, hB.alloc hB.size _, by simp; omega⟩
          case measure => simp [intOf]; omega
        rcases (show y = 0 ∨ y = 1 ∨ y = 2 ∨ y = 3 by omega) with rfl | rfl | rfl | rfl
        · skip
          have H0 := Lib.hid (show kOf (l.take (k + 1)) id 0 = kOf (l.take (k)) id 0 + 1 by rw [take_snoc' hx, kOf_snoc]; simp)
          have H1 := Lib.hid (show kOf (l.take (k + 1)) id 1 = kOf (l.take (k)) id 1 by rw [take_snoc' hx, kOf_snoc]; simp)
          have H2 := Lib.hid (show kOf (l.take (k + 1)) id 2 = kOf (l.take (k)) id 2 by rw [take_snoc' hx, kOf_snoc]; simp)
          have H3 := Lib.hid (show kOf (l.take (k + 1)) id 3 = kOf (l.take (k)) id 3 by rw [take_snoc' hx, kOf_snoc]; simp)
          clear hx
          go_wp2
          go_roundw
          case rel =>
            have hB2 := hB.setCell (p := ⟨w.heap.size + 2, 0, none⟩) (by simp) (.int .i64 ((kOf (l.take (k)) id 0 : Nat) + 1))
            refine ⟨k + 1, by omega, by go_num, ?_, ?_, ?_, ?_⟩
            · rw [H0.out, H1.out, H2.out, H3.out]
              exact (b5.set_ 0 _).alloc _
            · exact (b4.far (by simp) _).alloc _
            · exact hB2.alloc hB2.size _
            · simp; omega
          case measure => simp [intOf]; omega
        · skip
          have H0 := Lib.hid (show kOf (l.take (k + 1)) id 0 = kOf (l.take (k)) id 0 by rw [take_snoc' hx, kOf_snoc]; simp)
          have H1 := Lib.hid (show kOf (l.take (k + 1)) id 1 = kOf (l.take (k)) id 1 + 1 by rw [take_snoc' hx, kOf_snoc]; simp)
          have H2 := Lib.hid (show kOf (l.take (k + 1)) id 2 = kOf (l.take (k)) id 2 by rw [take_snoc' hx, kOf_snoc]; simp)
          have H3 := Lib.hid (show kOf (l.take (k + 1)) id 3 = kOf (l.take (k)) id 3 by rw [take_snoc' hx, kOf_snoc]; simp)
          clear hx
          go_wp2
          go_roundw
          case rel =>
            have hB2 := hB.setCell (p := ⟨w.heap.size + 2, 1, none⟩) (by simp) (.int .i64 ((kOf (l.take (k)) id 1 : Nat) + 1))
            refine ⟨k + 1, by omega, by go_num, ?_, ?_, ?_, ?_⟩
            · rw [H0.out, H1.out, H2.out, H3.out]
              exact (b5.set_ 1 _).alloc _
            · exact (b4.far (by simp) _).alloc _
            · exact hB2.alloc hB2.size _
            · simp; omega
          case measure => simp [intOf]; omega
        · skip
          have H0 := Lib.hid (show kOf (l.take (k + 1)) id 0 = kOf (l.take (k)) id 0 by rw [take_snoc' hx, kOf_snoc]; simp)
          have H1 := Lib.hid (show kOf (l.take (k + 1)) id 1 = kOf (l.take (k)) id 1 by rw [take_snoc' hx, kOf_snoc]; simp)
          have H2 := Lib.hid (show kOf (l.take (k + 1)) id 2 = kOf (l.take (k)) id 2 + 1 by rw [take_snoc' hx, kOf_snoc]; simp)
          have H3 := Lib.hid (show kOf (l.take (k + 1)) id 3 = kOf (l.take (k)) id 3 by rw [take_snoc' hx, kOf_snoc]; simp)
          clear hx
          go_wp2
          go_roundw
          case rel =>
            have hB2 := hB.setCell (p := ⟨w.heap.size + 2, 2, none⟩) (by simp) (.int .i64 ((kOf (l.take (k)) id 2 : Nat) + 1))
            refine ⟨k + 1, by omega, by go_num, ?_, ?_, ?_, ?_⟩
            · rw [H0.out, H1.out, H2.out, H3.out]
              exact (b5.set_ 2 _).alloc _
            · exact (b4.far (by simp) _).alloc _
            · exact hB2.alloc hB2.size _
            · simp; omega
          case measure => simp [intOf]; omega
        · skip
          have H0 := Lib.hid (show kOf (l.take (k + 1)) id 0 = kOf (l.take (k)) id 0 by rw [take_snoc' hx, kOf_snoc]; simp)
          have H1 := Lib.hid (show kOf (l.take (k + 1)) id 1 = kOf (l.take (k)) id 1 by rw [take_snoc' hx, kOf_snoc]; simp)
          have H2 := Lib.hid (show kOf (l.take (k + 1)) id 2 = kOf (l.take (k)) id 2 by rw [take_snoc' hx, kOf_snoc]; simp)
          have H3 := Lib.hid (show kOf (l.take (k + 1)) id 3 = kOf (l.take (k)) id 3 + 1 by rw [take_snoc' hx, kOf_snoc]; simp)
          clear hx
          go_wp2
          go_roundw
          case rel =>
            have hB2 := hB.setCell (p := ⟨w.heap.size + 2, 3, none⟩) (by simp) (.int .i64 ((kOf (l.take (k)) id 3 : Nat) + 1))
            refine ⟨k + 1, by omega, by go_num, ?_, ?_, ?_, ?_⟩
            · rw [H0.out, H1.out, H2.out, H3.out]
              exact (b5.set_ 3 _).alloc _
            · exact (b4.far (by simp) _).alloc _
            · exact hB2.alloc hB2.size _
            · simp; omega
          case measure => simp [intOf]; omega
      · have hid' : (x == id) = false := by simpa using hid
        have H0 := Lib.hid (show kOf (l.take (k + 1)) id 0 = kOf (l.take (k)) id 0 by rw [take_snoc' hx, kOf_snoc]; simp [hid])
        have H1 := Lib.hid (show kOf (l.take (k + 1)) id 1 = kOf (l.take (k)) id 1 by rw [take_snoc' hx, kOf_snoc]; simp [hid])
        have H2 := Lib.hid (show kOf (l.take (k + 1)) id 2 = kOf (l.take (k)) id 2 by rw [take_snoc' hx, kOf_snoc]; simp [hid])
        have H3 := Lib.hid (show kOf (l.take (k + 1)) id 3 = kOf (l.take (k)) id 3 by rw [take_snoc' hx, kOf_snoc]; simp [hid])
        clear hx
        go_wp2
        go_roundw
        case rel => exact ⟨k + 1, by omega, by go_num, by rw [H0.out, H1.out, H2.out, H3.out]; exact b5.alloc _, b4.alloc _, hB.alloc hB.size _, by simp; omega⟩
        case measure => simp [intOf]; omega
    · obtain rfl : k = l.length := by omega
      rw [List.take_length] at b5
      obtain ⟨e0, e1, e2, e3⟩ := b5.c4
      have e4 := b4.lt
      have b4f := b4.frz
      obtain ⟨y0, y1, y2, y3⟩ := b4.c4
      go_wp2
      have bb := (((b4.set_ 0 (.int .i64 ((kOf l id 0 : Nat) : Int))).set_ 1 (.int .i64 ((kOf l id 1 : Nat) : Int))).set_ 2 (.int .i64 ((kOf l id 2 : Nat) : Int))).set_ 3 (.int .i64 ((kOf l id 3 : Nat) : Int))
      have hB4 := (((hB.setCell (p := ⟨w.heap.size + 1, 0, none⟩) (by simp) (.int .i64 ((kOf l id 0 : Nat) : Int))).setCell (p := ⟨w.heap.size + 1, 1, none⟩) (by simp) (.int .i64 ((kOf l id 1 : Nat) : Int))).setCell (p := ⟨w.heap.size + 1, 2, none⟩) (by simp) (.int .i64 ((kOf l id 2 : Nat) : Int))).setCell (p := ⟨w.heap.size + 1, 3, none⟩) (by simp) (.int .i64 ((kOf l id 3 : Nat) : Int))
      refine bodyPost_ret (v := .agg #[.int .i64 ((kOf l id 0 : Nat) : Int), .int .i64 ((kOf l id 1 : Nat) : Int), .int .i64 ((kOf l id 2 : Nat) : Int), .int .i64 ((kOf l id 3 : Nat) : Int)]) (results_cell_row (p := 4) (ty := 23) Try.results41 _ _ (w.heap.size + 1) 23 _ (0, 0) _ rfl bb Try.underlying23 rfl (by kernel_rfl)) rfl ⟨rfl, hB4⟩
set_option maxRecDepth 100000 in
set_option maxHeartbeats 4000000 in
theorem held_any (s : SA) (d : SD) (id : Int) (w : World) (hr : Rd 3 encH w w.heap.size s.a.A d.D.l) (hn : d.D.l.length * 24 ≤ 140737488355328) :
    Calls Try.prog 40 #[sV s d, .int .i64 id] w fun e w' => e = .returned (heldV d.D.l id) ∧ Below w.heap.size w w' := by
  obtain ⟨⟨A, ag, af, aq, am, c, cg, cf, cq, cm⟩, AF, cF⟩ := s
  obtain ⟨⟨l, m0, m1, m2, m3, G, Fa, Q, m⟩, F, k0, k1, k2, fl, cn, wt, tm⟩ := d
  simp only at hr hn ⊢
  go_enter Try.func40, Try.ntmps40
  obtain ⟨W, hW⟩ : ∃ W, W = ((w.alloc (.cells #[k0, k1, k2, .int .i64 fl, .int .i64 cn, .int .i64 wt, .int .i64 tm, .slice A l.length c, .int .i64 m0, .int .i64 m1, .int .i64 m2, .int .i64 m3, .slice ag G.length cg, .slice af Fa.length cf, .slice aq Q.length cq, .slice am m.length cm, .slice AF F.length cF] 79)).alloc (.cells #[.int .i64 0, .int .i64 0, .int .i64 0, .int .i64 0] 23)).alloc (.cells #[.int .i64 0, .int .i64 0, .int .i64 0, .int .i64 0] 23) := ⟨_, rfl⟩
  have hbW : Below w.heap.size w W := by rw [hW]; exact (((Below.refl _ w).alloc (Nat.le_refl _) _).alloc (by simp) _).alloc (by simp; omega) _
  have q1 : Blk W w.heap.size 79 #[k0, k1, k2, .int .i64 fl, .int .i64 cn, .int .i64 wt, .int .i64 tm, .slice A l.length c, .int .i64 m0, .int .i64 m1, .int .i64 m2, .int .i64 m3, .slice ag G.length cg, .slice af Fa.length cf, .slice aq Q.length cq, .slice am m.length cm, .slice AF F.length cF] := by rw [hW]; exact ((Blk.new _ _ _).alloc _).alloc _
  have q4 : Blk W (w.heap.size + 1) 23 #[.int .i64 0, .int .i64 0, .int .i64 0, .int .i64 0] := by rw [hW]; exact (Blk.new' _ _ (by simp) _ _).alloc _
  have q5 : Blk W (w.heap.size + 2) 23 #[.int .i64 0, .int .i64 0, .int .i64 0, .int .i64 0] := by rw [hW]; exact Blk.new' _ _ (by simp) _ _
  have hz : W.heap.size = w.heap.size + 3 := by rw [hW]; simp
  have hrW : Rd 3 encH W W.heap.size A l := (hr.below hbW).more (by omega)
  obtain ⟨p0, p1, p2, p3, p4, p5, p6, p7, p8, p9, p10, p11, p12, p13, p14, p15, p16⟩ := q1.c17
  go_wp2_with (go_at_call 18; refine Hid.out ?_)
  rw [← hW]
  unfold Hid
  refine (all_own A c l m0 m1 m2 m3 id W hrW hn).mono ?_
  rintro e w1 ⟨A1, c1, rfl, hO, hb1⟩
  clear hW hrW p0 p1 p2 p3 p4 p5 p6 p7 p8 p9 p10 p11 p12 p13 p14 p15 p16
  have hB1 : Below w.heap.size w w1 := below_of hbW hb1 (by omega)
  have b40 := q4.below hb1 (by omega)
  have b50 := q5.below hb1 (by omega)
  have hs1 := hb1.size
  have hml : (mineP l id).length ≤ l.length := by rw [mineP, List.length_reverse]; exact List.length_filter_le _ _
  clear q1 q4 q5 hbW hb1
  go_wp2
  go_loopw [14] (fun i wr => ∃ k : Nat, k ≤ (mineP l id).length ∧ i = .int .i64 k ∧ Blk wr (w.heap.size + 2) 23 #[.int .i64 (countK ((mineP l id).take (k)) 0 : Nat), .int .i64 (countK ((mineP l id).take (k)) 1 : Nat), .int .i64 (countK ((mineP l id).take (k)) 2 : Nat), .int .i64 (countK ((mineP l id).take (k)) 3 : Nat)] ∧ Blk wr (w.heap.size + 1) 23 #[.int .i64 0, .int .i64 0, .int .i64 0, .int .i64 0] ∧ Ow wr W.heap.size A1 c1 (mineP l id) ∧ Below w.heap.size w wr ∧ w.heap.size + 3 ≤ wr.heap.size)
    (fun i _ => (mineP l id).length - (intOf i).toNat)
  case atStart => exact ⟨0, Nat.zero_le _, rfl, b50, b40, hO, hB1, by omega⟩
  case round =>
    clear hO
    obtain ⟨k, hk, rfl, b5, b4, hO, hB, hs⟩ := hrel
    clear b40 b50 hB1
    obtain ⟨e0, e1, e2, e3⟩ := b5.c4
    have ef := b5.frz
    have el := b5.lt
    by_cases hlt : k < (mineP l id).length
    · obtain ⟨b, x, y, z, rfl, hbB, hx, d0, d1, d2⟩ := ow_h hO hlt
      have hle2 : ((mineP l id).take k).length ≤ k := List.length_take_le _ _
      have hl0 := countK_le ((mineP l id).take k) 0
      have hl1 := countK_le ((mineP l id).take k) 1
      have hl2 := countK_le ((mineP l id).take k) 2
      have hl3 := countK_le ((mineP l id).take k) 3
      by_cases hy0 : y < 0
      · skip
        have H0 := Lib.hid (show countK ((mineP l id).take (k + 1)) 0 = countK ((mineP l id).take (k)) 0 by rw [take_snoc' hx, countK_snoc]; simp; omega)
        have H1 := Lib.hid (show countK ((mineP l id).take (k + 1)) 1 = countK ((mineP l id).take (k)) 1 by rw [take_snoc' hx, countK_snoc]; simp; omega)
        have H2 := Lib.hid (show countK ((mineP l id).take (k + 1)) 2 = countK ((mineP l id).take (k)) 2 by rw [take_snoc' hx, countK_snoc]; simp; omega)
        have H3 := Lib.hid (show countK ((mineP l id).take (k + 1)) 3 = countK ((mineP l id).take (k)) 3 by rw [take_snoc' hx, countK_snoc]; simp; omega)
        clear hx
        go_wp2
        go_roundw
        case rel => exact ⟨k + 1, by omega, by go_num, by rw [H0.out, H1.out, H2.out, H3.out]; exact b5.alloc _, b4.alloc _, hO.alloc _, hB.alloc hB.size _, by simp; omega⟩
        case measure => simp [intOf]; omega
      by_cases hy4 : 4 ≤ y
      · skip
        have H0 := Lib.hid (show countK ((mineP l id).take (k + 1)) 0 = countK ((mineP l id).take (k)) 0 by rw [take_snoc' hx, countK_snoc]; simp; omega)
        have H1 := Lib.hid (show countK ((mineP l id).take (k + 1)) 1 = countK ((mineP l id).take (k)) 1 by rw [take_snoc' hx, countK_snoc]; simp; omega)
        have H2 := Lib.hid (show countK ((mineP l id).take (k + 1)) 2 = countK ((mineP l id).take (k)) 2 by rw [take_snoc' hx, countK_snoc]; simp; omega)
        have H3 := Lib.hid (show countK ((mineP l id).take (k + 1)) 3 = countK ((mineP l id).take (k)) 3 by rw [take_snoc' hx, countK_snoc]; simp; omega)
        clear hx
        go_wp2
        go_roundw
        case rel => exact ⟨k + 1, by omega, by go_num, by rw [H0.out, H1.out, H2.out, H3.out]; exact b5.alloc _, b4.alloc _, hO.alloc _, hB.alloc hB.size _, by simp; omega⟩
        case measure => simp [intOf]; omega
      rcases (show y = 0 ∨ y = 1 ∨ y = 2 ∨ y = 3 by omega) with rfl | rfl | rfl | rfl
      · skip
        have H0 := Lib.hid (show countK ((mineP l id).take (k + 1)) 0 = countK ((mineP l id).take (k)) 0 + 1 by rw [take_snoc' hx, countK_snoc]; simp)
        have H1 := Lib.hid (show countK ((mineP l id).take (k + 1)) 1 = countK ((mineP l id).take (k)) 1 by rw [take_snoc' hx, countK_snoc]; simp)
        have H2 := Lib.hid (show countK ((mineP l id).take (k + 1)) 2 = countK ((mineP l id).take (k)) 2 by rw [take_snoc' hx, countK_snoc]; simp)
        have H3 := Lib.hid (show countK ((mineP l id).take (k + 1)) 3 = countK ((mineP l id).take (k)) 3 by rw [take_snoc' hx, countK_snoc]; simp)
        clear hx
        go_wp2
        go_roundw
        case rel =>
          have hB2 := hB.setCell (p := ⟨w.heap.size + 2, 0, none⟩) (by simp) (.int .i64 ((countK ((mineP l id).take (k)) 0 : Nat) + 1))
          refine ⟨k + 1, by omega, by go_num, ?_, ?_, (hO.set_ b5 (by decide) _).alloc _, ?_, ?_⟩
          · rw [H0.out, H1.out, H2.out, H3.out]
            exact (b5.set_ 0 _).alloc _
          · exact (b4.far (by simp) _).alloc _
          · exact hB2.alloc hB2.size _
          · simp; omega
        case measure => simp [intOf]; omega
      · skip
        have H0 := Lib.hid (show countK ((mineP l id).take (k + 1)) 0 = countK ((mineP l id).take (k)) 0 by rw [take_snoc' hx, countK_snoc]; simp)
        have H1 := Lib.hid (show countK ((mineP l id).take (k + 1)) 1 = countK ((mineP l id).take (k)) 1 + 1 by rw [take_snoc' hx, countK_snoc]; simp)
        have H2 := Lib.hid (show countK ((mineP l id).take (k + 1)) 2 = countK ((mineP l id).take (k)) 2 by rw [take_snoc' hx, countK_snoc]; simp)
        have H3 := Lib.hid (show countK ((mineP l id).take (k + 1)) 3 = countK ((mineP l id).take (k)) 3 by rw [take_snoc' hx, countK_snoc]; simp)
        clear hx
        go_wp2
        go_roundw
        case rel =>
          have hB2 := hB.setCell (p := ⟨w.heap.size + 2, 1, none⟩) (by simp) (.int .i64 ((countK ((mineP l id).take (k)) 1 : Nat) + 1))
          refine ⟨k + 1, by omega, by go_num, ?_, ?_, (hO.set_ b5 (by decide) _).alloc _, ?_, ?_⟩
          · rw [H0.out, H1.out, H2.out, H3.out]
            exact (b5.set_ 1 _).alloc _
          · exact (b4.far (by simp) _).alloc _
          · exact hB2.alloc hB2.size _
          · simp; omega
        case measure => simp [intOf]; omega
      · skip
        have H0 := Lib.hid (show countK ((mineP l id).take (k + 1)) 0 = countK ((mineP l id).take (k)) 0 by rw [take_snoc' hx, countK_snoc]; simp)
        have H1 := Lib.hid (show countK ((mineP l id).take (k + 1)) 1 = countK ((mineP l id).take (k)) 1 by rw [take_snoc' hx, countK_snoc]; simp)
        have H2 := Lib.hid (show countK ((mineP l id).take (k + 1)) 2 = countK ((mineP l id).take (k)) 2 + 1 by rw [take_snoc' hx, countK_snoc]; simp)
        have H3 := Lib.hid (show countK ((mineP l id).take (k + 1)) 3 = countK ((mineP l id).take (k)) 3 by rw [take_snoc' hx, countK_snoc]; simp)
        clear hx
        go_wp2
        go_roundw
        case rel =>
          have hB2 := hB.setCell (p := ⟨w.heap.size + 2, 2, none⟩) (by simp) (.int .i64 ((countK ((mineP l id).take (k)) 2 : Nat) + 1))
          refine ⟨k + 1, by omega, by go_num, ?_, ?_, (hO.set_ b5 (by decide) _).alloc _, ?_, ?_⟩
          · rw [H0.out, H1.out, H2.out, H3.out]
            exact (b5.set_ 2 _).alloc _
          · exact (b4.far (by simp) _).alloc _
          · exact hB2.alloc hB2.size _
          · simp; omega
        case measure => simp [intOf]; omega
      · skip
        have H0 := Lib.hid (show countK ((mineP l id).take (k + 1)) 0 = countK ((mineP l id).take (k)) 0 by rw [take_snoc' hx, countK_snoc]; simp)
        have H1 := Lib.hid (show countK ((mineP l id).take (k + 1)) 1 = countK ((mineP l id).take (k)) 1 by rw [take_snoc' hx, countK_snoc]; simp)
        have H2 := Lib.hid (show countK ((mineP l id).take (k + 1)) 2 = countK ((mineP l id).take (k)) 2 by rw [take_snoc' hx, countK_snoc]; simp)
        have H3 := Lib.hid (show countK ((mineP l id).take (k + 1)) 3 = countK ((mineP l id).take (k)) 3 + 1 by rw [take_snoc' hx, countK_snoc]; simp)
        clear hx
        go_wp2
        go_roundw
        case rel =>
          have hB2 := hB.setCell (p := ⟨w.heap.size + 2, 3, none⟩) (by simp) (.int .i64 ((countK ((mineP l id).take (k)) 3 : Nat) + 1))
          refine ⟨k + 1, by omega, by go_num, ?_, ?_, (hO.set_ b5 (by decide) _).alloc _, ?_, ?_⟩
          · rw [H0.out, H1.out, H2.out, H3.out]
            exact (b5.set_ 3 _).alloc _
          · exact (b4.far (by simp) _).alloc _
          · exact hB2.alloc hB2.size _
          · simp; omega
        case measure => simp [intOf]; omega
    · obtain rfl : k = (mineP l id).length := by omega
      rw [List.take_length] at b5
      obtain ⟨e0, e1, e2, e3⟩ := b5.c4
      have e4 := b4.lt
      have b4f := b4.frz
      obtain ⟨y0, y1, y2, y3⟩ := b4.c4
      go_wp2
      have bb := (((b4.set_ 0 (.int .i64 ((countK (mineP l id) 0 : Nat) : Int))).set_ 1 (.int .i64 ((countK (mineP l id) 1 : Nat) : Int))).set_ 2 (.int .i64 ((countK (mineP l id) 2 : Nat) : Int))).set_ 3 (.int .i64 ((countK (mineP l id) 3 : Nat) : Int))
      have hB4 := (((hB.setCell (p := ⟨w.heap.size + 1, 0, none⟩) (by simp) (.int .i64 ((countK (mineP l id) 0 : Nat) : Int))).setCell (p := ⟨w.heap.size + 1, 1, none⟩) (by simp) (.int .i64 ((countK (mineP l id) 1 : Nat) : Int))).setCell (p := ⟨w.heap.size + 1, 2, none⟩) (by simp) (.int .i64 ((countK (mineP l id) 2 : Nat) : Int))).setCell (p := ⟨w.heap.size + 1, 3, none⟩) (by simp) (.int .i64 ((countK (mineP l id) 3 : Nat) : Int))
      refine bodyPost_ret (v := .agg #[.int .i64 ((countK (mineP l id) 0 : Nat) : Int), .int .i64 ((countK (mineP l id) 1 : Nat) : Int), .int .i64 ((countK (mineP l id) 2 : Nat) : Int), .int .i64 ((countK (mineP l id) 3 : Nat) : Int)]) (results_cell_row (p := 4) (ty := 23) Try.results40 _ _ (w.heap.size + 1) 23 _ (0, 0) _ rfl bb Try.underlying23 rfl (by kernel_rfl)) rfl ⟨by rw [kOf_mine, kOf_mine, kOf_mine, kOf_mine], hB4⟩
end Go.Proofs.Ytmcjgfoaiannoaa
