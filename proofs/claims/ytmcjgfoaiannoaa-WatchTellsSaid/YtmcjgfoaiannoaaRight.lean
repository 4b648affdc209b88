/-
  Right of watch: whether a server is right. Condition: the length bounds that the reach pays.
-/
import Derived.Test.YtmcjgfoaiannoaaFlight
import Derived.Test.YtmcjgfoaiannoaaAllWalk
import Derived.Deep.RegionHeld3
import Derived.Deep.DeepCutAuto
import Derived.BigQuiet
import Derived.Deep.QuietTactic
namespace Go.Proofs.Ytmcjgfoaiannoaa
open Go.RowKit

theorem RdS.up {w w' : World} {s : SA} {d : SD} (h : RdS w w.heap.size s d) (hb : Below w.heap.size w w') : RdS w' w'.heap.size s d := ⟨h.W.up hb, (h.F.below hb).more hb.size⟩
theorem Rd.takeQ {w : World} {B : Nat} {A : Option Addr} {l : List Int} (h : Rd 1 encI w B A l) (i : Nat) : Rd 1 encI w B A (l.take i) := fun hl => by
  have h0 : 0 < l.length := by rw [List.length_take] at hl; omega
  obtain ⟨b, off, e, hb, hc⟩ := h h0
  refine ⟨b, off, e, hb, fun j x hx u v hv => hc j x ?_ u v hv⟩
  rw [List.getElem?_take] at hx
  split at hx
  · exact hx
  · cases hx
theorem Rd.atF {w : World} {B : Nat} {A : Option Addr} {l : List Fl} (h : Rd 16 encFl w B A l) {i : Nat} (hi : i < l.length) : ∃ b off f, A = some ⟨b, off, none⟩ ∧ b < B ∧ l[i]? = some f ∧ ∀ j u, (encFl f)[j]? = some u → w.cell? ⟨b, off + i * 16 + j, none⟩ = some u := h.at_ hi
/-- the first kinds take no more than there is -/
def mostTo (l : List (Int × Int × Int)) (m1 m2 m3 : Int) (k : Nat) : Prop := (2 ≤ k → (countK l 1 : Int) ≤ m1) ∧ (3 ≤ k → (countK l 2 : Int) ≤ m2) ∧ (4 ≤ k → (countK l 3 : Int) ≤ m3)
theorem most_yes {l : List (Int × Int × Int)} {m1 m2 m3 : Int} {k : Nat} (h : mostTo l m1 m2 m3 k) (hk : 4 ≤ k) : mostOk l m1 m2 m3 = true := by
  obtain ⟨h1, h2, h3⟩ := h
  have h1 := h1 (by omega)
  have h2 := h2 (by omega)
  have h3 := h3 (by omega)
  simp [mostOk, h1, h2, h3]
theorem most_no1 {l : List (Int × Int × Int)} {m1 m2 m3 : Int} (h : ¬ (countK l 1 : Int) ≤ m1) : mostOk l m1 m2 m3 = false := by simp [mostOk, h]
theorem most_no2 {l : List (Int × Int × Int)} {m1 m2 m3 : Int} (h : ¬ (countK l 2 : Int) ≤ m2) : mostOk l m1 m2 m3 = false := by simp [mostOk, h]
theorem most_no3 {l : List (Int × Int × Int)} {m1 m2 m3 : Int} (h : ¬ (countK l 3 : Int) ≤ m3) : mostOk l m1 m2 m3 = false := by simp [mostOk, h]
theorem qAt_of {Q : List Int} {n i : Nat} {x : Int} (h : Q[i]? = some x) : qAt Q n i = (!((Q.take i).any (· == x)) && decide (0 ≤ x) && decide (x < n)) := by
  unfold qAt
  rw [h]
theorem fAt_of {l : List (Int × Int × Int)} {Q : List Int} {F : List Fl} {i : Nat} {f : Fl} (h : F[i]? = some f) : fAt l Q F i = (decide (f.id = i) && flOk l Q f) := by
  unfold fAt
  rw [h]

set_option maxRecDepth 100000 in
set_option maxHeartbeats 8000000 in
theorem right_any (s : SA) (d : SD) (w : World) (rr : RdS w w.heap.size s d) (hf : FitS d) (hcq : d.D.q.length ≤ s.a.cq) (hcm : s.a.cq ≤ maxLen) :
    Calls Try.prog 42 #[sV s d] w fun e w' => e = .returned (.bool (rightV d.cn d.D.l d.D.m1 d.D.m2 d.D.m3 d.D.q d.F)) ∧ Below w.heap.size w w' := by
  have hn : d.D.l.length ≤ 140737488355328 := by have := hf.W.l; omega
  have hnq : d.D.q.length ≤ 140737488355328 := by have := hf.W.q; omega
  have hnF := hf.F
  have hwq := hf.q
  obtain ⟨⟨A, ag, af, aq, am, c, cg, cf, cq, cm⟩, AF, cF⟩ := s
  obtain ⟨⟨l, m0, m1, m2, m3, G, Fa, Q, m⟩, F, k0, k1, k2, fl, cn, wt, tm⟩ := d
  simp only at hn hnq hnF hwq hcq hcm ⊢
  have rl := rr.W.l
  have rq := rr.W.q
  have rF := rr.F
  simp only at rl rq rF
  clear rr
  go_enter Try.func42, Try.ntmps42
  obtain ⟨W, hW⟩ : ∃ W, W = w.alloc (.cells #[k0, k1, k2, .int .i64 fl, .int .i64 cn, .int .i64 wt, .int .i64 tm, .slice A l.length c, .int .i64 m0, .int .i64 m1, .int .i64 m2, .int .i64 m3, .slice ag G.length cg, .slice af Fa.length cf, .slice aq Q.length cq, .slice am m.length cm, .slice AF F.length cF] 79) := ⟨_, rfl⟩
  have sb : Blk W w.heap.size 79 #[k0, k1, k2, .int .i64 fl, .int .i64 cn, .int .i64 wt, .int .i64 tm, .slice A l.length c, .int .i64 m0, .int .i64 m1, .int .i64 m2, .int .i64 m3, .slice ag G.length cg, .slice af Fa.length cf, .slice aq Q.length cq, .slice am m.length cm, .slice AF F.length cF] := by rw [hW]; exact Blk.new _ _ _
  have hB : Below w.heap.size w W := by rw [hW]; exact (Below.refl _ w).alloc (Nat.le_refl _) _
  go_wp2
  rw [← hW]
  clear hW
  go_loopw [3] (fun v wr => ∃ k : Nat, 1 ≤ k ∧ k ≤ 4 ∧ v = .int .i64 k ∧ Hid (mostTo l m1 m2 m3 k) ∧ Blk wr w.heap.size 79 #[k0, k1, k2, .int .i64 fl, .int .i64 cn, .int .i64 wt, .int .i64 tm, .slice A l.length c, .int .i64 m0, .int .i64 m1, .int .i64 m2, .int .i64 m3, .slice ag G.length cg, .slice af Fa.length cf, .slice aq Q.length cq, .slice am m.length cm, .slice AF F.length cF] ∧ Below w.heap.size w wr)
    (fun v _ => 4 - (intOf v).toNat)
  case atStart => exact ⟨1, by omega, by omega, rfl, Lib.hid ⟨fun h => by omega, fun h => by omega, fun h => by omega⟩, sb, hB⟩
  case round =>
    clear sb hB
    obtain ⟨k, hk1, hk4, rfl, HM, sb, hB⟩ := hrel
    by_cases hk : k ≤ 3
    · have rl := (rl.below hB).more hB.size
      obtain ⟨p0, p1, p2, p3, p4, p5, p6, p7, p8, p9, p10, p11, p12, p13, p14, p15, p16⟩ := sb.c17
      have bl := sb.lt
      rcases (show k = 1 ∨ k = 2 ∨ k = 3 by omega) with rfl | rfl | rfl
      · by_cases hm : (countK l 1 : Int) ≤ m1
        · have HM2 : Hid (mostTo l m1 m2 m3 2) := Lib.hid ⟨fun _ => hm, fun h => by omega, fun h => by omega⟩
          go_upto_region 4 with fail
          go_region_held3 (fun wx => wx.cell? ⟨w.heap.size, 7, none⟩ = some (.slice A l.length c) ∧ wx.cell? ⟨w.heap.size, 8, none⟩ = some (.int .i64 m0) ∧ wx.cell? ⟨w.heap.size, 9, none⟩ = some (.int .i64 m1) ∧ wx.cell? ⟨w.heap.size, 10, none⟩ = some (.int .i64 m2) ∧ wx.cell? ⟨w.heap.size, 11, none⟩ = some (.int .i64 m3)) (exact ⟨p7, p8, p9, p10, p11⟩)
            (first
            | (go_at_call 13
               with_reducible refine (count_any A c l m0 m1 m2 m3 1 _ ?_ hn).mono ?_
               · exact rl
               rintro e w1 ⟨rfl, hb⟩
               repeat (have hb := below_undrew' hb)
               have sb := sb.below hb sb.lt
               have hB := hB.trans (hb.mono hB.size)
               have rl := (rl.below hb).more hb.size
               obtain ⟨p0, p1, p2, p3, p4, p5, p6, p7, p8, p9, p10, p11, p12, p13, p14, p15, p16⟩ := sb.c17))
          all_goals
            go_wp2
            go_roundw
            case rel => exact ⟨2, by omega, by omega, by go_num, HM2, sb, hB⟩
            case measure => simp [intOf]
        · have hv : rightV cn l m1 m2 m3 Q F = false := right_most (most_no1 hm)
          go_upto_region 4 with fail
          go_region_held3 (fun wx => wx.cell? ⟨w.heap.size, 7, none⟩ = some (.slice A l.length c) ∧ wx.cell? ⟨w.heap.size, 8, none⟩ = some (.int .i64 m0) ∧ wx.cell? ⟨w.heap.size, 9, none⟩ = some (.int .i64 m1) ∧ wx.cell? ⟨w.heap.size, 10, none⟩ = some (.int .i64 m2) ∧ wx.cell? ⟨w.heap.size, 11, none⟩ = some (.int .i64 m3)) (exact ⟨p7, p8, p9, p10, p11⟩)
            (first
            | (go_at_call 13
               with_reducible refine (count_any A c l m0 m1 m2 m3 1 _ ?_ hn).mono ?_
               · exact rl
               rintro e w1 ⟨rfl, hb⟩
               repeat (have hb := below_undrew' hb)
               have sb := sb.below hb sb.lt
               have hB := hB.trans (hb.mono hB.size)
               have rl := (rl.below hb).more hb.size
               obtain ⟨p0, p1, p2, p3, p4, p5, p6, p7, p8, p9, p10, p11, p12, p13, p14, p15, p16⟩ := sb.c17))
          all_goals
            go_wp2
            go_ret
            rw [hv]
            exact ⟨rfl, hB⟩
      · by_cases hm : (countK l 2 : Int) ≤ m2
        · have HM2 : Hid (mostTo l m1 m2 m3 3) := Lib.hid ⟨fun _ => HM.out.1 (by omega), fun _ => hm, fun h => by omega⟩
          go_upto_region 4 with fail
          go_region_held3 (fun wx => wx.cell? ⟨w.heap.size, 7, none⟩ = some (.slice A l.length c) ∧ wx.cell? ⟨w.heap.size, 8, none⟩ = some (.int .i64 m0) ∧ wx.cell? ⟨w.heap.size, 9, none⟩ = some (.int .i64 m1) ∧ wx.cell? ⟨w.heap.size, 10, none⟩ = some (.int .i64 m2) ∧ wx.cell? ⟨w.heap.size, 11, none⟩ = some (.int .i64 m3)) (exact ⟨p7, p8, p9, p10, p11⟩)
            (first
            | (go_at_call 13
               with_reducible refine (count_any A c l m0 m1 m2 m3 2 _ ?_ hn).mono ?_
               · exact rl
               rintro e w1 ⟨rfl, hb⟩
               repeat (have hb := below_undrew' hb)
               have sb := sb.below hb sb.lt
               have hB := hB.trans (hb.mono hB.size)
               have rl := (rl.below hb).more hb.size
               obtain ⟨p0, p1, p2, p3, p4, p5, p6, p7, p8, p9, p10, p11, p12, p13, p14, p15, p16⟩ := sb.c17))
          all_goals
            go_wp2
            go_roundw
            case rel => exact ⟨3, by omega, by omega, by go_num, HM2, sb, hB⟩
            case measure => simp [intOf]
        · have hv : rightV cn l m1 m2 m3 Q F = false := right_most (most_no2 hm)
          go_upto_region 4 with fail
          go_region_held3 (fun wx => wx.cell? ⟨w.heap.size, 7, none⟩ = some (.slice A l.length c) ∧ wx.cell? ⟨w.heap.size, 8, none⟩ = some (.int .i64 m0) ∧ wx.cell? ⟨w.heap.size, 9, none⟩ = some (.int .i64 m1) ∧ wx.cell? ⟨w.heap.size, 10, none⟩ = some (.int .i64 m2) ∧ wx.cell? ⟨w.heap.size, 11, none⟩ = some (.int .i64 m3)) (exact ⟨p7, p8, p9, p10, p11⟩)
            (first
            | (go_at_call 13
               with_reducible refine (count_any A c l m0 m1 m2 m3 2 _ ?_ hn).mono ?_
               · exact rl
               rintro e w1 ⟨rfl, hb⟩
               repeat (have hb := below_undrew' hb)
               have sb := sb.below hb sb.lt
               have hB := hB.trans (hb.mono hB.size)
               have rl := (rl.below hb).more hb.size
               obtain ⟨p0, p1, p2, p3, p4, p5, p6, p7, p8, p9, p10, p11, p12, p13, p14, p15, p16⟩ := sb.c17))
          all_goals
            go_wp2
            go_ret
            rw [hv]
            exact ⟨rfl, hB⟩
      · by_cases hm : (countK l 3 : Int) ≤ m3
        · have HM2 : Hid (mostTo l m1 m2 m3 4) := Lib.hid ⟨fun _ => HM.out.1 (by omega), fun _ => HM.out.2.1 (by omega), fun _ => hm⟩
          go_upto_region 4 with fail
          go_region_held3 (fun wx => wx.cell? ⟨w.heap.size, 7, none⟩ = some (.slice A l.length c) ∧ wx.cell? ⟨w.heap.size, 8, none⟩ = some (.int .i64 m0) ∧ wx.cell? ⟨w.heap.size, 9, none⟩ = some (.int .i64 m1) ∧ wx.cell? ⟨w.heap.size, 10, none⟩ = some (.int .i64 m2) ∧ wx.cell? ⟨w.heap.size, 11, none⟩ = some (.int .i64 m3)) (exact ⟨p7, p8, p9, p10, p11⟩)
            (first
            | (go_at_call 13
               with_reducible refine (count_any A c l m0 m1 m2 m3 3 _ ?_ hn).mono ?_
               · exact rl
               rintro e w1 ⟨rfl, hb⟩
               repeat (have hb := below_undrew' hb)
               have sb := sb.below hb sb.lt
               have hB := hB.trans (hb.mono hB.size)
               have rl := (rl.below hb).more hb.size
               obtain ⟨p0, p1, p2, p3, p4, p5, p6, p7, p8, p9, p10, p11, p12, p13, p14, p15, p16⟩ := sb.c17))
          all_goals
            go_wp2
            go_roundw
            case rel => exact ⟨4, by omega, by omega, by go_num, HM2, sb, hB⟩
            case measure => simp [intOf]
        · have hv : rightV cn l m1 m2 m3 Q F = false := right_most (most_no3 hm)
          go_upto_region 4 with fail
          go_region_held3 (fun wx => wx.cell? ⟨w.heap.size, 7, none⟩ = some (.slice A l.length c) ∧ wx.cell? ⟨w.heap.size, 8, none⟩ = some (.int .i64 m0) ∧ wx.cell? ⟨w.heap.size, 9, none⟩ = some (.int .i64 m1) ∧ wx.cell? ⟨w.heap.size, 10, none⟩ = some (.int .i64 m2) ∧ wx.cell? ⟨w.heap.size, 11, none⟩ = some (.int .i64 m3)) (exact ⟨p7, p8, p9, p10, p11⟩)
            (first
            | (go_at_call 13
               with_reducible refine (count_any A c l m0 m1 m2 m3 3 _ ?_ hn).mono ?_
               · exact rl
               rintro e w1 ⟨rfl, hb⟩
               repeat (have hb := below_undrew' hb)
               have sb := sb.below hb sb.lt
               have hB := hB.trans (hb.mono hB.size)
               have rl := (rl.below hb).more hb.size
               obtain ⟨p0, p1, p2, p3, p4, p5, p6, p7, p8, p9, p10, p11, p12, p13, p14, p15, p16⟩ := sb.c17))
          all_goals
            go_wp2
            go_ret
            rw [hv]
            exact ⟨rfl, hB⟩
    · have h4 : 4 ≤ k := by omega
      have HMO : Hid (mostOk l m1 m2 m3 = true) := Lib.hid (most_yes HM.out h4)
      clear HM
      obtain ⟨p0, p1, p2, p3, p4, p5, p6, p7, p8, p9, p10, p11, p12, p13, p14, p15, p16⟩ := sb.c17
      go_wp2
      go_loopw [27] (fun i wr => ∃ j : Nat, j ≤ Q.length ∧ i = .int .i64 j ∧ Hid (allTo (qAt Q F.length) j = true) ∧ Blk wr w.heap.size 79 #[k0, k1, k2, .int .i64 fl, .int .i64 cn, .int .i64 wt, .int .i64 tm, .slice A l.length c, .int .i64 m0, .int .i64 m1, .int .i64 m2, .int .i64 m3, .slice ag G.length cg, .slice af Fa.length cf, .slice aq Q.length cq, .slice am m.length cm, .slice AF F.length cF] ∧ Below w.heap.size w wr)
        (fun i _ => Q.length - (intOf i).toNat)
      case atStart => exact ⟨0, Nat.zero_le _, rfl, Lib.hid rfl, sb, hB⟩
      case round =>
        clear sb hB p0 p1 p2 p3 p4 p5 p6 p7 p8 p9 p10 p11 p12 p13 p14 p15 p16
        obtain ⟨j, hj, rfl, HQ, sb, hB⟩ := hrel
        obtain ⟨p0, p1, p2, p3, p4, p5, p6, p7, p8, p9, p10, p11, p12, p13, p14, p15, p16⟩ := sb.c17
        have bl := sb.lt
        have hBs := hB.size
        by_cases hlt : j < Q.length
        · have rqw := (rq.below hB).more hBs
          obtain ⟨b, off, x, rfl, hbB, hx, c0⟩ := rqw.atI hlt
          have hjq : j ≤ cq := by omega
          have hlen : (Q.take j).length = j := by rw [List.length_take]; omega
          have hqa := qAt_of (n := F.length) hx
          obtain ⟨q, hq⟩ : ∃ q, q = (Q.take j).any (· == x) := ⟨_, rfl⟩
          have HC := fun wz hz => containsI_any (some ⟨b, off, none⟩) cq (Q.take j) x wz w.heap.size hz (by omega)
          rw [hlen, ← hq] at HC
          have HC := Lib.hid HC
          have hqt := Rd.takeQ (rq.below hB) j
          rw [← hq] at hqa
          have HX := Lib.hid hx
          clear hq hlen hx rqw
          cases q
          · by_cases hx0 : x < 0
            · have hv : rightV cn l m1 m2 m3 Q F = false := right_q hlt (by rw [hqa]; simp; omega)
              as_aux_lemma =>
                go_wp2_with (first | (go_at_call 56; refine Hid.out ?_) | go_in)
                unfold Hid
                refine (HC.out _ hqt).mono ?_
                rintro e w1 ⟨rfl, rfl⟩
                go_wp2
                go_ret
                try rw [hv]
                exact ⟨rfl, hB⟩
            · by_cases hxF : x < F.length
              · have hq1 : qAt Q F.length j = true := by rw [hqa]; simp; omega
                have HQ2 := Lib.hid (allTo_succ HQ.out hq1)
                clear hqa hq1
                go_wp2_with (first | (go_at_call 56; refine Hid.out ?_) | go_in)
                unfold Hid
                refine (HC.out _ hqt).mono ?_
                rintro e w1 ⟨rfl, rfl⟩
                go_wp2
                go_roundw
                case rel => exact ⟨j + 1, by omega, by go_num, HQ2, sb, hB⟩
                case measure => simp [intOf]; omega
              · have hv : rightV cn l m1 m2 m3 Q F = false := right_q hlt (by rw [hqa]; simp; omega)
                as_aux_lemma =>
                  go_wp2_with (first | (go_at_call 56; refine Hid.out ?_) | go_in)
                  unfold Hid
                  refine (HC.out _ hqt).mono ?_
                  rintro e w1 ⟨rfl, rfl⟩
                  go_wp2
                  go_ret
                  try rw [hv]
                  exact ⟨rfl, hB⟩
          · have hv : rightV cn l m1 m2 m3 Q F = false := right_q hlt (by rw [hqa]; simp)
            as_aux_lemma =>
              go_wp2_with (first | (go_at_call 56; refine Hid.out ?_) | go_in)
              unfold Hid
              refine (HC.out _ hqt).mono ?_
              rintro e w1 ⟨rfl, rfl⟩
              go_wp2
              go_ret
              try rw [hv]
              exact ⟨rfl, hB⟩
        · have HQ2 : Hid (allTo (qAt Q F.length) Q.length = true) := by
            have : j = Q.length := by omega
            rw [← this]
            exact HQ
          clear HQ
          have rlw := (rl.below hB).more hBs
          have jQ : Q.length ≤ j := by omega
          go_upto_region 12 with fail
          obtain ⟨lo, hlo⟩ : ∃ lo, (!leaseOk l Q cn) = lo := ⟨_, rfl⟩
          have HL := Lib.hid hlo
          clear hlo
          go_cut [65] (fun t wx => t = .bool lo ∧ Blk wx w.heap.size 79 #[k0, k1, k2, .int .i64 fl, .int .i64 cn, .int .i64 wt, .int .i64 tm, .slice A l.length c, .int .i64 m0, .int .i64 m1, .int .i64 m2, .int .i64 m3, .slice ag G.length cg, .slice af Fa.length cf, .slice aq Q.length cq, .slice am m.length cm, .slice AF F.length cF] ∧ Below w.heap.size w wx)
          case first =>
            by_cases hQ0 : Q.length = 0
            · have hl := HL.out
              simp only [leaseOk, hQ0, decide_true, Bool.true_or, Bool.not_true] at hl
              cases lo
              case true => cases hl
              clear hl
              have hd1 : decide ((0 : Int) < (Q.length : Int)) = false := decide_eq_false (by omega)
              have hd2 : decide (0 < Q.length) = false := decide_eq_false (by omega)
              go_quiet (fail)
              go_wp2_with fail
              go_meet
              exact ⟨rfl, sb, below_drewN hB _⟩
            have hd1 : decide ((0 : Int) < (Q.length : Int)) = true := decide_eq_true (by omega)
            have hd2 : decide (0 < Q.length) = true := decide_eq_true (by omega)
            have hd3 : decide (Q = []) = false := decide_eq_false (fun h => by rw [h] at hQ0; exact hQ0 rfl)
            have hd4 : Q ≠ [] := fun h => by rw [h] at hQ0; exact hQ0 rfl
            have hl := HL.out
            rw [leaseOk, decide_eq_false hQ0, Bool.false_or] at hl
            cases lo
            case true =>
              have hl : decide (cn ≤ (countK l 2 : Int)) = false := by simpa using hl
              have hcn : ¬ cn ≤ (countK l 2 : Int) := of_decide_eq_false hl
              have hcn1 : decide ((countK l 2 : Int) < cn) = true := decide_eq_true (by omega)
              clear hl
              go_region_held3 (fun wx => wx.cell? ⟨w.heap.size, 7, none⟩ = some (.slice A l.length c) ∧ wx.cell? ⟨w.heap.size, 8, none⟩ = some (.int .i64 m0) ∧ wx.cell? ⟨w.heap.size, 9, none⟩ = some (.int .i64 m1) ∧ wx.cell? ⟨w.heap.size, 10, none⟩ = some (.int .i64 m2) ∧ wx.cell? ⟨w.heap.size, 11, none⟩ = some (.int .i64 m3) ∧ wx.cell? ⟨w.heap.size, 14, none⟩ = some (.slice aq Q.length cq) ∧ wx.cell? ⟨w.heap.size, 4, none⟩ = some (.int .i64 cn)) (exact ⟨p7, p8, p9, p10, p11, p14, p4⟩)
                (first
                | (go_at_call 13
                   with_reducible refine (count_any A c l m0 m1 m2 m3 2 _ ?_ hn).mono ?_
                   · exact rlw
                   rintro e w1 ⟨rfl, hb⟩
                   repeat (have hb := below_undrew' hb)
                   have sb := sb.below hb sb.lt
                   have hB := hB.trans (hb.mono hB.size)
                   have rlw := (rlw.below hb).more hb.size
                   obtain ⟨p0, p1, p2, p3, p4, p5, p6, p7, p8, p9, p10, p11, p12, p13, p14, p15, p16⟩ := sb.c17))
              all_goals
                go_wp2_with fail
                go_meet
                exact ⟨rfl, sb, by first | exact hB | exact below_drewN hB _⟩
            case false =>
              have hl : decide (cn ≤ (countK l 2 : Int)) = true := by simpa using hl
              have hcn : cn ≤ (countK l 2 : Int) := of_decide_eq_true hl
              have hcn1 : decide ((countK l 2 : Int) < cn) = false := decide_eq_false (by omega)
              clear hl
              go_region_held3 (fun wx => wx.cell? ⟨w.heap.size, 7, none⟩ = some (.slice A l.length c) ∧ wx.cell? ⟨w.heap.size, 8, none⟩ = some (.int .i64 m0) ∧ wx.cell? ⟨w.heap.size, 9, none⟩ = some (.int .i64 m1) ∧ wx.cell? ⟨w.heap.size, 10, none⟩ = some (.int .i64 m2) ∧ wx.cell? ⟨w.heap.size, 11, none⟩ = some (.int .i64 m3) ∧ wx.cell? ⟨w.heap.size, 14, none⟩ = some (.slice aq Q.length cq) ∧ wx.cell? ⟨w.heap.size, 4, none⟩ = some (.int .i64 cn)) (exact ⟨p7, p8, p9, p10, p11, p14, p4⟩)
                (first
                | (go_at_call 13
                   with_reducible refine (count_any A c l m0 m1 m2 m3 2 _ ?_ hn).mono ?_
                   · exact rlw
                   rintro e w1 ⟨rfl, hb⟩
                   repeat (have hb := below_undrew' hb)
                   have sb := sb.below hb sb.lt
                   have hB := hB.trans (hb.mono hB.size)
                   have rlw := (rlw.below hb).more hb.size
                   obtain ⟨p0, p1, p2, p3, p4, p5, p6, p7, p8, p9, p10, p11, p12, p13, p14, p15, p16⟩ := sb.c17))
              all_goals
                go_wp2_with fail
                go_meet
                exact ⟨rfl, sb, by first | exact hB | exact below_drewN hB _⟩
          case rest =>
            clear sb hB p0 p1 p2 p3 p4 p5 p6 p7 p8 p9 p10 p11 p12 p13 p14 p15 p16 rlw bl hBs
            obtain ⟨rfl, sb, hB⟩ := hcut
            cases lo
            case true =>
              have hv : rightV cn l m1 m2 m3 Q F = false := right_lease (by simpa using HL.out)
              go_wp2
              go_ret
              try rw [hv]
              exact ⟨rfl, hB⟩
            have hlo : leaseOk l Q cn = true := by simpa using HL.out
            have HL := Lib.hid hlo
            clear hlo
            obtain ⟨p0, p1, p2, p3, p4, p5, p6, p7, p8, p9, p10, p11, p12, p13, p14, p15, p16⟩ := sb.c17
            have bl := sb.lt
            go_wp2
            go_loopw [69] (fun i wr => ∃ u : Nat, u ≤ F.length ∧ i = .int .i64 u ∧ Hid (allTo (fAt l Q F) u = true) ∧ Blk wr w.heap.size 79 #[k0, k1, k2, .int .i64 fl, .int .i64 cn, .int .i64 wt, .int .i64 tm, .slice A l.length c, .int .i64 m0, .int .i64 m1, .int .i64 m2, .int .i64 m3, .slice ag G.length cg, .slice af Fa.length cf, .slice aq Q.length cq, .slice am m.length cm, .slice AF F.length cF] ∧ Below w.heap.size w wr)
              (fun i _ => F.length - (intOf i).toNat)
            case atStart => exact ⟨0, Nat.zero_le _, rfl, Lib.hid rfl, sb, hB⟩
            case round =>
              clear sb hB p0 p1 p2 p3 p4 p5 p6 p7 p8 p9 p10 p11 p12 p13 p14 p15 p16 bl
              obtain ⟨u, hu, rfl, HF, sb, hB⟩ := hrel
              obtain ⟨p0, p1, p2, p3, p4, p5, p6, p7, p8, p9, p10, p11, p12, p13, p14, p15, p16⟩ := sb.c17
              have bl := sb.lt
              have hBs := hB.size
              by_cases hltF : u < F.length
              · have rFw := (rF.below hB).more hBs
                obtain ⟨b, off, f, rfl, hbB, hx, hc⟩ := rFw.atF hltF
                have x0 : wr.cell? ⟨b, off + u * 16, none⟩ = some (.int .i64 f.id) := hc 0 _ rfl
                have x1 := hc 1 _ rfl
                have x7 := hc 7 _ rfl
                have x14 := hc 14 _ rfl
                have hfa := fAt_of (l := l) (Q := Q) hx
                have HFL := flight_any ⟨⟨A, ag, af, aq, am, c, cg, cf, cq, cm⟩, some ⟨b, off, none⟩, cF⟩ ⟨⟨l, m0, m1, m2, m3, G, Fa, Q, m⟩, F, k0, k1, k2, fl, cn, wt, tm⟩ w.heap.size b (off + u * 16) f wr sb hf hbB x0 x1 x7 x14 ((rl.below hB).more hBs) ((rq.below hB).more hBs)
                have HFL := Lib.hid HFL
                simp only at HFL
                clear hc x1 x7 x14 hx rFw
                by_cases hid : f.id = (u : Int)
                · rw [hid] at x0
                  obtain ⟨v, hvv⟩ : ∃ v, v = flOk l Q f := ⟨_, rfl⟩
                  rw [← hvv] at HFL hfa
                  clear hvv
                  cases v
                  · have hv : rightV cn l m1 m2 m3 Q F = false := right_f hltF (by rw [hfa]; simp)
                    go_wp2_with (first | (go_at_call 59; refine Hid.out ?_) | go_in)
                    unfold Hid
                    refine HFL.out.mono ?_
                    rintro e w1 ⟨rfl, hb⟩
                    have hB := hB.trans (hb.mono hB.size)
                    go_wp2
                    go_ret
                    try rw [hv]
                    exact ⟨rfl, hB⟩
                  · have HF2 := Lib.hid (allTo_succ HF.out (show fAt l Q F u = true by rw [hfa]; simp [hid]))
                    go_wp2_with (first | (go_at_call 59; refine Hid.out ?_) | go_in)
                    unfold Hid
                    refine HFL.out.mono ?_
                    rintro e w1 ⟨rfl, hb⟩
                    have hB := hB.trans (hb.mono hB.size)
                    have sb := sb.below hb sb.lt
                    go_wp2
                    go_roundw
                    case rel => exact ⟨u + 1, by omega, by go_num, HF2, sb, hB⟩
                    case measure => simp [intOf]; omega
                · have hv : rightV cn l m1 m2 m3 Q F = false := right_f hltF (by rw [hfa]; simp [hid])
                  have h1 : (f.id == (u : Int)) = false := by simpa using hid
                  have h2 : (f.id != (u : Int)) = true := by simpa using hid
                  go_wp2
                  go_ret
                  try rw [hv]
                  exact ⟨rfl, hB⟩
              · have HF2 : allTo (fAt l Q F) F.length = true := by
                  have : u = F.length := by omega
                  rw [← this]
                  exact HF.out
                have hv : rightV cn l m1 m2 m3 Q F = true := right_yes HMO.out HQ2.out HL.out HF2
                have uF : F.length ≤ u := by omega
                clear HF HF2
                go_wp2
                go_ret
                try rw [hv]
                exact ⟨rfl, hB⟩
end Go.Proofs.Ytmcjgfoaiannoaa
