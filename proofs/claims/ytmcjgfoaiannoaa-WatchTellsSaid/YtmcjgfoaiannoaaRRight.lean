/-
  The reference's Right: whether a server is right, by a map. Condition: the length bounds that the reach pays.
-/
import Derived.Test.YtmcjgfoaiannoaaRight
import Derived.Test.YtmcjgfoaiannoaaRMap
namespace Go.Proofs.Ytmcjgfoaiannoaa
open Go.RowKit

theorem Blk.range {w : World} {g : Nat} {t : TypeId} {cs : List Value} (h : Blk w g t cs.toArray) : w.rangeAt g 0 cs := fun j v hv => by
  rw [Nat.zero_add, h.cell j]
  simpa using hv
set_option maxRecDepth 100000 in
set_option maxHeartbeats 8000000 in
theorem rright_any (s : SA) (d : SD) (w : World) (rr : RdS w w.heap.size s d) (hf : FitS d) :
    Calls Try.prog 43 #[sV s d] w fun e w' => e = .returned (.bool (rightV d.cn d.D.l d.D.m1 d.D.m2 d.D.m3 d.D.q d.F)) ∧ Below w.heap.size w w' := by
  have hn : d.D.l.length * 24 ≤ 140737488355328 := by have := hf.W.l; omega
  have hnq : d.D.q.length ≤ 140737488355328 := by have := hf.W.q; omega
  have hnF := hf.F
  have hwq := hf.q
  obtain ⟨⟨A, ag, af, aq, am, c, cg, cf, cq, cm⟩, AF, cF⟩ := s
  obtain ⟨⟨l, m0, m1, m2, m3, G, Fa, Q, m⟩, F, k0, k1, k2, fl, cn, ws, tm⟩ := d
  simp only at hn hnq hnF hwq ⊢
  have rl := rr.W.l
  have rq := rr.W.q
  have rF := rr.F
  simp only at rl rq rF
  clear rr hf
  go_enter Try.func43, Try.ntmps43
  obtain ⟨W, hW⟩ : ∃ W, W = (w.alloc (.cells #[k0, k1, k2, .int .i64 fl, .int .i64 cn, .int .i64 ws, .int .i64 tm, .slice A l.length c, .int .i64 m0, .int .i64 m1, .int .i64 m2, .int .i64 m3, .slice ag G.length cg, .slice af Fa.length cf, .slice aq Q.length cq, .slice am m.length cm, .slice AF F.length cF] 79)).alloc (.cells #[.int .i64 0, .int .i64 0, .int .i64 0, .int .i64 0] 23) := ⟨_, rfl⟩
  have sb : Blk W w.heap.size 79 #[k0, k1, k2, .int .i64 fl, .int .i64 cn, .int .i64 ws, .int .i64 tm, .slice A l.length c, .int .i64 m0, .int .i64 m1, .int .i64 m2, .int .i64 m3, .slice ag G.length cg, .slice af Fa.length cf, .slice aq Q.length cq, .slice am m.length cm, .slice AF F.length cF] := by rw [hW]; exact (Blk.new _ _ _).alloc _
  have b3 : Blk W (w.heap.size + 1) 23 #[.int .i64 0, .int .i64 0, .int .i64 0, .int .i64 0] := by rw [hW]; exact Blk.new' _ _ (by simp) _ _
  have hB : Below w.heap.size w W := by rw [hW]; exact ((Below.refl _ w).alloc (Nat.le_refl _) _).alloc (by simp) _
  go_wp2
  rw [← hW]
  clear hW
  go_loopw [19] (fun i wr => ∃ k : Nat, k ≤ l.length ∧ i = .int .i64 k ∧ Blk wr w.heap.size 79 #[k0, k1, k2, .int .i64 fl, .int .i64 cn, .int .i64 ws, .int .i64 tm, .slice A l.length c, .int .i64 m0, .int .i64 m1, .int .i64 m2, .int .i64 m3, .slice ag G.length cg, .slice af Fa.length cf, .slice aq Q.length cq, .slice am m.length cm, .slice AF F.length cF] ∧ Blk wr (w.heap.size + 1) 23 #[.int .i64 (countK (l.take (k)) 0 : Nat), .int .i64 (countK (l.take (k)) 1 : Nat), .int .i64 (countK (l.take (k)) 2 : Nat), .int .i64 (countK (l.take (k)) 3 : Nat)] ∧ Below w.heap.size w wr)
    (fun i _ => l.length - (intOf i).toNat)
  case atStart => exact ⟨0, Nat.zero_le _, rfl, sb, b3, hB⟩
  case round =>
    clear sb b3 hB
    obtain ⟨k, hk, rfl, sb, b3, hB⟩ := hrel
    have e3l := b3.lt
    by_cases hlt : k < l.length
    · obtain ⟨e0, e1, e2, e3⟩ := b3.c4
      have ef := b3.frz
      have sl := sb.lt
      obtain ⟨b, off, x, y, z, rfl, hbB, hx, d0, d1, d2⟩ := (rl.below hB).atH hlt
      have hle2 : (l.take k).length ≤ k := List.length_take_le _ _
      have hl0 := countK_le (l.take k) 0
      have hl1 := countK_le (l.take k) 1
      have hl2 := countK_le (l.take k) 2
      have hl3 := countK_le (l.take k) 3
      by_cases hy0 : y < 0
      · skip
        have H0 := Lib.hid (show countK (l.take (k + 1)) 0 = countK (l.take (k)) 0 by rw [take_snoc' hx, countK_snoc]; simp; omega)
        have H1 := Lib.hid (show countK (l.take (k + 1)) 1 = countK (l.take (k)) 1 by rw [take_snoc' hx, countK_snoc]; simp; omega)
        have H2 := Lib.hid (show countK (l.take (k + 1)) 2 = countK (l.take (k)) 2 by rw [take_snoc' hx, countK_snoc]; simp; omega)
        have H3 := Lib.hid (show countK (l.take (k + 1)) 3 = countK (l.take (k)) 3 by rw [take_snoc' hx, countK_snoc]; simp; omega)
        clear hx
        as_aux_lemma =>
          go_wp2
          go_roundw
          case rel => exact ⟨k + 1, by omega, by go_num, sb.alloc _, by rw [H0.out, H1.out, H2.out, H3.out]; exact b3.alloc _, hB.alloc hB.size _⟩
          case measure => simp [intOf]; omega
      by_cases hy4 : 4 ≤ y
      · skip
        have H0 := Lib.hid (show countK (l.take (k + 1)) 0 = countK (l.take (k)) 0 by rw [take_snoc' hx, countK_snoc]; simp; omega)
        have H1 := Lib.hid (show countK (l.take (k + 1)) 1 = countK (l.take (k)) 1 by rw [take_snoc' hx, countK_snoc]; simp; omega)
        have H2 := Lib.hid (show countK (l.take (k + 1)) 2 = countK (l.take (k)) 2 by rw [take_snoc' hx, countK_snoc]; simp; omega)
        have H3 := Lib.hid (show countK (l.take (k + 1)) 3 = countK (l.take (k)) 3 by rw [take_snoc' hx, countK_snoc]; simp; omega)
        clear hx
        as_aux_lemma =>
          go_wp2
          go_roundw
          case rel => exact ⟨k + 1, by omega, by go_num, sb.alloc _, by rw [H0.out, H1.out, H2.out, H3.out]; exact b3.alloc _, hB.alloc hB.size _⟩
          case measure => simp [intOf]; omega
      rcases (show y = 0 ∨ y = 1 ∨ y = 2 ∨ y = 3 by omega) with rfl | rfl | rfl | rfl
      · skip
        have H0 := Lib.hid (show countK (l.take (k + 1)) 0 = countK (l.take (k)) 0 + 1 by rw [take_snoc' hx, countK_snoc]; simp)
        have H1 := Lib.hid (show countK (l.take (k + 1)) 1 = countK (l.take (k)) 1 by rw [take_snoc' hx, countK_snoc]; simp)
        have H2 := Lib.hid (show countK (l.take (k + 1)) 2 = countK (l.take (k)) 2 by rw [take_snoc' hx, countK_snoc]; simp)
        have H3 := Lib.hid (show countK (l.take (k + 1)) 3 = countK (l.take (k)) 3 by rw [take_snoc' hx, countK_snoc]; simp)
        clear hx
        as_aux_lemma =>
          go_wp2
          go_roundw
          case rel =>
            have hB2 := hB.setCell (p := ⟨w.heap.size + 1, 0, none⟩) (by simp) (.int .i64 ((countK (l.take (k)) 0 : Nat) + 1))
            refine ⟨k + 1, by omega, by go_num, (sb.far (by simp) _).alloc _, ?_, ?_⟩
            · rw [H0.out, H1.out, H2.out, H3.out]
              exact (b3.set_ 0 _).alloc _
            · exact hB2.alloc hB2.size _
          case measure => simp [intOf]; omega
      · skip
        have H0 := Lib.hid (show countK (l.take (k + 1)) 0 = countK (l.take (k)) 0 by rw [take_snoc' hx, countK_snoc]; simp)
        have H1 := Lib.hid (show countK (l.take (k + 1)) 1 = countK (l.take (k)) 1 + 1 by rw [take_snoc' hx, countK_snoc]; simp)
        have H2 := Lib.hid (show countK (l.take (k + 1)) 2 = countK (l.take (k)) 2 by rw [take_snoc' hx, countK_snoc]; simp)
        have H3 := Lib.hid (show countK (l.take (k + 1)) 3 = countK (l.take (k)) 3 by rw [take_snoc' hx, countK_snoc]; simp)
        clear hx
        as_aux_lemma =>
          go_wp2
          go_roundw
          case rel =>
            have hB2 := hB.setCell (p := ⟨w.heap.size + 1, 1, none⟩) (by simp) (.int .i64 ((countK (l.take (k)) 1 : Nat) + 1))
            refine ⟨k + 1, by omega, by go_num, (sb.far (by simp) _).alloc _, ?_, ?_⟩
            · rw [H0.out, H1.out, H2.out, H3.out]
              exact (b3.set_ 1 _).alloc _
            · exact hB2.alloc hB2.size _
          case measure => simp [intOf]; omega
      · skip
        have H0 := Lib.hid (show countK (l.take (k + 1)) 0 = countK (l.take (k)) 0 by rw [take_snoc' hx, countK_snoc]; simp)
        have H1 := Lib.hid (show countK (l.take (k + 1)) 1 = countK (l.take (k)) 1 by rw [take_snoc' hx, countK_snoc]; simp)
        have H2 := Lib.hid (show countK (l.take (k + 1)) 2 = countK (l.take (k)) 2 + 1 by rw [take_snoc' hx, countK_snoc]; simp)
        have H3 := Lib.hid (show countK (l.take (k + 1)) 3 = countK (l.take (k)) 3 by rw [take_snoc' hx, countK_snoc]; simp)
        clear hx
        as_aux_lemma =>
          go_wp2
          go_roundw
          case rel =>
            have hB2 := hB.setCell (p := ⟨w.heap.size + 1, 2, none⟩) (by simp) (.int .i64 ((countK (l.take (k)) 2 : Nat) + 1))
            refine ⟨k + 1, by omega, by go_num, (sb.far (by simp) _).alloc _, ?_, ?_⟩
            · rw [H0.out, H1.out, H2.out, H3.out]
              exact (b3.set_ 2 _).alloc _
            · exact hB2.alloc hB2.size _
          case measure => simp [intOf]; omega
      · skip
        have H0 := Lib.hid (show countK (l.take (k + 1)) 0 = countK (l.take (k)) 0 by rw [take_snoc' hx, countK_snoc]; simp)
        have H1 := Lib.hid (show countK (l.take (k + 1)) 1 = countK (l.take (k)) 1 by rw [take_snoc' hx, countK_snoc]; simp)
        have H2 := Lib.hid (show countK (l.take (k + 1)) 2 = countK (l.take (k)) 2 by rw [take_snoc' hx, countK_snoc]; simp)
        have H3 := Lib.hid (show countK (l.take (k + 1)) 3 = countK (l.take (k)) 3 + 1 by rw [take_snoc' hx, countK_snoc]; simp)
        clear hx
        as_aux_lemma =>
          go_wp2
          go_roundw
          case rel =>
            have hB2 := hB.setCell (p := ⟨w.heap.size + 1, 3, none⟩) (by simp) (.int .i64 ((countK (l.take (k)) 3 : Nat) + 1))
            refine ⟨k + 1, by omega, by go_num, (sb.far (by simp) _).alloc _, ?_, ?_⟩
            · rw [H0.out, H1.out, H2.out, H3.out]
              exact (b3.set_ 3 _).alloc _
            · exact hB2.alloc hB2.size _
          case measure => simp [intOf]; omega
    · have hkt : l.take k = l := List.take_of_length_le (by omega)
      rw [hkt] at b3
      have hlk : l.length ≤ k := by omega
      clear hkt hlt
      obtain ⟨n0, hn0⟩ : ∃ n, n = countK l 0 := ⟨_, rfl⟩
      obtain ⟨n1, hn1⟩ : ∃ n, n = countK l 1 := ⟨_, rfl⟩
      obtain ⟨n2, hn2⟩ : ∃ n, n = countK l 2 := ⟨_, rfl⟩
      obtain ⟨n3, hn3⟩ : ∃ n, n = countK l 3 := ⟨_, rfl⟩
      rw [← hn0, ← hn1, ← hn2, ← hn3] at b3
      have HN := Lib.hid (And.intro hn1 (And.intro hn2 hn3))
      clear hn0 hn1 hn2 hn3
      go_wp2
      as_aux_lemma =>
        go_loopw [6] (fun v wr => ∃ k : Nat, 1 ≤ k ∧ k ≤ 4 ∧ v = .int .i64 k ∧ Hid (mostTo l m1 m2 m3 k) ∧ Blk wr w.heap.size 79 #[k0, k1, k2, .int .i64 fl, .int .i64 cn, .int .i64 ws, .int .i64 tm, .slice A l.length c, .int .i64 m0, .int .i64 m1, .int .i64 m2, .int .i64 m3, .slice ag G.length cg, .slice af Fa.length cf, .slice aq Q.length cq, .slice am m.length cm, .slice AF F.length cF] ∧ Blk wr (w.heap.size + 1) 23 #[.int .i64 (n0 : Nat), .int .i64 (n1 : Nat), .int .i64 (n2 : Nat), .int .i64 (n3 : Nat)] ∧ Below w.heap.size w wr)
          (fun v _ => 4 - (intOf v).toNat)
        case atStart => exact ⟨1, by omega, by omega, rfl, Lib.hid ⟨fun h => by omega, fun h => by omega, fun h => by omega⟩, sb, b3, hB⟩
        case round =>
          clear sb b3 hB e3l
          obtain ⟨k, hk1, hk4, rfl, HM, sb, b3, hB⟩ := hrel
          have sl := sb.lt
          have e3l := b3.lt
          by_cases hk : k ≤ 3
          · obtain ⟨_, _, _, _, _, _, _, _, p8, p9, p10, p11, _⟩ := sb.c17
            obtain ⟨e0, e1, e2, e3⟩ := b3.c4
            rcases (show k = 1 ∨ k = 2 ∨ k = 3 by omega) with rfl | rfl | rfl
            · by_cases hm : (n1 : Int) ≤ m1
              · have HM2 : Hid (mostTo l m1 m2 m3 2) := Lib.hid ⟨fun _ => (HN.out.1 ▸ hm), fun h => by omega, fun h => by omega⟩
                as_aux_lemma =>
                  go_upto_region 11 with fail
                  go_quiet (fail)
                  go_wp2
                  go_roundw
                  case rel => exact ⟨2, by omega, by omega, by go_num, HM2, sb, b3, below_drewN hB _⟩
                  case measure => simp [intOf]
              · have hv : rightV cn l m1 m2 m3 Q F = false := right_most (most_no1 (by rw [← HN.out.1]; exact hm))
                as_aux_lemma =>
                  go_upto_region 11 with fail
                  go_quiet (fail)
                  go_wp2
                  go_ret
                  try rw [hv]
                  exact ⟨rfl, below_drewN hB _⟩
            · by_cases hm : (n2 : Int) ≤ m2
              · have HM2 : Hid (mostTo l m1 m2 m3 3) := Lib.hid ⟨fun _ => HM.out.1 (by omega), fun _ => (HN.out.2.1 ▸ hm), fun h => by omega⟩
                as_aux_lemma =>
                  go_upto_region 11 with fail
                  go_quiet (fail)
                  go_wp2
                  go_roundw
                  case rel => exact ⟨3, by omega, by omega, by go_num, HM2, sb, b3, below_drewN hB _⟩
                  case measure => simp [intOf]
              · have hv : rightV cn l m1 m2 m3 Q F = false := right_most (most_no2 (by rw [← HN.out.2.1]; exact hm))
                as_aux_lemma =>
                  go_upto_region 11 with fail
                  go_quiet (fail)
                  go_wp2
                  go_ret
                  try rw [hv]
                  exact ⟨rfl, below_drewN hB _⟩
            · by_cases hm : (n3 : Int) ≤ m3
              · have HM2 : Hid (mostTo l m1 m2 m3 4) := Lib.hid ⟨fun _ => HM.out.1 (by omega), fun _ => HM.out.2.1 (by omega), fun _ => (HN.out.2.2 ▸ hm)⟩
                as_aux_lemma =>
                  go_upto_region 11 with fail
                  go_quiet (fail)
                  go_wp2
                  go_roundw
                  case rel => exact ⟨4, by omega, by omega, by go_num, HM2, sb, b3, below_drewN hB _⟩
                  case measure => simp [intOf]
              · have hv : rightV cn l m1 m2 m3 Q F = false := right_most (most_no3 (by rw [← HN.out.2.2]; exact hm))
                as_aux_lemma =>
                  go_upto_region 11 with fail
                  go_quiet (fail)
                  go_wp2
                  go_ret
                  try rw [hv]
                  exact ⟨rfl, below_drewN hB _⟩
          · have h4 : 4 ≤ k := by omega
            have HMO : Hid (mostOk l m1 m2 m3 = true) := Lib.hid (most_yes HM.out h4)
            clear HM
            obtain ⟨p0, p1, p2, p3, p4, p5, p6, p7, p8, p9, p10, p11, p12, p13, p14, p15, p16⟩ := sb.c17
            as_aux_lemma =>
              obtain ⟨M, hM⟩ : ∃ M, M = wr.heap.size := ⟨_, rfl⟩
              obtain ⟨W2, hW2⟩ : ∃ W2, W2 = wr.alloc (.map #[] 0) := ⟨_, rfl⟩
              have hmk : (Instr.makeMap 117 none).run Try.prog wr = .ok (.map (some M)) W2 := by
                rw [hM, hW2]
                exact run_makeMap _ _
              have MB : MapB W2 M 0 [] := by
                rw [hW2, hM]
                exact MapB.made _
              have q14 : W2.cell? ⟨w.heap.size, 14, none⟩ = some (.slice aq Q.length cq) := by
                rw [hW2]
                exact (sb.alloc _).c17.2.2.2.2.2.2.2.2.2.2.2.2.2.2.1
              have hM1 : w.heap.size + 2 ≤ M := by omega
              have sb2 : Blk W2 w.heap.size 79 #[k0, k1, k2, .int .i64 fl, .int .i64 cn, .int .i64 ws, .int .i64 tm, .slice A l.length c, .int .i64 m0, .int .i64 m1, .int .i64 m2, .int .i64 m3, .slice ag G.length cg, .slice af Fa.length cf, .slice aq Q.length cq, .slice am m.length cm, .slice AF F.length cF] := by rw [hW2]; exact sb.alloc _
              have b32 : Blk W2 (w.heap.size + 1) 23 #[.int .i64 (n0 : Nat), .int .i64 (n1 : Nat), .int .i64 (n2 : Nat), .int .i64 (n3 : Nat)] := by rw [hW2]; exact b3.alloc _
              have hB2 : Below w.heap.size w W2 := by rw [hW2]; exact hB.alloc hB.size _
              clear hM hW2
              go_wp2
              go_loopw [57] (fun i wr => ∃ j : Nat, j ≤ Q.length ∧ i = .int .i64 j ∧ Hid (allTo (qAt Q F.length) j = true) ∧ MapB wr M j (Q.take j) ∧ Blk wr w.heap.size 79 #[k0, k1, k2, .int .i64 fl, .int .i64 cn, .int .i64 ws, .int .i64 tm, .slice A l.length c, .int .i64 m0, .int .i64 m1, .int .i64 m2, .int .i64 m3, .slice ag G.length cg, .slice af Fa.length cf, .slice aq Q.length cq, .slice am m.length cm, .slice AF F.length cF] ∧ Blk wr (w.heap.size + 1) 23 #[.int .i64 (n0 : Nat), .int .i64 (n1 : Nat), .int .i64 (n2 : Nat), .int .i64 (n3 : Nat)] ∧ Below w.heap.size w wr)
                (fun i _ => Q.length - (intOf i).toNat)
              case atStart => exact ⟨0, Nat.zero_le _, rfl, Lib.hid rfl, MB, sb2, b32, hB2⟩
              case round =>
                clear sb b3 hB sb2 b32 hB2 MB q14 hmk p0 p1 p2 p3 p4 p5 p6 p7 p8 p9 p10 p11 p12 p13 p14 p15 p16 sl e3l
                obtain ⟨j, hj, rfl, HQ, MB, sb, b3, hB⟩ := hrel
                obtain ⟨p0, p1, p2, p3, p4, p5, p6, p7, p8, p9, p10, p11, p12, p13, p14, p15, p16⟩ := sb.c17
                have bl := sb.lt
                have e3l := b3.lt
                have hBs := hB.size
                by_cases hlt : j < Q.length
                · have rqw := (rq.below hB).more hBs
                  obtain ⟨b, off, x, rfl, hbB, hx, c0⟩ := rqw.atI hlt
                  have wx := hwq x (List.mem_of_getElem? hx)
                  have hqa := qAt_of (n := F.length) hx
                  have hlook := MB.look wx
                  obtain ⟨q, hq⟩ : ∃ q, q = (Q.take j).any (· == x) := ⟨_, rfl⟩
                  rw [← hq] at hqa hlook
                  have htk := take_snoc' hx
                  clear hq hx rqw
                  cases q
                  · by_cases hx0 : x < 0
                    · have hv : rightV cn l m1 m2 m3 Q F = false := right_q hlt (by rw [hqa]; simp; omega)
                      as_aux_lemma =>
                        go_wp2
                        go_ret
                        try rw [hv]
                        exact ⟨rfl, hB⟩
                    · by_cases hxF : x < F.length
                      · have hq1 : qAt Q F.length j = true := by rw [hqa]; simp; omega
                        have HQ2 := Lib.hid (allTo_succ HQ.out hq1)
                        obtain ⟨w1, hrun, MB1, hg⟩ := MB.put (by unfold maxLen; omega) wx
                        rw [← htk] at MB1
                        have sb1 := sb.grown hg (fun e => by injection e with e; omega)
                        have b31 := b3.grown hg (fun e => by injection e with e; omega)
                        have hB1 : Below w.heap.size w w1 := hB.grown hg hB.size (fun g hg => by cases hg; omega)
                        clear hqa hq1 HQ
                        as_aux_lemma =>
                          go_wp2
                          go_roundw
                          case rel => exact ⟨j + 1, by omega, by go_num, HQ2, MB1, sb1, b31, hB1⟩
                          case measure => simp [intOf]; omega
                      · have hv : rightV cn l m1 m2 m3 Q F = false := right_q hlt (by rw [hqa]; simp; omega)
                        as_aux_lemma =>
                          go_wp2
                          go_ret
                          try rw [hv]
                          exact ⟨rfl, hB⟩
                  · have hv : rightV cn l m1 m2 m3 Q F = false := right_q hlt (by rw [hqa]; simp)
                    as_aux_lemma =>
                      go_wp2
                      go_ret
                      try rw [hv]
                      exact ⟨rfl, hB⟩
                · have HQ2 : Hid (allTo (qAt Q F.length) Q.length = true) := by
                    have : j = Q.length := by omega
                    rw [← this]
                    exact HQ
                  clear HQ
                  as_aux_lemma =>
                    have hjt : Q.take j = Q := List.take_of_length_le (by omega)
                    rw [hjt] at MB
                    have jQ : Q.length ≤ j := by omega
                    obtain ⟨c', hlen, hc0⟩ := MB.len
                    obtain ⟨_, e1, e2, _⟩ := b3.c4
                    go_upto_region 21 with fail
                    obtain ⟨lo, hlo⟩ : ∃ lo, (!leaseOk l Q cn) = lo := ⟨_, rfl⟩
                    have HL := Lib.hid hlo
                    clear hlo
                    go_cut [88] (fun t wx => t = .bool lo ∧ MapB wx M j Q ∧ Blk wx w.heap.size 79 #[k0, k1, k2, .int .i64 fl, .int .i64 cn, .int .i64 ws, .int .i64 tm, .slice A l.length c, .int .i64 m0, .int .i64 m1, .int .i64 m2, .int .i64 m3, .slice ag G.length cg, .slice af Fa.length cf, .slice aq Q.length cq, .slice am m.length cm, .slice AF F.length cF] ∧ Below w.heap.size w wx)
                    case first =>
                      by_cases hQ0 : Q.length = 0
                      · have hl := HL.out
                        simp only [leaseOk, hQ0, decide_true, Bool.true_or, Bool.not_true] at hl
                        cases lo
                        case true => cases hl
                        have hc : c' = 0 := hc0.2 hQ0
                        have hd1 : decide ((0 : Int) < (c' : Int)) = false := decide_eq_false (by omega)
                        have hd2 : decide (0 < c') = false := decide_eq_false (by omega)
                        clear hQ0 hl hc hc0
                        go_wp2_with fail
                        go_meet
                        exact ⟨rfl, MB, sb, hB⟩
                      have hc1 : c' ≠ 0 := fun h => hQ0 (hc0.1 h)
                      have hd1 : decide ((0 : Int) < (c' : Int)) = true := decide_eq_true (by omega)
                      have hd2 : decide (0 < c') = true := decide_eq_true (by omega)
                      have hl := HL.out
                      rw [leaseOk, decide_eq_false hQ0, Bool.false_or] at hl
                      rw [← HN.out.2.1] at hl
                      cases lo
                      case true =>
                        have hl : decide (cn ≤ (n2 : Int)) = false := by simpa using hl
                        have hcn : ¬ cn ≤ (n2 : Int) := of_decide_eq_false hl
                        have hcn1 : decide ((n2 : Int) < cn) = true := decide_eq_true (by omega)
                        clear hl
                        go_wp2_with fail
                        go_meet
                        exact ⟨rfl, MB, sb, hB⟩
                      case false =>
                        have hl : decide (cn ≤ (n2 : Int)) = true := by simpa using hl
                        have hcn : cn ≤ (n2 : Int) := of_decide_eq_true hl
                        have hcn1 : decide ((n2 : Int) < cn) = false := decide_eq_false (by omega)
                        clear hl
                        go_wp2_with fail
                        go_meet
                        exact ⟨rfl, MB, sb, hB⟩
                    case rest =>
                      clear MB sb b3 hB p0 p1 p2 p3 p4 p5 p6 p7 p8 p9 p10 p11 p12 p13 p14 p15 p16 bl hBs hlen hc0 e1 e2 e3l HN hjt
                      as_aux_lemma =>
                        obtain ⟨rfl, MB, sb, hB⟩ := hcut
                        cases lo
                        case true =>
                          have hv : rightV cn l m1 m2 m3 Q F = false := right_lease (by simpa using HL.out)
                          go_wp2
                          go_ret
                          try rw [hv]
                          exact ⟨rfl, hB⟩
                        have hlo : leaseOk l Q cn = true := by simpa using HL.out
                        have HL := Lib.hid hlo
                        clear hlo
                        obtain ⟨p0, p1, p2, p3, p4, p5, p6, p7, p8, p9, p10, p11, p12, p13, p14, p15, p16⟩ := sb.c17
                        have bl := sb.lt
                        go_wp2
                        go_loopw [92] (fun i wr => ∃ u : Nat, u ≤ F.length ∧ i = .int .i64 u ∧ Hid (allTo (fAt l Q F) u = true) ∧ MapB wr M j Q ∧ Blk wr w.heap.size 79 #[k0, k1, k2, .int .i64 fl, .int .i64 cn, .int .i64 ws, .int .i64 tm, .slice A l.length c, .int .i64 m0, .int .i64 m1, .int .i64 m2, .int .i64 m3, .slice ag G.length cg, .slice af Fa.length cf, .slice aq Q.length cq, .slice am m.length cm, .slice AF F.length cF] ∧ Below w.heap.size w wr)
                          (fun i _ => F.length - (intOf i).toNat)
                        case atStart => exact ⟨0, Nat.zero_le _, rfl, Lib.hid rfl, MB, sb, hB⟩
                        case round =>
                          clear sb hB p0 p1 p2 p3 p4 p5 p6 p7 p8 p9 p10 p11 p12 p13 p14 p15 p16 bl MB
                          obtain ⟨u, hu, rfl, HF, MB, sb, hB⟩ := hrel
                          obtain ⟨p0, p1, p2, p3, p4, p5, p6, p7, p8, p9, p10, p11, p12, p13, p14, p15, p16⟩ := sb.c17
                          have bl := sb.lt
                          have hBs := hB.size
                          by_cases hltF : u < F.length
                          · have rFw := (rF.below hB).more hBs
                            obtain ⟨b, off, f, rfl, hbB, hx, hc⟩ := rFw.atF hltF
                            have hfa := fAt_of (l := l) (Q := Q) hx
                            obtain ⟨id, ph, ⟨v2, o2⟩, ⟨v3, o3⟩, ⟨v4, o4⟩, ⟨v5, o5⟩, ⟨v6, o6⟩, st, ⟨v8, o8⟩, ⟨v9, o9⟩, ⟨v10, o10⟩, ⟨v11, o11⟩, ⟨v12, o12⟩, ⟨v13, o13⟩, wt, ⟨v15, o15⟩⟩ := f
                            have y0 : wr.cell? ⟨b, off + u * 16, none⟩ = some (.int .i64 id) := hc 0 _ rfl
                            have y1 : wr.cell? ⟨b, off + u * 16 + 1, none⟩ = some (.int .i64 ph) := hc 1 _ rfl
                            have y2 : wr.cell? ⟨b, off + u * 16 + 2, none⟩ = some (v2) := hc 2 _ rfl
                            have y3 : wr.cell? ⟨b, off + u * 16 + 3, none⟩ = some (v3) := hc 3 _ rfl
                            have y4 : wr.cell? ⟨b, off + u * 16 + 4, none⟩ = some (v4) := hc 4 _ rfl
                            have y5 : wr.cell? ⟨b, off + u * 16 + 5, none⟩ = some (v5) := hc 5 _ rfl
                            have y6 : wr.cell? ⟨b, off + u * 16 + 6, none⟩ = some (v6) := hc 6 _ rfl
                            have y7 : wr.cell? ⟨b, off + u * 16 + 7, none⟩ = some (.int .i64 st) := hc 7 _ rfl
                            have y8 : wr.cell? ⟨b, off + u * 16 + 8, none⟩ = some (v8) := hc 8 _ rfl
                            have y9 : wr.cell? ⟨b, off + u * 16 + 9, none⟩ = some (v9) := hc 9 _ rfl
                            have y10 : wr.cell? ⟨b, off + u * 16 + 10, none⟩ = some (v10) := hc 10 _ rfl
                            have y11 : wr.cell? ⟨b, off + u * 16 + 11, none⟩ = some (v11) := hc 11 _ rfl
                            have y12 : wr.cell? ⟨b, off + u * 16 + 12, none⟩ = some (v12) := hc 12 _ rfl
                            have y13 : wr.cell? ⟨b, off + u * 16 + 13, none⟩ = some (v13) := hc 13 _ rfl
                            have y14 : wr.cell? ⟨b, off + u * 16 + 14, none⟩ = some (.bool wt) := hc 14 _ rfl
                            have y15 : wr.cell? ⟨b, off + u * 16 + 15, none⟩ = some (v15) := hc 15 _ rfl
                            have hcr := hc
                            clear hc hx rFw
                            have r2 := fun (w : World) (a : Addr) (m : Mode) => run_store Try.prog w a v2 m o2
                            have r3 := fun (w : World) (a : Addr) (m : Mode) => run_store Try.prog w a v3 m o3
                            have r4 := fun (w : World) (a : Addr) (m : Mode) => run_store Try.prog w a v4 m o4
                            have r5 := fun (w : World) (a : Addr) (m : Mode) => run_store Try.prog w a v5 m o5
                            have r6 := fun (w : World) (a : Addr) (m : Mode) => run_store Try.prog w a v6 m o6
                            have r8 := fun (w : World) (a : Addr) (m : Mode) => run_store Try.prog w a v8 m o8
                            have r9 := fun (w : World) (a : Addr) (m : Mode) => run_store Try.prog w a v9 m o9
                            have r10 := fun (w : World) (a : Addr) (m : Mode) => run_store Try.prog w a v10 m o10
                            have r11 := fun (w : World) (a : Addr) (m : Mode) => run_store Try.prog w a v11 m o11
                            have r12 := fun (w : World) (a : Addr) (m : Mode) => run_store Try.prog w a v12 m o12
                            have r13 := fun (w : World) (a : Addr) (m : Mode) => run_store Try.prog w a v13 m o13
                            have r15 := fun (w : World) (a : Addr) (m : Mode) => run_store Try.prog w a v15 m o15
                            as_aux_lemma =>
                              obtain ⟨V, hV⟩ : ∃ V, V = wr.alloc (.cells #[.int .i64 id, .int .i64 ph, v2, v3, v4, v5, v6, .int .i64 st, v8, v9, v10, v11, v12, v13, .bool wt, v15] 113) := ⟨_, rfl⟩
                              have b11 : Blk V wr.heap.size 113 #[.int .i64 id, .int .i64 ph, v2, v3, v4, v5, v6, .int .i64 st, v8, v9, v10, v11, v12, v13, .bool wt, v15] := by rw [hV]; exact Blk.new _ _ _
                              have hBV : Below w.heap.size w V := by rw [hV]; exact hB.alloc hBs _
                              have sbV : Blk V w.heap.size 79 #[k0, k1, k2, .int .i64 fl, .int .i64 cn, .int .i64 ws, .int .i64 tm, .slice A l.length c, .int .i64 m0, .int .i64 m1, .int .i64 m2, .int .i64 m3, .slice ag G.length cg, .slice af Fa.length cf, .slice aq Q.length cq, .slice am m.length cm, .slice (some ⟨b, off, none⟩) F.length cF] := by rw [hV]; exact sb.alloc _
                              have MBV : MapB V M j Q := by rw [hV]; exact MB.alloc _
                              have rlV := (rl.below hBV).more hBV.size
                              have hrg : wr.rangeAt b (off + u * 16) [.int .i64 id, .int .i64 ph, v2, v3, v4, v5, v6, .int .i64 st, v8, v9, v10, v11, v12, v13, .bool wt, v15] := fun j v hv => hcr j v hv
                              have hrs : (wr.alloc (.cells #[.int .i64 id, .int .i64 ph, v2, v3, v4, v5, v6, .int .i64 st, v8, v9, v10, v11, v12, v13, .bool wt, v15] 113)).rangeAt w.heap.size 0 [k0, k1, k2, .int .i64 fl, .int .i64 cn, .int .i64 ws, .int .i64 tm, .slice A l.length c, .int .i64 m0, .int .i64 m1, .int .i64 m2, .int .i64 m3, .slice ag G.length cg, .slice af Fa.length cf, .slice aq Q.length cq, .slice am m.length cm, .slice (some ⟨b, off, none⟩) F.length cF] := by rw [← hV]; exact Blk.range sbV
                              clear y0 y1 y2 y3 y4 y5 y6 y7 y8 y9 y10 y11 y12 y13 y14 y15 p0 p1 p2 p3 p4 p5 p6 p7 p8 p9 p10 p11 p12 p13 p14 p15 p16
                              go_wp2_with (first | (refine wpList_load_mid rfl 113 _ rfl b (off + u * 16) rfl [.int .i64 id, .int .i64 ph, v2, v3, v4, v5, v6, .int .i64 st, v8, v9, v10, v11, v12, v13, .bool wt, v15] _ hrg Try.underlying113 rfl (by kernel_rfl) ?_) | (refine wpList_load_mid rfl 79 _ rfl w.heap.size 0 rfl [k0, k1, k2, .int .i64 fl, .int .i64 cn, .int .i64 ws, .int .i64 tm, .slice A l.length c, .int .i64 m0, .int .i64 m1, .int .i64 m2, .int .i64 m3, .slice ag G.length cg, .slice af Fa.length cf, .slice aq Q.length cq, .slice am m.length cm, .slice (some ⟨b, off, none⟩) F.length cF] _ hrs Try.underlying79 rfl (by kernel_rfl) ?_) | (go_at_call 41; refine Hid.out ?_) | go_in)
                              rw [← hV]
                              unfold Hid
                              refine (rheld_any ⟨⟨A, ag, af, aq, am, c, cg, cf, cq, cm⟩, some ⟨b, off, none⟩, cF⟩ ⟨⟨l, m0, m1, m2, m3, G, Fa, Q, m⟩, F, k0, k1, k2, fl, cn, ws, tm⟩ id V rlV hn).mono ?_
                              rintro e w1 ⟨rfl, hb⟩
                              clear hV rlV hrg hrs hcr r2 r3 r4 r5 r6 r8 r9 r10 r11 r12 r13 r15
                              have b11 := b11.below hb b11.lt
                              have sb := sbV.below hb sbV.lt
                              have MB := MBV.below hb MBV.lt
                              have hB := hBV.trans (hb.mono hBV.size)
                              clear hBV sbV MBV hBs bl
                              obtain ⟨V2, hV2⟩ : ∃ V2, V2 = w1.alloc (.cells #[.int .i64 (kOf l id 0 : Nat), .int .i64 (kOf l id 1 : Nat), .int .i64 (kOf l id 2 : Nat), .int .i64 (kOf l id 3 : Nat)] 23) := ⟨_, rfl⟩
                              go_upto_region 27 with fail
                              rw [← hV2]
                              have b12 : Blk V2 w1.heap.size 23 #[.int .i64 (kOf l id 0 : Nat), .int .i64 (kOf l id 1 : Nat), .int .i64 (kOf l id 2 : Nat), .int .i64 (kOf l id 3 : Nat)] := by rw [hV2]; exact Blk.new _ _ _
                              have b11 : Blk V2 wr.heap.size 113 #[.int .i64 id, .int .i64 ph, v2, v3, v4, v5, v6, .int .i64 st, v8, v9, v10, v11, v12, v13, .bool wt, v15] := by rw [hV2]; exact b11.alloc _
                              have hB2 : Below w.heap.size w V2 := by rw [hV2]; exact hB.alloc hB.size _
                              have sb2 : Blk V2 w.heap.size 79 #[k0, k1, k2, .int .i64 fl, .int .i64 cn, .int .i64 ws, .int .i64 tm, .slice A l.length c, .int .i64 m0, .int .i64 m1, .int .i64 m2, .int .i64 m3, .slice ag G.length cg, .slice af Fa.length cf, .slice aq Q.length cq, .slice am m.length cm, .slice (some ⟨b, off, none⟩) F.length cF] := by rw [hV2]; exact sb.alloc _
                              have MB2 : MapB V2 M j Q := by rw [hV2]; exact MB.alloc _
                              clear hV2 hB sb MB
                              obtain ⟨x0, x1, _, _, _, _, _, x7, _, _, _, _, _, _, x14, _⟩ := b11.c16
                              have f11 := b11.lt
                              have f12 := b12.lt
                              clear b11
                              as_aux_lemma =>
                                by_cases hid : id = (u : Int)
                                · subst hid
                                  have hlook := MB2.look (x := (u : Int)) (WalkArith.wf_i64 (by omega))
                                  obtain ⟨c0, h0⟩ : ∃ c, c = kOf l (u : Int) 0 := ⟨_, rfl⟩
                                  obtain ⟨c1, h1⟩ : ∃ c, c = kOf l (u : Int) 1 := ⟨_, rfl⟩
                                  obtain ⟨c2, h2⟩ : ∃ c, c = kOf l (u : Int) 2 := ⟨_, rfl⟩
                                  obtain ⟨c3, h3⟩ : ∃ c, c = kOf l (u : Int) 3 := ⟨_, rfl⟩
                                  obtain ⟨q, hqv⟩ : ∃ q, q = Q.any (· == (u : Int)) := ⟨_, rfl⟩
                                  rw [← h0, ← h1, ← h2, ← h3] at b12
                                  rw [← hqv] at hlook
                                  obtain ⟨e0, e1, e2, e3⟩ := b12.c4
                                  have HV : Hid (∀ r : Bool, (if ph < 1 ∨ 6 < ph then false
                                    else if ph = 6 then decide (c0 = 0) && decide (c1 = 0) && decide (c2 = 0) && decide (c3 = 0) && !wt && decide (st ≠ 0)
                                    else if 1 < c2 ∨ (c2 = 1 ∧ ph ≠ 2) then false
                                    else if (ph < 5 ∧ c1 ≠ 1) ∨ 1 < c1 then false
                                    else (wt == q) && (!wt || decide (ph = 2))) = r → fAt l Q F u = r) := Lib.hid (fun r hr => by
                                      rw [hfa, ← hr, h0, h1, h2, h3, hqv]
                                      simp only [decide_true, Bool.true_and]
                                      rfl)
                                  have HX : Hid (u + 1 ≤ F.length) := Lib.hid hltF
                                  clear h0 h1 h2 h3 hqv b12 hfa
                                  by_cases A1 : ph < 1
                                  · skip
                                    as_aux_lemma =>
                                      have hv : rightV cn l m1 m2 m3 Q F = false := right_f hltF (HV.out false (by simp [A1]))
                                      go_wp2
                                      all_goals
                                        go_ret
                                        try rw [hv]
                                        exact ⟨rfl, hB2⟩
                                  by_cases A2 : 6 < ph
                                  · skip
                                    as_aux_lemma =>
                                      have hv : rightV cn l m1 m2 m3 Q F = false := right_f hltF (HV.out false (by simp [A2]))
                                      go_wp2
                                      all_goals
                                        go_ret
                                        try rw [hv]
                                        exact ⟨rfl, hB2⟩
                                  by_cases A3 : ph = 6
                                  · subst ph
                                    by_cases hz : c0 = 0 ∧ c1 = 0 ∧ c2 = 0 ∧ c3 = 0
                                    · obtain ⟨rfl, rfl, rfl, rfl⟩ := hz
                                      have hE : ∀ w : World, (Op.equalIn 10000 23 (.agg #[.int .i64 ((0 : Nat) : Int), .int .i64 ((0 : Nat) : Int), .int .i64 ((0 : Nat) : Int), .int .i64 ((0 : Nat) : Int)]) (.agg #[.int .i64 0, .int .i64 0, .int .i64 0, .int .i64 0])).run Try.prog w = .ok true w := fun w => by rw [hasZero4]; simp
                                      simp only [Int.cast_ofNat_Int] at hE e0 e1 e2 e3
                                      cases wt
                                      · by_cases hs : st = 0
                                        · subst st
                                          as_aux_lemma =>
                                            have hv : rightV cn l m1 m2 m3 Q F = false := right_f hltF (HV.out false (by simp))
                                            go_wp2
                                            all_goals
                                              go_ret
                                              try rw [hv]
                                              exact ⟨rfl, hB2⟩
                                        · have hs1 : (st == 0) = false := by simpa using hs
                                          have hs2 : (st != 0) = true := by simpa using hs
                                          as_aux_lemma =>
                                            have HF2 := Lib.hid (allTo_succ HF.out (HV.out true (by simp [hs])))
                                            go_wp2
                                            all_goals
                                              go_roundw
                                              case rel => exact ⟨u + 1, HX.out, by go_num, HF2, MB2, sb2, hB2⟩
                                              case measure => simp [intOf]; omega
                                      · skip
                                        as_aux_lemma =>
                                          have hv : rightV cn l m1 m2 m3 Q F = false := right_f hltF (HV.out false (by simp))
                                          go_wp2
                                          all_goals
                                            go_ret
                                            try rw [hv]
                                            exact ⟨rfl, hB2⟩
                                    · have hE : ∀ w : World, (Op.equalIn 10000 23 (.agg #[.int .i64 (c0 : Int), .int .i64 (c1 : Int), .int .i64 (c2 : Int), .int .i64 (c3 : Int)]) (.agg #[.int .i64 0, .int .i64 0, .int .i64 0, .int .i64 0])).run Try.prog w = .ok false w := fun w => by
                                        rw [hasZero4]
                                        have : (decide (c0 = 0) && (decide (c1 = 0) && (decide (c2 = 0) && decide (c3 = 0)))) = false := by
                                          rw [← Bool.not_eq_true]
                                          simpa using hz
                                        rw [this]
                                      have hzz : (decide (c0 = 0) && decide (c1 = 0) && decide (c2 = 0) && decide (c3 = 0)) = false := by
                                        rw [← Bool.not_eq_true]
                                        simpa [Bool.and_assoc] using hz
                                      have hv : rightV cn l m1 m2 m3 Q F = false := right_f hltF (HV.out false (by simp [hzz]))
                                      clear hz hzz
                                      as_aux_lemma =>
                                        go_wp2
                                        go_ret
                                        try rw [hv]
                                        exact ⟨rfl, hB2⟩
                                  have A4 : (ph == 6) = false := by simpa using A3
                                  by_cases D1 : 1 < c2
                                  · skip
                                    as_aux_lemma =>
                                      have hv : rightV cn l m1 m2 m3 Q F = false := right_f hltF (HV.out false (by simp [A1, A2, A3, D1]))
                                      go_wp2
                                      all_goals
                                        go_ret
                                        try rw [hv]
                                        exact ⟨rfl, hB2⟩
                                  by_cases D2 : c2 = 1 ∧ ph ≠ 2
                                  · obtain ⟨rfl, D2⟩ := D2
                                    have D3 : (ph == 2) = false := by simpa using D2
                                    have D4 : (ph != 2) = true := by simpa using D2
                                    as_aux_lemma =>
                                      have hv : rightV cn l m1 m2 m3 Q F = false := right_f hltF (HV.out false (by simp [A1, A2, A3, D2]))
                                      go_wp2
                                      all_goals
                                        go_ret
                                        try rw [hv]
                                        exact ⟨rfl, hB2⟩
                                  rcases (show c2 = 0 ∨ (c2 = 1 ∧ ph = 2) by omega) with rfl | ⟨rfl, rfl⟩
                                  · by_cases E1 : 1 < c1
                                    · have E2 : ((c1 : Int) == 0) = false := by simp; omega
                                      as_aux_lemma =>
                                        have hv : rightV cn l m1 m2 m3 Q F = false := right_f hltF (HV.out false (by simp [A1, A2, A3, E1]))
                                        go_wp2
                                        all_goals
                                          go_ret
                                          try rw [hv]
                                          exact ⟨rfl, hB2⟩
                                    by_cases E4 : c1 = 1
                                    · subst c1
                                      by_cases P2 : ph = 2
                                      · subst ph
                                        cases wt <;> cases q
                                        · skip
                                          as_aux_lemma =>
                                            have HF2 := Lib.hid (allTo_succ HF.out (HV.out true (by simp)))
                                            go_wp2
                                            all_goals
                                              go_roundw
                                              case rel => exact ⟨u + 1, HX.out, by go_num, HF2, MB2, sb2, hB2⟩
                                              case measure => simp [intOf]; omega
                                        · skip
                                          as_aux_lemma =>
                                            have hv : rightV cn l m1 m2 m3 Q F = false := right_f hltF (HV.out false (by simp))
                                            go_wp2
                                            all_goals
                                              go_ret
                                              try rw [hv]
                                              exact ⟨rfl, hB2⟩
                                        · skip
                                          as_aux_lemma =>
                                            have hv : rightV cn l m1 m2 m3 Q F = false := right_f hltF (HV.out false (by simp))
                                            go_wp2
                                            all_goals
                                              go_ret
                                              try rw [hv]
                                              exact ⟨rfl, hB2⟩
                                        · skip
                                          as_aux_lemma =>
                                            have HF2 := Lib.hid (allTo_succ HF.out (HV.out true (by simp)))
                                            go_wp2
                                            all_goals
                                              go_roundw
                                              case rel => exact ⟨u + 1, HX.out, by go_num, HF2, MB2, sb2, hB2⟩
                                              case measure => simp [intOf]; omega
                                      have P3 : (ph == 2) = false := by simpa using P2
                                      have P4 : (ph != 2) = true := by simpa using P2
                                      cases wt <;> cases q
                                      · skip
                                        as_aux_lemma =>
                                          have HF2 := Lib.hid (allTo_succ HF.out (HV.out true (by simp [A1, A2, A3, P2])))
                                          go_wp2
                                          all_goals
                                            go_roundw
                                            case rel => exact ⟨u + 1, HX.out, by go_num, HF2, MB2, sb2, hB2⟩
                                            case measure => simp [intOf]; omega
                                      · skip
                                        as_aux_lemma =>
                                          have hv : rightV cn l m1 m2 m3 Q F = false := right_f hltF (HV.out false (by simp [A1, A2, A3, P2]))
                                          go_wp2
                                          all_goals
                                            go_ret
                                            try rw [hv]
                                            exact ⟨rfl, hB2⟩
                                      · skip
                                        as_aux_lemma =>
                                          have hv : rightV cn l m1 m2 m3 Q F = false := right_f hltF (HV.out false (by simp [A1, A2, A3, P2]))
                                          go_wp2
                                          all_goals
                                            go_ret
                                            try rw [hv]
                                            exact ⟨rfl, hB2⟩
                                      · skip
                                        as_aux_lemma =>
                                          have hv : rightV cn l m1 m2 m3 Q F = false := right_f hltF (HV.out false (by simp [A1, A2, A3, P2]))
                                          go_wp2
                                          all_goals
                                            go_ret
                                            try rw [hv]
                                            exact ⟨rfl, hB2⟩
                                    obtain rfl : c1 = 0 := by omega
                                    by_cases E5 : ph < 5
                                    · skip
                                      as_aux_lemma =>
                                        have hv : rightV cn l m1 m2 m3 Q F = false := right_f hltF (HV.out false (by simp [A1, A2, A3, E5]))
                                        go_wp2
                                        all_goals
                                          go_ret
                                          try rw [hv]
                                          exact ⟨rfl, hB2⟩
                                    have P2 : ph ≠ 2 := by omega
                                    have P3 : (ph == 2) = false := by simpa using P2
                                    have P4 : (ph != 2) = true := by simpa using P2
                                    cases wt <;> cases q
                                    · skip
                                      as_aux_lemma =>
                                        have HF2 := Lib.hid (allTo_succ HF.out (HV.out true (by simp [A1, A2, A3, E5, P2])))
                                        go_wp2
                                        all_goals
                                          go_roundw
                                          case rel => exact ⟨u + 1, HX.out, by go_num, HF2, MB2, sb2, hB2⟩
                                          case measure => simp [intOf]; omega
                                    · skip
                                      as_aux_lemma =>
                                        have hv : rightV cn l m1 m2 m3 Q F = false := right_f hltF (HV.out false (by simp [A1, A2, A3, E5, P2]))
                                        go_wp2
                                        all_goals
                                          go_ret
                                          try rw [hv]
                                          exact ⟨rfl, hB2⟩
                                    · skip
                                      as_aux_lemma =>
                                        have hv : rightV cn l m1 m2 m3 Q F = false := right_f hltF (HV.out false (by simp [A1, A2, A3, E5, P2]))
                                        go_wp2
                                        all_goals
                                          go_ret
                                          try rw [hv]
                                          exact ⟨rfl, hB2⟩
                                    · skip
                                      as_aux_lemma =>
                                        have hv : rightV cn l m1 m2 m3 Q F = false := right_f hltF (HV.out false (by simp [A1, A2, A3, E5, P2]))
                                        go_wp2
                                        all_goals
                                          go_ret
                                          try rw [hv]
                                          exact ⟨rfl, hB2⟩
                                  · by_cases E1 : 1 < c1
                                    · have E2 : ((c1 : Int) == 0) = false := by simp; omega
                                      as_aux_lemma =>
                                        have hv : rightV cn l m1 m2 m3 Q F = false := right_f hltF (HV.out false (by simp [E1]))
                                        go_wp2
                                        all_goals
                                          go_ret
                                          try rw [hv]
                                          exact ⟨rfl, hB2⟩
                                    by_cases E4 : c1 = 1
                                    · subst c1
                                      cases wt <;> cases q
                                      · skip
                                        as_aux_lemma =>
                                          have HF2 := Lib.hid (allTo_succ HF.out (HV.out true (by simp)))
                                          go_wp2
                                          all_goals
                                            go_roundw
                                            case rel => exact ⟨u + 1, HX.out, by go_num, HF2, MB2, sb2, hB2⟩
                                            case measure => simp [intOf]; omega
                                      · skip
                                        as_aux_lemma =>
                                          have hv : rightV cn l m1 m2 m3 Q F = false := right_f hltF (HV.out false (by simp))
                                          go_wp2
                                          all_goals
                                            go_ret
                                            try rw [hv]
                                            exact ⟨rfl, hB2⟩
                                      · skip
                                        as_aux_lemma =>
                                          have hv : rightV cn l m1 m2 m3 Q F = false := right_f hltF (HV.out false (by simp))
                                          go_wp2
                                          all_goals
                                            go_ret
                                            try rw [hv]
                                            exact ⟨rfl, hB2⟩
                                      · skip
                                        as_aux_lemma =>
                                          have HF2 := Lib.hid (allTo_succ HF.out (HV.out true (by simp)))
                                          go_wp2
                                          all_goals
                                            go_roundw
                                            case rel => exact ⟨u + 1, HX.out, by go_num, HF2, MB2, sb2, hB2⟩
                                            case measure => simp [intOf]; omega
                                    obtain rfl : c1 = 0 := by omega
                                    as_aux_lemma =>
                                      have hv : rightV cn l m1 m2 m3 Q F = false := right_f hltF (HV.out false (by simp))
                                      go_wp2
                                      all_goals
                                        go_ret
                                        try rw [hv]
                                        exact ⟨rfl, hB2⟩
                                · have hv : rightV cn l m1 m2 m3 Q F = false := right_f hltF (by rw [hfa]; simp [hid])
                                  have h1 : (id == (u : Int)) = false := by simpa using hid
                                  have h2 : (id != (u : Int)) = true := by simpa using hid
                                  as_aux_lemma =>
                                    go_wp2
                                    go_ret
                                    try rw [hv]
                                    exact ⟨rfl, hB2⟩
                          · have HF2 : allTo (fAt l Q F) F.length = true := by
                              have : u = F.length := by omega
                              rw [← this]
                              exact HF.out
                            have hv : rightV cn l m1 m2 m3 Q F = true := right_yes HMO.out HQ2.out HL.out HF2
                            have uF : F.length ≤ u := by omega
                            clear HF HF2
                            go_wp2
                            go_ret
                            try rw [hv]
                            exact ⟨rfl, hB⟩
end Go.Proofs.Ytmcjgfoaiannoaa
