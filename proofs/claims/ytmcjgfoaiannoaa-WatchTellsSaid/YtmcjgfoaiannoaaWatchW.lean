/-
  The walk of WatchTells: it answers true. Condition: the length bounds that the reach pays.
-/
import Derived.Test.YtmcjgfoaiannoaaRRight
import Derived.Test.YtmcjgfoaiannoaaRMap
import Derived.Test.YtmcjgfoaiannoaaTrace
import Derived.Test.YtmcjgfoaiannoaaOnion
import Derived.Test.YtmcjgfoaiannoaaROnion
namespace Go.Proofs.Ytmcjgfoaiannoaa
open Go.RowKit

set_option maxRecDepth 100000 in
set_option maxHeartbeats 8000000 in
theorem watchTells_walk (s : SA) (d : SD) (id : Int) (L : Option Addr) (cL : Nat) (ml : List (Int × Int × Int)) (w : World) (rr : RdS w w.heap.size s d) (hf : FitS d) (hcq : d.D.q.length ≤ s.a.cq) (hcm : s.a.cq ≤ maxLen) (rm : Rd 3 encH w w.heap.size L ml) (hnm : ml.length * 24 ≤ 140737488355328) :
    Calls Try.prog 11 #[sV s d, .int .i64 id, .slice L ml.length cL] w fun e w' => e = .returned (.bool true) ∧ Below w.heap.size w w' := by
  have hn : d.D.l.length * 24 ≤ 140737488355328 := by have := hf.W.l; omega
  have HT1 := fun (wz : World) (hr : RdS wz wz.heap.size s d) => trace_any s d id wz hr.W.m hf.m
  have HT2 := fun (wz : World) (hr : RdS wz wz.heap.size s d) => rtrace_any s d id wz hr.W.m hf.m
  have HH1 := fun (wz : World) (hr : RdS wz wz.heap.size s d) => held_any s d id wz hr.W.l hn
  have HH2 := fun (wz : World) (hr : RdS wz wz.heap.size s d) => rheld_any s d id wz hr.W.l hn
  have HR1 := fun (wz : World) (hr : RdS wz wz.heap.size s d) => right_any s d wz hr hf hcq hcm
  have HR2 := fun (wz : World) (hr : RdS wz wz.heap.size s d) => rright_any s d wz hr hf
  have HO1 := fun (wz : World) (hr : Rd 3 encH wz wz.heap.size L ml) => onion_any L cL ml wz hr hnm
  have HO2 := fun (wz : World) (hr : Rd 3 encH wz wz.heap.size L ml) => ronion_any L cL ml wz hr hnm
  have hTl : (traceP d.D.m id).length * 24 ≤ 140737488355328 := by
    have := traceP_len d.D.m id
    have := hf.m
    omega
  have hE : ∀ w : World, (Op.equalIn 10000 23 (heldV d.D.l id) (heldV d.D.l id)).run Try.prog w = .ok true w := fun w => by
    rw [eq4]
    simp
  obtain ⟨T, hT⟩ : ∃ T, T = traceP d.D.m id := ⟨_, rfl⟩
  obtain ⟨rv, hrv⟩ : ∃ v, v = rightV d.cn d.D.l d.D.m1 d.D.m2 d.D.m3 d.D.q d.F := ⟨_, rfl⟩
  obtain ⟨ov, hov⟩ : ∃ v, v = (onW ml).isSome := ⟨_, rfl⟩
  simp only [← hT] at HT1 HT2 hTl
  simp only [← hrv] at HR1 HR2
  simp only [← hov] at HO1 HO2
  clear hT hrv hov hf hnm
  obtain ⟨⟨A, ag, af, aq, am, c, cg, cf, cq, cm⟩, AF, cF⟩ := s
  obtain ⟨⟨l, m0, m1, m2, m3, G, Fa, Q, m⟩, F, k0, k1, k2, fl, cn, wt, tm⟩ := d
  simp only at HT1 HT2 HH1 HH2 HR1 HR2 HO1 HO2 hn hE hcq hcm ⊢
  simp only [heldV] at HH1 HH2 hE
  obtain ⟨c0, h0⟩ : ∃ c, c = kOf l id 0 := ⟨_, rfl⟩
  obtain ⟨c1, h1⟩ : ∃ c, c = kOf l id 1 := ⟨_, rfl⟩
  obtain ⟨c2, h2⟩ : ∃ c, c = kOf l id 2 := ⟨_, rfl⟩
  obtain ⟨c3, h3⟩ : ∃ c, c = kOf l id 3 := ⟨_, rfl⟩
  simp only [← h0, ← h1, ← h2, ← h3] at HH1 HH2 hE
  clear h0 h1 h2 h3 hn hcq hcm
  have HT1 := Lib.hid HT1
  have HT2 := Lib.hid HT2
  have HH1 := Lib.hid HH1
  have HH2 := Lib.hid HH2
  have HR1 := Lib.hid HR1
  have HR2 := Lib.hid HR2
  have HO1 := Lib.hid HO1
  have HO2 := Lib.hid HO2
  have HTl := Lib.hid hTl
  have HE := Lib.hid hE
  clear hTl hE
  go_enter Try.func11, Try.ntmps11
  obtain ⟨W, hW⟩ : ∃ W, W = w.alloc (.cells #[k0, k1, k2, .int .i64 fl, .int .i64 cn, .int .i64 wt, .int .i64 tm, .slice A l.length c, .int .i64 m0, .int .i64 m1, .int .i64 m2, .int .i64 m3, .slice ag G.length cg, .slice af Fa.length cf, .slice aq Q.length cq, .slice am m.length cm, .slice AF F.length cF] 79) := ⟨_, rfl⟩
  have sb : Blk W w.heap.size 79 #[k0, k1, k2, .int .i64 fl, .int .i64 cn, .int .i64 wt, .int .i64 tm, .slice A l.length c, .int .i64 m0, .int .i64 m1, .int .i64 m2, .int .i64 m3, .slice ag G.length cg, .slice af Fa.length cf, .slice aq Q.length cq, .slice am m.length cm, .slice AF F.length cF] := by rw [hW]; exact Blk.new _ _ _
  have hB : Below w.heap.size w W := by rw [hW]; exact (Below.refl _ w).alloc (Nat.le_refl _) _
  have rr := rr.up hB
  have rm := (rm.below hB).more hB.size
  go_upto_region 1 with fail
  rw [← hW]
  clear hW
  go_cut [7, 8] (fun t u wx => ∃ A1 c1 A2 c2, t = .slice A1 T.length c1 ∧ u = .slice A2 T.length c2 ∧ Rd 3 encH wx wx.heap.size A1 T ∧ Rd 3 encH wx wx.heap.size A2 T ∧ Blk wx w.heap.size 79 #[k0, k1, k2, .int .i64 fl, .int .i64 cn, .int .i64 wt, .int .i64 tm, .slice A l.length c, .int .i64 m0, .int .i64 m1, .int .i64 m2, .int .i64 m3, .slice ag G.length cg, .slice af Fa.length cf, .slice aq Q.length cq, .slice am m.length cm, .slice AF F.length cF] ∧ RdS wx wx.heap.size ⟨⟨A, ag, af, aq, am, c, cg, cf, cq, cm⟩, AF, cF⟩ ⟨⟨l, m0, m1, m2, m3, G, Fa, Q, m⟩, F, k0, k1, k2, fl, cn, wt, tm⟩ ∧ Rd 3 encH wx wx.heap.size L ml ∧ Below w.heap.size w wx)
  case first =>
    as_aux_lemma =>
      refine wp_region_held_drew (S := fun wx => Blk wx w.heap.size 79 #[k0, k1, k2, .int .i64 fl, .int .i64 cn, .int .i64 wt, .int .i64 tm, .slice A l.length c, .int .i64 m0, .int .i64 m1, .int .i64 m2, .int .i64 m3, .slice ag G.length cg, .slice af Fa.length cf, .slice aq Q.length cq, .slice am m.length cm, .slice AF F.length cF]) (by kernel_rfl) sb (fun hHeld => ?_)
      refine wpAnyH_take (i := 0) rfl (by kernel_rfl) (by kernel_rfl) (by kernel_rfl) (fun _ _ _ h => h) (yieldsIf_load_mid (by rfl) 79 _ rfl w.heap.size 0 rfl [k0, k1, k2, .int .i64 fl, .int .i64 cn, .int .i64 wt, .int .i64 tm, .slice A l.length c, .int .i64 m0, .int .i64 m1, .int .i64 m2, .int .i64 m3, .slice ag G.length cg, .slice af Fa.length cf, .slice aq Q.length cq, .slice am m.length cm, .slice AF F.length cF] _ (fun _ h => Blk.range h) Try.underlying79 rfl (by kernel_rfl)) hHeld ?_
      try simp only [List.getElem_toArray, List.getElem_cons_zero, Act.put, List.setIfInBounds_toArray, List.set_cons_zero, List.set_cons_succ]
      refine' wpAnyH_take (i := 1) (v := _) rfl (by kernel_rfl) (by kernel_rfl) (by kernel_rfl) (fun _ _ _ h => h) (Or.inl ⟨by rfl, ?hy1x6⟩) hHeld ?rest1x6
      case hy1x6 =>
        intro w hSw
        clear hSw
        go_simp
        try with_reducible rfl
      try simp only [List.getElem_toArray, List.getElem_cons_succ, List.getElem_cons_zero, Act.put, List.setIfInBounds_toArray, List.set_cons_zero, List.set_cons_succ]
      refine wpAnyH_take (i := 3) rfl (by kernel_rfl) (by kernel_rfl) (by kernel_rfl) (fun _ _ _ h => h) (yieldsIf_load_mid (by rfl) 79 _ rfl w.heap.size 0 rfl [k0, k1, k2, .int .i64 fl, .int .i64 cn, .int .i64 wt, .int .i64 tm, .slice A l.length c, .int .i64 m0, .int .i64 m1, .int .i64 m2, .int .i64 m3, .slice ag G.length cg, .slice af Fa.length cf, .slice aq Q.length cq, .slice am m.length cm, .slice AF F.length cF] _ (fun _ h => Blk.range h) Try.underlying79 rfl (by kernel_rfl)) hHeld ?_
      try simp only [List.getElem_toArray, List.getElem_cons_succ, List.getElem_cons_zero, Act.put, List.setIfInBounds_toArray, List.set_cons_zero, List.set_cons_succ]
      refine' wpAnyH_take (i := 4) (v := _) rfl (by kernel_rfl) (by kernel_rfl) (by kernel_rfl) (fun _ _ _ h => h) (Or.inl ⟨by rfl, ?hy4x6⟩) hHeld ?rest4x6
      case hy4x6 =>
        intro w hSw
        clear hSw
        go_simp
        try with_reducible rfl
      try simp only [List.getElem_toArray, List.getElem_cons_succ, List.getElem_cons_zero, Act.put, List.setIfInBounds_toArray, List.set_cons_zero, List.set_cons_succ]
      refine wpAnyH_ready (rs := [2]) (by kernel_rfl) (by simp) ?_
      refine AllReadyH.cons rfl (fun K hK => ?_) AllReadyH.nil
      rw [if_pos (by rfl)]
      go_simp
      refine (HT1.out _ ?_).mono ?_
      · exact ⟨⟨rr.W.l, rr.W.g, rr.W.f, rr.W.q, rr.W.m⟩, rr.F⟩
      rintro e w1 ⟨A1, d1, rfl, hO1, hb⟩
      repeat (have hb := below_undrew' hb)
      have sb := sb.below hb sb.lt
      have hB := hB.trans (hb.mono hB.size)
      have rr := rr.up hb
      have rm := (rm.below hb).more hb.size
      have o1 := (hO1.rd)
      try dsimp only
      refine hK.out _ _ sb (fun hHeld => ?_)
      clear hK K
      try simp only [List.getElem_toArray, List.getElem_cons_succ, List.getElem_cons_zero, Act.put, List.setIfInBounds_toArray, List.set_cons_zero, List.set_cons_succ]
      refine wpAnyH_ready (rs := [5]) (by kernel_rfl) (by simp) ?_
      refine AllReadyH.cons rfl (fun K hK => ?_) AllReadyH.nil
      rw [if_pos (by rfl)]
      go_simp
      refine (HT2.out _ ?_).mono ?_
      · exact ⟨⟨rr.W.l, rr.W.g, rr.W.f, rr.W.q, rr.W.m⟩, rr.F⟩
      rintro e w1 ⟨A2, d2, rfl, hO2, hb⟩
      repeat (have hb := below_undrew' hb)
      have sb := sb.below hb sb.lt
      have hB := hB.trans (hb.mono hB.size)
      have rr := rr.up hb
      have rm := (rm.below hb).more hb.size
      have o1 := (o1.below hb).more hb.size
      have o2 := (hO2.rd)
      try dsimp only
      refine hK.out _ _ sb (fun hHeld => ?_)
      clear hK K
      try simp only [List.getElem_toArray, List.getElem_cons_succ, List.getElem_cons_zero, Act.put, List.setIfInBounds_toArray, List.set_cons_zero, List.set_cons_succ]
      refine' wpAnyH_take (i := 6) (v := _) rfl (by kernel_rfl) (by kernel_rfl) (by kernel_rfl) (fun _ _ _ h => h) (Or.inl ⟨by rfl, ?hy6x6⟩) hHeld ?rest6x6
      case hy6x6 =>
        intro w hSw
        clear hSw
        go_simp
        try with_reducible rfl
      try simp only [List.getElem_toArray, List.getElem_cons_succ, List.getElem_cons_zero, Act.put, List.setIfInBounds_toArray, List.set_cons_zero, List.set_cons_succ]
      refine' wpAnyH_take (i := 7) (v := _) rfl (by kernel_rfl) (by kernel_rfl) (by kernel_rfl) (fun _ _ _ h => h) (Or.inl ⟨by rfl, ?hy7x6⟩) hHeld ?rest7x6
      case hy7x6 =>
        intro w hSw
        clear hSw
        go_simp
        try with_reducible rfl
      try simp only [List.getElem_toArray, List.getElem_cons_succ, List.getElem_cons_zero, Act.put, List.setIfInBounds_toArray, List.set_cons_zero, List.set_cons_succ]
      refine wpAnyH_done (by kernel_rfl) ?_ _
      all_goals
        go_wp2_with fail
        go_meet
        exact ⟨A1, d1, A2, d2, rfl, rfl, o1, o2, sb, rr, rm, hB⟩
  case rest =>
    clear sb hB rr rm
    obtain ⟨A1, d1, A2, d2, rfl, rfl, o1, o2, sb, rr, rm, hB⟩ := hcut
    have hT2 : T.length ≤ 140737488355328 := by
      have := HTl.out
      omega
    go_wp2
    go_loopw [23] (fun i wr => ∃ k : Nat, k ≤ T.length ∧ i = .int .i64 k ∧ Rd 3 encH wr wr.heap.size A1 T ∧ Rd 3 encH wr wr.heap.size A2 T ∧ Blk wr w.heap.size 79 #[k0, k1, k2, .int .i64 fl, .int .i64 cn, .int .i64 wt, .int .i64 tm, .slice A l.length c, .int .i64 m0, .int .i64 m1, .int .i64 m2, .int .i64 m3, .slice ag G.length cg, .slice af Fa.length cf, .slice aq Q.length cq, .slice am m.length cm, .slice AF F.length cF] ∧ RdS wr wr.heap.size ⟨⟨A, ag, af, aq, am, c, cg, cf, cq, cm⟩, AF, cF⟩ ⟨⟨l, m0, m1, m2, m3, G, Fa, Q, m⟩, F, k0, k1, k2, fl, cn, wt, tm⟩ ∧ Rd 3 encH wr wr.heap.size L ml ∧ Below w.heap.size w wr)
      (fun i _ => T.length - (intOf i).toNat)
    case atStart => exact ⟨0, Nat.zero_le _, rfl, o1, o2, sb, rr, rm, hB⟩
    case round =>
      clear sb hB rr rm o1 o2
      obtain ⟨k, hk, rfl, o1, o2, sb, rr, rm, hB⟩ := hrel
      by_cases hlt : k < T.length
      · obtain ⟨b, off, x, y, z, hA1, hbB, hx, c0, c1, c2⟩ := o1.atH hlt
        obtain ⟨b', off', x', y', z', hA2, hbB', hx', d0, d1, d2⟩ := o2.atH hlt
        subst hA1 hA2
        obtain ⟨rfl, rfl, rfl⟩ : x' = x ∧ y' = y ∧ z' = z := by rw [hx] at hx'; simpa [eq_comm] using hx'
        clear hx hx'
        go_wp2
        go_quiet (fail)
        go_wp2
        go_roundw
        case rel =>
          have hq := below_drewN (Below.refl wr.heap.size wr) nq
          exact ⟨k + 1, by omega, by go_num, (o1.below hq).more hq.size, (o2.below hq).more hq.size, sb.below hq sb.lt, rr.up hq, (rm.below hq).more hq.size, below_drewN hB _⟩
        case measure => simp [intOf]; omega
      · have hle : T.length ≤ k := by omega
        go_upto_region 10 with fail
        have hE := HE.out
        clear o1 o2
        as_aux_lemma =>
          refine wp_region_held_drew (S := fun wx => Blk wx w.heap.size 79 #[k0, k1, k2, .int .i64 fl, .int .i64 cn, .int .i64 wt, .int .i64 tm, .slice A l.length c, .int .i64 m0, .int .i64 m1, .int .i64 m2, .int .i64 m3, .slice ag G.length cg, .slice af Fa.length cf, .slice aq Q.length cq, .slice am m.length cm, .slice AF F.length cF]) (by kernel_rfl) sb (fun hHeld => ?_)
          refine wpAnyH_take (i := 0) rfl (by kernel_rfl) (by kernel_rfl) (by kernel_rfl) (fun _ _ _ h => h) (yieldsIf_load_mid (by rfl) 79 _ rfl w.heap.size 0 rfl [k0, k1, k2, .int .i64 fl, .int .i64 cn, .int .i64 wt, .int .i64 tm, .slice A l.length c, .int .i64 m0, .int .i64 m1, .int .i64 m2, .int .i64 m3, .slice ag G.length cg, .slice af Fa.length cf, .slice aq Q.length cq, .slice am m.length cm, .slice AF F.length cF] _ (fun _ h => Blk.range h) Try.underlying79 rfl (by kernel_rfl)) hHeld ?_
          try simp only [List.getElem_toArray, List.getElem_cons_zero, Act.put, List.setIfInBounds_toArray, List.set_cons_zero, List.set_cons_succ]
          refine' wpAnyH_take (i := 1) (v := _) rfl (by kernel_rfl) (by kernel_rfl) (by kernel_rfl) (fun _ _ _ h => h) (Or.inl ⟨by rfl, ?hy1x10⟩) hHeld ?rest1x10
          case hy1x10 =>
            intro w hSw
            clear hSw
            go_simp
            try with_reducible rfl
          try simp only [List.getElem_toArray, List.getElem_cons_succ, List.getElem_cons_zero, Act.put, List.setIfInBounds_toArray, List.set_cons_zero, List.set_cons_succ]
          refine wpAnyH_take (i := 3) rfl (by kernel_rfl) (by kernel_rfl) (by kernel_rfl) (fun _ _ _ h => h) (yieldsIf_load_mid (by rfl) 79 _ rfl w.heap.size 0 rfl [k0, k1, k2, .int .i64 fl, .int .i64 cn, .int .i64 wt, .int .i64 tm, .slice A l.length c, .int .i64 m0, .int .i64 m1, .int .i64 m2, .int .i64 m3, .slice ag G.length cg, .slice af Fa.length cf, .slice aq Q.length cq, .slice am m.length cm, .slice AF F.length cF] _ (fun _ h => Blk.range h) Try.underlying79 rfl (by kernel_rfl)) hHeld ?_
          try simp only [List.getElem_toArray, List.getElem_cons_succ, List.getElem_cons_zero, Act.put, List.setIfInBounds_toArray, List.set_cons_zero, List.set_cons_succ]
          refine' wpAnyH_take (i := 4) (v := _) rfl (by kernel_rfl) (by kernel_rfl) (by kernel_rfl) (fun _ _ _ h => h) (Or.inl ⟨by rfl, ?hy4x10⟩) hHeld ?rest4x10
          case hy4x10 =>
            intro w hSw
            clear hSw
            go_simp
            try with_reducible rfl
          try simp only [List.getElem_toArray, List.getElem_cons_succ, List.getElem_cons_zero, Act.put, List.setIfInBounds_toArray, List.set_cons_zero, List.set_cons_succ]
          refine wpAnyH_ready (rs := [2]) (by kernel_rfl) (by simp) ?_
          refine AllReadyH.cons rfl (fun K hK => ?_) AllReadyH.nil
          rw [if_pos (by rfl)]
          go_simp
          refine (HH1.out _ ?_).mono ?_
          · exact ⟨⟨rr.W.l, rr.W.g, rr.W.f, rr.W.q, rr.W.m⟩, rr.F⟩
          rintro e w1 ⟨rfl, hb⟩
          repeat (have hb := below_undrew' hb)
          have sb := sb.below hb sb.lt
          have hB := hB.trans (hb.mono hB.size)
          have rr := rr.up hb
          have rm := (rm.below hb).more hb.size
          try dsimp only
          refine hK.out _ _ sb (fun hHeld => ?_)
          clear hK K
          try simp only [List.getElem_toArray, List.getElem_cons_succ, List.getElem_cons_zero, Act.put, List.setIfInBounds_toArray, List.set_cons_zero, List.set_cons_succ]
          refine wpAnyH_ready (rs := [5]) (by kernel_rfl) (by simp) ?_
          refine AllReadyH.cons rfl (fun K hK => ?_) AllReadyH.nil
          rw [if_pos (by rfl)]
          go_simp
          refine (HH2.out _ ?_).mono ?_
          · exact ⟨⟨rr.W.l, rr.W.g, rr.W.f, rr.W.q, rr.W.m⟩, rr.F⟩
          rintro e w1 ⟨rfl, hb⟩
          repeat (have hb := below_undrew' hb)
          have sb := sb.below hb sb.lt
          have hB := hB.trans (hb.mono hB.size)
          have rr := rr.up hb
          have rm := (rm.below hb).more hb.size
          try dsimp only
          refine hK.out _ _ sb (fun hHeld => ?_)
          clear hK K
          try simp only [List.getElem_toArray, List.getElem_cons_succ, List.getElem_cons_zero, Act.put, List.setIfInBounds_toArray, List.set_cons_zero, List.set_cons_succ]
          refine' wpAnyH_take (i := 6) (v := _) rfl (by kernel_rfl) (by kernel_rfl) (by kernel_rfl) (fun _ _ _ h => h) (Or.inl ⟨by rfl, ?hy6x10⟩) hHeld ?rest6x10
          case hy6x10 =>
            intro w hSw
            clear hSw
            go_simp
            try with_reducible rfl
          try simp only [List.getElem_toArray, List.getElem_cons_succ, List.getElem_cons_zero, Act.put, List.setIfInBounds_toArray, List.set_cons_zero, List.set_cons_succ]
          refine' wpAnyH_take (i := 7) (v := _) rfl (by kernel_rfl) (by kernel_rfl) (by kernel_rfl) (fun _ _ _ h => h) (Or.inl ⟨by rfl, ?hy7x10⟩) hHeld ?rest7x10
          case hy7x10 =>
            intro w hSw
            clear hSw
            go_simp
            try with_reducible rfl
          try simp only [List.getElem_toArray, List.getElem_cons_succ, List.getElem_cons_zero, Act.put, List.setIfInBounds_toArray, List.set_cons_zero, List.set_cons_succ]
          refine wpAnyH_take (i := 8) rfl (by kernel_rfl) (by kernel_rfl) (by kernel_rfl) (fun _ _ _ h => h) (yieldsIf_load_mid (by rfl) 79 _ rfl w.heap.size 0 rfl [k0, k1, k2, .int .i64 fl, .int .i64 cn, .int .i64 wt, .int .i64 tm, .slice A l.length c, .int .i64 m0, .int .i64 m1, .int .i64 m2, .int .i64 m3, .slice ag G.length cg, .slice af Fa.length cf, .slice aq Q.length cq, .slice am m.length cm, .slice AF F.length cF] _ (fun _ h => Blk.range h) Try.underlying79 rfl (by kernel_rfl)) hHeld ?_
          try simp only [List.getElem_toArray, List.getElem_cons_succ, List.getElem_cons_zero, Act.put, List.setIfInBounds_toArray, List.set_cons_zero, List.set_cons_succ]
          refine wpAnyH_take (i := 10) rfl (by kernel_rfl) (by kernel_rfl) (by kernel_rfl) (fun _ _ _ h => h) (yieldsIf_load_mid (by rfl) 79 _ rfl w.heap.size 0 rfl [k0, k1, k2, .int .i64 fl, .int .i64 cn, .int .i64 wt, .int .i64 tm, .slice A l.length c, .int .i64 m0, .int .i64 m1, .int .i64 m2, .int .i64 m3, .slice ag G.length cg, .slice af Fa.length cf, .slice aq Q.length cq, .slice am m.length cm, .slice AF F.length cF] _ (fun _ h => Blk.range h) Try.underlying79 rfl (by kernel_rfl)) hHeld ?_
          try simp only [List.getElem_toArray, List.getElem_cons_succ, List.getElem_cons_zero, Act.put, List.setIfInBounds_toArray, List.set_cons_zero, List.set_cons_succ]
          refine wpAnyH_ready (rs := [9]) (by kernel_rfl) (by simp) ?_
          refine AllReadyH.cons rfl (fun K hK => ?_) AllReadyH.nil
          rw [if_pos (by rfl)]
          go_simp
          refine (HR1.out _ ?_).mono ?_
          · exact ⟨⟨rr.W.l, rr.W.g, rr.W.f, rr.W.q, rr.W.m⟩, rr.F⟩
          rintro e w1 ⟨rfl, hb⟩
          repeat (have hb := below_undrew' hb)
          have sb := sb.below hb sb.lt
          have hB := hB.trans (hb.mono hB.size)
          have rr := rr.up hb
          have rm := (rm.below hb).more hb.size
          try dsimp only
          refine hK.out _ _ sb (fun hHeld => ?_)
          clear hK K
          try simp only [List.getElem_toArray, List.getElem_cons_succ, List.getElem_cons_zero, Act.put, List.setIfInBounds_toArray, List.set_cons_zero, List.set_cons_succ]
          refine wpAnyH_ready (rs := [11]) (by kernel_rfl) (by simp) ?_
          refine AllReadyH.cons rfl (fun K hK => ?_) AllReadyH.nil
          rw [if_pos (by rfl)]
          go_simp
          refine (HR2.out _ ?_).mono ?_
          · exact ⟨⟨rr.W.l, rr.W.g, rr.W.f, rr.W.q, rr.W.m⟩, rr.F⟩
          rintro e w1 ⟨rfl, hb⟩
          repeat (have hb := below_undrew' hb)
          have sb := sb.below hb sb.lt
          have hB := hB.trans (hb.mono hB.size)
          have rr := rr.up hb
          have rm := (rm.below hb).more hb.size
          try dsimp only
          refine hK.out _ _ sb (fun hHeld => ?_)
          clear hK K
          try simp only [List.getElem_toArray, List.getElem_cons_succ, List.getElem_cons_zero, Act.put, List.setIfInBounds_toArray, List.set_cons_zero, List.set_cons_succ]
          refine' wpAnyH_take (i := 12) (v := _) rfl (by kernel_rfl) (by kernel_rfl) (by kernel_rfl) (fun _ _ _ h => h) (Or.inl ⟨by rfl, ?hy12x10⟩) hHeld ?rest12x10
          case hy12x10 =>
            intro w hSw
            clear hSw
            go_simp
            try with_reducible rfl
          try simp only [List.getElem_toArray, List.getElem_cons_succ, List.getElem_cons_zero, Act.put, List.setIfInBounds_toArray, List.set_cons_zero, List.set_cons_succ]
          refine' wpAnyH_take (i := 13) (v := _) rfl (by kernel_rfl) (by kernel_rfl) (by kernel_rfl) (fun _ _ _ h => h) (Or.inl ⟨by rfl, ?hy13x10⟩) hHeld ?rest13x10
          case hy13x10 =>
            intro w hSw
            clear hSw
            go_simp
            try with_reducible rfl
          try simp only [List.getElem_toArray, List.getElem_cons_succ, List.getElem_cons_zero, Act.put, List.setIfInBounds_toArray, List.set_cons_zero, List.set_cons_succ]
          refine' wpAnyH_take (i := 14) (v := _) rfl (by kernel_rfl) (by kernel_rfl) (by kernel_rfl) (fun _ _ _ h => h) (Or.inl ⟨by rfl, ?hy14x10⟩) hHeld ?rest14x10
          case hy14x10 =>
            intro w hSw
            clear hSw
            go_simp
            try with_reducible rfl
          try simp only [List.getElem_toArray, List.getElem_cons_succ, List.getElem_cons_zero, Act.put, List.setIfInBounds_toArray, List.set_cons_zero, List.set_cons_succ]
          refine' wpAnyH_take (i := 15) (v := _) rfl (by kernel_rfl) (by kernel_rfl) (by kernel_rfl) (fun _ _ _ h => h) (Or.inl ⟨by rfl, ?hy15x10⟩) hHeld ?rest15x10
          case hy15x10 =>
            intro w hSw
            clear hSw
            go_simp
            try with_reducible rfl
          try simp only [List.getElem_toArray, List.getElem_cons_succ, List.getElem_cons_zero, Act.put, List.setIfInBounds_toArray, List.set_cons_zero, List.set_cons_succ]
          refine' wpAnyH_take (i := 17) (v := _) rfl (by kernel_rfl) (by kernel_rfl) (by kernel_rfl) (fun _ _ _ h => h) (Or.inl ⟨by rfl, ?hy17x10⟩) hHeld ?rest17x10
          case hy17x10 =>
            intro w hSw
            clear hSw
            go_simp
            try with_reducible rfl
          try simp only [List.getElem_toArray, List.getElem_cons_succ, List.getElem_cons_zero, Act.put, List.setIfInBounds_toArray, List.set_cons_zero, List.set_cons_succ]
          refine wpAnyH_ready (rs := [16]) (by kernel_rfl) (by simp) ?_
          refine AllReadyH.cons rfl (fun K hK => ?_) AllReadyH.nil
          rw [if_pos (by rfl)]
          go_simp
          refine (HO1.out _ ?_).mono ?_
          · exact rm
          rintro e w1 ⟨rfl, hb⟩
          repeat (have hb := below_undrew' hb)
          have sb := sb.below hb sb.lt
          have hB := hB.trans (hb.mono hB.size)
          have rr := rr.up hb
          have rm := (rm.below hb).more hb.size
          try dsimp only
          refine hK.out _ _ sb (fun hHeld => ?_)
          clear hK K
          try simp only [List.getElem_toArray, List.getElem_cons_succ, List.getElem_cons_zero, Act.put, List.setIfInBounds_toArray, List.set_cons_zero, List.set_cons_succ]
          refine wpAnyH_ready (rs := [18]) (by kernel_rfl) (by simp) ?_
          refine AllReadyH.cons rfl (fun K hK => ?_) AllReadyH.nil
          rw [if_pos (by rfl)]
          go_simp
          refine (HO2.out _ ?_).mono ?_
          · exact rm
          rintro e w1 ⟨rfl, hb⟩
          repeat (have hb := below_undrew' hb)
          have sb := sb.below hb sb.lt
          have hB := hB.trans (hb.mono hB.size)
          have rr := rr.up hb
          have rm := (rm.below hb).more hb.size
          try dsimp only
          refine hK.out _ _ sb (fun hHeld => ?_)
          clear hK K
          try simp only [List.getElem_toArray, List.getElem_cons_succ, List.getElem_cons_zero, Act.put, List.setIfInBounds_toArray, List.set_cons_zero, List.set_cons_succ]
          refine' wpAnyH_take (i := 19) (v := _) rfl (by kernel_rfl) (by kernel_rfl) (by kernel_rfl) (fun _ _ _ h => h) (Or.inl ⟨by rfl, ?hy19x10⟩) hHeld ?rest19x10
          case hy19x10 =>
            intro w hSw
            clear hSw
            go_simp
            try with_reducible rfl
          try simp only [List.getElem_toArray, List.getElem_cons_succ, List.getElem_cons_zero, Act.put, List.setIfInBounds_toArray, List.set_cons_zero, List.set_cons_succ]
          refine' wpAnyH_take (i := 20) (v := _) rfl (by kernel_rfl) (by kernel_rfl) (by kernel_rfl) (fun _ _ _ h => h) (Or.inl ⟨by rfl, ?hy20x10⟩) hHeld ?rest20x10
          case hy20x10 =>
            intro w hSw
            clear hSw
            go_simp
            try with_reducible rfl
          try simp only [List.getElem_toArray, List.getElem_cons_succ, List.getElem_cons_zero, Act.put, List.setIfInBounds_toArray, List.set_cons_zero, List.set_cons_succ]
          refine' wpAnyH_take (i := 21) (v := _) rfl (by kernel_rfl) (by kernel_rfl) (by kernel_rfl) (fun _ _ _ h => h) (Or.inl ⟨by rfl, ?hy21x10⟩) hHeld ?rest21x10
          case hy21x10 =>
            intro w hSw
            clear hSw
            go_simp
            try with_reducible rfl
          try simp only [List.getElem_toArray, List.getElem_cons_succ, List.getElem_cons_zero, Act.put, List.setIfInBounds_toArray, List.set_cons_zero, List.set_cons_succ]
          refine wpAnyH_done (by kernel_rfl) ?_ _
          all_goals
            go_wp2
            go_ret
            exact ⟨by simp, hB⟩
end Go.Proofs.Ytmcjgfoaiannoaa
