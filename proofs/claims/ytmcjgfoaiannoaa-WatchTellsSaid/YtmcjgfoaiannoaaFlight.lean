/-
  flight of watch: whether an ask is right. Condition: the length bounds that the reach pays.
-/
import Derived.Test.YtmcjgfoaiannoaaHeld
import Derived.Test.YtmcjgfoaiannoaaAllWalk
import Derived.Deep.RegionLaw
import Derived.Deep.RegionHeld3
import Derived.Deep.DeepCutAuto
import Derived.BigQuiet
import Derived.Deep.QuietTactic
namespace Go.Proofs.Ytmcjgfoaiannoaa
open Go.RowKit

theorem z4 (a : Nat) : ((a : Int) == 0) = decide (a = 0) := by
  rw [Bool.eq_iff_iff]
  simp
theorem hasZero4 (a b c d : Nat) (w : World) : (Op.equalIn 10000 23 (.agg #[.int .i64 (a : Int), .int .i64 (b : Int), .int .i64 (c : Int), .int .i64 (d : Int)]) (.agg #[.int .i64 0, .int .i64 0, .int .i64 0, .int .i64 0])).run Try.prog w = .ok (decide (a = 0) && (decide (b = 0) && (decide (c = 0) && decide (d = 0)))) w := by
  rw [eq4]
  simp [z4]
theorem keep4 {w : World} {T g i : Nat} (u0 u1 u2 u3 : Value) (h : g < T) : ((((w.setCell ⟨T, 0, none⟩ u0).setCell ⟨T, 1, none⟩ u1).setCell ⟨T, 2, none⟩ u2).setCell ⟨T, 3, none⟩ u3).cell? ⟨g, i, none⟩ = w.cell? ⟨g, i, none⟩ := by
  have hne : ∀ j, (⟨T, j, none⟩ : Addr) ≠ ⟨g, i, none⟩ := fun j e => by
    have : T = g := congrArg Addr.block e
    omega
  rw [World.cell?_setCell_other _ _ _ _ (hne 3), World.cell?_setCell_other _ _ _ _ (hne 2), World.cell?_setCell_other _ _ _ _ (hne 1), World.cell?_setCell_other _ _ _ _ (hne 0)]
set_option maxRecDepth 100000 in
set_option maxHeartbeats 4000000 in
theorem flight_any (s : SA) (d : SD) (g b off : Nat) (f : Fl) (w : World) (sb : Blk w g 79 #[d.k0, d.k1, d.k2, .int .i64 d.fl, .int .i64 d.cn, .int .i64 d.wt, .int .i64 d.tm, .slice s.a.A d.D.l.length s.a.c, .int .i64 d.D.m0, .int .i64 d.D.m1, .int .i64 d.D.m2, .int .i64 d.D.m3, .slice s.a.Ag d.D.g.length s.a.cg, .slice s.a.Af d.D.f.length s.a.cf, .slice s.a.Aq d.D.q.length s.a.cq, .slice s.a.Am d.D.m.length s.a.cm, .slice s.AF d.F.length s.cF]) (hf : FitS d) (hbl : b < w.heap.size)
    (x0 : w.cell? ⟨b, off, none⟩ = some (.int .i64 f.id)) (x1 : w.cell? ⟨b, off + 1, none⟩ = some (.int .i64 f.ph)) (x7 : w.cell? ⟨b, off + 7, none⟩ = some (.int .i64 f.st)) (x14 : w.cell? ⟨b, off + 14, none⟩ = some (.bool f.wt))
    (hl : Rd 3 encH w w.heap.size s.a.A d.D.l) (hq : Rd 1 encI w w.heap.size s.a.Aq d.D.q) :
    Calls Try.prog 59 #[.pointer (some ⟨g, 0, none⟩), .pointer (some ⟨b, off, none⟩)] w fun e w' => e = .returned (.bool (flOk d.D.l d.D.q f)) ∧ Below w.heap.size w w' := by
  obtain ⟨id, ph, a2, a3, a4, a5, a6, st, a8, a9, a10, a11, a12, a13, wt, a15⟩ := f
  simp only at x0 x1 x7 x14
  have hn : d.D.l.length * 24 ≤ 140737488355328 := by have := hf.W.l; omega
  have hnq : d.D.q.length ≤ 140737488355328 := by have := hf.W.q; omega
  obtain ⟨p0, p1, p2, p3, p4, p5, p6, p7, p8, p9, p10, p11, p12, p13, p14, p15, p16⟩ := sb.c17
  have hB := Below.refl w.heap.size w
  have bl := sb.lt
  go_enter Try.func59, Try.ntmps59
  go_upto_region 1 with fail
  go_cut [5] (fun t wx => ∃ T, t = .pointer (some ⟨T, 0, none⟩) ∧ w.heap.size ≤ T ∧ Blk wx T 23 #[.int .i64 (kOf d.D.l id 0 : Nat), .int .i64 (kOf d.D.l id 1 : Nat), .int .i64 (kOf d.D.l id 2 : Nat), .int .i64 (kOf d.D.l id 3 : Nat)] ∧ Below w.heap.size w wx)
  case first =>
    as_aux_lemma =>
      have hlA : Rd 3 encH (w.alloc (.cells #[.int .i64 0, .int .i64 0, .int .i64 0, .int .i64 0] 23)) (w.alloc (.cells #[.int .i64 0, .int .i64 0, .int .i64 0, .int .i64 0] 23)).heap.size s.a.A d.D.l := (hl.alloc (Nat.le_refl _) _).more (by simp)
      have bA : Blk (w.alloc (.cells #[.int .i64 0, .int .i64 0, .int .i64 0, .int .i64 0] 23)) w.heap.size 23 #[.int .i64 0, .int .i64 0, .int .i64 0, .int .i64 0] := Blk.new _ _ _
      have hA : Below w.heap.size w (w.alloc (.cells #[.int .i64 0, .int .i64 0, .int .i64 0, .int .i64 0] 23)) := (Below.refl _ w).alloc (Nat.le_refl _) _
      have sA : w.heap.size ≤ (w.alloc (.cells #[.int .i64 0, .int .i64 0, .int .i64 0, .int .i64 0] 23)).heap.size := by simp
      go_region_held3 (fun wx => wx.cell? ⟨g, 0, none⟩ = some (d.k0) ∧ wx.cell? ⟨g, 1, none⟩ = some (d.k1) ∧ wx.cell? ⟨g, 2, none⟩ = some (d.k2) ∧ wx.cell? ⟨g, 3, none⟩ = some (.int .i64 d.fl) ∧ wx.cell? ⟨g, 4, none⟩ = some (.int .i64 d.cn) ∧ wx.cell? ⟨g, 5, none⟩ = some (.int .i64 d.wt) ∧ wx.cell? ⟨g, 6, none⟩ = some (.int .i64 d.tm) ∧ wx.cell? ⟨g, 7, none⟩ = some (.slice s.a.A d.D.l.length s.a.c) ∧ wx.cell? ⟨g, 8, none⟩ = some (.int .i64 d.D.m0) ∧ wx.cell? ⟨g, 9, none⟩ = some (.int .i64 d.D.m1) ∧ wx.cell? ⟨g, 10, none⟩ = some (.int .i64 d.D.m2) ∧ wx.cell? ⟨g, 11, none⟩ = some (.int .i64 d.D.m3) ∧ wx.cell? ⟨g, 12, none⟩ = some (.slice s.a.Ag d.D.g.length s.a.cg) ∧ wx.cell? ⟨g, 13, none⟩ = some (.slice s.a.Af d.D.f.length s.a.cf) ∧ wx.cell? ⟨g, 14, none⟩ = some (.slice s.a.Aq d.D.q.length s.a.cq) ∧ wx.cell? ⟨g, 15, none⟩ = some (.slice s.a.Am d.D.m.length s.a.cm) ∧ wx.cell? ⟨g, 16, none⟩ = some (.slice s.AF d.F.length s.cF) ∧ wx.cell? ⟨b, off, none⟩ = some (.int .i64 id)) (first
        | (with_reducible exact ⟨p0, p1, p2, p3, p4, p5, p6, p7, p8, p9, p10, p11, p12, p13, p14, p15, p16, x0⟩)
        | (with_reducible exact ⟨(keep4 _ _ _ _ bl).trans p0, (keep4 _ _ _ _ bl).trans p1, (keep4 _ _ _ _ bl).trans p2, (keep4 _ _ _ _ bl).trans p3, (keep4 _ _ _ _ bl).trans p4, (keep4 _ _ _ _ bl).trans p5, (keep4 _ _ _ _ bl).trans p6, (keep4 _ _ _ _ bl).trans p7, (keep4 _ _ _ _ bl).trans p8, (keep4 _ _ _ _ bl).trans p9, (keep4 _ _ _ _ bl).trans p10, (keep4 _ _ _ _ bl).trans p11, (keep4 _ _ _ _ bl).trans p12, (keep4 _ _ _ _ bl).trans p13, (keep4 _ _ _ _ bl).trans p14, (keep4 _ _ _ _ bl).trans p15, (keep4 _ _ _ _ bl).trans p16, (keep4 _ _ _ _ hbl).trans x0⟩)
        | go_keep)
        (first
        | (go_simp
           with_reducible refine (held_any s d id _ ?_ ?_).mono ?_
           · exact hlA
           · exact hn
           rintro e w1 ⟨rfl, hb⟩
           repeat (have hb := below_undrew' hb)
           have b5 := bA.below hb bA.lt
           have hB := below_of hA hb sA
           have sbn := sb.below hB bl
           obtain ⟨p0, p1, p2, p3, p4, p5, p6, p7, p8, p9, p10, p11, p12, p13, p14, p15, p16⟩ := sbn.c17
           have x0 := (hB.cell (p := ⟨b, off, none⟩) hbl).trans x0
           have b5f := b5.frz
           obtain ⟨z0, z1, z2, z3⟩ := b5.c4
           have b5l := b5.lt)
        | (go_simp
           with_reducible refine (held_any s d id _ ?_ ?_).mono ?_
           · exact hl
           · exact hn
           rintro e w1 ⟨rfl, hb⟩
           repeat (have hb := below_undrew' hb)
           have hB : Below w.heap.size w w1 := hb
           have sbn := sb.below hB bl
           obtain ⟨p0, p1, p2, p3, p4, p5, p6, p7, p8, p9, p10, p11, p12, p13, p14, p15, p16⟩ := sbn.c17
           have x0 := (hB.cell (p := ⟨b, off, none⟩) hbl).trans x0))
      all_goals
        go_wp2_with fail
        go_meet
        first
          | (have b5 := b5
             refine ⟨_, rfl, Nat.le_refl _, (((b5.set_ 0 _).set_ 1 _).set_ 2 _).set_ 3 _, ?_⟩
             exact (((hB.setCell (p := ⟨w.heap.size, 0, none⟩) (Nat.le_refl _) _).setCell (p := ⟨w.heap.size, 1, none⟩) (Nat.le_refl _) _).setCell (p := ⟨w.heap.size, 2, none⟩) (Nat.le_refl _) _).setCell (p := ⟨w.heap.size, 3, none⟩) (Nat.le_refl _) _)
          | exact ⟨_, rfl, hB.size, Blk.new _ _ _, hB.alloc hB.size _⟩
  case rest =>
    obtain ⟨T, rfl, hT, b5, hB⟩ := hcut
    have x0 := (hB.cell (p := ⟨b, off, none⟩) hbl).trans x0
    have x1 := (hB.cell (p := ⟨b, off + 1, none⟩) hbl).trans x1
    have x7 := (hB.cell (p := ⟨b, off + 7, none⟩) hbl).trans x7
    have x14 := (hB.cell (p := ⟨b, off + 14, none⟩) hbl).trans x14
    have hbl := Nat.lt_of_lt_of_le hbl hB.size
    have sb := sb.below hB sb.lt
    have hq := (hq.below hB)
    have p14 := sb.c17.2.2.2.2.2.2.2.2.2.2.2.2.2.2.1
    have bl := sb.lt
    have b5l := b5.lt
    clear hl sb
    obtain ⟨c0, h0⟩ : ∃ c, c = kOf d.D.l id 0 := ⟨_, rfl⟩
    obtain ⟨c1, h1⟩ : ∃ c, c = kOf d.D.l id 1 := ⟨_, rfl⟩
    obtain ⟨c2, h2⟩ : ∃ c, c = kOf d.D.l id 2 := ⟨_, rfl⟩
    obtain ⟨c3, h3⟩ : ∃ c, c = kOf d.D.l id 3 := ⟨_, rfl⟩
    obtain ⟨q, hqv⟩ : ∃ q, q = d.D.q.any (· == id) := ⟨_, rfl⟩
    rw [← h0, ← h1, ← h2, ← h3] at b5
    obtain ⟨e0, e1, e2, e3⟩ := b5.c4
    have HV : Hid (∀ r : Bool, (if ph < 1 ∨ 6 < ph then false
      else if ph = 6 then decide (c0 = 0) && decide (c1 = 0) && decide (c2 = 0) && decide (c3 = 0) && !wt && decide (st ≠ 0)
      else if 1 < c2 ∨ (c2 = 1 ∧ ph ≠ 2) then false
      else if (ph < 5 ∧ c1 ≠ 1) ∨ 1 < c1 then false
      else (wt == q) && (!wt || decide (ph = 2))) = r → flOk d.D.l d.D.q ⟨id, ph, a2, a3, a4, a5, a6, st, a8, a9, a10, a11, a12, a13, wt, a15⟩ = r) := Lib.hid (fun r hr => by
        rw [← hr, h0, h1, h2, h3, hqv]
        rfl)
    have HC := Lib.hid (containsI_any s.a.Aq s.a.cq d.D.q id)
    rw [← hqv] at HC
    clear h0 h1 h2 h3 hqv b5
    by_cases A1 : ph < 1
    · as_aux_lemma =>
        have hv := HV.out false (by simp [A1])
        go_wp2
        go_ret
        try rw [hv]
        exact ⟨rfl, hB⟩
    by_cases A2 : 6 < ph
    · as_aux_lemma =>
        have hv := HV.out false (by simp [A2])
        go_wp2
        go_ret
        try rw [hv]
        exact ⟨rfl, hB⟩
    by_cases A3 : ph = 6
    · subst ph
      by_cases hz : c0 = 0 ∧ c1 = 0 ∧ c2 = 0 ∧ c3 = 0
      · obtain ⟨rfl, rfl, rfl, rfl⟩ := hz
        have hE : ∀ w : World, (Op.equalIn 10000 23 (.agg #[.int .i64 ((0 : Nat) : Int), .int .i64 ((0 : Nat) : Int), .int .i64 ((0 : Nat) : Int), .int .i64 ((0 : Nat) : Int)]) (.agg #[.int .i64 0, .int .i64 0, .int .i64 0, .int .i64 0])).run Try.prog w = .ok true w := fun w => by rw [hasZero4]; simp
        simp only [Int.cast_ofNat_Int] at hE e0 e1 e2 e3
        cases wt
        · by_cases hs : st = 0
          · subst st
            as_aux_lemma =>
              have hv := HV.out false (by simp)
              go_wp2
              go_ret
              try rw [hv]
              exact ⟨rfl, hB⟩
          · have hs1 : (st == 0) = false := by simpa using hs
            have hs2 : (st != 0) = true := by simpa using hs
            as_aux_lemma =>
              have hv := HV.out true (by simp [hs])
              go_wp2
              go_ret
              try rw [hv]
              exact ⟨rfl, hB⟩
        · as_aux_lemma =>
            have hv := HV.out false (by simp)
            go_wp2
            go_ret
            try rw [hv]
            exact ⟨rfl, hB⟩
      · have hE : ∀ w : World, (Op.equalIn 10000 23 (.agg #[.int .i64 (c0 : Int), .int .i64 (c1 : Int), .int .i64 (c2 : Int), .int .i64 (c3 : Int)]) (.agg #[.int .i64 0, .int .i64 0, .int .i64 0, .int .i64 0])).run Try.prog w = .ok false w := fun w => by
          rw [hasZero4]
          have : (decide (c0 = 0) && (decide (c1 = 0) && (decide (c2 = 0) && decide (c3 = 0)))) = false := by
            rw [← Bool.not_eq_true]
            simpa using hz
          rw [this]
        as_aux_lemma =>
          have hv := HV.out false (by
            have : (decide (c0 = 0) && decide (c1 = 0) && decide (c2 = 0) && decide (c3 = 0)) = false := by
              rw [← Bool.not_eq_true]
              simpa [Bool.and_assoc] using hz
            simp [this])
          clear hz
          go_wp2
          go_ret
          try rw [hv]
          exact ⟨rfl, hB⟩
    have A4 : (ph == 6) = false := by simpa using A3
    by_cases D1 : 1 < c2
    · as_aux_lemma =>
        have hv := HV.out false (by simp [A1, A2, A3, D1])
        go_wp2
        go_ret
        try rw [hv]
        exact ⟨rfl, hB⟩
    by_cases D2 : c2 = 1 ∧ ph ≠ 2
    · as_aux_lemma =>
        have hv := HV.out false (by simp [A1, A2, A3, D2])
        obtain ⟨rfl, D2⟩ := D2
        have D3 : (ph == 2) = false := by simpa using D2
        have D4 : (ph != 2) = true := by simpa using D2
        go_wp2
        go_ret
        try rw [hv]
        exact ⟨rfl, hB⟩
    rcases (show c2 = 0 ∨ (c2 = 1 ∧ ph = 2) by omega) with rfl | ⟨rfl, rfl⟩
    · skip
      by_cases E1 : 1 < c1
      · have E2 : ((c1 : Int) == 1) = false := by simp; omega
        have E3 : ((c1 : Int) != 1) = true := by simp; omega
        as_aux_lemma =>
          have hv := HV.out false (by simp [A1, A2, A3, E1])
          go_wp2
          all_goals
            go_ret
            try rw [hv]
            exact ⟨rfl, hB⟩
      by_cases E4 : c1 = 1
      · subst c1
        by_cases P2 : ph = 2
        · subst ph
          cases wt <;> cases q
          · skip
            as_aux_lemma =>
              have hv := HV.out true (by simp [])
              go_upto_region 10 with fail
              go_quiet (first | (go_at_call 56; refine Calls.quiet_of_same (HC.out _ w.heap.size ?_ hnq); exact hq))
              go_wp2
              all_goals
                go_ret
                try rw [hv]
                exact ⟨rfl, below_drewN hB _⟩
          · skip
            as_aux_lemma =>
              have hv := HV.out false (by simp [])
              go_upto_region 10 with fail
              go_quiet (first | (go_at_call 56; refine Calls.quiet_of_same (HC.out _ w.heap.size ?_ hnq); exact hq))
              go_wp2
              all_goals
                go_ret
                try rw [hv]
                exact ⟨rfl, below_drewN hB _⟩
          · skip
            as_aux_lemma =>
              have hv := HV.out false (by simp [])
              go_upto_region 10 with fail
              go_quiet (first | (go_at_call 56; refine Calls.quiet_of_same (HC.out _ w.heap.size ?_ hnq); exact hq))
              go_wp2
              all_goals
                go_ret
                try rw [hv]
                exact ⟨rfl, below_drewN hB _⟩
          · skip
            as_aux_lemma =>
              have hv := HV.out true (by simp [])
              go_upto_region 10 with fail
              go_quiet (first | (go_at_call 56; refine Calls.quiet_of_same (HC.out _ w.heap.size ?_ hnq); exact hq))
              go_wp2
              all_goals
                go_ret
                try rw [hv]
                exact ⟨rfl, below_drewN hB _⟩
        have P3 : (ph == 2) = false := by simpa using P2
        rcases (show ph < 5 ∨ 5 ≤ ph by omega) with E5 | E5
        · skip
          cases wt <;> cases q
          · skip
            as_aux_lemma =>
              have hv := HV.out true (by simp [A1, A2, A3, P2])
              go_upto_region 10 with fail
              go_quiet (first | (go_at_call 56; refine Calls.quiet_of_same (HC.out _ w.heap.size ?_ hnq); exact hq))
              go_wp2
              all_goals
                go_ret
                try rw [hv]
                exact ⟨rfl, below_drewN hB _⟩
          · skip
            as_aux_lemma =>
              have hv := HV.out false (by simp [A1, A2, A3, P2])
              go_upto_region 10 with fail
              go_quiet (first | (go_at_call 56; refine Calls.quiet_of_same (HC.out _ w.heap.size ?_ hnq); exact hq))
              go_wp2
              all_goals
                go_ret
                try rw [hv]
                exact ⟨rfl, below_drewN hB _⟩
          · skip
            as_aux_lemma =>
              have hv := HV.out false (by simp [A1, A2, A3, P2])
              go_upto_region 10 with fail
              go_quiet (first | (go_at_call 56; refine Calls.quiet_of_same (HC.out _ w.heap.size ?_ hnq); exact hq))
              go_wp2
              all_goals
                go_ret
                try rw [hv]
                exact ⟨rfl, below_drewN hB _⟩
          · skip
            as_aux_lemma =>
              have hv := HV.out false (by simp [A1, A2, A3, P2])
              go_upto_region 10 with fail
              go_quiet (first | (go_at_call 56; refine Calls.quiet_of_same (HC.out _ w.heap.size ?_ hnq); exact hq))
              go_wp2
              all_goals
                go_ret
                try rw [hv]
                exact ⟨rfl, below_drewN hB _⟩
        · skip
          cases wt <;> cases q
          · skip
            as_aux_lemma =>
              have hv := HV.out true (by simp [A1, A2, A3, P2])
              go_upto_region 10 with fail
              go_quiet (first | (go_at_call 56; refine Calls.quiet_of_same (HC.out _ w.heap.size ?_ hnq); exact hq))
              go_wp2
              all_goals
                go_ret
                try rw [hv]
                exact ⟨rfl, below_drewN hB _⟩
          · skip
            as_aux_lemma =>
              have hv := HV.out false (by simp [A1, A2, A3, P2])
              go_upto_region 10 with fail
              go_quiet (first | (go_at_call 56; refine Calls.quiet_of_same (HC.out _ w.heap.size ?_ hnq); exact hq))
              go_wp2
              all_goals
                go_ret
                try rw [hv]
                exact ⟨rfl, below_drewN hB _⟩
          · skip
            as_aux_lemma =>
              have hv := HV.out false (by simp [A1, A2, A3, P2])
              go_upto_region 10 with fail
              go_quiet (first | (go_at_call 56; refine Calls.quiet_of_same (HC.out _ w.heap.size ?_ hnq); exact hq))
              go_wp2
              all_goals
                go_ret
                try rw [hv]
                exact ⟨rfl, below_drewN hB _⟩
          · skip
            as_aux_lemma =>
              have hv := HV.out false (by simp [A1, A2, A3, P2])
              go_upto_region 10 with fail
              go_quiet (first | (go_at_call 56; refine Calls.quiet_of_same (HC.out _ w.heap.size ?_ hnq); exact hq))
              go_wp2
              all_goals
                go_ret
                try rw [hv]
                exact ⟨rfl, below_drewN hB _⟩
      · have E2 : ((c1 : Int) == 1) = false := by simp; omega
        have E3 : ((c1 : Int) != 1) = true := by simp; omega
        by_cases E5 : ph < 5
        · skip
          as_aux_lemma =>
            have hv := HV.out false (by simp [A1, A2, A3, E4, E5])
            go_wp2
            all_goals
              go_ret
              try rw [hv]
              exact ⟨rfl, hB⟩
        · skip
          by_cases P2 : ph = 2
          · subst ph
            exfalso; omega
          have P3 : (ph == 2) = false := by simpa using P2
          cases wt <;> cases q
          · skip
            as_aux_lemma =>
              have hv := HV.out true (by simp [A1, A2, A3, E1, E5, P2])
              go_upto_region 10 with fail
              go_quiet (first | (go_at_call 56; refine Calls.quiet_of_same (HC.out _ w.heap.size ?_ hnq); exact hq))
              go_wp2
              all_goals
                go_ret
                try rw [hv]
                exact ⟨rfl, below_drewN hB _⟩
          · skip
            as_aux_lemma =>
              have hv := HV.out false (by simp [A1, A2, A3, E1, E5, P2])
              go_upto_region 10 with fail
              go_quiet (first | (go_at_call 56; refine Calls.quiet_of_same (HC.out _ w.heap.size ?_ hnq); exact hq))
              go_wp2
              all_goals
                go_ret
                try rw [hv]
                exact ⟨rfl, below_drewN hB _⟩
          · skip
            as_aux_lemma =>
              have hv := HV.out false (by simp [A1, A2, A3, E1, E5, P2])
              go_upto_region 10 with fail
              go_quiet (first | (go_at_call 56; refine Calls.quiet_of_same (HC.out _ w.heap.size ?_ hnq); exact hq))
              go_wp2
              all_goals
                go_ret
                try rw [hv]
                exact ⟨rfl, below_drewN hB _⟩
          · skip
            as_aux_lemma =>
              have hv := HV.out false (by simp [A1, A2, A3, E1, E5, P2])
              go_upto_region 10 with fail
              go_quiet (first | (go_at_call 56; refine Calls.quiet_of_same (HC.out _ w.heap.size ?_ hnq); exact hq))
              go_wp2
              all_goals
                go_ret
                try rw [hv]
                exact ⟨rfl, below_drewN hB _⟩
    · skip
      by_cases E1 : 1 < c1
      · have E2 : ((c1 : Int) == 1) = false := by simp; omega
        have E3 : ((c1 : Int) != 1) = true := by simp; omega
        as_aux_lemma =>
          have hv := HV.out false (by simp [E1])
          go_wp2
          all_goals
            go_ret
            try rw [hv]
            exact ⟨rfl, hB⟩
      by_cases E4 : c1 = 1
      · subst c1
        cases wt <;> cases q
        · skip
          as_aux_lemma =>
            have hv := HV.out true (by simp [])
            go_upto_region 10 with fail
            go_quiet (first | (go_at_call 56; refine Calls.quiet_of_same (HC.out _ w.heap.size ?_ hnq); exact hq))
            go_wp2
            all_goals
              go_ret
              try rw [hv]
              exact ⟨rfl, below_drewN hB _⟩
        · skip
          as_aux_lemma =>
            have hv := HV.out false (by simp [])
            go_upto_region 10 with fail
            go_quiet (first | (go_at_call 56; refine Calls.quiet_of_same (HC.out _ w.heap.size ?_ hnq); exact hq))
            go_wp2
            all_goals
              go_ret
              try rw [hv]
              exact ⟨rfl, below_drewN hB _⟩
        · skip
          as_aux_lemma =>
            have hv := HV.out false (by simp [])
            go_upto_region 10 with fail
            go_quiet (first | (go_at_call 56; refine Calls.quiet_of_same (HC.out _ w.heap.size ?_ hnq); exact hq))
            go_wp2
            all_goals
              go_ret
              try rw [hv]
              exact ⟨rfl, below_drewN hB _⟩
        · skip
          as_aux_lemma =>
            have hv := HV.out true (by simp [])
            go_upto_region 10 with fail
            go_quiet (first | (go_at_call 56; refine Calls.quiet_of_same (HC.out _ w.heap.size ?_ hnq); exact hq))
            go_wp2
            all_goals
              go_ret
              try rw [hv]
              exact ⟨rfl, below_drewN hB _⟩
      · have E2 : ((c1 : Int) == 1) = false := by simp; omega
        have E3 : ((c1 : Int) != 1) = true := by simp; omega
        as_aux_lemma =>
          have hv := HV.out false (by simp [E4])
          go_wp2
          all_goals
            go_ret
            try rw [hv]
            exact ⟨rfl, hB⟩
end Go.Proofs.Ytmcjgfoaiannoaa
