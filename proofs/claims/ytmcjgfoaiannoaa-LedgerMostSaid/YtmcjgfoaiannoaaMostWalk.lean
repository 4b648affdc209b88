/-
  LedgerMost: the walk. Conditions: the length bound that the reach pays.
-/
import Derived.Test.YtmcjgfoaiannoaaMostLaw
import Derived.Test.YtmcjgfoaiannoaaOpenInts
import Derived.Test.YtmcjgfoaiannoaaOwn
namespace Go.Proofs.Ytmcjgfoaiannoaa
open Go.RowKit

set_option maxRecDepth 100000 in
set_option maxHeartbeats 2000000 in
theorem ledgerMost_walk (a b c : Int) (A : Option Addr) (ci : Nat) (ids : List Int) (w : World) (hr : Rd 1 encI w w.heap.size A ids) (hn : ids.length ≤ 140737488355328) :
    Calls Try.prog 6 #[.int .i64 a, .int .i64 b, .int .i64 c, .slice A ids.length ci] w fun e w' => e = .returned (.bool true) ∧ Below w.heap.size w w' := by
  go_enter Try.func6, Try.ntmps6
  go_wp2_with (go_at_call 25; refine Hid.out ?_)
  unfold Hid
  refine (alive3_any w).mono ?_
  rintro e w1 ⟨rfl, hb1⟩
  rcases Decidable.em (0 ≤ a ∧ a ≤ 10 ∧ 0 ≤ b ∧ b ≤ 10 ∧ 0 ≤ c ∧ c ≤ 10) with ⟨ha0, ha1, hb0, hb1', hc0, hc1⟩ | hno
  rotate_left
  · have hcs : a < 0 ∨ 0 ≤ a ∧ 10 < a ∨ 0 ≤ a ∧ a ≤ 10 ∧ (b < 0 ∨ 0 ≤ b ∧ 10 < b ∨ 0 ≤ b ∧ b ≤ 10 ∧ (c < 0 ∨ 0 ≤ c ∧ 10 < c)) := by omega
    clear hno
    rcases hcs with h | ⟨h, h2⟩ | ⟨h, h2, h3 | ⟨h3, h4⟩ | ⟨h3, h4, h5 | ⟨h5, h6⟩⟩⟩
    all_goals
      go_wp2
      go_ret
      exact ⟨rfl, hb1⟩
  have hr1 : Rd 1 encI w1 w.heap.size A ids := hr.below hb1
  go_wp2_with (go_at_call 15; refine Hid.out ?_)
  unfold Hid
  refine (newL_any a b c w1).mono ?_
  rintro e w2 ⟨rfl, hb2⟩
  have hB2 := hb1.trans (hb2.mono hb1.size)
  clear hb2 hr1
  go_wp2
  go_loopw [46] (fun i wr => ∃ (k cx : Nat) (Ax : Option Addr) (x : List (Int × Int × Int)), k ≤ ids.length ∧ i = .int .i64 k ∧ Blk wr w2.heap.size 25 #[.slice Ax x.length cx, .int .i64 0, .int .i64 a, .int .i64 b, .int .i64 c] ∧ Ow wr 0 Ax cx x ∧ Fits a b c x ∧ Below w.heap.size w wr)
    (fun i _ => ids.length - (intOf i).toNat)
  case atStart => exact ⟨0, 0, none, [], Nat.zero_le _, rfl, Blk.new _ _ _, Ow.nil_, fits_nil ha0 hb0 hc0, hB2.alloc hB2.size _⟩
  case round =>
    obtain ⟨k, cx, Ax, x, hk, rfl, xb, xo, xf, hB⟩ := hrel
    have hz2 : w.heap.size ≤ w2.heap.size := hB2.size
    clear hB2 hb1
    generalize w2.heap.size = g at xb hz2 ⊢
    clear w1 w2
    by_cases hlt : k < ids.length
    · obtain ⟨qb, qo, n, rfl, hqb, hqk, hqc⟩ := hr.at_ hlt
      have q0 : wr.cell? ⟨qb, qo + k, none⟩ = some (.int .i64 n) := by
        rw [hB.cell (p := ⟨qb, qo + k, none⟩) hqb]
        simpa using hqc 0 _ rfl
      clear hqc hqk
      rcases (show n < 0 ∨ 0 ≤ n ∧ 1000 < n ∨ 0 ≤ n ∧ n ≤ 1000 by omega) with hn0 | ⟨hn0, hn1⟩ | ⟨hn0, hn1⟩
      · go_wp2
        go_roundw
        case rel => exact ⟨k + 1, cx, Ax, x, by omega, by go_num, xb, xo, xf, hB⟩
        case measure => simp [intOf]; omega
      · go_wp2
        go_roundw
        case rel => exact ⟨k + 1, cx, Ax, x, by omega, by go_num, xb, xo, xf, hB⟩
        case measure => simp [intOf]; omega
      · obtain ⟨k0, k1, k2, k3, k4⟩ := xb.c5
        have l1 := xb.lt
        by_cases hq : n / 12 % 3 = 0
        rotate_left
        · go_wp2_with (go_at_call 21; refine Hid.out ?_)
          unfold Hid
          obtain ⟨V, hV⟩ : ∃ V, V = wr.alloc (.cells #[.slice none 0 0, .int .i64 0, .int .i64 0, .int .i64 0, .int .i64 0] 25) := ⟨_, rfl⟩
          rw [← hV]
          clear hq
          generalize 1 + n % 3 = kd
          generalize n / 3 % 4 = idd
          have yb : Blk V wr.heap.size 25 #[.slice none 0 0, .int .i64 0, .int .i64 0, .int .i64 0, .int .i64 0] := by rw [hV]; exact Blk.new _ _ _
          have xb : Blk V g 25 #[.slice Ax x.length cx, .int .i64 0, .int .i64 a, .int .i64 b, .int .i64 c] := by rw [hV]; exact xb.alloc _
          have xo : Ow V 0 Ax cx x := by rw [hV]; exact xo.alloc _
          have hB : Below w.heap.size w V := by rw [hV]; exact hB.alloc hB.size _
          have hgy : wr.heap.size ≠ g := by have := l1; omega
          have hzy : w.heap.size ≤ wr.heap.size := by have := l1; omega
          clear hV q0 k0 k1 k2 k3 k4 l1
          have hc := take_own Ax cx x 0 a b c idd kd n V xo.rd (by have := xf.len ha1 hb1' hc1; omega)
          rcases fits_take (m0 := 0) xf idd kd n with ⟨x', hgv, xf'⟩ | ⟨er, her, hgv⟩
          · rw [hgv] at hc
            refine hc.mono ?_
            clear hc
            rintro e v1 ⟨A1, c1, rfl, yo, hb1⟩
            simp only [ledV] at yo ⊢
            have xb := xb.below hb1 xb.lt
            have yb := yb.below hb1 yb.lt
            have xo := xo.below hb1
            have hB := hB.trans (hb1.mono hB.size)
            obtain ⟨k0, k1, k2, k3, k4⟩ := xb.c5
            obtain ⟨j0, j1, j2, j3, j4⟩ := yb.c5
            have kf := xb.frz
            have jf := yb.frz
            have l1 := xb.lt
            have l2 := yb.lt
            go_wp2_with (go_at_call 13; refine Hid.out ?_)
            unfold Hid
            obtain ⟨V1, hV1⟩ : ∃ V1, V1 = (((((v1.setCell ⟨wr.heap.size, 0, none⟩ (.slice A1 x'.length c1)).setCell ⟨wr.heap.size, 1, none⟩ (.int .i64 0)).setCell ⟨wr.heap.size, 2, none⟩ (.int .i64 a)).setCell ⟨wr.heap.size, 3, none⟩ (.int .i64 b)).setCell ⟨wr.heap.size, 4, none⟩ (.int .i64 c)) := ⟨_, rfl⟩
            rw [← hV1]
            obtain ⟨V2, hV2⟩ : ∃ V2, V2 = (((((V1.setCell ⟨g, 0, none⟩ (.slice A1 x'.length c1)).setCell ⟨g, 1, none⟩ (.int .i64 0)).setCell ⟨g, 2, none⟩ (.int .i64 a)).setCell ⟨g, 3, none⟩ (.int .i64 b)).setCell ⟨g, 4, none⟩ (.int .i64 c)) := ⟨_, rfl⟩
            rw [← hV2]
            have hz : V1.heap.size = v1.heap.size := by rw [hV1]; simp
            have zz : V2.heap.size = v1.heap.size := by rw [hV2]; simp [hz]
            have x1 : Blk V1 g 25 #[.slice Ax x.length cx, .int .i64 0, .int .i64 a, .int .i64 b, .int .i64 c] := by rw [hV1]; exact (((((xb.far (Ne.symm hgy) _).far (Ne.symm hgy) _).far (Ne.symm hgy) _).far (Ne.symm hgy) _).far (Ne.symm hgy) _)
            have o1 : Ow V1 0 A1 c1 x' := by rw [hV1]; exact ((((((yo.more (Nat.zero_le _)).set_ yb (by decide) _).set_ (yb.set_ 0 _) (by decide) _).set_ ((yb.set_ 0 _).set_ 1 _) (by decide) _).set_ (((yb.set_ 0 _).set_ 1 _).set_ 2 _) (by decide) _).set_ ((((yb.set_ 0 _).set_ 1 _).set_ 2 _).set_ 3 _) (by decide) _)
            have B1 : Below w.heap.size w V1 := by
              rw [hV1]
              iterate 5 refine Below.setCell ?_ (by (try simp) <;> omega) _
              exact hB
            have xb : Blk V2 g 25 #[.slice A1 x'.length c1, .int .i64 0, .int .i64 a, .int .i64 b, .int .i64 c] := by rw [hV2]; exact (((((x1.set_ 0 _).set_ 1 _).set_ 2 _).set_ 3 _).set_ 4 _)
            have xo : Ow V2 0 A1 c1 x' := by rw [hV2]; exact (((((o1.set_ x1 (by decide) _).set_ (x1.set_ 0 _) (by decide) _).set_ ((x1.set_ 0 _).set_ 1 _) (by decide) _).set_ (((x1.set_ 0 _).set_ 1 _).set_ 2 _) (by decide) _).set_ ((((x1.set_ 0 _).set_ 1 _).set_ 2 _).set_ 3 _) (by decide) _)
            have hB : Below w.heap.size w V2 := by
              rw [hV2]
              iterate 5 refine Below.setCell ?_ (by (try simp) <;> omega) _
              exact B1
            have xf := xf'
            clear hV1 hV2 xf' hz zz x1 o1 B1 k0 k1 k2 k3 k4 l1
            clear hb1 yb yo jf kf j0 j1 j2 j3 j4 l2
            obtain ⟨k0, k1, k2, k3, k4⟩ := xb.c5
            have l1 := xb.lt
            have f1 := xf.2.1
            have f2 := xf.2.2.1
            have f3 := xf.2.2.2
            refine (count_any A1 c1 x' 0 a b c 1 _ xo.rd (by have := xf.len ha1 hb1' hc1; omega)).mono ?_
            rintro e v2 ⟨rfl, hb1⟩
            have xb := xb.below hb1 xb.lt
            have xo := xo.below hb1
            have hB := hB.trans (hb1.mono hB.size)
            obtain ⟨k0, k1, k2, k3, k4⟩ := xb.c5
            have l1 := xb.lt
            go_wp2_with (go_at_call 13; refine Hid.out ?_)
            unfold Hid
            refine (count_any A1 c1 x' 0 a b c 2 _ xo.rd (by have := xf.len ha1 hb1' hc1; omega)).mono ?_
            rintro e v3 ⟨rfl, hb1⟩
            have xb := xb.below hb1 xb.lt
            have xo := xo.below hb1
            have hB := hB.trans (hb1.mono hB.size)
            obtain ⟨k0, k1, k2, k3, k4⟩ := xb.c5
            have l1 := xb.lt
            go_wp2_with (go_at_call 13; refine Hid.out ?_)
            unfold Hid
            refine (count_any A1 c1 x' 0 a b c 3 _ xo.rd (by have := xf.len ha1 hb1' hc1; omega)).mono ?_
            rintro e v4 ⟨rfl, hb1⟩
            have xb := xb.below hb1 xb.lt
            have xo := xo.below hb1
            have hB := hB.trans (hb1.mono hB.size)
            obtain ⟨k0, k1, k2, k3, k4⟩ := xb.c5
            have l1 := xb.lt
            go_wp2
            go_roundw
            case rel => exact ⟨k + 1, c1, A1, x', by omega, by go_num, xb, xo, xf, hB⟩
            case measure => simp [intOf]; omega
          · rw [hgv] at hc
            refine hc.mono ?_
            clear hc
            rintro e v1 ⟨A1, c1, rfl, yo, hb1⟩
            simp only [ledV] at yo ⊢
            have xb := xb.below hb1 xb.lt
            have yb := yb.below hb1 yb.lt
            have xo := xo.below hb1
            have hB := hB.trans (hb1.mono hB.size)
            obtain ⟨k0, k1, k2, k3, k4⟩ := xb.c5
            obtain ⟨j0, j1, j2, j3, j4⟩ := yb.c5
            have kf := xb.frz
            have jf := yb.frz
            have l1 := xb.lt
            have l2 := yb.lt
            go_wp2_with (go_at_call 13; refine Hid.out ?_)
            unfold Hid
            obtain ⟨V1, hV1⟩ : ∃ V1, V1 = (((((v1.setCell ⟨wr.heap.size, 0, none⟩ (.slice A1 led0.1.length c1)).setCell ⟨wr.heap.size, 1, none⟩ (.int .i64 led0.2.1)).setCell ⟨wr.heap.size, 2, none⟩ (.int .i64 led0.2.2.1)).setCell ⟨wr.heap.size, 3, none⟩ (.int .i64 led0.2.2.2.1)).setCell ⟨wr.heap.size, 4, none⟩ (.int .i64 led0.2.2.2.2)) := ⟨_, rfl⟩
            rw [← hV1]
            have xb : Blk V1 g 25 #[.slice Ax x.length cx, .int .i64 0, .int .i64 a, .int .i64 b, .int .i64 c] := by rw [hV1]; exact (((((xb.far (Ne.symm hgy) _).far (Ne.symm hgy) _).far (Ne.symm hgy) _).far (Ne.symm hgy) _).far (Ne.symm hgy) _)
            have xo : Ow V1 0 Ax cx x := by rw [hV1]; exact (((((xo.set_ yb (by decide) _).set_ (yb.set_ 0 _) (by decide) _).set_ ((yb.set_ 0 _).set_ 1 _) (by decide) _).set_ (((yb.set_ 0 _).set_ 1 _).set_ 2 _) (by decide) _).set_ ((((yb.set_ 0 _).set_ 1 _).set_ 2 _).set_ 3 _) (by decide) _)
            have hB : Below w.heap.size w V1 := by
              rw [hV1]
              iterate 5 refine Below.setCell ?_ (by (try simp) <;> omega) _
              exact hB
            clear hV1 k0 k1 k2 k3 k4 l1
            clear hb1 yb yo jf kf j0 j1 j2 j3 j4 l2
            obtain ⟨k0, k1, k2, k3, k4⟩ := xb.c5
            have l1 := xb.lt
            have f1 := xf.2.1
            have f2 := xf.2.2.1
            have f3 := xf.2.2.2
            refine (count_any Ax cx x 0 a b c 1 _ xo.rd (by have := xf.len ha1 hb1' hc1; omega)).mono ?_
            rintro e v2 ⟨rfl, hb1⟩
            have xb := xb.below hb1 xb.lt
            have xo := xo.below hb1
            have hB := hB.trans (hb1.mono hB.size)
            obtain ⟨k0, k1, k2, k3, k4⟩ := xb.c5
            have l1 := xb.lt
            go_wp2_with (go_at_call 13; refine Hid.out ?_)
            unfold Hid
            refine (count_any Ax cx x 0 a b c 2 _ xo.rd (by have := xf.len ha1 hb1' hc1; omega)).mono ?_
            rintro e v3 ⟨rfl, hb1⟩
            have xb := xb.below hb1 xb.lt
            have xo := xo.below hb1
            have hB := hB.trans (hb1.mono hB.size)
            obtain ⟨k0, k1, k2, k3, k4⟩ := xb.c5
            have l1 := xb.lt
            go_wp2_with (go_at_call 13; refine Hid.out ?_)
            unfold Hid
            refine (count_any Ax cx x 0 a b c 3 _ xo.rd (by have := xf.len ha1 hb1' hc1; omega)).mono ?_
            rintro e v4 ⟨rfl, hb1⟩
            have xb := xb.below hb1 xb.lt
            have xo := xo.below hb1
            have hB := hB.trans (hb1.mono hB.size)
            obtain ⟨k0, k1, k2, k3, k4⟩ := xb.c5
            have l1 := xb.lt
            go_wp2
            go_roundw
            case rel => exact ⟨k + 1, cx, Ax, x, by omega, by go_num, xb, xo, xf, hB⟩
            case measure => simp [intOf]; omega
        go_wp2_with (go_at_call 23; refine Hid.out ?_)
        unfold Hid
        obtain ⟨V, hV⟩ : ∃ V, V = wr.alloc (.cells #[.slice none 0 0, .int .i64 0, .int .i64 0, .int .i64 0, .int .i64 0] 25) := ⟨_, rfl⟩
        rw [← hV]
        clear hq
        generalize 1 + n % 3 = kd
        generalize n / 3 % 4 = idd
        have yb : Blk V wr.heap.size 25 #[.slice none 0 0, .int .i64 0, .int .i64 0, .int .i64 0, .int .i64 0] := by rw [hV]; exact Blk.new _ _ _
        have xb : Blk V g 25 #[.slice Ax x.length cx, .int .i64 0, .int .i64 a, .int .i64 b, .int .i64 c] := by rw [hV]; exact xb.alloc _
        have xo : Ow V 0 Ax cx x := by rw [hV]; exact xo.alloc _
        have hB : Below w.heap.size w V := by rw [hV]; exact hB.alloc hB.size _
        have hgy : wr.heap.size ≠ g := by have := l1; omega
        have hzy : w.heap.size ≤ wr.heap.size := by have := l1; omega
        clear hV q0 k0 k1 k2 k3 k4 l1
        have hc := give_own Ax cx x 0 a b c idd kd V xo.rd (by have := xf.len ha1 hb1' hc1; omega)
        rcases fits_give xf (0, a, b, c) idd kd with ⟨x', hgv, xf'⟩ | hgv
        · rw [hgv] at hc
          refine hc.mono ?_
          clear hc
          rintro e v1 ⟨A1, c1, rfl, yo, hb1⟩
          simp only [ledV] at yo ⊢
          have xb := xb.below hb1 xb.lt
          have yb := yb.below hb1 yb.lt
          have xo := xo.below hb1
          have hB := hB.trans (hb1.mono hB.size)
          obtain ⟨k0, k1, k2, k3, k4⟩ := xb.c5
          obtain ⟨j0, j1, j2, j3, j4⟩ := yb.c5
          have kf := xb.frz
          have jf := yb.frz
          have l1 := xb.lt
          have l2 := yb.lt
          go_wp2_with (go_at_call 13; refine Hid.out ?_)
          unfold Hid
          obtain ⟨V1, hV1⟩ : ∃ V1, V1 = (((((v1.setCell ⟨wr.heap.size, 0, none⟩ (.slice A1 x'.length c1)).setCell ⟨wr.heap.size, 1, none⟩ (.int .i64 0)).setCell ⟨wr.heap.size, 2, none⟩ (.int .i64 a)).setCell ⟨wr.heap.size, 3, none⟩ (.int .i64 b)).setCell ⟨wr.heap.size, 4, none⟩ (.int .i64 c)) := ⟨_, rfl⟩
          rw [← hV1]
          obtain ⟨V2, hV2⟩ : ∃ V2, V2 = (((((V1.setCell ⟨g, 0, none⟩ (.slice A1 x'.length c1)).setCell ⟨g, 1, none⟩ (.int .i64 0)).setCell ⟨g, 2, none⟩ (.int .i64 a)).setCell ⟨g, 3, none⟩ (.int .i64 b)).setCell ⟨g, 4, none⟩ (.int .i64 c)) := ⟨_, rfl⟩
          rw [← hV2]
          have hz : V1.heap.size = v1.heap.size := by rw [hV1]; simp
          have zz : V2.heap.size = v1.heap.size := by rw [hV2]; simp [hz]
          have x1 : Blk V1 g 25 #[.slice Ax x.length cx, .int .i64 0, .int .i64 a, .int .i64 b, .int .i64 c] := by rw [hV1]; exact (((((xb.far (Ne.symm hgy) _).far (Ne.symm hgy) _).far (Ne.symm hgy) _).far (Ne.symm hgy) _).far (Ne.symm hgy) _)
          have o1 : Ow V1 0 A1 c1 x' := by rw [hV1]; exact ((((((yo.more (Nat.zero_le _)).set_ yb (by decide) _).set_ (yb.set_ 0 _) (by decide) _).set_ ((yb.set_ 0 _).set_ 1 _) (by decide) _).set_ (((yb.set_ 0 _).set_ 1 _).set_ 2 _) (by decide) _).set_ ((((yb.set_ 0 _).set_ 1 _).set_ 2 _).set_ 3 _) (by decide) _)
          have B1 : Below w.heap.size w V1 := by
            rw [hV1]
            iterate 5 refine Below.setCell ?_ (by (try simp) <;> omega) _
            exact hB
          have xb : Blk V2 g 25 #[.slice A1 x'.length c1, .int .i64 0, .int .i64 a, .int .i64 b, .int .i64 c] := by rw [hV2]; exact (((((x1.set_ 0 _).set_ 1 _).set_ 2 _).set_ 3 _).set_ 4 _)
          have xo : Ow V2 0 A1 c1 x' := by rw [hV2]; exact (((((o1.set_ x1 (by decide) _).set_ (x1.set_ 0 _) (by decide) _).set_ ((x1.set_ 0 _).set_ 1 _) (by decide) _).set_ (((x1.set_ 0 _).set_ 1 _).set_ 2 _) (by decide) _).set_ ((((x1.set_ 0 _).set_ 1 _).set_ 2 _).set_ 3 _) (by decide) _)
          have hB : Below w.heap.size w V2 := by
            rw [hV2]
            iterate 5 refine Below.setCell ?_ (by (try simp) <;> omega) _
            exact B1
          have xf := xf'
          clear hV1 hV2 xf' hz zz x1 o1 B1 k0 k1 k2 k3 k4 l1
          clear hb1 yb yo jf kf j0 j1 j2 j3 j4 l2
          obtain ⟨k0, k1, k2, k3, k4⟩ := xb.c5
          have l1 := xb.lt
          have f1 := xf.2.1
          have f2 := xf.2.2.1
          have f3 := xf.2.2.2
          refine (count_any A1 c1 x' 0 a b c 1 _ xo.rd (by have := xf.len ha1 hb1' hc1; omega)).mono ?_
          rintro e v2 ⟨rfl, hb1⟩
          have xb := xb.below hb1 xb.lt
          have xo := xo.below hb1
          have hB := hB.trans (hb1.mono hB.size)
          obtain ⟨k0, k1, k2, k3, k4⟩ := xb.c5
          have l1 := xb.lt
          go_wp2_with (go_at_call 13; refine Hid.out ?_)
          unfold Hid
          refine (count_any A1 c1 x' 0 a b c 2 _ xo.rd (by have := xf.len ha1 hb1' hc1; omega)).mono ?_
          rintro e v3 ⟨rfl, hb1⟩
          have xb := xb.below hb1 xb.lt
          have xo := xo.below hb1
          have hB := hB.trans (hb1.mono hB.size)
          obtain ⟨k0, k1, k2, k3, k4⟩ := xb.c5
          have l1 := xb.lt
          go_wp2_with (go_at_call 13; refine Hid.out ?_)
          unfold Hid
          refine (count_any A1 c1 x' 0 a b c 3 _ xo.rd (by have := xf.len ha1 hb1' hc1; omega)).mono ?_
          rintro e v4 ⟨rfl, hb1⟩
          have xb := xb.below hb1 xb.lt
          have xo := xo.below hb1
          have hB := hB.trans (hb1.mono hB.size)
          obtain ⟨k0, k1, k2, k3, k4⟩ := xb.c5
          have l1 := xb.lt
          go_wp2
          go_roundw
          case rel => exact ⟨k + 1, c1, A1, x', by omega, by go_num, xb, xo, xf, hB⟩
          case measure => simp [intOf]; omega
        · rw [hgv] at hc
          refine hc.mono ?_
          clear hc
          rintro e v1 ⟨A1, c1, rfl, yo, hb1⟩
          simp only [ledV] at yo ⊢
          have xb := xb.below hb1 xb.lt
          have yb := yb.below hb1 yb.lt
          have xo := xo.below hb1
          have hB := hB.trans (hb1.mono hB.size)
          obtain ⟨k0, k1, k2, k3, k4⟩ := xb.c5
          obtain ⟨j0, j1, j2, j3, j4⟩ := yb.c5
          have kf := xb.frz
          have jf := yb.frz
          have l1 := xb.lt
          have l2 := yb.lt
          go_wp2_with (go_at_call 13; refine Hid.out ?_)
          unfold Hid
          obtain ⟨V1, hV1⟩ : ∃ V1, V1 = (((((v1.setCell ⟨wr.heap.size, 0, none⟩ (.slice A1 led0.1.length c1)).setCell ⟨wr.heap.size, 1, none⟩ (.int .i64 led0.2.1)).setCell ⟨wr.heap.size, 2, none⟩ (.int .i64 led0.2.2.1)).setCell ⟨wr.heap.size, 3, none⟩ (.int .i64 led0.2.2.2.1)).setCell ⟨wr.heap.size, 4, none⟩ (.int .i64 led0.2.2.2.2)) := ⟨_, rfl⟩
          rw [← hV1]
          have xb : Blk V1 g 25 #[.slice Ax x.length cx, .int .i64 0, .int .i64 a, .int .i64 b, .int .i64 c] := by rw [hV1]; exact (((((xb.far (Ne.symm hgy) _).far (Ne.symm hgy) _).far (Ne.symm hgy) _).far (Ne.symm hgy) _).far (Ne.symm hgy) _)
          have xo : Ow V1 0 Ax cx x := by rw [hV1]; exact (((((xo.set_ yb (by decide) _).set_ (yb.set_ 0 _) (by decide) _).set_ ((yb.set_ 0 _).set_ 1 _) (by decide) _).set_ (((yb.set_ 0 _).set_ 1 _).set_ 2 _) (by decide) _).set_ ((((yb.set_ 0 _).set_ 1 _).set_ 2 _).set_ 3 _) (by decide) _)
          have hB : Below w.heap.size w V1 := by
            rw [hV1]
            iterate 5 refine Below.setCell ?_ (by (try simp) <;> omega) _
            exact hB
          clear hV1 k0 k1 k2 k3 k4 l1
          clear hb1 yb yo jf kf j0 j1 j2 j3 j4 l2
          obtain ⟨k0, k1, k2, k3, k4⟩ := xb.c5
          have l1 := xb.lt
          have f1 := xf.2.1
          have f2 := xf.2.2.1
          have f3 := xf.2.2.2
          refine (count_any Ax cx x 0 a b c 1 _ xo.rd (by have := xf.len ha1 hb1' hc1; omega)).mono ?_
          rintro e v2 ⟨rfl, hb1⟩
          have xb := xb.below hb1 xb.lt
          have xo := xo.below hb1
          have hB := hB.trans (hb1.mono hB.size)
          obtain ⟨k0, k1, k2, k3, k4⟩ := xb.c5
          have l1 := xb.lt
          go_wp2_with (go_at_call 13; refine Hid.out ?_)
          unfold Hid
          refine (count_any Ax cx x 0 a b c 2 _ xo.rd (by have := xf.len ha1 hb1' hc1; omega)).mono ?_
          rintro e v3 ⟨rfl, hb1⟩
          have xb := xb.below hb1 xb.lt
          have xo := xo.below hb1
          have hB := hB.trans (hb1.mono hB.size)
          obtain ⟨k0, k1, k2, k3, k4⟩ := xb.c5
          have l1 := xb.lt
          go_wp2_with (go_at_call 13; refine Hid.out ?_)
          unfold Hid
          refine (count_any Ax cx x 0 a b c 3 _ xo.rd (by have := xf.len ha1 hb1' hc1; omega)).mono ?_
          rintro e v4 ⟨rfl, hb1⟩
          have xb := xb.below hb1 xb.lt
          have xo := xo.below hb1
          have hB := hB.trans (hb1.mono hB.size)
          obtain ⟨k0, k1, k2, k3, k4⟩ := xb.c5
          have l1 := xb.lt
          go_wp2
          go_roundw
          case rel => exact ⟨k + 1, cx, Ax, x, by omega, by go_num, xb, xo, xf, hB⟩
          case measure => simp [intOf]; omega
    · obtain rfl : k = ids.length := by omega
      go_wp2
      go_ret
      exact ⟨rfl, hB⟩
end Go.Proofs.Ytmcjgfoaiannoaa
