/-
  What the reference does with an ask, and with an answer. Condition: what the message holds can be read.
-/
import Derived.Test.YtmcjgfoaiannoabDoorSMake
namespace Go.Proofs.YtmcjgfoaiannoabDoor
open Go.RowKit Go.Lib

set_option maxRecDepth 100000 in
set_option maxHeartbeats 2000000 in
theorem rask_1 (n : Int) (key text : ByteArray) (hk : key.size ≤ 140737488355328) (ht : text.size ≤ 140737488355328) (m : Mg) (A AB : Option Addr) (c cb : Nat) (gate : Int) (S : Nat → Prop) (w : World) (hr : RdS 2 encHd w S A m.l) (hy : RdS 1 encY w S AB m.bd) (hn : m.l.length * 32 + 32 ≤ 140737488355328) :
    Calls Tryd.prog 35 #[sivV 1 n key text, msgV m.st m.path A m.l.length c AB m.bd.length cb, .int .i64 gate] w (TripOut w (orNew S w.heap.size) (0, setM m ⟨key, text, hk, ht⟩, gate)) := by
  obtain ⟨w0, hw0⟩ : ∃ W, W = ((w.alloc (.cells (sivC 1 n key text) 38)).alloc (.cells (msgC m.st m.path A m.l.length c AB m.bd.length cb) 32)).alloc (.cells zerC 32) := ⟨_, rfl⟩
  have sb : Blk w0 w.heap.size 38 (sivC 1 n key text) := by rw [hw0]; exact ((Blk.new _ _ _).alloc _).alloc _
  have mb : Blk w0 (w.heap.size + 1) 32 (msgC m.st m.path A m.l.length c AB m.bd.length cb) := by rw [hw0]; exact (Blk.new' _ _ (by simp) _ _).alloc _
  have zb : Blk w0 (w.heap.size + 2) 32 zerC := by rw [hw0]; exact Blk.new' _ _ (by simp) _ _
  have hB : Below w.heap.size w w0 := by rw [hw0]; exact (((Below.refl _ w).alloc (Nat.le_refl _) _).alloc (by simp) _).alloc (by simp; omega) _
  have hr0 := hr.below hB
  have hy0 := hy.below hB
  have ⟨s0, s1, s2, s3⟩ := sb.c4
  have ⟨m0, m1, m2, m3⟩ := mb.c4
  have ⟨z0, z1, z2, z3⟩ := zb.c4
  have zf := zb.frz
  have zl := zb.lt
  have ml := mb.lt
  have sl := sb.lt
  obtain ⟨rv, hrv⟩ : ∃ v, v = ((0, setM m ⟨key, text, hk, ht⟩, gate) : Int × Mg × Int) := ⟨_, rfl⟩
  rw [← hrv]
  have HV := Lib.hid hrv
  clear hrv
  have hC := refset_any m.st m.path A m.l c AB m.bd cb ⟨key, text, hk, ht⟩ w0 hr0.rd hn
  have zl0 := zl
  go_enter Tryd.func35, Tryd.ntmps35
  go_wp2_with (go_at_call 55; refine Hid.out ?_)
  rw [← hw0]
  unfold Hid
  refine hC.mono ?_
  rintro e w1 ⟨A', c', rfl, ow, hb⟩
  have zb1 := zb.below hb zl
  have hB1 := hB.trans (hb.mono hB.size)
  clear hC hw0 z0 z1 z2 z3 m0 m1 m2 m3 s0 s1 s2 s3 zf zl
  have ⟨z0, z1, z2, z3⟩ := zb1.c4
  have zf := zb1.frz
  have zl := zb1.lt
  go_wp2
  have hBf : Below w.heap.size w _ := (((hB1.setCell (p := ⟨w.heap.size + 2, 0, none⟩) (by show w.heap.size ≤ w.heap.size + 2; omega) (.int .i64 m.st)).setCell (p := ⟨w.heap.size + 2, 1, none⟩) (by show w.heap.size ≤ w.heap.size + 2; omega) (.string m.path)).setCell (p := ⟨w.heap.size + 2, 2, none⟩) (by show w.heap.size ≤ w.heap.size + 2; omega) (.slice A' (setP m.l ⟨key, text, hk, ht⟩).length c')).setCell (p := ⟨w.heap.size + 2, 3, none⟩) (by show w.heap.size ≤ w.heap.size + 2; omega) (.slice AB m.bd.length cb)
  have hRh := ((ow.rds).set4 (g := w.heap.size + 2) (by omega) (.int .i64 m.st) (.string m.path) (.slice A' (setP m.l ⟨key, text, hk, ht⟩).length c') (.slice AB m.bd.length cb)).mono (S' := orNew S w.heap.size) (fun b hb => .inr (by omega))
  refine bodyPost_ret (v := .tuple #[.int .i64 0, msgV m.st m.path A' (setP m.l ⟨key, text, hk, ht⟩).length c' AB m.bd.length cb, .int .i64 gate]) (by simp only [results, Tryd.results35]; go_simp) rfl ?_
  rw [HV.out]
  exact tripOut rfl rfl rfl rfl rfl rfl rfl hRh ((hy.below hBf).mono fun _ => .inl) hBf
set_option maxRecDepth 100000 in
set_option maxHeartbeats 2000000 in
theorem rask_3 (n : Int) (key text : ByteArray) (m : Mg) (A AB : Option Addr) (c cb : Nat) (gate : Int) (S : Nat → Prop) (w : World) (hr : RdS 2 encHd w S A m.l) (hy : RdS 1 encY w S AB m.bd) (hn : m.l.length * 32 + 32 ≤ 140737488355328) :
    Calls Tryd.prog 35 #[sivV 3 n key text, msgV m.st m.path A m.l.length c AB m.bd.length cb, .int .i64 gate] w (TripOut w (orNew S w.heap.size) (if getP m.l key = (text, true) then (0, m, gate) else (1, sayM 401 tokenB, gate))) := by
  obtain ⟨w0, hw0⟩ : ∃ W, W = ((w.alloc (.cells (sivC 3 n key text) 38)).alloc (.cells (msgC m.st m.path A m.l.length c AB m.bd.length cb) 32)).alloc (.cells zerC 32) := ⟨_, rfl⟩
  have sb : Blk w0 w.heap.size 38 (sivC 3 n key text) := by rw [hw0]; exact ((Blk.new _ _ _).alloc _).alloc _
  have mb : Blk w0 (w.heap.size + 1) 32 (msgC m.st m.path A m.l.length c AB m.bd.length cb) := by rw [hw0]; exact (Blk.new' _ _ (by simp) _ _).alloc _
  have zb : Blk w0 (w.heap.size + 2) 32 zerC := by rw [hw0]; exact Blk.new' _ _ (by simp) _ _
  have hB : Below w.heap.size w w0 := by rw [hw0]; exact (((Below.refl _ w).alloc (Nat.le_refl _) _).alloc (by simp) _).alloc (by simp; omega) _
  have hr0 := hr.below hB
  have hy0 := hy.below hB
  have ⟨s0, s1, s2, s3⟩ := sb.c4
  have ⟨m0, m1, m2, m3⟩ := mb.c4
  have ⟨z0, z1, z2, z3⟩ := zb.c4
  have zf := zb.frz
  have zl := zb.lt
  have ml := mb.lt
  have sl := sb.lt
  have hC := refget_any m.st m.path A AB m.l c m.bd.length cb key w0 hr0.rd (by omega)
  obtain ⟨gp, hgp⟩ : ∃ p, p = getP m.l key := ⟨_, rfl⟩
  rw [← hgp] at hC ⊢
  clear hgp
  obtain ⟨t, ok⟩ := gp
  unfold gtup at hC
  cases ok
  · rw [if_neg (by simp)]
    obtain ⟨rv, hrv⟩ : ∃ v, v = ((1, sayM 401 tokenB, gate) : Int × Mg × Int) := ⟨_, rfl⟩
    rw [← hrv]
    have HV := Lib.hid hrv
    clear hrv
    go_enter Tryd.func35, Tryd.ntmps35
    go_wp2_with (go_at_call 53; refine Hid.out ?_)
    rw [← hw0]
    clear hw0
    unfold Hid
    refine hC.mono ?_
    rintro e w1 ⟨rfl, hb1⟩
    clear m0 m1 m2 m3 z0 z1 z2 z3 zf s0 s1 s2 s3 hC
    have zb := zb.below hb1 zl
    have sb := sb.below hb1 sl
    have mb := mb.below hb1 ml
    have hB := hB.trans (hb1.mono hB.size)
    have ⟨s0, s1, s2, s3⟩ := sb.c4
    have ⟨m0, m1, m2, m3⟩ := mb.c4
    have ⟨z0, z1, z2, z3⟩ := zb.c4
    have zf := zb.frz
    have zl := zb.lt
    have ml := mb.lt
    go_wp2_with (go_at_call 51; refine Hid.out ?_)
    unfold Hid
    refine (say_any 401 tokenB w1).mono ?_
    rintro e w2 ⟨g, f, rfl, hby, hgl, hb⟩
    have zb2 := zb.below hb zl
    have hB2 := hB.trans (hb.mono hB.size)
    clear z0 z1 z2 z3 m0 m1 m2 m3 zf s0 s1 s2 s3
    have ⟨z0, z1, z2, z3⟩ := zb2.c4
    have zf := zb2.frz
    have zl2 := zb2.lt
    go_wp2
    have hRy := ((hby.rds hgl).set4 (g := w.heap.size + 2) (by omega) (.int .i64 401) (.string ⟨#[]⟩) (.slice none 0 0) (.slice (some ⟨g, 0, none⟩) (tokenB).size f)).mono (S' := orNew S w.heap.size) (fun b hb => .inr (by omega))
    refine bodyPost_ret (v := .tuple #[.int .i64 1, msgV 401 ⟨#[]⟩ none 0 0 (some ⟨g, 0, none⟩) (tokenB).size f, .int .i64 gate]) (by simp only [results, Tryd.results35]; go_simp) rfl ?_
    rw [HV.out]
    refine tripOut rfl rfl rfl rfl rfl rfl rfl RdS.nil_ hRy ?_
    iterate 4 refine Below.setCell ?_ (by show w.heap.size ≤ w.heap.size + 2; omega) _
    exact hB2
  · by_cases he : t = text
    · rw [if_pos (by rw [he])]
      obtain ⟨rv, hrv⟩ : ∃ v, v = ((0, m, gate) : Int × Mg × Int) := ⟨_, rfl⟩
      rw [← hrv]
      have HV := Lib.hid hrv
      clear hrv
      have hq := str_yes he
      clear he
      go_enter Tryd.func35, Tryd.ntmps35
      go_wp2_with (go_at_call 53; refine Hid.out ?_)
      rw [← hw0]
      clear hw0
      unfold Hid
      refine hC.mono ?_
      rintro e w1 ⟨rfl, hb1⟩
      clear m0 m1 m2 m3 z0 z1 z2 z3 zf s0 s1 s2 s3 hC
      have zb := zb.below hb1 zl
      have sb := sb.below hb1 sl
      have mb := mb.below hb1 ml
      have hB := hB.trans (hb1.mono hB.size)
      have ⟨s0, s1, s2, s3⟩ := sb.c4
      have ⟨m0, m1, m2, m3⟩ := mb.c4
      have ⟨z0, z1, z2, z3⟩ := zb.c4
      have zf := zb.frz
      have zl := zb.lt
      have ml := mb.lt
      go_upto_region 15 with fail
      go_region
      all_goals
        go_wp2
        have hBf : Below w.heap.size w _ := (((hB.drew.setCell (p := ⟨w.heap.size + 2, 0, none⟩) (by show w.heap.size ≤ w.heap.size + 2; omega) (.int .i64 m.st)).setCell (p := ⟨w.heap.size + 2, 1, none⟩) (by show w.heap.size ≤ w.heap.size + 2; omega) (.string m.path)).setCell (p := ⟨w.heap.size + 2, 2, none⟩) (by show w.heap.size ≤ w.heap.size + 2; omega) (.slice A m.l.length c)).setCell (p := ⟨w.heap.size + 2, 3, none⟩) (by show w.heap.size ≤ w.heap.size + 2; omega) (.slice AB m.bd.length cb)
        refine bodyPost_ret (v := .tuple #[.int .i64 0, msgV m.st m.path A m.l.length c AB m.bd.length cb, .int .i64 (gate)]) (by simp only [results, Tryd.results35]; go_simp) rfl ?_
        rw [HV.out]
        exact tripOut rfl rfl rfl rfl rfl rfl rfl ((hr.below hBf).mono fun _ => .inl) ((hy.below hBf).mono fun _ => .inl) hBf
    · rw [if_neg (fun e => he (by injection e))]
      obtain ⟨rv, hrv⟩ : ∃ v, v = ((1, sayM 401 tokenB, gate) : Int × Mg × Int) := ⟨_, rfl⟩
      rw [← hrv]
      have HV := Lib.hid hrv
      clear hrv
      have hq := str_no he
      clear he
      go_enter Tryd.func35, Tryd.ntmps35
      go_wp2_with (go_at_call 53; refine Hid.out ?_)
      rw [← hw0]
      clear hw0
      unfold Hid
      refine hC.mono ?_
      rintro e w1 ⟨rfl, hb1⟩
      clear m0 m1 m2 m3 z0 z1 z2 z3 zf s0 s1 s2 s3 hC
      have zb := zb.below hb1 zl
      have sb := sb.below hb1 sl
      have mb := mb.below hb1 ml
      have hB := hB.trans (hb1.mono hB.size)
      have ⟨s0, s1, s2, s3⟩ := sb.c4
      have ⟨m0, m1, m2, m3⟩ := mb.c4
      have ⟨z0, z1, z2, z3⟩ := zb.c4
      have zf := zb.frz
      have zl := zb.lt
      have ml := mb.lt
      go_wp2_with (go_at_call 51; refine Hid.out ?_)
      unfold Hid
      refine (say_any 401 tokenB w1).mono ?_
      rintro e w2 ⟨g, f, rfl, hby, hgl, hb⟩
      have zb2 := zb.below hb zl
      have hB2 := hB.trans (hb.mono hB.size)
      clear z0 z1 z2 z3 m0 m1 m2 m3 zf s0 s1 s2 s3
      have ⟨z0, z1, z2, z3⟩ := zb2.c4
      have zf := zb2.frz
      have zl2 := zb2.lt
      go_wp2
      have hRy := ((hby.rds hgl).set4 (g := w.heap.size + 2) (by omega) (.int .i64 401) (.string ⟨#[]⟩) (.slice none 0 0) (.slice (some ⟨g, 0, none⟩) (tokenB).size f)).mono (S' := orNew S w.heap.size) (fun b hb => .inr (by omega))
      refine bodyPost_ret (v := .tuple #[.int .i64 1, msgV 401 ⟨#[]⟩ none 0 0 (some ⟨g, 0, none⟩) (tokenB).size f, .int .i64 gate]) (by simp only [results, Tryd.results35]; go_simp) rfl ?_
      rw [HV.out]
      refine tripOut rfl rfl rfl rfl rfl rfl rfl RdS.nil_ hRy ?_
      iterate 4 refine Below.setCell ?_ (by show w.heap.size ≤ w.heap.size + 2; omega) _
      exact hB2
set_option maxRecDepth 100000 in
set_option maxHeartbeats 2000000 in
theorem rask_4 (n : Int) (key text : ByteArray) (m : Mg) (A AB : Option Addr) (c cb : Nat) (gate : Int) (S : Nat → Prop) (w : World) (hr : RdS 2 encHd w S A m.l) (hy : RdS 1 encY w S AB m.bd) (_ : m.l.length * 32 + 32 ≤ 140737488355328) :
    Calls Tryd.prog 35 #[sivV 4 n key text, msgV m.st m.path A m.l.length c AB m.bd.length cb, .int .i64 gate] w (TripOut w (orNew S w.heap.size) (if n < (m.bd.length : Int) then (1, sayM 413 limitB, gate) else (0, m, gate))) := by
  obtain ⟨w0, hw0⟩ : ∃ W, W = ((w.alloc (.cells (sivC 4 n key text) 38)).alloc (.cells (msgC m.st m.path A m.l.length c AB m.bd.length cb) 32)).alloc (.cells zerC 32) := ⟨_, rfl⟩
  have sb : Blk w0 w.heap.size 38 (sivC 4 n key text) := by rw [hw0]; exact ((Blk.new _ _ _).alloc _).alloc _
  have mb : Blk w0 (w.heap.size + 1) 32 (msgC m.st m.path A m.l.length c AB m.bd.length cb) := by rw [hw0]; exact (Blk.new' _ _ (by simp) _ _).alloc _
  have zb : Blk w0 (w.heap.size + 2) 32 zerC := by rw [hw0]; exact Blk.new' _ _ (by simp) _ _
  have hB : Below w.heap.size w w0 := by rw [hw0]; exact (((Below.refl _ w).alloc (Nat.le_refl _) _).alloc (by simp) _).alloc (by simp; omega) _
  have hr0 := hr.below hB
  have hy0 := hy.below hB
  have ⟨s0, s1, s2, s3⟩ := sb.c4
  have ⟨m0, m1, m2, m3⟩ := mb.c4
  have ⟨z0, z1, z2, z3⟩ := zb.c4
  have zf := zb.frz
  have zl := zb.lt
  have ml := mb.lt
  have sl := sb.lt
  by_cases hlt : n < (m.bd.length : Int)
  · rw [if_pos hlt]
    obtain ⟨rv, hrv⟩ : ∃ v, v = ((1, sayM 413 limitB, gate) : Int × Mg × Int) := ⟨_, rfl⟩
    rw [← hrv]
    have HV := Lib.hid hrv
    clear hrv
    go_enter Tryd.func35, Tryd.ntmps35
    go_upto_region 10 with (fail)
    rw [← hw0]
    clear hw0
    go_wp2_with (go_at_call 51; refine Hid.out ?_)
    unfold Hid
    refine (say_any 413 limitB w0).mono ?_
    rintro e w2 ⟨g, f, rfl, hby, hgl, hb⟩
    have zb2 := zb.below hb zl
    have hB2 := hB.trans (hb.mono hB.size)
    clear z0 z1 z2 z3 m0 m1 m2 m3 zf s0 s1 s2 s3
    have ⟨z0, z1, z2, z3⟩ := zb2.c4
    have zf := zb2.frz
    have zl2 := zb2.lt
    go_wp2
    have hRy := ((hby.rds hgl).set4 (g := w.heap.size + 2) (by omega) (.int .i64 413) (.string ⟨#[]⟩) (.slice none 0 0) (.slice (some ⟨g, 0, none⟩) (limitB).size f)).mono (S' := orNew S w.heap.size) (fun b hb => .inr (by omega))
    refine bodyPost_ret (v := .tuple #[.int .i64 1, msgV 413 ⟨#[]⟩ none 0 0 (some ⟨g, 0, none⟩) (limitB).size f, .int .i64 gate]) (by simp only [results, Tryd.results35]; go_simp) rfl ?_
    rw [HV.out]
    refine tripOut rfl rfl rfl rfl rfl rfl rfl RdS.nil_ hRy ?_
    iterate 4 refine Below.setCell ?_ (by show w.heap.size ≤ w.heap.size + 2; omega) _
    exact hB2
  · rw [if_neg hlt]
    obtain ⟨rv, hrv⟩ : ∃ v, v = ((0, m, gate) : Int × Mg × Int) := ⟨_, rfl⟩
    rw [← hrv]
    have HV := Lib.hid hrv
    clear hrv
    go_enter Tryd.func35, Tryd.ntmps35
    go_upto_region 15 with (fail)
    rw [← hw0]
    clear hw0
    go_region
    all_goals
      go_wp2
      have hBf : Below w.heap.size w _ := (((hB.drew.setCell (p := ⟨w.heap.size + 2, 0, none⟩) (by show w.heap.size ≤ w.heap.size + 2; omega) (.int .i64 m.st)).setCell (p := ⟨w.heap.size + 2, 1, none⟩) (by show w.heap.size ≤ w.heap.size + 2; omega) (.string m.path)).setCell (p := ⟨w.heap.size + 2, 2, none⟩) (by show w.heap.size ≤ w.heap.size + 2; omega) (.slice A m.l.length c)).setCell (p := ⟨w.heap.size + 2, 3, none⟩) (by show w.heap.size ≤ w.heap.size + 2; omega) (.slice AB m.bd.length cb)
      refine bodyPost_ret (v := .tuple #[.int .i64 0, msgV m.st m.path A m.l.length c AB m.bd.length cb, .int .i64 (gate)]) (by simp only [results, Tryd.results35]; go_simp) rfl ?_
      rw [HV.out]
      exact tripOut rfl rfl rfl rfl rfl rfl rfl ((hr.below hBf).mono fun _ => .inl) ((hy.below hBf).mono fun _ => .inl) hBf
set_option maxRecDepth 100000 in
set_option maxHeartbeats 2000000 in
theorem rask_5 (n : Int) (key text : ByteArray) (m : Mg) (A AB : Option Addr) (c cb : Nat) (gate : Int) (S : Nat → Prop) (w : World) (hr : RdS 2 encHd w S A m.l) (hy : RdS 1 encY w S AB m.bd) (_ : m.l.length * 32 + 32 ≤ 140737488355328) (hg1 : -1000000 ≤ gate) (hg2 : gate ≤ 1000000) :
    Calls Tryd.prog 35 #[sivV 5 n key text, msgV m.st m.path A m.l.length c AB m.bd.length cb, .int .i64 gate] w (TripOut w (orNew S w.heap.size) (if n ≤ gate then (1, sayM 429 gateB, gate) else (0, m, gate + 1))) := by
  obtain ⟨w0, hw0⟩ : ∃ W, W = ((w.alloc (.cells (sivC 5 n key text) 38)).alloc (.cells (msgC m.st m.path A m.l.length c AB m.bd.length cb) 32)).alloc (.cells zerC 32) := ⟨_, rfl⟩
  have sb : Blk w0 w.heap.size 38 (sivC 5 n key text) := by rw [hw0]; exact ((Blk.new _ _ _).alloc _).alloc _
  have mb : Blk w0 (w.heap.size + 1) 32 (msgC m.st m.path A m.l.length c AB m.bd.length cb) := by rw [hw0]; exact (Blk.new' _ _ (by simp) _ _).alloc _
  have zb : Blk w0 (w.heap.size + 2) 32 zerC := by rw [hw0]; exact Blk.new' _ _ (by simp) _ _
  have hB : Below w.heap.size w w0 := by rw [hw0]; exact (((Below.refl _ w).alloc (Nat.le_refl _) _).alloc (by simp) _).alloc (by simp; omega) _
  have hr0 := hr.below hB
  have hy0 := hy.below hB
  have ⟨s0, s1, s2, s3⟩ := sb.c4
  have ⟨m0, m1, m2, m3⟩ := mb.c4
  have ⟨z0, z1, z2, z3⟩ := zb.c4
  have zf := zb.frz
  have zl := zb.lt
  have ml := mb.lt
  have sl := sb.lt
  by_cases hlt : n ≤ gate
  · rw [if_pos hlt]
    obtain ⟨rv, hrv⟩ : ∃ v, v = ((1, sayM 429 gateB, gate) : Int × Mg × Int) := ⟨_, rfl⟩
    rw [← hrv]
    have HV := Lib.hid hrv
    clear hrv
    go_enter Tryd.func35, Tryd.ntmps35
    go_upto_region 13 with (fail)
    rw [← hw0]
    clear hw0
    go_wp2_with (go_at_call 51; refine Hid.out ?_)
    unfold Hid
    refine (say_any 429 gateB w0).mono ?_
    rintro e w2 ⟨g, f, rfl, hby, hgl, hb⟩
    have zb2 := zb.below hb zl
    have hB2 := hB.trans (hb.mono hB.size)
    clear z0 z1 z2 z3 m0 m1 m2 m3 zf s0 s1 s2 s3
    have ⟨z0, z1, z2, z3⟩ := zb2.c4
    have zf := zb2.frz
    have zl2 := zb2.lt
    go_wp2
    have hRy := ((hby.rds hgl).set4 (g := w.heap.size + 2) (by omega) (.int .i64 429) (.string ⟨#[]⟩) (.slice none 0 0) (.slice (some ⟨g, 0, none⟩) (gateB).size f)).mono (S' := orNew S w.heap.size) (fun b hb => .inr (by omega))
    refine bodyPost_ret (v := .tuple #[.int .i64 1, msgV 429 ⟨#[]⟩ none 0 0 (some ⟨g, 0, none⟩) (gateB).size f, .int .i64 gate]) (by simp only [results, Tryd.results35]; go_simp) rfl ?_
    rw [HV.out]
    refine tripOut rfl rfl rfl rfl rfl rfl rfl RdS.nil_ hRy ?_
    iterate 4 refine Below.setCell ?_ (by show w.heap.size ≤ w.heap.size + 2; omega) _
    exact hB2
  · rw [if_neg hlt]
    have hwr : IntKind.i64.wrap (gate + 1) = gate + 1 := IntWalk.i64_in _ (by omega)
    obtain ⟨rv, hrv⟩ : ∃ v, v = ((0, m, gate + 1) : Int × Mg × Int) := ⟨_, rfl⟩
    rw [← hrv]
    have HV := Lib.hid hrv
    clear hrv
    go_enter Tryd.func35, Tryd.ntmps35
    go_upto_region 14 with (fail)
    rw [← hw0]
    clear hw0
    go_region
    all_goals
      go_wp2
      have hBf : Below w.heap.size w _ := (((hB.drew.setCell (p := ⟨w.heap.size + 2, 0, none⟩) (by show w.heap.size ≤ w.heap.size + 2; omega) (.int .i64 m.st)).setCell (p := ⟨w.heap.size + 2, 1, none⟩) (by show w.heap.size ≤ w.heap.size + 2; omega) (.string m.path)).setCell (p := ⟨w.heap.size + 2, 2, none⟩) (by show w.heap.size ≤ w.heap.size + 2; omega) (.slice A m.l.length c)).setCell (p := ⟨w.heap.size + 2, 3, none⟩) (by show w.heap.size ≤ w.heap.size + 2; omega) (.slice AB m.bd.length cb)
      refine bodyPost_ret (v := .tuple #[.int .i64 0, msgV m.st m.path A m.l.length c AB m.bd.length cb, .int .i64 (gate + 1)]) (by simp only [results, Tryd.results35]; go_simp) rfl ?_
      rw [HV.out]
      exact tripOut rfl rfl rfl rfl rfl rfl rfl ((hr.below hBf).mono fun _ => .inl) ((hy.below hBf).mono fun _ => .inl) hBf
set_option maxRecDepth 100000 in
set_option maxHeartbeats 2000000 in
theorem rask_no (k : Int) (n : Int) (key text : ByteArray) (m : Mg) (A AB : Option Addr) (c cb : Nat) (gate : Int) (S : Nat → Prop) (w : World) (hr : RdS 2 encHd w S A m.l) (hy : RdS 1 encY w S AB m.bd) (_ : m.l.length * 32 + 32 ≤ 140737488355328) (hk0 : ¬ (k = 1 ∨ k = 3 ∨ k = 4 ∨ k = 5)) :
    Calls Tryd.prog 35 #[sivV k n key text, msgV m.st m.path A m.l.length c AB m.bd.length cb, .int .i64 gate] w (TripOut w (orNew S w.heap.size) (0, m, gate)) := by
  have g1 : (k == 1) = false := by simp; omega
  have g3 : (k == 3) = false := by simp; omega
  have g4 : (k == 4) = false := by simp; omega
  have g5 : (k == 5) = false := by simp; omega
  clear hk0
  obtain ⟨w0, hw0⟩ : ∃ W, W = ((w.alloc (.cells (sivC k n key text) 38)).alloc (.cells (msgC m.st m.path A m.l.length c AB m.bd.length cb) 32)).alloc (.cells zerC 32) := ⟨_, rfl⟩
  have sb : Blk w0 w.heap.size 38 (sivC k n key text) := by rw [hw0]; exact ((Blk.new _ _ _).alloc _).alloc _
  have mb : Blk w0 (w.heap.size + 1) 32 (msgC m.st m.path A m.l.length c AB m.bd.length cb) := by rw [hw0]; exact (Blk.new' _ _ (by simp) _ _).alloc _
  have zb : Blk w0 (w.heap.size + 2) 32 zerC := by rw [hw0]; exact Blk.new' _ _ (by simp) _ _
  have hB : Below w.heap.size w w0 := by rw [hw0]; exact (((Below.refl _ w).alloc (Nat.le_refl _) _).alloc (by simp) _).alloc (by simp; omega) _
  have hr0 := hr.below hB
  have hy0 := hy.below hB
  have ⟨s0, s1, s2, s3⟩ := sb.c4
  have ⟨m0, m1, m2, m3⟩ := mb.c4
  have ⟨z0, z1, z2, z3⟩ := zb.c4
  have zf := zb.frz
  have zl := zb.lt
  have ml := mb.lt
  have sl := sb.lt
  obtain ⟨rv, hrv⟩ : ∃ v, v = ((0, m, gate) : Int × Mg × Int) := ⟨_, rfl⟩
  rw [← hrv]
  have HV := Lib.hid hrv
  clear hrv
  go_enter Tryd.func35, Tryd.ntmps35
  go_upto_region 15 with (fail)
  rw [← hw0]
  clear hw0
  go_region
  all_goals
    go_wp2
    have hBf : Below w.heap.size w _ := (((hB.drew.setCell (p := ⟨w.heap.size + 2, 0, none⟩) (by show w.heap.size ≤ w.heap.size + 2; omega) (.int .i64 m.st)).setCell (p := ⟨w.heap.size + 2, 1, none⟩) (by show w.heap.size ≤ w.heap.size + 2; omega) (.string m.path)).setCell (p := ⟨w.heap.size + 2, 2, none⟩) (by show w.heap.size ≤ w.heap.size + 2; omega) (.slice A m.l.length c)).setCell (p := ⟨w.heap.size + 2, 3, none⟩) (by show w.heap.size ≤ w.heap.size + 2; omega) (.slice AB m.bd.length cb)
    refine bodyPost_ret (v := .tuple #[.int .i64 0, msgV m.st m.path A m.l.length c AB m.bd.length cb, .int .i64 (gate)]) (by simp only [results, Tryd.results35]; go_simp) rfl ?_
    rw [HV.out]
    exact tripOut rfl rfl rfl rfl rfl rfl rfl ((hr.below hBf).mono fun _ => .inl) ((hy.below hBf).mono fun _ => .inl) hBf
theorem rask_any (k n : Int) (key text : ByteArray) (hk : key.size ≤ 140737488355328) (ht : text.size ≤ 140737488355328) (m : Mg) (A AB : Option Addr) (c cb : Nat) (gate : Int) (S : Nat → Prop) (w : World) (hr : RdS 2 encHd w S A m.l) (hy : RdS 1 encY w S AB m.bd) (hn : m.l.length * 32 + 32 ≤ 140737488355328) (hg1 : -1000000 ≤ gate) (hg2 : gate ≤ 1000000) :
    Calls Tryd.prog 35 #[sivV k n key text, msgV m.st m.path A m.l.length c AB m.bd.length cb, .int .i64 gate] w (TripOut w (orNew S w.heap.size) (askP k n ⟨key, text, hk, ht⟩ m gate)) := by
  by_cases h0 : k = 1 ∨ k = 3 ∨ k = 4 ∨ k = 5
  · rcases h0 with rfl | rfl | rfl | rfl
    · exact rask_1 n key text hk ht m A AB c cb gate S w hr hy hn
    · exact rask_3 n key text m A AB c cb gate S w hr hy hn
    · exact rask_4 n key text m A AB c cb gate S w hr hy hn
    · exact rask_5 n key text m A AB c cb gate S w hr hy hn hg1 hg2
  · have hv : askP k n ⟨key, text, hk, ht⟩ m gate = (0, m, gate) := by
      unfold askP
      rw [if_neg (by omega), if_neg (by omega), if_neg (by omega), if_neg (by omega)]
    rw [hv]
    exact rask_no k n key text m A AB c cb gate S w hr hy hn h0
set_option maxRecDepth 100000 in
set_option maxHeartbeats 2000000 in
theorem rans_2 (n : Int) (key text : ByteArray) (hk : key.size ≤ 140737488355328) (ht : text.size ≤ 140737488355328) (m : Mg) (A AB : Option Addr) (c cb : Nat) (gate : Int) (S : Nat → Prop) (w : World) (hr : RdS 2 encHd w S A m.l) (hy : RdS 1 encY w S AB m.bd) (hn : m.l.length * 32 + 32 ≤ 140737488355328) :
    Calls Tryd.prog 37 #[sivV 2 n key text, msgV m.st m.path A m.l.length c AB m.bd.length cb, .int .i64 gate] w (PairOut w (orNew S w.heap.size) (0, setM m ⟨key, text, hk, ht⟩)) := by
  obtain ⟨w0, hw0⟩ : ∃ W, W = ((w.alloc (.cells (sivC 2 n key text) 38)).alloc (.cells (msgC m.st m.path A m.l.length c AB m.bd.length cb) 32)).alloc (.cells zerC 32) := ⟨_, rfl⟩
  have sb : Blk w0 w.heap.size 38 (sivC 2 n key text) := by rw [hw0]; exact ((Blk.new _ _ _).alloc _).alloc _
  have mb : Blk w0 (w.heap.size + 1) 32 (msgC m.st m.path A m.l.length c AB m.bd.length cb) := by rw [hw0]; exact (Blk.new' _ _ (by simp) _ _).alloc _
  have zb : Blk w0 (w.heap.size + 2) 32 zerC := by rw [hw0]; exact Blk.new' _ _ (by simp) _ _
  have hB : Below w.heap.size w w0 := by rw [hw0]; exact (((Below.refl _ w).alloc (Nat.le_refl _) _).alloc (by simp) _).alloc (by simp; omega) _
  have hr0 := hr.below hB
  have hy0 := hy.below hB
  have ⟨s0, s1, s2, s3⟩ := sb.c4
  have ⟨m0, m1, m2, m3⟩ := mb.c4
  have ⟨z0, z1, z2, z3⟩ := zb.c4
  have zf := zb.frz
  have zl := zb.lt
  have ml := mb.lt
  have sl := sb.lt
  obtain ⟨rv, hrv⟩ : ∃ v, v = ((0, setM m ⟨key, text, hk, ht⟩) : Int × Mg) := ⟨_, rfl⟩
  rw [← hrv]
  have HV := Lib.hid hrv
  clear hrv
  have hC := refset_any m.st m.path A m.l c AB m.bd cb ⟨key, text, hk, ht⟩ w0 hr0.rd hn
  have zl0 := zl
  go_enter Tryd.func37, Tryd.ntmps37
  go_wp2_with (go_at_call 55; refine Hid.out ?_)
  rw [← hw0]
  unfold Hid
  refine hC.mono ?_
  rintro e w1 ⟨A', c', rfl, ow, hb⟩
  have zb1 := zb.below hb zl
  have hB1 := hB.trans (hb.mono hB.size)
  clear hC hw0 z0 z1 z2 z3 m0 m1 m2 m3 s0 s1 s2 s3 zf zl
  have ⟨z0, z1, z2, z3⟩ := zb1.c4
  have zf := zb1.frz
  have zl := zb1.lt
  go_wp2
  have hBf : Below w.heap.size w _ := (((hB1.setCell (p := ⟨w.heap.size + 2, 0, none⟩) (by show w.heap.size ≤ w.heap.size + 2; omega) (.int .i64 m.st)).setCell (p := ⟨w.heap.size + 2, 1, none⟩) (by show w.heap.size ≤ w.heap.size + 2; omega) (.string m.path)).setCell (p := ⟨w.heap.size + 2, 2, none⟩) (by show w.heap.size ≤ w.heap.size + 2; omega) (.slice A' (setP m.l ⟨key, text, hk, ht⟩).length c')).setCell (p := ⟨w.heap.size + 2, 3, none⟩) (by show w.heap.size ≤ w.heap.size + 2; omega) (.slice AB m.bd.length cb)
  have hRh := ((ow.rds).set4 (g := w.heap.size + 2) (by omega) (.int .i64 m.st) (.string m.path) (.slice A' (setP m.l ⟨key, text, hk, ht⟩).length c') (.slice AB m.bd.length cb)).mono (S' := orNew S w.heap.size) (fun b hb => .inr (by omega))
  refine bodyPost_ret (v := .tuple #[.int .i64 0, msgV m.st m.path A' (setP m.l ⟨key, text, hk, ht⟩).length c' AB m.bd.length cb]) (by simp only [results, Tryd.results37]; go_simp) rfl ?_
  rw [HV.out]
  exact pairOut rfl rfl rfl rfl rfl rfl hRh ((hy.below hBf).mono fun _ => .inl) hBf
set_option maxRecDepth 100000 in
set_option maxHeartbeats 2000000 in
theorem rans_6 (n : Int) (key text : ByteArray) (m : Mg) (A AB : Option Addr) (c cb : Nat) (gate : Int) (S : Nat → Prop) (w : World) (hr : RdS 2 encHd w S A m.l) (hy : RdS 1 encY w S AB m.bd) (_ : m.l.length * 32 + 32 ≤ 140737488355328) :
    Calls Tryd.prog 37 #[sivV 6 n key text, msgV m.st m.path A m.l.length c AB m.bd.length cb, .int .i64 gate] w (PairOut w (orNew S w.heap.size) (if gate < n ∧ 499 < m.st then (6, m) else (0, m))) := by
  obtain ⟨w0, hw0⟩ : ∃ W, W = ((w.alloc (.cells (sivC 6 n key text) 38)).alloc (.cells (msgC m.st m.path A m.l.length c AB m.bd.length cb) 32)).alloc (.cells zerC 32) := ⟨_, rfl⟩
  have sb : Blk w0 w.heap.size 38 (sivC 6 n key text) := by rw [hw0]; exact ((Blk.new _ _ _).alloc _).alloc _
  have mb : Blk w0 (w.heap.size + 1) 32 (msgC m.st m.path A m.l.length c AB m.bd.length cb) := by rw [hw0]; exact (Blk.new' _ _ (by simp) _ _).alloc _
  have zb : Blk w0 (w.heap.size + 2) 32 zerC := by rw [hw0]; exact Blk.new' _ _ (by simp) _ _
  have hB : Below w.heap.size w w0 := by rw [hw0]; exact (((Below.refl _ w).alloc (Nat.le_refl _) _).alloc (by simp) _).alloc (by simp; omega) _
  have hr0 := hr.below hB
  have hy0 := hy.below hB
  have ⟨s0, s1, s2, s3⟩ := sb.c4
  have ⟨m0, m1, m2, m3⟩ := mb.c4
  have ⟨z0, z1, z2, z3⟩ := zb.c4
  have zf := zb.frz
  have zl := zb.lt
  have ml := mb.lt
  have sl := sb.lt
  by_cases h1 : gate < n
  · by_cases h5 : 499 < m.st
    · rw [if_pos ⟨h1, h5⟩]
      obtain ⟨rv, hrv⟩ : ∃ v, v = ((6, m) : Int × Mg) := ⟨_, rfl⟩
      rw [← hrv]
      have HV := Lib.hid hrv
      clear hrv
      go_enter Tryd.func37, Tryd.ntmps37
      go_upto_region 4 with (fail)
      rw [← hw0]
      clear hw0
      go_region
      all_goals
        go_wp2
        have hBf : Below w.heap.size w _ := (((hB.drew.setCell (p := ⟨w.heap.size + 2, 0, none⟩) (by show w.heap.size ≤ w.heap.size + 2; omega) (.int .i64 m.st)).setCell (p := ⟨w.heap.size + 2, 1, none⟩) (by show w.heap.size ≤ w.heap.size + 2; omega) (.string m.path)).setCell (p := ⟨w.heap.size + 2, 2, none⟩) (by show w.heap.size ≤ w.heap.size + 2; omega) (.slice A m.l.length c)).setCell (p := ⟨w.heap.size + 2, 3, none⟩) (by show w.heap.size ≤ w.heap.size + 2; omega) (.slice AB m.bd.length cb)
        refine bodyPost_ret (v := .tuple #[.int .i64 6, msgV m.st m.path A m.l.length c AB m.bd.length cb]) (by simp only [results, Tryd.results37]; go_simp) rfl ?_
        rw [HV.out]
        exact pairOut rfl rfl rfl rfl rfl rfl ((hr.below hBf).mono fun _ => .inl) ((hy.below hBf).mono fun _ => .inl) hBf
    · rw [if_neg (fun h => h5 h.2)]
      obtain ⟨rv, hrv⟩ : ∃ v, v = ((0, m) : Int × Mg) := ⟨_, rfl⟩
      rw [← hrv]
      have HV := Lib.hid hrv
      clear hrv
      go_enter Tryd.func37, Tryd.ntmps37
      go_upto_region 5 with (fail)
      rw [← hw0]
      clear hw0
      go_region
      all_goals
        go_wp2
        have hBf : Below w.heap.size w _ := (((hB.drew.setCell (p := ⟨w.heap.size + 2, 0, none⟩) (by show w.heap.size ≤ w.heap.size + 2; omega) (.int .i64 m.st)).setCell (p := ⟨w.heap.size + 2, 1, none⟩) (by show w.heap.size ≤ w.heap.size + 2; omega) (.string m.path)).setCell (p := ⟨w.heap.size + 2, 2, none⟩) (by show w.heap.size ≤ w.heap.size + 2; omega) (.slice A m.l.length c)).setCell (p := ⟨w.heap.size + 2, 3, none⟩) (by show w.heap.size ≤ w.heap.size + 2; omega) (.slice AB m.bd.length cb)
        refine bodyPost_ret (v := .tuple #[.int .i64 0, msgV m.st m.path A m.l.length c AB m.bd.length cb]) (by simp only [results, Tryd.results37]; go_simp) rfl ?_
        rw [HV.out]
        exact pairOut rfl rfl rfl rfl rfl rfl ((hr.below hBf).mono fun _ => .inl) ((hy.below hBf).mono fun _ => .inl) hBf
  · rw [if_neg (fun h => h1 h.1)]
    obtain ⟨rv, hrv⟩ : ∃ v, v = ((0, m) : Int × Mg) := ⟨_, rfl⟩
    rw [← hrv]
    have HV := Lib.hid hrv
    clear hrv
    go_enter Tryd.func37, Tryd.ntmps37
    go_upto_region 5 with (fail)
    rw [← hw0]
    clear hw0
    go_region
    all_goals
      go_wp2
      have hBf : Below w.heap.size w _ := (((hB.drew.setCell (p := ⟨w.heap.size + 2, 0, none⟩) (by show w.heap.size ≤ w.heap.size + 2; omega) (.int .i64 m.st)).setCell (p := ⟨w.heap.size + 2, 1, none⟩) (by show w.heap.size ≤ w.heap.size + 2; omega) (.string m.path)).setCell (p := ⟨w.heap.size + 2, 2, none⟩) (by show w.heap.size ≤ w.heap.size + 2; omega) (.slice A m.l.length c)).setCell (p := ⟨w.heap.size + 2, 3, none⟩) (by show w.heap.size ≤ w.heap.size + 2; omega) (.slice AB m.bd.length cb)
      refine bodyPost_ret (v := .tuple #[.int .i64 0, msgV m.st m.path A m.l.length c AB m.bd.length cb]) (by simp only [results, Tryd.results37]; go_simp) rfl ?_
      rw [HV.out]
      exact pairOut rfl rfl rfl rfl rfl rfl ((hr.below hBf).mono fun _ => .inl) ((hy.below hBf).mono fun _ => .inl) hBf
set_option maxRecDepth 100000 in
set_option maxHeartbeats 2000000 in
theorem rans_no (k : Int) (n : Int) (key text : ByteArray) (m : Mg) (A AB : Option Addr) (c cb : Nat) (gate : Int) (S : Nat → Prop) (w : World) (hr : RdS 2 encHd w S A m.l) (hy : RdS 1 encY w S AB m.bd) (_ : m.l.length * 32 + 32 ≤ 140737488355328) (hk0 : ¬ (k = 2 ∨ k = 6)) :
    Calls Tryd.prog 37 #[sivV k n key text, msgV m.st m.path A m.l.length c AB m.bd.length cb, .int .i64 gate] w (PairOut w (orNew S w.heap.size) (0, m)) := by
  have g2 : (k == 2) = false := by simp; omega
  have g6 : (k == 6) = false := by simp; omega
  clear hk0
  obtain ⟨w0, hw0⟩ : ∃ W, W = ((w.alloc (.cells (sivC k n key text) 38)).alloc (.cells (msgC m.st m.path A m.l.length c AB m.bd.length cb) 32)).alloc (.cells zerC 32) := ⟨_, rfl⟩
  have sb : Blk w0 w.heap.size 38 (sivC k n key text) := by rw [hw0]; exact ((Blk.new _ _ _).alloc _).alloc _
  have mb : Blk w0 (w.heap.size + 1) 32 (msgC m.st m.path A m.l.length c AB m.bd.length cb) := by rw [hw0]; exact (Blk.new' _ _ (by simp) _ _).alloc _
  have zb : Blk w0 (w.heap.size + 2) 32 zerC := by rw [hw0]; exact Blk.new' _ _ (by simp) _ _
  have hB : Below w.heap.size w w0 := by rw [hw0]; exact (((Below.refl _ w).alloc (Nat.le_refl _) _).alloc (by simp) _).alloc (by simp; omega) _
  have hr0 := hr.below hB
  have hy0 := hy.below hB
  have ⟨s0, s1, s2, s3⟩ := sb.c4
  have ⟨m0, m1, m2, m3⟩ := mb.c4
  have ⟨z0, z1, z2, z3⟩ := zb.c4
  have zf := zb.frz
  have zl := zb.lt
  have ml := mb.lt
  have sl := sb.lt
  obtain ⟨rv, hrv⟩ : ∃ v, v = ((0, m) : Int × Mg) := ⟨_, rfl⟩
  rw [← hrv]
  have HV := Lib.hid hrv
  clear hrv
  go_enter Tryd.func37, Tryd.ntmps37
  go_upto_region 5 with (fail)
  rw [← hw0]
  clear hw0
  go_region
  all_goals
    go_wp2
    have hBf : Below w.heap.size w _ := (((hB.drew.setCell (p := ⟨w.heap.size + 2, 0, none⟩) (by show w.heap.size ≤ w.heap.size + 2; omega) (.int .i64 m.st)).setCell (p := ⟨w.heap.size + 2, 1, none⟩) (by show w.heap.size ≤ w.heap.size + 2; omega) (.string m.path)).setCell (p := ⟨w.heap.size + 2, 2, none⟩) (by show w.heap.size ≤ w.heap.size + 2; omega) (.slice A m.l.length c)).setCell (p := ⟨w.heap.size + 2, 3, none⟩) (by show w.heap.size ≤ w.heap.size + 2; omega) (.slice AB m.bd.length cb)
    refine bodyPost_ret (v := .tuple #[.int .i64 0, msgV m.st m.path A m.l.length c AB m.bd.length cb]) (by simp only [results, Tryd.results37]; go_simp) rfl ?_
    rw [HV.out]
    exact pairOut rfl rfl rfl rfl rfl rfl ((hr.below hBf).mono fun _ => .inl) ((hy.below hBf).mono fun _ => .inl) hBf
theorem rans_any (k n : Int) (key text : ByteArray) (hk : key.size ≤ 140737488355328) (ht : text.size ≤ 140737488355328) (m : Mg) (A AB : Option Addr) (c cb : Nat) (gate : Int) (S : Nat → Prop) (w : World) (hr : RdS 2 encHd w S A m.l) (hy : RdS 1 encY w S AB m.bd) (hn : m.l.length * 32 + 32 ≤ 140737488355328) :
    Calls Tryd.prog 37 #[sivV k n key text, msgV m.st m.path A m.l.length c AB m.bd.length cb, .int .i64 gate] w (PairOut w (orNew S w.heap.size) (ansP k n ⟨key, text, hk, ht⟩ m gate)) := by
  by_cases h0 : k = 2 ∨ k = 6
  · rcases h0 with rfl | rfl
    · exact rans_2 n key text hk ht m A AB c cb gate S w hr hy hn
    · exact rans_6 n key text m A AB c cb gate S w hr hy hn
  · have hv : ansP k n ⟨key, text, hk, ht⟩ m gate = (0, m) := by
      unfold ansP
      rw [if_neg (by omega), if_neg (by omega)]
    rw [hv]
    exact rans_no k n key text m A AB c cb gate S w hr hy hn h0
end Go.Proofs.YtmcjgfoaiannoabDoor
