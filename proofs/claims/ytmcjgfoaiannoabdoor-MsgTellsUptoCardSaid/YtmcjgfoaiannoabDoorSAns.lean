/-
  What the program does with an answer, filter by filter. Condition: what the message holds can be read.
-/
import Derived.Test.YtmcjgfoaiannoabDoorSMake
namespace Go.Proofs.YtmcjgfoaiannoabDoor
open Go.RowKit Go.Lib

set_option maxRecDepth 100000 in
set_option maxHeartbeats 4000000 in
theorem ans_2 (n : Int) (key text : ByteArray) (hk : key.size ≤ 140737488355328) (ht : text.size ≤ 140737488355328) (m : Mg) (A AB : Option Addr) (c cb : Nat) (gate : Int) (w : World) (hr : Rd 2 encHd w w.heap.size A m.l) (hy : Rd 1 encY w w.heap.size AB m.bd) (hn : m.l.length * 32 + 32 ≤ 140737488355328) (hm : m.bd.length ≤ 140737488355328) :
    Calls Tryd.prog 36 #[sivV 2 n key text, msgV m.st m.path A m.l.length c AB m.bd.length cb, .int .i64 gate] w (PairOut w (w.heap.size ≤ ·) (0, setM m ⟨key, text, hk, ht⟩)) := by
  obtain ⟨rv, hrv⟩ : ∃ v, v = ((0, setM m ⟨key, text, hk, ht⟩) : Int × Mg) := ⟨_, rfl⟩
  have HM := fun A1 B1 c1 d1 S W h1 h2 => markAnswer_any ⟨key, text, hk, ht⟩ m A1 B1 c1 d1 S W h1 h2 hn hm gate
  rw [← hrv]
  rw [← hrv] at HM
  have HM := Lib.hid HM
  clear hrv
  have a1 := as126_95
  have hna : ∀ w, (nilAhead 344 126 (.agg #[.string key, .string text]) "Answer").run Tryd.prog w = .ok (some false) w := fun w => by kernel_rfl
  have hme : ∀ w, (method 344 126 (.agg #[.string key, .string text]) "Answer").run Tryd.prog w = .ok (153, .agg #[.string key, .string text]) w := fun w => by kernel_rfl
  obtain ⟨w0, hw0⟩ : ∃ W, W = (((w.alloc (.cells (sivC 2 n key text) 38)).alloc (.cells (msgC m.st m.path A m.l.length c AB m.bd.length cb) 32)).alloc (.cells zerC 32)).alloc (.cells (sivC 2 n key text) 38) := ⟨_, rfl⟩
  have mb : Blk w0 (w.heap.size + 1) 32 (msgC m.st m.path A m.l.length c AB m.bd.length cb) := by rw [hw0]; exact ((Blk.new' _ _ (by simp) _ _).alloc _).alloc _
  have zb : Blk w0 (w.heap.size + 2) 32 zerC := by rw [hw0]; exact (Blk.new' _ _ (by simp) _ _).alloc _
  have hB : Below w.heap.size w w0 := by rw [hw0]; exact ((((Below.refl _ w).alloc (Nat.le_refl _) _).alloc (by simp) _).alloc (by simp; omega) _).alloc (by simp; omega) _
  have hr0 := hr.up hB
  have hy0 := hy.up hB
  have zl0 := zb.lt
  go_enter Tryd.func36, Tryd.ntmps36
  go_upto_region 3 with (go_at_call 62; refine (make_2 n key text _).mono ?_; rintro e w1 ⟨rfl, rfl⟩)
  rw [← hw0]
  clear hw0
  go_cut [6] (fun d wx => d = .int .i64 rv.1 ∧ ∃ A2 c2 B2 f2, Blk wx (w.heap.size + 2) 32 (msgC rv.2.st rv.2.path A2 rv.2.l.length c2 B2 rv.2.bd.length f2) ∧ RdS 2 encHd wx (w.heap.size ≤ ·) A2 rv.2.l ∧ RdS 1 encY wx (w.heap.size ≤ ·) B2 rv.2.bd ∧ Below w.heap.size w wx)
  case first =>
    have ⟨k0, k1, k2, k3⟩ := mb.c4
    have ml := mb.lt
    have hna := hna
    go_region_law (first
      | (go_simp
         with_reducible refine (own_any m.st m.path A m.l c AB m.bd cb _ ?_ ?_ ?_ ?_).mono ?_
         · exact hr0
         · exact hy0
         · omega
         · exact hm
         rintro e w1 ⟨A', c', B', d', rfl, ow, hb⟩
         have ow := ow.more (show w0.heap.size ≤ _ from Nat.le_refl _)
         repeat (have hb := below_undrew3 hb)
         have hs1 := hb.size
         have zb := zb.below hb zb.lt
         have hB := hB.trans (hb.mono hB.size))
      | (go_simp
         with_reducible refine (HM.out A' B' c' d' (w0.heap.size ≤ ·) _ ?_ ?_).mono ?_
         · exact ow.h.rds
         · exact ow.y.rds
         rintro e w2 ⟨A2, c2, B2, f2, rfl, hRh, hRy, hb⟩
         have hRh := hRh.mono (S' := (w0.heap.size ≤ ·)) (fun b h => h.elim id (fun h => Nat.le_trans hs1 h))
         have hRy := hRy.mono (S' := (w0.heap.size ≤ ·)) (fun b h => h.elim id (fun h => Nat.le_trans hs1 h))
         repeat (have hb := below_undrew3 hb)
         have zb := zb.below hb zb.lt
         have hB := hB.trans (hb.mono hB.size)
         have ⟨j0, j1, j2, j3⟩ := zb.c4
         have zf := zb.frz
         have l3 := zb.lt))
    all_goals
      go_wp2_with fail
      go_meet
      refine ⟨rfl, A2, c2, B2, f2, ?_, ?_, ?_, ?_⟩
      · exact Blk.set_ (Blk.set_ (Blk.set_ (Blk.set_ zb 0 _) 1 _) 2 _) 3 _
      · exact (hRh.set4 (g := w.heap.size + 2) (by omega) _ _ _ _).mono (fun b h => by omega)
      · exact (hRy.set4 (g := w.heap.size + 2) (by omega) _ _ _ _).mono (fun b h => by omega)
      · iterate 4 refine Below.setCell ?_ (by show w.heap.size ≤ w.heap.size + 2; omega) _
        exact hB
  case rest =>
    obtain ⟨rfl, A2, c2, B2, f2, zb, hRh, hRy, hB⟩ := hcut
    have ⟨j0, j1, j2, j3⟩ := zb.c4
    go_wp2
    refine bodyPost_ret (v := .tuple #[.int .i64 rv.1, msgV rv.2.st rv.2.path A2 rv.2.l.length c2 B2 rv.2.bd.length f2]) (by simp only [results, Tryd.results36]; go_simp) rfl ⟨A2, c2, B2, f2, rfl, hRh, hRy, hB⟩
set_option maxRecDepth 100000 in
set_option maxHeartbeats 4000000 in
theorem ans_6 (n : Int) (key text : ByteArray) (_ : key.size ≤ 140737488355328) (_ : text.size ≤ 140737488355328) (m : Mg) (A AB : Option Addr) (c cb : Nat) (gate : Int) (w : World) (hr : Rd 2 encHd w w.heap.size A m.l) (hy : Rd 1 encY w w.heap.size AB m.bd) (hn : m.l.length * 32 + 32 ≤ 140737488355328) (hm : m.bd.length ≤ 140737488355328) :
    Calls Tryd.prog 36 #[sivV 6 n key text, msgV m.st m.path A m.l.length c AB m.bd.length cb, .int .i64 gate] w (PairOut w (w.heap.size ≤ ·) (if gate < n ∧ 499 < m.st then (6, m) else (0, m))) := by
  obtain ⟨rv, hrv⟩ : ∃ v, v = ((if gate < n ∧ 499 < m.st then (6, m) else (0, m)) : Int × Mg) := ⟨_, rfl⟩
  have HM := fun A1 B1 c1 d1 S W h1 h2 => retryAnswer_any n m A1 B1 c1 d1 S W h1 h2 gate
  rw [← hrv]
  rw [← hrv] at HM
  have HM := Lib.hid HM
  clear hrv
  have a1 := as131_95
  have hna : ∀ w, (nilAhead 344 131 (.agg #[.int .i64 n]) "Answer").run Tryd.prog w = .ok (some false) w := fun w => by kernel_rfl
  have hme : ∀ w, (method 344 131 (.agg #[.int .i64 n]) "Answer").run Tryd.prog w = .ok (157, .agg #[.int .i64 n]) w := fun w => by kernel_rfl
  obtain ⟨w0, hw0⟩ : ∃ W, W = (((w.alloc (.cells (sivC 6 n key text) 38)).alloc (.cells (msgC m.st m.path A m.l.length c AB m.bd.length cb) 32)).alloc (.cells zerC 32)).alloc (.cells (sivC 6 n key text) 38) := ⟨_, rfl⟩
  have mb : Blk w0 (w.heap.size + 1) 32 (msgC m.st m.path A m.l.length c AB m.bd.length cb) := by rw [hw0]; exact ((Blk.new' _ _ (by simp) _ _).alloc _).alloc _
  have zb : Blk w0 (w.heap.size + 2) 32 zerC := by rw [hw0]; exact (Blk.new' _ _ (by simp) _ _).alloc _
  have hB : Below w.heap.size w w0 := by rw [hw0]; exact ((((Below.refl _ w).alloc (Nat.le_refl _) _).alloc (by simp) _).alloc (by simp; omega) _).alloc (by simp; omega) _
  have hr0 := hr.up hB
  have hy0 := hy.up hB
  have zl0 := zb.lt
  go_enter Tryd.func36, Tryd.ntmps36
  go_upto_region 3 with (go_at_call 62; refine (make_6 n key text _).mono ?_; rintro e w1 ⟨rfl, rfl⟩)
  rw [← hw0]
  clear hw0
  go_cut [6] (fun d wx => d = .int .i64 rv.1 ∧ ∃ A2 c2 B2 f2, Blk wx (w.heap.size + 2) 32 (msgC rv.2.st rv.2.path A2 rv.2.l.length c2 B2 rv.2.bd.length f2) ∧ RdS 2 encHd wx (w.heap.size ≤ ·) A2 rv.2.l ∧ RdS 1 encY wx (w.heap.size ≤ ·) B2 rv.2.bd ∧ Below w.heap.size w wx)
  case first =>
    have ⟨k0, k1, k2, k3⟩ := mb.c4
    have ml := mb.lt
    have hna := hna
    go_region_law (first
      | (go_simp
         with_reducible refine (own_any m.st m.path A m.l c AB m.bd cb _ ?_ ?_ ?_ ?_).mono ?_
         · exact hr0
         · exact hy0
         · omega
         · exact hm
         rintro e w1 ⟨A', c', B', d', rfl, ow, hb⟩
         have ow := ow.more (show w0.heap.size ≤ _ from Nat.le_refl _)
         repeat (have hb := below_undrew3 hb)
         have hs1 := hb.size
         have zb := zb.below hb zb.lt
         have hB := hB.trans (hb.mono hB.size))
      | (go_simp
         with_reducible refine (HM.out A' B' c' d' (w0.heap.size ≤ ·) _ ?_ ?_).mono ?_
         · exact ow.h.rds
         · exact ow.y.rds
         rintro e w2 ⟨A2, c2, B2, f2, rfl, hRh, hRy, hb⟩
         have hRh := hRh.mono (S' := (w0.heap.size ≤ ·)) (fun b h => h.elim id (fun h => Nat.le_trans hs1 h))
         have hRy := hRy.mono (S' := (w0.heap.size ≤ ·)) (fun b h => h.elim id (fun h => Nat.le_trans hs1 h))
         repeat (have hb := below_undrew3 hb)
         have zb := zb.below hb zb.lt
         have hB := hB.trans (hb.mono hB.size)
         have ⟨j0, j1, j2, j3⟩ := zb.c4
         have zf := zb.frz
         have l3 := zb.lt))
    all_goals
      go_wp2_with fail
      go_meet
      refine ⟨rfl, A2, c2, B2, f2, ?_, ?_, ?_, ?_⟩
      · exact Blk.set_ (Blk.set_ (Blk.set_ (Blk.set_ zb 0 _) 1 _) 2 _) 3 _
      · exact (hRh.set4 (g := w.heap.size + 2) (by omega) _ _ _ _).mono (fun b h => by omega)
      · exact (hRy.set4 (g := w.heap.size + 2) (by omega) _ _ _ _).mono (fun b h => by omega)
      · iterate 4 refine Below.setCell ?_ (by show w.heap.size ≤ w.heap.size + 2; omega) _
        exact hB
  case rest =>
    obtain ⟨rfl, A2, c2, B2, f2, zb, hRh, hRy, hB⟩ := hcut
    have ⟨j0, j1, j2, j3⟩ := zb.c4
    go_wp2
    refine bodyPost_ret (v := .tuple #[.int .i64 rv.1, msgV rv.2.st rv.2.path A2 rv.2.l.length c2 B2 rv.2.bd.length f2]) (by simp only [results, Tryd.results36]; go_simp) rfl ⟨A2, c2, B2, f2, rfl, hRh, hRy, hB⟩
set_option maxRecDepth 100000 in
set_option maxHeartbeats 4000000 in
theorem ans_7_2 (n : Int) (key text : ByteArray) (_ : key.size ≤ 140737488355328) (_ : text.size ≤ 140737488355328) (m : Mg) (A AB : Option Addr) (c cb : Nat) (gate : Int) (w : World) (hr : Rd 2 encHd w w.heap.size A m.l) (hy : Rd 1 encY w w.heap.size AB m.bd) (hn : m.l.length * 32 + 32 ≤ 140737488355328) (hm : m.bd.length ≤ 140737488355328) (hb7 : bits .and .i64 n 7 = 2) :
    Calls Tryd.prog 36 #[sivV 7 n key text, msgV m.st m.path A m.l.length c AB m.bd.length cb, .int .i64 gate] w (PairOut w (w.heap.size ≤ ·) (0, m)) := by
  obtain ⟨rv, hrv⟩ : ∃ v, v = ((0, m) : Int × Mg) := ⟨_, rfl⟩
  have HM := fun A1 B1 c1 d1 S W h1 h2 => answers_any m A1 B1 c1 d1 S W h1 h2 gate
  rw [← hrv]
  rw [← hrv] at HM
  have HM := Lib.hid HM
  clear hrv
  have a1 := as158_95
  have hna : ∀ w, (nilAhead 344 158 (.agg #[]) "Answer").run Tryd.prog w = .ok (some false) w := fun w => by kernel_rfl
  have hme : ∀ w, (method 344 158 (.agg #[]) "Answer").run Tryd.prog w = .ok (171, .agg #[]) w := fun w => by kernel_rfl
  obtain ⟨w0, hw0⟩ : ∃ W, W = (((w.alloc (.cells (sivC 7 n key text) 38)).alloc (.cells (msgC m.st m.path A m.l.length c AB m.bd.length cb) 32)).alloc (.cells zerC 32)).alloc (.cells (sivC 7 n key text) 38) := ⟨_, rfl⟩
  have mb : Blk w0 (w.heap.size + 1) 32 (msgC m.st m.path A m.l.length c AB m.bd.length cb) := by rw [hw0]; exact ((Blk.new' _ _ (by simp) _ _).alloc _).alloc _
  have zb : Blk w0 (w.heap.size + 2) 32 zerC := by rw [hw0]; exact (Blk.new' _ _ (by simp) _ _).alloc _
  have hB : Below w.heap.size w w0 := by rw [hw0]; exact ((((Below.refl _ w).alloc (Nat.le_refl _) _).alloc (by simp) _).alloc (by simp; omega) _).alloc (by simp; omega) _
  have hr0 := hr.up hB
  have hy0 := hy.up hB
  have zl0 := zb.lt
  go_enter Tryd.func36, Tryd.ntmps36
  go_upto_region 3 with (go_at_call 62; refine (make_7_2 n key text hb7 _).mono ?_; rintro e w1 ⟨rfl, rfl⟩)
  rw [← hw0]
  clear hw0
  go_cut [6] (fun d wx => d = .int .i64 rv.1 ∧ ∃ A2 c2 B2 f2, Blk wx (w.heap.size + 2) 32 (msgC rv.2.st rv.2.path A2 rv.2.l.length c2 B2 rv.2.bd.length f2) ∧ RdS 2 encHd wx (w.heap.size ≤ ·) A2 rv.2.l ∧ RdS 1 encY wx (w.heap.size ≤ ·) B2 rv.2.bd ∧ Below w.heap.size w wx)
  case first =>
    have ⟨k0, k1, k2, k3⟩ := mb.c4
    have ml := mb.lt
    have hna := hna
    go_region_law (first
      | (go_simp
         with_reducible refine (own_any m.st m.path A m.l c AB m.bd cb _ ?_ ?_ ?_ ?_).mono ?_
         · exact hr0
         · exact hy0
         · omega
         · exact hm
         rintro e w1 ⟨A', c', B', d', rfl, ow, hb⟩
         have ow := ow.more (show w0.heap.size ≤ _ from Nat.le_refl _)
         repeat (have hb := below_undrew3 hb)
         have hs1 := hb.size
         have zb := zb.below hb zb.lt
         have hB := hB.trans (hb.mono hB.size))
      | (go_simp
         with_reducible refine (HM.out A' B' c' d' (w0.heap.size ≤ ·) _ ?_ ?_).mono ?_
         · exact ow.h.rds
         · exact ow.y.rds
         rintro e w2 ⟨A2, c2, B2, f2, rfl, hRh, hRy, hb⟩
         have hRh := hRh.mono (S' := (w0.heap.size ≤ ·)) (fun b h => h.elim id (fun h => Nat.le_trans hs1 h))
         have hRy := hRy.mono (S' := (w0.heap.size ≤ ·)) (fun b h => h.elim id (fun h => Nat.le_trans hs1 h))
         repeat (have hb := below_undrew3 hb)
         have zb := zb.below hb zb.lt
         have hB := hB.trans (hb.mono hB.size)
         have ⟨j0, j1, j2, j3⟩ := zb.c4
         have zf := zb.frz
         have l3 := zb.lt))
    all_goals
      go_wp2_with fail
      go_meet
      refine ⟨rfl, A2, c2, B2, f2, ?_, ?_, ?_, ?_⟩
      · exact Blk.set_ (Blk.set_ (Blk.set_ (Blk.set_ zb 0 _) 1 _) 2 _) 3 _
      · exact (hRh.set4 (g := w.heap.size + 2) (by omega) _ _ _ _).mono (fun b h => by omega)
      · exact (hRy.set4 (g := w.heap.size + 2) (by omega) _ _ _ _).mono (fun b h => by omega)
      · iterate 4 refine Below.setCell ?_ (by show w.heap.size ≤ w.heap.size + 2; omega) _
        exact hB
  case rest =>
    obtain ⟨rfl, A2, c2, B2, f2, zb, hRh, hRy, hB⟩ := hcut
    have ⟨j0, j1, j2, j3⟩ := zb.c4
    go_wp2
    refine bodyPost_ret (v := .tuple #[.int .i64 rv.1, msgV rv.2.st rv.2.path A2 rv.2.l.length c2 B2 rv.2.bd.length f2]) (by simp only [results, Tryd.results36]; go_simp) rfl ⟨A2, c2, B2, f2, rfl, hRh, hRy, hB⟩
set_option maxRecDepth 100000 in
set_option maxHeartbeats 4000000 in
theorem ans_7_3 (n : Int) (key text : ByteArray) (_ : key.size ≤ 140737488355328) (_ : text.size ≤ 140737488355328) (m : Mg) (A AB : Option Addr) (c cb : Nat) (gate : Int) (w : World) (hr : Rd 2 encHd w w.heap.size A m.l) (hy : Rd 1 encY w w.heap.size AB m.bd) (hn : m.l.length * 32 + 32 ≤ 140737488355328) (hm : m.bd.length ≤ 140737488355328) (hb7 : bits .and .i64 n 7 = 3) :
    Calls Tryd.prog 36 #[sivV 7 n key text, msgV m.st m.path A m.l.length c AB m.bd.length cb, .int .i64 gate] w (PairOut w (w.heap.size ≤ ·) (0, m)) := by
  obtain ⟨rv, hrv⟩ : ∃ v, v = ((0, m) : Int × Mg) := ⟨_, rfl⟩
  have HM := fun A1 B1 c1 d1 S W h1 h2 => answers_any m A1 B1 c1 d1 S W h1 h2 gate
  rw [← hrv]
  rw [← hrv] at HM
  have HM := Lib.hid HM
  clear hrv
  have a1 := as160_95
  have hna : ∀ w, (nilAhead 344 160 (.agg #[]) "Answer").run Tryd.prog w = .ok (some false) w := fun w => by kernel_rfl
  have hme : ∀ w, (method 344 160 (.agg #[]) "Answer").run Tryd.prog w = .ok (171, .agg #[]) w := fun w => by kernel_rfl
  obtain ⟨w0, hw0⟩ : ∃ W, W = (((w.alloc (.cells (sivC 7 n key text) 38)).alloc (.cells (msgC m.st m.path A m.l.length c AB m.bd.length cb) 32)).alloc (.cells zerC 32)).alloc (.cells (sivC 7 n key text) 38) := ⟨_, rfl⟩
  have mb : Blk w0 (w.heap.size + 1) 32 (msgC m.st m.path A m.l.length c AB m.bd.length cb) := by rw [hw0]; exact ((Blk.new' _ _ (by simp) _ _).alloc _).alloc _
  have zb : Blk w0 (w.heap.size + 2) 32 zerC := by rw [hw0]; exact (Blk.new' _ _ (by simp) _ _).alloc _
  have hB : Below w.heap.size w w0 := by rw [hw0]; exact ((((Below.refl _ w).alloc (Nat.le_refl _) _).alloc (by simp) _).alloc (by simp; omega) _).alloc (by simp; omega) _
  have hr0 := hr.up hB
  have hy0 := hy.up hB
  have zl0 := zb.lt
  go_enter Tryd.func36, Tryd.ntmps36
  go_upto_region 3 with (go_at_call 62; refine (make_7_3 n key text hb7 _).mono ?_; rintro e w1 ⟨rfl, rfl⟩)
  rw [← hw0]
  clear hw0
  go_cut [6] (fun d wx => d = .int .i64 rv.1 ∧ ∃ A2 c2 B2 f2, Blk wx (w.heap.size + 2) 32 (msgC rv.2.st rv.2.path A2 rv.2.l.length c2 B2 rv.2.bd.length f2) ∧ RdS 2 encHd wx (w.heap.size ≤ ·) A2 rv.2.l ∧ RdS 1 encY wx (w.heap.size ≤ ·) B2 rv.2.bd ∧ Below w.heap.size w wx)
  case first =>
    have ⟨k0, k1, k2, k3⟩ := mb.c4
    have ml := mb.lt
    have hna := hna
    go_region_law (first
      | (go_simp
         with_reducible refine (own_any m.st m.path A m.l c AB m.bd cb _ ?_ ?_ ?_ ?_).mono ?_
         · exact hr0
         · exact hy0
         · omega
         · exact hm
         rintro e w1 ⟨A', c', B', d', rfl, ow, hb⟩
         have ow := ow.more (show w0.heap.size ≤ _ from Nat.le_refl _)
         repeat (have hb := below_undrew3 hb)
         have hs1 := hb.size
         have zb := zb.below hb zb.lt
         have hB := hB.trans (hb.mono hB.size))
      | (go_simp
         with_reducible refine (HM.out A' B' c' d' (w0.heap.size ≤ ·) _ ?_ ?_).mono ?_
         · exact ow.h.rds
         · exact ow.y.rds
         rintro e w2 ⟨A2, c2, B2, f2, rfl, hRh, hRy, hb⟩
         have hRh := hRh.mono (S' := (w0.heap.size ≤ ·)) (fun b h => h.elim id (fun h => Nat.le_trans hs1 h))
         have hRy := hRy.mono (S' := (w0.heap.size ≤ ·)) (fun b h => h.elim id (fun h => Nat.le_trans hs1 h))
         repeat (have hb := below_undrew3 hb)
         have zb := zb.below hb zb.lt
         have hB := hB.trans (hb.mono hB.size)
         have ⟨j0, j1, j2, j3⟩ := zb.c4
         have zf := zb.frz
         have l3 := zb.lt))
    all_goals
      go_wp2_with fail
      go_meet
      refine ⟨rfl, A2, c2, B2, f2, ?_, ?_, ?_, ?_⟩
      · exact Blk.set_ (Blk.set_ (Blk.set_ (Blk.set_ zb 0 _) 1 _) 2 _) 3 _
      · exact (hRh.set4 (g := w.heap.size + 2) (by omega) _ _ _ _).mono (fun b h => by omega)
      · exact (hRy.set4 (g := w.heap.size + 2) (by omega) _ _ _ _).mono (fun b h => by omega)
      · iterate 4 refine Below.setCell ?_ (by show w.heap.size ≤ w.heap.size + 2; omega) _
        exact hB
  case rest =>
    obtain ⟨rfl, A2, c2, B2, f2, zb, hRh, hRy, hB⟩ := hcut
    have ⟨j0, j1, j2, j3⟩ := zb.c4
    go_wp2
    refine bodyPost_ret (v := .tuple #[.int .i64 rv.1, msgV rv.2.st rv.2.path A2 rv.2.l.length c2 B2 rv.2.bd.length f2]) (by simp only [results, Tryd.results36]; go_simp) rfl ⟨A2, c2, B2, f2, rfl, hRh, hRy, hB⟩
set_option maxRecDepth 100000 in
set_option maxHeartbeats 4000000 in
theorem ans_7_6 (n : Int) (key text : ByteArray) (_ : key.size ≤ 140737488355328) (_ : text.size ≤ 140737488355328) (m : Mg) (A AB : Option Addr) (c cb : Nat) (gate : Int) (w : World) (hr : Rd 2 encHd w w.heap.size A m.l) (hy : Rd 1 encY w w.heap.size AB m.bd) (hn : m.l.length * 32 + 32 ≤ 140737488355328) (hm : m.bd.length ≤ 140737488355328) (hb7 : bits .and .i64 n 7 = 6) :
    Calls Tryd.prog 36 #[sivV 7 n key text, msgV m.st m.path A m.l.length c AB m.bd.length cb, .int .i64 gate] w (PairOut w (w.heap.size ≤ ·) (0, m)) := by
  obtain ⟨rv, hrv⟩ : ∃ v, v = ((0, m) : Int × Mg) := ⟨_, rfl⟩
  have HM := fun A1 B1 c1 d1 S W h1 h2 => answers_any m A1 B1 c1 d1 S W h1 h2 gate
  rw [← hrv]
  rw [← hrv] at HM
  have HM := Lib.hid HM
  clear hrv
  have a1 := as162_95
  have hna : ∀ w, (nilAhead 344 162 (.agg #[]) "Answer").run Tryd.prog w = .ok (some false) w := fun w => by kernel_rfl
  have hme : ∀ w, (method 344 162 (.agg #[]) "Answer").run Tryd.prog w = .ok (171, .agg #[]) w := fun w => by kernel_rfl
  obtain ⟨w0, hw0⟩ : ∃ W, W = (((w.alloc (.cells (sivC 7 n key text) 38)).alloc (.cells (msgC m.st m.path A m.l.length c AB m.bd.length cb) 32)).alloc (.cells zerC 32)).alloc (.cells (sivC 7 n key text) 38) := ⟨_, rfl⟩
  have mb : Blk w0 (w.heap.size + 1) 32 (msgC m.st m.path A m.l.length c AB m.bd.length cb) := by rw [hw0]; exact ((Blk.new' _ _ (by simp) _ _).alloc _).alloc _
  have zb : Blk w0 (w.heap.size + 2) 32 zerC := by rw [hw0]; exact (Blk.new' _ _ (by simp) _ _).alloc _
  have hB : Below w.heap.size w w0 := by rw [hw0]; exact ((((Below.refl _ w).alloc (Nat.le_refl _) _).alloc (by simp) _).alloc (by simp; omega) _).alloc (by simp; omega) _
  have hr0 := hr.up hB
  have hy0 := hy.up hB
  have zl0 := zb.lt
  go_enter Tryd.func36, Tryd.ntmps36
  go_upto_region 3 with (go_at_call 62; refine (make_7_6 n key text hb7 _).mono ?_; rintro e w1 ⟨rfl, rfl⟩)
  rw [← hw0]
  clear hw0
  go_cut [6] (fun d wx => d = .int .i64 rv.1 ∧ ∃ A2 c2 B2 f2, Blk wx (w.heap.size + 2) 32 (msgC rv.2.st rv.2.path A2 rv.2.l.length c2 B2 rv.2.bd.length f2) ∧ RdS 2 encHd wx (w.heap.size ≤ ·) A2 rv.2.l ∧ RdS 1 encY wx (w.heap.size ≤ ·) B2 rv.2.bd ∧ Below w.heap.size w wx)
  case first =>
    have ⟨k0, k1, k2, k3⟩ := mb.c4
    have ml := mb.lt
    have hna := hna
    go_region_law (first
      | (go_simp
         with_reducible refine (own_any m.st m.path A m.l c AB m.bd cb _ ?_ ?_ ?_ ?_).mono ?_
         · exact hr0
         · exact hy0
         · omega
         · exact hm
         rintro e w1 ⟨A', c', B', d', rfl, ow, hb⟩
         have ow := ow.more (show w0.heap.size ≤ _ from Nat.le_refl _)
         repeat (have hb := below_undrew3 hb)
         have hs1 := hb.size
         have zb := zb.below hb zb.lt
         have hB := hB.trans (hb.mono hB.size))
      | (go_simp
         with_reducible refine (HM.out A' B' c' d' (w0.heap.size ≤ ·) _ ?_ ?_).mono ?_
         · exact ow.h.rds
         · exact ow.y.rds
         rintro e w2 ⟨A2, c2, B2, f2, rfl, hRh, hRy, hb⟩
         have hRh := hRh.mono (S' := (w0.heap.size ≤ ·)) (fun b h => h.elim id (fun h => Nat.le_trans hs1 h))
         have hRy := hRy.mono (S' := (w0.heap.size ≤ ·)) (fun b h => h.elim id (fun h => Nat.le_trans hs1 h))
         repeat (have hb := below_undrew3 hb)
         have zb := zb.below hb zb.lt
         have hB := hB.trans (hb.mono hB.size)
         have ⟨j0, j1, j2, j3⟩ := zb.c4
         have zf := zb.frz
         have l3 := zb.lt))
    all_goals
      go_wp2_with fail
      go_meet
      refine ⟨rfl, A2, c2, B2, f2, ?_, ?_, ?_, ?_⟩
      · exact Blk.set_ (Blk.set_ (Blk.set_ (Blk.set_ zb 0 _) 1 _) 2 _) 3 _
      · exact (hRh.set4 (g := w.heap.size + 2) (by omega) _ _ _ _).mono (fun b h => by omega)
      · exact (hRy.set4 (g := w.heap.size + 2) (by omega) _ _ _ _).mono (fun b h => by omega)
      · iterate 4 refine Below.setCell ?_ (by show w.heap.size ≤ w.heap.size + 2; omega) _
        exact hB
  case rest =>
    obtain ⟨rfl, A2, c2, B2, f2, zb, hRh, hRy, hB⟩ := hcut
    have ⟨j0, j1, j2, j3⟩ := zb.c4
    go_wp2
    refine bodyPost_ret (v := .tuple #[.int .i64 rv.1, msgV rv.2.st rv.2.path A2 rv.2.l.length c2 B2 rv.2.bd.length f2]) (by simp only [results, Tryd.results36]; go_simp) rfl ⟨A2, c2, B2, f2, rfl, hRh, hRy, hB⟩
set_option maxRecDepth 100000 in
set_option maxHeartbeats 4000000 in
theorem ans_7_7 (n : Int) (key text : ByteArray) (_ : key.size ≤ 140737488355328) (_ : text.size ≤ 140737488355328) (m : Mg) (A AB : Option Addr) (c cb : Nat) (gate : Int) (w : World) (hr : Rd 2 encHd w w.heap.size A m.l) (hy : Rd 1 encY w w.heap.size AB m.bd) (hn : m.l.length * 32 + 32 ≤ 140737488355328) (hm : m.bd.length ≤ 140737488355328) (hb7 : bits .and .i64 n 7 = 7) :
    Calls Tryd.prog 36 #[sivV 7 n key text, msgV m.st m.path A m.l.length c AB m.bd.length cb, .int .i64 gate] w (PairOut w (w.heap.size ≤ ·) (0, m)) := by
  obtain ⟨rv, hrv⟩ : ∃ v, v = ((0, m) : Int × Mg) := ⟨_, rfl⟩
  have HM := fun A1 B1 c1 d1 S W h1 h2 => answers_any m A1 B1 c1 d1 S W h1 h2 gate
  rw [← hrv]
  rw [← hrv] at HM
  have HM := Lib.hid HM
  clear hrv
  have a1 := as163_95
  have hna : ∀ w, (nilAhead 344 163 (.agg #[]) "Answer").run Tryd.prog w = .ok (some false) w := fun w => by kernel_rfl
  have hme : ∀ w, (method 344 163 (.agg #[]) "Answer").run Tryd.prog w = .ok (171, .agg #[]) w := fun w => by kernel_rfl
  obtain ⟨w0, hw0⟩ : ∃ W, W = (((w.alloc (.cells (sivC 7 n key text) 38)).alloc (.cells (msgC m.st m.path A m.l.length c AB m.bd.length cb) 32)).alloc (.cells zerC 32)).alloc (.cells (sivC 7 n key text) 38) := ⟨_, rfl⟩
  have mb : Blk w0 (w.heap.size + 1) 32 (msgC m.st m.path A m.l.length c AB m.bd.length cb) := by rw [hw0]; exact ((Blk.new' _ _ (by simp) _ _).alloc _).alloc _
  have zb : Blk w0 (w.heap.size + 2) 32 zerC := by rw [hw0]; exact (Blk.new' _ _ (by simp) _ _).alloc _
  have hB : Below w.heap.size w w0 := by rw [hw0]; exact ((((Below.refl _ w).alloc (Nat.le_refl _) _).alloc (by simp) _).alloc (by simp; omega) _).alloc (by simp; omega) _
  have hr0 := hr.up hB
  have hy0 := hy.up hB
  have zl0 := zb.lt
  go_enter Tryd.func36, Tryd.ntmps36
  go_upto_region 3 with (go_at_call 62; refine (make_7_7 n key text hb7 _).mono ?_; rintro e w1 ⟨rfl, rfl⟩)
  rw [← hw0]
  clear hw0
  go_cut [6] (fun d wx => d = .int .i64 rv.1 ∧ ∃ A2 c2 B2 f2, Blk wx (w.heap.size + 2) 32 (msgC rv.2.st rv.2.path A2 rv.2.l.length c2 B2 rv.2.bd.length f2) ∧ RdS 2 encHd wx (w.heap.size ≤ ·) A2 rv.2.l ∧ RdS 1 encY wx (w.heap.size ≤ ·) B2 rv.2.bd ∧ Below w.heap.size w wx)
  case first =>
    have ⟨k0, k1, k2, k3⟩ := mb.c4
    have ml := mb.lt
    have hna := hna
    go_region_law (first
      | (go_simp
         with_reducible refine (own_any m.st m.path A m.l c AB m.bd cb _ ?_ ?_ ?_ ?_).mono ?_
         · exact hr0
         · exact hy0
         · omega
         · exact hm
         rintro e w1 ⟨A', c', B', d', rfl, ow, hb⟩
         have ow := ow.more (show w0.heap.size ≤ _ from Nat.le_refl _)
         repeat (have hb := below_undrew3 hb)
         have hs1 := hb.size
         have zb := zb.below hb zb.lt
         have hB := hB.trans (hb.mono hB.size))
      | (go_simp
         with_reducible refine (HM.out A' B' c' d' (w0.heap.size ≤ ·) _ ?_ ?_).mono ?_
         · exact ow.h.rds
         · exact ow.y.rds
         rintro e w2 ⟨A2, c2, B2, f2, rfl, hRh, hRy, hb⟩
         have hRh := hRh.mono (S' := (w0.heap.size ≤ ·)) (fun b h => h.elim id (fun h => Nat.le_trans hs1 h))
         have hRy := hRy.mono (S' := (w0.heap.size ≤ ·)) (fun b h => h.elim id (fun h => Nat.le_trans hs1 h))
         repeat (have hb := below_undrew3 hb)
         have zb := zb.below hb zb.lt
         have hB := hB.trans (hb.mono hB.size)
         have ⟨j0, j1, j2, j3⟩ := zb.c4
         have zf := zb.frz
         have l3 := zb.lt))
    all_goals
      go_wp2_with fail
      go_meet
      refine ⟨rfl, A2, c2, B2, f2, ?_, ?_, ?_, ?_⟩
      · exact Blk.set_ (Blk.set_ (Blk.set_ (Blk.set_ zb 0 _) 1 _) 2 _) 3 _
      · exact (hRh.set4 (g := w.heap.size + 2) (by omega) _ _ _ _).mono (fun b h => by omega)
      · exact (hRy.set4 (g := w.heap.size + 2) (by omega) _ _ _ _).mono (fun b h => by omega)
      · iterate 4 refine Below.setCell ?_ (by show w.heap.size ≤ w.heap.size + 2; omega) _
        exact hB
  case rest =>
    obtain ⟨rfl, A2, c2, B2, f2, zb, hRh, hRy, hB⟩ := hcut
    have ⟨j0, j1, j2, j3⟩ := zb.c4
    go_wp2
    refine bodyPost_ret (v := .tuple #[.int .i64 rv.1, msgV rv.2.st rv.2.path A2 rv.2.l.length c2 B2 rv.2.bd.length f2]) (by simp only [results, Tryd.results36]; go_simp) rfl ⟨A2, c2, B2, f2, rfl, hRh, hRy, hB⟩
set_option maxRecDepth 100000 in
set_option maxHeartbeats 4000000 in
theorem ans_1 (n : Int) (key text : ByteArray) (m : Mg) (A AB : Option Addr) (c cb : Nat) (gate : Int) (w : World) (hr : Rd 2 encHd w w.heap.size A m.l) (hy : Rd 1 encY w w.heap.size AB m.bd) (hn : m.l.length * 32 + 32 ≤ 140737488355328) (hm : m.bd.length ≤ 140737488355328) :
    Calls Tryd.prog 36 #[sivV 1 n key text, msgV m.st m.path A m.l.length c AB m.bd.length cb, .int .i64 gate] w (PairOut w (w.heap.size ≤ ·) (0, m)) := by
  obtain ⟨rv, hrv⟩ : ∃ v, v = ((0, m) : Int × Mg) := ⟨_, rfl⟩
  rw [← hrv]
  have HV := Lib.hid hrv
  clear hrv
  have a1 := as125_95
  obtain ⟨w0, hw0⟩ : ∃ W, W = (((w.alloc (.cells (sivC 1 n key text) 38)).alloc (.cells (msgC m.st m.path A m.l.length c AB m.bd.length cb) 32)).alloc (.cells zerC 32)).alloc (.cells (sivC 1 n key text) 38) := ⟨_, rfl⟩
  have mb : Blk w0 (w.heap.size + 1) 32 (msgC m.st m.path A m.l.length c AB m.bd.length cb) := by rw [hw0]; exact ((Blk.new' _ _ (by simp) _ _).alloc _).alloc _
  have zb : Blk w0 (w.heap.size + 2) 32 zerC := by rw [hw0]; exact (Blk.new' _ _ (by simp) _ _).alloc _
  have hB : Below w.heap.size w w0 := by rw [hw0]; exact ((((Below.refl _ w).alloc (Nat.le_refl _) _).alloc (by simp) _).alloc (by simp; omega) _).alloc (by simp; omega) _
  have hr0 := hr.up hB
  have hy0 := hy.up hB
  have zl0 := zb.lt
  have hC := own_any m.st m.path A m.l c AB m.bd cb w0 hr0 hy0 (by omega) hm
  have ⟨k0, k1, k2, k3⟩ := mb.c4
  have ml := mb.lt
  go_enter Tryd.func36, Tryd.ntmps36
  go_wp2_with (first | (go_at_call 62; refine (make_1 n key text _).mono ?_; rintro e w1 ⟨rfl, rfl⟩) | (go_at_call 46; refine Hid.out ?_))
  rw [← hw0]
  clear hw0
  unfold Hid
  refine hC.mono ?_
  rintro e w1 ⟨A', c', B', d', rfl, ow, hb⟩
  clear hC k0 k1 k2 k3 ml hr0 hy0
  have zb := zb.below hb zl0
  have hB := hB.trans (hb.mono hB.size)
  have ⟨j0, j1, j2, j3⟩ := zb.c4
  have zf := zb.frz
  have l3 := zb.lt
  go_wp2
  have hRh := (ow.h.rds.set4 (g := w.heap.size + 2) (by omega) (.int .i64 m.st) (.string m.path) (.slice A' m.l.length c') (.slice B' m.bd.length d')).mono (S' := (w.heap.size ≤ ·)) (fun b h => by omega)
  have hRy := (ow.y.rds.set4 (g := w.heap.size + 2) (by omega) (.int .i64 m.st) (.string m.path) (.slice A' m.l.length c') (.slice B' m.bd.length d')).mono (S' := (w.heap.size ≤ ·)) (fun b h => by omega)
  refine bodyPost_ret (v := .tuple #[.int .i64 0, msgV m.st m.path A' m.l.length c' B' m.bd.length d']) (by simp only [results, Tryd.results36]; go_simp) rfl ?_
  rw [HV.out]
  refine pairOut rfl rfl rfl rfl rfl rfl hRh hRy ?_
  iterate 4 refine Below.setCell ?_ (by show w.heap.size ≤ w.heap.size + 2; omega) _
  exact hB
set_option maxRecDepth 100000 in
set_option maxHeartbeats 4000000 in
theorem ans_3 (n : Int) (key text : ByteArray) (m : Mg) (A AB : Option Addr) (c cb : Nat) (gate : Int) (w : World) (hr : Rd 2 encHd w w.heap.size A m.l) (hy : Rd 1 encY w w.heap.size AB m.bd) (hn : m.l.length * 32 + 32 ≤ 140737488355328) (hm : m.bd.length ≤ 140737488355328) :
    Calls Tryd.prog 36 #[sivV 3 n key text, msgV m.st m.path A m.l.length c AB m.bd.length cb, .int .i64 gate] w (PairOut w (w.heap.size ≤ ·) (0, m)) := by
  obtain ⟨rv, hrv⟩ : ∃ v, v = ((0, m) : Int × Mg) := ⟨_, rfl⟩
  rw [← hrv]
  have HV := Lib.hid hrv
  clear hrv
  have a1 := as127_95
  obtain ⟨w0, hw0⟩ : ∃ W, W = (((w.alloc (.cells (sivC 3 n key text) 38)).alloc (.cells (msgC m.st m.path A m.l.length c AB m.bd.length cb) 32)).alloc (.cells zerC 32)).alloc (.cells (sivC 3 n key text) 38) := ⟨_, rfl⟩
  have mb : Blk w0 (w.heap.size + 1) 32 (msgC m.st m.path A m.l.length c AB m.bd.length cb) := by rw [hw0]; exact ((Blk.new' _ _ (by simp) _ _).alloc _).alloc _
  have zb : Blk w0 (w.heap.size + 2) 32 zerC := by rw [hw0]; exact (Blk.new' _ _ (by simp) _ _).alloc _
  have hB : Below w.heap.size w w0 := by rw [hw0]; exact ((((Below.refl _ w).alloc (Nat.le_refl _) _).alloc (by simp) _).alloc (by simp; omega) _).alloc (by simp; omega) _
  have hr0 := hr.up hB
  have hy0 := hy.up hB
  have zl0 := zb.lt
  have hC := own_any m.st m.path A m.l c AB m.bd cb w0 hr0 hy0 (by omega) hm
  have ⟨k0, k1, k2, k3⟩ := mb.c4
  have ml := mb.lt
  go_enter Tryd.func36, Tryd.ntmps36
  go_wp2_with (first | (go_at_call 62; refine (make_3 n key text _).mono ?_; rintro e w1 ⟨rfl, rfl⟩) | (go_at_call 46; refine Hid.out ?_))
  rw [← hw0]
  clear hw0
  unfold Hid
  refine hC.mono ?_
  rintro e w1 ⟨A', c', B', d', rfl, ow, hb⟩
  clear hC k0 k1 k2 k3 ml hr0 hy0
  have zb := zb.below hb zl0
  have hB := hB.trans (hb.mono hB.size)
  have ⟨j0, j1, j2, j3⟩ := zb.c4
  have zf := zb.frz
  have l3 := zb.lt
  go_wp2
  have hRh := (ow.h.rds.set4 (g := w.heap.size + 2) (by omega) (.int .i64 m.st) (.string m.path) (.slice A' m.l.length c') (.slice B' m.bd.length d')).mono (S' := (w.heap.size ≤ ·)) (fun b h => by omega)
  have hRy := (ow.y.rds.set4 (g := w.heap.size + 2) (by omega) (.int .i64 m.st) (.string m.path) (.slice A' m.l.length c') (.slice B' m.bd.length d')).mono (S' := (w.heap.size ≤ ·)) (fun b h => by omega)
  refine bodyPost_ret (v := .tuple #[.int .i64 0, msgV m.st m.path A' m.l.length c' B' m.bd.length d']) (by simp only [results, Tryd.results36]; go_simp) rfl ?_
  rw [HV.out]
  refine pairOut rfl rfl rfl rfl rfl rfl hRh hRy ?_
  iterate 4 refine Below.setCell ?_ (by show w.heap.size ≤ w.heap.size + 2; omega) _
  exact hB
set_option maxRecDepth 100000 in
set_option maxHeartbeats 4000000 in
theorem ans_4 (n : Int) (key text : ByteArray) (m : Mg) (A AB : Option Addr) (c cb : Nat) (gate : Int) (w : World) (hr : Rd 2 encHd w w.heap.size A m.l) (hy : Rd 1 encY w w.heap.size AB m.bd) (hn : m.l.length * 32 + 32 ≤ 140737488355328) (hm : m.bd.length ≤ 140737488355328) :
    Calls Tryd.prog 36 #[sivV 4 n key text, msgV m.st m.path A m.l.length c AB m.bd.length cb, .int .i64 gate] w (PairOut w (w.heap.size ≤ ·) (0, m)) := by
  obtain ⟨rv, hrv⟩ : ∃ v, v = ((0, m) : Int × Mg) := ⟨_, rfl⟩
  rw [← hrv]
  have HV := Lib.hid hrv
  clear hrv
  have a1 := as129_95
  obtain ⟨w0, hw0⟩ : ∃ W, W = (((w.alloc (.cells (sivC 4 n key text) 38)).alloc (.cells (msgC m.st m.path A m.l.length c AB m.bd.length cb) 32)).alloc (.cells zerC 32)).alloc (.cells (sivC 4 n key text) 38) := ⟨_, rfl⟩
  have mb : Blk w0 (w.heap.size + 1) 32 (msgC m.st m.path A m.l.length c AB m.bd.length cb) := by rw [hw0]; exact ((Blk.new' _ _ (by simp) _ _).alloc _).alloc _
  have zb : Blk w0 (w.heap.size + 2) 32 zerC := by rw [hw0]; exact (Blk.new' _ _ (by simp) _ _).alloc _
  have hB : Below w.heap.size w w0 := by rw [hw0]; exact ((((Below.refl _ w).alloc (Nat.le_refl _) _).alloc (by simp) _).alloc (by simp; omega) _).alloc (by simp; omega) _
  have hr0 := hr.up hB
  have hy0 := hy.up hB
  have zl0 := zb.lt
  have hC := own_any m.st m.path A m.l c AB m.bd cb w0 hr0 hy0 (by omega) hm
  have ⟨k0, k1, k2, k3⟩ := mb.c4
  have ml := mb.lt
  go_enter Tryd.func36, Tryd.ntmps36
  go_wp2_with (first | (go_at_call 62; refine (make_4 n key text _).mono ?_; rintro e w1 ⟨rfl, rfl⟩) | (go_at_call 46; refine Hid.out ?_))
  rw [← hw0]
  clear hw0
  unfold Hid
  refine hC.mono ?_
  rintro e w1 ⟨A', c', B', d', rfl, ow, hb⟩
  clear hC k0 k1 k2 k3 ml hr0 hy0
  have zb := zb.below hb zl0
  have hB := hB.trans (hb.mono hB.size)
  have ⟨j0, j1, j2, j3⟩ := zb.c4
  have zf := zb.frz
  have l3 := zb.lt
  go_wp2
  have hRh := (ow.h.rds.set4 (g := w.heap.size + 2) (by omega) (.int .i64 m.st) (.string m.path) (.slice A' m.l.length c') (.slice B' m.bd.length d')).mono (S' := (w.heap.size ≤ ·)) (fun b h => by omega)
  have hRy := (ow.y.rds.set4 (g := w.heap.size + 2) (by omega) (.int .i64 m.st) (.string m.path) (.slice A' m.l.length c') (.slice B' m.bd.length d')).mono (S' := (w.heap.size ≤ ·)) (fun b h => by omega)
  refine bodyPost_ret (v := .tuple #[.int .i64 0, msgV m.st m.path A' m.l.length c' B' m.bd.length d']) (by simp only [results, Tryd.results36]; go_simp) rfl ?_
  rw [HV.out]
  refine pairOut rfl rfl rfl rfl rfl rfl hRh hRy ?_
  iterate 4 refine Below.setCell ?_ (by show w.heap.size ≤ w.heap.size + 2; omega) _
  exact hB
set_option maxRecDepth 100000 in
set_option maxHeartbeats 4000000 in
theorem ans_5 (n : Int) (key text : ByteArray) (m : Mg) (A AB : Option Addr) (c cb : Nat) (gate : Int) (w : World) (hr : Rd 2 encHd w w.heap.size A m.l) (hy : Rd 1 encY w w.heap.size AB m.bd) (hn : m.l.length * 32 + 32 ≤ 140737488355328) (hm : m.bd.length ≤ 140737488355328) :
    Calls Tryd.prog 36 #[sivV 5 n key text, msgV m.st m.path A m.l.length c AB m.bd.length cb, .int .i64 gate] w (PairOut w (w.heap.size ≤ ·) (0, m)) := by
  obtain ⟨rv, hrv⟩ : ∃ v, v = ((0, m) : Int × Mg) := ⟨_, rfl⟩
  rw [← hrv]
  have HV := Lib.hid hrv
  clear hrv
  have a1 := as130_95
  obtain ⟨w0, hw0⟩ : ∃ W, W = (((w.alloc (.cells (sivC 5 n key text) 38)).alloc (.cells (msgC m.st m.path A m.l.length c AB m.bd.length cb) 32)).alloc (.cells zerC 32)).alloc (.cells (sivC 5 n key text) 38) := ⟨_, rfl⟩
  have mb : Blk w0 (w.heap.size + 1) 32 (msgC m.st m.path A m.l.length c AB m.bd.length cb) := by rw [hw0]; exact ((Blk.new' _ _ (by simp) _ _).alloc _).alloc _
  have zb : Blk w0 (w.heap.size + 2) 32 zerC := by rw [hw0]; exact (Blk.new' _ _ (by simp) _ _).alloc _
  have hB : Below w.heap.size w w0 := by rw [hw0]; exact ((((Below.refl _ w).alloc (Nat.le_refl _) _).alloc (by simp) _).alloc (by simp; omega) _).alloc (by simp; omega) _
  have hr0 := hr.up hB
  have hy0 := hy.up hB
  have zl0 := zb.lt
  have hC := own_any m.st m.path A m.l c AB m.bd cb w0 hr0 hy0 (by omega) hm
  have ⟨k0, k1, k2, k3⟩ := mb.c4
  have ml := mb.lt
  go_enter Tryd.func36, Tryd.ntmps36
  go_wp2_with (first | (go_at_call 62; refine (make_5 n key text _).mono ?_; rintro e w1 ⟨rfl, rfl⟩) | (go_at_call 46; refine Hid.out ?_))
  rw [← hw0]
  clear hw0
  unfold Hid
  refine hC.mono ?_
  rintro e w1 ⟨A', c', B', d', rfl, ow, hb⟩
  clear hC k0 k1 k2 k3 ml hr0 hy0
  have zb := zb.below hb zl0
  have hB := hB.trans (hb.mono hB.size)
  have ⟨j0, j1, j2, j3⟩ := zb.c4
  have zf := zb.frz
  have l3 := zb.lt
  go_wp2
  have hRh := (ow.h.rds.set4 (g := w.heap.size + 2) (by omega) (.int .i64 m.st) (.string m.path) (.slice A' m.l.length c') (.slice B' m.bd.length d')).mono (S' := (w.heap.size ≤ ·)) (fun b h => by omega)
  have hRy := (ow.y.rds.set4 (g := w.heap.size + 2) (by omega) (.int .i64 m.st) (.string m.path) (.slice A' m.l.length c') (.slice B' m.bd.length d')).mono (S' := (w.heap.size ≤ ·)) (fun b h => by omega)
  refine bodyPost_ret (v := .tuple #[.int .i64 0, msgV m.st m.path A' m.l.length c' B' m.bd.length d']) (by simp only [results, Tryd.results36]; go_simp) rfl ?_
  rw [HV.out]
  refine pairOut rfl rfl rfl rfl rfl rfl hRh hRy ?_
  iterate 4 refine Below.setCell ?_ (by show w.heap.size ≤ w.heap.size + 2; omega) _
  exact hB
set_option maxRecDepth 100000 in
set_option maxHeartbeats 4000000 in
theorem ans_7_0 (n : Int) (key text : ByteArray) (m : Mg) (A AB : Option Addr) (c cb : Nat) (gate : Int) (w : World) (hr : Rd 2 encHd w w.heap.size A m.l) (hy : Rd 1 encY w w.heap.size AB m.bd) (hn : m.l.length * 32 + 32 ≤ 140737488355328) (hm : m.bd.length ≤ 140737488355328) (hb7 : bits .and .i64 n 7 = 0) :
    Calls Tryd.prog 36 #[sivV 7 n key text, msgV m.st m.path A m.l.length c AB m.bd.length cb, .int .i64 gate] w (PairOut w (w.heap.size ≤ ·) (0, m)) := by
  obtain ⟨rv, hrv⟩ : ∃ v, v = ((0, m) : Int × Mg) := ⟨_, rfl⟩
  rw [← hrv]
  have HV := Lib.hid hrv
  clear hrv
  have a1 := as156_95
  obtain ⟨w0, hw0⟩ : ∃ W, W = (((w.alloc (.cells (sivC 7 n key text) 38)).alloc (.cells (msgC m.st m.path A m.l.length c AB m.bd.length cb) 32)).alloc (.cells zerC 32)).alloc (.cells (sivC 7 n key text) 38) := ⟨_, rfl⟩
  have mb : Blk w0 (w.heap.size + 1) 32 (msgC m.st m.path A m.l.length c AB m.bd.length cb) := by rw [hw0]; exact ((Blk.new' _ _ (by simp) _ _).alloc _).alloc _
  have zb : Blk w0 (w.heap.size + 2) 32 zerC := by rw [hw0]; exact (Blk.new' _ _ (by simp) _ _).alloc _
  have hB : Below w.heap.size w w0 := by rw [hw0]; exact ((((Below.refl _ w).alloc (Nat.le_refl _) _).alloc (by simp) _).alloc (by simp; omega) _).alloc (by simp; omega) _
  have hr0 := hr.up hB
  have hy0 := hy.up hB
  have zl0 := zb.lt
  have hC := own_any m.st m.path A m.l c AB m.bd cb w0 hr0 hy0 (by omega) hm
  have ⟨k0, k1, k2, k3⟩ := mb.c4
  have ml := mb.lt
  go_enter Tryd.func36, Tryd.ntmps36
  go_wp2_with (first | (go_at_call 62; refine (make_7_0 n key text hb7 _).mono ?_; rintro e w1 ⟨rfl, rfl⟩) | (go_at_call 46; refine Hid.out ?_))
  rw [← hw0]
  clear hw0
  unfold Hid
  refine hC.mono ?_
  rintro e w1 ⟨A', c', B', d', rfl, ow, hb⟩
  clear hC k0 k1 k2 k3 ml hr0 hy0
  have zb := zb.below hb zl0
  have hB := hB.trans (hb.mono hB.size)
  have ⟨j0, j1, j2, j3⟩ := zb.c4
  have zf := zb.frz
  have l3 := zb.lt
  go_wp2
  have hRh := (ow.h.rds.set4 (g := w.heap.size + 2) (by omega) (.int .i64 m.st) (.string m.path) (.slice A' m.l.length c') (.slice B' m.bd.length d')).mono (S' := (w.heap.size ≤ ·)) (fun b h => by omega)
  have hRy := (ow.y.rds.set4 (g := w.heap.size + 2) (by omega) (.int .i64 m.st) (.string m.path) (.slice A' m.l.length c') (.slice B' m.bd.length d')).mono (S' := (w.heap.size ≤ ·)) (fun b h => by omega)
  refine bodyPost_ret (v := .tuple #[.int .i64 0, msgV m.st m.path A' m.l.length c' B' m.bd.length d']) (by simp only [results, Tryd.results36]; go_simp) rfl ?_
  rw [HV.out]
  refine pairOut rfl rfl rfl rfl rfl rfl hRh hRy ?_
  iterate 4 refine Below.setCell ?_ (by show w.heap.size ≤ w.heap.size + 2; omega) _
  exact hB
set_option maxRecDepth 100000 in
set_option maxHeartbeats 4000000 in
theorem ans_7_1 (n : Int) (key text : ByteArray) (m : Mg) (A AB : Option Addr) (c cb : Nat) (gate : Int) (w : World) (hr : Rd 2 encHd w w.heap.size A m.l) (hy : Rd 1 encY w w.heap.size AB m.bd) (hn : m.l.length * 32 + 32 ≤ 140737488355328) (hm : m.bd.length ≤ 140737488355328) (hb7 : bits .and .i64 n 7 = 1) :
    Calls Tryd.prog 36 #[sivV 7 n key text, msgV m.st m.path A m.l.length c AB m.bd.length cb, .int .i64 gate] w (PairOut w (w.heap.size ≤ ·) (0, m)) := by
  obtain ⟨rv, hrv⟩ : ∃ v, v = ((0, m) : Int × Mg) := ⟨_, rfl⟩
  rw [← hrv]
  have HV := Lib.hid hrv
  clear hrv
  have a1 := as157_95
  obtain ⟨w0, hw0⟩ : ∃ W, W = (((w.alloc (.cells (sivC 7 n key text) 38)).alloc (.cells (msgC m.st m.path A m.l.length c AB m.bd.length cb) 32)).alloc (.cells zerC 32)).alloc (.cells (sivC 7 n key text) 38) := ⟨_, rfl⟩
  have mb : Blk w0 (w.heap.size + 1) 32 (msgC m.st m.path A m.l.length c AB m.bd.length cb) := by rw [hw0]; exact ((Blk.new' _ _ (by simp) _ _).alloc _).alloc _
  have zb : Blk w0 (w.heap.size + 2) 32 zerC := by rw [hw0]; exact (Blk.new' _ _ (by simp) _ _).alloc _
  have hB : Below w.heap.size w w0 := by rw [hw0]; exact ((((Below.refl _ w).alloc (Nat.le_refl _) _).alloc (by simp) _).alloc (by simp; omega) _).alloc (by simp; omega) _
  have hr0 := hr.up hB
  have hy0 := hy.up hB
  have zl0 := zb.lt
  have hC := own_any m.st m.path A m.l c AB m.bd cb w0 hr0 hy0 (by omega) hm
  have ⟨k0, k1, k2, k3⟩ := mb.c4
  have ml := mb.lt
  go_enter Tryd.func36, Tryd.ntmps36
  go_wp2_with (first | (go_at_call 62; refine (make_7_1 n key text hb7 _).mono ?_; rintro e w1 ⟨rfl, rfl⟩) | (go_at_call 46; refine Hid.out ?_))
  rw [← hw0]
  clear hw0
  unfold Hid
  refine hC.mono ?_
  rintro e w1 ⟨A', c', B', d', rfl, ow, hb⟩
  clear hC k0 k1 k2 k3 ml hr0 hy0
  have zb := zb.below hb zl0
  have hB := hB.trans (hb.mono hB.size)
  have ⟨j0, j1, j2, j3⟩ := zb.c4
  have zf := zb.frz
  have l3 := zb.lt
  go_wp2
  have hRh := (ow.h.rds.set4 (g := w.heap.size + 2) (by omega) (.int .i64 m.st) (.string m.path) (.slice A' m.l.length c') (.slice B' m.bd.length d')).mono (S' := (w.heap.size ≤ ·)) (fun b h => by omega)
  have hRy := (ow.y.rds.set4 (g := w.heap.size + 2) (by omega) (.int .i64 m.st) (.string m.path) (.slice A' m.l.length c') (.slice B' m.bd.length d')).mono (S' := (w.heap.size ≤ ·)) (fun b h => by omega)
  refine bodyPost_ret (v := .tuple #[.int .i64 0, msgV m.st m.path A' m.l.length c' B' m.bd.length d']) (by simp only [results, Tryd.results36]; go_simp) rfl ?_
  rw [HV.out]
  refine pairOut rfl rfl rfl rfl rfl rfl hRh hRy ?_
  iterate 4 refine Below.setCell ?_ (by show w.heap.size ≤ w.heap.size + 2; omega) _
  exact hB
set_option maxRecDepth 100000 in
set_option maxHeartbeats 4000000 in
theorem ans_7_4 (n : Int) (key text : ByteArray) (m : Mg) (A AB : Option Addr) (c cb : Nat) (gate : Int) (w : World) (hr : Rd 2 encHd w w.heap.size A m.l) (hy : Rd 1 encY w w.heap.size AB m.bd) (hn : m.l.length * 32 + 32 ≤ 140737488355328) (hm : m.bd.length ≤ 140737488355328) (hb7 : bits .and .i64 n 7 = 4) :
    Calls Tryd.prog 36 #[sivV 7 n key text, msgV m.st m.path A m.l.length c AB m.bd.length cb, .int .i64 gate] w (PairOut w (w.heap.size ≤ ·) (0, m)) := by
  obtain ⟨rv, hrv⟩ : ∃ v, v = ((0, m) : Int × Mg) := ⟨_, rfl⟩
  rw [← hrv]
  have HV := Lib.hid hrv
  clear hrv
  have a1 := as159_95
  obtain ⟨w0, hw0⟩ : ∃ W, W = (((w.alloc (.cells (sivC 7 n key text) 38)).alloc (.cells (msgC m.st m.path A m.l.length c AB m.bd.length cb) 32)).alloc (.cells zerC 32)).alloc (.cells (sivC 7 n key text) 38) := ⟨_, rfl⟩
  have mb : Blk w0 (w.heap.size + 1) 32 (msgC m.st m.path A m.l.length c AB m.bd.length cb) := by rw [hw0]; exact ((Blk.new' _ _ (by simp) _ _).alloc _).alloc _
  have zb : Blk w0 (w.heap.size + 2) 32 zerC := by rw [hw0]; exact (Blk.new' _ _ (by simp) _ _).alloc _
  have hB : Below w.heap.size w w0 := by rw [hw0]; exact ((((Below.refl _ w).alloc (Nat.le_refl _) _).alloc (by simp) _).alloc (by simp; omega) _).alloc (by simp; omega) _
  have hr0 := hr.up hB
  have hy0 := hy.up hB
  have zl0 := zb.lt
  have hC := own_any m.st m.path A m.l c AB m.bd cb w0 hr0 hy0 (by omega) hm
  have ⟨k0, k1, k2, k3⟩ := mb.c4
  have ml := mb.lt
  go_enter Tryd.func36, Tryd.ntmps36
  go_wp2_with (first | (go_at_call 62; refine (make_7_4 n key text hb7 _).mono ?_; rintro e w1 ⟨rfl, rfl⟩) | (go_at_call 46; refine Hid.out ?_))
  rw [← hw0]
  clear hw0
  unfold Hid
  refine hC.mono ?_
  rintro e w1 ⟨A', c', B', d', rfl, ow, hb⟩
  clear hC k0 k1 k2 k3 ml hr0 hy0
  have zb := zb.below hb zl0
  have hB := hB.trans (hb.mono hB.size)
  have ⟨j0, j1, j2, j3⟩ := zb.c4
  have zf := zb.frz
  have l3 := zb.lt
  go_wp2
  have hRh := (ow.h.rds.set4 (g := w.heap.size + 2) (by omega) (.int .i64 m.st) (.string m.path) (.slice A' m.l.length c') (.slice B' m.bd.length d')).mono (S' := (w.heap.size ≤ ·)) (fun b h => by omega)
  have hRy := (ow.y.rds.set4 (g := w.heap.size + 2) (by omega) (.int .i64 m.st) (.string m.path) (.slice A' m.l.length c') (.slice B' m.bd.length d')).mono (S' := (w.heap.size ≤ ·)) (fun b h => by omega)
  refine bodyPost_ret (v := .tuple #[.int .i64 0, msgV m.st m.path A' m.l.length c' B' m.bd.length d']) (by simp only [results, Tryd.results36]; go_simp) rfl ?_
  rw [HV.out]
  refine pairOut rfl rfl rfl rfl rfl rfl hRh hRy ?_
  iterate 4 refine Below.setCell ?_ (by show w.heap.size ≤ w.heap.size + 2; omega) _
  exact hB
set_option maxRecDepth 100000 in
set_option maxHeartbeats 4000000 in
theorem ans_7_5 (n : Int) (key text : ByteArray) (m : Mg) (A AB : Option Addr) (c cb : Nat) (gate : Int) (w : World) (hr : Rd 2 encHd w w.heap.size A m.l) (hy : Rd 1 encY w w.heap.size AB m.bd) (hn : m.l.length * 32 + 32 ≤ 140737488355328) (hm : m.bd.length ≤ 140737488355328) (hb7 : bits .and .i64 n 7 = 5) :
    Calls Tryd.prog 36 #[sivV 7 n key text, msgV m.st m.path A m.l.length c AB m.bd.length cb, .int .i64 gate] w (PairOut w (w.heap.size ≤ ·) (0, m)) := by
  obtain ⟨rv, hrv⟩ : ∃ v, v = ((0, m) : Int × Mg) := ⟨_, rfl⟩
  rw [← hrv]
  have HV := Lib.hid hrv
  clear hrv
  have a1 := as161_95
  obtain ⟨w0, hw0⟩ : ∃ W, W = (((w.alloc (.cells (sivC 7 n key text) 38)).alloc (.cells (msgC m.st m.path A m.l.length c AB m.bd.length cb) 32)).alloc (.cells zerC 32)).alloc (.cells (sivC 7 n key text) 38) := ⟨_, rfl⟩
  have mb : Blk w0 (w.heap.size + 1) 32 (msgC m.st m.path A m.l.length c AB m.bd.length cb) := by rw [hw0]; exact ((Blk.new' _ _ (by simp) _ _).alloc _).alloc _
  have zb : Blk w0 (w.heap.size + 2) 32 zerC := by rw [hw0]; exact (Blk.new' _ _ (by simp) _ _).alloc _
  have hB : Below w.heap.size w w0 := by rw [hw0]; exact ((((Below.refl _ w).alloc (Nat.le_refl _) _).alloc (by simp) _).alloc (by simp; omega) _).alloc (by simp; omega) _
  have hr0 := hr.up hB
  have hy0 := hy.up hB
  have zl0 := zb.lt
  have hC := own_any m.st m.path A m.l c AB m.bd cb w0 hr0 hy0 (by omega) hm
  have ⟨k0, k1, k2, k3⟩ := mb.c4
  have ml := mb.lt
  go_enter Tryd.func36, Tryd.ntmps36
  go_wp2_with (first | (go_at_call 62; refine (make_7_5 n key text hb7 _).mono ?_; rintro e w1 ⟨rfl, rfl⟩) | (go_at_call 46; refine Hid.out ?_))
  rw [← hw0]
  clear hw0
  unfold Hid
  refine hC.mono ?_
  rintro e w1 ⟨A', c', B', d', rfl, ow, hb⟩
  clear hC k0 k1 k2 k3 ml hr0 hy0
  have zb := zb.below hb zl0
  have hB := hB.trans (hb.mono hB.size)
  have ⟨j0, j1, j2, j3⟩ := zb.c4
  have zf := zb.frz
  have l3 := zb.lt
  go_wp2
  have hRh := (ow.h.rds.set4 (g := w.heap.size + 2) (by omega) (.int .i64 m.st) (.string m.path) (.slice A' m.l.length c') (.slice B' m.bd.length d')).mono (S' := (w.heap.size ≤ ·)) (fun b h => by omega)
  have hRy := (ow.y.rds.set4 (g := w.heap.size + 2) (by omega) (.int .i64 m.st) (.string m.path) (.slice A' m.l.length c') (.slice B' m.bd.length d')).mono (S' := (w.heap.size ≤ ·)) (fun b h => by omega)
  refine bodyPost_ret (v := .tuple #[.int .i64 0, msgV m.st m.path A' m.l.length c' B' m.bd.length d']) (by simp only [results, Tryd.results36]; go_simp) rfl ?_
  rw [HV.out]
  refine pairOut rfl rfl rfl rfl rfl rfl hRh hRy ?_
  iterate 4 refine Below.setCell ?_ (by show w.heap.size ≤ w.heap.size + 2; omega) _
  exact hB
set_option maxRecDepth 100000 in
set_option maxHeartbeats 4000000 in
theorem ans_no (k : Int) (n : Int) (key text : ByteArray) (m : Mg) (A AB : Option Addr) (c cb : Nat) (gate : Int) (w : World) (hr : Rd 2 encHd w w.heap.size A m.l) (hy : Rd 1 encY w w.heap.size AB m.bd) (hn : m.l.length * 32 + 32 ≤ 140737488355328) (hm : m.bd.length ≤ 140737488355328) (hk17 : k < 1 ∨ 7 < k) :
    Calls Tryd.prog 36 #[sivV k n key text, msgV m.st m.path A m.l.length c AB m.bd.length cb, .int .i64 gate] w (PairOut w (w.heap.size ≤ ·) (0, m)) := by
  obtain ⟨rv, hrv⟩ : ∃ v, v = ((0, m) : Int × Mg) := ⟨_, rfl⟩
  rw [← hrv]
  have HV := Lib.hid hrv
  clear hrv
  have a1 := asnil_95
  have g1 : (k == 1) = false := by simp; omega
  have g2 : (k == 2) = false := by simp; omega
  have g3 : (k == 3) = false := by simp; omega
  have g4 : (k == 4) = false := by simp; omega
  have g5 : (k == 5) = false := by simp; omega
  have g6 : (k == 6) = false := by simp; omega
  have g7 : (k == 7) = false := by simp; omega
  have hk17' := hk17
  obtain ⟨w0, hw0⟩ : ∃ W, W = (((w.alloc (.cells (sivC k n key text) 38)).alloc (.cells (msgC m.st m.path A m.l.length c AB m.bd.length cb) 32)).alloc (.cells zerC 32)).alloc (.cells (sivC k n key text) 38) := ⟨_, rfl⟩
  have mb : Blk w0 (w.heap.size + 1) 32 (msgC m.st m.path A m.l.length c AB m.bd.length cb) := by rw [hw0]; exact ((Blk.new' _ _ (by simp) _ _).alloc _).alloc _
  have zb : Blk w0 (w.heap.size + 2) 32 zerC := by rw [hw0]; exact (Blk.new' _ _ (by simp) _ _).alloc _
  have hB : Below w.heap.size w w0 := by rw [hw0]; exact ((((Below.refl _ w).alloc (Nat.le_refl _) _).alloc (by simp) _).alloc (by simp; omega) _).alloc (by simp; omega) _
  have hr0 := hr.up hB
  have hy0 := hy.up hB
  have zl0 := zb.lt
  have hC := own_any m.st m.path A m.l c AB m.bd cb w0 hr0 hy0 (by omega) hm
  have ⟨k0, k1, k2, k3⟩ := mb.c4
  have ml := mb.lt
  go_enter Tryd.func36, Tryd.ntmps36
  go_wp2_with (first | (go_at_call 62; refine (make_no k n key text hk17 _).mono ?_; rintro e w1 ⟨rfl, rfl⟩) | (go_at_call 46; refine Hid.out ?_))
  rw [← hw0]
  clear hw0
  unfold Hid
  refine hC.mono ?_
  rintro e w1 ⟨A', c', B', d', rfl, ow, hb⟩
  clear hC k0 k1 k2 k3 ml hr0 hy0
  have zb := zb.below hb zl0
  have hB := hB.trans (hb.mono hB.size)
  have ⟨j0, j1, j2, j3⟩ := zb.c4
  have zf := zb.frz
  have l3 := zb.lt
  go_wp2
  have hRh := (ow.h.rds.set4 (g := w.heap.size + 2) (by omega) (.int .i64 m.st) (.string m.path) (.slice A' m.l.length c') (.slice B' m.bd.length d')).mono (S' := (w.heap.size ≤ ·)) (fun b h => by omega)
  have hRy := (ow.y.rds.set4 (g := w.heap.size + 2) (by omega) (.int .i64 m.st) (.string m.path) (.slice A' m.l.length c') (.slice B' m.bd.length d')).mono (S' := (w.heap.size ≤ ·)) (fun b h => by omega)
  refine bodyPost_ret (v := .tuple #[.int .i64 0, msgV m.st m.path A' m.l.length c' B' m.bd.length d']) (by simp only [results, Tryd.results36]; go_simp) rfl ?_
  rw [HV.out]
  refine pairOut rfl rfl rfl rfl rfl rfl hRh hRy ?_
  iterate 4 refine Below.setCell ?_ (by show w.heap.size ≤ w.heap.size + 2; omega) _
  exact hB
theorem ans_any (k n : Int) (key text : ByteArray) (hk : key.size ≤ 140737488355328) (ht : text.size ≤ 140737488355328) (m : Mg) (A AB : Option Addr) (c cb : Nat) (gate : Int) (w : World) (hr : Rd 2 encHd w w.heap.size A m.l) (hy : Rd 1 encY w w.heap.size AB m.bd) (hn : m.l.length * 32 + 32 ≤ 140737488355328) (hm : m.bd.length ≤ 140737488355328) :
    Calls Tryd.prog 36 #[sivV k n key text, msgV m.st m.path A m.l.length c AB m.bd.length cb, .int .i64 gate] w (PairOut w (w.heap.size ≤ ·) (ansP k n ⟨key, text, hk, ht⟩ m gate)) := by
  by_cases h17 : k < 1 ∨ 7 < k
  · have hv : ansP k n ⟨key, text, hk, ht⟩ m gate = (0, m) := by
      unfold ansP
      rw [if_neg (by omega), if_neg (by omega)]
    rw [hv]
    exact ans_no k n key text m A AB c cb gate w hr hy hn hm h17
  rcases seven (show 1 ≤ k by omega) (by omega) with rfl | rfl | rfl | rfl | rfl | rfl | rfl
  · exact ans_1 n key text m A AB c cb gate w hr hy hn hm
  · exact ans_2 n key text hk ht m A AB c cb gate w hr hy hn hm
  · exact ans_3 n key text m A AB c cb gate w hr hy hn hm
  · exact ans_4 n key text m A AB c cb gate w hr hy hn hm
  · exact ans_5 n key text m A AB c cb gate w hr hy hn hm
  · exact ans_6 n key text hk ht m A AB c cb gate w hr hy hn hm
  · obtain ⟨r, hr7, hb7⟩ := and7 n
    rcases eight hr7 with rfl | rfl | rfl | rfl | rfl | rfl | rfl | rfl
    · exact ans_7_0 n key text m A AB c cb gate w hr hy hn hm hb7
    · exact ans_7_1 n key text m A AB c cb gate w hr hy hn hm hb7
    · exact ans_7_2 n key text hk ht m A AB c cb gate w hr hy hn hm hb7
    · exact ans_7_3 n key text hk ht m A AB c cb gate w hr hy hn hm hb7
    · exact ans_7_4 n key text m A AB c cb gate w hr hy hn hm hb7
    · exact ans_7_5 n key text m A AB c cb gate w hr hy hn hm hb7
    · exact ans_7_6 n key text hk ht m A AB c cb gate w hr hy hn hm hb7
    · exact ans_7_7 n key text hk ht m A AB c cb gate w hr hy hn hm hb7
end Go.Proofs.YtmcjgfoaiannoabDoor
