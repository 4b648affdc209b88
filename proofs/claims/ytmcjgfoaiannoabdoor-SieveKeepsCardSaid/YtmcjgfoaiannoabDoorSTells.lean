/-
  The walk of SieveTells: it answers true. Condition: the arguments can be read.
-/
import Derived.Test.YtmcjgfoaiannoabDoorSAsk
import Derived.Test.YtmcjgfoaiannoabDoorSAns
import Derived.Test.YtmcjgfoaiannoabDoorSRef
namespace Go.Proofs.YtmcjgfoaiannoabDoor
open Go.RowKit Go.Lib

theorem MsgOk.hn {w : World} {B : Nat} {st : Int} {path : ByteArray} {A : Option Addr} {l : List Hd} {c : Nat} {AB : Option Addr} {bd : List UInt8} {cb : Nat} (h : MsgOk w B st path A l c AB bd cb) : l.length * 32 + 32 ≤ 140737488355328 := by
  have := h.lc
  have := h.cc
  omega
theorem MsgOk.hm {w : World} {B : Nat} {st : Int} {path : ByteArray} {A : Option Addr} {l : List Hd} {c : Nat} {AB : Option Addr} {bd : List UInt8} {cb : Nat} (h : MsgOk w B st path A l c AB bd cb) : bd.length ≤ 140737488355328 := by
  have := h.bc
  have := h.cb_
  omega
theorem askP_len (k n : Int) (h : Hd) (m : Mg) (g : Int) : (askP k n h m g).2.1.l.length ≤ m.l.length + 1 := by
  have hs := setP_len_le m.l h
  unfold askP
  by_cases h1 : k = 1
  · rw [if_pos h1]
    exact hs
  rw [if_neg h1]
  by_cases h3 : k = 3
  · rw [if_pos h3]
    split
    · exact Nat.le_succ _
    · exact Nat.zero_le _
  rw [if_neg h3]
  by_cases h4 : k = 4
  · rw [if_pos h4]
    split
    · exact Nat.zero_le _
    · exact Nat.le_succ _
  rw [if_neg h4]
  by_cases h5 : k = 5
  · rw [if_pos h5]
    split
    · exact Nat.zero_le _
    · exact Nat.le_succ _
  rw [if_neg h5]
  exact Nat.le_succ _
theorem ansP_len (k n : Int) (h : Hd) (m : Mg) (g : Int) : (ansP k n h m g).2.l.length ≤ m.l.length + 1 := by
  have hs := setP_len_le m.l h
  unfold ansP
  by_cases h1 : k = 2
  · rw [if_pos h1]
    exact hs
  rw [if_neg h1]
  by_cases h3 : k = 6
  · rw [if_pos h3]
    split
    · exact Nat.le_succ _
    · exact Nat.le_succ _
  rw [if_neg h3]
  exact Nat.le_succ _
abbrev mgC (m : Mg) (A : Option Addr) (c : Nat) (B : Option Addr) (f : Nat) : Array Value := msgC m.st m.path A m.l.length c B m.bd.length f
set_option maxRecDepth 100000 in
set_option maxHeartbeats 8000000 in
theorem sieveTells_mid (k n : Int) (key text : ByteArray) (m : Mg) (A : Option Addr) (c : Nat) (AB : Option Addr) (cb : Nat) (g : Int) (w : World) (hk : key.size ≤ 140737488355328) (ht : text.size ≤ 140737488355328) (ok : MsgOk w w.heap.size m.st m.path A m.l c AB m.bd cb) :
    Calls Tryd.prog 7 #[sivV k n key text, msgV m.st m.path A m.l.length c AB m.bd.length cb, .int .i64 g] w fun e w' => e = .returned (.bool true) ∧ Below w.heap.size w w' := by
  have hn := ok.hn
  have hm := ok.hm
  have hr := ok.rl
  have hy := ok.rb
  obtain ⟨W, hW⟩ : ∃ W, W = (w.alloc (.cells (sivC k n key text) 38)).alloc (.cells (msgC m.st m.path A m.l.length c AB m.bd.length cb) 32) := ⟨_, rfl⟩
  have sb : Blk W w.heap.size 38 (sivC k n key text) := by rw [hW]; exact (Blk.new _ _ _).alloc _
  have mb : Blk W (w.heap.size + 1) 32 (msgC m.st m.path A m.l.length c AB m.bd.length cb) := by rw [hW]; exact Blk.new' _ _ (by simp) _ _
  have hB : Below w.heap.size w W := by rw [hW]; exact ((Below.refl _ w).alloc (Nat.le_refl _) _).alloc (by simp) _
  have H1 := sieveWrong_any k n key text hk ht
  have H2 := refWrongSieve_any k n key text hk ht
  obtain ⟨y, hyy⟩ : ∃ y, y = wsP k n key text := ⟨_, rfl⟩
  rw [← hyy] at H1 H2
  clear hyy
  have H1 := Lib.hid H1
  have H2 := Lib.hid H2
  clear ok
  go_enter Tryd.func7, Tryd.ntmps7
  go_upto_region 1 with fail
  rw [← hW]
  clear hW
  go_cut [17] (fun v wx => v = .bool false ∧ Blk wx w.heap.size 38 (sivC k n key text) ∧ Blk wx (w.heap.size + 1) 32 (msgC m.st m.path A m.l.length c AB m.bd.length cb) ∧ Below w.heap.size w wx)
  case first =>
    obtain ⟨q0, q1, q2, q3⟩ := sb.c4
    go_region_held3 (fun wx => wx.cell? ⟨w.heap.size, 0, none⟩ = some (.int .i64 k) ∧ wx.cell? ⟨w.heap.size, 1, none⟩ = some (.int .i64 n) ∧ wx.cell? ⟨w.heap.size, 2, none⟩ = some (.string key) ∧ wx.cell? ⟨w.heap.size, 3, none⟩ = some (.string text)) (exact ⟨q0, q1, q2, q3⟩)
      (first
      | (go_at_call 32
         with_reducible refine (H1.out _).mono ?_
         rintro e w3 ⟨rfl, hb⟩
         repeat (have hb := below_undrew3 hb)
         have sb := sb.below hb sb.lt
         have mb := mb.below hb mb.lt
         have hB := hB.trans (hb.mono hB.size)
         obtain ⟨q0, q1, q2, q3⟩ := sb.c4)
      | (go_at_call 33
         with_reducible refine (H2.out _).mono ?_
         rintro e w3 ⟨rfl, hb⟩
         repeat (have hb := below_undrew3 hb)
         have sb := sb.below hb sb.lt
         have mb := mb.below hb mb.lt
         have hB := hB.trans (hb.mono hB.size)
         obtain ⟨q0, q1, q2, q3⟩ := sb.c4))
    all_goals
      go_wp2_with fail
      go_meet
      exact ⟨by simp, sb, mb, hB⟩
  case rest =>
    clear sb mb hB H1 H2
    obtain ⟨rfl, sb, mb, hB⟩ := hcut
    by_cases g1 : g < -1000000
    · go_wp2
      go_ret
      exact ⟨rfl, hB⟩
    by_cases g2 : 1000000 < g
    · go_wp2
      go_ret
      exact ⟨rfl, hB⟩
    have hg1 : -1000000 ≤ g := by omega
    have hg2 : g ≤ 1000000 := by omega
    have HA1 := fun W (h1 : Rd 2 encHd W W.heap.size A m.l) (h2 : Rd 1 encY W W.heap.size AB m.bd) => ask_any k n key text hk ht m A AB c cb g W h1 h2 hn hm hg1 hg2
    have HA2 := fun W (h1 : RdS 2 encHd W (· < w.heap.size) A m.l) (h2 : RdS 1 encY W (· < w.heap.size) AB m.bd) => rask_any k n key text hk ht m A AB c cb g _ W h1 h2 hn hg1 hg2
    have HB1 := fun W (h1 : Rd 2 encHd W W.heap.size A m.l) (h2 : Rd 1 encY W W.heap.size AB m.bd) => ans_any k n key text hk ht m A AB c cb g W h1 h2 hn hm
    have HB2 := fun W (h1 : RdS 2 encHd W (· < w.heap.size) A m.l) (h2 : RdS 1 encY W (· < w.heap.size) AB m.bd) => rans_any k n key text hk ht m A AB c cb g _ W h1 h2 hn
    obtain ⟨rv, hrv⟩ : ∃ v, v = askP k n ⟨key, text, hk, ht⟩ m g := ⟨_, rfl⟩
    obtain ⟨sv, hsv⟩ : ∃ v, v = ansP k n ⟨key, text, hk, ht⟩ m g := ⟨_, rfl⟩
    simp only [← hrv] at HA1 HA2
    simp only [← hsv] at HB1 HB2
    have hlen : rv.2.1.l.length ≤ 140737488355328 := by rw [hrv]; have := askP_len k n ⟨key, text, hk, ht⟩ m g; omega
    have hlen2 : sv.2.l.length ≤ 140737488355328 := by rw [hsv]; have := ansP_len k n ⟨key, text, hk, ht⟩ m g; omega
    clear hrv hsv
    have HA1 := Lib.hid HA1
    have HA2 := Lib.hid HA2
    have HB1 := Lib.hid HB1
    have HB2 := Lib.hid HB2
    obtain ⟨d, M, gg⟩ := rv
    obtain ⟨d2, M2⟩ := sv
    have ⟨s0, s1, s2, s3⟩ := sb.c4
    have ⟨m0, m1, m2, m3⟩ := mb.c4
    have sl := sb.lt
    have ml := mb.lt
    have hr1 := hr.up hB
    have hy1 := hy.up hB
    go_wp2_with (go_at_call 34; refine Hid.out ?_)
    unfold Hid
    refine (HA1.out _ hr1 hy1).mono ?_
    rintro e w1 ⟨A1, c1, B1, f1, rfl, hx, hz, hb⟩
    have sb := sb.below hb sl
    have mb := mb.below hb ml
    have hx := hx.rd
    have hz := hz.rd
    have hB := hB.trans (hb.mono hB.size)
    clear hb s0 s1 s2 s3 m0 m1 m2 m3 sl ml HA1 hr1 hy1
    have ⟨s0, s1, s2, s3⟩ := sb.c4
    have ⟨m0, m1, m2, m3⟩ := mb.c4
    have sl := sb.lt
    have ml := mb.lt
    obtain ⟨KX, hKX⟩ : ∃ K, K = w1.heap.size := ⟨_, rfl⟩
    have hKw : w.heap.size + 1 < KX := by rw [hKX]; exact mb.lt
    obtain ⟨w2, hw2⟩ : ∃ W, W = w1.alloc (.cells (mgC M A1 c1 B1 f1) 32) := ⟨_, rfl⟩
    have hb2 : Below w1.heap.size w1 w2 := by rw [hw2]; exact (Below.refl _ _).alloc (Nat.le_refl _) _
    have xb : Blk w2 KX 32 (mgC M A1 c1 B1 f1) := by rw [hw2, hKX]; exact Blk.new _ _ _
    have sb := sb.below hb2 sb.lt
    have mb := mb.below hb2 mb.lt
    have hx := hx.up hb2
    have hz := hz.up hb2
    have hB := hB.trans (hb2.mono hB.size)
    clear hb2
    go_wp2_with (go_at_call 35; refine Hid.out ?_)
    unfold Hid
    rw [← hw2, ← hKX]
    clear hw2 hKX s0 s1 s2 s3 m0 m1 m2 m3 sl ml
    have sl := sb.lt
    have ml := mb.lt
    refine (HA2.out _ (RdS.of_rd (hr.below hB) hB.size) (RdS.of_rd (hy.below hB) hB.size)).mono ?_
    rintro e w3 ⟨A2, c2, B2, f2, rfl, hx2, hz2, hb⟩
    have sb := sb.below hb sl
    have mb := mb.below hb ml
    have xb := xb.below hb xb.lt
    have hx := hx.up hb
    have hz := hz.up hb
    have hx2 := hx2.rd
    have hz2 := hz2.rd
    have hB := hB.trans (hb.mono hB.size)
    clear hb sl ml HA2
    have ⟨x0, x1, x2, x3⟩ := xb.c4
    have xl := xb.lt
    obtain ⟨KY, hKY⟩ : ∃ K, K = w3.heap.size := ⟨_, rfl⟩
    obtain ⟨w4, hw4⟩ : ∃ W, W = w3.alloc (.cells (mgC M A2 c2 B2 f2) 32) := ⟨_, rfl⟩
    have hb2 : Below w3.heap.size w3 w4 := by rw [hw4]; exact (Below.refl _ _).alloc (Nat.le_refl _) _
    have yb : Blk w4 KY 32 (mgC M A2 c2 B2 f2) := by rw [hw4, hKY]; exact Blk.new _ _ _
    have hXY : KX < KY := by rw [hKY]; exact xb.lt
    have sb := sb.below hb2 sb.lt
    have mb := mb.below hb2 mb.lt
    have xb := xb.below hb2 xb.lt
    have hx := hx.up hb2
    have hz := hz.up hb2
    have hx2 := hx2.up hb2
    have hz2 := hz2.up hb2
    have hB := hB.trans (hb2.mono hB.size)
    clear hb2
    have hS := sameR_any M.st M.path A1 B1 M.l c1 f1 M.bd M.st M.path A2 B2 M.l c2 f2 M.bd w4 hx hz hx2 hz2 hlen
    rw [sameP_refl] at hS
    go_wp2_with (go_at_call 20; refine Hid.out ?_)
    unfold Hid
    rw [← hw4, ← hKY]
    clear hw4 hKY x0 x1 x2 x3 xl
    refine hS.mono ?_
    rintro e w5 ⟨rfl, hb⟩
    clear hx hz hx2 hz2
    have sb := sb.below hb sb.lt
    have mb := mb.below hb mb.lt
    have xb := xb.below hb xb.lt
    have yb := yb.below hb yb.lt
    have hB := hB.trans (hb.mono hB.size)
    clear hb hS
    have ⟨s0, s1, s2, s3⟩ := sb.c4
    have ⟨m0, m1, m2, m3⟩ := mb.c4
    have sl := sb.lt
    have ml := mb.lt
    go_wp2_with (go_at_call 36; refine Hid.out ?_)
    unfold Hid
    refine (HB1.out _ (hr.up hB) (hy.up hB)).mono ?_
    rintro e w6 ⟨A3, c3, B3, f3, rfl, hx, hz, hb⟩
    have xl5 := xb.lt
    have yl5 := yb.lt
    have sb := sb.below hb sl
    have mb := mb.below hb ml
    have xb := xb.below hb xl5
    have yb := yb.below hb yl5
    have hB := hB.trans (hb.mono hB.size)
    clear s0 s1 s2 s3 m0 m1 m2 m3 sl ml HB1
    have xf := xb.frz
    have xl := xb.lt
    have ⟨s0, s1, s2, s3⟩ := sb.c4
    have ⟨m0, m1, m2, m3⟩ := mb.c4
    have ⟨x0, x1, x2, x3⟩ := xb.c4
    have sl := sb.lt
    have ml := mb.lt
    have e1 : KX ≠ w.heap.size := by omega
    have e2 : KX ≠ w.heap.size + 1 := by omega
    have e3 := e1.symm
    have e4 := e2.symm
    obtain ⟨w7, hw7⟩ : ∃ W, W = (((w6.setCell ⟨KX, 0, none⟩ (.int .i64 M2.st)).setCell ⟨KX, 1, none⟩ (.string M2.path)).setCell ⟨KX, 2, none⟩ (.slice A3 M2.l.length c3)).setCell ⟨KX, 3, none⟩ (.slice B3 M2.bd.length f3) := ⟨_, rfl⟩
    have far : ∀ {t : TypeId} {cs : Array Value} {q : Nat}, Blk w6 q t cs → q ≠ KX → Blk w7 q t cs := fun h hq => by
      rw [hw7]
      exact (((h.far (p := ⟨KX, 0, none⟩) hq _).far (p := ⟨KX, 1, none⟩) hq _).far (p := ⟨KX, 2, none⟩) hq _).far (p := ⟨KX, 3, none⟩) hq _
    have sb := far sb (by omega)
    have mb := far mb (by omega)
    have yb := far yb (by omega)
    have xb : Blk w7 KX 32 (mgC M2 A3 c3 B3 f3) := by rw [hw7]; exact (((xb.set_ 0 _).set_ 1 _).set_ 2 _).set_ 3 _
    have hx : RdS 2 encHd w7 (w5.heap.size ≤ ·) A3 M2.l := by rw [hw7]; exact hx.set4 (by omega) _ _ _ _
    have hz : RdS 1 encY w7 (w5.heap.size ≤ ·) B3 M2.bd := by rw [hw7]; exact hz.set4 (by omega) _ _ _ _
    have hB : Below w.heap.size w w7 := by
      rw [hw7]
      iterate 4 refine Below.setCell ?_ (by show w.heap.size ≤ KX; omega) _
      exact hB
    have hw57 : w5.heap.size ≤ w7.heap.size := by rw [hw7]; simpa using hb.size
    clear far hb
    have HW7 := Lib.hid hw7
    clear hw7
    go_wp2_with (go_at_call 37; refine Hid.out ?_)
    unfold Hid
    rw [← HW7.out]
    clear HW7 xf x0 x1 x2 x3 xl e1 e2 e3 e4
    refine (HB2.out _ (RdS.of_rd (hr.below hB) hB.size) (RdS.of_rd (hy.below hB) hB.size)).mono ?_
    rintro e w8 ⟨A4, c4, B4, f4, rfl, hx2, hz2, hb⟩
    have yl7 := yb.lt
    have xb := xb.below hb xb.lt
    have yb := yb.below hb yl7
    have hx := hx.below hb
    have hz := hz.below hb
    have hB := hB.trans (hb.mono hB.size)
    clear s0 s1 s2 s3 m0 m1 m2 m3 sl ml HB2 sb mb
    have yf := yb.frz
    have yl := yb.lt
    have xl := xb.lt
    have ⟨x0, x1, x2, x3⟩ := xb.c4
    have ⟨y0, y1, y2, y3⟩ := yb.c4
    have hne : KX ≠ KY := by omega
    have hne2 := hne.symm
    have xb9 := (((xb.far (p := ⟨KY, 0, none⟩) hne (.int .i64 M2.st)).far (p := ⟨KY, 1, none⟩) hne (.string M2.path)).far (p := ⟨KY, 2, none⟩) hne (.slice A4 M2.l.length c4)).far (p := ⟨KY, 3, none⟩) hne (.slice B4 M2.bd.length f4)
    have yb9 := (((yb.set_ 0 (.int .i64 M2.st)).set_ 1 (.string M2.path)).set_ 2 (.slice A4 M2.l.length c4)).set_ 3 (.slice B4 M2.bd.length f4)
    have hx := (hx.set4 (g := KY) (by omega) (.int .i64 M2.st) (.string M2.path) (.slice A4 M2.l.length c4) (.slice B4 M2.bd.length f4)).rd
    have hz := (hz.set4 (g := KY) (by omega) (.int .i64 M2.st) (.string M2.path) (.slice A4 M2.l.length c4) (.slice B4 M2.bd.length f4)).rd
    have hKY : w.heap.size ≤ KY := by omega
    have hx2 := (hx2.set4 (g := KY) (by unfold orNew; omega) (.int .i64 M2.st) (.string M2.path) (.slice A4 M2.l.length c4) (.slice B4 M2.bd.length f4)).rd
    have hz2 := (hz2.set4 (g := KY) (by unfold orNew; omega) (.int .i64 M2.st) (.string M2.path) (.slice A4 M2.l.length c4) (.slice B4 M2.bd.length f4)).rd
    have hB9 : Below w.heap.size w _ := (((hB.setCell (p := ⟨KY, 0, none⟩) hKY (.int .i64 M2.st)).setCell (p := ⟨KY, 1, none⟩) hKY (.string M2.path)).setCell (p := ⟨KY, 2, none⟩) hKY (.slice A4 M2.l.length c4)).setCell (p := ⟨KY, 3, none⟩) hKY (.slice B4 M2.bd.length f4)
    obtain ⟨w9, hw9⟩ : ∃ W, W = (((w8.setCell ⟨KY, 0, none⟩ (.int .i64 M2.st)).setCell ⟨KY, 1, none⟩ (.string M2.path)).setCell ⟨KY, 2, none⟩ (.slice A4 M2.l.length c4)).setCell ⟨KY, 3, none⟩ (.slice B4 M2.bd.length f4) := ⟨_, rfl⟩
    rw [← hw9] at xb9 yb9 hx hz hx2 hz2 hB9
    have hS := sameR_any M2.st M2.path A3 B3 M2.l c3 f3 M2.bd M2.st M2.path A4 B4 M2.l c4 f4 M2.bd w9 hx hz hx2 hz2 hlen2
    rw [sameP_refl] at hS
    have HW9 := Lib.hid hw9
    clear hw9
    go_upto_region 11 with fail
    rw [← HW9.out]
    clear HW9 x0 x1 x2 x3 y0 y1 y2 y3 yf yl xl
    have ⟨x0, x1, x2, x3⟩ := xb9.c4
    have ⟨y0, y1, y2, y3⟩ := yb9.c4
    go_wp2_with (go_at_call 20; refine Hid.out ?_)
    unfold Hid
    refine hS.mono ?_
    rintro e w10 ⟨rfl, hb⟩
    go_wp2
    go_ret
    exact ⟨by simp, hB9.trans (hb.mono hB9.size)⟩
theorem sieveTells_walk (k n : Int) (key text : ByteArray) (st : Int) (path : ByteArray) (A : Option Addr) (l : List Hd) (c : Nat) (AB : Option Addr) (bd : List UInt8) (cb : Nat) (g : Int) (w : World) (_ : (Lit.int .i64 k).wf = true) (_ : (Lit.int .i64 n).wf = true) (hk : key.size ≤ 140737488355328) (ht : text.size ≤ 140737488355328) (ok : MsgOk w w.heap.size st path A l c AB bd cb) (_ : (Lit.int .i64 g).wf = true) :
    Calls Tryd.prog 7 #[sivV k n key text, msgV st path A l.length c AB bd.length cb, .int .i64 g] w fun e w' => e = .returned (.bool true) ∧ Below w.heap.size w w' :=
  sieveTells_mid k n key text ⟨st, path, l, bd⟩ A c AB cb g w hk ht ok
end Go.Proofs.YtmcjgfoaiannoabDoor
