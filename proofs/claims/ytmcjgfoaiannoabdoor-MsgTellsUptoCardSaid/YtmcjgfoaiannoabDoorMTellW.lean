/-
  MsgTells' walk. Condition: what the messages and the texts hold can be read, the text is small; the library's tables and errors lie where they lie.
-/
import Derived.Test.YtmcjgfoaiannoabDoorAlive
import Derived.Test.YtmcjgfoaiannoabDoorPLibs
import Derived.Test.YtmcjgfoaiannoabDoorBMsg
namespace Go.Proofs.YtmcjgfoaiannoabDoor
open Go.RowKit Go.Lib

theorem sameT_any (st : Int) (path : ByteArray) (A AB : Option Addr) (l : List Hd) (c cb : Nat) (bd : List UInt8) (A' AB' : Option Addr) (c' cb' : Nat) (w : World)
    (hr : Rd 2 encHd w w.heap.size A l) (hy : Rd 1 encY w w.heap.size AB bd) (hr' : Rd 2 encHd w w.heap.size A' l) (hy' : Rd 1 encY w w.heap.size AB' bd) (hl : l.length ≤ 140737488355328) :
    Calls Tryd.prog 20 #[msgV st path A l.length c AB bd.length cb, msgV st path A' l.length c' AB' bd.length cb'] w fun e w' => e = .returned (.bool true) ∧ Below w.heap.size w w' := by
  have h := sameR_any st path A AB l c cb bd st path A' AB' l c' cb' bd w hr hy hr' hy' hl
  rw [sameP_refl] at h
  exact h
set_option maxRecDepth 100000 in
set_option maxHeartbeats 64000000 in
theorem msgTells_mid (st : Int) (path : ByteArray) (A : Option Addr) (l : List Hd) (c : Nat) (AB : Option Addr) (bd : List UInt8) (cb : Nat) (st2 : Int) (path2 : ByteArray) (A2 : Option Addr) (l2 : List Hd) (c2 : Nat) (AB2 : Option Addr) (bd2 : List UInt8) (cb2 : Nat) (h : Hd) (n : Int) (w : World) (ok : MsgOk w w.heap.size st path A l c AB bd cb) (ok2 : MsgOk w w.heap.size st2 path2 A2 l2 c2 AB2 bd2 cb2) (hL : Libs w) (hs : h.text.size ≤ 1048576) :
    Calls Tryd.prog 10 #[msgV st path A l.length c AB bd.length cb, msgV st2 path2 A2 l2.length c2 AB2 bd2.length cb2, .string h.text, .string h.key, .int .i64 n] w fun e w' => e = .returned (.bool true) ∧ Below w.heap.size w w' := by
  have b1 := ok.lc
  have b2 := ok.cc
  have b3 := ok.bc
  have b4 := ok.cb_
  have hpz := ok.path_
  have hm : bd.length ≤ 140737488355328 := by omega
  have hll : l.length ≤ 140737488355328 := by omega
  have hn1 : l.length * 32 ≤ 140737488355328 := by omega
  have hn : l.length * 32 + 32 ≤ 140737488355328 := by omega
  have hcc : c ≤ 9223372036854775807 := by omega
  have hsl : (setP l h).length ≤ 140737488355328 := by have := setP_len_le l h; omega
  have htz : h.text.size ≤ 140737488355328 := by omega
  obtain ⟨w0, hw0⟩ : ∃ W, W = (w.alloc (.cells (msgC st path A l.length c AB bd.length cb) 32)).alloc (.cells (msgC st2 path2 A2 l2.length c2 AB2 bd2.length cb2) 32) := ⟨_, rfl⟩
  have mb : Blk w0 w.heap.size 32 (msgC st path A l.length c AB bd.length cb) := by rw [hw0]; exact (Blk.new _ _ _).alloc _
  have nb : Blk w0 (w.heap.size + 1) 32 (msgC st2 path2 A2 l2.length c2 AB2 bd2.length cb2) := by rw [hw0]; exact Blk.new' _ _ (by simp) _ _
  have hB : Below w.heap.size w w0 := by rw [hw0]; exact ((Below.refl _ w).alloc (Nat.le_refl _) _).alloc (by simp) _
  have hr := (RdS.of_rd ok.rl (Nat.le_refl _)).below hB
  have hy := (RdS.of_rd ok.rb (Nat.le_refl _)).below hB
  have hr2 := (RdS.of_rd ok2.rl (Nat.le_refl _)).below hB
  have hy2 := (RdS.of_rd ok2.rb (Nat.le_refl _)).below hB
  have hL := hL.below hB
  clear ok ok2
  have ⟨q0, q1, q2, q3⟩ := mb.c4
  have ⟨n0, n1, n2, n3⟩ := nb.c4
  have ql := mb.lt
  have nl := nb.lt
  have HT1 := fun W (x : Libs W) (r : Rd 2 encHd W W.heap.size A l) (y : Rd 1 encY W W.heap.size AB bd) => text_any39 ⟨st, path, l, bd⟩ A AB c cb hpz b1 hcc W r y x
  have HT2 := fun W (x : Libs W) (r : Rd 2 encHd W W.heap.size A l) (y : Rd 1 encY W W.heap.size AB bd) => reftext_any40 ⟨st, path, l, bd⟩ A AB c cb hpz W r y x
  obtain ⟨tx, zt, hmt⟩ : ∃ a b, mtxP ⟨st, path, l, bd⟩ = (a, b) := ⟨_, _, rfl⟩
  simp only [hmt, stup] at HT1 HT2
  have HT1 := Lib.hid HT1
  have HT2 := Lib.hid HT2
  have H41 := fun W (r : Rd 2 encHd W W.heap.size A l) => wrong_anyC st path A AB l c bd.length cb hpz b1 hcc W r
  have H24 := fun W (r : Rd 2 encHd W W.heap.size A l) => rwrong_any st path A AB l c bd.length cb hpz W r
  obtain ⟨z, hz⟩ : ∃ z, z = wrongP st path l bd.length := ⟨_, rfl⟩
  simp only [← hz] at H41 H24
  have H41 := Lib.hid H41
  have H24 := Lib.hid H24
  have H42 := fun W => key_any h.text htz W
  have H43 := fun W => refkey_any h.text htz W
  obtain ⟨kk, hkk⟩ : ∃ z, z = keyP h.text := ⟨_, rfl⟩
  simp only [← hkk] at H42 H43
  have H42 := Lib.hid H42
  have H43 := Lib.hid H43
  have H44 := fun W => path_any h.text htz W
  have H45 := fun W => refpath_any h.text htz W
  obtain ⟨pp, hpp⟩ : ∃ z, z = pathP h.text := ⟨_, rfl⟩
  simp only [← hpp] at H44 H45
  have H44 := Lib.hid H44
  have H45 := Lib.hid H45
  have H47 := fun W (r1 : Rd 2 encHd W W.heap.size A l) (r2 : Rd 1 encY W W.heap.size AB bd) (r3 : Rd 2 encHd W W.heap.size A2 l2) (r4 : Rd 1 encY W W.heap.size AB2 bd2) => same47_any st path A AB l c cb bd st2 path2 A2 AB2 l2 c2 cb2 bd2 W r1 r2 r3 r4 hll hm
  have H20 := fun W (r1 : Rd 2 encHd W W.heap.size A l) (r2 : Rd 1 encY W W.heap.size AB bd) (r3 : Rd 2 encHd W W.heap.size A2 l2) (r4 : Rd 1 encY W W.heap.size AB2 bd2) => sameR_any st path A AB l c cb bd st2 path2 A2 AB2 l2 c2 cb2 bd2 W r1 r2 r3 r4 hll
  obtain ⟨qq, hqq⟩ : ∃ z, z = sameP st path l bd st2 path2 l2 bd2 := ⟨_, rfl⟩
  simp only [← hqq] at H47 H20
  have H47 := Lib.hid H47
  have H20 := Lib.hid H20
  clear hz hkk hpp hqq hmt
  have gtx := str_yes (rfl : tx = tx)
  go_enter Tryd.func10, Tryd.ntmps10
  go_upto_region 1 with fail
  rw [← hw0]
  clear hw0
  go_wp2_with (go_at_call 39; refine Hid.out ?_)
  unfold Hid
  refine (HT1.out _ hL hr.rd hy.rd).mono ?_
  rintro e w3 ⟨rfl, hb⟩
  clear q0 q1 q2 q3 n0 n1 n2 n3 ql nl
  have mb := mb.below hb mb.lt
  have nb := nb.below hb nb.lt
  have hr := hr.below hb
  have hy := hy.below hb
  have hr2 := hr2.below hb
  have hy2 := hy2.below hb
  have hB := hB.trans (hb.mono hB.size)
  have hL := hL.below hb
  obtain ⟨q0, q1, q2, q3⟩ := mb.c4
  obtain ⟨n0, n1, n2, n3⟩ := nb.c4
  have ql := mb.lt
  have nl := nb.lt
  clear hb
  go_wp2_with (go_at_call 40; refine Hid.out ?_)
  unfold Hid
  refine (HT2.out _ hL hr.rd hy.rd).mono ?_
  rintro e w3 ⟨rfl, hb⟩
  clear q0 q1 q2 q3 n0 n1 n2 n3 ql nl
  have mb := mb.below hb mb.lt
  have nb := nb.below hb nb.lt
  have hr := hr.below hb
  have hy := hy.below hb
  have hr2 := hr2.below hb
  have hy2 := hy2.below hb
  have hB := hB.trans (hb.mono hB.size)
  have hL := hL.below hb
  obtain ⟨q0, q1, q2, q3⟩ := mb.c4
  obtain ⟨n0, n1, n2, n3⟩ := nb.c4
  have ql := mb.lt
  have nl := nb.lt
  clear hb HT1 HT2
  go_upto_region 3 with fail
  go_region_held3 (fun wx => wx.cell? ⟨w.heap.size, 0, none⟩ = some (.int .i64 st) ∧ wx.cell? ⟨w.heap.size, 1, none⟩ = some (.string path) ∧ wx.cell? ⟨w.heap.size, 2, none⟩ = some (.slice A l.length c) ∧ wx.cell? ⟨w.heap.size, 3, none⟩ = some (.slice AB bd.length cb) ∧ wx.cell? ⟨w.heap.size + 1, 0, none⟩ = some (.int .i64 st2) ∧ wx.cell? ⟨w.heap.size + 1, 1, none⟩ = some (.string path2) ∧ wx.cell? ⟨w.heap.size + 1, 2, none⟩ = some (.slice A2 l2.length c2) ∧ wx.cell? ⟨w.heap.size + 1, 3, none⟩ = some (.slice AB2 bd2.length cb2)) (exact ⟨q0, q1, q2, q3, n0, n1, n2, n3⟩)
      (first
      | (go_at_call 41
         with_reducible refine (H41.out _ ?_).mono ?_
         · exact hr.rd
         rintro e w3 ⟨rfl, hb⟩
         repeat (have hb := below_undrewR hb)
         have mb := mb.below hb mb.lt
         have nb := nb.below hb nb.lt
         have hr := hr.below hb
         have hy := hy.below hb
         have hr2 := hr2.below hb
         have hy2 := hy2.below hb
         have hB := hB.trans (hb.mono hB.size)
         have hL := hL.below hb
         obtain ⟨q0, q1, q2, q3⟩ := mb.c4
         obtain ⟨n0, n1, n2, n3⟩ := nb.c4
         have ql := mb.lt
         have nl := nb.lt)
      | (go_at_call 24
         with_reducible refine (H24.out _ ?_).mono ?_
         · exact hr.rd
         rintro e w3 ⟨rfl, hb⟩
         repeat (have hb := below_undrewR hb)
         have mb := mb.below hb mb.lt
         have nb := nb.below hb nb.lt
         have hr := hr.below hb
         have hy := hy.below hb
         have hr2 := hr2.below hb
         have hy2 := hy2.below hb
         have hB := hB.trans (hb.mono hB.size)
         have hL := hL.below hb
         obtain ⟨q0, q1, q2, q3⟩ := mb.c4
         obtain ⟨n0, n1, n2, n3⟩ := nb.c4
         have ql := mb.lt
         have nl := nb.lt)
      | (go_at_call 42
         with_reducible refine (H42.out _).mono ?_
         rintro e w3 ⟨rfl, hb⟩
         repeat (have hb := below_undrewR hb)
         have mb := mb.below hb mb.lt
         have nb := nb.below hb nb.lt
         have hr := hr.below hb
         have hy := hy.below hb
         have hr2 := hr2.below hb
         have hy2 := hy2.below hb
         have hB := hB.trans (hb.mono hB.size)
         have hL := hL.below hb
         obtain ⟨q0, q1, q2, q3⟩ := mb.c4
         obtain ⟨n0, n1, n2, n3⟩ := nb.c4
         have ql := mb.lt
         have nl := nb.lt)
      | (go_at_call 43
         with_reducible refine (H43.out _).mono ?_
         rintro e w3 ⟨rfl, hb⟩
         repeat (have hb := below_undrewR hb)
         have mb := mb.below hb mb.lt
         have nb := nb.below hb nb.lt
         have hr := hr.below hb
         have hy := hy.below hb
         have hr2 := hr2.below hb
         have hy2 := hy2.below hb
         have hB := hB.trans (hb.mono hB.size)
         have hL := hL.below hb
         obtain ⟨q0, q1, q2, q3⟩ := mb.c4
         obtain ⟨n0, n1, n2, n3⟩ := nb.c4
         have ql := mb.lt
         have nl := nb.lt)
      | (go_at_call 44
         with_reducible refine (H44.out _).mono ?_
         rintro e w3 ⟨rfl, hb⟩
         repeat (have hb := below_undrewR hb)
         have mb := mb.below hb mb.lt
         have nb := nb.below hb nb.lt
         have hr := hr.below hb
         have hy := hy.below hb
         have hr2 := hr2.below hb
         have hy2 := hy2.below hb
         have hB := hB.trans (hb.mono hB.size)
         have hL := hL.below hb
         obtain ⟨q0, q1, q2, q3⟩ := mb.c4
         obtain ⟨n0, n1, n2, n3⟩ := nb.c4
         have ql := mb.lt
         have nl := nb.lt)
      | (go_at_call 45
         with_reducible refine (H45.out _).mono ?_
         rintro e w3 ⟨rfl, hb⟩
         repeat (have hb := below_undrewR hb)
         have mb := mb.below hb mb.lt
         have nb := nb.below hb nb.lt
         have hr := hr.below hb
         have hy := hy.below hb
         have hr2 := hr2.below hb
         have hy2 := hy2.below hb
         have hB := hB.trans (hb.mono hB.size)
         have hL := hL.below hb
         obtain ⟨q0, q1, q2, q3⟩ := mb.c4
         obtain ⟨n0, n1, n2, n3⟩ := nb.c4
         have ql := mb.lt
         have nl := nb.lt)
      | (go_at_call 46
         with_reducible refine (own_any st path A l c AB bd cb _ ?_ ?_ hn1 hm).mono ?_
         · exact hr.rd
         · exact hy.rd
         rintro e w3 ⟨A3, c3, B3, d3, rfl, ow, hb⟩
         repeat (have hb := below_undrewR hb)
         have mb := mb.below hb mb.lt
         have nb := nb.below hb nb.lt
         have hr := hr.below hb
         have hy := hy.below hb
         have hr2 := hr2.below hb
         have hy2 := hy2.below hb
         have hB := hB.trans (hb.mono hB.size)
         have hL := hL.below hb
         obtain ⟨q0, q1, q2, q3⟩ := mb.c4
         obtain ⟨n0, n1, n2, n3⟩ := nb.c4
         have ql := mb.lt
         have nl := nb.lt)
      | (go_at_call 20
         with_reducible refine (sameT_any st path A3 B3 l c3 d3 bd A AB c cb _ ?_ ?_ ?_ ?_ hll).mono ?_
         · exact ow.h.rd
         · exact ow.y.rd
         · exact hr.rd
         · exact hy.rd
         rintro e w3 ⟨rfl, hb⟩
         repeat (have hb := below_undrewR hb)
         have mb := mb.below hb mb.lt
         have nb := nb.below hb nb.lt
         have hr := hr.below hb
         have hy := hy.below hb
         have hr2 := hr2.below hb
         have hy2 := hy2.below hb
         have hB := hB.trans (hb.mono hB.size)
         have hL := hL.below hb
         obtain ⟨q0, q1, q2, q3⟩ := mb.c4
         obtain ⟨n0, n1, n2, n3⟩ := nb.c4
         have ql := mb.lt
         have nl := nb.lt)
      | (go_at_call 47
         with_reducible refine (H47.out _ ?_ ?_ ?_ ?_).mono ?_
         · exact hr.rd
         · exact hy.rd
         · exact hr2.rd
         · exact hy2.rd
         rintro e w3 ⟨rfl, hb⟩
         repeat (have hb := below_undrewR hb)
         have mb := mb.below hb mb.lt
         have nb := nb.below hb nb.lt
         have hr := hr.below hb
         have hy := hy.below hb
         have hr2 := hr2.below hb
         have hy2 := hy2.below hb
         have hB := hB.trans (hb.mono hB.size)
         have hL := hL.below hb
         obtain ⟨q0, q1, q2, q3⟩ := mb.c4
         obtain ⟨n0, n1, n2, n3⟩ := nb.c4
         have ql := mb.lt
         have nl := nb.lt)
      | (go_at_call 20
         with_reducible refine (H20.out _ ?_ ?_ ?_ ?_).mono ?_
         · exact hr.rd
         · exact hy.rd
         · exact hr2.rd
         · exact hy2.rd
         rintro e w3 ⟨rfl, hb⟩
         repeat (have hb := below_undrewR hb)
         have mb := mb.below hb mb.lt
         have nb := nb.below hb nb.lt
         have hr := hr.below hb
         have hy := hy.below hb
         have hr2 := hr2.below hb
         have hy2 := hy2.below hb
         have hB := hB.trans (hb.mono hB.size)
         have hL := hL.below hb
         obtain ⟨q0, q1, q2, q3⟩ := mb.c4
         obtain ⟨n0, n1, n2, n3⟩ := nb.c4
         have ql := mb.lt
         have nl := nb.lt))
  all_goals
    clear H41 H24 H42 H43 H44 H45 H47 H20 hn1
    have HP1 := fun W (x : Libs W) => parse_any h.text hs W x
    have HP2 := fun W (x : Libs W) => refparse_any h.text hs W x
    obtain ⟨p, code, hpc⟩ : ∃ p code, parseP h.text.data.toList = (p, code) := ⟨_, _, rfl⟩
    have hpl : p.l.length ≤ 140737488355328 := by
      have hsz : h.text.data.toList.length = h.text.size := by rw [Array.length_toList]; rfl
      by_cases hcode : code = 0
      · have ht := text_parse (s := h.text.data.toList) (by omega) (by rw [hpc]; exact hcode)
        rw [hpc] at ht
        dsimp only at ht
        have := (wrong0.1 ht.1).2.1
        omega
      · have hpe := parse_bad (s := h.text.data.toList) (by rw [hpc]; exact hcode)
        rw [hpc] at hpe
        have hpe : p = emptyM := hpe
        rw [hpe]
        decide
    simp only [hpc] at HP1 HP2
    have HP1 := Lib.hid HP1
    have HP2 := Lib.hid HP2
    obtain ⟨x, y, hxy⟩ : ∃ x y, getP l h.key = (x, y) := ⟨_, _, rfl⟩
    have HG1 := fun W (r : Rd 2 encHd W W.heap.size A l) => get_any st path A AB l c bd.length cb h.key W r hll
    have HG2 := fun W (r : Rd 2 encHd W W.heap.size A l) => refget_any st path A AB l c bd.length cb h.key W r hll
    simp only [hxy, gtup] at HG1 HG2
    have HG1 := Lib.hid HG1
    have HG2 := Lib.hid HG2
    clear hpc hxy
    go_wp2_with (go_at_call 48; refine Hid.out ?_)
    unfold Hid
    refine (HP1.out _ hL).mono ?_
    rintro e w4 ⟨A5, c5, B5, f5, rfl, hr5, hy5, _, _, hb⟩
    dsimp only at hr5 hy5 ⊢
    obtain ⟨N5, hN5⟩ : ∃ N, N = w4.heap.size := ⟨_, rfl⟩
    obtain ⟨w5, hw5⟩ : ∃ W, W = w4.alloc (.cells (msgC p.st p.path A5 p.l.length c5 B5 p.bd.length f5) 32) := ⟨_, rfl⟩
    have b5 : Blk w5 N5 32 (msgC p.st p.path A5 p.l.length c5 B5 p.bd.length f5) := by rw [hw5, hN5]; exact Blk.new _ _ _
    have hb9 : Below w4.heap.size w4 w5 := by rw [hw5]; exact (Below.refl _ _).alloc (Nat.le_refl _) _
    have hr5 := hr5.below hb9
    have hy5 := hy5.below hb9
    have hb := hb.trans (hb9.mono hb.size)
    clear q0 q1 q2 q3 n0 n1 n2 n3 ql nl
    have mb := mb.below hb mb.lt
    have nb := nb.below hb nb.lt
    have hr := hr.below hb
    have hy := hy.below hb
    have hr2 := hr2.below hb
    have hy2 := hy2.below hb
    have hB := hB.trans (hb.mono hB.size)
    have hL := hL.below hb
    obtain ⟨q0, q1, q2, q3⟩ := mb.c4
    obtain ⟨n0, n1, n2, n3⟩ := nb.c4
    have ql := mb.lt
    have nl := nb.lt
    clear hb hb9
    go_upto_region 6 with fail
    rw [← hw5, ← hN5]
    clear hw5 hN5
    go_wp2_with (go_at_call 49; refine Hid.out ?_)
    unfold Hid
    refine (HP2.out _ hL).mono ?_
    rintro e w6 ⟨A6, c6, B6, f6, rfl, hr6, hy6, _, _, hb⟩
    dsimp only at hr6 hy6 ⊢
    have hb1 := hb
    obtain ⟨N6, hN6⟩ : ∃ N, N = w6.heap.size := ⟨_, rfl⟩
    obtain ⟨w7, hw7⟩ : ∃ W, W = w6.alloc (.cells (msgC p.st p.path A6 p.l.length c6 B6 p.bd.length f6) 32) := ⟨_, rfl⟩
    have b6 : Blk w7 N6 32 (msgC p.st p.path A6 p.l.length c6 B6 p.bd.length f6) := by rw [hw7, hN6]; exact Blk.new _ _ _
    have hb9 : Below w6.heap.size w6 w7 := by rw [hw7]; exact (Below.refl _ _).alloc (Nat.le_refl _) _
    have hr6 := hr6.below hb9
    have hy6 := hy6.below hb9
    have hr5 := (hr5.below hb).below hb9
    have hy5 := (hy5.below hb).below hb9
    have b5 := (b5.below hb b5.lt).below hb9 (b5.below hb b5.lt).lt
    have hb := hb.trans (hb9.mono hb.size)
    clear q0 q1 q2 q3 n0 n1 n2 n3 ql nl
    have mb := mb.below hb mb.lt
    have nb := nb.below hb nb.lt
    have hr := hr.below hb
    have hy := hy.below hb
    have hr2 := hr2.below hb
    have hy2 := hy2.below hb
    have hB := hB.trans (hb.mono hB.size)
    have hL := hL.below hb
    obtain ⟨q0, q1, q2, q3⟩ := mb.c4
    obtain ⟨n0, n1, n2, n3⟩ := nb.c4
    have ql := mb.lt
    have nl := nb.lt
    clear hb hb9
    clear hb1 HP1 HP2
    have ⟨p0, p1, p2, p3⟩ := b5.c4
    have ⟨r0, r1, r2, r3⟩ := b6.c4
    have pl := b5.lt
    have rl := b6.lt
    go_upto_region 7 with fail
    rw [← hw7, ← hN6]
    clear hw7 hN6
    go_wp2_with (go_at_call 20; refine Hid.out ?_)
    unfold Hid
    refine (sameT_any p.st p.path A5 B5 p.l c5 f5 p.bd A6 B6 c6 f6 _ hr5.rd hy5.rd hr6.rd hy6.rd hpl).mono ?_
    rintro e w8 ⟨rfl, hb⟩
    clear p0 p1 p2 p3 r0 r1 r2 r3 pl rl b5 b6 hr5 hy5 hr6 hy6
    clear q0 q1 q2 q3 n0 n1 n2 n3 ql nl
    have mb := mb.below hb mb.lt
    have nb := nb.below hb nb.lt
    have hr := hr.below hb
    have hy := hy.below hb
    have hr2 := hr2.below hb
    have hy2 := hy2.below hb
    have hB := hB.trans (hb.mono hB.size)
    have hL := hL.below hb
    obtain ⟨q0, q1, q2, q3⟩ := mb.c4
    obtain ⟨n0, n1, n2, n3⟩ := nb.c4
    have ql := mb.lt
    have nl := nb.lt
    clear hb
    go_wp2_with (go_at_call 50; refine Hid.out ?_)
    unfold Hid
    refine (answer_any n h.text _).mono ?_
    rintro e w9 ⟨g7, c7, rfl, y7, _, hb⟩
    clear q0 q1 q2 q3 n0 n1 n2 n3 ql nl
    have mb := mb.below hb mb.lt
    have nb := nb.below hb nb.lt
    have hr := hr.below hb
    have hy := hy.below hb
    have hr2 := hr2.below hb
    have hy2 := hy2.below hb
    have hB := hB.trans (hb.mono hB.size)
    have hL := hL.below hb
    obtain ⟨q0, q1, q2, q3⟩ := mb.c4
    obtain ⟨n0, n1, n2, n3⟩ := nb.c4
    have ql := mb.lt
    have nl := nb.lt
    clear hb
    go_wp2_with (go_at_call 51; refine Hid.out ?_)
    unfold Hid
    refine (say_any n h.text _).mono ?_
    rintro e w10 ⟨g8, c8, rfl, y8, _, hb⟩
    have y7 := y7.below hb
    clear q0 q1 q2 q3 n0 n1 n2 n3 ql nl
    have mb := mb.below hb mb.lt
    have nb := nb.below hb nb.lt
    have hr := hr.below hb
    have hy := hy.below hb
    have hr2 := hr2.below hb
    have hy2 := hy2.below hb
    have hB := hB.trans (hb.mono hB.size)
    have hL := hL.below hb
    obtain ⟨q0, q1, q2, q3⟩ := mb.c4
    obtain ⟨n0, n1, n2, n3⟩ := nb.c4
    have ql := mb.lt
    have nl := nb.lt
    clear hb
    go_wp2_with (go_at_call 20; refine Hid.out ?_)
    unfold Hid
    refine (sameT_any n ⟨#[]⟩ none (some ⟨g7, 0, none⟩) [] 0 c7 h.text.data.toList none (some ⟨g8, 0, none⟩) 0 c8 _ (RdS.nil_ (S := fun _ => True)).rd (y7.rds (Nat.zero_le _)).rd (RdS.nil_ (S := fun _ => True)).rd (y8.rds (Nat.zero_le _)).rd (by decide)).mono ?_
    rintro e w11 ⟨rfl, hb⟩
    clear q0 q1 q2 q3 n0 n1 n2 n3 ql nl
    have mb := mb.below hb mb.lt
    have nb := nb.below hb nb.lt
    have hr := hr.below hb
    have hy := hy.below hb
    have hr2 := hr2.below hb
    have hy2 := hy2.below hb
    have hB := hB.trans (hb.mono hB.size)
    have hL := hL.below hb
    obtain ⟨q0, q1, q2, q3⟩ := mb.c4
    obtain ⟨n0, n1, n2, n3⟩ := nb.c4
    have ql := mb.lt
    have nl := nb.lt
    clear hb y7 y8
    go_wp2_with (go_at_call 52; refine Hid.out ?_)
    unfold Hid
    refine (HG1.out _ hr.rd).mono ?_
    rintro e w12 ⟨rfl, hb⟩
    clear q0 q1 q2 q3 n0 n1 n2 n3 ql nl
    have mb := mb.below hb mb.lt
    have nb := nb.below hb nb.lt
    have hr := hr.below hb
    have hy := hy.below hb
    have hr2 := hr2.below hb
    have hy2 := hy2.below hb
    have hB := hB.trans (hb.mono hB.size)
    have hL := hL.below hb
    obtain ⟨q0, q1, q2, q3⟩ := mb.c4
    obtain ⟨n0, n1, n2, n3⟩ := nb.c4
    have ql := mb.lt
    have nl := nb.lt
    clear hb
    go_wp2_with (go_at_call 53; refine Hid.out ?_)
    unfold Hid
    refine (HG2.out _ hr.rd).mono ?_
    rintro e w13 ⟨rfl, hb⟩
    clear q0 q1 q2 q3 n0 n1 n2 n3 ql nl
    have mb := mb.below hb mb.lt
    have nb := nb.below hb nb.lt
    have hr := hr.below hb
    have hy := hy.below hb
    have hr2 := hr2.below hb
    have hy2 := hy2.below hb
    have hB := hB.trans (hb.mono hB.size)
    have hL := hL.below hb
    obtain ⟨q0, q1, q2, q3⟩ := mb.c4
    obtain ⟨n0, n1, n2, n3⟩ := nb.c4
    have ql := mb.lt
    have nl := nb.lt
    clear hb HG1 HG2
    have gx := str_yes (rfl : x = x)
    have gy : (y == y) = true := by cases y <;> rfl
    go_upto_region 11 with fail
    go_region_held3 (fun wx => wx.cell? ⟨w.heap.size, 0, none⟩ = some (.int .i64 st) ∧ wx.cell? ⟨w.heap.size, 1, none⟩ = some (.string path) ∧ wx.cell? ⟨w.heap.size, 2, none⟩ = some (.slice A l.length c) ∧ wx.cell? ⟨w.heap.size, 3, none⟩ = some (.slice AB bd.length cb) ∧ wx.cell? ⟨w.heap.size + 1, 0, none⟩ = some (.int .i64 st2) ∧ wx.cell? ⟨w.heap.size + 1, 1, none⟩ = some (.string path2) ∧ wx.cell? ⟨w.heap.size + 1, 2, none⟩ = some (.slice A2 l2.length c2) ∧ wx.cell? ⟨w.heap.size + 1, 3, none⟩ = some (.slice AB2 bd2.length cb2)) (exact ⟨q0, q1, q2, q3, n0, n1, n2, n3⟩)
        (first
        | (go_at_call 54
           with_reducible refine (set_any st path A l c AB bd cb h _ ?_ ?_ hn hm).mono ?_
           · exact hr.rd
           · exact hy.rd
           rintro e w3 ⟨A3, c3, B3, d3, rfl, ow, hb⟩
           repeat (have hb := below_undrewR hb)
           have mb := mb.below hb mb.lt
           have nb := nb.below hb nb.lt
           have hr := hr.below hb
           have hy := hy.below hb
           have hr2 := hr2.below hb
           have hy2 := hy2.below hb
           have hB := hB.trans (hb.mono hB.size)
           have hL := hL.below hb
           obtain ⟨q0, q1, q2, q3⟩ := mb.c4
           obtain ⟨n0, n1, n2, n3⟩ := nb.c4
           have ql := mb.lt
           have nl := nb.lt)
        | (go_at_call 55
           with_reducible refine (refset_any st path A l c AB bd cb h _ ?_ hn).mono ?_
           · exact hr.rd
           rintro e w3 ⟨A4, c4, rfl, ow4, hb⟩
           repeat (have hb := below_undrewR hb)
           have mb := mb.below hb mb.lt
           have nb := nb.below hb nb.lt
           have hr := hr.below hb
           have hy := hy.below hb
           have hr2 := hr2.below hb
           have hy2 := hy2.below hb
           have hB := hB.trans (hb.mono hB.size)
           have hL := hL.below hb
           obtain ⟨q0, q1, q2, q3⟩ := mb.c4
           obtain ⟨n0, n1, n2, n3⟩ := nb.c4
           have ql := mb.lt
           have nl := nb.lt
           have ow := ow.below hb)
        | (go_at_call 20
           with_reducible refine (sameT_any st path A3 B3 (setP l h) c3 d3 bd A4 AB c4 cb _ ?_ ?_ ?_ ?_ hsl).mono ?_
           · exact ow.h.rd
           · exact ow.y.rd
           · exact ow4.rd
           · exact hy.rd
           rintro e w3 ⟨rfl, hb⟩
           repeat (have hb := below_undrewR hb)
           have mb := mb.below hb mb.lt
           have nb := nb.below hb nb.lt
           have hr := hr.below hb
           have hy := hy.below hb
           have hr2 := hr2.below hb
           have hy2 := hy2.below hb
           have hB := hB.trans (hb.mono hB.size)
           have hL := hL.below hb
           obtain ⟨q0, q1, q2, q3⟩ := mb.c4
           obtain ⟨n0, n1, n2, n3⟩ := nb.c4
           have ql := mb.lt
           have nl := nb.lt))
    all_goals
      go_wp2
      go_ret
      exact ⟨rfl, hB⟩
end Go.Proofs.YtmcjgfoaiannoabDoor
