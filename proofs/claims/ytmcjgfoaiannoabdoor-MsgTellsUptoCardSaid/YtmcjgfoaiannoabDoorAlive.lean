/-
  The law's own little test of the messages, which answers yes. Conditions: the library's tables and errors lie where they lie.
-/
import Derived.Test.YtmcjgfoaiannoabDoorPRParse
import Derived.Test.YtmcjgfoaiannoabDoorPSame
import Derived.Test.YtmcjgfoaiannoabDoorMSet
import Derived.Test.YtmcjgfoaiannoabDoorMGet
import Derived.Test.YtmcjgfoaiannoabDoorMRSet
import Derived.Test.YtmcjgfoaiannoabDoorMPath
import Derived.Test.YtmcjgfoaiannoabDoorMWr2
import Derived.Test.YtmcjgfoaiannoabDoorSAns
import Derived.Lib.SmallJoins
namespace Go.Proofs.YtmcjgfoaiannoabDoor
open Go.RowKit Go.Lib
def hd0 : Hd := ⟨⟨#[107]⟩, ⟨#[118, 32, 119]⟩, by decide, by decide⟩
def hd1 : Hd := ⟨⟨#[113]⟩, ⟨#[122]⟩, by decide, by decide⟩
def m0 : Mg := ⟨0, ⟨#[47, 97]⟩, [hd0], [98, 10, 99]⟩
def tx0 : ByteArray := ⟨#[97, 115, 107, 32, 47, 97, 10, 107, 61, 118, 32, 119, 10, 10, 98, 10, 99]⟩
theorem tx0_eq : mtxP m0 = (tx0, 0) := by kernel_rfl
theorem m0_eq : parseP tx0.data.toList = (m0, 0) := by kernel_rfl
theorem w0_eq : wrongP m0.st m0.path m0.l 3 = 0 := by kernel_rfl
theorem g0_eq : getP (setP m0.l hd1) ⟨#[113]⟩ = (⟨#[122]⟩, true) := by kernel_rfl
theorem k0_eq : keyP ⟨#[97, 98]⟩ = true := by kernel_rfl
theorem p0_eq : pathP ⟨#[47]⟩ = true := by kernel_rfl
theorem fld0 (st : Int) (path : ByteArray) (A : Option Addr) (n c : Nat) (B : Option Addr) (m d : Nat) (w : World) : (Instr.field 32 (.agg #[.int .i64 st, .string path, .slice A n c, .slice B m d]) 0).run Tryd.prog w = .ok (.int .i64 st) w := by kernel_rfl
theorem fld2 (st : Int) (path : ByteArray) (A : Option Addr) (n c : Nat) (B : Option Addr) (m d : Nat) (w : World) : (Instr.field 32 (.agg #[.int .i64 st, .string path, .slice A n c, .slice B m d]) 2).run Tryd.prog w = .ok (.slice A n c) w := by kernel_rfl
set_option maxRecDepth 100000 in
set_option maxHeartbeats 16000000 in
theorem alive_any (w : World) (hL : Libs w) : Calls Tryd.prog 56 #[] w fun e w' => e = .returned (.bool true) ∧ Below w.heap.size w w' := by
  obtain ⟨wa, hwa⟩ : ∃ W, W = w.alloc (.cells #[.string ⟨#[107]⟩, .string ⟨#[118, 32, 119]⟩] 81) := ⟨_, rfl⟩
  obtain ⟨wb, hwb⟩ : ∃ W, W = wa.alloc (.cells #[.int .u8 98, .int .u8 10, .int .u8 99] 5 (3, 3 + 1)) := ⟨_, rfl⟩
  have hn1 : wa.heap.size = w.heap.size + 1 := by rw [hwa]; simp
  have kc := Go.Joins.run_convert_bytes_const_at (P := Tryd.prog) wa 30 5 #[.int .u8 98, .int .u8 10, .int .u8 99] 3 3 (w.heap.size + 1) hn1.symm Tryd.underlying30 Tryd.underlying5
  rw [hwa] at kc
  obtain ⟨w0, hw0⟩ : ∃ W, W = wb.alloc (.cells (msgC 0 ⟨#[47, 97]⟩ (some ⟨w.heap.size, 0, none⟩) 1 1 (some ⟨w.heap.size + 1, 0, none⟩) 3 3) 32) := ⟨_, rfl⟩
  have hn2 : wb.heap.size = w.heap.size + 2 := by rw [hwb]; simp [hn1]
  have mb : Blk w0 (w.heap.size + 2) 32 (msgC 0 ⟨#[47, 97]⟩ (some ⟨w.heap.size, 0, none⟩) 1 1 (some ⟨w.heap.size + 1, 0, none⟩) 3 3) := by rw [hw0, ← hn2]; exact Blk.new _ _ _
  have hB : Below w.heap.size w w0 := by
    rw [hw0, hwb, hwa]
    exact (((Below.refl _ w).alloc (Nat.le_refl _) _).alloc (by simp) _).alloc (by simp; omega) _
  have bab : Below wa.heap.size wa wb := by rw [hwb]; exact (Below.refl _ _).alloc (Nat.le_refl _) _
  have bb0 : Below wb.heap.size wb w0 := by rw [hw0]; exact (Below.refl _ _).alloc (Nat.le_refl _) _
  have hl1 : RdS 2 encHd wa (w.heap.size ≤ ·) (some ⟨w.heap.size, 0, none⟩) m0.l := by
    intro _
    refine ⟨w.heap.size, 0, rfl, Nat.le_refl _, by omega, ?_⟩
    intro i x hx j u hu
    have hi : i = 0 := by
      rcases i with _ | i
      · rfl
      · simp [m0] at hx
    subst hi
    obtain rfl : hd0 = x := by simpa [m0] using hx
    have e1 : wa.cell? ⟨w.heap.size, 0 + 0 * 2 + j, none⟩ = (#[Value.string ⟨#[107]⟩, .string ⟨#[118, 32, 119]⟩])[j]? := by
      rw [hwa]
      simp
    rw [e1, ← hu]
    simp [encHd, hd0]
  have hl0 := (hl1.below bab).below bb0
  have hy1 : RdS 1 encY wb (w.heap.size ≤ ·) (some ⟨w.heap.size + 1, 0, none⟩) m0.bd := by
    have h1 := (byt_new wa ⟨#[98, 10, 99]⟩ 3 (3, 3 + 1)).rds (base := w.heap.size) (by omega)
    rw [hn1] at h1
    rw [show bytesRow ⟨#[98, 10, 99]⟩ 3 = #[.int .u8 98, .int .u8 10, .int .u8 99] by kernel_rfl] at h1
    rw [hwb]
    exact h1
  have hy0 := hy1.below bb0
  have hL0 := hL.below hB
  have kc2 := kc
  obtain ⟨K, hK⟩ : ∃ K, K = w.heap.size + 1 + 1 := ⟨_, rfl⟩
  have mb : Blk w0 K 32 (msgC 0 ⟨#[47, 97]⟩ (some ⟨w.heap.size, 0, none⟩) 1 1 (some ⟨w.heap.size + 1, 0, none⟩) 3 3) := by rw [hK]; exact mb
  have hl := hl0
  have hy := hy0
  have hL := hL0
  have hlK : w.heap.size < K := by omega
  clear hl0 hy0 hL0 hl1 hy1 bab bb0 hn1 hn2 kc2
  go_enter Tryd.func56, Tryd.ntmps56
  go_wp2_with (go_at_call 39; refine Hid.out ?_)
  rw [← hwa]
  rw [← hwb]
  rw [← hw0, ← hK]
  clear kc hwa hwb hw0 hK
  unfold Hid
  refine (text_any39 m0 (some ⟨w.heap.size, 0, none⟩) (some ⟨w.heap.size + 1, 0, none⟩) 1 3 (by decide) (by decide) (by decide) w0 hl.rd hy.rd hL).mono ?_
  rintro e w1 ⟨rfl, hb⟩
  rw [tx0_eq]
  unfold stup
  have mb := mb.below hb mb.lt
  have hl := hl.below hb
  have hy := hy.below hb
  have hB := hB.trans (hb.mono hB.size)
  have hL := hL.below hb
  clear hb
  go_wp2_with (go_at_call 48; refine Hid.out ?_)
  unfold Hid
  have hP := parse_any tx0 (by decide) w1 hL
  rw [m0_eq] at hP
  refine hP.mono ?_
  rintro e w2 ⟨A, c, B, f, rfl, hr, hy', hc, hc2, hb⟩
  have mb := mb.below hb mb.lt
  have hl := hl.below hb
  have hy := hy.below hb
  have hB := hB.trans (hb.mono hB.size)
  have hL := hL.below hb
  clear hb hP
  obtain ⟨N, hN⟩ : ∃ N, N = w2.heap.size := ⟨_, rfl⟩
  obtain ⟨w3, hw3⟩ : ∃ W, W = w2.alloc (.cells (msgC m0.st m0.path A m0.l.length c B m0.bd.length f) 32) := ⟨_, rfl⟩
  have nb : Blk w3 N 32 (msgC m0.st m0.path A m0.l.length c B m0.bd.length f) := by rw [hw3, hN]; exact Blk.new _ _ _
  have hb3 : Below w2.heap.size w2 w3 := by rw [hw3]; exact (Below.refl _ _).alloc (Nat.le_refl _) _
  have hKN : K < N := by rw [hN]; exact mb.lt
  have mb := mb.below hb3 mb.lt
  have hl := hl.below hb3
  have hy := hy.below hb3
  have hr := hr.below hb3
  have hy' := hy'.below hb3
  have hB := hB.trans (hb3.mono hB.size)
  have hL := hL.below hb3
  clear hb3
  have ⟨q0, q1, q2, q3⟩ := mb.c4
  have ql := mb.lt
  have hS := set_any 0 ⟨#[47, 97]⟩ (some ⟨w.heap.size, 0, none⟩) m0.l 1 (some ⟨w.heap.size + 1, 0, none⟩) m0.bd 3 hd1 w3 hl.rd hy.rd (by decide) (by decide)
  go_upto_region 4 with fail
  rw [← hw3, ← hN]
  clear hw3 hN
  go_wp2_with (go_at_call 54; refine Hid.out ?_)
  unfold Hid
  refine hS.mono ?_
  rintro e w4 ⟨A2, c2, B2, d2, rfl, ow, hb⟩
  have mb := mb.below hb mb.lt
  have nb := nb.below hb nb.lt
  have hl := hl.below hb
  have hy := hy.below hb
  have hr := hr.below hb
  have hy' := hy'.below hb
  have hB := hB.trans (hb.mono hB.size)
  have hL := hL.below hb
  clear hb hS q0 q1 q2 q3 ql
  have hG := get_any 0 ⟨#[47, 97]⟩ A2 B2 (setP m0.l hd1) c2 m0.bd.length d2 ⟨#[113]⟩ w4 ow.h.rd (by decide)
  rw [g0_eq] at hG
  go_wp2_with (go_at_call 52; refine Hid.out ?_)
  unfold Hid
  refine hG.mono ?_
  rintro e w5 ⟨rfl, hb⟩
  unfold gtup
  have mb := mb.below hb mb.lt
  have nb := nb.below hb nb.lt
  have hl := hl.below hb
  have hy := hy.below hb
  have hr := hr.below hb
  have hy' := hy'.below hb
  have hB := hB.trans (hb.mono hB.size)
  have hL := hL.below hb
  clear hb hG ow
  have ⟨q0, q1, q2, q3⟩ := mb.c4
  have ⟨n0, n1, n2, n3⟩ := nb.c4
  have ql := mb.lt
  have nl := nb.lt
  have htx : (tx0.toList == [97, 115, 107, 32, 47, 97, 10, 107, 61, 118, 32, 119, 10, 10, 98, 10, 99]) = true := by rw [str_lit]; exact decide_eq_true rfl
  go_wp2_with (go_at_call 47; refine Hid.out ?_)
  unfold Hid
  have hE := same47_any 0 ⟨#[47, 97]⟩ (some ⟨w.heap.size, 0, none⟩) (some ⟨w.heap.size + 1, 0, none⟩) m0.l 1 3 m0.bd m0.st m0.path A B m0.l c f m0.bd w5 hl.rd hy.rd hr.rd hy'.rd (by decide) (by decide)
  rw [show sameP 0 ⟨#[47, 97]⟩ m0.l m0.bd m0.st m0.path m0.l m0.bd = true from sameP_refl _ _ _ _] at hE
  refine hE.mono ?_
  rintro e w6 ⟨rfl, hb⟩
  clear hE hr hy' nb n0 n1 n2 n3 nl
  have mb := mb.below hb mb.lt
  have hl := hl.below hb
  have hy := hy.below hb
  have hB := hB.trans (hb.mono hB.size)
  have hL := hL.below hb
  clear hb q0 q1 q2 q3 ql
  have ⟨q0, q1, q2, q3⟩ := mb.c4
  have ql := mb.lt
  go_wp2_with (go_at_call 41; refine Hid.out ?_)
  unfold Hid
  have hW := wrong_anyC 0 ⟨#[47, 97]⟩ (some ⟨w.heap.size, 0, none⟩) (some ⟨w.heap.size + 1, 0, none⟩) m0.l 1 3 3 (by decide) (by decide) (by decide) w6 hl.rd
  rw [show wrongP 0 ⟨#[47, 97]⟩ m0.l 3 = 0 from w0_eq] at hW
  refine hW.mono ?_
  rintro e w7 ⟨rfl, hb⟩
  clear hW
  have mb := mb.below hb mb.lt
  have hl := hl.below hb
  have hy := hy.below hb
  have hB := hB.trans (hb.mono hB.size)
  have hL := hL.below hb
  clear hb q0 q1 q2 q3 ql
  have ⟨q0, q1, q2, q3⟩ := mb.c4
  have ql := mb.lt
  go_wp2_with (go_at_call 42; refine Hid.out ?_)
  unfold Hid
  have hW := key_any ⟨#[97, 98]⟩ (by decide) w7
  rw [k0_eq] at hW
  refine hW.mono ?_
  rintro e w8 ⟨rfl, hb⟩
  clear hW
  have mb := mb.below hb mb.lt
  have hl := hl.below hb
  have hy := hy.below hb
  have hB := hB.trans (hb.mono hB.size)
  have hL := hL.below hb
  clear hb q0 q1 q2 q3 ql
  have ⟨q0, q1, q2, q3⟩ := mb.c4
  have ql := mb.lt
  go_wp2_with (go_at_call 44; refine Hid.out ?_)
  unfold Hid
  have hW := path_any ⟨#[47]⟩ (by decide) w8
  rw [p0_eq] at hW
  refine hW.mono ?_
  rintro e w9 ⟨rfl, hb⟩
  clear hW
  have mb := mb.below hb mb.lt
  have hl := hl.below hb
  have hy := hy.below hb
  have hB := hB.trans (hb.mono hB.size)
  have hL := hL.below hb
  clear hb q0 q1 q2 q3 ql
  have ⟨q0, q1, q2, q3⟩ := mb.c4
  have ql := mb.lt
  go_wp2_with (go_at_call 50; refine Hid.out ?_)
  unfold Hid
  refine (answer_any 404 ⟨#[120]⟩ w9).mono ?_
  rintro e w10 ⟨g1, c1, rfl, _, _, hb⟩
  have F0 := fun W => fld0 404 ⟨#[]⟩ none 0 0 (some ⟨g1, 0, none⟩) 1 c1 W
  unfold sayV sayC
  have mb := mb.below hb mb.lt
  have hl := hl.below hb
  have hy := hy.below hb
  have hB := hB.trans (hb.mono hB.size)
  have hL := hL.below hb
  clear hb q0 q1 q2 q3 ql
  have ⟨q0, q1, q2, q3⟩ := mb.c4
  have ql := mb.lt
  go_wp2_with (go_at_call 46; refine Hid.out ?_)
  unfold Hid
  refine (own_any 0 ⟨#[47, 97]⟩ (some ⟨w.heap.size, 0, none⟩) m0.l 1 (some ⟨w.heap.size + 1, 0, none⟩) m0.bd 3 w10 hl.rd hy.rd (by decide) (by decide)).mono ?_
  rintro e w11 ⟨A3, c3, B3, d3, rfl, _, hb⟩
  have hB := hB.trans (hb.mono hB.size)
  have hl1 : m0.l.length = 1 := rfl
  have F2 := fun W => fld2 0 ⟨#[47, 97]⟩ A3 1 c3 B3 m0.bd.length d3 W
  unfold msgV msgC
  rw [hl1]
  go_wp2
  go_ret
  exact ⟨rfl, hB⟩
end Go.Proofs.YtmcjgfoaiannoabDoor
