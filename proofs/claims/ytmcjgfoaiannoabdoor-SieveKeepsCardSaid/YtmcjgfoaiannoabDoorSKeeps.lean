/-
  The walk of SieveKeeps: it answers true. Condition: the arguments can be read.
-/
import Derived.Test.YtmcjgfoaiannoabDoorSKLaw
import Derived.Test.YtmcjgfoaiannoabDoorSTells
import Derived.Test.YtmcjgfoaiannoabDoorMRWr
import Derived.Test.YtmcjgfoaiannoabDoorGateW
namespace Go.Proofs.YtmcjgfoaiannoabDoor
open Go.RowKit Go.Lib

theorem askP_path (k n : Int) (h : Hd) (m : Mg) (g : Int) (hp : m.path.size ≤ 140737488355328) : (askP k n h m g).2.1.path.size ≤ 140737488355328 := by
  unfold askP
  by_cases h1 : k = 1
  · rw [if_pos h1]
    exact hp
  rw [if_neg h1]
  by_cases h3 : k = 3
  · rw [if_pos h3]
    split
    · exact hp
    · exact Nat.zero_le _
  rw [if_neg h3]
  by_cases h4 : k = 4
  · rw [if_pos h4]
    split
    · exact Nat.zero_le _
    · exact hp
  rw [if_neg h4]
  by_cases h5 : k = 5
  · rw [if_pos h5]
    split
    · exact Nat.zero_le _
    · exact hp
  rw [if_neg h5]
  exact hp
set_option maxRecDepth 100000 in
set_option maxHeartbeats 8000000 in
theorem sieveKeeps_mid (k n : Int) (key text : ByteArray) (m : Mg) (A : Option Addr) (c : Nat) (AB : Option Addr) (cb : Nat) (g : Int) (w : World) (hk : key.size ≤ 140737488355328) (ht : text.size ≤ 140737488355328) (ok : MsgOk w w.heap.size m.st m.path A m.l c AB m.bd cb) :
    Calls Tryd.prog 8 #[sivV k n key text, msgV m.st m.path A m.l.length c AB m.bd.length cb, .int .i64 g] w fun e w' => e = .returned (.bool true) ∧ Below w.heap.size w w' := by
  have hn := ok.hn
  have hm := ok.hm
  have hr := ok.rl
  have hy := ok.rb
  have hp := ok.path_
  obtain ⟨W, hW⟩ : ∃ W, W = (w.alloc (.cells (sivC k n key text) 38)).alloc (.cells (msgC m.st m.path A m.l.length c AB m.bd.length cb) 32) := ⟨_, rfl⟩
  have sb : Blk W w.heap.size 38 (sivC k n key text) := by rw [hW]; exact (Blk.new _ _ _).alloc _
  have mb : Blk W (w.heap.size + 1) 32 (msgC m.st m.path A m.l.length c AB m.bd.length cb) := by rw [hW]; exact Blk.new' _ _ (by simp) _ _
  have hB : Below w.heap.size w W := by rw [hW]; exact ((Below.refl _ w).alloc (Nat.le_refl _) _).alloc (by simp) _
  have H1 := sieveWrong_any k n key text hk ht
  have H2 := fun W h => rwrong_any m.st m.path A AB m.l c m.bd.length cb hp W h
  have H3 := keeps k n ⟨key, text, hk, ht⟩ m g
  obtain ⟨y, hyy⟩ : ∃ y, y = wsP k n key text := ⟨_, rfl⟩
  obtain ⟨z, hzz⟩ : ∃ z, z = wrongP m.st m.path m.l m.bd.length := ⟨_, rfl⟩
  have H3 : y = 0 → z = 0 → m.st = 0 → KeptP m g (askP k n ⟨key, text, hk, ht⟩ m g) := fun h1 h2 h3 => H3 (by rw [← h1, hyy]) (by rw [← h2, hzz]; rfl) h3
  simp only [← hyy] at H1
  simp only [← hzz] at H2
  clear hyy hzz
  have H1 := Lib.hid H1
  have H2 := Lib.hid H2
  have H3 := Lib.hid H3
  clear ok
  go_enter Tryd.func8, Tryd.ntmps8
  go_wp2_with (go_at_call 38; refine Hid.out ?_)
  rw [← hW]
  unfold Hid
  clear hW
  refine (alive5_any W).mono ?_
  rintro e w1 ⟨rfl, hb⟩
  have sb := sb.below hb sb.lt
  have mb := mb.below hb mb.lt
  have hB := hB.trans (hb.mono hB.size)
  clear hb
  have ⟨s0, s1, s2, s3⟩ := sb.c4
  have sl := sb.lt
  go_wp2_with (go_at_call 32; refine Hid.out ?_)
  unfold Hid
  refine (H1.out w1).mono ?_
  rintro e w2 ⟨rfl, hb⟩
  have sb := sb.below hb sb.lt
  have mb := mb.below hb mb.lt
  have hB := hB.trans (hb.mono hB.size)
  clear hb H1 s0 s1 s2 s3 sl
  have ⟨m0, m1, m2, m3⟩ := mb.c4
  have ml := mb.lt
  by_cases hy0 : y ≠ 0
  · have f1 : (y == 0) = false := by simpa using hy0
    have f2 : (y != 0) = true := by simpa using hy0
    clear H2 H3 hy0
    go_wp2
    go_ret
    exact ⟨rfl, hB⟩
  have hy0 := Decidable.not_not.1 hy0
  have H4 := Lib.hid (H3.out hy0)
  clear H3
  subst hy0
  go_wp2_with (go_at_call 24; refine Hid.out ?_)
  unfold Hid
  refine (H2.out w2 (hr.up hB)).mono ?_
  rintro e w3 ⟨rfl, hb⟩
  have sb := sb.below hb sb.lt
  have mb := mb.below hb mb.lt
  have hB := hB.trans (hb.mono hB.size)
  clear hb H2 m0 m1 m2 m3 ml
  have ⟨m0, m1, m2, m3⟩ := mb.c4
  have ml := mb.lt
  by_cases hz0 : z ≠ 0
  · have f1 : (z == 0) = false := by simpa using hz0
    have f2 : (z != 0) = true := by simpa using hz0
    clear H4 hz0
    go_wp2
    go_ret
    exact ⟨rfl, hB⟩
  have hz0 := Decidable.not_not.1 hz0
  have H5 := Lib.hid (H4.out hz0)
  clear H4
  subst hz0
  by_cases hst : m.st ≠ 0
  · have f1 : (m.st == 0) = false := by simpa using hst
    have f2 : (m.st != 0) = true := by simpa using hst
    clear H5 hst
    go_wp2
    go_ret
    exact ⟨rfl, hB⟩
  have hst := Decidable.not_not.1 hst
  have hkp := H5.out hst
  clear H5
  have f1 : (m.st == 0) = true := by simp [hst]
  have f2 : (m.st != 0) = false := by simp [hst]
  by_cases g1 : g < 0
  · clear hst hkp
    go_wp2
    go_ret
    exact ⟨rfl, hB⟩
  by_cases g2 : 100 < g
  · clear hst hkp
    go_wp2
    go_ret
    exact ⟨rfl, hB⟩
  have HA1 := ask_any k n key text hk ht m A AB c cb g w3 (hr.up hB) (hy.up hB) hn hm (by omega) (by omega)
  obtain ⟨rv, hrv⟩ : ∃ v, v = askP k n ⟨key, text, hk, ht⟩ m g := ⟨_, rfl⟩
  rw [← hrv] at HA1 hkp
  have hlen : rv.2.1.path.size ≤ 140737488355328 := by rw [hrv]; exact askP_path k n ⟨key, text, hk, ht⟩ m g hp
  clear hrv
  obtain ⟨d, M, gg⟩ := rv
  obtain ⟨kw, kg1, kg2, kd⟩ := hkp
  have kg1 : g ≤ gg := kg1
  have kg2 : gg ≤ g + 1 := kg2
  have HKD := Lib.hid kd
  have HKW := Lib.hid kw
  clear kd kw hst
  have ⟨s0, s1, s2, s3⟩ := sb.c4
  have sl := sb.lt
  go_wp2_with (go_at_call 34; refine Hid.out ?_)
  unfold Hid
  refine HA1.mono ?_
  rintro e w4 ⟨A1, c1, B1, f1', rfl, hx, hz, hb⟩
  have mb := mb.below hb ml
  have hx := hx.rd
  have hz := hz.rd
  have hB := hB.trans (hb.mono hB.size)
  clear hb s0 s1 s2 s3 m0 m1 m2 m3 sl ml HA1 sb f1 f2
  obtain ⟨KX, hKX⟩ : ∃ K, K = w4.heap.size := ⟨_, rfl⟩
  obtain ⟨w5, hw5⟩ : ∃ W, W = w4.alloc (.cells (mgC M A1 c1 B1 f1') 32) := ⟨_, rfl⟩
  have hb2 : Below w4.heap.size w4 w5 := by rw [hw5]; exact (Below.refl _ _).alloc (Nat.le_refl _) _
  have xb : Blk w5 KX 32 (mgC M A1 c1 B1 f1') := by rw [hw5, hKX]; exact Blk.new _ _ _
  have mb := mb.below hb2 mb.lt
  have hx := hx.up hb2
  have hz := hz.up hb2
  have hB := hB.trans (hb2.mono hB.size)
  clear hb2
  have ⟨x0, x1, x2, x3⟩ := xb.c4
  have xl := xb.lt
  have hC := rwrong_any M.st M.path A1 B1 M.l c1 M.bd.length f1' hlen w5 hx
  have hC : Calls Tryd.prog 24 #[msgV M.st M.path A1 M.l.length c1 B1 M.bd.length f1'] w5 fun e w' => e = .returned (.int .i64 0) ∧ Below w5.heap.size w5 w' := by
    have e0 : wrongP M.st M.path M.l M.bd.length = 0 := HKW.out
    rw [e0] at hC
    exact hC
  clear HKW
  go_wp2_with (go_at_call 24; refine Hid.out ?_)
  unfold Hid
  rw [← hw5, ← hKX]
  clear hw5 hKX
  refine hC.mono ?_
  rintro e w6 ⟨rfl, hb⟩
  have xb := xb.below hb xl
  have mb := mb.below hb mb.lt
  have hz := hz.up hb
  have hB := hB.trans (hb.mono hB.size)
  clear hb x0 x1 x2 x3 xl hx hC
  have ⟨x0, x1, x2, x3⟩ := xb.c4
  have xl := xb.lt
  have ⟨m0, m1, m2, m3⟩ := mb.c4
  have ml := mb.lt
  have hwr : IntKind.i64.wrap (g + 1) = g + 1 := IntWalk.i64_in _ (by omega)
  rcases HKD.out with ⟨b1, b2, b3⟩ | ⟨b1, b2, b3, b4⟩
  · have kd1 : d = 1 := b1
    have kd2 : 400 ≤ M.st := b2
    have kd3 : gg = g := b3
    clear b1 b2 b3
    subst kd1 kd3
    clear HKD
    go_wp2
    go_ret
    exact ⟨by simp, hB⟩
  · have kd1 : d = 0 := b1
    have kd2 : M.st = 0 := b2
    have kd3 : M.path = m.path := b3
    have kd4 : M.bd = m.bd := b4
    clear b1 b2 b3 b4
    have g3 := str_yes kd3
    have g4 : (M.bd == m.bd) = true := by simp [kd4]
    have g5 : (M.st == 0) = true := by simp [kd2]
    have hc1 := conv_any hz f1'
    have hc2 := conv_any (hy.up hB) cb
    subst kd1
    clear HKD kd2 kd3 kd4
    go_wp2
    go_ret
    exact ⟨by simp, hB⟩
theorem sieveKeeps_walk (k n : Int) (key text : ByteArray) (st : Int) (path : ByteArray) (A : Option Addr) (l : List Hd) (c : Nat) (AB : Option Addr) (bd : List UInt8) (cb : Nat) (g : Int) (w : World) (_ : (Lit.int .i64 k).wf = true) (_ : (Lit.int .i64 n).wf = true) (hk : key.size ≤ 140737488355328) (ht : text.size ≤ 140737488355328) (ok : MsgOk w w.heap.size st path A l c AB bd cb) (_ : (Lit.int .i64 g).wf = true) :
    Calls Tryd.prog 8 #[sivV k n key text, msgV st path A l.length c AB bd.length cb, .int .i64 g] w fun e w' => e = .returned (.bool true) ∧ Below w.heap.size w w' :=
  sieveKeeps_mid k n key text ⟨st, path, l, bd⟩ A c AB cb g w hk ht ok
end Go.Proofs.YtmcjgfoaiannoabDoor
