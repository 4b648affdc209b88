/-
  MsgTurns' walk. Condition: what the message and the text hold can be read, and is small; the library's tables and errors lie where they lie.
-/
import Derived.Test.YtmcjgfoaiannoabDoorAlive
import Derived.Test.YtmcjgfoaiannoabDoorPLibs
import Derived.Test.YtmcjgfoaiannoabDoorBMsg
namespace Go.Proofs.YtmcjgfoaiannoabDoor
open Go.RowKit Go.Lib

theorem lines_len : ∀ l : List Hd, (∀ x ∈ l, goodH x = true) → (linesL l).length ≤ 30 * l.length
  | [], _ => by simp [linesL]
  | x :: l, h => by
    have ih := lines_len l (fun y hy => h y (List.mem_cons_of_mem _ hy))
    have g := good_size (h x (List.mem_cons_self ..))
    have e1 : x.key.data.toList.length = x.key.size := by rw [Array.length_toList]; rfl
    have e2 : x.text.data.toList.length = x.text.size := by rw [Array.length_toList]; rfl
    unfold linesL at ih ⊢
    rw [List.flatMap_cons, List.length_append, List.length_append, List.length_cons, List.length_append, List.length_cons, List.length_cons, e1, e2]
    simp only [List.length_nil]
    omega
theorem text_small {m : Mg} (h : wrongM m = 0) : (textL m).length ≤ 1048576 := by
  obtain ⟨_, h1, h2, h3⟩ := wrong0.1 h
  have hl := lines_len m.l (hdsP_iff.1 h3).1
  have e1 : m.path.data.toList.length = m.path.size := by rw [Array.length_toList]; rfl
  have e2 : (itoaB m.st).data.toList.length = (itoaB m.st).size := by rw [Array.length_toList]; rfl
  have a1 : askB.data.toList.length = 3 := rfl
  have a2 : sayB.data.toList.length = 3 := rfl
  unfold textL
  rcases wf_st h with ⟨hs, hp⟩ | ⟨hs1, hs2, _⟩
  · rw [if_pos hs, List.length_append, List.length_append, List.length_cons, List.length_cons, List.length_append, List.length_cons, e1, a1]
    omega
  · have hz := itoaB_size (wf_small hs1 hs2)
    rw [if_neg (by omega), List.length_append, List.length_append, List.length_cons, List.length_cons, List.length_append, List.length_cons, e2, a2]
    omega
set_option maxRecDepth 100000 in
set_option maxHeartbeats 16000000 in
theorem msgTurns_mid (m : Mg) (A : Option Addr) (c : Nat) (AB : Option Addr) (cb : Nat) (s : ByteArray) (w : World) (ok : MsgOk w w.heap.size m.st m.path A m.l c AB m.bd cb) (hL : Libs w) (hs : s.size ≤ 1048576) :
    Calls Tryd.prog 11 #[msgV m.st m.path A m.l.length c AB m.bd.length cb, .string s] w fun e w' => e = .returned (.bool true) ∧ Below w.heap.size w w' := by
  have b1 := ok.lc
  have b2 := ok.cc
  have b3 := ok.bc
  have b4 := ok.cb_
  have hm : m.bd.length ≤ 140737488355328 := by omega
  have hll : m.l.length ≤ 140737488355328 := by omega
  have hcc : c ≤ 9223372036854775807 := by omega
  have hpz := ok.path_
  obtain ⟨w0, hw0⟩ : ∃ W, W = w.alloc (.cells (msgC m.st m.path A m.l.length c AB m.bd.length cb) 32) := ⟨_, rfl⟩
  have mb : Blk w0 w.heap.size 32 (msgC m.st m.path A m.l.length c AB m.bd.length cb) := by rw [hw0]; exact Blk.new _ _ _
  have hB : Below w.heap.size w w0 := by rw [hw0]; exact (Below.refl _ w).alloc (Nat.le_refl _) _
  have hr := (RdS.of_rd ok.rl (Nat.le_refl _)).below hB
  have hy := (RdS.of_rd ok.rb (Nat.le_refl _)).below hB
  have hL := hL.below hB
  go_enter Tryd.func11, Tryd.ntmps11
  go_wp2_with (go_at_call 56; refine Hid.out ?_)
  unfold Hid
  rw [← hw0]
  clear hw0
  refine (alive_any w0 hL).mono ?_
  rintro e w1 ⟨rfl, hb⟩
  have mb := mb.below hb mb.lt
  have hr := hr.below hb
  have hy := hy.below hb
  have hB := hB.trans (hb.mono hB.size)
  have hL := hL.below hb
  clear hb
  have ⟨q0, q1, q2, q3⟩ := mb.c4
  have ql := mb.lt
  have hW := wrong_anyC m.st m.path A AB m.l c m.bd.length cb hpz b1 hcc w1 hr.rd
  obtain ⟨z, hz⟩ : ∃ z, z = wrongP m.st m.path m.l m.bd.length := ⟨_, rfl⟩
  have hzM : z = wrongM m := hz
  rw [← hz] at hW
  have HZ := Lib.hid hzM
  clear hz hzM
  go_wp2_with (go_at_call 41; refine Hid.out ?_)
  unfold Hid
  refine hW.mono ?_
  rintro e w2 ⟨rfl, hb⟩
  have mb := mb.below hb mb.lt
  have hr := hr.below hb
  have hy := hy.below hb
  have hB := hB.trans (hb.mono hB.size)
  have hL := hL.below hb
  clear hb hW q0 q1 q2 q3 ql
  have ⟨q0, q1, q2, q3⟩ := mb.c4
  have ql := mb.lt
  by_cases hz0 : z = 0
  · have hw0 : wrongM m = 0 := HZ.out.symm.trans hz0
    have hmt : mtxP m = (bs (textL m), 0) := by
      unfold mtxP
      rw [if_pos hw0]
    have hT := text_any39 m A AB c cb hpz b1 hcc w2 hr.rd hy.rd hL
    rw [hmt] at hT
    unfold stup at hT
    dsimp only at hT
    have hpt := parse_text hw0
    obtain ⟨tx, htx⟩ : ∃ t, t = bs (textL m) := ⟨_, rfl⟩
    have htz : tx.size ≤ 1048576 := by rw [htx, bs_size]; exact text_small hw0
    have hpt : parseP tx.data.toList = (m, 0) := by rw [htx, bs_list]; exact hpt
    rw [← htx] at hT
    have HPT := Lib.hid hpt
    subst hz0
    clear hw0 hmt hpt htx HZ
    go_wp2_with (go_at_call 39; refine Hid.out ?_)
    unfold Hid
    refine hT.mono ?_
    rintro e w3 ⟨rfl, hb⟩
    have mb := mb.below hb mb.lt
    have hr := hr.below hb
    have hy := hy.below hb
    have hB := hB.trans (hb.mono hB.size)
    have hL := hL.below hb
    clear hb hT q0 q1 q2 q3 ql
    have hP := parse_any tx htz w3 hL
    rw [HPT.out] at hP
    go_wp2_with (go_at_call 48; refine Hid.out ?_)
    unfold Hid
    refine hP.mono ?_
    rintro e w4 ⟨A4, c4, B4, f4, rfl, hr4, hy4, _, _, hb⟩
    dsimp only at hr4 hy4 ⊢
    have mb := mb.below hb mb.lt
    have hr := hr.below hb
    have hy := hy.below hb
    have hB := hB.trans (hb.mono hB.size)
    have hL := hL.below hb
    clear hb hP HPT
    obtain ⟨N7, hN7⟩ : ∃ N, N = w4.heap.size := ⟨_, rfl⟩
    obtain ⟨w5, hw5⟩ : ∃ W, W = w4.alloc (.cells (msgC m.st m.path A4 m.l.length c4 B4 m.bd.length f4) 32) := ⟨_, rfl⟩
    have nb : Blk w5 N7 32 (msgC m.st m.path A4 m.l.length c4 B4 m.bd.length f4) := by rw [hw5, hN7]; exact Blk.new _ _ _
    have hb3 : Below w4.heap.size w4 w5 := by rw [hw5]; exact (Below.refl _ _).alloc (Nat.le_refl _) _
    have mb := mb.below hb3 mb.lt
    have hr := hr.below hb3
    have hy := hy.below hb3
    have hr4 := hr4.below hb3
    have hy4 := hy4.below hb3
    have hB := hB.trans (hb3.mono hB.size)
    have hL := hL.below hb3
    clear hb3
    have ⟨q0, q1, q2, q3⟩ := mb.c4
    have ⟨n0, n1, n2, n3⟩ := nb.c4
    have ql := mb.lt
    have nl := nb.lt
    have hE := same47_any m.st m.path A AB m.l c cb m.bd m.st m.path A4 B4 m.l c4 f4 m.bd w5 hr.rd hy.rd hr4.rd hy4.rd hll hm
    rw [sameP_refl] at hE
    go_upto_region 6 with fail
    rw [← hw5, ← hN7]
    clear hw5 hN7
    go_wp2_with (go_at_call 47; refine Hid.out ?_)
    unfold Hid
    refine hE.mono ?_
    rintro e w6 ⟨rfl, hb⟩
    have hB := hB.trans (hb.mono hB.size)
    have hL := hL.below hb
    clear hb hE q0 q1 q2 q3 ql n0 n1 n2 n3 nl nb mb hr hy hr4 hy4
    have hP := parse_any s hs w6 hL
    obtain ⟨p, code, hpc⟩ : ∃ p code, parseP s.data.toList = (p, code) := ⟨_, _, rfl⟩
    rw [hpc] at hP
    have HPC := Lib.hid hpc
    clear hpc
    go_wp2_with (go_at_call 48; refine Hid.out ?_)
    unfold Hid
    refine hP.mono ?_
    rintro e w9 ⟨A9, c9, B9, f9, rfl, hr9, hy9, hc9, hd9, hb⟩
    dsimp only at hr9 hy9 hc9 ⊢
    have hB := hB.trans (hb.mono hB.size)
    have hL := hL.below hb
    clear hb hP
    obtain ⟨N, hN⟩ : ∃ N, N = w9.heap.size := ⟨_, rfl⟩
    obtain ⟨w10, hw10⟩ : ∃ W, W = w9.alloc (.cells (msgC p.st p.path A9 p.l.length c9 B9 p.bd.length f9) 32) := ⟨_, rfl⟩
    have nb : Blk w10 N 32 (msgC p.st p.path A9 p.l.length c9 B9 p.bd.length f9) := by rw [hw10, hN]; exact Blk.new _ _ _
    have hb3 : Below w9.heap.size w9 w10 := by rw [hw10]; exact (Below.refl _ _).alloc (Nat.le_refl _) _
    have hr9 := hr9.below hb3
    have hy9 := hy9.below hb3
    have hB := hB.trans (hb3.mono hB.size)
    have hL := hL.below hb3
    clear hb3
    have ⟨n0, n1, n2, n3⟩ := nb.c4
    have nl := nb.lt
    have hsl : s.data.toList.length = s.size := by rw [Array.length_toList]; rfl
    by_cases hcode : code = 0
    · have ht := text_parse (s := s.data.toList) (by omega) (by rw [HPC.out]; exact hcode)
      rw [HPC.out] at ht
      dsimp only at ht
      have hmt : mtxP p = (s, 0) := by
        unfold mtxP
        rw [if_pos ht.1, ht.2, bs_of]
      have hpp : p.path.size ≤ 140737488355328 := by
        rcases wf_st ht.1 with h1 | ⟨_, _, h1⟩
        · omega
        · rw [h1]; decide
      have hT := text_any39 p A9 B9 c9 f9 hpp hc9 hd9 w10 hr9.rd hy9.rd hL
      rw [hmt] at hT
      unfold stup at hT
      dsimp only at hT
      have g1 := str_yes (rfl : s = s)
      subst hcode
      clear ht hmt HPC
      go_upto_region 9 with fail
      rw [← hw10, ← hN]
      clear hw10 hN
      go_wp2_with (go_at_call 39; refine Hid.out ?_)
      unfold Hid
      refine hT.mono ?_
      rintro e w11 ⟨rfl, hb⟩
      have hB := hB.trans (hb.mono hB.size)
      clear hT
      go_wp2
      go_ret
      exact ⟨rfl, hB⟩
    · have hpe := parse_bad (s := s.data.toList) (by rw [HPC.out]; exact hcode)
      rw [HPC.out] at hpe
      have hpe : p = emptyM := hpe
      have f1 : (code == 0) = false := by simpa using hcode
      have f2 : (code != 0) = true := by simpa using hcode
      subst hpe
      have hE := same47_any emptyM.st emptyM.path A9 B9 emptyM.l c9 f9 emptyM.bd 0 ⟨#[]⟩ none none [] 0 0 [] w10 hr9.rd hy9.rd (RdS.nil_ (S := fun _ => True)).rd (RdS.nil_ (S := fun _ => True)).rd (by decide) (by decide)
      rw [show sameP emptyM.st emptyM.path emptyM.l emptyM.bd 0 ⟨#[]⟩ [] [] = true from sameP_refl _ _ _ _] at hE
      clear HPC hcode
      go_upto_region 9 with fail
      rw [← hw10, ← hN]
      clear hw10 hN
      go_wp2_with (go_at_call 47; refine Hid.out ?_)
      unfold Hid
      refine hE.mono ?_
      rintro e w11 ⟨rfl, hb⟩
      have hB := hB.trans (hb.mono hB.size)
      clear hE
      go_wp2
      go_ret
      exact ⟨rfl, hB⟩
  · have z1 : (z == 0) = false := by simpa using hz0
    clear HZ
    have hP := parse_any s hs w2 hL
    obtain ⟨p, code, hpc⟩ : ∃ p code, parseP s.data.toList = (p, code) := ⟨_, _, rfl⟩
    rw [hpc] at hP
    have HPC := Lib.hid hpc
    clear hpc
    go_wp2_with (go_at_call 48; refine Hid.out ?_)
    unfold Hid
    refine hP.mono ?_
    rintro e w9 ⟨A9, c9, B9, f9, rfl, hr9, hy9, hc9, hd9, hb⟩
    dsimp only at hr9 hy9 hc9 ⊢
    have hB := hB.trans (hb.mono hB.size)
    have hL := hL.below hb
    clear hb hP
    obtain ⟨N, hN⟩ : ∃ N, N = w9.heap.size := ⟨_, rfl⟩
    obtain ⟨w10, hw10⟩ : ∃ W, W = w9.alloc (.cells (msgC p.st p.path A9 p.l.length c9 B9 p.bd.length f9) 32) := ⟨_, rfl⟩
    have nb : Blk w10 N 32 (msgC p.st p.path A9 p.l.length c9 B9 p.bd.length f9) := by rw [hw10, hN]; exact Blk.new _ _ _
    have hb3 : Below w9.heap.size w9 w10 := by rw [hw10]; exact (Below.refl _ _).alloc (Nat.le_refl _) _
    have hr9 := hr9.below hb3
    have hy9 := hy9.below hb3
    have hB := hB.trans (hb3.mono hB.size)
    have hL := hL.below hb3
    clear hb3
    have ⟨n0, n1, n2, n3⟩ := nb.c4
    have nl := nb.lt
    have hsl : s.data.toList.length = s.size := by rw [Array.length_toList]; rfl
    by_cases hcode : code = 0
    · have ht := text_parse (s := s.data.toList) (by omega) (by rw [HPC.out]; exact hcode)
      rw [HPC.out] at ht
      dsimp only at ht
      have hmt : mtxP p = (s, 0) := by
        unfold mtxP
        rw [if_pos ht.1, ht.2, bs_of]
      have hpp : p.path.size ≤ 140737488355328 := by
        rcases wf_st ht.1 with h1 | ⟨_, _, h1⟩
        · omega
        · rw [h1]; decide
      have hT := text_any39 p A9 B9 c9 f9 hpp hc9 hd9 w10 hr9.rd hy9.rd hL
      rw [hmt] at hT
      unfold stup at hT
      dsimp only at hT
      have g1 := str_yes (rfl : s = s)
      subst hcode
      clear ht hmt HPC
      go_upto_region 9 with fail
      rw [← hw10, ← hN]
      clear hw10 hN
      go_wp2_with (go_at_call 39; refine Hid.out ?_)
      unfold Hid
      refine hT.mono ?_
      rintro e w11 ⟨rfl, hb⟩
      have hB := hB.trans (hb.mono hB.size)
      clear hT
      go_wp2
      go_ret
      exact ⟨rfl, hB⟩
    · have hpe := parse_bad (s := s.data.toList) (by rw [HPC.out]; exact hcode)
      rw [HPC.out] at hpe
      have hpe : p = emptyM := hpe
      have f1 : (code == 0) = false := by simpa using hcode
      have f2 : (code != 0) = true := by simpa using hcode
      subst hpe
      have hE := same47_any emptyM.st emptyM.path A9 B9 emptyM.l c9 f9 emptyM.bd 0 ⟨#[]⟩ none none [] 0 0 [] w10 hr9.rd hy9.rd (RdS.nil_ (S := fun _ => True)).rd (RdS.nil_ (S := fun _ => True)).rd (by decide) (by decide)
      rw [show sameP emptyM.st emptyM.path emptyM.l emptyM.bd 0 ⟨#[]⟩ [] [] = true from sameP_refl _ _ _ _] at hE
      clear HPC hcode
      go_upto_region 9 with fail
      rw [← hw10, ← hN]
      clear hw10 hN
      go_wp2_with (go_at_call 47; refine Hid.out ?_)
      unfold Hid
      refine hE.mono ?_
      rintro e w11 ⟨rfl, hb⟩
      have hB := hB.trans (hb.mono hB.size)
      clear hE
      go_wp2
      go_ret
      exact ⟨rfl, hB⟩
end Go.Proofs.YtmcjgfoaiannoabDoor
