/-
  MsgSet's walk. Condition: what the message holds can be read; the library's tables and errors lie where they lie.
-/
import Derived.Test.YtmcjgfoaiannoabDoorAlive
import Derived.Test.YtmcjgfoaiannoabDoorPLibs
import Derived.Test.YtmcjgfoaiannoabDoorBMsg
namespace Go.Proofs.YtmcjgfoaiannoabDoor
open Go.RowKit Go.Lib

theorem get_has : ∀ (l : List Hd) (k : ByteArray), (getP l k).2 = hasK l k
  | [], _ => rfl
  | x :: l, k => by
    show (if x.key = k then (x.text, true) else getP l k).2 = (decide (x.key = k) || hasK l k)
    by_cases h : x.key = k
    · rw [if_pos h, decide_eq_true h]
      rfl
    · rw [if_neg h, decide_eq_false h, Bool.false_or]
      exact get_has l k
theorem get_not : ∀ (l : List Hd) (k : ByteArray), hasK l k = false → getP l k = (⟨#[]⟩, false)
  | [], _, _ => rfl
  | x :: l, k, h => by
    unfold hasK at h
    rw [List.any_cons, Bool.or_eq_false_iff] at h
    unfold getP
    rw [if_neg (by simpa using h.1)]
    exact get_not l k h.2
theorem get_put : ∀ (l : List Hd) (h : Hd), hasK l h.key = true → getP (putP l h) h.key = (h.text, true)
  | [], _, e => by cases e
  | x :: l, h, e => by
    unfold putP
    by_cases c : x.key = h.key
    · rw [if_pos c]; unfold getP; rw [if_pos rfl]
    · rw [if_neg c]
      unfold getP
      rw [if_neg c]
      refine get_put l h ?_
      unfold hasK at e ⊢
      rwa [List.any_cons, decide_eq_false c, Bool.false_or] at e
theorem get_put_other : ∀ (l : List Hd) (h : Hd) (o : ByteArray), o ≠ h.key → getP (putP l h) o = getP l o
  | [], _, _, _ => rfl
  | x :: l, h, o, n => by
    unfold putP
    by_cases c : x.key = h.key
    · rw [if_pos c]
      conv => lhs; unfold getP
      conv => rhs; unfold getP
      rw [if_neg (fun e => n e.symm), if_neg (fun e => n (e.symm.trans c))]
    · rw [if_neg c]
      conv => lhs; unfold getP
      conv => rhs; unfold getP
      rw [get_put_other l h o n]
theorem get_snoc : ∀ (l : List Hd) (h : Hd), hasK l h.key = false → getP (l ++ [h]) h.key = (h.text, true)
  | [], h, _ => by simp [getP]
  | x :: l, h, e => by
    unfold hasK at e
    rw [List.any_cons, Bool.or_eq_false_iff] at e
    rw [List.cons_append]
    unfold getP
    rw [if_neg (by simpa using e.1)]
    exact get_snoc l h e.2
theorem get_snoc_other : ∀ (l : List Hd) (h : Hd) (o : ByteArray), o ≠ h.key → getP (l ++ [h]) o = getP l o
  | [], h, o, n => by
    simp [getP]
    exact fun e => n e.symm
  | x :: l, h, o, n => by
    rw [List.cons_append]
    conv => lhs; unfold getP
    conv => rhs; unfold getP
    rw [get_snoc_other l h o n]
theorem set_ways (l : List Hd) (h : Hd) : (hasK l h.key = false ∧ 6 ≤ l.length ∧ setP l h = l ∧ getP l h.key = (⟨#[]⟩, false)) ∨ ((hasK l h.key = true ∨ (hasK l h.key = false ∧ l.length < 6)) ∧ getP (setP l h) h.key = (h.text, true)) := by
  cases e : hasK l h.key
  · by_cases c : l.length < 6
    · refine Or.inr ⟨Or.inr ⟨rfl, c⟩, ?_⟩
      unfold setP
      rw [e, if_neg (by simp), if_pos c]
      exact get_snoc l h e
    · refine Or.inl ⟨rfl, by omega, ?_, get_not l _ e⟩
      unfold setP
      rw [e, if_neg (by simp), if_neg c]
  · refine Or.inr ⟨Or.inl rfl, ?_⟩
    unfold setP
    rw [if_pos e]
    exact get_put l h e
theorem set_other (l : List Hd) (h : Hd) (o : ByteArray) (n : o ≠ h.key) : getP (setP l h) o = getP l o := by
  unfold setP
  split
  · exact get_put_other l h o n
  · split
    · exact get_snoc_other l h o n
    · rfl
set_option maxRecDepth 100000 in
set_option maxHeartbeats 16000000 in
theorem msgSet_mid (st : Int) (path : ByteArray) (A : Option Addr) (l : List Hd) (c : Nat) (AB : Option Addr) (bd : List UInt8) (cb : Nat) (h : Hd) (other : ByteArray) (w : World) (ok : MsgOk w w.heap.size st path A l c AB bd cb) (hL : Libs w) :
    Calls Tryd.prog 12 #[msgV st path A l.length c AB bd.length cb, .string h.key, .string h.text, .string other] w fun e w' => e = .returned (.bool true) ∧ Below w.heap.size w w' := by
  have b1 := ok.lc
  have b2 := ok.cc
  have b3 := ok.bc
  have b4 := ok.cb_
  have hn : l.length * 32 + 32 ≤ 140737488355328 := by omega
  have hm : bd.length ≤ 140737488355328 := by omega
  have hll : l.length ≤ 140737488355328 := by omega
  obtain ⟨w0, hw0⟩ : ∃ W, W = w.alloc (.cells (msgC st path A l.length c AB bd.length cb) 32) := ⟨_, rfl⟩
  have mb : Blk w0 w.heap.size 32 (msgC st path A l.length c AB bd.length cb) := by rw [hw0]; exact Blk.new _ _ _
  have hB : Below w.heap.size w w0 := by rw [hw0]; exact (Below.refl _ w).alloc (Nat.le_refl _) _
  have hr := (RdS.of_rd ok.rl (Nat.le_refl _)).below hB
  have hy := (RdS.of_rd ok.rb (Nat.le_refl _)).below hB
  have hL := hL.below hB
  go_enter Tryd.func12, Tryd.ntmps12
  go_wp2_with (go_at_call 56; refine Hid.out ?_)
  unfold Hid
  rw [← hw0]
  clear hw0
  refine (alive_any w0 hL).mono ?_
  rintro e w1 ⟨rfl, hb⟩
  have mb := mb.below hb mb.lt
  have hr := hr.below hb
  have hy := hy.below hb
  have hB := hB.trans (hb.mono hB.size)
  clear hb hL
  have ⟨q0, q1, q2, q3⟩ := mb.c4
  have ql := mb.lt
  have hS := set_any st path A l c AB bd cb h w1 hr.rd hy.rd hn hm
  go_wp2_with (go_at_call 54; refine Hid.out ?_)
  unfold Hid
  refine hS.mono ?_
  rintro e w2 ⟨A2, c2, B2, d2, rfl, ow, hb⟩
  have mb := mb.below hb mb.lt
  have hr := hr.below hb
  have hy := hy.below hb
  have hB := hB.trans (hb.mono hB.size)
  clear hb hS q0 q1 q2 q3 ql
  obtain ⟨N, hN⟩ : ∃ N, N = w2.heap.size := ⟨_, rfl⟩
  obtain ⟨w3, hw3⟩ : ∃ W, W = w2.alloc (.cells (msgC st path A2 (setP l h).length c2 B2 bd.length d2) 32) := ⟨_, rfl⟩
  have nb : Blk w3 N 32 (msgC st path A2 (setP l h).length c2 B2 bd.length d2) := by rw [hw3, hN]; exact Blk.new _ _ _
  have hb3 : Below w2.heap.size w2 w3 := by rw [hw3]; exact (Below.refl _ _).alloc (Nat.le_refl _) _
  have mb := mb.below hb3 mb.lt
  have hr := hr.below hb3
  have hy := hy.below hb3
  have ow := ow.below hb3
  have hB := hB.trans (hb3.mono hB.size)
  clear hb3
  have ⟨q0, q1, q2, q3⟩ := mb.c4
  have ⟨n0, n1, n2, n3⟩ := nb.c4
  have ql := mb.lt
  have nl := nb.lt
  have hG := get_any st path A AB l c bd.length cb h.key w3 hr.rd hll
  obtain ⟨a, b, hab⟩ : ∃ a b, getP l h.key = (a, b) := ⟨_, _, rfl⟩
  have hbK := get_has l h.key
  rw [hab] at hG hbK
  simp only at hbK
  unfold gtup at hG
  simp only at hG
  go_upto_region 4 with fail
  rw [← hw3, ← hN]
  clear hw3 hN
  go_wp2_with (go_at_call 52; refine Hid.out ?_)
  unfold Hid
  refine hG.mono ?_
  rintro e w4 ⟨rfl, hb⟩
  have mb := mb.below hb mb.lt
  have nb := nb.below hb nb.lt
  have hr := hr.below hb
  have hy := hy.below hb
  have ow := ow.below hb
  have hB := hB.trans (hb.mono hB.size)
  clear hb hG q0 q1 q2 q3 ql n0 n1 n2 n3 nl
  have ⟨q0, q1, q2, q3⟩ := mb.c4
  have ⟨n0, n1, n2, n3⟩ := nb.c4
  have ql := mb.lt
  have nl := nb.lt
  have hsl := setP_len_le l h
  have hG := get_any st path A2 B2 (setP l h) c2 bd.length d2 h.key w4 ow.h.rd (by omega)
  rcases set_ways l h with ⟨k1, k2, k3, k4⟩ | ⟨k1, k2⟩
  · obtain rfl : b = false := hbK.trans k1
    obtain rfl : a = ⟨#[]⟩ := (congrArg Prod.fst (hab.symm.trans k4))
    rw [k3, k4] at hG
    unfold gtup at hG
    simp only at hG
    have k5 : (6 : Int) ≤ (l.length : Int) := by omega
    have hE := fun W (r1 : Rd 2 encHd W W.heap.size A2 l) (r2 : Rd 1 encY W W.heap.size B2 bd) (r3 : Rd 2 encHd W W.heap.size A l) (r4 : Rd 1 encY W W.heap.size AB bd) => same47_any st path A2 B2 l c2 d2 bd st path A AB l c cb bd W r1 r2 r3 r4 hll hm
    have e1 : sameP st path l bd st path l bd = true := sameP_refl _ _ _ _
    rw [e1] at hE
    have HE := Lib.hid hE
    rw [k3] at nb n2 ow ⊢
    clear hab hbK k1 k2 k3 k4 hE e1 hsl
    go_wp2_with (go_at_call 52; refine Hid.out ?_)
    unfold Hid
    refine hG.mono ?_
    rintro e w5 ⟨rfl, hb⟩
    have mb := mb.below hb mb.lt
    have nb := nb.below hb nb.lt
    have hr := hr.below hb
    have hy := hy.below hb
    have ow := ow.below hb
    have hB := hB.trans (hb.mono hB.size)
    clear hb hG q0 q1 q2 q3 ql n0 n1 n2 n3 nl
    have ⟨q0, q1, q2, q3⟩ := mb.c4
    have ⟨n0, n1, n2, n3⟩ := nb.c4
    have ql := mb.lt
    have nl := nb.lt
    go_wp2_with (go_at_call 47; refine Hid.out ?_)
    unfold Hid
    refine (HE.out w5 ow.h.rd ow.y.rd hr.rd hy.rd).mono ?_
    rintro e w6 ⟨rfl, hb⟩
    have hB := hB.trans (hb.mono hB.size)
    clear HE
    go_wp2
    go_ret
    exact ⟨rfl, hB⟩
  · rw [k2] at hG
    unfold gtup at hG
    simp only at hG
    have HO := Lib.hid (set_other l h other)
    have HK : Hid (b = true ∨ (b = false ∧ l.length < 6)) := Lib.hid (by rw [hbK]; exact k1)
    clear hab hbK k1 k2
    go_wp2_with (go_at_call 52; refine Hid.out ?_)
    unfold Hid
    refine hG.mono ?_
    rintro e w5 ⟨rfl, hb⟩
    have mb := mb.below hb mb.lt
    have nb := nb.below hb nb.lt
    have hr := hr.below hb
    have hy := hy.below hb
    have ow := ow.below hb
    have hB := hB.trans (hb.mono hB.size)
    clear hb hG q0 q1 q2 q3 ql n0 n1 n2 n3 nl
    have ⟨q0, q1, q2, q3⟩ := mb.c4
    have ⟨n0, n1, n2, n3⟩ := nb.c4
    have ql := mb.lt
    have nl := nb.lt
    have hc1 := conv_any hy.rd cb
    have hc2 := conv_any ow.y.rd d2
    have g1 := str_yes (rfl : h.text = h.text)
    have G1 := get_any st path A AB l c bd.length cb other w5 hr.rd hll
    by_cases ho : other = h.key
    · subst ho
      have g2 := str_yes (rfl : h.key = h.key)
      clear HO G1
      rcases HK.out with rfl | ⟨rfl, h6⟩
      · clear HK
        go_wp2
        go_ret
        exact ⟨rfl, hB⟩
      · clear HK
        have h6' : ¬ (6 : Int) ≤ (l.length : Int) := by omega
        go_wp2
        go_ret
        exact ⟨rfl, hB⟩
    · have g2 := str_no ho
      have hO := HO.out ho
      obtain ⟨x, y, hxy⟩ : ∃ x y, getP l other = (x, y) := ⟨_, _, rfl⟩
      rw [hxy] at G1 hO
      unfold gtup at G1
      simp only at G1
      have HOO := Lib.hid hO
      clear HO ho hO hxy
      rcases HK.out with rfl | ⟨rfl, h6⟩
      all_goals
        try have h6' : ¬ (6 : Int) ≤ (l.length : Int) := by omega
        clear HK
        go_wp2_with (go_at_call 52; refine Hid.out ?_)
        unfold Hid
        refine G1.mono ?_
        rintro e w6 ⟨rfl, hb⟩
        have nb := nb.below hb nb.lt
        have ow := ow.below hb
        have hB := hB.trans (hb.mono hB.size)
        clear hb G1 q0 q1 q2 q3 ql n0 n1 n2 n3 nl hc1 hc2
        have ⟨n0, n1, n2, n3⟩ := nb.c4
        have nl := nb.lt
        have G2 := get_any st path A2 B2 (setP l h) c2 bd.length d2 other w6 ow.h.rd (by omega)
        rw [HOO.out] at G2
        unfold gtup at G2
        simp only at G2
        clear HOO
        go_wp2_with (go_at_call 52; refine Hid.out ?_)
        unfold Hid
        refine G2.mono ?_
        rintro e w7 ⟨rfl, hb⟩
        have hB := hB.trans (hb.mono hB.size)
        have g3 := str_yes (rfl : x = x)
        clear G2
        cases y
        all_goals
          go_wp2
          go_ret
          exact ⟨rfl, hB⟩
theorem msgSet_walk (st : Int) (path : ByteArray) (A : Option Addr) (l : List Hd) (c : Nat) (AB : Option Addr) (bd : List UInt8) (cb : Nat) (key text other : ByteArray) (w : World) (ok : MsgOk w w.heap.size st path A l c AB bd cb) (hk : key.size ≤ 140737488355328) (ht : text.size ≤ 140737488355328) (_ : other.size ≤ 140737488355328) (hL : laidMetH Tryd.prog Rows.msgSetRow.laid w) :
    Calls Tryd.prog 12 #[msgV st path A l.length c AB bd.length cb, .string key, .string text, .string other] w fun e w' => e = .returned (.bool true) ∧ Below w.heap.size w w' :=
  msgSet_mid st path A l c AB bd cb ⟨key, text, hk, ht⟩ other w ok (msg_libs hL)
end Go.Proofs.YtmcjgfoaiannoabDoor
