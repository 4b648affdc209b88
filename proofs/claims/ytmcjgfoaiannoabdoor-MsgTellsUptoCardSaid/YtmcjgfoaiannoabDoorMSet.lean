/-
  A head set: msg.Set. Condition: what the message holds can be read.
-/
import Derived.Test.YtmcjgfoaiannoabDoorMCopy
import Derived.Test.YtmcjgfoaiannoabDoorMGet
namespace Go.Proofs.YtmcjgfoaiannoabDoor
open Go.RowKit Go.Lib

/-- the first head that has the key, put in another's place -/
def putP : List Hd → Hd → List Hd
  | [], _ => []
  | x :: l, h => if x.key = h.key then h :: l else x :: putP l h
/-- a head set: another one's text, or a new one, if there is room -/
def setP (l : List Hd) (h : Hd) : List Hd := if hasK l h.key = true then putP l h else if l.length < 6 then l ++ [h] else l
theorem putP_len : ∀ (l : List Hd) (h : Hd), (putP l h).length = l.length
  | [], _ => rfl
  | x :: l, h => by
    unfold putP
    split
    · rfl
    · simp [putP_len l h]
theorem putP_at : ∀ {l : List Hd} {h x : Hd} {k : Nat}, l[k]? = some x → x.key = h.key → hasK (l.take k) h.key = false → putP l h = l.set k h
  | [], _, _, _, hx, _, _ => by simp at hx
  | y :: l, h, x, 0, hx, he, _ => by
    simp at hx
    subst hx
    simp [putP, he]
  | y :: l, h, x, k + 1, hx, he, hn => by
    have hy : y.key ≠ h.key ∧ hasK (l.take k) h.key = false := by
      unfold hasK at hn ⊢
      simp only [List.take_succ_cons, List.any_cons, Bool.or_eq_false_iff, decide_eq_false_iff_not] at hn
      exact hn
    have := putP_at (l := l) (k := k) (by simpa using hx) he hy.2
    simp [putP, hy.1, this]
theorem setP_len_le (l : List Hd) (h : Hd) : (setP l h).length ≤ l.length + 1 := by
  unfold setP
  split
  · rw [putP_len]; omega
  · split
    · simp
    · omega
/-- a head's text, stored in the row -/
theorem flat_set : ∀ {l : List Hd} {k : Nat} {x : Hd}, l[k]? = some x → ∀ (h : Hd), x.key = h.key → (l.flatMap encHd).set (k * 2 + 1) (.string h.text) = (l.set k h).flatMap encHd
  | [], _, _, hx, _, _ => by simp at hx
  | y :: l, 0, x, hx, h, he => by
    simp at hx
    subst hx
    simp [encHd, he]
  | y :: l, k + 1, x, hx, h, he => by
    have := flat_set (l := l) (k := k) (by simpa using hx) h he
    rw [show (k + 1) * 2 + 1 = (k * 2 + 1) + 2 by omega]
    simp only [List.flatMap_cons, encHd, List.cons_append, List.nil_append, List.set_cons_succ]
    rw [this]
theorem OwH.at_ {w : World} {base : Nat} {A : Option Addr} {c : Nat} {l : List Hd} (h : OwH w base A c l) {k : Nat} (hk : k < l.length) : ∃ g x, A = some ⟨g, 0, none⟩ ∧ base ≤ g ∧ g < w.heap.size ∧ l[k]? = some x ∧ w.cell? ⟨g, k * 2, none⟩ = some (.string x.key) ∧ w.cell? ⟨g, k * 2 + 1, none⟩ = some (.string x.text) ∧ ∀ i, w.frozen? ⟨g, i, none⟩ = false := by
  obtain ⟨g, cap, hv, _, hlt⟩ := World.ownsRow.form h (by omega)
  have hA : A = some ⟨g, 0, none⟩ := by injection hv
  subst hA
  have hge := own_ge h g rfl
  have hx : l[k]? = some l[k] := List.getElem?_eq_getElem hk
  refine ⟨g, l[k], rfl, hge, hlt, hx, ?_, ?_, fun i => World.ownsRow.frozenAt h i⟩
  · have := World.ownsRow.cellAt h (k * 2 + 0) (by omega)
    rw [flatMap_at encHd_len l k 0 (by omega), hx] at this
    simpa [encHd] using this
  · have := World.ownsRow.cellAt h (k * 2 + 1) (by omega)
    rw [flatMap_at encHd_len l k 1 (by omega), hx] at this
    simpa [encHd] using this
theorem OwH.stored {w : World} {base g : Nat} {c : Nat} {l : List Hd} (h : OwH w base (some ⟨g, 0, none⟩) c l) {k : Nat} {x : Hd} (hx : l[k]? = some x) (y : Hd) (he : x.key = y.key) : OwH (w.setCell ⟨g, k * 2 + 1, none⟩ (.string y.text)) base (some ⟨g, 0, none⟩) c (l.set k y) := by
  have := (World.ownsRow.stored h (k * 2 + 1) (.string y.text)).1
  rw [flat_set hx y he] at this
  unfold OwH
  rw [List.length_set]
  exact this
theorem own_blk_ne2 {w : World} {base base' : Nat} {e e' : TypeId} {size size' n n' g : Nat} {c : Nat} {v' : Value} {xs xs' : List Value} (h : w.ownsRow base e size (.slice (some ⟨g, 0, none⟩) n c) n xs) (h' : w.ownsRow base' e' size' v' n' xs') (hne : e ≠ e') : v'.ownBlock ≠ some g := by
  intro hv
  rcases h.2 with ⟨e1, _⟩ | ⟨g1, cap, cur, hv1, _, hh, _⟩
  · cases e1
  · have hg : g1 = g := by injection hv1 with a; injection a with a; injection a with a; exact a.symm
    subst hg
    rcases h'.2 with ⟨rfl, _⟩ | ⟨g2, cap2, cur2, rfl, _, hh2, _⟩
    · simp [Value.ownBlock] at hv
    · have : g2 = g1 := by simpa [Value.ownBlock] using hv
      subst this
      rw [hh] at hh2
      injection hh2 with hh2
      injection hh2 with _ ht
      exact hne ht
theorem own_apart {w : World} {base base' : Nat} {e e' : TypeId} {size size' n n' : Nat} {v v' : Value} {xs xs' : List Value} (h : w.ownsRow base e size v n xs) (h' : w.ownsRow base' e' size' v' n' xs') (hne : e ≠ e') : ∀ g, v.ownBlock = some g → some g ≠ v'.ownBlock := by
  intro g hv hv'
  rcases h.2 with ⟨rfl, _⟩ | ⟨g1, cap, cur, rfl, _, hh, _⟩
  · simp [Value.ownBlock] at hv
  · rcases h'.2 with ⟨rfl, _⟩ | ⟨g2, cap2, cur2, rfl, _, hh2, _⟩
    · simp [Value.ownBlock] at hv'
    · have e1 : g1 = g := by simpa [Value.ownBlock] using hv
      have e2 : g2 = g := by simpa [Value.ownBlock] using hv'.symm
      subst e1
      subst e2
      rw [hh] at hh2
      injection hh2 with hh2
      injection hh2 with _ ht
      exact hne ht
theorem own_grown {w w' : World} {base : Nat} {e : TypeId} {size n : Nat} {v : Value} {xs : List Value} {row : Option Nat} (h : w.ownsRow base e size v n xs) (hg : w.grownBy w' row) (hne : ∀ g, v.ownBlock = some g → some g ≠ row) : w'.ownsRow base e size v n xs := by
  refine ⟨h.1, ?_⟩
  have hlt := own_lt h
  rcases h.2 with h2 | ⟨g, cap, cur, rfl, hb, hh, r⟩
  · exact .inl h2
  · exact .inr ⟨g, cap, cur, rfl, hb, (hg.block g (hlt g rfl) (hne g rfl)).trans hh, r⟩
/-- the result: a message of the call's own -/
def MsgOut (w : World) (st : Int) (path : ByteArray) (l : List Hd) (bd : List UInt8) (e : Ending) (w' : World) : Prop :=
  ∃ A c B d, e = .returned (msgV st path A l.length c B bd.length d) ∧ MsgOw w' w.heap.size A l c B bd d ∧ Below w.heap.size w w'
theorem msgOut {w w' : World} {st : Int} {path : ByteArray} {l : List Hd} {bd : List UInt8} {e : Ending} {A : Option Addr} {n c : Nat} {B : Option Addr} {d : Nat} (he : e = .returned (msgV st path A n c B bd.length d)) (hn : n = l.length) (h1 : OwH w' w.heap.size A c l) (h2 : OwY w' w.heap.size B d bd) (h3 : Below w.heap.size w w') : MsgOut w st path l bd e w' := by
  subst hn
  exact ⟨A, c, B, d, he, ⟨h1, h2⟩, h3⟩
/-- the result: a message with heads of the call's own, and the body that it had -/
def HdsOut (w : World) (st : Int) (path : ByteArray) (l : List Hd) (B : Option Addr) (n d : Nat) (e : Ending) (w' : World) : Prop :=
  ∃ A c, e = .returned (msgV st path A l.length c B n d) ∧ OwH w' w.heap.size A c l ∧ Below w.heap.size w w'
theorem hdsOut {w w' : World} {st : Int} {path : ByteArray} {l : List Hd} {e : Ending} {A : Option Addr} {n c : Nat} {B : Option Addr} {m d : Nat} (he : e = .returned (msgV st path A n c B m d)) (hn : n = l.length) (h1 : OwH w' w.heap.size A c l) (h3 : Below w.heap.size w w') : HdsOut w st path l B m d e w' := by
  subst hn
  exact ⟨A, c, he, h1, h3⟩
theorem OwH.far {w : World} {base : Nat} {A : Option Addr} {c : Nat} {l : List Hd} (h : OwH w base A c l) {a : Addr} (ha : (Value.slice A l.length c).ownBlock ≠ some a.block) (u : Value) : OwH (w.setCell a u) base A c l := own_setCell h ha u
theorem Rd.set4 {α : Type} {k : Nat} {enc : α → List Value} {w : World} {B : Nat} {A : Option Addr} {l : List α} (h : Rd k enc w B A l) {g : Nat} (hg : B ≤ g) (u0 u1 u2 u3 : Value) : Rd k enc ((((w.setCell ⟨g, 0, none⟩ u0).setCell ⟨g, 1, none⟩ u1).setCell ⟨g, 2, none⟩ u2).setCell ⟨g, 3, none⟩ u3) B A l :=
  (((h.setCell (p := ⟨g, 0, none⟩) hg u0).setCell (p := ⟨g, 1, none⟩) hg u1).setCell (p := ⟨g, 2, none⟩) hg u2).setCell (p := ⟨g, 3, none⟩) hg u3
abbrev zerC : Array Value := #[.int .i64 0, .string { data := #[] }, .slice none 0 0, .slice none 0 0]
set_option maxRecDepth 100000 in
set_option maxHeartbeats 4000000 in
theorem set_any (st : Int) (path : ByteArray) (A : Option Addr) (l : List Hd) (c : Nat) (AB : Option Addr) (bd : List UInt8) (cb : Nat) (h : Hd) (w : World) (hr : Rd 2 encHd w w.heap.size A l) (hy : Rd 1 encY w w.heap.size AB bd) (hn : l.length * 32 + 32 ≤ 140737488355328) (hm : bd.length ≤ 140737488355328) :
    Calls Tryd.prog 54 #[msgV st path A l.length c AB bd.length cb, .string h.key, .string h.text] w (MsgOut w st path (setP l h) bd) := by
  obtain ⟨w0, hw0⟩ : ∃ W, W = (w.alloc (.cells (msgC st path A l.length c AB bd.length cb) 32)).alloc (.cells zerC 32) := ⟨_, rfl⟩
  have mb : Blk w0 w.heap.size 32 (msgC st path A l.length c AB bd.length cb) := by rw [hw0]; exact (Blk.new _ _ _).alloc _
  have zb : Blk w0 (w.heap.size + 1) 32 zerC := by rw [hw0]; exact Blk.new' _ _ (by simp) _ _
  have hB : Below w.heap.size w w0 := by rw [hw0]; exact ((Below.refl _ w).alloc (Nat.le_refl _) _).alloc (by simp) _
  have hC := own_any st path A l c AB bd cb w0 (hr.up hB) (hy.up hB) (by omega) hm
  have ⟨k0, k1, k2, k3⟩ := mb.c4
  have ml := mb.lt
  go_enter Tryd.func54, Tryd.ntmps54
  go_wp2_with (go_at_call 46; refine Hid.out ?_)
  rw [← hw0]
  unfold Hid
  refine hC.mono ?_
  clear hC hr hy hw0 k0 k1 k2 k3 ml
  rintro e w1 ⟨A', c', B', d', rfl, ow, hb⟩
  have zb := zb.below hb zb.lt
  have ow := ow.more hB.size
  have hB := hB.trans (hb.mono hB.size)
  clear hb mb
  obtain ⟨K, hK⟩ : ∃ K, K = w1.heap.size := ⟨_, rfl⟩
  obtain ⟨w2, hw2⟩ : ∃ W, W = w1.alloc (.cells (msgC st path A' l.length c' B' bd.length d') 32) := ⟨_, rfl⟩
  have bb : Blk w2 K 32 (msgC st path A' l.length c' B' bd.length d') := by rw [hw2, hK]; exact Blk.new _ _ _
  have hb2 : Below w1.heap.size w1 w2 := by rw [hw2]; exact (Below.refl _ w1).alloc (Nat.le_refl _) _
  have hKz : w.heap.size + 1 < K := by rw [hK]; exact zb.lt
  have zb := zb.below hb2 zb.lt
  have ow := ow.below hb2
  have hB := hB.trans (hb2.mono hB.size)
  clear hb2
  have ⟨k0, k1, k2, k3⟩ := bb.c4
  have bl := bb.lt
  have ⟨z0, z1, z2, z3⟩ := zb.c4
  have zl := zb.lt
  have kf := bb.frz
  have zf := zb.frz
  go_wp2
  rw [← hw2, ← hK]
  clear hw2 hK
  clear k0 k1 k2 k3 z0 z1 z2 z3
  go_loopw [14] (fun i wr => ∃ k : Nat, k ≤ l.length ∧ i = .int .i64 k ∧ Hid (hasK (l.take k) h.key = false) ∧ wr = w2)
    (fun i _ => l.length - (intOf i).toNat)
  case atStart => exact ⟨0, Nat.zero_le _, rfl, Lib.hid rfl, rfl⟩
  case round =>
    obtain ⟨k, hk, rfl, HA, rfl⟩ := hrel
    have ⟨k0, k1, k2, k3⟩ := bb.c4
    have ⟨z0, z1, z2, z3⟩ := zb.c4
    by_cases hlt : k < l.length
    · obtain ⟨g, x, rfl, hgB, hgl, hx, d0, d1, df⟩ := ow.h.at_ hlt
      have hgK : g ≠ K := fun e => own_blk_ne ow.h bb (by decide) (by rw [e]; rfl)
      have hgZ : g ≠ w.heap.size + 1 := fun e => own_blk_ne ow.h zb (by decide) (by rw [e]; rfl)
      have hKg := hgK.symm
      have hZg := hgZ.symm
      by_cases he : x.key = h.key
      · have hv : setP l h = l.set k h := by
          unfold setP
          rw [if_pos (hasK_hit hx he), putP_at hx he HA.out]
        have oh := ow.h.stored hx h he
        have oy : OwY (wr.setCell ⟨g, k * 2 + 1, none⟩ (.string h.text)) w.heap.size B' d' bd := own_setCell ow.y (fun e => own_blk_ne2 ow.h ow.y (by decide) e) _
        have hB1 := hB.setCell (p := ⟨g, k * 2 + 1, none⟩) hgB (.string h.text)
        have zb1 := zb.far (p := ⟨g, k * 2 + 1, none⟩) hZg (.string h.text)
        have HV := Lib.hid hv
        have hq := str_yes he
        clear HA hx he hv ow
        go_wp2
        have ow1 : MsgOw (wr.setCell ⟨g, k * 2 + 1, none⟩ (.string h.text)) w.heap.size (some ⟨g, 0, none⟩) (l.set k h) c' B' bd d' := ⟨oh, oy⟩
        have ow2 := ow1.box4 zb1 (.int .i64 st) (.string path) (.slice (some ⟨g, 0, none⟩) l.length c') (.slice B' bd.length d')
        have bx := (((zb1.set_ 0 (.int .i64 st)).set_ 1 (.string path)).set_ 2 (.slice (some ⟨g, 0, none⟩) l.length c')).set_ 3 (.slice B' bd.length d')
        refine bodyPost_ret (v := msgV st path (some ⟨g, 0, none⟩) l.length c' B' bd.length d') (results_cell_row (p := 6) (ty := 32) Tryd.results54 _ _ (w.heap.size + 1) 32 _ (0, 0) _ rfl bx Tryd.underlying32 rfl (by kernel_rfl)) rfl (msgOut rfl (by rw [HV.out, List.length_set]) (by rw [HV.out]; exact ow2.h) ow2.y ?_)
        iterate 4 refine Below.setCell ?_ (by show w.heap.size ≤ w.heap.size + 1; omega) _
        exact hB1
      · have HS := Lib.hid (hasK_snoc hx HA.out he)
        have hq := str_no he
        clear HA hx he
        go_wp2
        go_roundw
        case rel => exact ⟨k + 1, by omega, by go_num, HS, trivial⟩
        case measure => simp [intOf]; omega
    · have hno : hasK l h.key = false := by
        have := HA.out
        rwa [List.take_of_length_le (by omega)] at this
      have hle : l.length ≤ k := by omega
      clear HA
      by_cases h6 : l.length < 6
      · have HV := Lib.hid (show setP l h = l ++ [h] by unfold setP; rw [if_neg (by simp [hno]), if_pos h6])
        have h6' : (l.length : Int) < 6 := by omega
        obtain ⟨i0, hi, hz0, hz1, hz2⟩ := info_parts infoHd
        have hone : ∀ u ∈ encHd h, u.oneCell' = true := fun u hu => encHd_one [h] u (by simpa using hu)
        have hcn := cells_new wr wr.heap.size rfl [.string h.key, .string h.text] 81
        have hown2 := ow.h.alloc (.cells #[.string h.key, .string h.text] 81)
        have hy2 := ow.y.alloc (.cells #[.string h.key, .string h.text] 81)
        have HN := Lib.hid (own_blk_ne ow.h bb (by decide))
        have HN1 := Lib.hid (own_blk_ne ow.h zb (by decide))
        have HAP := Lib.hid (own_apart ow.y ow.h (by decide))
        have HGE := Lib.hid (own_ge ow.h)
        have e0 := bb.alloc (.cells #[.string h.key, .string h.text] 81)
        have e1 := zb.alloc (.cells #[.string h.key, .string h.text] 81)
        have hB3 := hB.alloc hB.size (.cells #[.string h.key, .string h.text] 81)
        have hbs := hB.size
        clear hno hB bb zb ow
        go_wp2_with (at_builtin; refine wpList_append_own _ rfl (.tmp 38) (.tmp 42) 29 rfl w.heap.size 81 i0 _ 2 32 Tryd.underlying29 hi hz0 hz1 hz2 rfl (by decide) _ _ _ rfl hown2 ⟨wr.heap.size, 0, none⟩ 1 1 (encHd h) rfl rfl hcn hone (by simp only [maxLen]; omega) (by omega) (by simp; omega) ?_; intro v4 w4 hown4 hg4 _; obtain ⟨A4, c4, rfl, _, _⟩ := own_shape hown4; have q0 := e0.grown hg4 HN.out.symm; have q1 := e1.grown hg4 HN1.out.symm; have N0 := Lib.hid (own_blk_ne hown4 q0 (by decide)); have Q0 := Lib.hid q0; have Q1 := Lib.hid q1; obtain ⟨p0, p1, p2, p3⟩ := q0.c4; obtain ⟨r0, r1, r2, r3⟩ := q1.c4; have fp := q0.frz; have fr := q1.frz; clear q0 q1)
        have ow4 : MsgOw w4 w.heap.size A4 (l ++ [h]) c4 B' bd d' := ⟨by
          unfold OwH
          rw [List.length_append, List.flatMap_append]
          simpa using hown4, own_grown hy2 hg4 HAP.out⟩
        have ow5 := ow4.box (i := 2) Q0.out (.slice A4 (l.length + 1) c4)
        have z5 := Q1.out.far (p := ⟨K, 2, none⟩) (by show w.heap.size + 1 ≠ K; omega) (.slice A4 (l.length + 1) c4)
        have ow2 := ow5.box4 z5 (.int .i64 st) (.string path) (.slice A4 (l.length + 1) c4) (.slice B' bd.length d')
        have bx := (((z5.set_ 0 (.int .i64 st)).set_ 1 (.string path)).set_ 2 (.slice A4 (l.length + 1) c4)).set_ 3 (.slice B' bd.length d')
        refine bodyPost_ret (v := msgV st path A4 (l.length + 1) c4 B' bd.length d') (results_cell_row (p := 6) (ty := 32) Tryd.results54 _ _ (w.heap.size + 1) 32 _ (0, 0) _ rfl bx Tryd.underlying32 rfl (by kernel_rfl)) rfl (msgOut rfl (by rw [HV.out]; simp) (by rw [HV.out]; exact ow2.h) ow2.y ?_)
        iterate 4 refine Below.setCell ?_ (by show w.heap.size ≤ w.heap.size + 1; omega) _
        refine Below.setCell ?_ (by show w.heap.size ≤ K; omega) _
        exact hB3.grown hg4 hB3.size (fun g hg => HGE.out g hg)
      · have HV := Lib.hid (show setP l h = l by unfold setP; rw [if_neg (by simp [hno]), if_neg h6])
        have h6' : ¬ (l.length : Int) < 6 := by omega
        clear hno
        go_wp2
        have ow2 := ow.box4 zb (.int .i64 st) (.string path) (.slice A' l.length c') (.slice B' bd.length d')
        have bx := (((zb.set_ 0 (.int .i64 st)).set_ 1 (.string path)).set_ 2 (.slice A' l.length c')).set_ 3 (.slice B' bd.length d')
        refine bodyPost_ret (v := msgV st path A' l.length c' B' bd.length d') (results_cell_row (p := 6) (ty := 32) Tryd.results54 _ _ (w.heap.size + 1) 32 _ (0, 0) _ rfl bx Tryd.underlying32 rfl (by kernel_rfl)) rfl (msgOut rfl (by rw [HV.out]) (by rw [HV.out]; exact ow2.h) ow2.y ?_)
        iterate 4 refine Below.setCell ?_ (by show w.heap.size ≤ w.heap.size + 1; omega) _
        exact hB
end Go.Proofs.YtmcjgfoaiannoabDoor
