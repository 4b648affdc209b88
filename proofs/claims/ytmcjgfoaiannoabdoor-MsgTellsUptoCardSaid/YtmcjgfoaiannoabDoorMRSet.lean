/-
  A head set, by the reference: its Set. Condition: what the message holds can be read.
-/
import Derived.Test.YtmcjgfoaiannoabDoorMSet
namespace Go.Proofs.YtmcjgfoaiannoabDoor
open Go.RowKit Go.Lib

theorem putP_yes : ∀ {a : List Hd} {h : Hd}, hasK a h.key = true → ∀ b : List Hd, putP (a ++ b) h = putP a h ++ b
  | [], _, h1, _ => by simp [hasK] at h1
  | x :: a, h, h1, b => by
    by_cases he : x.key = h.key
    · simp [putP, he]
    · have h2 : hasK a h.key = true := by
        unfold hasK at h1 ⊢
        simpa [he] using h1
      simp [putP, he, putP_yes h2 b]
theorem putP_no : ∀ {a : List Hd} {h : Hd}, hasK a h.key = false → ∀ b : List Hd, putP (a ++ b) h = a ++ putP b h
  | [], _, _, _ => rfl
  | x :: a, h, h1, b => by
    unfold hasK at h1
    simp only [List.any_cons, Bool.or_eq_false_iff, decide_eq_false_iff_not] at h1
    have h2 : hasK a h.key = false := h1.2
    simp [putP, h1.1, putP_no h2 b]
/-- the heads behind k rounds -/
def accP (l : List Hd) (h : Hd) (k : Nat) : List Hd := if hasK (l.take k) h.key = true then putP (l.take k) h else l.take k
theorem accP_len (l : List Hd) (h : Hd) (k : Nat) (hk : k ≤ l.length) : (accP l h k).length = k := by
  unfold accP
  split
  · rw [putP_len, List.length_take]; omega
  · rw [List.length_take]; omega
theorem hasK_next {l : List Hd} {k : Nat} {x : Hd} (hx : l[k]? = some x) (key : ByteArray) : hasK (l.take (k + 1)) key = (hasK (l.take k) key || decide (x.key = key)) := by
  unfold hasK
  rw [take_snoc' hx, List.any_append]
  simp
theorem accP_yes {l : List Hd} {h x : Hd} {k : Nat} (hx : l[k]? = some x) (hd : hasK (l.take k) h.key = true) : accP l h (k + 1) = accP l h k ++ [x] := by
  unfold accP
  rw [if_pos hd, if_pos (by rw [hasK_next hx, hd]; rfl), take_snoc' hx, putP_yes hd]
theorem accP_hit {l : List Hd} {h x : Hd} {k : Nat} (hx : l[k]? = some x) (hd : hasK (l.take k) h.key = false) (he : x.key = h.key) : accP l h (k + 1) = accP l h k ++ [h] := by
  unfold accP
  rw [if_pos (by rw [hasK_next hx]; simp [he]), if_neg (by simp [hd]), take_snoc' hx, putP_no hd]
  simp [putP, he]
theorem accP_no {l : List Hd} {h x : Hd} {k : Nat} (hx : l[k]? = some x) (hd : hasK (l.take k) h.key = false) (he : x.key ≠ h.key) : accP l h (k + 1) = accP l h k ++ [x] := by
  unfold accP
  rw [if_neg (by rw [hasK_next hx]; simp [hd, he]), if_neg (by simp [hd]), take_snoc' hx]
theorem OwH.box4 {w : World} {base : Nat} {A : Option Addr} {c : Nat} {l : List Hd} (h : OwH w base A c l) {g : Nat} {cs : Array Value} (hg : Blk w g 32 cs) (u0 u1 u2 u3 : Value) :
    OwH ((((w.setCell ⟨g, 0, none⟩ u0).setCell ⟨g, 1, none⟩ u1).setCell ⟨g, 2, none⟩ u2).setCell ⟨g, 3, none⟩ u3) base A c l :=
  (((h.box hg (by decide) u0).box (hg.set_ 0 u0) (by decide) u1).box ((hg.set_ 0 u0).set_ 1 u1) (by decide) u2).box (((hg.set_ 0 u0).set_ 1 u1).set_ 2 u2) (by decide) u3
theorem hd_eq {x h : Hd} (he : x.key = h.key) : (⟨x.key, h.text, x.hk, h.ht⟩ : Hd) = h := by
  cases x; cases h
  simp_all
set_option maxRecDepth 100000 in
set_option maxHeartbeats 8000000 in
theorem refset_any (st : Int) (path : ByteArray) (A : Option Addr) (l : List Hd) (c : Nat) (AB : Option Addr) (bd : List UInt8) (cb : Nat) (h : Hd) (w : World) (hr : Rd 2 encHd w w.heap.size A l) (hn : l.length * 32 + 32 ≤ 140737488355328) :
    Calls Tryd.prog 55 #[msgV st path A l.length c AB bd.length cb, .string h.key, .string h.text] w (HdsOut w st path (setP l h) AB bd.length cb) := by
  obtain ⟨w0, hw0⟩ : ∃ W, W = ((w.alloc (.cells (msgC st path A l.length c AB bd.length cb) 32)).alloc (.cells zerC 32)).alloc (.cells (msgC st path none 0 0 AB bd.length cb) 32) := ⟨_, rfl⟩
  have zb : Blk w0 (w.heap.size + 1) 32 zerC := by rw [hw0]; exact (Blk.new' _ _ (by simp) _ _).alloc _
  have bb : Blk w0 (w.heap.size + 2) 32 (msgC st path none 0 0 AB bd.length cb) := by rw [hw0]; exact Blk.new' _ _ (by simp) _ _
  have hB : Below w.heap.size w w0 := by rw [hw0]; exact (((Below.refl _ w).alloc (Nat.le_refl _) _).alloc (by simp) _).alloc (by simp; omega) _
  have hs : w.heap.size + 2 = w.heap.size + 1 + 1 := rfl
  obtain ⟨i0, hi, hz0, hz1, hz2⟩ := info_parts infoHd
  go_enter Tryd.func55, Tryd.ntmps55
  go_wp2
  rw [← hw0]
  clear hw0 hs
  go_loopw [8, 16] (fun d i wr => ∃ (k : Nat) (A4 : Option Addr) (c4 : Nat), k ≤ l.length ∧ i = .int .i64 k ∧ d = .bool (hasK (l.take k) h.key) ∧ Below w.heap.size w wr ∧ Blk wr (w.heap.size + 1) 32 zerC ∧ Blk wr (w.heap.size + 2) 32 (msgC st path A4 k c4 AB bd.length cb) ∧ Hid (OwH wr w.heap.size A4 c4 (accP l h k)))
    (fun _ i _ => l.length - (intOf i).toNat)
  case atStart => exact ⟨0, none, 0, Nat.zero_le _, rfl, rfl, hB, zb, bb, Lib.hid (World.ownsRow_nil _ _ _ _)⟩
  case round =>
    clear hB zb bb
    obtain ⟨k, A4, c4, hk, rfl, rfl, hB, zb, bb, OW⟩ := hrel
    have ow := OW.out
    clear OW
    have hL := accP_len l h k hk
    have ⟨k0, k1, k2, k3⟩ := bb.c4
    have bl := bb.lt
    have kf := bb.frz
    by_cases hlt : k < l.length
    · obtain ⟨b, off, x, rfl, hbB, hx, d0, d1⟩ := (hr.below hB).atH hlt
      obtain ⟨dn, hdn⟩ : ∃ q, q = hasK (l.take k) h.key := ⟨_, rfl⟩
      have hnx := hasK_next hx h.key
      rw [← hdn]
      rw [← hdn] at hnx
      by_cases he : x.key = h.key
      · cases dn
        · have HACC : Hid (accP l h (k + 1) = accP l h k ++ [(⟨x.key, h.text, x.hk, h.ht⟩ : Hd)]) := Lib.hid (by rw [accP_hit hx hdn.symm he, hd_eq he])
          have HNX : Hid (hasK (l.take (k + 1)) h.key = true) := Lib.hid (by rw [hnx, decide_eq_true he]; rfl)
          have hone : ∀ u ∈ encHd ⟨x.key, h.text, x.hk, h.ht⟩, u.oneCell' = true := fun u hu => encHd_one [⟨x.key, h.text, x.hk, h.ht⟩] u (by simpa using hu)
          have hcn := cells_new (wr.alloc (.cells #[.string x.key, .string h.text] 81)) (wr.heap.size + 1) (by simp) [.string x.key, .string h.text] 81
          have hown2 := (ow.alloc (.cells #[.string x.key, .string h.text] 81)).alloc (.cells #[.string x.key, .string h.text] 81)
          have HN := Lib.hid (own_blk_ne ow bb (by decide))
          have HN1 := Lib.hid (own_blk_ne ow zb (by decide))
          have HGE := Lib.hid (own_ge ow)
          have e0 := (bb.alloc (.cells #[.string x.key, .string h.text] 81)).alloc (.cells #[.string x.key, .string h.text] 81)
          have e1 := (zb.alloc (.cells #[.string x.key, .string h.text] 81)).alloc (.cells #[.string x.key, .string h.text] 81)
          have hB3 := (hB.alloc hB.size (.cells #[.string x.key, .string h.text] 81)).alloc (by have := hB.size; simp; omega) (.cells #[.string x.key, .string h.text] 81)
          have hbs := hB.size
          have hq := str_yes he
          clear hx he hdn hnx hB bb zb ow
          go_wp2_with (at_builtin; refine wpList_append_own _ rfl (.tmp 31) (.tmp 33) 29 rfl w.heap.size 81 i0 _ 2 32 Tryd.underlying29 hi hz0 hz1 hz2 rfl (by decide) _ k _ (by first | rfl | (rw [hL])) (by rw [hL] at hown2; exact hown2) ⟨wr.heap.size + 1, 0, none⟩ 1 1 (encHd ⟨x.key, h.text, x.hk, h.ht⟩) rfl rfl hcn hone (by simp only [maxLen]; omega) (by omega) (by simp; omega) ?_; intro v4 w4 hown4 hg4 _; obtain ⟨A5, c5, rfl, _, _⟩ := own_shape hown4; have q0 := e0.grown hg4 (by rw [← hL]; exact HN.out.symm); have q1 := e1.grown hg4 (by rw [← hL]; exact HN1.out.symm); have Q0 := Lib.hid q0; have Q1 := Lib.hid q1; obtain ⟨p0, p1, p2, p3⟩ := q0.c4; have pl := q0.lt; have fp := q0.frz; clear q0 q1)
          go_roundw
          case rel =>
            have hg5 : Below w.heap.size w w4 := hB3.grown hg4 hB3.size (fun g hg => HGE.out g (by rw [hL]; exact hg))
            have o5 : OwH w4 w.heap.size A5 c5 (accP l h (k + 1)) := by
              rw [HACC.out]
              unfold OwH
              rw [List.length_append, hL, List.flatMap_append]
              simpa using hown4
            exact ⟨k + 1, A5, c5, by omega, by go_num, by rw [HNX.out], hg5.setCell (by show w.heap.size ≤ w.heap.size + 2; omega) _, Q1.out.far (by show w.heap.size + 1 ≠ w.heap.size + 2; omega) _, Q0.out.set_ 2 _, Lib.hid (o5.box Q0.out (by decide) _)⟩
          case measure => simp [intOf]; omega
        · have HACC : Hid (accP l h (k + 1) = accP l h k ++ [(⟨x.key, x.text, x.hk, x.ht⟩ : Hd)]) := Lib.hid (accP_yes hx hdn.symm)
          have HNX : Hid (hasK (l.take (k + 1)) h.key = true) := Lib.hid (by rw [hnx]; rfl)
          have hone : ∀ u ∈ encHd ⟨x.key, x.text, x.hk, x.ht⟩, u.oneCell' = true := fun u hu => encHd_one [⟨x.key, x.text, x.hk, x.ht⟩] u (by simpa using hu)
          have hcn := cells_new (wr.alloc (.cells #[.string x.key, .string x.text] 81)) (wr.heap.size + 1) (by simp) [.string x.key, .string x.text] 81
          have hown2 := (ow.alloc (.cells #[.string x.key, .string x.text] 81)).alloc (.cells #[.string x.key, .string x.text] 81)
          have HN := Lib.hid (own_blk_ne ow bb (by decide))
          have HN1 := Lib.hid (own_blk_ne ow zb (by decide))
          have HGE := Lib.hid (own_ge ow)
          have e0 := (bb.alloc (.cells #[.string x.key, .string x.text] 81)).alloc (.cells #[.string x.key, .string x.text] 81)
          have e1 := (zb.alloc (.cells #[.string x.key, .string x.text] 81)).alloc (.cells #[.string x.key, .string x.text] 81)
          have hB3 := (hB.alloc hB.size (.cells #[.string x.key, .string x.text] 81)).alloc (by have := hB.size; simp; omega) (.cells #[.string x.key, .string x.text] 81)
          have hbs := hB.size
          have hq := str_yes he
          clear hx he hdn hnx hB bb zb ow
          go_wp2_with (at_builtin; refine wpList_append_own _ rfl (.tmp 31) (.tmp 33) 29 rfl w.heap.size 81 i0 _ 2 32 Tryd.underlying29 hi hz0 hz1 hz2 rfl (by decide) _ k _ (by first | rfl | (rw [hL])) (by rw [hL] at hown2; exact hown2) ⟨wr.heap.size + 1, 0, none⟩ 1 1 (encHd ⟨x.key, x.text, x.hk, x.ht⟩) rfl rfl hcn hone (by simp only [maxLen]; omega) (by omega) (by simp; omega) ?_; intro v4 w4 hown4 hg4 _; obtain ⟨A5, c5, rfl, _, _⟩ := own_shape hown4; have q0 := e0.grown hg4 (by rw [← hL]; exact HN.out.symm); have q1 := e1.grown hg4 (by rw [← hL]; exact HN1.out.symm); have Q0 := Lib.hid q0; have Q1 := Lib.hid q1; obtain ⟨p0, p1, p2, p3⟩ := q0.c4; have pl := q0.lt; have fp := q0.frz; clear q0 q1)
          go_roundw
          case rel =>
            have hg5 : Below w.heap.size w w4 := hB3.grown hg4 hB3.size (fun g hg => HGE.out g (by rw [hL]; exact hg))
            have o5 : OwH w4 w.heap.size A5 c5 (accP l h (k + 1)) := by
              rw [HACC.out]
              unfold OwH
              rw [List.length_append, hL, List.flatMap_append]
              simpa using hown4
            exact ⟨k + 1, A5, c5, by omega, by go_num, by rw [HNX.out], hg5.setCell (by show w.heap.size ≤ w.heap.size + 2; omega) _, Q1.out.far (by show w.heap.size + 1 ≠ w.heap.size + 2; omega) _, Q0.out.set_ 2 _, Lib.hid (o5.box Q0.out (by decide) _)⟩
          case measure => simp [intOf]; omega
      · cases dn
        · have HACC : Hid (accP l h (k + 1) = accP l h k ++ [(⟨x.key, x.text, x.hk, x.ht⟩ : Hd)]) := Lib.hid (accP_no hx hdn.symm he)
          have HNX : Hid (hasK (l.take (k + 1)) h.key = false) := Lib.hid (by rw [hnx, decide_eq_false he]; rfl)
          have hone : ∀ u ∈ encHd ⟨x.key, x.text, x.hk, x.ht⟩, u.oneCell' = true := fun u hu => encHd_one [⟨x.key, x.text, x.hk, x.ht⟩] u (by simpa using hu)
          have hcn := cells_new (wr.alloc (.cells #[.string x.key, .string x.text] 81)) (wr.heap.size + 1) (by simp) [.string x.key, .string x.text] 81
          have hown2 := (ow.alloc (.cells #[.string x.key, .string x.text] 81)).alloc (.cells #[.string x.key, .string x.text] 81)
          have HN := Lib.hid (own_blk_ne ow bb (by decide))
          have HN1 := Lib.hid (own_blk_ne ow zb (by decide))
          have HGE := Lib.hid (own_ge ow)
          have e0 := (bb.alloc (.cells #[.string x.key, .string x.text] 81)).alloc (.cells #[.string x.key, .string x.text] 81)
          have e1 := (zb.alloc (.cells #[.string x.key, .string x.text] 81)).alloc (.cells #[.string x.key, .string x.text] 81)
          have hB3 := (hB.alloc hB.size (.cells #[.string x.key, .string x.text] 81)).alloc (by have := hB.size; simp; omega) (.cells #[.string x.key, .string x.text] 81)
          have hbs := hB.size
          have hq := str_no he
          clear hx he hdn hnx hB bb zb ow
          go_wp2_with (at_builtin; refine wpList_append_own _ rfl (.tmp 31) (.tmp 33) 29 rfl w.heap.size 81 i0 _ 2 32 Tryd.underlying29 hi hz0 hz1 hz2 rfl (by decide) _ k _ (by first | rfl | (rw [hL])) (by rw [hL] at hown2; exact hown2) ⟨wr.heap.size + 1, 0, none⟩ 1 1 (encHd ⟨x.key, x.text, x.hk, x.ht⟩) rfl rfl hcn hone (by simp only [maxLen]; omega) (by omega) (by simp; omega) ?_; intro v4 w4 hown4 hg4 _; obtain ⟨A5, c5, rfl, _, _⟩ := own_shape hown4; have q0 := e0.grown hg4 (by rw [← hL]; exact HN.out.symm); have q1 := e1.grown hg4 (by rw [← hL]; exact HN1.out.symm); have Q0 := Lib.hid q0; have Q1 := Lib.hid q1; obtain ⟨p0, p1, p2, p3⟩ := q0.c4; have pl := q0.lt; have fp := q0.frz; clear q0 q1)
          go_roundw
          case rel =>
            have hg5 : Below w.heap.size w w4 := hB3.grown hg4 hB3.size (fun g hg => HGE.out g (by rw [hL]; exact hg))
            have o5 : OwH w4 w.heap.size A5 c5 (accP l h (k + 1)) := by
              rw [HACC.out]
              unfold OwH
              rw [List.length_append, hL, List.flatMap_append]
              simpa using hown4
            exact ⟨k + 1, A5, c5, by omega, by go_num, by rw [HNX.out], hg5.setCell (by show w.heap.size ≤ w.heap.size + 2; omega) _, Q1.out.far (by show w.heap.size + 1 ≠ w.heap.size + 2; omega) _, Q0.out.set_ 2 _, Lib.hid (o5.box Q0.out (by decide) _)⟩
          case measure => simp [intOf]; omega
        · have HACC : Hid (accP l h (k + 1) = accP l h k ++ [(⟨x.key, x.text, x.hk, x.ht⟩ : Hd)]) := Lib.hid (accP_yes hx hdn.symm)
          have HNX : Hid (hasK (l.take (k + 1)) h.key = true) := Lib.hid (by rw [hnx]; rfl)
          have hone : ∀ u ∈ encHd ⟨x.key, x.text, x.hk, x.ht⟩, u.oneCell' = true := fun u hu => encHd_one [⟨x.key, x.text, x.hk, x.ht⟩] u (by simpa using hu)
          have hcn := cells_new (wr.alloc (.cells #[.string x.key, .string x.text] 81)) (wr.heap.size + 1) (by simp) [.string x.key, .string x.text] 81
          have hown2 := (ow.alloc (.cells #[.string x.key, .string x.text] 81)).alloc (.cells #[.string x.key, .string x.text] 81)
          have HN := Lib.hid (own_blk_ne ow bb (by decide))
          have HN1 := Lib.hid (own_blk_ne ow zb (by decide))
          have HGE := Lib.hid (own_ge ow)
          have e0 := (bb.alloc (.cells #[.string x.key, .string x.text] 81)).alloc (.cells #[.string x.key, .string x.text] 81)
          have e1 := (zb.alloc (.cells #[.string x.key, .string x.text] 81)).alloc (.cells #[.string x.key, .string x.text] 81)
          have hB3 := (hB.alloc hB.size (.cells #[.string x.key, .string x.text] 81)).alloc (by have := hB.size; simp; omega) (.cells #[.string x.key, .string x.text] 81)
          have hbs := hB.size
          have hq := str_no he
          clear hx he hdn hnx hB bb zb ow
          go_wp2_with (at_builtin; refine wpList_append_own _ rfl (.tmp 31) (.tmp 33) 29 rfl w.heap.size 81 i0 _ 2 32 Tryd.underlying29 hi hz0 hz1 hz2 rfl (by decide) _ k _ (by first | rfl | (rw [hL])) (by rw [hL] at hown2; exact hown2) ⟨wr.heap.size + 1, 0, none⟩ 1 1 (encHd ⟨x.key, x.text, x.hk, x.ht⟩) rfl rfl hcn hone (by simp only [maxLen]; omega) (by omega) (by simp; omega) ?_; intro v4 w4 hown4 hg4 _; obtain ⟨A5, c5, rfl, _, _⟩ := own_shape hown4; have q0 := e0.grown hg4 (by rw [← hL]; exact HN.out.symm); have q1 := e1.grown hg4 (by rw [← hL]; exact HN1.out.symm); have Q0 := Lib.hid q0; have Q1 := Lib.hid q1; obtain ⟨p0, p1, p2, p3⟩ := q0.c4; have pl := q0.lt; have fp := q0.frz; clear q0 q1)
          go_roundw
          case rel =>
            have hg5 : Below w.heap.size w w4 := hB3.grown hg4 hB3.size (fun g hg => HGE.out g (by rw [hL]; exact hg))
            have o5 : OwH w4 w.heap.size A5 c5 (accP l h (k + 1)) := by
              rw [HACC.out]
              unfold OwH
              rw [List.length_append, hL, List.flatMap_append]
              simpa using hown4
            exact ⟨k + 1, A5, c5, by omega, by go_num, by rw [HNX.out], hg5.setCell (by show w.heap.size ≤ w.heap.size + 2; omega) _, Q1.out.far (by show w.heap.size + 1 ≠ w.heap.size + 2; omega) _, Q0.out.set_ 2 _, Lib.hid (o5.box Q0.out (by decide) _)⟩
          case measure => simp [intOf]; omega
    · have hle : l.length ≤ k := by omega
      have hkl : k = l.length := by omega
      have htk : l.take k = l := List.take_of_length_le (by omega)
      obtain ⟨dn, hdn⟩ : ∃ q, q = hasK (l.take k) h.key := ⟨_, rfl⟩
      rw [← hdn]
      rw [htk] at hdn
      have hBw := hB.size
      have ⟨z0, z1, z2, z3⟩ := zb.c4
      have zl := zb.lt
      have zf := zb.frz
      cases dn
      · have hacc : accP l h k = l := by unfold accP; rw [htk, if_neg (by simp [← hdn])]
        rw [hacc] at ow hL
        by_cases h6 : l.length < 6
        · have HV := Lib.hid (show setP l h = l ++ [h] by unfold setP; rw [if_neg (by simp [← hdn]), if_pos h6])
          have h6' : (k : Int) < 6 := by omega
          have hone : ∀ u ∈ encHd h, u.oneCell' = true := fun u hu => encHd_one [h] u (by simpa using hu)
          have hcn := cells_new wr wr.heap.size rfl [.string h.key, .string h.text] 81
          have hown2 := ow.alloc (.cells #[.string h.key, .string h.text] 81)
          have HN := Lib.hid (own_blk_ne ow bb (by decide))
          have HN1 := Lib.hid (own_blk_ne ow zb (by decide))
          have HGE := Lib.hid (own_ge ow)
          have e0 := bb.alloc (.cells #[.string h.key, .string h.text] 81)
          have e1 := zb.alloc (.cells #[.string h.key, .string h.text] 81)
          have hB3 := hB.alloc hB.size (.cells #[.string h.key, .string h.text] 81)
          have HB0 := Lib.hid (own_lt ow)
          clear hdn hacc htk hkl hB bb zb ow z0 z1 z2 z3 zl zf
          go_wp2_with (at_builtin; refine wpList_append_own _ rfl (.tmp 46) (.tmp 50) 29 rfl w.heap.size 81 i0 _ 2 32 Tryd.underlying29 hi hz0 hz1 hz2 rfl (by decide) _ k _ (by first | rfl | (rw [hL])) (by rw [hL] at hown2; exact hown2) ⟨wr.heap.size, 0, none⟩ 1 1 (encHd h) rfl rfl hcn hone (by simp only [maxLen]; omega) (by omega) (by simp; omega) ?_; intro v4 w4 hown4 hg4 _; obtain ⟨A5, c5, rfl, _, _⟩ := own_shape hown4; have q0 := e0.grown hg4 (by rw [← hL]; exact HN.out.symm); have q1 := e1.grown hg4 (by rw [← hL]; exact HN1.out.symm); have Q0 := Lib.hid q0; have Q1 := Lib.hid q1; obtain ⟨p0, p1, p2, p3⟩ := q0.c4; obtain ⟨r0, r1, r2, r3⟩ := q1.c4; have fp := q0.frz; have fr := q1.frz; have pl := q0.lt; have rl := q1.lt; clear q0 q1)
          have hg5 : Below w.heap.size w w4 := hB3.grown hg4 hB3.size (fun g hg => HGE.out g (by rw [hL]; exact hg))
          have o5 : OwH w4 w.heap.size A5 c5 (l ++ [h]) := by
            unfold OwH
            rw [List.length_append, hL, List.flatMap_append]
            simpa using hown4
          have b5 := Q0.out
          have z5 := Q1.out.far (p := ⟨w.heap.size + 2, 2, none⟩) (by show w.heap.size + 1 ≠ w.heap.size + 2; omega) (.slice A5 (k + 1) c5)
          have o6 := o5.box b5 (i := 2) (by decide) (.slice A5 (k + 1) c5)
          have o7 := o6.box4 z5 (.int .i64 st) (.string path) (.slice A5 (k + 1) c5) (.slice AB bd.length cb)
          have bx := (((z5.set_ 0 (.int .i64 st)).set_ 1 (.string path)).set_ 2 (.slice A5 (k + 1) c5)).set_ 3 (.slice AB bd.length cb)
          refine bodyPost_ret (v := msgV st path A5 (k + 1) c5 AB bd.length cb) (results_cell_row (p := 6) (ty := 32) Tryd.results55 _ _ (w.heap.size + 1) 32 _ (0, 0) _ rfl bx Tryd.underlying32 rfl (by kernel_rfl)) rfl (hdsOut rfl (by rw [HV.out]; simp [hL]) (by rw [HV.out]; exact o7) ?_)
          iterate 4 refine Below.setCell ?_ (by show w.heap.size ≤ w.heap.size + 1; omega) _
          exact hg5.setCell (by show w.heap.size ≤ w.heap.size + 2; omega) _
        · have HV := Lib.hid (show setP l h = l by unfold setP; rw [if_neg (by simp [← hdn]), if_neg h6])
          have h6' : ¬ (k : Int) < 6 := by omega
          clear hdn hacc htk hkl
          go_wp2
          have o7 := ow.box4 zb (.int .i64 st) (.string path) (.slice A4 k c4) (.slice AB bd.length cb)
          have bx := (((zb.set_ 0 (.int .i64 st)).set_ 1 (.string path)).set_ 2 (.slice A4 k c4)).set_ 3 (.slice AB bd.length cb)
          refine bodyPost_ret (v := msgV st path A4 k c4 AB bd.length cb) (results_cell_row (p := 6) (ty := 32) Tryd.results55 _ _ (w.heap.size + 1) 32 _ (0, 0) _ rfl bx Tryd.underlying32 rfl (by kernel_rfl)) rfl (hdsOut rfl (by rw [HV.out, hL]) (by rw [HV.out]; exact o7) ?_)
          iterate 4 refine Below.setCell ?_ (by show w.heap.size ≤ w.heap.size + 1; omega) _
          exact hB
      · have hacc : accP l h k = setP l h := by unfold accP setP; rw [htk, if_pos hdn.symm, if_pos hdn.symm]
        rw [hacc] at ow hL
        clear hdn hacc htk hkl
        go_wp2
        have o7 := ow.box4 zb (.int .i64 st) (.string path) (.slice A4 k c4) (.slice AB bd.length cb)
        have bx := (((zb.set_ 0 (.int .i64 st)).set_ 1 (.string path)).set_ 2 (.slice A4 k c4)).set_ 3 (.slice AB bd.length cb)
        refine bodyPost_ret (v := msgV st path A4 k c4 AB bd.length cb) (results_cell_row (p := 6) (ty := 32) Tryd.results55 _ _ (w.heap.size + 1) 32 _ (0, 0) _ rfl bx Tryd.underlying32 rfl (by kernel_rfl)) rfl (hdsOut rfl hL.symm o7 ?_)
        iterate 4 refine Below.setCell ?_ (by show w.heap.size ≤ w.heap.size + 1; omega) _
        exact hB
end Go.Proofs.YtmcjgfoaiannoabDoor
