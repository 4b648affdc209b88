/-
  Copies of heads, of bodies and of messages: msg.Own. Condition: what a message holds can be read.
-/
import Derived.Test.YtmcjgfoaiannoabDoorBMsg
import Derived.Test.YtmcjgfoaiannoabDoorOwn0
import Derived.Deep.RegionHeld3
namespace Go.Proofs.YtmcjgfoaiannoabDoor
open Go.RowKit

theorem below_undrew3 {w w' : World} (h : Below w.drew.heap.size w.drew w') : Below w.heap.size w w' := ⟨h.os, h.tape, h.output, h.size, h.block⟩
theorem infoHd : (Tryd.prog.info? 81).map (fun i => (i.zero, i.size, i.bytes)) = some (some (.agg #[.string ⟨#[]⟩, .string ⟨#[]⟩]), 2, 32) := by kernel_rfl
theorem infoY : (Tryd.prog.info? 5).map (fun i => (i.zero, i.size, i.bytes)) = some (some (.int .u8 0), 1, 1) := by kernel_rfl
theorem encHd_one (l : List Hd) : ∀ u ∈ l.flatMap encHd, u.oneCell' = true := fun u hu => by
  obtain ⟨x, _, hx⟩ := List.mem_flatMap.1 hu
  simp only [encHd, List.mem_cons, List.not_mem_nil, or_false] at hx
  rcases hx with rfl | rfl <;> rfl
theorem encY_one (l : List UInt8) : ∀ u ∈ l.flatMap encY, u.oneCell' = true := fun u hu => by
  obtain ⟨x, _, hx⟩ := List.mem_flatMap.1 hu
  simp only [encY, List.mem_cons, List.not_mem_nil, or_false] at hx
  rcases hx with rfl
  rfl
/-- heads in a row of their own -/
def OwH (w : World) (base : Nat) (A : Option Addr) (c : Nat) (l : List Hd) : Prop := w.ownsRow base 81 2 (.slice A l.length c) l.length (l.flatMap encHd)
/-- a body in a row of its own -/
def OwY (w : World) (base : Nat) (A : Option Addr) (c : Nat) (l : List UInt8) : Prop := w.ownsRow base 5 1 (.slice A l.length c) l.length (l.flatMap encY)
section
variable {w w' : World} {base base' : Nat} {A : Option Addr} {c : Nat} {l : List Hd} {m : List UInt8}
theorem OwH.below (h : OwH w base A c l) (hb : Below w.heap.size w w') : OwH w' base A c l := own_below h hb (own_lt h)
theorem OwY.below (h : OwY w base A c m) (hb : Below w.heap.size w w') : OwY w' base A c m := own_below h hb (own_lt h)
theorem OwH.more (h : OwH w base A c l) (hB : base' ≤ base) : OwH w base' A c l := own_mono h hB
theorem OwY.more (h : OwY w base A c m) (hB : base' ≤ base) : OwY w base' A c m := own_mono h hB
theorem OwH.rd (h : OwH w base A c l) : Rd 2 encHd w w.heap.size A l := Rd.of_own encHd_len h
theorem OwY.rd (h : OwY w base A c m) : Rd 1 encY w w.heap.size A m := Rd.of_own encY_len h
theorem OwH.cap (h : OwH w base A c l) : l.length ≤ c ∧ c ≤ maxLen := by
  obtain ⟨A', c', e, h1, h2⟩ := own_shape h
  cases e
  exact ⟨h1, h2⟩
theorem OwY.cap (h : OwY w base A c m) : m.length ≤ c ∧ c ≤ maxLen := by
  obtain ⟨A', c', e, h1, h2⟩ := own_shape h
  cases e
  exact ⟨h1, h2⟩
/-- a store to a block of another type -/
theorem OwH.box (h : OwH w base A c l) {g i : Nat} {t : TypeId} {cs : Array Value} (hg : Blk w g t cs) (ht : 81 ≠ t) (u : Value) : OwH (w.setCell ⟨g, i, none⟩ u) base A c l := own_setCell h (own_blk_ne h hg ht) u
theorem OwY.box (h : OwY w base A c m) {g i : Nat} {t : TypeId} {cs : Array Value} (hg : Blk w g t cs) (ht : 5 ≠ t) (u : Value) : OwY (w.setCell ⟨g, i, none⟩ u) base A c m := own_setCell h (own_blk_ne h hg ht) u
end
set_option maxRecDepth 100000 in
set_option maxHeartbeats 1000000 in
theorem cloneHd_any (A : Option Addr) (c : Nat) (l : List Hd) (w : World) (hr : Rd 2 encHd w w.heap.size A l) (hn : l.length * 32 ≤ 140737488355328) :
    Calls Tryd.prog 69 #[.slice A l.length c] w fun e w' => ∃ A' c', e = .returned (.slice A' l.length c') ∧ OwH w' w.heap.size A' c' l ∧ Below w.heap.size w w' := by
  rcases A with _ | ad
  · have hl : l = [] := by
      rcases Nat.eq_zero_or_pos l.length with h | h
      · exact List.eq_nil_of_length_eq_zero h
      · obtain ⟨b, off, e, _⟩ := hr h
        cases e
    subst hl
    have hnn := fun (W : World) => Lib.run_eql_slice_nil (P := Tryd.prog) W 29 81 none 0 c 0 0 Tryd.underlying29
    go_enter Tryd.func69, Tryd.ntmps69
    go_wp2
    go_ret
    exact ⟨none, 0, rfl, World.ownsRow_nil _ _ _ _, Below.refl _ _⟩
  · have hnn := fun (W : World) => Lib.run_eql_slice_nil (P := Tryd.prog) W 29 81 (some ad) l.length c 0 0 Tryd.underlying29
    obtain ⟨i0, hi, hz0, hz1, hz2⟩ := info_parts infoHd
    have hrd := hr.reads encHd_len (by omega)
    have hb0 : (w.alloc (.cells #[] 81)).ownsRow w.heap.size 81 2 (.slice (some ⟨w.heap.size, 0, none⟩) 0 0) 0 [] :=
      ⟨rfl, .inr ⟨w.heap.size, 0, #[], rfl, Nat.le_refl _, heap_alloc_new _ _, Nat.le_refl _, by simp [maxLen], rfl, rfl⟩⟩
    have hrd' := (hrd.alloc (Nat.le_refl _) (.cells #[] 81))
    clear hrd hr
    go_enter Tryd.func69, Tryd.ntmps69
    go_wp2_with (at_builtin; refine wpList_append_any _ rfl (.tmp 5) (.tmp 6) _ rfl w.heap.size 81 i0 _ 2 32 Tryd.underlying29 hi hz0 hz1 hz2 rfl (by omega) _ 0 [] rfl hb0 w.heap.size (some ad) l.length c _ rfl hrd' (encHd_one l) (by simp only [maxLen]; omega) (by omega) (by simp) ?_; intro v1 w1 hown1 hg1 hat1; simp only [Nat.zero_add, List.nil_append] at hown1; go_simp)
    go_ret
    obtain ⟨A', c', rfl, _, _⟩ := own_shape hown1
    refine ⟨A', c', rfl, hown1, ((Below.refl _ _).alloc (Nat.le_refl _) _).grown hg1 (by simp) (fun g hg => ?_)⟩
    cases hg
    exact Nat.le_refl _
set_option maxRecDepth 100000 in
set_option maxHeartbeats 1000000 in
theorem cloneY_any (A : Option Addr) (c : Nat) (l : List UInt8) (w : World) (hr : Rd 1 encY w w.heap.size A l) (hn : l.length * 1 ≤ 140737488355328) :
    Calls Tryd.prog 70 #[.slice A l.length c] w fun e w' => ∃ A' c', e = .returned (.slice A' l.length c') ∧ OwY w' w.heap.size A' c' l ∧ Below w.heap.size w w' := by
  rcases A with _ | ad
  · have hl : l = [] := by
      rcases Nat.eq_zero_or_pos l.length with h | h
      · exact List.eq_nil_of_length_eq_zero h
      · obtain ⟨b, off, e, _⟩ := hr h
        cases e
    subst hl
    have hnn := fun (W : World) => Lib.run_eql_slice_nil (P := Tryd.prog) W 30 5 none 0 c 0 0 Tryd.underlying30
    go_enter Tryd.func70, Tryd.ntmps70
    go_wp2
    go_ret
    exact ⟨none, 0, rfl, World.ownsRow_nil _ _ _ _, Below.refl _ _⟩
  · have hnn := fun (W : World) => Lib.run_eql_slice_nil (P := Tryd.prog) W 30 5 (some ad) l.length c 0 0 Tryd.underlying30
    obtain ⟨i0, hi, hz0, hz1, hz2⟩ := info_parts infoY
    have hrd := hr.reads encY_len (by omega)
    have hb0 : (w.alloc (.cells #[] 5)).ownsRow w.heap.size 5 1 (.slice (some ⟨w.heap.size, 0, none⟩) 0 0) 0 [] :=
      ⟨rfl, .inr ⟨w.heap.size, 0, #[], rfl, Nat.le_refl _, heap_alloc_new _ _, Nat.le_refl _, by simp [maxLen], rfl, rfl⟩⟩
    have hrd' := (hrd.alloc (Nat.le_refl _) (.cells #[] 5))
    clear hrd hr
    go_enter Tryd.func70, Tryd.ntmps70
    go_wp2_with (at_builtin; refine wpList_append_any _ rfl (.tmp 5) (.tmp 6) _ rfl w.heap.size 5 i0 _ 1 1 Tryd.underlying30 hi hz0 hz1 hz2 rfl (by omega) _ 0 [] rfl hb0 w.heap.size (some ad) l.length c _ rfl hrd' (encY_one l) (by simp only [maxLen]; omega) (by omega) (by simp) ?_; intro v1 w1 hown1 hg1 hat1; simp only [Nat.zero_add, List.nil_append] at hown1; go_simp)
    go_ret
    obtain ⟨A', c', rfl, _, _⟩ := own_shape hown1
    refine ⟨A', c', rfl, hown1, ((Below.refl _ _).alloc (Nat.le_refl _) _).grown hg1 (by simp) (fun g hg => ?_)⟩
    cases hg
    exact Nat.le_refl _
theorem Rd.up {α : Type} {k : Nat} {enc : α → List Value} {w w' : World} {A : Option Addr} {l : List α} (h : Rd k enc w w.heap.size A l) (hb : Below w.heap.size w w') : Rd k enc w' w'.heap.size A l := (h.below hb).more hb.size
/-- a message of the call's own: its slices lie in rows of their own -/
structure MsgOw (w : World) (base : Nat) (A : Option Addr) (l : List Hd) (c : Nat) (AB : Option Addr) (bd : List UInt8) (cb : Nat) : Prop where
  h : OwH w base A c l
  y : OwY w base AB cb bd
theorem MsgOw.below {w w' : World} {base : Nat} {A : Option Addr} {l : List Hd} {c : Nat} {AB : Option Addr} {bd : List UInt8} {cb : Nat} (h : MsgOw w base A l c AB bd cb) (hb : Below w.heap.size w w') : MsgOw w' base A l c AB bd cb := ⟨h.h.below hb, h.y.below hb⟩
theorem MsgOw.more {w : World} {base base' : Nat} {A : Option Addr} {l : List Hd} {c : Nat} {AB : Option Addr} {bd : List UInt8} {cb : Nat} (h : MsgOw w base A l c AB bd cb) (hb : base' ≤ base) : MsgOw w base' A l c AB bd cb := ⟨h.h.more hb, h.y.more hb⟩
theorem MsgOw.box {w : World} {base : Nat} {A : Option Addr} {l : List Hd} {c : Nat} {AB : Option Addr} {bd : List UInt8} {cb : Nat} (h : MsgOw w base A l c AB bd cb) {g i : Nat} {cs : Array Value} (hg : Blk w g 32 cs) (u : Value) : MsgOw (w.setCell ⟨g, i, none⟩ u) base A l c AB bd cb := ⟨h.h.box hg (by decide) u, h.y.box hg (by decide) u⟩
theorem MsgOw.box4 {w : World} {base : Nat} {A : Option Addr} {l : List Hd} {c : Nat} {AB : Option Addr} {bd : List UInt8} {cb : Nat} (h : MsgOw w base A l c AB bd cb) {g : Nat} {cs : Array Value} (hg : Blk w g 32 cs) (u0 u1 u2 u3 : Value) :
    MsgOw ((((w.setCell ⟨g, 0, none⟩ u0).setCell ⟨g, 1, none⟩ u1).setCell ⟨g, 2, none⟩ u2).setCell ⟨g, 3, none⟩ u3) base A l c AB bd cb :=
  (((h.box hg u0).box (hg.set_ 0 u0) u1).box ((hg.set_ 0 u0).set_ 1 u1) u2).box (((hg.set_ 0 u0).set_ 1 u1).set_ 2 u2) u3
set_option maxRecDepth 100000 in
set_option maxHeartbeats 4000000 in
theorem own_any (st : Int) (path : ByteArray) (A : Option Addr) (l : List Hd) (c : Nat) (AB : Option Addr) (bd : List UInt8) (cb : Nat) (w : World) (hr : Rd 2 encHd w w.heap.size A l) (hy : Rd 1 encY w w.heap.size AB bd) (hn : l.length * 32 ≤ 140737488355328) (hm : bd.length ≤ 140737488355328) :
    Calls Tryd.prog 46 #[msgV st path A l.length c AB bd.length cb] w fun e w' => ∃ A' c' B' d', e = .returned (msgV st path A' l.length c' B' bd.length d') ∧ MsgOw w' w.heap.size A' l c' B' bd d' ∧ Below w.heap.size w w' := by
  go_enter Tryd.func46, Tryd.ntmps46
  obtain ⟨w0, hw0⟩ : ∃ w0, w0 = (w.alloc (.cells (msgC st path A l.length c AB bd.length cb) 32)).alloc (.cells #[.int .i64 0, .string { data := #[] }, .slice none 0 0, .slice none 0 0] 32) := ⟨_, rfl⟩
  go_upto_region 1 with fail
  rw [← hw0]
  have bb : Blk w0 w.heap.size 32 (msgC st path A l.length c AB bd.length cb) := by rw [hw0]; exact (Blk.new _ _ _).alloc _
  have zb : Blk w0 (w.heap.size + 1) 32 #[.int .i64 0, .string { data := #[] }, .slice none 0 0, .slice none 0 0] := by rw [hw0]; exact Blk.new' _ _ (by simp) _ _
  have hB : Below w.heap.size w w0 := by rw [hw0]; exact ((Below.refl _ w).alloc (Nat.le_refl _) _).alloc (by simp) _
  have hr := hr.up hB
  have hy := hy.up hB
  clear hw0
  go_cut [] (fun wx => ∃ A' c' B' d', Blk wx w.heap.size 32 (msgC st path A' l.length c' B' bd.length d') ∧ Blk wx (w.heap.size + 1) 32 #[.int .i64 0, .string { data := #[] }, .slice none 0 0, .slice none 0 0] ∧ MsgOw wx w.heap.size A' l c' B' bd d' ∧ Below w.heap.size w wx)
  case first =>
    obtain ⟨k0, k1, k2, k3⟩ := bb.c4
    have kf := bb.frz
    have oh : True := trivial
    have oy : True := trivial
    go_region_law (first
      | (go_simp
         with_reducible refine (cloneHd_any A c l _ ?_ hn).mono ?_
         · exact hr
         rintro e w' ⟨A', c', rfl, oh, hb⟩
         have oh := oh.more hB.size
         repeat (have hb := below_undrew3 hb)
         have bb := bb.below hb bb.lt
         have zb := zb.below hb zb.lt
         have hr := hr.up hb
         have hy := hy.up hb
         have hB := hB.trans (hb.mono hB.size)
         try have oy := oy.below hb
         obtain ⟨k0, k1, k2, k3⟩ := bb.c4
         have kf := bb.frz)
      | (go_simp
         with_reducible refine (cloneY_any AB cb bd _ ?_ (by omega)).mono ?_
         · exact hy
         rintro e w' ⟨B', d', rfl, oy, hb⟩
         have oy := oy.more hB.size
         repeat (have hb := below_undrew3 hb)
         have bb := bb.below hb bb.lt
         have zb := zb.below hb zb.lt
         have hr := hr.up hb
         have hy := hy.up hb
         have hB := hB.trans (hb.mono hB.size)
         try have oh := oh.below hb
         obtain ⟨k0, k1, k2, k3⟩ := bb.c4
         have kf := bb.frz))
    all_goals
      go_wp2_with fail
      go_meet
      exact ⟨A', c', B', d', Blk.set_ (Blk.set_ bb 2 _) 3 _, (zb.far (p := ⟨w.heap.size, 2, none⟩) (by show w.heap.size + 1 ≠ w.heap.size; omega) _).far (p := ⟨w.heap.size, 3, none⟩) (by show w.heap.size + 1 ≠ w.heap.size; omega) _, ((MsgOw.mk oh oy).box bb _).box (bb.set_ 2 _) _, (hB.setCell (p := ⟨w.heap.size, 2, none⟩) (Nat.le_refl _) _).setCell (p := ⟨w.heap.size, 3, none⟩) (Nat.le_refl _) _⟩
  case rest =>
    obtain ⟨A', c', B', d', bb, zb, ow, hB⟩ := hcut
    have k0 := bb.cell 0
    have k1 := bb.cell 1
    have k2 := bb.cell 2
    have k3 := bb.cell 3
    have j0 := zb.cell 0
    have j1 := zb.cell 1
    have j2 := zb.cell 2
    have j3 := zb.cell 3
    simp at k0 k1 k2 k3 j0 j1 j2 j3
    have zf := zb.frz
    have l2 := zb.lt
    go_wp2
    refine bodyPost_ret (v := msgV st path A' l.length c' B' bd.length d') (by simp only [results, Tryd.results46]; go_simp) rfl ⟨A', c', B', d', rfl, ow.box4 zb _ _ _ _, ?_⟩
    iterate 4 refine Below.setCell ?_ (by show w.heap.size ≤ w.heap.size + 1; omega) _
    exact hB
end Go.Proofs.YtmcjgfoaiannoabDoor
