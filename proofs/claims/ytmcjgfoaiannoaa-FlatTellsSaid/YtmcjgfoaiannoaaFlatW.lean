/-
  FlatTells: the walk. Condition: no string is longer than any may be.
-/
import Derived.Test.YtmcjgfoaiannoaaFLay
import Derived.Deep.RegionHeld3
namespace Go.Proofs.Ytmcjgfoaiannoaa
open Go.RowKit

theorem nsR_get (bs : List Bool) (n d : Nat) (h : d ≤ n) : (nsR bs n)[n - d]? = some (nxt bs d) := by
  induction n with
  | zero =>
    obtain rfl : d = 0 := by omega
    rfl
  | succ n ih =>
    by_cases hd : d = n + 1
    · subst hd
      simp [nsR]
    · rw [show n + 1 - d = (n - d) + 1 by omega, nsR, List.getElem?_cons_succ]
      exact ih (by omega)
theorem nsI_get (bs : List Bool) (d : Nat) (h : d ≤ bs.length) : (nsI bs bs.length)[bs.length - d]? = some (nxt bs d) := by
  unfold nsI
  rw [Nat.sub_self, List.replicate_zero, List.nil_append]
  exact nsR_get bs _ d h
set_option maxRecDepth 100000 in
theorem by_any (v0 v1 v2 v3 : Value) (w : World) : Calls Try.prog 29 #[.agg #[v0, v1, v2, v3]] w fun e w' => ∃ Q, e = .returned (.func (.func 52) #[] #[.pointer (some ⟨Q, 0, none⟩)]) ∧ Blk w' Q 56 #[v0, v1, v2, v3] ∧ Below w.heap.size w w' := by
  have hmf : ∀ (fn : Fn) (first cap : Array Value) (w : World), (Instr.makeFunc fn first cap).run Try.prog w = .ok (.func fn first cap) w := fun _ _ _ _ => rfl
  go_enter Try.func29, Try.ntmps29
  go_wp2
  go_ret
  exact ⟨_, rfl, Blk.new _ _ _, (Below.refl _ w).alloc (Nat.le_refl _) _⟩
set_option maxRecDepth 100000 in
theorem by1_0 (T B n i : Nat) (b : Bool) (w : World) (hi : i < n) (h1 : w.cell? ⟨T, 0, none⟩ = some (.slice (some ⟨B, 0, none⟩) n n)) (h2 : w.cell? ⟨B, i, none⟩ = some (.bool b)) : Calls Try.prog 52 #[.int .i64 i, .int .i64 1, .pointer (some ⟨T, 0, none⟩)] w fun e w' => e = .returned (.bool b) ∧ w' = w := by
  go_enter Try.func52, Try.ntmps52
  go_wp2
  go_ret
  exact ⟨rfl, rfl⟩
set_option maxRecDepth 100000 in
theorem by1_1 (T B n i : Nat) (b : Bool) (w : World) (hi : i < n) (h1 : w.cell? ⟨T, 1, none⟩ = some (.slice (some ⟨B, 0, none⟩) n n)) (h2 : w.cell? ⟨B, i, none⟩ = some (.bool b)) : Calls Try.prog 52 #[.int .i64 i, .int .i64 2, .pointer (some ⟨T, 0, none⟩)] w fun e w' => e = .returned (.bool b) ∧ w' = w := by
  go_enter Try.func52, Try.ntmps52
  go_wp2
  go_ret
  exact ⟨rfl, rfl⟩
set_option maxRecDepth 100000 in
theorem by1_2 (T B n i : Nat) (b : Bool) (w : World) (hi : i < n) (h1 : w.cell? ⟨T, 2, none⟩ = some (.slice (some ⟨B, 0, none⟩) n n)) (h2 : w.cell? ⟨B, i, none⟩ = some (.bool b)) : Calls Try.prog 52 #[.int .i64 i, .int .i64 3, .pointer (some ⟨T, 0, none⟩)] w fun e w' => e = .returned (.bool b) ∧ w' = w := by
  go_enter Try.func52, Try.ntmps52
  go_wp2
  go_ret
  exact ⟨rfl, rfl⟩
set_option maxRecDepth 100000 in
set_option maxHeartbeats 4000000 in
theorem flatTells_walk (A1 : Option Addr) (c1 : Nat) (A2 : Option Addr) (c2 : Nat) (A3 : Option Addr) (c3 : Nat) (l1 : List Sv) (l2 : List Up) (l3 : List Bd) (fl cn wt tm : Int) (w : World) (r1 : Rd 4 encS w w.heap.size A1 l1) (r2 : Rd 4 encU w w.heap.size A2 l2) (r3 : Rd 5 encB w w.heap.size A3 l3) :
    Calls Try.prog 7 #[.agg #[.slice A1 l1.length c1, .slice A2 l2.length c2, .slice A3 l3.length c3, .int .i64 fl, .int .i64 cn, .int .i64 wt, .int .i64 tm]] w fun e w' => e = .returned (.bool true) ∧ Below w.heap.size w w' := by
  go_enter Try.func7, Try.ntmps7
  obtain ⟨w0, hw0⟩ : ∃ w0, w0 = w.alloc (.cells #[.slice A1 l1.length c1, .slice A2 l2.length c2, .slice A3 l3.length c3, .int .i64 fl, .int .i64 cn, .int .i64 wt, .int .i64 tm] 50) := ⟨_, rfl⟩
  have cb : Blk w0 w.heap.size 50 #[.slice A1 l1.length c1, .slice A2 l2.length c2, .slice A3 l3.length c3, .int .i64 fl, .int .i64 cn, .int .i64 wt, .int .i64 tm] := by rw [hw0]; exact Blk.new _ _ _
  have hB : Below w.heap.size w w0 := by rw [hw0]; exact (Below.refl _ w).alloc (Nat.le_refl _) _
  go_wp2_with (go_at_call 26; refine Hid.out ?_)
  unfold Hid
  rw [← hw0]
  clear hw0
  refine (wrongConf_any A1 A2 A3 c1 c2 c3 l1 l2 l3 fl cn wt tm w0 ((r1.below hB).more hB.size) ((r2.below hB).more hB.size) ((r3.below hB).more hB.size)).mono ?_
  rintro e w1 ⟨⟨x, k, rfl, hx⟩, hb⟩
  have cb := cb.below hb cb.lt
  have hB := hB.trans (hb.mono hB.size)
  clear hb
  by_cases hx0 : ¬ x = 0
  · have hx1 : (x == 0) = false := by simpa using hx0
    go_wp2
    go_ret
    exact ⟨rfl, hB⟩
  have hx0 : x = 0 := Classical.not_not.1 hx0
  have HOK := Lib.hid (hx hx0)
  subst hx0
  clear hx
  have ⟨k0, k1, k2, k3, k4, k5, k6⟩ := cb.c7
  have lc := cb.lt
  go_wp2_with (go_at_call 27; refine Hid.out ?_)
  unfold Hid
  refine (lay_any A1 A2 A3 c1 c2 c3 l2.length l3.length l1 fl cn wt tm w1 ((r1.below hB).more hB.size) HOK.out).mono ?_
  rintro e w2 ⟨K0, K1, K2, K3, rfl, b0, b1, b2, nb, hb⟩
  have cb := cb.below hb cb.lt
  have hB := hB.trans (hb.mono hB.size)
  clear hb k0 k1 k2 k3 k4 k5 k6 lc
  have ⟨k0, k1, k2, k3, k4, k5, k6⟩ := cb.c7
  have lc := cb.lt
  have hN := HOK.out.1
  have hwN : IntKind.i64.wrap ((l1.length : Int) + 1) = (l1.length : Int) + 1 := IntWalk.i64_in _ (by omega)
  obtain ⟨T, hT⟩ : ∃ T, T = w2.heap.size := ⟨_, rfl⟩
  obtain ⟨w3, hw3⟩ : ∃ w3, w3 = w2.alloc (.cells #[.slice (some ⟨K0, 0, none⟩) l1.length l1.length, .slice (some ⟨K1, 0, none⟩) l1.length l1.length, .slice (some ⟨K2, 0, none⟩) l1.length l1.length, .slice (some ⟨K3, 0, none⟩) (l1.length + 1) (l1.length + 1)] 56) := ⟨_, rfl⟩
  have tb : Blk w3 T 56 #[.slice (some ⟨K0, 0, none⟩) l1.length l1.length, .slice (some ⟨K1, 0, none⟩) l1.length l1.length, .slice (some ⟨K2, 0, none⟩) l1.length l1.length, .slice (some ⟨K3, 0, none⟩) (l1.length + 1) (l1.length + 1)] := by rw [hw3, hT]; exact Blk.new _ _ _
  have cb' : Blk w3 w.heap.size 50 #[.slice A1 l1.length c1, .slice A2 l2.length c2, .slice A3 l3.length c3, .int .i64 fl, .int .i64 cn, .int .i64 wt, .int .i64 tm] := by rw [hw3]; exact cb.alloc _
  have b0 : Blk w3 K0 4 (boolA (bsF l1 1)) := by rw [hw3]; exact b0.alloc _
  have b1 : Blk w3 K1 4 (boolA (bsF l1 2)) := by rw [hw3]; exact b1.alloc _
  have b2 : Blk w3 K2 4 (boolA (bsF l1 3)) := by rw [hw3]; exact b2.alloc _
  have nb : Blk w3 K3 3 (intA (nsI (bsF l1 1) l1.length)) := by rw [hw3]; exact nb.alloc _
  have hB : Below w.heap.size w w3 := by rw [hw3]; exact hB.alloc hB.size _
  have hbl := Lib.hid (bsF_len l1 1)
  go_wp2
  rw [← hT, ← hw3]
  clear hw3 hT k0 k1 k2 k3 k4 k5 k6 lc
  go_loopw [7, 8] (fun nx i ws => ∃ d : Nat, d ≤ l1.length + 1 ∧ i = .int .i64 ((l1.length : Int) - d) ∧ nx = .int .i64 (nxt (bsF l1 1) (d - 1) : Nat) ∧ Below w.heap.size w ws ∧ Blk ws w.heap.size 50 #[.slice A1 l1.length c1, .slice A2 l2.length c2, .slice A3 l3.length c3, .int .i64 fl, .int .i64 cn, .int .i64 wt, .int .i64 tm] ∧ Blk ws T 56 #[.slice (some ⟨K0, 0, none⟩) l1.length l1.length, .slice (some ⟨K1, 0, none⟩) l1.length l1.length, .slice (some ⟨K2, 0, none⟩) l1.length l1.length, .slice (some ⟨K3, 0, none⟩) (l1.length + 1) (l1.length + 1)] ∧ Blk ws K0 4 (boolA (bsF l1 1)) ∧ Blk ws K1 4 (boolA (bsF l1 2)) ∧ Blk ws K2 4 (boolA (bsF l1 3)) ∧ Blk ws K3 3 (intA (nsI (bsF l1 1) l1.length)))
    (fun _ i _ => (intOf i + 1).toNat)
  case atStart => exact ⟨0, Nat.zero_le _, by simp, by rw [show nxt (bsF l1 1) (0 - 1) = (bsF l1 1).length from rfl, hbl.out], hB, cb', tb, b0, b1, b2, nb⟩
  case round =>
    clear hB cb' tb b0 b1 b2 nb
    obtain ⟨d, hd, rfl, rfl, hB, cb, tb, b0, b1, b2, nb⟩ := hrel
    by_cases hlt : d ≤ l1.length
    · obtain ⟨p, hp⟩ : ∃ p : Nat, p + d = l1.length := ⟨l1.length - d, by omega⟩
      have hpi : (l1.length : Int) - d = (p : Int) := by omega
      have hat := nsI_get (bsF l1 1) d (by rw [hbl.out]; exact hlt)
      rw [hbl.out, show l1.length - d = p by omega] at hat
      obtain ⟨X, hX⟩ : ∃ X, nxt (bsF l1 1) d = X := ⟨_, rfl⟩
      rw [hX] at hat
      rw [hpi]
      have dn : wr.cell? ⟨K3, p, none⟩ = some (.int .i64 X) := by rw [nb.cell p]; simp [intA, hat]
      have ⟨t0, t1, t2, t3⟩ := tb.c4
      have ⟨k0, k1, k2, k3, k4, k5, k6⟩ := cb.c7
      have hp1 : (p : Int) ≤ (l1.length : Int) := by omega
      clear hat hpi
      by_cases hd0 : d = 0
      · subst hd0
        have hXe : X = p := by rw [← hX, nxt, hbl.out]; omega
        have hY : nxt (bsF l1 1) (0 - 1) = X := by rw [← hX]
        rw [hY]
        have hpn : ¬ ((p : Int) < (l1.length : Int)) := by omega
        go_wp2
        go_roundw
        case rel => exact ⟨1, by omega, by rw [show ((l1.length : Int) - ((1 : Nat) : Int)) = (p : Int) - 1 by omega], by rw [show nxt (bsF l1 1) (1 - 1) = X from hX], hB, cb, tb, b0, b1, b2, nb⟩
        case measure => simp [intOf] <;> omega
      · obtain ⟨q, rfl⟩ : ∃ q, d = q + 1 := ⟨d - 1, by omega⟩
        have hpl : p < l1.length := by omega
        have hpn : ((p : Int) < (l1.length : Int)) := by omega
        obtain ⟨Y, hY⟩ : ∃ Y, nxt (bsF l1 1) (q + 1 - 1) = Y := ⟨_, rfl⟩
        rw [hY]
        obtain ⟨b, off, x, rfl, hbB, hx, d0, d1, d2, d3⟩ := (r1.below hB).atS hpl
        have hS := HOK.out.2 x (List.mem_of_getElem? hx)
        have hbv : (bsF l1 1)[p]? = some (capB (canP x.k x.n) 1) := by simp [bsF, hx]
        have hXe : X = if capB (canP x.k x.n) 1 = true then p else Y := by
          rw [← hX, nxt, hbl.out, show l1.length - (q + 1) = p by omega, hbv, ← hY]
          simp
        obtain ⟨V, hV⟩ : ∃ V, capB (canP x.k x.n) 1 = V := ⟨_, rfl⟩
        have hcc := fun W => canCall_any hS x.key x.text 1 (by omega) (by omega) W
        rw [hV] at hXe hcc
        have HX := Lib.hid hX
        have HXe := Lib.hid hXe
        have HCC := Lib.hid hcc
        clear hbv hV hx hX hY hXe hcc
        go_wp2_with (go_at_call 28; refine Hid.out ?_)
        unfold Hid
        refine (HCC.out wr).mono ?_
        rintro e w4 ⟨rfl, hb⟩
        have cb := cb.below hb cb.lt
        have tb := tb.below hb tb.lt
        have b0 := b0.below hb b0.lt
        have b1 := b1.below hb b1.lt
        have b2 := b2.below hb b2.lt
        have nl := nb.lt
        have dn := (hb.cell (p := ⟨K3, p, none⟩) nl).trans dn
        have nb := nb.below hb nb.lt
        have hB := hB.trans (hb.mono hB.size)
        clear hb t0 t1 t2 t3 k0 k1 k2 k3 k4 k5 k6 d0 d1 d2 d3
        have ⟨t0, t1, t2, t3⟩ := tb.c4
        cases V
        · have hXY : X = Y := by have := HXe.out; simpa using this
          subst hXY
          go_wp2
          go_roundw
          case rel => exact ⟨q + 1 + 1, by omega, by rw [show ((l1.length : Int) - ((q + 1 + 1 : Nat) : Int)) = (p : Int) - 1 by omega], by rw [show nxt (bsF l1 1) (q + 1 + 1 - 1) = X from HX.out], hB, cb, tb, b0, b1, b2, nb⟩
          case measure => simp [intOf] <;> omega
        · have hXY : X = p := by have := HXe.out; simpa using this
          subst hXY
          go_wp2
          go_roundw
          case rel => exact ⟨q + 1 + 1, by omega, by rw [show ((l1.length : Int) - ((q + 1 + 1 : Nat) : Int)) = (X : Int) - 1 by omega], by rw [show nxt (bsF l1 1) (q + 1 + 1 - 1) = X from HX.out], hB, cb, tb, b0, b1, b2, nb⟩
          case measure => simp [intOf] <;> omega
    · have hng : (l1.length : Int) - (d : Int) < 0 := by omega
      have hdec : decide (d ≤ l1.length) = false := by simpa using (show ¬ d ≤ l1.length by omega)
      have hdec2 : decide ((0 : Int) ≤ (l1.length : Int) - (d : Int)) = false := decide_eq_false (by omega)
      have hdec3 : decide ((l1.length : Int) - (d : Int) ≥ 0) = false := decide_eq_false (by omega)
      clear hlt hd
      have ⟨t0, t1, t2, t3⟩ := tb.c4
      have ⟨k0, k1, k2, k3, k4, k5, k6⟩ := cb.c7
      go_wp2
      clear hng
      try simp only [hdec2]
      try simp only [hdec3]
      try simp only [hdec]
      clear hdec hdec2 hdec3
      refine wp_loop_rounds 4 ?_
      rw [rounds_succ]
      go_wp2
      go_loopw [68] (fun i ws => ∃ j : Nat, j ≤ l1.length ∧ i = .int .i64 j ∧ Below w.heap.size w ws ∧ Blk ws w.heap.size 50 #[.slice A1 l1.length c1, .slice A2 l2.length c2, .slice A3 l3.length c3, .int .i64 fl, .int .i64 cn, .int .i64 wt, .int .i64 tm] ∧ Blk ws T 56 #[.slice (some ⟨K0, 0, none⟩) l1.length l1.length, .slice (some ⟨K1, 0, none⟩) l1.length l1.length, .slice (some ⟨K2, 0, none⟩) l1.length l1.length, .slice (some ⟨K3, 0, none⟩) (l1.length + 1) (l1.length + 1)] ∧ Blk ws K0 4 (boolA (bsF l1 1)) ∧ Blk ws K1 4 (boolA (bsF l1 2)) ∧ Blk ws K2 4 (boolA (bsF l1 3)) ∧ Blk ws K3 3 (intA (nsI (bsF l1 1) l1.length)))
        (fun i _ => l1.length - (intOf i).toNat)
      case atStart => exact ⟨0, Nat.zero_le _, rfl, hB, cb, tb, b0, b1, b2, nb⟩
      case round =>
        clear hB cb tb b0 b1 b2 nb t0 t1 t2 t3 k0 k1 k2 k3 k4 k5 k6
        obtain ⟨j, hj, rfl, hB, cb, tb, b0, b1, b2, nb⟩ := hrel
        by_cases hlt : j < l1.length
        · obtain ⟨b, off, x, rfl, hbB, hx, d0, d1, d2, d3⟩ := (r1.below hB).atS hlt
          have hS := HOK.out.2 x (List.mem_of_getElem? hx)
          have hbv : (bsF l1 1)[j]? = some (capB (canP x.k x.n) 1) := by simp [bsF, hx]
          obtain ⟨V, hV⟩ : ∃ V, capB (canP x.k x.n) 1 = V := ⟨_, rfl⟩
          have hcc := fun W => canCall_any hS x.key x.text 1 (by omega) (by omega) W
          rw [hV] at hcc hbv
          have HCC := Lib.hid hcc
          have HBV := Lib.hid hbv
          clear hbv hcc hV hx
          have ⟨t0, t1, t2, t3⟩ := tb.c4
          obtain ⟨Q, hQ⟩ : ∃ Q, Q = wr.heap.size := ⟨_, rfl⟩
          obtain ⟨wq, hwq⟩ : ∃ wq, wq = wr.alloc (.cells #[.int .i64 x.k, .int .i64 x.n, .string x.key, .string x.text] 60) := ⟨_, rfl⟩
          go_upto_region 24 with fail
          rw [← hQ, ← hwq]
          have qb : Blk wq Q 60 #[.int .i64 x.k, .int .i64 x.n, .string x.key, .string x.text] := by rw [hwq, hQ]; exact Blk.new _ _ _
          have cb : Blk wq w.heap.size 50 #[.slice (some ⟨b, off, none⟩) l1.length c1, .slice A2 l2.length c2, .slice A3 l3.length c3, .int .i64 fl, .int .i64 cn, .int .i64 wt, .int .i64 tm] := by rw [hwq]; exact cb.alloc _
          have tb : Blk wq T 56 #[.slice (some ⟨K0, 0, none⟩) l1.length l1.length, .slice (some ⟨K1, 0, none⟩) l1.length l1.length, .slice (some ⟨K2, 0, none⟩) l1.length l1.length, .slice (some ⟨K3, 0, none⟩) (l1.length + 1) (l1.length + 1)] := by rw [hwq]; exact tb.alloc _
          have b0 : Blk wq K0 4 (boolA (bsF l1 1)) := by rw [hwq]; exact b0.alloc _
          have b1 : Blk wq K1 4 (boolA (bsF l1 2)) := by rw [hwq]; exact b1.alloc _
          have b2 : Blk wq K2 4 (boolA (bsF l1 3)) := by rw [hwq]; exact b2.alloc _
          have nb : Blk wq K3 3 (intA (nsI (bsF l1 1) l1.length)) := by rw [hwq]; exact nb.alloc _
          have hB : Below w.heap.size w wq := by rw [hwq]; exact hB.alloc hB.size _
          clear hwq hQ t0 t1 t2 t3 d0 d1 d2 d3
          have ⟨t0, t1, t2, t3⟩ := tb.c4
          have ⟨q0, q1, q2, q3⟩ := qb.c4
          have db : wq.cell? ⟨K0, j, none⟩ = some (.bool V) := by rw [b0.cell j]; simp [boolA, HBV.out]
          have fb : True := trivial
          go_region_held3 (fun wx => wx.cell? ⟨T, 0, none⟩ = some (.slice (some ⟨K0, 0, none⟩) l1.length l1.length) ∧ wx.cell? ⟨T, 1, none⟩ = some (.slice (some ⟨K1, 0, none⟩) l1.length l1.length) ∧ wx.cell? ⟨T, 2, none⟩ = some (.slice (some ⟨K2, 0, none⟩) l1.length l1.length) ∧ wx.cell? ⟨T, 3, none⟩ = some (.slice (some ⟨K3, 0, none⟩) (l1.length + 1) (l1.length + 1)) ∧ wx.cell? ⟨K0, j, none⟩ = some (.bool V) ∧ wx.cell? ⟨Q, 0, none⟩ = some (.int .i64 x.k) ∧ wx.cell? ⟨Q, 1, none⟩ = some (.int .i64 x.n) ∧ wx.cell? ⟨Q, 2, none⟩ = some (.string x.key) ∧ wx.cell? ⟨Q, 3, none⟩ = some (.string x.text)) (exact ⟨t0, t1, t2, t3, db, q0, q1, q2, q3⟩)
            (first
            | (go_at_call 28
               try rw [show IntKind.i64.wrap (1 : Int) = 1 by decide]
               with_reducible refine (HCC.out _).mono ?_
               rintro e w4 ⟨rfl, hb⟩
               repeat (have hb := below_undrew' hb)
               have tb := tb.below hb tb.lt
               have cb := cb.below hb cb.lt
               have b0 := b0.below hb b0.lt
               have b1 := b1.below hb b1.lt
               have b2 := b2.below hb b2.lt
               have nb := nb.below hb nb.lt
               have qb := qb.below hb qb.lt
               have hB := hB.trans (hb.mono hB.size)
               have ⟨t0, t1, t2, t3⟩ := tb.c4
               have ⟨q0, q1, q2, q3⟩ := qb.c4
               have db : w4.cell? ⟨K0, j, none⟩ = some (.bool V) := by rw [b0.cell j]; simp [boolA, HBV.out]
               try have fb := fb.below hb fb.lt
               )
            | (go_at_call 29
               with_reducible refine (by_any _ _ _ _ _).mono ?_
               rintro e w4 ⟨F, rfl, fb, hb⟩
               repeat (have hb := below_undrew' hb)
               have tb := tb.below hb tb.lt
               have cb := cb.below hb cb.lt
               have b0 := b0.below hb b0.lt
               have b1 := b1.below hb b1.lt
               have b2 := b2.below hb b2.lt
               have nb := nb.below hb nb.lt
               have qb := qb.below hb qb.lt
               have hB := hB.trans (hb.mono hB.size)
               have ⟨t0, t1, t2, t3⟩ := tb.c4
               have ⟨q0, q1, q2, q3⟩ := qb.c4
               have db : w4.cell? ⟨K0, j, none⟩ = some (.bool V) := by rw [b0.cell j]; simp [boolA, HBV.out]
               )
            | (go_at_call 52
               try rw [show IntKind.i64.wrap (1 : Int) = 1 by decide]
               with_reducible refine (by1_0 _ K0 l1.length j V _ ?_ ?_ ?_).mono ?_
               · exact hlt
               · exact fb.c4.1
               · exact db
               rintro e w4 ⟨rfl, rfl⟩))
          go_wp2
          go_roundw
          case rel => exact ⟨j + 1, by omega, by go_num, hB, cb, tb, b0, b1, b2, nb⟩
          case measure => simp [intOf] <;> omega
        · have hjn : ¬ ((j : Int) < (l1.length : Int)) := by omega
          clear hj hlt
          have ⟨t0, t1, t2, t3⟩ := tb.c4
          have ⟨k0, k1, k2, k3, k4, k5, k6⟩ := cb.c7
          go_wp2
          rw [rounds_succ]
          go_wp2
          go_loopw [68] (fun i ws => ∃ j : Nat, j ≤ l1.length ∧ i = .int .i64 j ∧ Below w.heap.size w ws ∧ Blk ws w.heap.size 50 #[.slice A1 l1.length c1, .slice A2 l2.length c2, .slice A3 l3.length c3, .int .i64 fl, .int .i64 cn, .int .i64 wt, .int .i64 tm] ∧ Blk ws T 56 #[.slice (some ⟨K0, 0, none⟩) l1.length l1.length, .slice (some ⟨K1, 0, none⟩) l1.length l1.length, .slice (some ⟨K2, 0, none⟩) l1.length l1.length, .slice (some ⟨K3, 0, none⟩) (l1.length + 1) (l1.length + 1)] ∧ Blk ws K0 4 (boolA (bsF l1 1)) ∧ Blk ws K1 4 (boolA (bsF l1 2)) ∧ Blk ws K2 4 (boolA (bsF l1 3)) ∧ Blk ws K3 3 (intA (nsI (bsF l1 1) l1.length)))
            (fun i _ => l1.length - (intOf i).toNat)
          case atStart => exact ⟨0, Nat.zero_le _, rfl, hB, cb, tb, b0, b1, b2, nb⟩
          case round =>
            clear hB cb tb b0 b1 b2 nb t0 t1 t2 t3 k0 k1 k2 k3 k4 k5 k6
            obtain ⟨j, hj, rfl, hB, cb, tb, b0, b1, b2, nb⟩ := hrel
            by_cases hlt : j < l1.length
            · obtain ⟨b, off, x, rfl, hbB, hx, d0, d1, d2, d3⟩ := (r1.below hB).atS hlt
              have hS := HOK.out.2 x (List.mem_of_getElem? hx)
              have hbv : (bsF l1 2)[j]? = some (capB (canP x.k x.n) 2) := by simp [bsF, hx]
              obtain ⟨V, hV⟩ : ∃ V, capB (canP x.k x.n) 2 = V := ⟨_, rfl⟩
              have hcc := fun W => canCall_any hS x.key x.text 2 (by omega) (by omega) W
              rw [hV] at hcc hbv
              have HCC := Lib.hid hcc
              have HBV := Lib.hid hbv
              clear hbv hcc hV hx
              have ⟨t0, t1, t2, t3⟩ := tb.c4
              obtain ⟨Q, hQ⟩ : ∃ Q, Q = wr.heap.size := ⟨_, rfl⟩
              obtain ⟨wq, hwq⟩ : ∃ wq, wq = wr.alloc (.cells #[.int .i64 x.k, .int .i64 x.n, .string x.key, .string x.text] 60) := ⟨_, rfl⟩
              go_upto_region 24 with fail
              rw [← hQ, ← hwq]
              have qb : Blk wq Q 60 #[.int .i64 x.k, .int .i64 x.n, .string x.key, .string x.text] := by rw [hwq, hQ]; exact Blk.new _ _ _
              have cb : Blk wq w.heap.size 50 #[.slice (some ⟨b, off, none⟩) l1.length c1, .slice A2 l2.length c2, .slice A3 l3.length c3, .int .i64 fl, .int .i64 cn, .int .i64 wt, .int .i64 tm] := by rw [hwq]; exact cb.alloc _
              have tb : Blk wq T 56 #[.slice (some ⟨K0, 0, none⟩) l1.length l1.length, .slice (some ⟨K1, 0, none⟩) l1.length l1.length, .slice (some ⟨K2, 0, none⟩) l1.length l1.length, .slice (some ⟨K3, 0, none⟩) (l1.length + 1) (l1.length + 1)] := by rw [hwq]; exact tb.alloc _
              have b0 : Blk wq K0 4 (boolA (bsF l1 1)) := by rw [hwq]; exact b0.alloc _
              have b1 : Blk wq K1 4 (boolA (bsF l1 2)) := by rw [hwq]; exact b1.alloc _
              have b2 : Blk wq K2 4 (boolA (bsF l1 3)) := by rw [hwq]; exact b2.alloc _
              have nb : Blk wq K3 3 (intA (nsI (bsF l1 1) l1.length)) := by rw [hwq]; exact nb.alloc _
              have hB : Below w.heap.size w wq := by rw [hwq]; exact hB.alloc hB.size _
              clear hwq hQ t0 t1 t2 t3 d0 d1 d2 d3
              have ⟨t0, t1, t2, t3⟩ := tb.c4
              have ⟨q0, q1, q2, q3⟩ := qb.c4
              have db : wq.cell? ⟨K1, j, none⟩ = some (.bool V) := by rw [b1.cell j]; simp [boolA, HBV.out]
              have fb : True := trivial
              go_region_held3 (fun wx => wx.cell? ⟨T, 0, none⟩ = some (.slice (some ⟨K0, 0, none⟩) l1.length l1.length) ∧ wx.cell? ⟨T, 1, none⟩ = some (.slice (some ⟨K1, 0, none⟩) l1.length l1.length) ∧ wx.cell? ⟨T, 2, none⟩ = some (.slice (some ⟨K2, 0, none⟩) l1.length l1.length) ∧ wx.cell? ⟨T, 3, none⟩ = some (.slice (some ⟨K3, 0, none⟩) (l1.length + 1) (l1.length + 1)) ∧ wx.cell? ⟨K1, j, none⟩ = some (.bool V) ∧ wx.cell? ⟨Q, 0, none⟩ = some (.int .i64 x.k) ∧ wx.cell? ⟨Q, 1, none⟩ = some (.int .i64 x.n) ∧ wx.cell? ⟨Q, 2, none⟩ = some (.string x.key) ∧ wx.cell? ⟨Q, 3, none⟩ = some (.string x.text)) (exact ⟨t0, t1, t2, t3, db, q0, q1, q2, q3⟩)
                (first
                | (go_at_call 28
                   try rw [show IntKind.i64.wrap (2 : Int) = 2 by decide]
                   with_reducible refine (HCC.out _).mono ?_
                   rintro e w4 ⟨rfl, hb⟩
                   repeat (have hb := below_undrew' hb)
                   have tb := tb.below hb tb.lt
                   have cb := cb.below hb cb.lt
                   have b0 := b0.below hb b0.lt
                   have b1 := b1.below hb b1.lt
                   have b2 := b2.below hb b2.lt
                   have nb := nb.below hb nb.lt
                   have qb := qb.below hb qb.lt
                   have hB := hB.trans (hb.mono hB.size)
                   have ⟨t0, t1, t2, t3⟩ := tb.c4
                   have ⟨q0, q1, q2, q3⟩ := qb.c4
                   have db : w4.cell? ⟨K1, j, none⟩ = some (.bool V) := by rw [b1.cell j]; simp [boolA, HBV.out]
                   try have fb := fb.below hb fb.lt
                   )
                | (go_at_call 29
                   with_reducible refine (by_any _ _ _ _ _).mono ?_
                   rintro e w4 ⟨F, rfl, fb, hb⟩
                   repeat (have hb := below_undrew' hb)
                   have tb := tb.below hb tb.lt
                   have cb := cb.below hb cb.lt
                   have b0 := b0.below hb b0.lt
                   have b1 := b1.below hb b1.lt
                   have b2 := b2.below hb b2.lt
                   have nb := nb.below hb nb.lt
                   have qb := qb.below hb qb.lt
                   have hB := hB.trans (hb.mono hB.size)
                   have ⟨t0, t1, t2, t3⟩ := tb.c4
                   have ⟨q0, q1, q2, q3⟩ := qb.c4
                   have db : w4.cell? ⟨K1, j, none⟩ = some (.bool V) := by rw [b1.cell j]; simp [boolA, HBV.out]
                   )
                | (go_at_call 52
                   try rw [show IntKind.i64.wrap (2 : Int) = 2 by decide]
                   with_reducible refine (by1_1 _ K1 l1.length j V _ ?_ ?_ ?_).mono ?_
                   · exact hlt
                   · exact fb.c4.2.1
                   · exact db
                   rintro e w4 ⟨rfl, rfl⟩))
              go_wp2
              go_roundw
              case rel => exact ⟨j + 1, by omega, by go_num, hB, cb, tb, b0, b1, b2, nb⟩
              case measure => simp [intOf] <;> omega
            · have hjn : ¬ ((j : Int) < (l1.length : Int)) := by omega
              clear hj hlt
              have ⟨t0, t1, t2, t3⟩ := tb.c4
              have ⟨k0, k1, k2, k3, k4, k5, k6⟩ := cb.c7
              go_wp2
              rw [rounds_succ]
              go_wp2
              go_loopw [68] (fun i ws => ∃ j : Nat, j ≤ l1.length ∧ i = .int .i64 j ∧ Below w.heap.size w ws ∧ Blk ws w.heap.size 50 #[.slice A1 l1.length c1, .slice A2 l2.length c2, .slice A3 l3.length c3, .int .i64 fl, .int .i64 cn, .int .i64 wt, .int .i64 tm] ∧ Blk ws T 56 #[.slice (some ⟨K0, 0, none⟩) l1.length l1.length, .slice (some ⟨K1, 0, none⟩) l1.length l1.length, .slice (some ⟨K2, 0, none⟩) l1.length l1.length, .slice (some ⟨K3, 0, none⟩) (l1.length + 1) (l1.length + 1)] ∧ Blk ws K0 4 (boolA (bsF l1 1)) ∧ Blk ws K1 4 (boolA (bsF l1 2)) ∧ Blk ws K2 4 (boolA (bsF l1 3)) ∧ Blk ws K3 3 (intA (nsI (bsF l1 1) l1.length)))
                (fun i _ => l1.length - (intOf i).toNat)
              case atStart => exact ⟨0, Nat.zero_le _, rfl, hB, cb, tb, b0, b1, b2, nb⟩
              case round =>
                clear hB cb tb b0 b1 b2 nb t0 t1 t2 t3 k0 k1 k2 k3 k4 k5 k6
                obtain ⟨j, hj, rfl, hB, cb, tb, b0, b1, b2, nb⟩ := hrel
                by_cases hlt : j < l1.length
                · obtain ⟨b, off, x, rfl, hbB, hx, d0, d1, d2, d3⟩ := (r1.below hB).atS hlt
                  have hS := HOK.out.2 x (List.mem_of_getElem? hx)
                  have hbv : (bsF l1 3)[j]? = some (capB (canP x.k x.n) 3) := by simp [bsF, hx]
                  obtain ⟨V, hV⟩ : ∃ V, capB (canP x.k x.n) 3 = V := ⟨_, rfl⟩
                  have hcc := fun W => canCall_any hS x.key x.text 3 (by omega) (by omega) W
                  rw [hV] at hcc hbv
                  have HCC := Lib.hid hcc
                  have HBV := Lib.hid hbv
                  clear hbv hcc hV hx
                  have ⟨t0, t1, t2, t3⟩ := tb.c4
                  obtain ⟨Q, hQ⟩ : ∃ Q, Q = wr.heap.size := ⟨_, rfl⟩
                  obtain ⟨wq, hwq⟩ : ∃ wq, wq = wr.alloc (.cells #[.int .i64 x.k, .int .i64 x.n, .string x.key, .string x.text] 60) := ⟨_, rfl⟩
                  go_upto_region 24 with fail
                  rw [← hQ, ← hwq]
                  have qb : Blk wq Q 60 #[.int .i64 x.k, .int .i64 x.n, .string x.key, .string x.text] := by rw [hwq, hQ]; exact Blk.new _ _ _
                  have cb : Blk wq w.heap.size 50 #[.slice (some ⟨b, off, none⟩) l1.length c1, .slice A2 l2.length c2, .slice A3 l3.length c3, .int .i64 fl, .int .i64 cn, .int .i64 wt, .int .i64 tm] := by rw [hwq]; exact cb.alloc _
                  have tb : Blk wq T 56 #[.slice (some ⟨K0, 0, none⟩) l1.length l1.length, .slice (some ⟨K1, 0, none⟩) l1.length l1.length, .slice (some ⟨K2, 0, none⟩) l1.length l1.length, .slice (some ⟨K3, 0, none⟩) (l1.length + 1) (l1.length + 1)] := by rw [hwq]; exact tb.alloc _
                  have b0 : Blk wq K0 4 (boolA (bsF l1 1)) := by rw [hwq]; exact b0.alloc _
                  have b1 : Blk wq K1 4 (boolA (bsF l1 2)) := by rw [hwq]; exact b1.alloc _
                  have b2 : Blk wq K2 4 (boolA (bsF l1 3)) := by rw [hwq]; exact b2.alloc _
                  have nb : Blk wq K3 3 (intA (nsI (bsF l1 1) l1.length)) := by rw [hwq]; exact nb.alloc _
                  have hB : Below w.heap.size w wq := by rw [hwq]; exact hB.alloc hB.size _
                  clear hwq hQ t0 t1 t2 t3 d0 d1 d2 d3
                  have ⟨t0, t1, t2, t3⟩ := tb.c4
                  have ⟨q0, q1, q2, q3⟩ := qb.c4
                  have db : wq.cell? ⟨K2, j, none⟩ = some (.bool V) := by rw [b2.cell j]; simp [boolA, HBV.out]
                  have fb : True := trivial
                  go_region_held3 (fun wx => wx.cell? ⟨T, 0, none⟩ = some (.slice (some ⟨K0, 0, none⟩) l1.length l1.length) ∧ wx.cell? ⟨T, 1, none⟩ = some (.slice (some ⟨K1, 0, none⟩) l1.length l1.length) ∧ wx.cell? ⟨T, 2, none⟩ = some (.slice (some ⟨K2, 0, none⟩) l1.length l1.length) ∧ wx.cell? ⟨T, 3, none⟩ = some (.slice (some ⟨K3, 0, none⟩) (l1.length + 1) (l1.length + 1)) ∧ wx.cell? ⟨K2, j, none⟩ = some (.bool V) ∧ wx.cell? ⟨Q, 0, none⟩ = some (.int .i64 x.k) ∧ wx.cell? ⟨Q, 1, none⟩ = some (.int .i64 x.n) ∧ wx.cell? ⟨Q, 2, none⟩ = some (.string x.key) ∧ wx.cell? ⟨Q, 3, none⟩ = some (.string x.text)) (exact ⟨t0, t1, t2, t3, db, q0, q1, q2, q3⟩)
                    (first
                    | (go_at_call 28
                       try rw [show IntKind.i64.wrap (3 : Int) = 3 by decide]
                       with_reducible refine (HCC.out _).mono ?_
                       rintro e w4 ⟨rfl, hb⟩
                       repeat (have hb := below_undrew' hb)
                       have tb := tb.below hb tb.lt
                       have cb := cb.below hb cb.lt
                       have b0 := b0.below hb b0.lt
                       have b1 := b1.below hb b1.lt
                       have b2 := b2.below hb b2.lt
                       have nb := nb.below hb nb.lt
                       have qb := qb.below hb qb.lt
                       have hB := hB.trans (hb.mono hB.size)
                       have ⟨t0, t1, t2, t3⟩ := tb.c4
                       have ⟨q0, q1, q2, q3⟩ := qb.c4
                       have db : w4.cell? ⟨K2, j, none⟩ = some (.bool V) := by rw [b2.cell j]; simp [boolA, HBV.out]
                       try have fb := fb.below hb fb.lt
                       )
                    | (go_at_call 29
                       with_reducible refine (by_any _ _ _ _ _).mono ?_
                       rintro e w4 ⟨F, rfl, fb, hb⟩
                       repeat (have hb := below_undrew' hb)
                       have tb := tb.below hb tb.lt
                       have cb := cb.below hb cb.lt
                       have b0 := b0.below hb b0.lt
                       have b1 := b1.below hb b1.lt
                       have b2 := b2.below hb b2.lt
                       have nb := nb.below hb nb.lt
                       have qb := qb.below hb qb.lt
                       have hB := hB.trans (hb.mono hB.size)
                       have ⟨t0, t1, t2, t3⟩ := tb.c4
                       have ⟨q0, q1, q2, q3⟩ := qb.c4
                       have db : w4.cell? ⟨K2, j, none⟩ = some (.bool V) := by rw [b2.cell j]; simp [boolA, HBV.out]
                       )
                    | (go_at_call 52
                       try rw [show IntKind.i64.wrap (3 : Int) = 3 by decide]
                       with_reducible refine (by1_2 _ K2 l1.length j V _ ?_ ?_ ?_).mono ?_
                       · exact hlt
                       · exact fb.c4.2.2.1
                       · exact db
                       rintro e w4 ⟨rfl, rfl⟩))
                  go_wp2
                  go_roundw
                  case rel => exact ⟨j + 1, by omega, by go_num, hB, cb, tb, b0, b1, b2, nb⟩
                  case measure => simp [intOf] <;> omega
                · have hjn : ¬ ((j : Int) < (l1.length : Int)) := by omega
                  clear hj hlt
                  have ⟨t0, t1, t2, t3⟩ := tb.c4
                  have ⟨k0, k1, k2, k3, k4, k5, k6⟩ := cb.c7
                  go_wp2
                  rw [rounds_succ]
                  go_wp2
                  go_ret
                  exact ⟨rfl, hB⟩
end Go.Proofs.Ytmcjgfoaiannoaa
