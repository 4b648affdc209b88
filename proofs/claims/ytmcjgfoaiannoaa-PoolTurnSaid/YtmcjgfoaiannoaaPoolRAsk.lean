/-
  The reference's PoolAsk: what it makes of a world. Conditions: the length bounds that the reach pays.
-/
import Derived.Test.YtmcjgfoaiannoaaPoolAsk
namespace Go.Proofs.Ytmcjgfoaiannoaa
open Go.RowKit

theorem reftake_own (A : Option Addr) (c : Nat) (l : List (Int × Int × Int)) (m0 m1 m2 m3 id filter : Int) (w : World) (hr : Rd 3 encH w w.heap.size A l) (hn : l.length * 24 + 24 ≤ 140737488355328) :
    Calls Try.prog 22 #[.agg #[.slice A l.length c, .int .i64 m0, .int .i64 m1, .int .i64 m2, .int .i64 m3], .int .i64 id, .int .i64 2, .int .i64 filter] w fun e w' =>
      ∃ A' c', e = .returned (.tuple #[ledV A' c' (takeP (l, m0, m1, m2, m3) id 2 filter).1, .int .i64 (takeP (l, m0, m1, m2, m3) id 2 filter).2]) ∧ Ow w' w.heap.size A' c' (takeP (l, m0, m1, m2, m3) id 2 filter).1.1 ∧ Below w.heap.size w w' := by
  have hc := reftake_rest A c l m0 m1 m2 m3 id filter 2 w hr hn (by omega) (by omega) m2 rfl
  by_cases hm : m2 ≤ (countK l 2 : Int)
  · have ht : takeP (l, m0, m1, m2, m3) id 2 filter = (led0, 8) := by simp [takeP, mostP, hm]
    rw [ht]
    exact hc.mono fun e w' h => ⟨none, 0, h.1 hm, Ow.nil_, h.2.2⟩
  · have ht : takeP (l, m0, m1, m2, m3) id 2 filter = ((l ++ [(id, 2, filter)], m0, m1, m2, m3), 0) := by simp [takeP, mostP, hm]
    rw [ht]
    refine hc.mono fun e w' h => ?_
    obtain ⟨A', c', he, ho⟩ := h.2.1 hm
    refine ⟨A', c', ?_, ?_, h.2.2⟩
    · rw [he]
      simp [ledV]
    · unfold Ow
      simpa using ho
def RefAskOut (D : WD) (id waits : Int) (B : Nat) (w : World) (e : Ending) (w' : World) : Prop :=
  ∃ a' : WA, e = .returned (.tuple #[wV a' (askP D id waits).1, .int .i64 (askP D id waits).2]) ∧ HdW w' B a' (askP D id waits).1 ∧ Below w.heap.size w w'
theorem refAskOut_no {D : WD} {id waits : Int} {B : Nat} {w w' : World} {n : Int} (h : askP D id waits = (wd0, n)) (hb : Below w.heap.size w w') :
    RefAskOut D id waits B w (.returned (.tuple #[.agg #[.slice none 0 0, .int .i64 0, .int .i64 0, .int .i64 0, .int .i64 0, .slice none 0 0, .slice none 0 0, .slice none 0 0, .slice none 0 0], .int .i64 n])) w' := by
  unfold RefAskOut
  rw [h]
  exact ⟨wa0, rfl, (OwW.nil_ (B := 0)).hd, hb⟩
theorem refAskOut_yes {D D' : WD} {id waits : Int} {B : Nat} {w w' : World} {n : Int} (h : askP D id waits = (D', n)) (a' : WA) (ho : HdW w' B a' D') (hb : Below w.heap.size w w') :
    RefAskOut D id waits B w (.returned (.tuple #[wV a' D', .int .i64 n])) w' := by
  unfold RefAskOut
  rw [h]
  exact ⟨a', rfl, ho, hb⟩
theorem any_take {α : Type} {p : α → Bool} {l : List α} {k : Nat} {x : α} (h : l[k]? = some x) (hx : p x = true) : l.any p = true :=
  List.any_eq_true.2 ⟨x, List.mem_of_getElem? h, hx⟩
theorem any_not {α : Type} {p : α → Bool} {l : List α} (h : ∀ y ∈ l.take l.length, p y = false) : l.any p = false := by
  rw [List.take_length] at h
  simpa using h
theorem all_snoc {α : Type} {p : α → Bool} {l : List α} {k : Nat} {x : α} (h : l[k]? = some x) (ha : ∀ y ∈ l.take k, p y = false) (hx : p x = false) : ∀ y ∈ l.take (k + 1), p y = false := by
  rw [take_snoc' h]
  intro y hy
  rcases List.mem_append.1 hy with hy | hy
  · exact ha y hy
  · simp at hy
    subst hy
    exact hx

set_option maxRecDepth 100000 in
set_option maxHeartbeats 4000000 in
theorem refAsk_any (a : WA) (D : WD) (id waits : Int) (B : Nat) (w : World) (rr : RdW w B a D) (hBw : B ≤ w.heap.size) (hf : Fit D) :
    Calls Try.prog 33 #[.agg #[.slice a.A D.l.length a.c, .int .i64 D.m0, .int .i64 D.m1, .int .i64 D.m2, .int .i64 D.m3, .slice a.Ag D.g.length a.cg, .slice a.Af D.f.length a.cf, .slice a.Aq D.q.length a.cq, .slice a.Am D.m.length a.cm], .int .i64 id, .int .i64 waits] w (RefAskOut D id waits B w) := by
  have hfq := hf.q
  have hfl := hf.l
  go_enter Try.func33, Try.ntmps33
  obtain ⟨w0, hw0⟩ : ∃ w0, w0 = (w.alloc (.cells #[.slice a.A D.l.length a.c, .int .i64 D.m0, .int .i64 D.m1, .int .i64 D.m2, .int .i64 D.m3, .slice a.Ag D.g.length a.cg, .slice a.Af D.f.length a.cf, .slice a.Aq D.q.length a.cq, .slice a.Am D.m.length a.cm] 67)).alloc (.cells #[.slice none 0 0, .int .i64 0, .int .i64 0, .int .i64 0, .int .i64 0, .slice none 0 0, .slice none 0 0, .slice none 0 0, .slice none 0 0] 67) := ⟨_, rfl⟩
  have bb : Blk w0 w.heap.size 67 #[.slice a.A D.l.length a.c, .int .i64 D.m0, .int .i64 D.m1, .int .i64 D.m2, .int .i64 D.m3, .slice a.Ag D.g.length a.cg, .slice a.Af D.f.length a.cf, .slice a.Aq D.q.length a.cq, .slice a.Am D.m.length a.cm] := by rw [hw0]; exact (Blk.new _ _ _).alloc _
  have zb : Blk w0 (w.heap.size + 1) 67 #[.slice none 0 0, .int .i64 0, .int .i64 0, .int .i64 0, .int .i64 0, .slice none 0 0, .slice none 0 0, .slice none 0 0, .slice none 0 0] := by rw [hw0]; exact Blk.new' _ _ (by simp) _ _
  have hB : Below w.heap.size w w0 := by rw [hw0]; exact ((Below.refl _ w).alloc (Nat.le_refl _) _).alloc (by simp) _
  have rr : RdW w0 B a D := rr.below hB hBw
  have ⟨k0, k1, k2, k3, k4, k5, k6, k7, k8⟩ := bb.c9
  go_wp2
  rw [← hw0]
  clear hw0
  go_loopw [18] (fun i wr => ∃ k : Nat, k ≤ D.q.length ∧ i = .int .i64 k ∧ wr = w0 ∧ ∀ y ∈ D.q.take k, (y == id) = false)
    (fun i _ => D.q.length - (intOf i).toNat)
  case atStart => exact ⟨0, Nat.zero_le _, rfl, rfl, by simp⟩
  case round =>
    obtain ⟨k, hk, rfl, rfl, hno⟩ := hrel
    by_cases hlt : k < D.q.length
    · obtain ⟨b, off, y, e1, hbB, hy, c0⟩ := rr.q.atI hlt
      have HN := Lib.hid hno
      have HY := Lib.hid hy
      clear hno hy
      rw [e1] at k7 ⊢
      clear e1
      by_cases ht : y = id
      · subst ht
        have HA := Lib.hid (show askP D y waits = (wd0, 9) by simp [askP, any_take (p := (· == y)) HY.out])
        have ⟨j0, j1, j2, j3, j4, j5, j6, j7, j8⟩ := zb.c9
        have zf := zb.frz
        have l3 := zb.lt
        go_wp2
        refine bodyPost_ret (v := .tuple #[.agg #[.slice none 0 0, .int .i64 0, .int .i64 0, .int .i64 0, .int .i64 0, .slice none 0 0, .slice none 0 0, .slice none 0 0, .slice none 0 0], .int .i64 9]) (by simp only [results, Try.results33]; go_simp) rfl (refAskOut_no HA.out ?_)
        exact below_put9 hB (by omega) _ _ _ _ _ _ _ _ _
      · have ht' : (y == id) = false := by simp [ht]
        have HT := Lib.hid ht'
        clear ht
        go_wp2
        go_roundw
        case rel => exact ⟨k + 1, by omega, by go_num, trivial, all_snoc HY.out HN.out HT.out⟩
        case measure => simp [intOf]; omega
    · obtain rfl : k = D.q.length := by omega
      have H1 := Lib.hid (any_not hno)
      clear hno hlt hk
      obtain ⟨wo, rfl⟩ : ∃ wo : World, wo = wr := ⟨_, rfl⟩
      go_wp2
      go_loopw [10, 31] (fun n i ws => ∃ k : Nat, k ≤ D.l.length ∧ i = .int .i64 k ∧ n = .int .i64 (countK (D.l.take k) 2) ∧ Below wo.heap.size wo ws ∧ ∀ y ∈ D.l.take k, leaseP id y = false)
        (fun _ i _ => D.l.length - (intOf i).toNat)
      case atStart => exact ⟨0, Nat.zero_le _, rfl, rfl, Below.refl _ _, by simp⟩
      case round =>
        clear k0 k1 k2 k3 k4 k5 k6 k7 k8
        obtain ⟨k, hk, rfl, rfl, hb, hno⟩ := hrel
        have bb := bb.below hb bb.lt
        have zb := zb.below hb zb.lt
        have rr := rr.below hb (Nat.le_trans hBw hB.size)
        have hB := hB.trans (hb.mono hB.size)
        have hzz := hb.size
        by_cases hlt : k < D.l.length
        · obtain ⟨b, off, x, y, z, e1, hbB, hy, c0, c1, c2⟩ := rr.l.atH hlt
          have k0 := bb.c9.1
          have H2 := Lib.hid (countK_snoc (D.l.take k) (x, y, z) 2)
          have H3 := Lib.hid (take_snoc' hy)
          have hle := countK_le (D.l.take k) 2
          have hle2 : (D.l.take k).length ≤ k := List.length_take_le _ _
          have HN := Lib.hid hno
          have HY := Lib.hid hy
          clear hno hy
          rw [e1] at k0 ⊢
          clear e1
          by_cases hu : (y == 2) = true
          · by_cases ht : (x == id) = true
            · have HA := Lib.hid (show askP D id waits = (wd0, 9) by simp [askP, any_take (p := leaseP id) HY.out (by simp only [leaseP, ht, hu]; rfl)])
              have ⟨j0, j1, j2, j3, j4, j5, j6, j7, j8⟩ := zb.c9
              have zf := zb.frz
              have l3 := zb.lt
              go_wp2
              refine bodyPost_ret (v := .tuple #[.agg #[.slice none 0 0, .int .i64 0, .int .i64 0, .int .i64 0, .int .i64 0, .slice none 0 0, .slice none 0 0, .slice none 0 0, .slice none 0 0], .int .i64 9]) (by simp only [results, Try.results33]; go_simp) rfl (refAskOut_no HA.out ?_)
              exact (below_put9 hB (by omega) _ _ _ _ _ _ _ _ _).alloc (by rw [size_put9]; exact hB.size) _
            · have ht' : (x == id) = false := by simpa using ht
              have HL := Lib.hid (show leaseP id (x, y, z) = false by simp only [leaseP, ht']; rfl)
              have HC := Lib.hid (show countK (D.l.take (k + 1)) 2 = countK (D.l.take k) 2 + 1 by rw [H3.out, H2.out, if_pos hu])
              clear ht
              go_wp2
              go_roundw
              case rel => exact ⟨k + 1, by omega, by go_num, by rw [HC.out]; rfl, hb.alloc hzz _, all_snoc HY.out HN.out HL.out⟩
              case measure => simp [intOf]; omega
          · have hu' : (y == 2) = false := by simpa using hu
            have HL := Lib.hid (show leaseP id (x, y, z) = false by simp only [leaseP, hu']; simp)
            have HC := Lib.hid (show countK (D.l.take (k + 1)) 2 = countK (D.l.take k) 2 by rw [H3.out, H2.out, if_neg hu]; rfl)
            clear hu
            go_wp2
            go_roundw
            case rel => exact ⟨k + 1, by omega, by go_num, by rw [HC.out], hb.alloc hzz _, all_snoc HY.out HN.out HL.out⟩
            case measure => simp [intOf]; omega
        · obtain rfl : k = D.l.length := by omega
          have H2 := Lib.hid (any_not hno)
          clear hno hlt hk hzz
          rw [List.take_length]
          have hcl := countK_le D.l 2
          have ⟨k0, k1, k2, k3, k4, k5, k6, k7, k8⟩ := bb.c9
          have ⟨j0, j1, j2, j3, j4, j5, j6, j7, j8⟩ := zb.c9
          have kf := bb.frz
          have zf := zb.frz
          have l1 := bb.lt
          have l3 := zb.lt
          by_cases h3 : D.m2 ≤ (countK D.l 2 : Int)
          · have H3 := Lib.hid (show D.m2 ≤ (countK D.l 2 : Int) ∨ D.q ≠ [] from .inl h3)
            by_cases h5 : waits ≤ (D.q.length : Int)
            · have HA := Lib.hid (show askP D id waits = (wd0, 8) by simp [askP, H1.out, H2.out, H3.out, h5])
              go_wp2
              refine bodyPost_ret (v := .tuple #[.agg #[.slice none 0 0, .int .i64 0, .int .i64 0, .int .i64 0, .int .i64 0, .slice none 0 0, .slice none 0 0, .slice none 0 0, .slice none 0 0], .int .i64 8]) (by simp only [results, Try.results33]; go_simp) rfl (refAskOut_no HA.out ?_)
              exact below_put9 hB (by omega) _ _ _ _ _ _ _ _ _
            · obtain ⟨Q, hQ⟩ : ∃ Q, D.q ++ [id] = Q := ⟨_, rfl⟩
              have HA := Lib.hid (show askP D id waits = ({ D with q := Q }, 10) by simp [askP, H1.out, H2.out, H3.out, h5, hQ])
              have HL := Lib.hid (show D.q.length + 1 = Q.length by rw [← hQ]; simp)
              have HX := Lib.hid (show D.q.flatMap encI ++ [.int .i64 id] = Q.flatMap encI by rw [← hQ]; simp [encI])
              clear hQ
              obtain ⟨i0', hi, hz0, hz1, hz2⟩ := info_parts infoI
              have rq := (rr.q.more (Nat.le_trans hBw hB.size)).reads encI_len (by omega)
              have rq := rq.alloc (Nat.le_refl _) (.cells #[] 3)
              have ow0 : (wr.alloc (.cells #[] 3)).ownsRow wr.heap.size 3 1 (.slice (some ⟨wr.heap.size, 0, none⟩) 0 0) 0 [] :=
                ⟨rfl, .inr ⟨wr.heap.size, 0, #[], rfl, Nat.le_refl _, heap_alloc_new _ _, Nat.le_refl _, by simp [maxLen], rfl, rfl⟩⟩
              go_wp2_with (at_builtin; refine Hid.out ?_)
              unfold Hid
              refine wpList_append_any _ rfl (.tmp 74) (.tmp 76) _ rfl wr.heap.size 3 i0' _ 1 8 Try.underlying44 hi hz0 hz1 hz2 rfl (by omega) _ 0 [] rfl ow0 wr.heap.size a.Aq D.q.length a.cq _ rfl rq (encI_one D.q) (by simp only [maxLen]; omega) (by omega) (by simp) ?_
              intro v3 w3 ow3 hg3 hat3
              simp only [Nat.zero_add, List.nil_append] at ow3
              obtain ⟨A3, c3, rfl, _, _⟩ := own_shape ow3
              have bb := (bb.alloc (.cells #[] 3)).grown hg3 (fun e => by injection e with e; have : w.heap.size = wr.heap.size := e; omega)
              have zb := (zb.alloc (.cells #[] 3)).grown hg3 (fun e => by injection e with e; have : w.heap.size + 1 = wr.heap.size := e; omega)
              have hB3 : Below w.heap.size w w3 := (hB.alloc hB.size _).grown hg3 (by simp; omega) (fun g hg => by cases hg; exact hB.size)
              have rr3 : RdW w3 B a D := by
                have hBs := Nat.le_trans hBw hB.size
                have h9 := rr.alloc hBs (.cells #[] 3)
                have hs : B ≤ (wr.alloc (.cells #[] 3)).heap.size := by simp; omega
                exact ⟨h9.l.grown hg3 hs (fun g hg => by cases hg; exact hBs), h9.g.grown hg3 hs (fun g hg => by cases hg; exact hBs), h9.f.grown hg3 hs (fun g hg => by cases hg; exact hBs), h9.q.grown hg3 hs (fun g hg => by cases hg; exact hBs), h9.m.grown hg3 hs (fun g hg => by cases hg; exact hBs)⟩
              have hz3 : wr.heap.size < w3.heap.size := by have := hg3.size; simp at this; omega
              have hge := Lib.hid (own_ge ow3)
              have hone : ∀ u ∈ [Value.int .i64 id], u.oneCell' = true := by simp [Value.oneCell']
              have hcn := cells_new w3 w3.heap.size rfl [.int .i64 id] 3
              have ow4 := ow3.alloc (.cells #[.int .i64 id] 3)
              have rd4 : Reads (w3.alloc (.cells #[.int .i64 id] 3)) (w3.heap.size + 1) 1 (some ⟨w3.heap.size, 0, none⟩) 1 [.int .i64 id] := ⟨rfl, fun _ => ⟨_, rfl, Nat.lt_succ_self _, hcn⟩⟩
              clear k0 k1 k2 k3 k4 k5 k6 k7 k8 j0 j1 j2 j3 j4 j5 j6 j7 j8 kf zf hat3 hcn rq ow0
              go_wp2_with (at_builtin; refine Hid.out ?_)
              unfold Hid
              refine wpList_append_any _ rfl (.tmp 77) (.tmp 79) _ rfl wr.heap.size 3 i0' _ 1 8 Try.underlying44 hi hz0 hz1 hz2 rfl (by omega) _ D.q.length (D.q.flatMap encI) rfl ow4 (w3.heap.size + 1) (some ⟨w3.heap.size, 0, none⟩) 1 1 [.int .i64 id] rfl rd4 hone (by simp only [maxLen]; omega) (by omega) (by simp; omega) ?_
              intro v5 w5 ow5 hg5 hat5
              rw [HL.out, HX.out] at ow5
              obtain ⟨A5, c5, rfl, _, _⟩ := own_shape ow5
              have bb := (bb.alloc (.cells #[.int .i64 id] 3)).grown hg5 (fun e => by have := hge.out _ e.symm; omega)
              have zb := (zb.alloc (.cells #[.int .i64 id] 3)).grown hg5 (fun e => by have := hge.out _ e.symm; omega)
              have hB5 : Below w.heap.size w w5 := (hB3.alloc hB3.size _).grown hg5 (by simp; omega) (fun g hg => by have := hge.out g hg; omega)
              have rr5 : RdW w5 B a D := by
                have hBs : B ≤ w3.heap.size := by omega
                have h9 := rr3.alloc hBs (.cells #[.int .i64 id] 3)
                have hs : B ≤ (w3.alloc (.cells #[.int .i64 id] 3)).heap.size := by simp; omega
                have hgg : ∀ g, (Value.slice A3 D.q.length c3).ownBlock = some g → B ≤ g := fun g hg => by have := hge.out g hg; omega
                exact ⟨h9.l.grown hg5 hs hgg, h9.g.grown hg5 hs hgg, h9.f.grown hg5 hs hgg, h9.q.grown hg5 hs hgg, h9.m.grown hg5 hs hgg⟩
              have l1 := bb.lt
              have l3 := zb.lt
              have hd : HdW w5 B ⟨a.A, a.Ag, a.Af, A5, a.Am, a.c, a.cg, a.cf, c5, a.cm⟩ { D with q := Q } := ⟨.of_rd rr5.l (by omega), .of_rd rr5.g (by omega), .of_rd rr5.f (by omega), .of_own ow5, .of_rd rr5.m (by omega)⟩
              have ⟨k0, k1, k2, k3, k4, k5, k6, k7, k8⟩ := bb.c9
              have ⟨j0, j1, j2, j3, j4, j5, j6, j7, j8⟩ := zb.c9
              have kf := bb.frz
              have zf := zb.frz
              clear rr5 rr3 ow5 ow4 ow3 rd4 hg5 hg3 hat5 hone hfl hcl
              go_wp2
              refine bodyPost_ret (v := .tuple #[.agg #[.slice a.A D.l.length a.c, .int .i64 D.m0, .int .i64 D.m1, .int .i64 D.m2, .int .i64 D.m3, .slice a.Ag D.g.length a.cg, .slice a.Af D.f.length a.cf, .slice A5 Q.length c5, .slice a.Am D.m.length a.cm], .int .i64 10]) (by simp only [results, Try.results33]; go_simp) rfl (refAskOut_yes HA.out ⟨a.A, a.Ag, a.Af, A5, a.Am, a.c, a.cg, a.cf, c5, a.cm⟩ ?_ ?_)
              · have hq := hd.set_ (i := 7) bb hBw (by decide) (by decide) (by decide) (.slice A5 Q.length c5)
                exact hq.put9 (zb.far (p := ⟨w.heap.size, 7, none⟩) (by show w.heap.size + 1 ≠ w.heap.size; omega) _) (by omega) (by decide) (by decide) (by decide) _ _ _ _ _ _ _ _ _
              · exact below_put9 (hB5.setCell (p := ⟨w.heap.size, 7, none⟩) (Nat.le_refl _) _) (by omega) _ _ _ _ _ _ _ _ _
          · by_cases h4 : D.q = []
            · have ht : takeP (D.l, D.m0, D.m1, D.m2, D.m3) id 2 (-1) = ((D.l ++ [(id, 2, -1)], D.m0, D.m1, D.m2, D.m3), 0) := by simp [takeP, mostP, h3]
              obtain ⟨L, hL⟩ : ∃ L, D.l ++ [(id, 2, -1)] = L := ⟨_, rfl⟩
              have hq1 : (((D.q.length : Nat) : Int) == 0) = true := by simp [h4]
              have HA := Lib.hid (show askP D id waits = ({ D with l := L }, 0) by simp [askP, H2.out, h3, h4, hL])
              have hc := reftake_own a.A a.c D.l D.m0 D.m1 D.m2 D.m3 id (-1) wr (rr.l.more (Nat.le_trans hBw hB.size)) hfl
              rw [ht, hL] at hc
              clear h4 hL ht
              go_wp2_with (go_at_call 22; refine Hid.out ?_)
              unfold Hid
              refine hc.mono ?_
              clear hc
              rintro e w5 ⟨A', c', rfl, ol, hb⟩
              simp only [ledV] at ol ⊢
              have bb := bb.below hb bb.lt
              have zb := zb.below hb zb.lt
              have rr := rr.below hb (Nat.le_trans hBw hB.size)
              have hB := hB.trans (hb.mono hB.size)
              have hs5 := hB.size
              clear k0 k1 k2 k3 k4 k5 k6 k7 k8 j0 j1 j2 j3 j4 j5 j6 j7 j8 kf zf hb l1 l3
              have ⟨k0, k1, k2, k3, k4, k5, k6, k7, k8⟩ := bb.c9
              have ⟨j0, j1, j2, j3, j4, j5, j6, j7, j8⟩ := zb.c9
              have kf := bb.frz
              have zf := zb.frz
              have l1 := bb.lt
              have l3 := zb.lt
              have hd : HdW w5 B ⟨A', a.Ag, a.Af, a.Aq, a.Am, c', a.cg, a.cf, a.cq, a.cm⟩ { D with l := L } := ⟨.of_own ol, .of_rd rr.g (by omega), .of_rd rr.f (by omega), .of_rd rr.q (by omega), .of_rd rr.m (by omega)⟩
              go_wp2
              refine bodyPost_ret (v := .tuple #[.agg #[.slice A' L.length c', .int .i64 D.m0, .int .i64 D.m1, .int .i64 D.m2, .int .i64 D.m3, .slice a.Ag D.g.length a.cg, .slice a.Af D.f.length a.cf, .slice a.Aq D.q.length a.cq, .slice a.Am D.m.length a.cm], .int .i64 0]) (by simp only [results, Try.results33]; go_simp) rfl (refAskOut_yes HA.out ⟨A', a.Ag, a.Af, a.Aq, a.Am, c', a.cg, a.cf, a.cq, a.cm⟩ ?_ ?_)
              · exact ((hd.put5 bb hBw (by decide) (by decide) (by decide) _ _ _ _ _).put9 (zb.farP5 (by omega) _ _ _ _ _) (by omega) (by decide) (by decide) (by decide) _ _ _ _ _ _ _ _ _).alloc _
              · exact (below_put9 (below_put5 hB (Nat.le_refl _) _ _ _ _ _) (by omega) _ _ _ _ _ _ _ _ _).alloc (by rw [size_put9, size_put5]; exact hB.size) _
            · have H3 := Lib.hid (show D.m2 ≤ (countK D.l 2 : Int) ∨ D.q ≠ [] from .inr h4)
              have hq1 : (((D.q.length : Nat) : Int) == 0) = false := by have := List.length_pos_iff.2 h4; simp; omega
              clear h4
              by_cases h5 : waits ≤ (D.q.length : Int)
              · have HA := Lib.hid (show askP D id waits = (wd0, 8) by simp [askP, H1.out, H2.out, H3.out, h5])
                go_wp2
                refine bodyPost_ret (v := .tuple #[.agg #[.slice none 0 0, .int .i64 0, .int .i64 0, .int .i64 0, .int .i64 0, .slice none 0 0, .slice none 0 0, .slice none 0 0, .slice none 0 0], .int .i64 8]) (by simp only [results, Try.results33]; go_simp) rfl (refAskOut_no HA.out ?_)
                exact below_put9 hB (by omega) _ _ _ _ _ _ _ _ _
              · obtain ⟨Q, hQ⟩ : ∃ Q, D.q ++ [id] = Q := ⟨_, rfl⟩
                have HA := Lib.hid (show askP D id waits = ({ D with q := Q }, 10) by simp [askP, H1.out, H2.out, H3.out, h5, hQ])
                have HL := Lib.hid (show D.q.length + 1 = Q.length by rw [← hQ]; simp)
                have HX := Lib.hid (show D.q.flatMap encI ++ [.int .i64 id] = Q.flatMap encI by rw [← hQ]; simp [encI])
                clear hQ
                obtain ⟨i0', hi, hz0, hz1, hz2⟩ := info_parts infoI
                have rq := (rr.q.more (Nat.le_trans hBw hB.size)).reads encI_len (by omega)
                have rq := rq.alloc (Nat.le_refl _) (.cells #[] 3)
                have ow0 : (wr.alloc (.cells #[] 3)).ownsRow wr.heap.size 3 1 (.slice (some ⟨wr.heap.size, 0, none⟩) 0 0) 0 [] :=
                  ⟨rfl, .inr ⟨wr.heap.size, 0, #[], rfl, Nat.le_refl _, heap_alloc_new _ _, Nat.le_refl _, by simp [maxLen], rfl, rfl⟩⟩
                go_wp2_with (at_builtin; refine Hid.out ?_)
                unfold Hid
                refine wpList_append_any _ rfl (.tmp 74) (.tmp 76) _ rfl wr.heap.size 3 i0' _ 1 8 Try.underlying44 hi hz0 hz1 hz2 rfl (by omega) _ 0 [] rfl ow0 wr.heap.size a.Aq D.q.length a.cq _ rfl rq (encI_one D.q) (by simp only [maxLen]; omega) (by omega) (by simp) ?_
                intro v3 w3 ow3 hg3 hat3
                simp only [Nat.zero_add, List.nil_append] at ow3
                obtain ⟨A3, c3, rfl, _, _⟩ := own_shape ow3
                have bb := (bb.alloc (.cells #[] 3)).grown hg3 (fun e => by injection e with e; have : w.heap.size = wr.heap.size := e; omega)
                have zb := (zb.alloc (.cells #[] 3)).grown hg3 (fun e => by injection e with e; have : w.heap.size + 1 = wr.heap.size := e; omega)
                have hB3 : Below w.heap.size w w3 := (hB.alloc hB.size _).grown hg3 (by simp; omega) (fun g hg => by cases hg; exact hB.size)
                have rr3 : RdW w3 B a D := by
                  have hBs := Nat.le_trans hBw hB.size
                  have h9 := rr.alloc hBs (.cells #[] 3)
                  have hs : B ≤ (wr.alloc (.cells #[] 3)).heap.size := by simp; omega
                  exact ⟨h9.l.grown hg3 hs (fun g hg => by cases hg; exact hBs), h9.g.grown hg3 hs (fun g hg => by cases hg; exact hBs), h9.f.grown hg3 hs (fun g hg => by cases hg; exact hBs), h9.q.grown hg3 hs (fun g hg => by cases hg; exact hBs), h9.m.grown hg3 hs (fun g hg => by cases hg; exact hBs)⟩
                have hz3 : wr.heap.size < w3.heap.size := by have := hg3.size; simp at this; omega
                have hge := Lib.hid (own_ge ow3)
                have hone : ∀ u ∈ [Value.int .i64 id], u.oneCell' = true := by simp [Value.oneCell']
                have hcn := cells_new w3 w3.heap.size rfl [.int .i64 id] 3
                have ow4 := ow3.alloc (.cells #[.int .i64 id] 3)
                have rd4 : Reads (w3.alloc (.cells #[.int .i64 id] 3)) (w3.heap.size + 1) 1 (some ⟨w3.heap.size, 0, none⟩) 1 [.int .i64 id] := ⟨rfl, fun _ => ⟨_, rfl, Nat.lt_succ_self _, hcn⟩⟩
                clear k0 k1 k2 k3 k4 k5 k6 k7 k8 j0 j1 j2 j3 j4 j5 j6 j7 j8 kf zf hat3 hcn rq ow0
                go_wp2_with (at_builtin; refine Hid.out ?_)
                unfold Hid
                refine wpList_append_any _ rfl (.tmp 77) (.tmp 79) _ rfl wr.heap.size 3 i0' _ 1 8 Try.underlying44 hi hz0 hz1 hz2 rfl (by omega) _ D.q.length (D.q.flatMap encI) rfl ow4 (w3.heap.size + 1) (some ⟨w3.heap.size, 0, none⟩) 1 1 [.int .i64 id] rfl rd4 hone (by simp only [maxLen]; omega) (by omega) (by simp; omega) ?_
                intro v5 w5 ow5 hg5 hat5
                rw [HL.out, HX.out] at ow5
                obtain ⟨A5, c5, rfl, _, _⟩ := own_shape ow5
                have bb := (bb.alloc (.cells #[.int .i64 id] 3)).grown hg5 (fun e => by have := hge.out _ e.symm; omega)
                have zb := (zb.alloc (.cells #[.int .i64 id] 3)).grown hg5 (fun e => by have := hge.out _ e.symm; omega)
                have hB5 : Below w.heap.size w w5 := (hB3.alloc hB3.size _).grown hg5 (by simp; omega) (fun g hg => by have := hge.out g hg; omega)
                have rr5 : RdW w5 B a D := by
                  have hBs : B ≤ w3.heap.size := by omega
                  have h9 := rr3.alloc hBs (.cells #[.int .i64 id] 3)
                  have hs : B ≤ (w3.alloc (.cells #[.int .i64 id] 3)).heap.size := by simp; omega
                  have hgg : ∀ g, (Value.slice A3 D.q.length c3).ownBlock = some g → B ≤ g := fun g hg => by have := hge.out g hg; omega
                  exact ⟨h9.l.grown hg5 hs hgg, h9.g.grown hg5 hs hgg, h9.f.grown hg5 hs hgg, h9.q.grown hg5 hs hgg, h9.m.grown hg5 hs hgg⟩
                have l1 := bb.lt
                have l3 := zb.lt
                have hd : HdW w5 B ⟨a.A, a.Ag, a.Af, A5, a.Am, a.c, a.cg, a.cf, c5, a.cm⟩ { D with q := Q } := ⟨.of_rd rr5.l (by omega), .of_rd rr5.g (by omega), .of_rd rr5.f (by omega), .of_own ow5, .of_rd rr5.m (by omega)⟩
                have ⟨k0, k1, k2, k3, k4, k5, k6, k7, k8⟩ := bb.c9
                have ⟨j0, j1, j2, j3, j4, j5, j6, j7, j8⟩ := zb.c9
                have kf := bb.frz
                have zf := zb.frz
                clear rr5 rr3 ow5 ow4 ow3 rd4 hg5 hg3 hat5 hone hfl hcl
                go_wp2
                refine bodyPost_ret (v := .tuple #[.agg #[.slice a.A D.l.length a.c, .int .i64 D.m0, .int .i64 D.m1, .int .i64 D.m2, .int .i64 D.m3, .slice a.Ag D.g.length a.cg, .slice a.Af D.f.length a.cf, .slice A5 Q.length c5, .slice a.Am D.m.length a.cm], .int .i64 10]) (by simp only [results, Try.results33]; go_simp) rfl (refAskOut_yes HA.out ⟨a.A, a.Ag, a.Af, A5, a.Am, a.c, a.cg, a.cf, c5, a.cm⟩ ?_ ?_)
                · have hq := hd.set_ (i := 7) bb hBw (by decide) (by decide) (by decide) (.slice A5 Q.length c5)
                  exact hq.put9 (zb.far (p := ⟨w.heap.size, 7, none⟩) (by show w.heap.size + 1 ≠ w.heap.size; omega) _) (by omega) (by decide) (by decide) (by decide) _ _ _ _ _ _ _ _ _
                · exact below_put9 (hB5.setCell (p := ⟨w.heap.size, 7, none⟩) (Nat.le_refl _) _) (by omega) _ _ _ _ _ _ _ _ _
end Go.Proofs.Ytmcjgfoaiannoaa
