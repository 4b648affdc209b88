/-
  PoolTurn: the walk. Conditions: none but that the ints read so.
-/
import Derived.Test.YtmcjgfoaiannoaaPoolLaw2
import Derived.Test.YtmcjgfoaiannoaaPoolRBack
import Derived.Test.YtmcjgfoaiannoaaAllWalk
import Derived.Deep.RegionLaw
import Derived.Deep.RegionHeld3
import Derived.Deep.DeepCutAuto
namespace Go.Proofs.Ytmcjgfoaiannoaa
open Go.RowKit

theorem Rd.takeI {w : World} {B : Nat} {A : Option Addr} {l : List Int} (h : Rd 1 encI w B A l) (i : Nat) : Rd 1 encI w B A (l.take i) := fun hl => by
  have h0 : 0 < l.length := by rw [List.length_take] at hl; omega
  obtain ⟨b, off, e, hb, hc⟩ := h h0
  refine ⟨b, off, e, hb, fun j x hx u v hv => hc j x ?_ u v hv⟩
  rw [List.getElem?_take] at hx
  split at hx
  · exact hx
  · cases hx
theorem Rd.dropI {w : World} {B b off : Nat} {l : List Int} (h : Rd 1 encI w B (some ⟨b, off, none⟩) l) (k : Nat) : Rd 1 encI w B (some ⟨b, off + k * 1, none⟩) (l.drop k) := fun hl => by
  have h0 : 0 < l.length := by rw [List.length_drop] at hl; omega
  obtain ⟨b', off', e, hb, hc⟩ := h h0
  injection e with e
  injection e with e1 e2
  subst e1 e2
  refine ⟨b, off + k * 1, rfl, hb, fun j x hx u v hv => ?_⟩
  rw [List.getElem?_drop] at hx
  have := hc _ x hx u v hv
  rw [Nat.add_mul] at this
  rwa [show off + (k * 1 + j * 1) + u = off + k * 1 + j * 1 + u by omega] at this
theorem app2_src {wc w3 : World} {b off n : Nat} {l : List Int} (rd : Rd 1 encI wc wc.heap.size (some ⟨b, off + (n + 1) * 1, none⟩) (l.drop (n + 1))) (hg : (wc.drew.alloc (.cells #[] 3)).grownBy w3 (Value.slice (some ⟨wc.heap.size, 0, none⟩) 0 0).ownBlock) : Reads w3 wc.heap.size 1 (some ⟨b, off + (n + 1), none⟩) (l.length - (n + 1)) ((l.drop (n + 1)).flatMap encI) := by
  have h := (rd.below' (below_undrew' (append_below (w := wc.drew) rfl hg)) (Nat.le_refl _)).reads encI_len (by omega)
  rw [List.length_drop, Nat.mul_one] at h
  exact h
/-- the blocks of a world's slices lie below X -/
def LtW (X : Nat) (a : WA) (D : WD) : Prop :=
  (∀ g, (Value.slice a.A D.l.length a.c).ownBlock = some g → g < X) ∧ (∀ g, (Value.slice a.Ag D.g.length a.cg).ownBlock = some g → g < X) ∧ (∀ g, (Value.slice a.Af D.f.length a.cf).ownBlock = some g → g < X) ∧ (∀ g, (Value.slice a.Aq D.q.length a.cq).ownBlock = some g → g < X) ∧ (∀ g, (Value.slice a.Am D.m.length a.cm).ownBlock = some g → g < X)
theorem lts {w : World} {B : Nat} {a : WA} {D : WD} (h : OwW w B a D) : LtW w.heap.size a D := ⟨own_lt h.l, own_lt h.g, own_lt h.f, own_lt h.q, own_lt h.m⟩
theorem OwW.grownL {w w' : World} {B X : Nat} {a : WA} {D : WD} (h : OwW w B a D) {row : Option Nat} (hg : w.grownBy w' row) (hL : LtW X a D) (hr : ∀ g, row = some g → X ≤ g) : OwW w' B a D := by
  have hne : ∀ {v : Value}, (∀ g, v.ownBlock = some g → g < X) → ∀ x, v.ownBlock = some x → some x ≠ row := fun h x hx e => by
    have := h x hx
    have := hr x e.symm
    omega
  exact ⟨own_grown h.l hg (hne hL.1), own_grown h.g hg (hne hL.2.1), own_grown h.f hg (hne hL.2.2.1), own_grown h.q hg (hne hL.2.2.2.1), own_grown h.m hg (hne hL.2.2.2.2)⟩
theorem below_unalloc {w w' : World} {o : Obj} (h : Below (w.alloc o).heap.size (w.alloc o) w') : Below w.heap.size w w' :=
  ((Below.refl _ w).alloc (Nat.le_refl _) o).trans (h.mono (by simp))
theorem poolBack_to {D D3 : WD} {id k3 : Int} (hR : backP D id = (D3, k3, 0)) (a : WA) (w : World) (rr : RdW w w.heap.size a D) (hf : Fit D) :
    Calls Try.prog 34 #[.agg #[.slice a.A D.l.length a.c, .int .i64 D.m0, .int .i64 D.m1, .int .i64 D.m2, .int .i64 D.m3, .slice a.Ag D.g.length a.cg, .slice a.Af D.f.length a.cf, .slice a.Aq D.q.length a.cq, .slice a.Am D.m.length a.cm], .int .i64 id] w fun e w' => ∃ a3 : WA, e = .returned (.tuple #[.agg #[.slice a3.A D3.l.length a3.c, .int .i64 D3.m0, .int .i64 D3.m1, .int .i64 D3.m2, .int .i64 D3.m3, .slice a3.Ag D3.g.length a3.cg, .slice a3.Af D3.f.length a3.cf, .slice a3.Aq D3.q.length a3.cq, .slice a3.Am D3.m.length a3.cm], .int .i64 k3, .int .i64 0]) ∧ OwW w' w.heap.size a3 D3 ∧ Below w.heap.size w w' := by
  have hc := poolBack_any a D id w rr hf
  unfold BackOut at hc
  rw [hR] at hc
  exact hc
set_option maxRecDepth 100000 in
set_option maxHeartbeats 4000000 in
theorem poolTurn_walk (most asks : Int) (Ab : Option Addr) (cb : Nat) (back : List Int) (w : World) (rb : Rd 1 encI w w.heap.size Ab back) (hbl : back.length * 8 ≤ 140737488355328) :
    Calls Try.prog 9 #[.int .i64 most, .int .i64 asks, .slice Ab back.length cb] w fun e w' => e = .returned (.bool true) ∧ Below w.heap.size w w' := by
  go_enter Try.func9, Try.ntmps9
  go_wp2_with (go_at_call 36; refine Hid.out ?_)
  unfold Hid
  refine (poolAlive_any w).mono ?_
  rintro e w0 ⟨rfl, hB⟩
  by_cases h1 : most < 1
  · go_wp2
    go_ret
    exact ⟨rfl, hB⟩
  by_cases h2 : 8 < most
  · go_wp2
    go_ret
    exact ⟨rfl, hB⟩
  by_cases h3 : asks < 0
  · go_wp2
    go_ret
    exact ⟨rfl, hB⟩
  by_cases h4 : 40 < asks
  · go_wp2
    go_ret
    exact ⟨rfl, hB⟩
  obtain ⟨M, rfl⟩ : ∃ M : Nat, most = M := ⟨most.toNat, by omega⟩
  obtain ⟨v, rfl⟩ : ∃ v : Nat, asks = v := ⟨asks.toNat, by omega⟩
  go_wp2_with (go_at_call 37; refine Hid.out ?_)
  unfold Hid
  refine (poolWorld_any M w0).mono ?_
  rintro e w1 ⟨rfl, hb⟩
  have hB := hB.trans (hb.mono hB.size)
  clear hb
  obtain ⟨K7, hK7⟩ : ∃ K7, K7 = w1.heap.size := ⟨_, rfl⟩
  obtain ⟨w2, hw2⟩ : ∃ w2, w2 = w1.alloc (.cells #[.slice none 0 0, .int .i64 0, .int .i64 9, .int .i64 M, .int .i64 9, .slice none 0 0, .slice none 0 0, .slice none 0 0, .slice none 0 0] 67) := ⟨_, rfl⟩
  go_wp2
  rw [← hK7, ← hw2]
  have xb : Blk w2 K7 67 #[.slice none 0 0, .int .i64 0, .int .i64 9, .int .i64 M, .int .i64 9, .slice none 0 0, .slice none 0 0, .slice none 0 0, .slice none 0 0] := by rw [hw2, hK7]; exact Blk.new _ _ _
  have hK : w.heap.size ≤ K7 := by rw [hK7]; exact hB.size
  have hB : Below w.heap.size w w2 := by rw [hw2]; exact hB.alloc hB.size _
  have x0 : wC wa0 (stP M 0) = #[.slice none 0 0, .int .i64 0, .int .i64 9, .int .i64 M, .int .i64 9, .slice none 0 0, .slice none 0 0, .slice none 0 0, .slice none 0 0] := by simp [wC, wa0, stP, wdM, idsF, queueF]
  clear hw2 hK7
  go_loopw [8, 37] (fun h i wr => ∃ k : Nat, k ≤ v ∧ i = .int .i64 k ∧ Below w.heap.size w wr ∧ ∃ a : WA, Blk wr K7 67 (wC a (stP M k)) ∧ OwW wr w.heap.size a (stP M k) ∧ ∃ Ah ch, h = .slice Ah (idsF (min k M)).length ch ∧ OwI wr w.heap.size Ah ch (idsF (min k M)))
    (fun _ i _ => v - (intOf i).toNat)
  case atStart =>
    refine ⟨0, Nat.zero_le _, rfl, hB, wa0, by rw [x0]; exact xb, ?_, none, 0, by simp [idsF], ?_⟩
    · have e : stP M 0 = wdM M [] [] := by simp [stP, idsF, queueF]
      rw [e]
      exact ⟨Ow.nil_, World.ownsRow_nil _ _ _ _, World.ownsRow_nil _ _ _ _, World.ownsRow_nil _ _ _ _, World.ownsRow_nil _ _ _ _⟩
    · rw [show idsF (min 0 M) = [] by simp [idsF]]
      exact World.ownsRow_nil _ _ _ _
  case round =>
    clear xb hB x0
    obtain ⟨k, hk, rfl, hB, a, xb, o1, Ah, ch, rfl, oh⟩ := hrel
    have ⟨x0, x1, x2, x3, x4, x5, x6, x7, x8⟩ := xb.c9
    have l1 := xb.lt
    by_cases hlt : k < v
    · go_wp2_with (go_at_call 32; refine Hid.out ?_)
      unfold Hid
      have hc := poolAsk_any a (stP M k) k 100 wr o1.rd (stP_fit M k (by omega) (by omega))
      unfold AskOut at hc
      rw [ask_step M k 100 (by omega)] at hc
      have hhl := own_lt oh
      refine hc.mono ?_
      clear hc o1
      rintro e w3 ⟨a1, rfl, o1, hb⟩
      clear x0 x1 x2 x3 x4 x5 x6 x7 x8 l1
      have xb := xb.below hb xb.lt
      have oh := oh.below hb
      have hsz := hB.size
      have hB := hB.trans (hb.mono hB.size)
      obtain ⟨D, hD⟩ : ∃ D, stP M (k + 1) = D := ⟨_, rfl⟩
      rw [hD] at o1
      simp only [hD]
      simp only [wC] at xb
      have ⟨x0, x1, x2, x3, x4, x5, x6, x7, x8⟩ := xb.c9
      have xf := xb.frz
      have l1 := xb.lt
      clear hb
      simp only [wV]
      by_cases hkM : k < M
      · rw [if_pos hkM]
        have hi1 : idsF (min (k + 1) M) = idsF (min k M) ++ [(k : Int)] := by rw [show min (k + 1) M = k + 1 by omega, show min k M = k by omega, idsF_succ]
        obtain ⟨hs, hhs⟩ : ∃ hs, idsF (min k M) = hs := ⟨_, rfl⟩
        have hsl : hs.length ≤ 8 := by rw [← hhs, idsF_len]; omega
        rw [hhs] at hi1 oh hhl ⊢
        have HH := Lib.hid hhl
        clear hhl
        have HI := Lib.hid hi1
        clear hi1 hhs
        obtain ⟨K10, hK10⟩ : ∃ K10, K10 = w3.heap.size := ⟨_, rfl⟩
        obtain ⟨w4, hw4⟩ : ∃ w4, w4 = w3.alloc (.cells #[.slice a1.A D.l.length a1.c, .int .i64 D.m0, .int .i64 D.m1, .int .i64 D.m2, .int .i64 D.m3, .slice a1.Ag D.g.length a1.cg, .slice a1.Af D.f.length a1.cf, .slice a1.Aq D.q.length a1.cq, .slice a1.Am D.m.length a1.cm] 67) := ⟨_, rfl⟩
        go_wp2_with (at_builtin; refine Hid.out ?_)
        unfold Hid
        rw [← hK10, ← hw4]
        have hsz4 : w4.heap.size = K10 + 1 := by rw [hw4, hK10]; exact World.size_alloc _ _
        rw [← hsz4]
        have yb : Blk w4 K10 67 #[.slice a1.A D.l.length a1.c, .int .i64 D.m0, .int .i64 D.m1, .int .i64 D.m2, .int .i64 D.m3, .slice a1.Ag D.g.length a1.cg, .slice a1.Af D.f.length a1.cf, .slice a1.Aq D.q.length a1.cq, .slice a1.Am D.m.length a1.cm] := by rw [hw4, hK10]; exact Blk.new _ _ _
        have xb : Blk w4 K7 67 #[.slice a.A (stP M k).l.length a.c, .int .i64 (stP M k).m0, .int .i64 (stP M k).m1, .int .i64 (stP M k).m2, .int .i64 (stP M k).m3, .slice a.Ag (stP M k).g.length a.cg, .slice a.Af (stP M k).f.length a.cf, .slice a.Aq (stP M k).q.length a.cq, .slice a.Am (stP M k).m.length a.cm] := by rw [hw4]; exact xb.alloc _
        have o1 : OwW w4 wr.heap.size a1 D := by rw [hw4]; exact o1.alloc _
        have oh : OwI w4 w.heap.size Ah ch hs := by rw [hw4]; exact oh.alloc _
        have hB : Below w.heap.size w w4 := by rw [hw4]; exact hB.alloc hB.size _
        have hlK : K7 < K10 := by omega
        clear hw4 hK10 hsz4 x0 x1 x2 x3 x4 x5 x6 x7 x8 xf l1
        obtain ⟨i0', hi, hz0, hz1, hz2⟩ := info_parts infoI
        have hone : ∀ u ∈ [Value.int .i64 (k : Int)], u.oneCell' = true := by simp [Value.oneCell']
        have hcn := cells_new w4 w4.heap.size rfl [.int .i64 (k : Int)] 3
        have ow4 := oh.alloc (.cells #[.int .i64 (k : Int)] 3)
        have rd4 : Reads (w4.alloc (.cells #[.int .i64 (k : Int)] 3)) (w4.heap.size + 1) 1 (some ⟨w4.heap.size, 0, none⟩) 1 [.int .i64 (k : Int)] := ⟨rfl, fun _ => ⟨_, rfl, Nat.lt_succ_self _, hcn⟩⟩
        have xb := xb.alloc (.cells #[.int .i64 (k : Int)] 3)
        have yb := yb.alloc (.cells #[.int .i64 (k : Int)] 3)
        have o1 := o1.alloc (.cells #[.int .i64 (k : Int)] 3)
        have hB := hB.alloc hB.size (.cells #[.int .i64 (k : Int)] 3)
        refine wpList_append_any _ rfl (.tmp 62) (.tmp 64) _ rfl w.heap.size 3 i0' _ 1 8 Try.underlying44 hi hz0 hz1 hz2 rfl (by omega) _ hs.length (hs.flatMap encI) rfl ow4 (w4.heap.size + 1) (some ⟨w4.heap.size, 0, none⟩) 1 1 [.int .i64 (k : Int)] rfl rd4 hone (by simp only [maxLen]; omega) (by omega) hB.size ?_
        intro v5 w5 ow5 hg5 hat5
        have hg5 : (w4.alloc (.cells #[.int .i64 (k : Int)] 3)).grownBy w5 (Value.slice Ah hs.length ch).ownBlock := hg5
        have xb := xb.grown hg5 (fun e => own_blk_ne ow4 xb (by decide) e.symm)
        have yb := yb.grown hg5 (fun e => own_blk_ne ow4 yb (by decide) e.symm)
        have o1 := o1.grown hg5 (fun g hg => HH.out g hg)
        have hB := hB.grown hg5 hB.size (fun g hg => own_ge ow4 g hg)
        have hl5 : (hs ++ [(k : Int)]).length = hs.length + 1 := by simp
        have hx5 : (hs ++ [(k : Int)]).flatMap encI = hs.flatMap encI ++ [.int .i64 (k : Int)] := by simp [encI]
        rw [← hl5, ← hx5] at ow5
        obtain ⟨A5, c5, rfl, _, _⟩ := own_shape ow5
        obtain ⟨hs5, hhs5⟩ : ∃ hs5, hs ++ [(k : Int)] = hs5 := ⟨_, rfl⟩
        rw [hhs5] at HI ow5
        simp only [hhs5]
        have oh : OwI w5 w.heap.size A5 c5 hs5 := ow5
        clear ow5 ow4 rd4 hcn hone hg5 hat5 hi hz0 hz1 hz2 hl5 hx5 hhs5 HH
        have ⟨x0, x1, x2, x3, x4, x5, x6, x7, x8⟩ := xb.c9
        have ⟨y0, y1, y2, y3, y4, y5, y6, y7, y8⟩ := yb.c9
        have xf := xb.frz
        have l1 := xb.lt
        have l2 := yb.lt
        go_wp2
        go_roundw
        case rel =>
          refine ⟨k + 1, by omega, by go_num, below_put9 hB hK _ _ _ _ _ _ _ _ _, a1, ?_, ?_, A5, c5, ?_, ?_⟩
          · rw [hD]
            exact xb.put9 _ _ _ _ _ _ _ _ _
          · rw [hD]
            exact (o1.more hsz).put9 xb (by decide) (by decide) (by decide) _ _ _ _ _ _ _ _ _
          · rw [HI.out]
          · rw [HI.out]
            exact oh.put9 xb (by decide) _ _ _ _ _ _ _ _ _
        case measure => simp [intOf]; omega
      · rw [if_neg hkM]
        have hi1 : idsF (min (k + 1) M) = idsF (min k M) := by rw [show min (k + 1) M = min k M by omega]
        have HI := Lib.hid hi1
        clear hi1
        go_wp2
        go_roundw
        case rel =>
          refine ⟨k + 1, by omega, by go_num, (below_put9 hB hK _ _ _ _ _ _ _ _ _).alloc (by rw [size_put9]; exact hB.size) _, a1, ?_, ?_, Ah, ch, ?_, ?_⟩
          · rw [hD]
            exact (xb.put9 _ _ _ _ _ _ _ _ _).alloc _
          · rw [hD]
            exact ((o1.more hsz).put9 xb (by decide) (by decide) (by decide) _ _ _ _ _ _ _ _ _).alloc _
          · rw [HI.out]
          · rw [HI.out]
            exact (oh.put9 xb (by decide) _ _ _ _ _ _ _ _ _).alloc _
        case measure => simp [intOf]; omega
    · obtain rfl : v = k := by omega
      have hb0 := idsF_mem (min v M)
      have nd0 := idsF_nodup (min v M)
      have hl0 := idsF_len (min v M)
      obtain ⟨hs0, hh0⟩ : ∃ hs0, idsF (min v M) = hs0 := ⟨_, rfl⟩
      have xb : Blk wr K7 67 (wC a (wdM M (hs0.map hOf) (queueF M v))) := by rw [← hh0]; exact xb
      have o1 : OwW wr w.heap.size a (wdM M (hs0.map hOf) (queueF M v)) := by rw [← hh0]; exact o1
      rw [hh0] at oh hb0 nd0 hl0 ⊢
      have HB0 := Lib.hid hb0
      have ND0 := Lib.hid nd0
      have hl0' : hs0.length ≤ M := by omega
      clear hb0 nd0 hh0 x0 x1 x2 x3 x4 x5 x6 x7 x8 l1 hlt hk hl0
      go_wp2
      go_loopw [8, 12, 71] (fun h n i ws => ∃ (j nx : Nat) (hs : List Int), j ≤ back.length ∧ i = .int .i64 j ∧ n = .int .i64 nx ∧ Hid (hs.Nodup) ∧ Hid (∀ x ∈ hs, x < nx) ∧ hs.length ≤ M ∧ Below w.heap.size w ws ∧ ∃ a : WA, Blk ws K7 67 (wC a (wdM M (hs.map hOf) (queueF nx v))) ∧ OwW ws 0 a (wdM M (hs.map hOf) (queueF nx v)) ∧ ∃ Ah ch, h = .slice Ah hs.length ch ∧ OwI ws w.heap.size Ah ch hs)
        (fun _ _ i _ => back.length - (intOf i).toNat)
      case atStart => exact ⟨0, M, hs0, Nat.zero_le _, rfl, rfl, ND0, Lib.hid fun x hx => by have := HB0.out x hx; omega, hl0', hB, a, xb, o1.more (Nat.zero_le _), Ah, ch, rfl, oh⟩
      case round =>
        clear xb hB o1 oh HB0 ND0 hl0'
        obtain ⟨j, nx, hs, hj, rfl, rfl, ND, HLT, hlM, hB, a, xb, o1, Ah, ch, rfl, oh⟩ := hrel
        by_cases hlt : j < back.length
        · obtain ⟨bb_, bo, x, e1, hbB, hx, c0⟩ := (rb.below hB).atI hlt
          rw [e1]
          clear e1 hx
          by_cases hnil : hs = []
          · have hq1 : (((hs.length : Nat) : Int) == 0) = true := by simp [hnil]
            clear hnil
            go_wp2
            go_ret
            exact ⟨rfl, hB⟩
          · have hpos : 0 < hs.length := List.length_pos_iff.2 hnil
            have hq1 : (((hs.length : Nat) : Int) == 0) = false := by simp; omega
            clear hnil
            by_cases hx0 : x < 0
            · go_wp2
              go_roundw
              case rel => exact ⟨j + 1, nx, hs, by omega, by go_num, rfl, ND, HLT, hlM, hB, a, xb, o1, Ah, ch, rfl, oh⟩
              case measure => simp [intOf]; omega
            by_cases hxl : (hs.length : Int) ≤ x
            · go_wp2
              go_roundw
              case rel => exact ⟨j + 1, nx, hs, by omega, by go_num, rfl, ND, HLT, hlM, hB, a, xb, o1, Ah, ch, rfl, oh⟩
              case measure => simp [intOf]; omega
            obtain ⟨n, rfl⟩ : ∃ n : Nat, x = n := ⟨x.toNat, by omega⟩
            have hn : n < hs.length := by omega
            obtain ⟨hbk, ho, id, eh, hhb, hid_, hc0⟩ := oh.rd.atI hn
            have HN := Lib.hid hid_
            obtain ⟨hs3, nx3, k3, hR, hcase⟩ : ∃ (hs3 : List Int) (nx3 : Nat) (k3 : Int), backP (wdM M (hs.map hOf) (queueF nx v)) id = (wdM M (hs3.map hOf) (queueF nx3 v), k3, 0) ∧ ((nx < v ∧ k3 = nx ∧ nx3 = nx + 1 ∧ hs3 = hs.eraseIdx n ++ [(nx : Int)]) ∨ (v ≤ nx ∧ k3 = -1 ∧ nx3 = nx ∧ hs3 = hs.eraseIdx n)) := by
              by_cases h : nx < v
              · exact ⟨_, _, _, back_go hid_ ND.out h hlM, .inl ⟨h, rfl, rfl, rfl⟩⟩
              · exact ⟨_, _, _, back_end hid_ ND.out (by omega), .inr ⟨by omega, rfl, rfl, rfl⟩⟩
            have hle := List.length_eraseIdx_of_lt hn
            have hl3 : hs3.length ≤ M := by rcases hcase with ⟨_, _, _, rfl⟩ | ⟨_, _, _, rfl⟩ <;> first | omega | (simp only [List.length_append, List.length_cons, List.length_nil]; omega)
            have hf := wdM_fit M nx v hs (by omega) (by omega)
            obtain ⟨D, hD⟩ : ∃ D, wdM M (hs.map hOf) (queueF nx v) = D := ⟨_, rfl⟩
            obtain ⟨D3, hD3⟩ : ∃ D3, wdM M (hs3.map hOf) (queueF nx3 v) = D3 := ⟨_, rfl⟩
            have hl3 : D3.l.length ≤ M := by rw [← hD3]; show (hs3.map hOf).length ≤ M; rw [List.length_map]; exact hl3
            rw [hD] at xb o1 hf hR
            rw [hD3] at hR
            have HR := Lib.hid hR
            have HC := Lib.hid hcase
            have HD3 := Lib.hid hD3
            simp only [wC] at xb
            rw [eh] at oh ⊢
            clear eh hid_ hD hR hcase hD3
            have ⟨x0, x1, x2, x3, x4, x5, x6, x7, x8⟩ := xb.c9
            have hcn : wr.cell? ⟨hbk, ho + n, none⟩ = some (.int .i64 id) := by simpa using hc0
            clear hc0
            go_upto_region 23 with fail
            clear c0
            go_cut [15, 16, 17] (fun p n e wx => ∃ (K15 : Nat) (a3 : WA), p = .pointer (some ⟨K15, 0, none⟩) ∧ n = .int .i64 k3 ∧ e = .int .i64 0 ∧ K7 < K15 ∧ Blk wx K7 67 #[.slice a.A D.l.length a.c, .int .i64 D.m0, .int .i64 D.m1, .int .i64 D.m2, .int .i64 D.m3, .slice a.Ag D.g.length a.cg, .slice a.Af D.f.length a.cf, .slice a.Aq D.q.length a.cq, .slice a.Am D.m.length a.cm] ∧ Blk wx K15 67 #[.slice a3.A D3.l.length a3.c, .int .i64 D3.m0, .int .i64 D3.m1, .int .i64 D3.m2, .int .i64 D3.m3, .slice a3.Ag D3.g.length a3.cg, .slice a3.Af D3.f.length a3.cf, .slice a3.Aq D3.q.length a3.cq, .slice a3.Am D3.m.length a3.cm] ∧ OwW wx 0 a3 D3 ∧ OwI wx w.heap.size (some ⟨hbk, ho, none⟩) ch hs ∧ Below w.heap.size w wx)
            case first =>
              have hwl := xb.lt
              go_region_law (first
                | (go_simp
                   with_reducible refine (poolBack_to HR.out a _ ?_ hf).mono ?_
                   · first
                     | exact ⟨o1.rd.l, o1.rd.g, o1.rd.f, o1.rd.q, o1.rd.m⟩
                     | (have oa := (o1.alloc (.cells #[.slice none 0 0, .int .i64 0, .int .i64 0, .int .i64 0, .int .i64 0, .slice none 0 0, .slice none 0 0, .slice none 0 0, .slice none 0 0] 67)).rd
                        exact ⟨oa.l, oa.g, oa.f, oa.q, oa.m⟩)
                   rintro e w3 ⟨a3, rfl, o3, hb⟩
                   repeat (have hb := below_undrew' hb)
                   try (have zb := (Blk.new wr 67 #[.slice none 0 0, .int .i64 0, .int .i64 0, .int .i64 0, .int .i64 0, .slice none 0 0, .slice none 0 0, .slice none 0 0, .slice none 0 0]).below hb (by simp)
                        have ⟨z0, z1, z2, z3, z4, z5, z6, z7, z8⟩ := zb.c9
                        have zf := zb.frz
                        have zl := zb.lt)
                   repeat (have hb := below_unalloc hb)
                   have o3 := o3.more (Nat.zero_le _)
                   have xb := xb.below hb xb.lt
                   have oh := oh.below hb
                   have hB := hB.trans (hb.mono hB.size)
                   have ⟨x0, x1, x2, x3, x4, x5, x6, x7, x8⟩ := xb.c9
                   have hcn := (hb.cell (p := ⟨hbk, ho + n, none⟩) (show hbk < wr.heap.size from hhb)).trans hcn
                   have hhb : hbk < w3.heap.size := Nat.lt_of_lt_of_le hhb hb.size))
              all_goals
                go_wp2_with fail
                go_meet
                first
                | (have hz9 := zl
                   exact ⟨wr.heap.size, a3, rfl, rfl, rfl, hwl, xb.farP9 (by omega) _ _ _ _ _ _ _ _ _, zb.put9 _ _ _ _ _ _ _ _ _, o3.put9 zb (by decide) (by decide) (by decide) _ _ _ _ _ _ _ _ _, oh.put9 zb (by decide) _ _ _ _ _ _ _ _ _, below_put9 hB (by omega) _ _ _ _ _ _ _ _ _⟩)
                | exact ⟨w3.heap.size, a3, rfl, rfl, rfl, xb.lt, xb.alloc _, Blk.new _ _ _, o3.alloc _, oh.alloc _, hB.alloc hB.size _⟩
            case rest =>
              obtain ⟨K15, a3, rfl, rfl, rfl, hlK, xb, yb, o3, oh, hB⟩ := hcut
              clear o1 hcn hhb hf x0 x1 x2 x3 x4 x5 x6 x7 x8
              have hl3' : (hs.eraseIdx n).length + 1 = hs.length := by omega
              have ⟨y0, y1, y2, y3, y4, y5, y6, y7, y8⟩ := yb.c9
              obtain ⟨X, hX⟩ : ∃ X, X = wc.heap.size := ⟨_, rfl⟩
              have ltX : LtW X a3 D3 := by rw [hX]; exact lts o3
              have hX0 : w.heap.size ≤ X := by rw [hX]; exact hB.size
              have HO := Lib.hid oh
              have hch : hs.length ≤ ch := oh.cap
              have hcm : ch ≤ maxLen := (own_shape oh).elim fun _ h => h.elim fun c h => by
                obtain ⟨h1, h2, h3⟩ := h
                injection h1 with _ _ e
                omega
              have l5 : K15 < wc.heap.size := yb.lt
              go_upto_region 26 with fail
              go_cut [8] (fun s wx => ∃ A6 c6, s = .slice A6 (hs.eraseIdx n).length c6 ∧ OwI wx X A6 c6 (hs.eraseIdx n) ∧ Below wc.heap.size wc wx)
              case first =>
                obtain ⟨i0', hi0, hz0, hz1, hz2⟩ := info_parts infoI
                have HI := Lib.hid (And.intro hi0 (And.intro hz0 (And.intro hz1 hz2)))
                have OW0 := Lib.hid (append_own0 wc.drew)
                have ohr : Rd 1 encI wc wc.heap.size (some ⟨hbk, ho, none⟩) hs := oh.rd
                have R1 : Hid (Reads (wc.drew.alloc (.cells #[] 3)) wc.heap.size 1 (some ⟨hbk, ho, none⟩) n ((hs.take n).flatMap encI)) := by
                  have := append_src (w := wc.drew) (ohr.takeI n) (Nat.le_refl _)
                  rw [List.length_take, Nat.min_eq_left (by omega)] at this
                  exact this
                have HDr := Lib.hid (ohr.dropI (n + 1))
                have HES := Lib.hid (show (hs.eraseIdx n).flatMap encI = [] ++ (hs.take n).flatMap encI ++ (hs.drop (n + 1)).flatMap encI by rw [List.eraseIdx_eq_take_drop_succ, List.flatMap_append]; rfl)
                have HLE := Lib.hid hle
                unfold maxLen at hcm
                have g1 : n ≤ ch := by omega
                have g2 : n + 1 ≤ ch := by omega
                have g3 : n + 1 ≤ hs.length := by omega
                have g5 : (0 : Int) ≤ (n : Int) + 1 := by omega
                have g6 : (n : Int) + 1 ≤ (hs.length : Int) := by omega
                have g7 : ¬ (n : Int) < 0 := by omega
                have hsum : IntKind.i64.wrap ((n : Int) + 1) = (n : Int) + 1 := IntWalk.i64_in _ (by omega)
                have hsum' : ((n : Int) + 1).toNat = n + 1 := by omega
                clear hi0 hz0 hz1 hz2 oh xb yb o3 y0 y1 y2 y3 y4 y5 y6 y7 y8 ohr hle
                by_cases hci : ch = n + 1
                · have hl0 : hs.length - (n + 1) = 0 := by omega
                  have HL0 := Lib.hid hl0
                  have HDN := Lib.hid (show hs.drop (n + 1) = [] from List.drop_eq_nil_of_le (by omega))
                  clear hl0
                  subst hci
                  have g0 : (n : Int) ≤ (n : Int) + 1 := by omega
                  go_region_law (first
                    | (refine step_append_any _ (by rfl) (.tmp 106) (.tmp 109) 44 (by rfl) wc.heap.size 3 i0' _ 1 8 Try.underlying44 HI.out.1 HI.out.2.1 HI.out.2.2.1 HI.out.2.2.2 rfl (by omega) _ 0 [] (by rfl) OW0.out wc.heap.size (some ⟨hbk, ho, none⟩) n (n + 1) _ (by rfl) R1.out (encI_one _) (by simp only [maxLen]; omega) (by omega) (by simp) ?_
                       intro v3 w3 hown3 hg3 hat3)
                    | (refine step_append_any _ (by rfl) (.tmp 110) (.tmp 114) 44 (by rfl) wc.heap.size 3 i0' _ 1 8 Try.underlying44 HI.out.1 HI.out.2.1 HI.out.2.2.1 HI.out.2.2.2 rfl (by omega) _ (0 + n) _ (by rfl) hown3 wc.heap.size (some ⟨hbk, ho, none⟩) 0 0 _ (by rfl) (⟨rfl, fun h => absurd h (by omega)⟩ : Reads w3 wc.heap.size 1 (some ⟨hbk, ho, none⟩) 0 []) (fun u hu => absurd hu (by simp)) (by simp only [maxLen]; omega) (by omega) ((append_below (w := wc.drew) rfl hg3).size) ?_
                       intro v4 w4 hown4 hg4 hat4
                       obtain ⟨A4, c4, rfl, _, _⟩ := own_shape hown4
                       have hb4 := Below.grown (w := w3) (below_undrew' (append_below (w := wc.drew) rfl hg3)) hg4 ((append_below (w := wc.drew) rfl hg3).size) (fun g hg => own_ge hown3 g hg)))
                  all_goals
                    go_wp2_with fail
                    go_meet
                    refine ⟨A4, c4, ?_, ?_, hb4⟩
                    · rw [HLE.out]
                      have := HL0.out; simp; omega
                    · have HQ := HES.out
                      rw [hX]
                      show World.ownsRow _ _ _ _ (.slice A4 (hs.eraseIdx n).length c4) (hs.eraseIdx n).length ((hs.eraseIdx n).flatMap encI)
                      rw [HQ, HLE.out]
                      have h9 := HL0.out
                      rw [HDN.out, show hs.length - 1 = 0 + n + 0 by omega]
                      exact hown4
                · have hci' : n + 1 < ch := by omega
                  go_region_law (first
                    | (refine step_append_any _ (by rfl) (.tmp 106) (.tmp 109) 44 (by rfl) wc.heap.size 3 i0' _ 1 8 Try.underlying44 HI.out.1 HI.out.2.1 HI.out.2.2.1 HI.out.2.2.2 rfl (by omega) _ 0 [] (by rfl) OW0.out wc.heap.size (some ⟨hbk, ho, none⟩) n ch _ (by rfl) R1.out (encI_one _) (by simp only [maxLen]; omega) (by omega) (by simp) ?_
                       intro v3 w3 hown3 hg3 hat3)
                    | (refine step_append_any _ (by rfl) (.tmp 110) (.tmp 114) 44 (by rfl) wc.heap.size 3 i0' _ 1 8 Try.underlying44 HI.out.1 HI.out.2.1 HI.out.2.2.1 HI.out.2.2.2 rfl (by omega) _ (0 + n) _ (by rfl) hown3 wc.heap.size (some ⟨hbk, ho + (n + 1), none⟩) (hs.length - (n + 1)) (ch - (n + 1)) _ (by rfl) (app2_src HDr.out hg3) (encI_one _) (by simp only [maxLen]; omega) (by omega) ((append_below (w := wc.drew) rfl hg3).size) ?_
                       intro v4 w4 hown4 hg4 hat4
                       obtain ⟨A4, c4, rfl, _, _⟩ := own_shape hown4
                       have hb4 := Below.grown (w := w3) (below_undrew' (append_below (w := wc.drew) rfl hg3)) hg4 ((append_below (w := wc.drew) rfl hg3).size) (fun g hg => own_ge hown3 g hg)))
                  all_goals
                    go_wp2_with fail
                    go_meet
                    refine ⟨A4, c4, ?_, ?_, hb4⟩
                    · rw [HLE.out]
                      congr 1; omega
                    · have HQ := HES.out
                      rw [hX]
                      show World.ownsRow _ _ _ _ (.slice A4 (hs.eraseIdx n).length c4) (hs.eraseIdx n).length ((hs.eraseIdx n).flatMap encI)
                      rw [HQ, HLE.out]
                      rw [show hs.length - 1 = 0 + n + (hs.length - (n + 1)) by omega]
                      exact hown4
              case rest =>
                obtain ⟨A6, c6, rfl, oh, hb⟩ := hcut
                have xb := xb.below hb xb.lt
                have yb := yb.below hb yb.lt
                have o3 := o3.below hb
                have hB := hB.trans (hb.mono hB.size)
                have hX1 : X ≤ wc.heap.size := by rw [hX]; exact hb.size
                have hl6 : (hs.eraseIdx n).length ≤ 8 := by omega
                clear hb hX HO hch hcm l5 hle y0 y1 y2 y3 y4 y5 y6 y7 y8
                have ⟨x0, x1, x2, x3, x4, x5, x6, x7, x8⟩ := xb.c9
                have ⟨y0, y1, y2, y3, y4, y5, y6, y7, y8⟩ := yb.c9
                have xf := xb.frz
                have l1 := xb.lt
                have l2 := yb.lt
                obtain ⟨w7, hw7⟩ : ∃ w7, w7 = (World.setCell (World.setCell (World.setCell (World.setCell (World.setCell (World.setCell (World.setCell (World.setCell (World.setCell wc ⟨K7, 0, none⟩ (.slice a3.A D3.l.length a3.c)) ⟨K7, 1, none⟩ (.int .i64 D3.m0)) ⟨K7, 2, none⟩ (.int .i64 D3.m1)) ⟨K7, 3, none⟩ (.int .i64 D3.m2)) ⟨K7, 4, none⟩ (.int .i64 D3.m3)) ⟨K7, 5, none⟩ (.slice a3.Ag D3.g.length a3.cg)) ⟨K7, 6, none⟩ (.slice a3.Af D3.f.length a3.cf)) ⟨K7, 7, none⟩ (.slice a3.Aq D3.q.length a3.cq)) ⟨K7, 8, none⟩ (.slice a3.Am D3.m.length a3.cm)) := ⟨_, rfl⟩
                have xb7 : Blk w7 K7 67 #[.slice a3.A D3.l.length a3.c, .int .i64 D3.m0, .int .i64 D3.m1, .int .i64 D3.m2, .int .i64 D3.m3, .slice a3.Ag D3.g.length a3.cg, .slice a3.Af D3.f.length a3.cf, .slice a3.Aq D3.q.length a3.cq, .slice a3.Am D3.m.length a3.cm] := by rw [hw7]; exact xb.put9 _ _ _ _ _ _ _ _ _
                have o37 : OwW w7 0 a3 D3 := by rw [hw7]; exact o3.put9 xb (by decide) (by decide) (by decide) _ _ _ _ _ _ _ _ _
                have oh7 : OwI w7 X A6 c6 (hs.eraseIdx n) := by rw [hw7]; exact oh.put9 xb (by decide) _ _ _ _ _ _ _ _ _
                have hB7 : Below w.heap.size w w7 := by rw [hw7]; exact below_put9 hB hK _ _ _ _ _ _ _ _ _
                have hs7 : w7.heap.size = wc.heap.size := by rw [hw7]; exact size_put9 _ _ _ _ _ _ _ _ _
                rcases HC.out with ⟨hlt3, rfl, rfl, rfl⟩ | ⟨hge3, rfl, rfl, rfl⟩
                · have hng : ¬ (v : Int) ≤ (nx : Int) := by omega
                  have HE := Lib.hid (nodup_go (n := n) ND.out HLT.out)
                  obtain ⟨hs6, hh6⟩ : ∃ hs6, hs.eraseIdx n = hs6 := ⟨_, rfl⟩
                  rw [hh6] at HE HD3 oh7 hl6 hl3' ⊢
                  clear hh6 HC oh
                  go_wp2_with (at_builtin; refine Hid.out ?_)
                  unfold Hid
                  rw [← hw7, ← hs7]
                  obtain ⟨i0', hi, hz0, hz1, hz2⟩ := info_parts infoI
                  have hone : ∀ u ∈ [Value.int .i64 (nx : Int)], u.oneCell' = true := by simp [Value.oneCell']
                  have hcn := cells_new w7 w7.heap.size rfl [.int .i64 (nx : Int)] 3
                  have ow4 := oh7.alloc (.cells #[.int .i64 (nx : Int)] 3)
                  have rd4 : Reads (w7.alloc (.cells #[.int .i64 (nx : Int)] 3)) (w7.heap.size + 1) 1 (some ⟨w7.heap.size, 0, none⟩) 1 [.int .i64 (nx : Int)] := ⟨rfl, fun _ => ⟨_, rfl, Nat.lt_succ_self _, hcn⟩⟩
                  have xb := xb7.alloc (.cells #[.int .i64 (nx : Int)] 3)
                  have o1 := o37.alloc (.cells #[.int .i64 (nx : Int)] 3)
                  have hB := hB7.alloc hB7.size (.cells #[.int .i64 (nx : Int)] 3)
                  have hXz : X ≤ (w7.alloc (.cells #[.int .i64 (nx : Int)] 3)).heap.size := by simp; omega
                  refine wpList_append_any _ rfl (.tmp 125) (.tmp 127) _ rfl X 3 i0' _ 1 8 Try.underlying44 hi hz0 hz1 hz2 rfl (by omega) _ hs6.length (hs6.flatMap encI) rfl ow4 (w7.heap.size + 1) (some ⟨w7.heap.size, 0, none⟩) 1 1 [.int .i64 (nx : Int)] rfl rd4 hone (by simp only [maxLen]; omega) (by omega) hXz ?_
                  intro v5 w5 ow5 hg5 hat5
                  have hg5 : (w7.alloc (.cells #[.int .i64 (nx : Int)] 3)).grownBy w5 (Value.slice A6 hs6.length c6).ownBlock := hg5
                  have xb := xb.grown hg5 (fun e => own_blk_ne ow4 xb (by decide) e.symm)
                  have o1 := o1.grownL hg5 ltX (fun g hg => own_ge ow4 g hg)
                  have hB := hB.grown hg5 hB.size (fun g hg => by have := own_ge ow4 g hg; omega)
                  have hl5 : (hs6 ++ [(nx : Int)]).length = hs6.length + 1 := by simp
                  have hx5 : (hs6 ++ [(nx : Int)]).flatMap encI = hs6.flatMap encI ++ [.int .i64 (nx : Int)] := by simp [encI]
                  rw [← hl5, ← hx5] at ow5
                  obtain ⟨A5, c5, rfl, _, _⟩ := own_shape ow5
                  have oh : OwI w5 X A5 c5 (hs6 ++ [(nx : Int)]) := ow5
                  have hlen : (hs6 ++ [(nx : Int)]).length ≤ M := by rw [hl5]; omega
                  obtain ⟨hs9, hh9⟩ : ∃ hs9, hs6 ++ [(nx : Int)] = hs9 := ⟨_, rfl⟩
                  rw [hh9] at oh HE HD3 hlen
                  simp only [hh9]
                  clear ow5 ow4 rd4 hcn hone hg5 hat5 hi hz0 hz1 hz2 hl5 hx5 hh9 hw7 xb7 o37 oh7 hB7 x0 x1 x2 x3 x4 x5 x6 x7 x8 y0 y1 y2 y3 y4 y5 y6 y7 y8
                  go_wp2
                  go_roundw
                  case rel => exact ⟨j + 1, nx + 1, hs9, by omega, by go_num, by go_num, Lib.hid HE.out.1, Lib.hid HE.out.2, hlen, hB, a3, by rw [HD3.out]; exact xb, by rw [HD3.out]; exact o1, A5, c5, rfl, oh.more hX0⟩
                  case measure => simp [intOf]; omega
                · have hng : (v : Int) ≤ (nx3 : Int) := by omega
                  have HE := Lib.hid (nodup_end (n := n) ND.out HLT.out)
                  have hlen : (hs.eraseIdx n).length ≤ M := by omega
                  obtain ⟨hs6, hh6⟩ : ∃ hs6, hs.eraseIdx n = hs6 := ⟨_, rfl⟩
                  rw [hh6] at HE HD3 oh7 hlen ⊢
                  clear hh6 HC oh
                  go_wp2
                  go_roundw
                  case rel =>
                    rw [← hw7]
                    exact ⟨j + 1, nx3, hs6, by omega, by go_num, rfl, Lib.hid HE.out.1, Lib.hid HE.out.2, hlen, hB7, a3, by rw [HD3.out]; exact xb7, by rw [HD3.out]; exact o37, A6, c6, rfl, oh7.more hX0⟩
                  case measure => simp [intOf]; omega
        · obtain rfl : j = back.length := by omega
          go_wp2
          go_ret
          exact ⟨rfl, hB⟩
end Go.Proofs.Ytmcjgfoaiannoaa
