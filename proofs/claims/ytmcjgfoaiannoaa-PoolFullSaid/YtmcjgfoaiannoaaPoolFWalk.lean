/-
  PoolFull: the walk. No condition.
-/
import Derived.Test.YtmcjgfoaiannoaaPoolLaw
namespace Go.Proofs.Ytmcjgfoaiannoaa
open Go.RowKit

set_option maxRecDepth 100000 in
set_option maxHeartbeats 2000000 in
theorem poolFull_walk (most waits : Int) (w : World) :
    Calls Try.prog 10 #[.int .i64 most, .int .i64 waits] w fun e w' => e = .returned (.bool true) ∧ Below w.heap.size w w' := by
  go_enter Try.func10, Try.ntmps10
  go_wp2_with (go_at_call 36; refine Hid.out ?_)
  unfold Hid
  refine (poolAlive_any w).mono ?_
  rintro e w0 ⟨rfl, hB⟩
  by_cases h1 : most < 1
  · go_wp2
    go_ret
    exact ⟨rfl, hB⟩
  by_cases h2 : 8 < most
  · go_wp2
    go_ret
    exact ⟨rfl, hB⟩
  by_cases h3 : waits < 0
  · go_wp2
    go_ret
    exact ⟨rfl, hB⟩
  by_cases h4 : 8 < waits
  · go_wp2
    go_ret
    exact ⟨rfl, hB⟩
  obtain ⟨M, rfl⟩ : ∃ M : Nat, most = M := ⟨most.toNat, by omega⟩
  obtain ⟨v, rfl⟩ : ∃ v : Nat, waits = v := ⟨waits.toNat, by omega⟩
  have h1' : ¬ ((M : Int) < 1) := h1
  go_wp2_with (go_at_call 37; refine Hid.out ?_)
  unfold Hid
  refine (poolWorld_any M w0).mono ?_
  rintro e w1 ⟨rfl, hb⟩
  have hB := hB.trans (hb.mono hB.size)
  clear hb
  obtain ⟨K5, hK5⟩ : ∃ K5, K5 = w1.heap.size := ⟨_, rfl⟩
  obtain ⟨w2, hw2⟩ : ∃ w2, w2 = w1.alloc (.cells #[.slice none 0 0, .int .i64 0, .int .i64 9, .int .i64 M, .int .i64 9, .slice none 0 0, .slice none 0 0, .slice none 0 0, .slice none 0 0] 67) := ⟨_, rfl⟩
  go_wp2
  rw [← hK5, ← hw2]
  have xb : Blk w2 K5 67 #[.slice none 0 0, .int .i64 0, .int .i64 9, .int .i64 M, .int .i64 9, .slice none 0 0, .slice none 0 0, .slice none 0 0, .slice none 0 0] := by rw [hw2, hK5]; exact Blk.new _ _ _
  have hK : w.heap.size ≤ K5 := by rw [hK5]; exact hB.size
  have hB : Below w.heap.size w w2 := by rw [hw2]; exact hB.alloc hB.size _
  have x0 : wC wa0 (stP M 0) = #[.slice none 0 0, .int .i64 0, .int .i64 9, .int .i64 M, .int .i64 9, .slice none 0 0, .slice none 0 0, .slice none 0 0, .slice none 0 0] := by simp [wC, wa0, stP, wdM, idsF, queueF]
  clear hw2 hK5
  go_loopw [34] (fun i wr => ∃ k : Nat, k ≤ M + v ∧ i = .int .i64 k ∧ Below w.heap.size w wr ∧ ∃ a : WA, Blk wr K5 67 (wC a (stP M k)) ∧ OwW wr w.heap.size a (stP M k))
    (fun i _ => M + v - (intOf i).toNat)
  case atStart =>
    refine ⟨0, Nat.zero_le _, rfl, hB, wa0, by rw [x0]; exact xb, ?_⟩
    have e : stP M 0 = wdM M [] [] := by simp [stP, idsF, queueF]
    rw [e]
    exact ⟨Ow.nil_, World.ownsRow_nil _ _ _ _, World.ownsRow_nil _ _ _ _, World.ownsRow_nil _ _ _ _, World.ownsRow_nil _ _ _ _⟩
  case round =>
    clear xb hB x0
    obtain ⟨k, hk, rfl, hB, a, xb, o1⟩ := hrel
    have ⟨x0, x1, x2, x3, x4, x5, x6, x7, x8⟩ := xb.c9
    have l1 := xb.lt
    by_cases hlt : k < M + v
    · go_wp2_with (go_at_call 32; refine Hid.out ?_)
      unfold Hid
      have hc := poolAsk_any a (stP M k) k v wr o1.rd (stP_fit M k (by omega) (by omega))
      unfold AskOut at hc
      rw [ask_step M k v (by omega)] at hc
      refine hc.mono ?_
      clear hc o1
      rintro e w3 ⟨a1, rfl, o1, hb⟩
      obtain ⟨E, hE⟩ : ∃ E : Int, (if k < M then 0 else 10) = E := ⟨_, rfl⟩
      rw [hE]
      clear hE x0 x1 x2 x3 x4 x5 x6 x7 x8 l1
      have xb := xb.below hb xb.lt
      have o1 := o1.more hB.size
      have hB := hB.trans (hb.mono hB.size)
      obtain ⟨D, hD⟩ : ∃ D, stP M (k + 1) = D := ⟨_, rfl⟩
      rw [hD] at o1 ⊢
      simp only [wC] at xb
      have ⟨x0, x1, x2, x3, x4, x5, x6, x7, x8⟩ := xb.c9
      have xf := xb.frz
      have l1 := xb.lt
      simp only [wV]
      go_wp2
      go_roundw
      case rel =>
        refine ⟨k + 1, by omega, by go_num, (below_put9 hB hK _ _ _ _ _ _ _ _ _).alloc (by rw [size_put9]; exact hB.size) _, a1, ?_, ?_⟩
        · rw [hD]
          exact (xb.put9 _ _ _ _ _ _ _ _ _).alloc _
        · rw [hD]
          exact (o1.put9 xb (by decide) (by decide) (by decide) _ _ _ _ _ _ _ _ _).alloc _
      case measure => simp [intOf]; omega
    · obtain rfl : k = M + v := by omega
      have A1 := ask_full M v 99 (fun x hx => by have := idsF_mem M x hx; omega) (fun x hx => by have := queueF_mem M (M + v) x hx; omega)
      have A2 := ask_done M v (by omega) v
      have hf := stP_fit M (M + v) (by omega) (by omega)
      have hql : (stP M (M + v)).q.length = v := by show (queueF M (M + v)).length = v; rw [queueF_len]; omega
      have hll : (stP M (M + v)).l.length = M := by show ((idsF (min (M + v) M)).map hOf).length = M; rw [List.length_map, idsF_len]; omega
      obtain ⟨D, hD⟩ : ∃ D, stP M (M + v) = D := ⟨_, rfl⟩
      rw [hD] at A1 A2 hf hql hll o1 xb
      have HQ := Lib.hid hql
      have HL := Lib.hid hll
      have HA := Lib.hid A2
      simp only [wC] at xb
      clear hD hql hll A2 hlt hk x0 x1 x2 x3 x4 x5 x6 x7 x8 l1
      have ⟨x0, x1, x2, x3, x4, x5, x6, x7, x8⟩ := xb.c9
      have l1 := xb.lt
      go_wp2_with (go_at_call 32; refine Hid.out ?_)
      unfold Hid
      have hc := poolAsk_any a D 99 v wr o1.rd hf
      unfold AskOut at hc
      rw [A1] at hc
      refine hc.mono ?_
      clear hc A1
      rintro e w3 ⟨a1, rfl, -, hb⟩
      have xb := xb.below hb xb.lt
      have o1 := o1.below hb
      have hB := hB.trans (hb.mono hB.size)
      clear hb x0 x1 x2 x3 x4 x5 x6 x7 x8 l1
      have ⟨x0, x1, x2, x3, x4, x5, x6, x7, x8⟩ := xb.c9
      have l1 := xb.lt
      obtain ⟨K9, hK9⟩ : ∃ K9, K9 = w3.heap.size := ⟨_, rfl⟩
      obtain ⟨w4, hw4⟩ : ∃ w4, w4 = w3.alloc (.cells #[.slice a1.A 0 a1.c, .int .i64 0, .int .i64 0, .int .i64 0, .int .i64 0, .slice a1.Ag 0 a1.cg, .slice a1.Af 0 a1.cf, .slice a1.Aq 0 a1.cq, .slice a1.Am 0 a1.cm] 67) := ⟨_, rfl⟩
      simp only [wV, wd0, List.length_nil]
      go_wp2_with (go_at_call 32; refine Hid.out ?_)
      unfold Hid
      rw [← hK9, ← hw4]
      have yb : Blk w4 K9 67 #[.slice a1.A 0 a1.c, .int .i64 0, .int .i64 0, .int .i64 0, .int .i64 0, .slice a1.Ag 0 a1.cg, .slice a1.Af 0 a1.cf, .slice a1.Aq 0 a1.cq, .slice a1.Am 0 a1.cm] := by rw [hw4, hK9]; exact Blk.new _ _ _
      have xb : Blk w4 K5 67 #[.slice a.A D.l.length a.c, .int .i64 D.m0, .int .i64 D.m1, .int .i64 D.m2, .int .i64 D.m3, .slice a.Ag D.g.length a.cg, .slice a.Af D.f.length a.cf, .slice a.Aq D.q.length a.cq, .slice a.Am D.m.length a.cm] := by rw [hw4]; exact xb.alloc _
      have o1 : OwW w4 w.heap.size a D := by rw [hw4]; exact o1.alloc _
      have hB : Below w.heap.size w w4 := by rw [hw4]; exact hB.alloc hB.size _
      clear hK9 hw4 x0 x1 x2 x3 x4 x5 x6 x7 x8 l1
      have hc := poolAsk_any a D 0 v w4 o1.rd hf
      unfold AskOut at hc
      rw [HA.out] at hc
      refine hc.mono ?_
      clear hc HA
      rintro e w5 ⟨a2, rfl, -, hb⟩
      have xb := xb.below hb xb.lt
      have yb := yb.below hb yb.lt
      have hB := hB.trans (hb.mono hB.size)
      clear hb o1 hf
      rw [HQ.out, HL.out] at xb
      have ⟨x0, x1, x2, x3, x4, x5, x6, x7, x8⟩ := xb.c9
      have ⟨y0, y1, y2, y3, y4, y5, y6, y7, y8⟩ := yb.c9
      have l1 := xb.lt
      have l2 := yb.lt
      simp only [wV, wd0, List.length_nil]
      go_wp2
      go_ret
      exact ⟨rfl, hB.alloc hB.size _⟩
end Go.Proofs.Ytmcjgfoaiannoaa
