/-
  The pool laws' world and their closed fact. No condition.
-/
import Derived.Test.YtmcjgfoaiannoaaPoolBack
import Derived.Test.YtmcjgfoaiannoaaPoolTWalk
namespace Go.Proofs.Ytmcjgfoaiannoaa
open Go.RowKit

/-- the pool laws' world: nobody is there -/
def wdM (most : Int) (l : List (Int × Int × Int)) (q : List Int) : WD := ⟨l, 0, 9, most, 9, [], [], q, []⟩
set_option maxRecDepth 100000 in
theorem poolWorld_any (most : Int) (w : World) :
    Calls Try.prog 37 #[.int .i64 most] w fun e w' => e = .returned (.agg #[.slice none 0 0, .int .i64 0, .int .i64 9, .int .i64 most, .int .i64 9, .slice none 0 0, .slice none 0 0, .slice none 0 0, .slice none 0 0]) ∧ Below w.heap.size w w' := by
  go_enter Try.func37, Try.ntmps37
  go_wp2
  refine bodyPost_ret (v := .agg #[.slice none 0 0, .int .i64 0, .int .i64 9, .int .i64 most, .int .i64 9, .slice none 0 0, .slice none 0 0, .slice none 0 0, .slice none 0 0]) (by simp only [results, Try.results37]; go_simp) rfl ⟨rfl, ?_⟩
  exact (Below.refl _ w).alloc (Nat.le_refl _) _

theorem field67_3 (a b c d e f g h i : Value) (w : World) : (Instr.field 67 (.agg #[a, b, c, d, e, f, g, h, i]) 3).run Try.prog w = .ok h w := by kernel_rfl
theorem alive_a : askP (wdM 1 [] []) 4 1 = (wdM 1 [(4, 2, -1)] [], 0) := by simp [askP, wdM, countK]
theorem alive_b : askP (wdM 1 [(4, 2, -1)] []) 5 1 = (wdM 1 [(4, 2, -1)] [5], 10) := by simp [askP, wdM, countK, leaseP]
theorem alive_c : backP (wdM 1 [(4, 2, -1)] [5]) 4 = (wdM 1 [(5, 2, -1)] [], 5, 0) := by rfl
theorem fitM (most : Int) (l : List (Int × Int × Int)) (q : List Int) (h1 : l.length ≤ 1000) (h2 : q.length ≤ 1000) : Fit (wdM most l q) := ⟨by simp [wdM]; omega, by simp [wdM], by simp [wdM], by simp [wdM]; omega, by simp [wdM]⟩

set_option maxRecDepth 100000 in
set_option maxHeartbeats 1000000 in
theorem poolAlive_any (w : World) : Calls Try.prog 36 #[] w fun e w' => e = .returned (.bool true) ∧ Below w.heap.size w w' := by
  go_enter Try.func36, Try.ntmps36
  go_wp2_with (go_at_call 37; refine Hid.out ?_)
  unfold Hid
  refine (poolWorld_any 1 w).mono ?_
  rintro e w1 ⟨rfl, hB⟩
  go_wp2_with (go_at_call 32; refine Hid.out ?_)
  unfold Hid
  have hc := poolAsk_any wa0 (wdM 1 [] []) 4 1 w1 ⟨Rd.nil_, Rd.nil_, Rd.nil_, Rd.nil_, Rd.nil_⟩ (fitM _ _ _ (by simp) (by simp))
  unfold AskOut at hc
  rw [alive_a] at hc
  refine hc.mono ?_
  clear hc
  rintro e w2 ⟨a1, rfl, o1, hb⟩
  have o1 := o1.more hB.size
  have hB := hB.trans (hb.mono hB.size)
  clear hb
  obtain ⟨K1, hK1⟩ : ∃ K1, K1 = w2.heap.size := ⟨_, rfl⟩
  obtain ⟨w3, hw3⟩ : ∃ w3, w3 = w2.alloc (.cells #[.slice a1.A 1 a1.c, .int .i64 0, .int .i64 9, .int .i64 1, .int .i64 9, .slice a1.Ag 0 a1.cg, .slice a1.Af 0 a1.cf, .slice a1.Aq 0 a1.cq, .slice a1.Am 0 a1.cm] 67) := ⟨_, rfl⟩
  simp only [wdM, wV]
  go_wp2_with (go_at_call 32; refine Hid.out ?_)
  unfold Hid
  rw [← hK1, ← hw3]
  have xb : Blk w3 K1 67 #[.slice a1.A 1 a1.c, .int .i64 0, .int .i64 9, .int .i64 1, .int .i64 9, .slice a1.Ag 0 a1.cg, .slice a1.Af 0 a1.cf, .slice a1.Aq 0 a1.cq, .slice a1.Am 0 a1.cm] := by rw [hw3, hK1]; exact Blk.new _ _ _
  have o1 : OwW w3 w.heap.size a1 (wdM 1 [(4, 2, -1)] []) := by rw [hw3]; exact o1.alloc _
  have hB : Below w.heap.size w w3 := by rw [hw3]; exact hB.alloc hB.size _
  clear hw3 hK1
  have hc := poolAsk_any a1 (wdM 1 [(4, 2, -1)] []) 5 1 w3 o1.rd (fitM _ _ _ (by simp) (by simp))
  unfold AskOut at hc
  rw [alive_b] at hc
  refine hc.mono ?_
  clear hc o1
  rintro e w4 ⟨a2, rfl, o2, hb⟩
  have xb := xb.below hb xb.lt
  have o2 := o2.more hB.size
  have hB := hB.trans (hb.mono hB.size)
  clear hb
  have ⟨x0, x1, x2, x3, x4, x5, x6, x7, x8⟩ := xb.c9
  have l1 := xb.lt
  obtain ⟨K3, hK3⟩ : ∃ K3, K3 = w4.heap.size := ⟨_, rfl⟩
  obtain ⟨w5, hw5⟩ : ∃ w5, w5 = w4.alloc (.cells #[.slice a2.A 1 a2.c, .int .i64 0, .int .i64 9, .int .i64 1, .int .i64 9, .slice a2.Ag 0 a2.cg, .slice a2.Af 0 a2.cf, .slice a2.Aq 1 a2.cq, .slice a2.Am 0 a2.cm] 67) := ⟨_, rfl⟩
  simp only [wdM, wV]
  go_wp2_with (go_at_call 34; refine Hid.out ?_)
  unfold Hid
  rw [← hK3, ← hw5]
  have yb : Blk w5 K3 67 #[.slice a2.A 1 a2.c, .int .i64 0, .int .i64 9, .int .i64 1, .int .i64 9, .slice a2.Ag 0 a2.cg, .slice a2.Af 0 a2.cf, .slice a2.Aq 1 a2.cq, .slice a2.Am 0 a2.cm] := by rw [hw5, hK3]; exact Blk.new _ _ _
  have o2 : OwW w5 w.heap.size a2 (wdM 1 [(4, 2, -1)] [5]) := by rw [hw5]; exact o2.alloc _
  have hB : Below w.heap.size w w5 := by rw [hw5]; exact hB.alloc hB.size _
  clear hw5 hK3 xb x0 x1 x2 x3 x4 x5 x6 x7 x8 l1
  have hc := poolBack_any a2 (wdM 1 [(4, 2, -1)] [5]) 4 w5 o2.rd (fitM _ _ _ (by simp) (by simp))
  unfold BackOut at hc
  rw [alive_c] at hc
  refine hc.mono ?_
  clear hc
  rintro e w6 ⟨a3, rfl, o3, hb⟩
  have yb := yb.below hb yb.lt
  have o2 := o2.below hb
  have hB := hB.trans (hb.mono hB.size)
  clear hb o3
  have ⟨y0, y1, y2, y3, y4, y5, y6, y7, y8⟩ := yb.c9
  have l2 := yb.lt
  obtain ⟨K5, hK5⟩ : ∃ K5, K5 = w6.heap.size := ⟨_, rfl⟩
  obtain ⟨w7, hw7⟩ : ∃ w7, w7 = w6.alloc (.cells #[.slice a3.A 1 a3.c, .int .i64 0, .int .i64 9, .int .i64 1, .int .i64 9, .slice a3.Ag 0 a3.cg, .slice a3.Af 0 a3.cf, .slice a3.Aq 0 a3.cq, .slice a3.Am 0 a3.cm] 67) := ⟨_, rfl⟩
  simp only [wdM, wV]
  go_wp2_with (go_at_call 31; refine Hid.out ?_)
  unfold Hid
  rw [← hK5, ← hw7]
  have o2 : OwW w7 w.heap.size a2 (wdM 1 [(4, 2, -1)] [5]) := by rw [hw7]; exact o2.alloc _
  have hB : Below w.heap.size w w7 := by rw [hw7]; exact hB.alloc hB.size _
  clear hw7 hK5 yb y0 y1 y2 y3 y4 y5 y6 y7 y8 l2
  refine (poolOwn_any a2 (wdM 1 [(4, 2, -1)] [5]) w7 o2.rd (fitM _ _ _ (by simp) (by simp))).mono ?_
  rintro e w8 ⟨a4, rfl, o4, _, hb⟩
  have hB := hB.trans (hb.mono hB.size)
  simp only [wdM, wV]
  have hfd := field67_3
  go_wp2
  go_ret
  exact ⟨rfl, hB⟩
end Go.Proofs.Ytmcjgfoaiannoaa
