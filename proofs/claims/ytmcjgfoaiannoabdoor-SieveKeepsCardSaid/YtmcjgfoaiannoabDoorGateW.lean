/-
  SieveGate: the closed fact and the walk. No condition.
-/
import Derived.Test.YtmcjgfoaiannoabDoorGate
namespace Go.Proofs.YtmcjgfoaiannoabDoor
open Go.RowKit

set_option maxRecDepth 100000 in
set_option maxHeartbeats 1000000 in
theorem retryAnswer (w : World) :
    Calls Tryd.prog 157 #[.agg #[.int .i64 2], .agg #[.int .i64 500, .string { data := #[] }, .slice none 0 0, .slice none 0 0], .int .i64 1] w fun e w' => e = .returned (.tuple #[.int .i64 6, .agg #[.int .i64 500, .string { data := #[] }, .slice none 0 0, .slice none 0 0]]) ∧ Below w.heap.size w w' := by
  go_enter Tryd.func157, Tryd.ntmps157
  go_wp2
  go_region
  all_goals go_wp2
  all_goals refine bodyPost_ret (v := .tuple #[.int .i64 6, .agg #[.int .i64 500, .string { data := #[] }, .slice none 0 0, .slice none 0 0]]) (by simp only [results, Tryd.results157]; go_simp) rfl ⟨rfl, ?_⟩
  all_goals repeat (first | exact Below.refl _ _ | refine Below.drew ?_ | refine Below.setCell ?_ (by show w.heap.size ≤ w.heap.size + 1 + 1; omega) _ | refine Below.alloc ?_ (by (try simp) <;> omega) _)
theorem method131 (most : Int) (w : World) : (method 344 131 (.agg #[.int .i64 most]) "Answer").run Tryd.prog w = .ok (157, .agg #[.int .i64 most]) w := by kernel_rfl
theorem ahead131 (most : Int) (w : World) : (nilAhead 344 131 (.agg #[.int .i64 most]) "Answer").run Tryd.prog w = .ok (some false) w := by kernel_rfl
set_option maxRecDepth 100000 in
set_option maxHeartbeats 2000000 in
theorem answerRetry (w : World) :
    Calls Tryd.prog 36 #[.agg #[.int .i64 6, .int .i64 2, .string { data := #[] }, .string { data := #[] }], .agg #[.int .i64 500, .string { data := #[] }, .slice none 0 0, .slice none 0 0], .int .i64 1] w fun e w' => e = .returned (.tuple #[.int .i64 6, .agg #[.int .i64 500, .string { data := #[] }, .slice none 0 0, .slice none 0 0]]) ∧ Below w.heap.size w w' := by
  have a1 := as131_95
  have hna := ahead131 2
  have hme := method131 2
  go_enter Tryd.func36, Tryd.ntmps36
  obtain ⟨w0, hw0⟩ : ∃ w0, w0 = (((w.alloc (.cells #[.int .i64 6, .int .i64 2, .string { data := #[] }, .string { data := #[] }] 38)).alloc (.cells #[.int .i64 500, .string { data := #[] }, .slice none 0 0, .slice none 0 0] 32)).alloc (.cells #[.int .i64 0, .string { data := #[] }, .slice none 0 0, .slice none 0 0] 32)).alloc (.cells #[.int .i64 6, .int .i64 2, .string { data := #[] }, .string { data := #[] }] 38) := ⟨_, rfl⟩
  go_upto_region 3 with (first | (go_at_call 62; go_in))
  rw [← hw0]
  have mb : Blk w0 (w.heap.size + 1) 32 #[.int .i64 500, .string { data := #[] }, .slice none 0 0, .slice none 0 0] := by rw [hw0]; exact (Blk.new' _ _ (by simp) _ _).alloc _ |>.alloc _
  have zb : Blk w0 (w.heap.size + 1 + 1) 32 #[.int .i64 0, .string { data := #[] }, .slice none 0 0, .slice none 0 0] := by rw [hw0]; exact (Blk.new' _ _ (by simp) _ _).alloc _
  have hB : Below w.heap.size w w0 := by rw [hw0]; exact ((((Below.refl _ w).alloc (Nat.le_refl _) _).alloc (by simp) _).alloc (by simp; omega) _).alloc (by simp; omega) _
  clear hw0
  go_cut [6] (fun d wx => d = .int .i64 6 ∧ Blk wx (w.heap.size + 1 + 1) 32 #[.int .i64 500, .string { data := #[] }, .slice none 0 0, .slice none 0 0] ∧ Below w.heap.size w wx)
  case first =>
    have k0 := mb.cell 0
    have k1 := mb.cell 1
    have k2 := mb.cell 2
    have k3 := mb.cell 3
    simp at k0 k1 k2 k3
    have l2 := mb.lt
    go_region_law (first
      | (go_simp
         with_reducible refine (own0_any 500 { data := #[] } _).mono ?_
         rintro e w1 ⟨rfl, hb⟩
         repeat (have hb := below_undrewB hb)
         have zb := zb.below hb zb.lt
         have hB := hB.trans (hb.mono hB.size))
      | (go_simp
         with_reducible refine (retryAnswer _).mono ?_
         rintro e w2 ⟨rfl, hb⟩
         have zb := zb.below hb zb.lt
         have hB := hB.trans (hb.mono hB.size)
         have j0 := zb.cell 0
         have j1 := zb.cell 1
         have j2 := zb.cell 2
         have j3 := zb.cell 3
         simp at j0 j1 j2 j3
         have zf := zb.frz
         have l3 := zb.lt))
    all_goals
      go_wp2_with fail
      go_meet
      refine ⟨rfl, ?_, ?_⟩
      · exact Blk.set_ (Blk.set_ (Blk.set_ (Blk.set_ zb 0 _) 1 _) 2 _) 3 _
      · iterate 4 refine Below.setCell ?_ (by show w.heap.size ≤ w.heap.size + 1 + 1; omega) _
        exact hB
  case rest =>
    obtain ⟨rfl, zb, hB⟩ := hcut
    have j0 := zb.cell 0
    have j1 := zb.cell 1
    have j2 := zb.cell 2
    have j3 := zb.cell 3
    simp at j0 j1 j2 j3
    go_wp2
    refine bodyPost_ret (v := .tuple #[.int .i64 6, .agg #[.int .i64 500, .string { data := #[] }, .slice none 0 0, .slice none 0 0]]) (by simp only [results, Tryd.results36]; go_simp) rfl ⟨rfl, hB⟩

set_option maxRecDepth 100000 in
set_option maxHeartbeats 2000000 in
theorem alive5_any (w : World) : Calls Tryd.prog 38 #[] w fun e w' => e = .returned (.bool true) ∧ Below w.heap.size w w' := by
  go_enter Tryd.func38, Tryd.ntmps38
  go_wp2_with (go_at_call 34; refine Hid.out ?_)
  unfold Hid
  refine (askGate_any 2 1 0 { data := #[] } { data := #[] } { data := #[47] } w (by omega) (by omega)).mono ?_
  rintro e w1 ⟨s, p, A, n, c, rfl, hsp, hB⟩
  obtain ⟨rfl, rfl⟩ := hsp (by omega)
  rw [show gateDo 2 1 = 0 by decide, show gateCt 2 1 = 2 by decide]
  clear hsp
  obtain ⟨K, hK⟩ : ∃ K, K = w1.heap.size := ⟨_, rfl⟩
  obtain ⟨w2, hw2⟩ : ∃ w2, w2 = w1.alloc (.cells #[.int .i64 0, .string { data := #[47] }, .slice none 0 0, .slice A n c] 32) := ⟨_, rfl⟩
  go_wp2_with (go_at_call 36; refine Hid.out ?_)
  unfold Hid
  rw [← hK, ← hw2]
  have xb : Blk w2 K 32 #[.int .i64 0, .string { data := #[47] }, .slice none 0 0, .slice A n c] := by rw [hw2, hK]; exact Blk.new _ _ _
  have hB : Below w.heap.size w w2 := by rw [hw2]; exact hB.alloc hB.size _
  clear hw2 hK
  refine (answerRetry w2).mono ?_
  rintro e w3 ⟨rfl, hb⟩
  have xb := xb.below hb xb.lt
  have hB := hB.trans (hb.mono hB.size)
  have k1 := xb.cell 1
  simp at k1
  have l1 := xb.lt
  go_wp2_with (first | (go_at_call 32; go_in))
  go_ret
  exact ⟨rfl, by repeat (first | exact hB | refine Below.alloc ?_ (by have := hB.size; (try simp) <;> omega) _)⟩

theorem gate_step (M k : Nat) : gateDo M (min M k : Nat) = (if k < M then 0 else 1) ∧ gateCt M (min M k : Nat) = (min M (k + 1) : Nat) := by
  unfold gateDo gateCt
  by_cases h : k < M
  · rw [if_pos h, if_pos (by omega), if_pos (by omega)]
    exact ⟨rfl, by omega⟩
  · rw [if_neg h, if_neg (by omega), if_neg (by omega)]
    exact ⟨rfl, by omega⟩
set_option maxRecDepth 100000 in
set_option maxHeartbeats 2000000 in
theorem sieveGate_walk (most asks : Int) (w : World) : Calls Tryd.prog 9 #[.int .i64 most, .int .i64 asks] w fun e w' => e = .returned (.bool true) ∧ Below w.heap.size w w' := by
  go_enter Tryd.func9, Tryd.ntmps9
  go_wp2_with (go_at_call 38; refine Hid.out ?_)
  unfold Hid
  refine (alive5_any w).mono ?_
  rintro e w0 ⟨rfl, hB⟩
  by_cases h1 : most < 0
  · go_wp2
    go_ret
    exact ⟨rfl, hB⟩
  by_cases h2 : 4 < most
  · go_wp2
    go_ret
    exact ⟨rfl, hB⟩
  by_cases h3 : asks < 0
  · go_wp2
    go_ret
    exact ⟨rfl, hB⟩
  by_cases h4 : 50 < asks
  · go_wp2
    go_ret
    exact ⟨rfl, hB⟩
  obtain ⟨M, rfl⟩ : ∃ M : Nat, most = M := ⟨most.toNat, by omega⟩
  obtain ⟨v, rfl⟩ : ∃ v : Nat, asks = v := ⟨asks.toNat, by omega⟩
  go_wp2
  go_loopw [5, 6, 27] (fun g t i wr => ∃ k : Nat, k ≤ v ∧ i = .int .i64 k ∧ g = .int .i64 (min M k : Nat) ∧ t = .int .i64 (min M k : Nat) ∧ Below w.heap.size w wr)
    (fun _ _ i _ => v - (intOf i).toNat)
  case atStart => exact ⟨0, Nat.zero_le _, rfl, by simp, by simp, hB⟩
  case round =>
    clear hB
    obtain ⟨k, hk, rfl, rfl, rfl, hB⟩ := hrel
    by_cases hlt : k < v
    · obtain ⟨G, hG⟩ : ∃ G, min M k = G := ⟨_, rfl⟩
      have hst := gate_step M k
      have hGM : G ≤ M := by omega
      rw [hG] at hst ⊢
      go_wp2_with (go_at_call 34; refine Hid.out ?_)
      unfold Hid
      have hc := askGate_any M G 0 { data := #[] } { data := #[] } { data := #[47] } wr (by omega) (by omega)
      rw [hst.1, hst.2] at hc
      refine hc.mono ?_
      clear hc hst
      rintro e w1 ⟨s, p, A, n, c, rfl, -, hb⟩
      have hB := hB.trans (hb.mono hB.size)
      clear hb
      by_cases hkM : k < M
      · rw [if_pos hkM]
        have hG1 : min M (k + 1) = G + 1 := by omega
        rw [hG1]
        go_wp2
        go_roundw
        case rel => exact ⟨k + 1, by omega, by go_num, by rw [hG1]; go_num, by rw [hG1]; go_num, hB.alloc hB.size _⟩
        case measure => simp [intOf]; omega
      · rw [if_neg hkM]
        have hG1 : min M (k + 1) = G := by omega
        rw [hG1]
        go_wp2
        go_roundw
        case rel => exact ⟨k + 1, by omega, by go_num, by rw [hG1], by rw [hG1], hB.alloc hB.size _⟩
        case measure => simp [intOf]; omega
    · obtain rfl : v = k := by omega
      go_wp2
      all_goals go_ret
      all_goals exact ⟨rfl, hB⟩
end Go.Proofs.YtmcjgfoaiannoabDoor
