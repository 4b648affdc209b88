/-
  The gate's Ask, and Ask of a gate. No condition.
-/
import Derived.Test.YtmcjgfoaiannoabDoorOwn0
import Derived.Laws.IdiomStrings
namespace Go.Proofs.YtmcjgfoaiannoabDoor
open Go.RowKit

set_option maxRecDepth 100000 in
set_option maxHeartbeats 1000000 in
theorem answer_gate (w : World) :
    Calls Tryd.prog 50 #[.int .i64 429, .string { data := #[103, 97, 116, 101] }] w fun e w' => ∃ A n c, e = .returned (.agg #[.int .i64 429, .string { data := #[] }, .slice none 0 0, .slice A n c]) ∧ Below w.heap.size w w' := by
  have hcv := fun (W : World) => run_bytes_of_string (P := Tryd.prog) W 9 30 5 { data := #[103, 97, 116, 101] } Tryd.underlying9 Tryd.underlying30 Tryd.underlying5
  go_enter Tryd.func50, Tryd.ntmps50
  go_wp2
  refine bodyPost_ret (v := .agg #[.int .i64 429, .string { data := #[] }, .slice none 0 0, .slice (some ⟨w.heap.size + 1, 0, none⟩) 4 (grownCap (w.alloc (.cells #[.int .i64 0, .string { data := #[] }, .slice none 0 0, .slice none 0 0] 32)) 4 0 5)]) (by simp only [results, Tryd.results50]; go_simp) rfl ⟨_, _, _, rfl, ?_⟩
  repeat (first | exact Below.refl _ _ | refine Below.drew ?_ | refine Below.setCell ?_ (Nat.le_refl _) _ | refine Below.alloc ?_ (by simp) _)
set_option maxRecDepth 100000 in
set_option maxHeartbeats 1000000 in
theorem gateAsk_let (most gate st : Int) (path : ByteArray) (w : World) (h : gate < most) (hg : gate < 1000000) (h0 : 0 ≤ gate) :
    Calls Tryd.prog 156 #[.agg #[.int .i64 most], .agg #[.int .i64 st, .string path, .slice none 0 0, .slice none 0 0], .int .i64 gate] w fun e w' => ∃ A n c, e = .returned (.tuple #[.int .i64 0, .agg #[.int .i64 st, .string path, .slice none 0 0, .slice A n c], .int .i64 (gate + 1)]) ∧ Below w.heap.size w w' := by
  have hwr : IntKind.i64.wrap (gate + 1) = gate + 1 := IntWalk.i64_in _ (by omega)
  go_enter Tryd.func156, Tryd.ntmps156
  go_wp2
  go_region
  all_goals
    go_wp2
    refine bodyPost_ret (v := .tuple #[.int .i64 0, .agg #[.int .i64 st, .string path, .slice none 0 0, .slice none 0 0], .int .i64 (gate + 1)]) (by simp only [results, Tryd.results156]; go_simp) rfl ⟨none, 0, 0, rfl, ?_⟩
    repeat (first | exact Below.refl _ _ | refine Below.drew ?_ | refine Below.setCell ?_ (by show w.heap.size ≤ w.heap.size + 1 + 1; omega) _ | refine Below.alloc ?_ (by (try simp) <;> omega) _)
set_option maxRecDepth 100000 in
set_option maxHeartbeats 1000000 in
theorem gateAsk_full (most gate st : Int) (path : ByteArray) (w : World) (h : most ≤ gate) :
    Calls Tryd.prog 156 #[.agg #[.int .i64 most], .agg #[.int .i64 st, .string path, .slice none 0 0, .slice none 0 0], .int .i64 gate] w fun e w' => ∃ A n c, e = .returned (.tuple #[.int .i64 1, .agg #[.int .i64 429, .string { data := #[] }, .slice none 0 0, .slice A n c], .int .i64 gate]) ∧ Below w.heap.size w w' := by
  go_enter Tryd.func156, Tryd.ntmps156
  obtain ⟨w0, hw0⟩ : ∃ w0, w0 = ((w.alloc (.cells #[.int .i64 most] 130)).alloc (.cells #[.int .i64 st, .string path, .slice none 0 0, .slice none 0 0] 32)).alloc (.cells #[.int .i64 0, .string { data := #[] }, .slice none 0 0, .slice none 0 0] 32) := ⟨_, rfl⟩
  go_wp2_with (go_at_call 50; refine Hid.out ?_)
  unfold Hid
  rw [← hw0]
  have zb : Blk w0 (w.heap.size + 1 + 1) 32 #[.int .i64 0, .string { data := #[] }, .slice none 0 0, .slice none 0 0] := by rw [hw0]; exact Blk.new' _ _ (by simp) _ _
  have hB : Below w.heap.size w w0 := by rw [hw0]; exact (((Below.refl _ w).alloc (Nat.le_refl _) _).alloc (by simp) _).alloc (by simp; omega) _
  clear hw0
  refine (answer_gate w0).mono ?_
  rintro e w1 ⟨A, n, c, rfl, hb⟩
  have zb := zb.below hb zb.lt
  have hB := hB.trans (hb.mono hB.size)
  clear hb
  have j0 := zb.cell 0
  have j1 := zb.cell 1
  have j2 := zb.cell 2
  have j3 := zb.cell 3
  simp at j0 j1 j2 j3
  have zf := zb.frz
  have l2 := zb.lt
  go_wp2
  refine bodyPost_ret (v := .tuple #[.int .i64 1, .agg #[.int .i64 429, .string { data := #[] }, .slice none 0 0, .slice A n c], .int .i64 gate]) (by simp only [results, Tryd.results156]; go_simp) rfl ⟨A, n, c, rfl, ?_⟩
  iterate 4 refine Below.setCell ?_ (by show w.heap.size ≤ w.heap.size + 1 + 1; omega) _
  exact hB
theorem method130 (most : Int) (w : World) : (method 344 130 (.agg #[.int .i64 most]) "Ask").run Tryd.prog w = .ok (156, .agg #[.int .i64 most]) w := by kernel_rfl
theorem ahead130 (most : Int) (w : World) : (nilAhead 344 130 (.agg #[.int .i64 most]) "Ask").run Tryd.prog w = .ok (some false) w := by kernel_rfl
/-- what a gate says, and its count then -/
theorem below_undrewB {w w' : World} (h : Below w.drew.heap.size w.drew w') : Below w.heap.size w w' := ⟨h.os, h.tape, h.output, h.size, h.block⟩
def gateDo (most gate : Int) : Int := if gate < most then 0 else 1
def gateCt (most gate : Int) : Int := if gate < most then gate + 1 else gate
set_option maxRecDepth 100000 in
set_option maxHeartbeats 1000000 in
theorem gateAsk_any (most gate st : Int) (path : ByteArray) (w : World) (hg : gate < 1000000) (h0 : 0 ≤ gate) :
    Calls Tryd.prog 156 #[.agg #[.int .i64 most], .agg #[.int .i64 st, .string path, .slice none 0 0, .slice none 0 0], .int .i64 gate] w fun e w' => ∃ s p A n c, e = .returned (.tuple #[.int .i64 (gateDo most gate), .agg #[.int .i64 s, .string p, .slice none 0 0, .slice A n c], .int .i64 (gateCt most gate)]) ∧ (gate < most → s = st ∧ p = path) ∧ Below w.heap.size w w' := by
  by_cases h : gate < most
  · refine (gateAsk_let most gate st path w h hg h0).mono ?_
    rintro e w' ⟨A, n, c, rfl, hb⟩
    exact ⟨_, _, A, n, c, by rw [gateDo, gateCt, if_pos h, if_pos h], fun _ => ⟨rfl, rfl⟩, hb⟩
  · refine (gateAsk_full most gate st path w (by omega)).mono ?_
    rintro e w' ⟨A, n, c, rfl, hb⟩
    exact ⟨_, _, A, n, c, by rw [gateDo, gateCt, if_neg h, if_neg h], fun h' => absurd h' h, hb⟩

set_option maxRecDepth 100000 in
set_option maxHeartbeats 2000000 in
theorem askGate_any (most gate st : Int) (key text path : ByteArray) (w : World) (hg : gate < 1000000) (h0 : 0 ≤ gate) :
    Calls Tryd.prog 34 #[.agg #[.int .i64 5, .int .i64 most, .string key, .string text], .agg #[.int .i64 st, .string path, .slice none 0 0, .slice none 0 0], .int .i64 gate] w fun e w' => ∃ s p A n c, e = .returned (.tuple #[.int .i64 (gateDo most gate), .agg #[.int .i64 s, .string p, .slice none 0 0, .slice A n c], .int .i64 (gateCt most gate)]) ∧ (gate < most → s = st ∧ p = path) ∧ Below w.heap.size w w' := by
  have a1 := as130_92
  have hna := ahead130 most
  have hme := method130 most
  obtain ⟨do_, hdo⟩ : ∃ d, gateDo most gate = d := ⟨_, rfl⟩
  obtain ⟨ct, hct⟩ : ∃ d, gateCt most gate = d := ⟨_, rfl⟩
  have hga := fun W => gateAsk_any most gate st path W hg h0
  rw [hdo, hct] at hga
  rw [hdo, hct]
  have HG := Lib.hid hga
  clear hdo hct hga
  go_enter Tryd.func34, Tryd.ntmps34
  obtain ⟨w0, hw0⟩ : ∃ w0, w0 = (((w.alloc (.cells #[.int .i64 5, .int .i64 most, .string key, .string text] 38)).alloc (.cells #[.int .i64 st, .string path, .slice none 0 0, .slice none 0 0] 32)).alloc (.cells #[.int .i64 0, .string { data := #[] }, .slice none 0 0, .slice none 0 0] 32)).alloc (.cells #[.int .i64 5, .int .i64 most, .string key, .string text] 38) := ⟨_, rfl⟩
  go_upto_region 3 with (first | (go_at_call 62; go_in))
  rw [← hw0]
  have mb : Blk w0 (w.heap.size + 1) 32 #[.int .i64 st, .string path, .slice none 0 0, .slice none 0 0] := by rw [hw0]; exact (Blk.new' _ _ (by simp) _ _).alloc _ |>.alloc _
  have zb : Blk w0 (w.heap.size + 1 + 1) 32 #[.int .i64 0, .string { data := #[] }, .slice none 0 0, .slice none 0 0] := by rw [hw0]; exact (Blk.new' _ _ (by simp) _ _).alloc _
  have hB : Below w.heap.size w w0 := by rw [hw0]; exact ((((Below.refl _ w).alloc (Nat.le_refl _) _).alloc (by simp) _).alloc (by simp; omega) _).alloc (by simp; omega) _
  clear hw0
  go_cut [6, 8] (fun d g wx => d = .int .i64 do_ ∧ g = .int .i64 ct ∧ ∃ s p A n c, Blk wx (w.heap.size + 1 + 1) 32 #[.int .i64 s, .string p, .slice none 0 0, .slice A n c] ∧ Hid (gate < most → s = st ∧ p = path) ∧ Below w.heap.size w wx)
  case first =>
    have k0 := mb.cell 0
    have k1 := mb.cell 1
    have k2 := mb.cell 2
    have k3 := mb.cell 3
    simp at k0 k1 k2 k3
    have l2 := mb.lt
    have hna := hna
    go_region_law (first
      | (go_simp
         with_reducible refine (own0_any st path _).mono ?_
         rintro e w1 ⟨rfl, hb⟩
         repeat (have hb := below_undrewB hb)
         have zb := zb.below hb zb.lt
         have hB := hB.trans (hb.mono hB.size))
      | (go_simp
         with_reducible refine (HG.out _).mono ?_
         rintro e w2 ⟨s, p, A, n, c, rfl, hsp, hb⟩
         have HSP := Lib.hid hsp
         clear hsp
         have zb := zb.below hb zb.lt
         have hB := hB.trans (hb.mono hB.size)
         have j0 := zb.cell 0
         have j1 := zb.cell 1
         have j2 := zb.cell 2
         have j3 := zb.cell 3
         simp at j0 j1 j2 j3
         have zf := zb.frz
         have l3 := zb.lt))
    all_goals
      go_wp2_with fail
      go_meet
      refine ⟨rfl, rfl, s, p, A, n, c, ?_, HSP, ?_⟩
      · exact Blk.set_ (Blk.set_ (Blk.set_ (Blk.set_ zb 0 _) 1 _) 2 _) 3 _
      · iterate 4 refine Below.setCell ?_ (by show w.heap.size ≤ w.heap.size + 1 + 1; omega) _
        exact hB
  case rest =>
    obtain ⟨rfl, rfl, s, p, A, n, c, zb, HSP, hB⟩ := hcut
    have j0 := zb.cell 0
    have j1 := zb.cell 1
    have j2 := zb.cell 2
    have j3 := zb.cell 3
    simp at j0 j1 j2 j3
    go_wp2
    refine bodyPost_ret (v := .tuple #[.int .i64 do_, .agg #[.int .i64 s, .string p, .slice none 0 0, .slice A n c], .int .i64 ct]) (by simp only [results, Tryd.results34]; go_simp) rfl ⟨s, p, A, n, c, rfl, HSP.out, hB⟩
end Go.Proofs.YtmcjgfoaiannoabDoor
