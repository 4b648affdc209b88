/-
  Trace, of watch and of the reference: an ask's calls, in turn. Condition: the length bound that the reach pays.
-/
import Derived.Test.YtmcjgfoaiannoaaWDat
namespace Go.Proofs.Ytmcjgfoaiannoaa
open Go.RowKit

def traceP (m : List (Int × Int × Int)) (id : Int) : List (Int × Int × Int) := m.filter (fun h => h.1 == id)
theorem traceP_len (m : List (Int × Int × Int)) (id : Int) : (traceP m id).length ≤ m.length := List.length_filter_le _ _
theorem traceP_yes {m : List (Int × Int × Int)} {id : Int} {h : Int × Int × Int} (hh : (h.1 == id) = true) : traceP (m ++ [h]) id = traceP m id ++ [h] := by
  simp only [traceP, List.filter_append]
  rw [List.filter_cons_of_pos (by simpa using hh), List.filter_nil]
theorem traceP_no {m : List (Int × Int × Int)} {id : Int} {h : Int × Int × Int} (hh : (h.1 == id) = false) : traceP (m ++ [h]) id = traceP m id := by
  simp only [traceP, List.filter_append]
  rw [List.filter_cons_of_neg (by simpa using hh), List.filter_nil, List.append_nil]
theorem FitS.m {d : SD} (h : FitS d) : d.D.m.length * 24 ≤ 140737488355328 := h.W.m

set_option maxRecDepth 100000 in
set_option maxHeartbeats 2000000 in
theorem trace_any (s : SA) (d : SD) (id : Int) (w : World) (hr : Rd 3 encH w w.heap.size s.a.Am d.D.m) (hn : d.D.m.length * 24 ≤ 140737488355328) :
    Calls Try.prog 38 #[sV s d, .int .i64 id] w fun e w' => ∃ A' c', e = .returned (.slice A' (traceP d.D.m id).length c') ∧ OwM w' w.heap.size A' c' (traceP d.D.m id) ∧ Below w.heap.size w w' := by
  obtain ⟨⟨a0, ag, af, aq, A, c0, cg, cf, cq, c⟩, AF, cF⟩ := s
  obtain ⟨⟨L, m0, m1, m2, m3, G, Fa, Q, m⟩, F, k0, k1, k2, fl, cn, wt, tm⟩ := d
  simp only at hr hn ⊢
  go_enter Try.func38, Try.ntmps38
  go_wp2
  obtain ⟨i0, hi, hz0', hz1', hz2'⟩ := info_parts infoM
  have HI := Lib.hid (And.intro hi (And.intro hz0' (And.intro hz1' hz2')))
  clear hi hz0' hz1' hz2'
  go_loopw [5, 12] (fun v i wr => ∃ k : Nat, ∃ A' c', k ≤ m.length ∧ i = .int .i64 k ∧ v = .slice A' (traceP (m.take k) id).length c' ∧ OwM wr w.heap.size A' c' (traceP (m.take k) id) ∧ Below w.heap.size w wr)
    (fun _ i _ => m.length - (intOf i).toNat)
  case atStart => exact ⟨0, none, 0, Nat.zero_le _, rfl, rfl, World.ownsRow_nil _ _ _ _, (Below.refl _ _).alloc (Nat.le_refl _) _⟩
  case round =>
    obtain ⟨k, A', c', hk, rfl, rfl, hO, hb⟩ := hrel
    by_cases hlt : k < m.length
    · obtain ⟨b, off, x, y, z, rfl, hbB, hx, d0, d1, d2⟩ := (hr.below hb).atH hlt
      have H2 := Lib.hid (take_snoc' hx)
      have hml := traceP_len (m.take k) id
      have hle2 : (m.take k).length ≤ k := List.length_take_le _ _
      clear hx
      by_cases ht : x = id
      · have ht' : (x == id) = true := by simpa using ht
        have H1 := Lib.hid (traceP_yes (m := m.take k) (id := id) (h := (x, y, z)) ht')
        clear ht
        have hO2 := (hO.alloc (.cells #[.int .i64 x, .int .i64 y, .int .i64 z] 82)).alloc (.cells #[.int .i64 x, .int .i64 y, .int .i64 z] 82)
        have hge := Lib.hid (own_ge hO)
        have hs := hb.size
        unfold OwM at hO2
        have hone : ∀ u ∈ encH (x, y, z), u.oneCell' = true := fun u hu => encH_one [(x, y, z)] u (by simpa using hu)
        have hcn := cells_new (wr.alloc (.cells #[.int .i64 x, .int .i64 y, .int .i64 z] 82)) (wr.heap.size + 1) (by simp) [.int .i64 x, .int .i64 y, .int .i64 z] 82
        obtain ⟨hi, hz0', hz1', hz2'⟩ := HI.out
        go_wp2_with (at_builtin; refine Hid.out ?_)
        unfold Hid
        refine wpList_append_own _ rfl (.tmp 20) (.tmp 22) 65 rfl w.heap.size 82 i0 _ 3 24 Try.underlying65 hi hz0' hz1' hz2' rfl (by decide) _ _ _ rfl hO2 ⟨wr.heap.size + 1, 0, none⟩ 1 1 (encH (x, y, z)) rfl rfl hcn hone (by simp only [maxLen]; omega) (by omega) (by simp; omega) ?_
        intro v5 w5 hown5 hg5 _
        obtain ⟨A5, c5, rfl, _, _⟩ := own_shape hown5
        have hB5 : Below w.heap.size w w5 := ((hb.alloc hs (.cells #[.int .i64 x, .int .i64 y, .int .i64 z] 82)).alloc (by simp; omega) (.cells #[.int .i64 x, .int .i64 y, .int .i64 z] 82)).grown hg5 (by simp; omega) (fun g hg => hge.out g hg)
        have he : (traceP (m.take (k + 1)) id).length = (traceP (m.take k) id).length + 1 := by rw [H2.out, H1.out]; simp
        have hO5 : OwM w5 w.heap.size A5 c5 (traceP (m.take (k + 1)) id) := by
          unfold OwM
          rw [he, H2.out, H1.out, List.flatMap_append]
          simpa using hown5
        have HE := Lib.hid he
        clear he hown5 hg5 hO2 hcn hone hge
        go_wp2
        go_roundw
        case rel => exact ⟨k + 1, A5, c5, by omega, by go_num, by rw [HE.out], hO5, hB5⟩
        case measure => simp [intOf]; omega
      · have ht' : (x == id) = false := by simpa using ht
        have H1 := Lib.hid (traceP_no (m := m.take k) (id := id) (h := (x, y, z)) ht')
        clear ht
        go_wp2
        go_roundw
        case rel => exact ⟨k + 1, A', c', by omega, by go_num, by rw [H2.out, H1.out], by rw [H2.out, H1.out]; exact hO.alloc _, hb.alloc hb.size _⟩
        case measure => simp [intOf]; omega
    · obtain rfl : k = m.length := by omega
      rw [List.take_length] at hO
      have HL := Lib.hid (List.take_length (l := m))
      go_wp2
      go_ret
      exact ⟨A', c', by show Ending.returned (Value.slice A' (traceP (List.take m.length m) id).length c') = _; rw [HL.out], hO, hb⟩
set_option maxRecDepth 100000 in
set_option maxHeartbeats 2000000 in
theorem rtrace_any (s : SA) (d : SD) (id : Int) (w : World) (hr : Rd 3 encH w w.heap.size s.a.Am d.D.m) (hn : d.D.m.length * 24 ≤ 140737488355328) :
    Calls Try.prog 39 #[sV s d, .int .i64 id] w fun e w' => ∃ A' c', e = .returned (.slice A' (traceP d.D.m id).length c') ∧ OwM w' w.heap.size A' c' (traceP d.D.m id) ∧ Below w.heap.size w w' := by
  obtain ⟨⟨a0, ag, af, aq, A, c0, cg, cf, cq, c⟩, AF, cF⟩ := s
  obtain ⟨⟨L, m0, m1, m2, m3, G, Fa, Q, m⟩, F, k0, k1, k2, fl, cn, wt, tm⟩ := d
  simp only at hr hn ⊢
  go_enter Try.func39, Try.ntmps39
  go_wp2
  obtain ⟨i0, hi, hz0', hz1', hz2'⟩ := info_parts infoM
  have HI := Lib.hid (And.intro hi (And.intro hz0' (And.intro hz1' hz2')))
  clear hi hz0' hz1' hz2'
  go_loopw [5, 12] (fun v i wr => ∃ k : Nat, ∃ A' c', k ≤ m.length ∧ i = .int .i64 k ∧ v = .slice A' (traceP (m.take k) id).length c' ∧ OwM wr w.heap.size A' c' (traceP (m.take k) id) ∧ Below w.heap.size w wr)
    (fun _ i _ => m.length - (intOf i).toNat)
  case atStart => exact ⟨0, none, 0, Nat.zero_le _, rfl, rfl, World.ownsRow_nil _ _ _ _, (Below.refl _ _).alloc (Nat.le_refl _) _⟩
  case round =>
    obtain ⟨k, A', c', hk, rfl, rfl, hO, hb⟩ := hrel
    by_cases hlt : k < m.length
    · obtain ⟨b, off, x, y, z, rfl, hbB, hx, d0, d1, d2⟩ := (hr.below hb).atH hlt
      have H2 := Lib.hid (take_snoc' hx)
      have hml := traceP_len (m.take k) id
      have hle2 : (m.take k).length ≤ k := List.length_take_le _ _
      clear hx
      by_cases ht : x = id
      · have ht' : (x == id) = true := by simpa using ht
        have H1 := Lib.hid (traceP_yes (m := m.take k) (id := id) (h := (x, y, z)) ht')
        clear ht
        have hO2 := (hO.alloc (.cells #[.int .i64 x, .int .i64 y, .int .i64 z] 82)).alloc (.cells #[.int .i64 x, .int .i64 y, .int .i64 z] 82)
        have hge := Lib.hid (own_ge hO)
        have hs := hb.size
        unfold OwM at hO2
        have hone : ∀ u ∈ encH (x, y, z), u.oneCell' = true := fun u hu => encH_one [(x, y, z)] u (by simpa using hu)
        have hcn := cells_new (wr.alloc (.cells #[.int .i64 x, .int .i64 y, .int .i64 z] 82)) (wr.heap.size + 1) (by simp) [.int .i64 x, .int .i64 y, .int .i64 z] 82
        obtain ⟨hi, hz0', hz1', hz2'⟩ := HI.out
        go_wp2_with (at_builtin; refine Hid.out ?_)
        unfold Hid
        refine wpList_append_own _ rfl (.tmp 20) (.tmp 22) 65 rfl w.heap.size 82 i0 _ 3 24 Try.underlying65 hi hz0' hz1' hz2' rfl (by decide) _ _ _ rfl hO2 ⟨wr.heap.size + 1, 0, none⟩ 1 1 (encH (x, y, z)) rfl rfl hcn hone (by simp only [maxLen]; omega) (by omega) (by simp; omega) ?_
        intro v5 w5 hown5 hg5 _
        obtain ⟨A5, c5, rfl, _, _⟩ := own_shape hown5
        have hB5 : Below w.heap.size w w5 := ((hb.alloc hs (.cells #[.int .i64 x, .int .i64 y, .int .i64 z] 82)).alloc (by simp; omega) (.cells #[.int .i64 x, .int .i64 y, .int .i64 z] 82)).grown hg5 (by simp; omega) (fun g hg => hge.out g hg)
        have he : (traceP (m.take (k + 1)) id).length = (traceP (m.take k) id).length + 1 := by rw [H2.out, H1.out]; simp
        have hO5 : OwM w5 w.heap.size A5 c5 (traceP (m.take (k + 1)) id) := by
          unfold OwM
          rw [he, H2.out, H1.out, List.flatMap_append]
          simpa using hown5
        have HE := Lib.hid he
        clear he hown5 hg5 hO2 hcn hone hge
        go_wp2
        go_roundw
        case rel => exact ⟨k + 1, A5, c5, by omega, by go_num, by rw [HE.out], hO5, hB5⟩
        case measure => simp [intOf]; omega
      · have ht' : (x == id) = false := by simpa using ht
        have H1 := Lib.hid (traceP_no (m := m.take k) (id := id) (h := (x, y, z)) ht')
        clear ht
        go_wp2
        go_roundw
        case rel => exact ⟨k + 1, A', c', by omega, by go_num, by rw [H2.out, H1.out], by rw [H2.out, H1.out]; exact hO.alloc _, hb.alloc hb.size _⟩
        case measure => simp [intOf]; omega
    · obtain rfl : k = m.length := by omega
      rw [List.take_length] at hO
      have HL := Lib.hid (List.take_length (l := m))
      go_wp2
      go_ret
      exact ⟨A', c', by show Ending.returned (Value.slice A' (traceP (List.take m.length m) id).length c') = _; rw [HL.out], hO, hb⟩
end Go.Proofs.Ytmcjgfoaiannoaa
