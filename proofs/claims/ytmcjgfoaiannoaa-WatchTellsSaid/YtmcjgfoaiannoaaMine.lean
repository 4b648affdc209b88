/-
  Mine of the reference: what an id holds, what it has taken last first. Condition: the length bound that the reach pays.
-/
import Derived.Test.YtmcjgfoaiannoaaAll
namespace Go.Proofs.Ytmcjgfoaiannoaa
open Go.RowKit

def mineP (l : List (Int × Int × Int)) (id : Int) : List (Int × Int × Int) := (l.filter (fun h => h.1 == id)).reverse
theorem mineP_yes {l : List (Int × Int × Int)} {id : Int} {h : Int × Int × Int} (hh : (h.1 == id) = true) : mineP (l ++ [h]) id = h :: mineP l id := by simp [mineP, List.filter_append, hh]
theorem mineP_no {l : List (Int × Int × Int)} {id : Int} {h : Int × Int × Int} (hh : (h.1 == id) = false) : mineP (l ++ [h]) id = mineP l id := by simp [mineP, List.filter_append, hh]
theorem mineP_len (l : List (Int × Int × Int)) (id : Int) : (mineP l id).length ≤ l.length := by simpa [mineP] using List.length_filter_le (fun h : Int × Int × Int => h.1 == id) l

set_option maxRecDepth 100000 in
set_option maxHeartbeats 1000000 in
theorem mine_any (A : Option Addr) (c : Nat) (l : List (Int × Int × Int)) (m0 m1 m2 m3 id : Int) (w : World) (hr : Rd 3 encH w w.heap.size A l) (hn : l.length * 24 ≤ 140737488355328) :
    Calls Try.prog 19 #[.agg #[.slice A l.length c, .int .i64 m0, .int .i64 m1, .int .i64 m2, .int .i64 m3], .int .i64 id] w fun e w' =>
      ∃ A' c', e = .returned (.slice A' (mineP l id).length c') ∧ Rd 3 encH w' w'.heap.size A' (mineP l id) ∧ Below w.heap.size w w' := by
  go_enter Try.func19, Try.ntmps19
  go_wp2
  obtain ⟨i0, hi, hz0', hz1', hz2'⟩ := info_parts infoH
  have HI := Lib.hid (And.intro hi (And.intro hz0' (And.intro hz1' hz2')))
  clear hi hz0' hz1' hz2'
  go_loopw [5, 11] (fun v i wr => ∃ k : Nat, k ≤ l.length ∧ i = .int .i64 k ∧ (∃ A' c', v = .slice A' (mineP (l.take k) id).length c' ∧ Rd 3 encH wr wr.heap.size A' (mineP (l.take k) id)) ∧ Below w.heap.size w wr ∧ w.heap.size < wr.heap.size)
    (fun _ i _ => l.length - (intOf i).toNat)
  case atStart => exact ⟨0, Nat.zero_le _, rfl, ⟨none, 0, rfl, Rd.nil_⟩, (Below.refl _ _).alloc (Nat.le_refl _) _, by simp⟩
  case round =>
    obtain ⟨k, hk, rfl, ⟨A', c', rfl, hR⟩, hb, hz⟩ := hrel
    by_cases hlt : k < l.length
    · obtain ⟨b, off, x, y, z, rfl, hbB, hx, c0, c1, c2⟩ := (hr.below hb).atH hlt
      have H2 := Lib.hid (take_snoc' hx)
      have hml := mineP_len (l.take k) id
      have hle2 : (l.take k).length ≤ k := List.length_take_le _ _
      clear hx
      obtain ⟨hi, hz0', hz1', hz2'⟩ := HI.out
      by_cases ht : x = id
      · have ht' : (x == id) = true := by simpa using ht
        have H1 := Lib.hid (mineP_yes (l := l.take k) (id := id) (h := (x, y, z)) ht')
        clear ht
        have hrd := (((hR.reads encH_len (by omega)).alloc (Nat.le_refl _) (.cells #[.int .i64 x, .int .i64 y, .int .i64 z] 27)).alloc (by simp) (.cells #[.int .i64 x, .int .i64 y, .int .i64 z] 27)).more (B' := wr.heap.size + 1) (by omega)
        have hb0 : ((wr.alloc (.cells #[.int .i64 x, .int .i64 y, .int .i64 z] 27)).alloc (.cells #[.int .i64 x, .int .i64 y, .int .i64 z] 27)).ownsRow (wr.heap.size + 1) 27 3 (.slice (some ⟨wr.heap.size + 1, 0, none⟩) 1 1) 1 (encH (x, y, z)) :=
          ⟨rfl, .inr ⟨wr.heap.size + 1, 1, #[.int .i64 x, .int .i64 y, .int .i64 z], rfl, Nat.le_refl _, Blk.new' _ _ (by simp) _ _, Nat.le_refl _, by simp [maxLen], rfl, rfl⟩⟩
        go_wp2_with (at_builtin; refine wpList_append_any _ rfl (.tmp 20) (.tmp 21) _ rfl (wr.heap.size + 1) 27 i0 _ 3 24 Try.underlying22 hi hz0' hz1' hz2' rfl (by omega) _ 1 _ rfl hb0 (wr.heap.size + 1) A' (mineP (l.take k) id).length c' _ rfl hrd (encH_one _) (by simp only [maxLen]; omega) (by omega) (by simp) ?_; intro v3 w3 hown3 hg3 hat3; obtain ⟨A3, c3, rfl, _, _⟩ := own_shape hown3)
        have he : (mineP (l.take (k + 1)) id).length = 1 + (mineP (l.take k) id).length := by rw [H2.out, H1.out]; simp; omega
        have hB3 : Below w.heap.size w w3 := ((hb.alloc (by omega) _).alloc (by simp; omega) _).grown hg3 (by simp; omega) (fun g hg => by cases hg; show w.heap.size ≤ wr.heap.size + 1; omega)
        have hR3 : Rd 3 encH w3 w3.heap.size A3 (mineP (l.take (k + 1)) id) := by
          refine Rd.of_own (base := wr.heap.size + 1) (e := 27) (c := c3) encH_len ?_
          rw [he, H2.out, H1.out, List.flatMap_cons]
          exact hown3
        have hz3 := hg3.size
        have HE := Lib.hid he
        clear he hown3 hg3 hat3 hrd hb0
        go_roundw
        case rel => exact ⟨k + 1, by omega, by go_num, ⟨A3, c3, by rw [HE.out], hR3⟩, hB3, by simp at hz3; omega⟩
        case measure => simp [intOf]; omega
      · have ht' : (x == id) = false := by simpa using ht
        have H1 := Lib.hid (mineP_no (l := l.take k) (id := id) (h := (x, y, z)) ht')
        clear ht
        go_wp2
        go_roundw
        case rel => exact ⟨k + 1, by omega, by go_num, ⟨A', c', by rw [H2.out, H1.out], by rw [H2.out, H1.out]; exact (hR.alloc (Nat.le_refl _) _).more (by simp)⟩, hb.alloc (by omega) _, by simp; omega⟩
        case measure => simp [intOf]; omega
    · obtain rfl : k = l.length := by omega
      rw [List.take_length] at hR
      have HL := Lib.hid (List.take_length (l := l))
      go_wp2
      go_ret
      exact ⟨A', c', by show Ending.returned (Value.slice A' (mineP (List.take l.length l) id).length c') = _; rw [HL.out], hR, hb⟩
end Go.Proofs.Ytmcjgfoaiannoaa
