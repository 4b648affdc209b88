/-
  Contracts of the ledger small functions: slices.Clone of holds, Own, Count, New, SameHolds and SameLedger at equal ledgers. Conditions: the length bounds that the reach pays.
-/
import Derived.Test.YtmcjgfoaiannoaaProg
import Derived.Test.YtmcjgfoaiannoaaBase
import Derived.WalkSpells
import Derived.Deep.QuietTactic
import Derived.BigQuiet
namespace Go.Proofs.Ytmcjgfoaiannoaa
open Go.RowKit

def encH (h : Int × Int × Int) : List Value := [.int .i64 h.1, .int .i64 h.2.1, .int .i64 h.2.2]
theorem encH_len (h : Int × Int × Int) : (encH h).length = 3 := rfl
theorem encH_one (l : List (Int × Int × Int)) : ∀ u ∈ l.flatMap encH, u.oneCell' = true := by
  intro u hu
  obtain ⟨x, _, hx⟩ := List.mem_flatMap.1 hu
  simp [encH] at hx
  rcases hx with rfl | rfl | rfl <;> rfl
theorem infoH : (Try.prog.info? 27).map (fun i => (i.zero, i.size, i.bytes)) = some (some (.agg #[.int .i64 0, .int .i64 0, .int .i64 0]), 3, 24) := by kernel_rfl
theorem infoI : (Try.prog.info? 3).map (fun i => (i.zero, i.size, i.bytes)) = some (some (.int .i64 0), 1, 8) := by kernel_rfl

set_option maxHeartbeats 400000 in
theorem cloneH_any (A : Option Addr) (c : Nat) (l : List (Int × Int × Int)) (w : World) (hr : Rd 3 encH w w.heap.size A l) (hn : l.length * 24 ≤ 140737488355328) :
    Calls Try.prog 46 #[.slice A l.length c] w fun e w' => ∃ A' c', e = .returned (.slice A' l.length c') ∧ w'.ownsRow w.heap.size 27 3 (.slice A' l.length c') l.length (l.flatMap encH) ∧ Below w.heap.size w w' := by
  rcases A with _ | ad
  · have hl : l = [] := by
      rcases Nat.eq_zero_or_pos l.length with h | h
      · exact List.eq_nil_of_length_eq_zero h
      · obtain ⟨b, off, e, _⟩ := hr h
        cases e
    subst hl
    have hnn := fun (W : World) => Lib.run_eql_slice_nil (P := Try.prog) W 22 27 none 0 c 0 0 Try.underlying22
    go_enter Try.func46, Try.ntmps46
    go_wp2
    go_ret
    exact ⟨none, 0, rfl, World.ownsRow_nil _ _ _ _, Below.refl _ _⟩
  · have hnn := fun (W : World) => Lib.run_eql_slice_nil (P := Try.prog) W 22 27 (some ad) l.length c 0 0 Try.underlying22
    obtain ⟨i0, hi, hz0, hz1, hz2⟩ := info_parts infoH
    have hrd := hr.reads encH_len (by omega)
    have hb0 : (w.alloc (.cells #[] 27)).ownsRow w.heap.size 27 3 (.slice (some ⟨w.heap.size, 0, none⟩) 0 0) 0 [] :=
      ⟨rfl, .inr ⟨w.heap.size, 0, #[], rfl, Nat.le_refl _, heap_alloc_new _ _, Nat.le_refl _, by simp [maxLen], rfl, rfl⟩⟩
    have hrd' := (hrd.alloc (Nat.le_refl _) (.cells #[] 27))
    clear hrd hr
    go_enter Try.func46, Try.ntmps46
    go_wp2_with (at_builtin; refine wpList_append_any _ rfl (.tmp 5) (.tmp 6) _ rfl w.heap.size 27 i0 _ 3 24 Try.underlying22 hi hz0 hz1 hz2 rfl (by omega) _ 0 [] rfl hb0 w.heap.size (some ad) l.length c _ rfl hrd' (encH_one l) (by simp only [maxLen]; omega) (by omega) (by simp) ?_; intro v1 w1 hown1 hg1 hat1; simp only [Nat.zero_add, List.nil_append] at hown1)
    go_ret
    obtain ⟨A', c', rfl, _, _⟩ := own_shape hown1
    refine ⟨A', c', rfl, hown1, ((Below.refl _ _).alloc (Nat.le_refl _) _).grown hg1 (by simp) (fun g hg => ?_)⟩
    cases hg
    exact Nat.le_refl _

set_option maxHeartbeats 400000 in
theorem ownL_any (A : Option Addr) (c : Nat) (l : List (Int × Int × Int)) (m0 m1 m2 m3 : Int) (w : World) (hr : Rd 3 encH w w.heap.size A l) (hn : l.length * 24 ≤ 140737488355328) :
    Calls Try.prog 16 #[.agg #[.slice A l.length c, .int .i64 m0, .int .i64 m1, .int .i64 m2, .int .i64 m3]] w fun e w' =>
      ∃ A' c', e = .returned (.agg #[.slice A' l.length c', .int .i64 m0, .int .i64 m1, .int .i64 m2, .int .i64 m3]) ∧ w'.ownsRow w.heap.size 27 3 (.slice A' l.length c') l.length (l.flatMap encH) ∧ Below w.heap.size w w' := by
  go_enter Try.func16, Try.ntmps16
  go_wp2_with fail
  refine (cloneH_any A c l _ ((hr.alloc (Nat.le_refl _) _).alloc (by simp) _ |>.more (by simp; omega)) hn).mono ?_
  rintro e w1 ⟨A', c', rfl, hown, hb⟩
  have hz : w.heap.size + 1 < w1.heap.size := by have := hb.size; simp at this; omega
  have b0 := ((Blk.new w 25 _).alloc _).below hb (by simp; omega)
  have b1 := (Blk.new' (w.alloc _) (w.heap.size + 1) (by simp) 25 _).below hb (by simp)
  obtain ⟨k0, k1, k2, k3, k4⟩ := b0.c5
  obtain ⟨j0, j1, j2, j3, j4⟩ := b1.c5
  have f0 := b0.frz
  have f1 := b1.frz
  clear b0 b1
  go_wp2
  refine bodyPost_ret (v := .agg #[.slice A' l.length c', .int .i64 m0, .int .i64 m1, .int .i64 m2, .int .i64 m3]) (by simp only [results, Try.results16]; go_simp) rfl ⟨A', c', rfl, ?_, ?_⟩
  · simp only [World.size_alloc] at hown
    refine own_mono ?_ (Nat.le_trans (Nat.le_succ _) (Nat.le_succ _))
    iterate 6 refine ownsRow_setCell_below ?_ (by (try simp) <;> omega) _
    exact hown
  · have hB : Below w.heap.size w w1 := (((Below.refl _ w).alloc (Nat.le_refl _) _).alloc (by simp) _).trans (hb.mono (by simp; omega))
    iterate 6 refine Below.setCell ?_ (by (try simp) <;> omega) _
    exact hB

theorem ret_nat {k : IntKind} {a b : Nat} (h : a = b) : Ending.returned (.int k (a : Int)) = .returned (.int k (b : Int)) := by rw [h]
def countK (l : List (Int × Int × Int)) (k : Int) : Nat := (l.filter (fun h => h.2.1 == k)).length
theorem countK_le (l : List (Int × Int × Int)) (k : Int) : countK l k ≤ l.length := List.length_filter_le _ _
theorem countK_snoc (l : List (Int × Int × Int)) (h : Int × Int × Int) (k : Int) : countK (l ++ [h]) k = countK l k + if h.2.1 == k then 1 else 0 := by
  unfold countK
  rw [List.filter_append]
  by_cases hk : (h.2.1 == k) = true <;> simp [hk]

/-- the three cells of the element at k, in the walk's own spelling -/
theorem Rd.atH {w : World} {B : Nat} {A : Option Addr} {l : List (Int × Int × Int)} (h : Rd 3 encH w B A l) {i : Nat} (hi : i < l.length) : ∃ b off x y z, A = some ⟨b, off, none⟩ ∧ b < B ∧ l[i]? = some (x, y, z) ∧
    w.cell? ⟨b, off + i * 3, none⟩ = some (.int .i64 x) ∧ w.cell? ⟨b, off + i * 3 + 1, none⟩ = some (.int .i64 y) ∧ w.cell? ⟨b, off + i * 3 + 2, none⟩ = some (.int .i64 z) := by
  obtain ⟨b, off, ⟨x, y, z⟩, e, hb, hx, hc⟩ := h.at_ hi
  exact ⟨b, off, x, y, z, e, hb, hx, hc 0 _ rfl, hc 1 _ rfl, hc 2 _ rfl⟩

set_option maxHeartbeats 400000 in
theorem count_any (A : Option Addr) (c : Nat) (l : List (Int × Int × Int)) (m0 m1 m2 m3 kind : Int) (w : World) (hr : Rd 3 encH w w.heap.size A l) (hn : l.length ≤ 140737488355328) :
    Calls Try.prog 13 #[.agg #[.slice A l.length c, .int .i64 m0, .int .i64 m1, .int .i64 m2, .int .i64 m3], .int .i64 kind] w fun e w' => e = .returned (.int .i64 (countK l kind)) ∧ Below w.heap.size w w' := by
  go_enter Try.func13, Try.ntmps13
  go_wp2
  go_loopw [5, 11] (fun n i wr => ∃ k : Nat, k ≤ l.length ∧ i = .int .i64 k ∧ n = .int .i64 (countK (l.take k) kind) ∧ Below w.heap.size w wr ∧ w.heap.size < wr.heap.size)
    (fun _ i _ => l.length - (intOf i).toNat)
  case atStart => exact ⟨0, Nat.zero_le _, rfl, rfl, (Below.refl _ _).alloc (Nat.le_refl _) _, by simp⟩
  case round =>
    obtain ⟨k, hk, rfl, rfl, hb, hz⟩ := hrel
    by_cases hlt : k < l.length
    · obtain ⟨b, off, x, y, z, rfl, hbB, hx, c0, c1, c2⟩ := (hr.below hb).atH hlt
      have H1 := Lib.hid (countK_snoc (l.take k) (x, y, z) kind)
      have H2 := Lib.hid (take_snoc' hx)
      have hle := countK_le (l.take k) kind
      have hle2 : (l.take k).length ≤ k := List.length_take_le _ _
      clear hx
      by_cases ht : (y == kind) = true
      · go_wp2
        go_roundw
        case rel => exact ⟨k + 1, by omega, by go_num, by rw [H2.out, H1.out, if_pos ht]; rfl, hb.alloc (by omega) _, by simp; omega⟩
        case measure => simp [intOf]; omega
      · have ht' : (y == kind) = false := by simpa using ht
        have H3 := Lib.hid ht
        clear ht
        go_wp2
        go_roundw
        case rel => exact ⟨k + 1, by omega, by go_num, by rw [H2.out, H1.out, if_neg H3.out]; rfl, hb.alloc (by omega) _, by simp; omega⟩
        case measure => simp [intOf]; omega
    · obtain rfl : k = l.length := by omega
      go_wp2
      go_ret
      exact ⟨ret_nat (by rw [List.take_length]), hb⟩

theorem eq4' (n : Nat) (a b c d a' b' c' d' : Int) (w : World) : (Op.equalIn (n + 2) 23 (.agg #[.int .i64 a, .int .i64 b, .int .i64 c, .int .i64 d]) (.agg #[.int .i64 a', .int .i64 b', .int .i64 c', .int .i64 d'])).run Try.prog w = .ok (a == a' && (b == b' && (c == c' && d == d'))) w := by
  have hz : (sizeOf 3).run Try.prog w = .ok 1 w := by kernel_rfl
  rw [Op.equalIn]
  simp only [Sem.run_bind, run_underlying Try.underlying23, Result.andThen_ok, hz]
  have ha : (isAgg 3).run Try.prog w = .ok false w := by kernel_rfl
  have hr : List.range' 0 4 = [0, 1, 2, 3] := rfl
  simp only [Std.Legacy.Range.forIn_eq_forIn_range', Std.Legacy.Range.size, Nat.sub_zero, Nat.add_sub_cancel, Nat.div_one, hr, List.forIn_cons, List.forIn_nil]
  simp [part, ha, go_sem]
  cases h1 : (a == a') <;> cases h2 : (b == b') <;> cases h3 : (c == c') <;> cases h4 : (d == d') <;> simp_all
theorem eq4 (a b c d a' b' c' d' : Int) (w : World) : (Op.equalIn 10000 23 (.agg #[.int .i64 a, .int .i64 b, .int .i64 c, .int .i64 d]) (.agg #[.int .i64 a', .int .i64 b', .int .i64 c', .int .i64 d'])).run Try.prog w = .ok (a == a' && (b == b' && (c == c' && d == d'))) w := eq4' 9998 ..
/-- SameHolds of two slices that read as one list -/
theorem sameHolds_any (A A' : Option Addr) (c c' : Nat) (l : List (Int × Int × Int)) (w : World) (B : Nat) (hr : Rd 3 encH w B A l) (hr' : Rd 3 encH w B A' l) (hn : l.length ≤ 140737488355328) :
    Calls Try.prog 17 #[.slice A l.length c, .slice A' l.length c'] w fun e w' => e = .returned (.bool true) ∧ ∃ n, w' = w.drewN n := by
  go_enter Try.func17, Try.ntmps17
  go_wp2
  go_loopw [13] (fun i wr => ∃ k n : Nat, k ≤ l.length ∧ i = .int .i64 k ∧ wr = w.drewN n)
    (fun i _ => l.length - (intOf i).toNat)
  case atStart => exact ⟨0, 0, Nat.zero_le _, rfl, rfl⟩
  case round =>
    obtain ⟨k, n, hk, rfl, rfl⟩ := hrel
    by_cases hlt : k < l.length
    · obtain ⟨b, off, x, y, z, rfl, hbB, hx, c0, c1, c2⟩ := (hr.drewN n).atH hlt
      obtain ⟨b', off', x', y', z', rfl, hbB', hx', d0, d1, d2⟩ := (hr'.drewN n).atH hlt
      obtain ⟨rfl, rfl, rfl⟩ : x' = x ∧ y' = y ∧ z' = z := by rw [hx] at hx'; simpa [eq_comm] using hx'
      clear hx hx'
      obtain ⟨w2, hw2⟩ : ∃ w2, w2 = w.drewN n := ⟨_, rfl⟩
      rw [← hw2] at c0 c1 c2 d0 d1 d2 ⊢
      have HW := Lib.hid hw2
      clear hw2
      go_wp2
      go_quiet (fail)
      go_wp2
      go_roundw
      case rel => exact ⟨k + 1, n + nq, by omega, by go_num, by rw [HW.out, World.drewN_drewN]⟩
      case measure => simp [intOf]; omega
    · obtain rfl : k = l.length := by omega
      go_wp2
      go_ret
      exact ⟨rfl, n, rfl⟩

theorem newL_any (a b c : Int) (w : World) : Calls Try.prog 15 #[.int .i64 a, .int .i64 b, .int .i64 c] w fun e w' => e = .returned (.agg #[.slice none 0 0, .int .i64 0, .int .i64 a, .int .i64 b, .int .i64 c]) ∧ Below w.heap.size w w' := by
  go_enter Try.func15, Try.ntmps15
  go_wp2
  refine bodyPost_ret (v := .agg #[.slice none 0 0, .int .i64 0, .int .i64 a, .int .i64 b, .int .i64 c]) (by simp only [results, Try.results15]; go_simp) rfl ⟨rfl, ?_⟩
  exact (Below.refl _ _).alloc (Nat.le_refl _) _

set_option maxRecDepth 100000 in
theorem sameLedger_any (A A' : Option Addr) (c c' : Nat) (l : List (Int × Int × Int)) (m0 m1 m2 m3 : Int) (w : World) (hr : Rd 3 encH w w.heap.size A l) (hr' : Rd 3 encH w w.heap.size A' l) (hn : l.length ≤ 140737488355328) :
    Calls Try.prog 14 #[.agg #[.slice A l.length c, .int .i64 m0, .int .i64 m1, .int .i64 m2, .int .i64 m3], .agg #[.slice A' l.length c', .int .i64 m0, .int .i64 m1, .int .i64 m2, .int .i64 m3]] w fun e w' => e = .returned (.bool true) ∧ Below w.heap.size w w' := by
  have h4 := eq4
  go_enter Try.func14, Try.ntmps14
  go_wp2_with (go_at_call 17; refine (sameHolds_any A A' c c' l _ w.heap.size ((hr.alloc (Nat.le_refl _) _).alloc (by simp) _) ((hr'.alloc (Nat.le_refl _) _).alloc (by simp) _) hn).mono ?_; rintro e w' ⟨rfl, n, rfl⟩)
  go_ret
  exact ⟨rfl, below_drewN (((Below.refl _ w).alloc (Nat.le_refl _) _).alloc (by simp) _) _⟩
end Go.Proofs.Ytmcjgfoaiannoaa
