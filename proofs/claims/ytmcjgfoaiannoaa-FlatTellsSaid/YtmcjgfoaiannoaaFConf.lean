/-
  The reference's WrongConf: it comes back, and of a right conf each filter is right. Condition: no string is longer than any may be.
-/
import Derived.Test.YtmcjgfoaiannoaaFStr
namespace Go.Proofs.Ytmcjgfoaiannoaa
open Go.RowKit

structure Sv where
  k : Int
  n : Int
  key : ByteArray
  text : ByteArray
  hk : key.size ≤ maxLen
  ht : text.size ≤ maxLen
structure Up where
  path : ByteArray
  st : Int
  text : ByteArray
  fails : Int
  hp : path.size ≤ maxLen
  ht : text.size ≤ maxLen
structure Bd where
  id : Int
  filter : Int
  call : Int
  do_ : Int
  text : ByteArray
  ht : text.size ≤ maxLen
def encS (x : Sv) : List Value := [.int .i64 x.k, .int .i64 x.n, .string x.key, .string x.text]
def encU (x : Up) : List Value := [.string x.path, .int .i64 x.st, .string x.text, .int .i64 x.fails]
def encB (x : Bd) : List Value := [.int .i64 x.id, .int .i64 x.filter, .int .i64 x.call, .int .i64 x.do_, .string x.text]
theorem Rd.atS {w : World} {B : Nat} {A : Option Addr} {l : List Sv} (h : Rd 4 encS w B A l) {i : Nat} (hi : i < l.length) : ∃ b off x, A = some ⟨b, off, none⟩ ∧ b < B ∧ l[i]? = some x ∧
    w.cell? ⟨b, off + i * 4, none⟩ = some (.int .i64 x.k) ∧ w.cell? ⟨b, off + i * 4 + 1, none⟩ = some (.int .i64 x.n) ∧ w.cell? ⟨b, off + i * 4 + 2, none⟩ = some (.string x.key) ∧ w.cell? ⟨b, off + i * 4 + 3, none⟩ = some (.string x.text) := by
  obtain ⟨b, off, x, e, hb, hx, hc⟩ := h.at_ hi
  exact ⟨b, off, x, e, hb, hx, hc 0 _ rfl, hc 1 _ rfl, hc 2 _ rfl, hc 3 _ rfl⟩
theorem Rd.atU {w : World} {B : Nat} {A : Option Addr} {l : List Up} (h : Rd 4 encU w B A l) {i : Nat} (hi : i < l.length) : ∃ b off x, A = some ⟨b, off, none⟩ ∧ b < B ∧ l[i]? = some x ∧
    w.cell? ⟨b, off + i * 4, none⟩ = some (.string x.path) ∧ w.cell? ⟨b, off + i * 4 + 1, none⟩ = some (.int .i64 x.st) ∧ w.cell? ⟨b, off + i * 4 + 2, none⟩ = some (.string x.text) ∧ w.cell? ⟨b, off + i * 4 + 3, none⟩ = some (.int .i64 x.fails) := by
  obtain ⟨b, off, x, e, hb, hx, hc⟩ := h.at_ hi
  exact ⟨b, off, x, e, hb, hx, hc 0 _ rfl, hc 1 _ rfl, hc 2 _ rfl, hc 3 _ rfl⟩
theorem Rd.atB {w : World} {B : Nat} {A : Option Addr} {l : List Bd} (h : Rd 5 encB w B A l) {i : Nat} (hi : i < l.length) : ∃ b off x, A = some ⟨b, off, none⟩ ∧ b < B ∧ l[i]? = some x ∧
    w.cell? ⟨b, off + i * 5, none⟩ = some (.int .i64 x.id) ∧ w.cell? ⟨b, off + i * 5 + 1, none⟩ = some (.int .i64 x.filter) ∧ w.cell? ⟨b, off + i * 5 + 2, none⟩ = some (.int .i64 x.call) ∧ w.cell? ⟨b, off + i * 5 + 3, none⟩ = some (.int .i64 x.do_) ∧ w.cell? ⟨b, off + i * 5 + 4, none⟩ = some (.string x.text) := by
  obtain ⟨b, off, x, e, hb, hx, hc⟩ := h.at_ hi
  exact ⟨b, off, x, e, hb, hx, hc 0 _ rfl, hc 1 _ rfl, hc 2 _ rfl, hc 3 _ rfl, hc 4 _ rfl⟩

theorem take_snocS {α : Type} {l : List α} {k : Nat} {x : α} (h : l[k]? = some x) : l.take (k + 1) = l.take k ++ [x] := take_snoc' h
def OkL (l : List Sv) : Prop := l.length ≤ 6 ∧ ∀ x ∈ l, OkS x.k x.n
/-- it comes back; if it says that nothing is wrong, each filter is right -/
def ConfOut (l : List Sv) (w : World) (e : Ending) (w' : World) : Prop := (∃ x k : Int, e = .returned (.tuple #[.int .i64 x, .int .i64 k]) ∧ (x = 0 → OkL l)) ∧ Below w.heap.size w w'
theorem confOut {l : List Sv} {w w' : World} {e : Ending} (x k : Int) (h : e = .returned (.tuple #[.int .i64 x, .int .i64 k])) (h0 : x = 0 → OkL l) (hb : Below w.heap.size w w') : ConfOut l w e w' := ⟨⟨x, k, h, h0⟩, hb⟩

set_option maxRecDepth 100000 in
set_option maxHeartbeats 4000000 in
theorem wrongConf_any (A1 A2 A3 : Option Addr) (c1 c2 c3 : Nat) (l1 : List Sv) (l2 : List Up) (l3 : List Bd) (fl cn wt tm : Int) (w : World) (r1 : Rd 4 encS w w.heap.size A1 l1) (r2 : Rd 4 encU w w.heap.size A2 l2) (r3 : Rd 5 encB w w.heap.size A3 l3) :
    Calls Try.prog 26 #[.agg #[.slice A1 l1.length c1, .slice A2 l2.length c2, .slice A3 l3.length c3, .int .i64 fl, .int .i64 cn, .int .i64 wt, .int .i64 tm]] w (ConfOut l1 w) := by
  go_enter Try.func26, Try.ntmps26
  obtain ⟨w0, hw0⟩ : ∃ w0, w0 = w.alloc (.cells #[.slice A1 l1.length c1, .slice A2 l2.length c2, .slice A3 l3.length c3, .int .i64 fl, .int .i64 cn, .int .i64 wt, .int .i64 tm] 50) := ⟨_, rfl⟩
  have bb : Blk w0 w.heap.size 50 #[.slice A1 l1.length c1, .slice A2 l2.length c2, .slice A3 l3.length c3, .int .i64 fl, .int .i64 cn, .int .i64 wt, .int .i64 tm] := by rw [hw0]; exact Blk.new _ _ _
  have hB : Below w.heap.size w w0 := by rw [hw0]; exact (Below.refl _ w).alloc (Nat.le_refl _) _
  by_cases h1 : 6 < l1.length
  · have h1' : (6 : Int) < (l1.length : Int) := by omega
    go_wp2
    rw [← hw0]
    refine bodyPost_ret (v := .tuple #[.int .i64 5, .int .i64 (-1)]) (by simp only [results, Try.results26]; go_simp) rfl (confOut 5 (-1) rfl (by omega) hB)
  by_cases h2 : 4 < l2.length
  · have h1' : ¬ (6 : Int) < (l1.length : Int) := by omega
    have h2' : (4 : Int) < (l2.length : Int) := by omega
    go_wp2
    rw [← hw0]
    refine bodyPost_ret (v := .tuple #[.int .i64 5, .int .i64 (-1)]) (by simp only [results, Try.results26]; go_simp) rfl (confOut 5 (-1) rfl (by omega) hB)
  by_cases h3 : 8 < l3.length
  · have h1' : ¬ (6 : Int) < (l1.length : Int) := by omega
    have h2' : ¬ (4 : Int) < (l2.length : Int) := by omega
    have h3' : (8 : Int) < (l3.length : Int) := by omega
    go_wp2
    rw [← hw0]
    refine bodyPost_ret (v := .tuple #[.int .i64 5, .int .i64 (-1)]) (by simp only [results, Try.results26]; go_simp) rfl (confOut 5 (-1) rfl (by omega) hB)
  have h1' : (l1.length : Int) ≤ 6 := by omega
  have h2' : (l2.length : Int) ≤ 4 := by omega
  have h3' : (l3.length : Int) ≤ 8 := by omega
  obtain ⟨w1, hw1⟩ : ∃ w1, w1 = w0.alloc (.cells #[.int .i64 fl, .int .i64 0, .int .i64 cn, .int .i64 1, .int .i64 wt, .int .i64 0, .int .i64 tm, .int .i64 0] 93) := ⟨_, rfl⟩
  obtain ⟨K, hK⟩ : ∃ K, K = w.heap.size + 1 := ⟨_, rfl⟩
  have pb : Blk w1 K 93 #[.int .i64 fl, .int .i64 0, .int .i64 cn, .int .i64 1, .int .i64 wt, .int .i64 0, .int .i64 tm, .int .i64 0] := by rw [hw1, hK]; exact Blk.new' _ _ (by rw [hw0]; simp) _ _
  have bb1 : Blk w1 w.heap.size 50 #[.slice A1 l1.length c1, .slice A2 l2.length c2, .slice A3 l3.length c3, .int .i64 fl, .int .i64 cn, .int .i64 wt, .int .i64 tm] := by rw [hw1]; exact bb.alloc _
  have hB1 : Below w.heap.size w w1 := by rw [hw1]; exact hB.alloc hB.size _
  go_wp2
  rw [← hw0, ← hw1]
  rw [← hK]
  clear hw1 hw0 hK bb hB
  go_loopw [43] (fun i wr => ∃ k : Nat, k ≤ 4 ∧ i = .int .i64 k ∧ Below w.heap.size w wr ∧ Blk wr w.heap.size 50 #[.slice A1 l1.length c1, .slice A2 l2.length c2, .slice A3 l3.length c3, .int .i64 fl, .int .i64 cn, .int .i64 wt, .int .i64 tm] ∧ Blk wr K 93 #[.int .i64 fl, .int .i64 0, .int .i64 cn, .int .i64 1, .int .i64 wt, .int .i64 0, .int .i64 tm, .int .i64 0])
    (fun i _ => 4 - (intOf i).toNat)
  case atStart => exact ⟨0, by omega, rfl, hB1, bb1, pb⟩
  case round =>
    clear hB1 bb1 pb
    obtain ⟨k, hk, rfl, hB, bb, pb⟩ := hrel
    have l0 := pb.lt
    by_cases hlt : k < 4
    · have d0 := pb.cell 0
      have d1 := pb.cell 1
      have d2 := pb.cell 2
      have d3 := pb.cell 3
      have d4 := pb.cell 4
      have d5 := pb.cell 5
      have d6 := pb.cell 6
      have d7 := pb.cell 7
      simp at d0 d1 d2 d3 d4 d5 d6 d7
      have h4 : k = 0 ∨ k = 1 ∨ k = 2 ∨ k = 3 := by omega
      clear hk hlt
      rcases h4 with rfl | rfl | rfl | rfl
      all_goals
        go_wp2
        all_goals first
          | (refine bodyPost_ret (v := .tuple #[.int .i64 3, .int .i64 (-1)]) (by simp only [results, Try.results26]; go_simp) rfl (confOut 3 (-1) rfl (by omega) ?_)
             exact hB.alloc hB.size _)
          | (go_roundw
             case rel =>
               first
               | exact ⟨1, by omega, by go_num, hB.alloc hB.size _, bb.alloc _, pb.alloc _⟩
               | exact ⟨2, by omega, by go_num, hB.alloc hB.size _, bb.alloc _, pb.alloc _⟩
               | exact ⟨3, by omega, by go_num, hB.alloc hB.size _, bb.alloc _, pb.alloc _⟩
               | exact ⟨4, by omega, by go_num, hB.alloc hB.size _, bb.alloc _, pb.alloc _⟩
             case measure => simp [intOf])
    · have hk4 : 4 ≤ k := by omega
      clear hk hlt pb l0
      have ⟨k0, k1, k2, k3, k4, k5, k6⟩ := bb.c7
      have l1_ := bb.lt
      go_wp2
      go_loopw [61] (fun i ws => ∃ j : Nat, j ≤ l1.length ∧ i = .int .i64 j ∧ Below w.heap.size w ws ∧ Blk ws w.heap.size 50 #[.slice A1 l1.length c1, .slice A2 l2.length c2, .slice A3 l3.length c3, .int .i64 fl, .int .i64 cn, .int .i64 wt, .int .i64 tm] ∧ Hid (∀ x ∈ l1.take j, OkS x.k x.n))
        (fun i _ => l1.length - (intOf i).toNat)
      case atStart => exact ⟨0, by omega, rfl, hB, bb, Lib.hid (by simp)⟩
      case round =>
        clear hB bb k0 k1 k2 k3 k4 k5 k6 l1_
        obtain ⟨j, hj, rfl, hB, bb, HO⟩ := hrel
        by_cases hlt : j < l1.length
        · obtain ⟨b, off, x, rfl, hbB, hx, d0, d1, d2, d3⟩ := (r1.below hB).atS hlt
          have HX := Lib.hid (take_snocS hx)
          clear hx
          obtain ⟨wq, hwq⟩ : ∃ wq, wq = wr.alloc (.cells #[.int .i64 x.k, .int .i64 x.n, .string x.key, .string x.text] 60) := ⟨_, rfl⟩
          go_wp2_with (go_at_call 49; refine Hid.out ?_)
          unfold Hid
          rw [← hwq]
          have bb : Blk wq w.heap.size 50 #[.slice (some ⟨b, off, none⟩) l1.length c1, .slice A2 l2.length c2, .slice A3 l3.length c3, .int .i64 fl, .int .i64 cn, .int .i64 wt, .int .i64 tm] := by rw [hwq]; exact bb.alloc _
          have hB : Below w.heap.size w wq := by rw [hwq]; exact hB.alloc hB.size _
          clear hwq d0 d1 d2 d3
          refine (wrongSieve_any x.k x.n x.key x.text x.hk x.ht wq).mono ?_
          rintro e w2 ⟨⟨y, rfl, hy⟩, hb⟩
          have bb := bb.below hb bb.lt
          have hB := hB.trans (hb.mono hB.size)
          have HY := Lib.hid hy
          clear hy hb
          by_cases hy0 : y = 0
          · subst hy0
            go_wp2
            go_roundw
            case rel => exact ⟨j + 1, by omega, by go_num, hB, bb, Lib.hid (by
              rw [HX.out]
              intro z hz
              rcases List.mem_append.1 hz with hz | hz
              · exact HO.out z hz
              · simp at hz
                subst hz
                exact HY.out (by first | rfl | trivial))⟩
            case measure => simp [intOf]; omega
          · have hy1 : (y == 0) = false := by simpa using hy0
            go_wp2
            refine bodyPost_ret (v := .tuple #[.int .i64 y, .int .i64 j]) (by simp only [results, Try.results26]; go_simp) rfl (confOut y j rfl (fun h => absurd h hy0) hB)
        · obtain rfl : j = l1.length := by omega
          have HOK := Lib.hid (show OkL l1 from ⟨by omega, by have := HO.out; rwa [List.take_length] at this⟩)
          clear HO hj hlt
          have ⟨k0, k1, k2, k3, k4, k5, k6⟩ := bb.c7
          have l1_ := bb.lt
          go_wp2
          go_loopw [76] (fun i ws => ∃ j : Nat, j ≤ l2.length ∧ i = .int .i64 j ∧ Below w.heap.size w ws ∧ Blk ws w.heap.size 50 #[.slice A1 l1.length c1, .slice A2 l2.length c2, .slice A3 l3.length c3, .int .i64 fl, .int .i64 cn, .int .i64 wt, .int .i64 tm])
            (fun i _ => l2.length - (intOf i).toNat)
          case atStart => exact ⟨0, by omega, rfl, hB, bb⟩
          case round =>
            clear hB bb k0 k1 k2 k3 k4 k5 k6 l1_
            obtain ⟨j, hj, rfl, hB, bb⟩ := hrel
            by_cases hlt : j < l2.length
            · obtain ⟨b, off, x, rfl, hbB, hx, d0, d1, d2, d3⟩ := (r2.below hB).atU hlt
              clear hx
              go_wp2
              all_goals first
                | (refine bodyPost_ret (v := .tuple #[.int .i64 3, .int .i64 j]) (by simp only [results, Try.results26]; go_simp) rfl (confOut 3 j rfl (by omega) ?_)
                   exact hB.alloc hB.size _)
                | (go_roundw
                   case rel => exact ⟨j + 1, by omega, by go_num, hB.alloc hB.size _, bb.alloc _⟩
                   case measure => simp [intOf]; omega)
            · obtain rfl : j = l2.length := by omega
              have ⟨k0, k1, k2, k3, k4, k5, k6⟩ := bb.c7
              have l1_ := bb.lt
              go_wp2
              go_loopw [116] (fun i ws => ∃ j : Nat, j ≤ l3.length ∧ i = .int .i64 j ∧ Below w.heap.size w ws ∧ Blk ws w.heap.size 50 #[.slice A1 l1.length c1, .slice A2 l2.length c2, .slice A3 l3.length c3, .int .i64 fl, .int .i64 cn, .int .i64 wt, .int .i64 tm])
                (fun i _ => l3.length - (intOf i).toNat)
              case atStart => exact ⟨0, by omega, rfl, hB, bb⟩
              case round =>
                clear hB bb k0 k1 k2 k3 k4 k5 k6 l1_
                obtain ⟨j, hj, rfl, hB, bb⟩ := hrel
                by_cases hlt : j < l3.length
                · obtain ⟨b, off, x, rfl, hbB, hx, d0, d1, d2, d3, d4⟩ := (r3.below hB).atB hlt
                  clear hx
                  by_cases q : x.call < 1 ∨ 4 < x.call ∨ x.do_ < 0 ∨ 6 < x.do_
                  · rcases q with q | q | q | q
                    all_goals go_wp2
                    all_goals refine bodyPost_ret (v := .tuple #[.int .i64 1, .int .i64 j]) (by simp only [results, Try.results26]; go_simp) rfl (confOut 1 j rfl (by omega) ?_)
                    all_goals exact hB.alloc hB.size _
                  · have q1 : 1 ≤ x.call := by omega
                    have q2 : x.call ≤ 4 := by omega
                    have q3 : 0 ≤ x.do_ := by omega
                    have q4 : x.do_ ≤ 6 := by omega
                    clear q
                    by_cases q5 : 20 < x.text.size
                    · have q6 : (20 : Int) < (x.text.size : Int) := by omega
                      go_wp2
                      refine bodyPost_ret (v := .tuple #[.int .i64 4, .int .i64 j]) (by simp only [results, Try.results26]; go_simp) rfl (confOut 4 j rfl (by omega) ?_)
                      exact hB.alloc hB.size _
                    · have q6 : (x.text.size : Int) ≤ 20 := by omega
                      go_wp2
                      go_roundw
                      case rel => exact ⟨j + 1, by omega, by go_num, hB.alloc hB.size _, bb.alloc _⟩
                      case measure => simp [intOf]; omega
                · obtain rfl : j = l3.length := by omega
                  go_wp2
                  refine bodyPost_ret (v := .tuple #[.int .i64 0, .int .i64 (-1)]) (by simp only [results, Try.results26]; go_simp) rfl (confOut 0 (-1) rfl (fun _ => HOK.out) hB)
end Go.Proofs.Ytmcjgfoaiannoaa
