/-
  Give of the reference: what giveP says. Conditions: the bounds that the reading of a slice gives.
-/
import Derived.Test.YtmcjgfoaiannoaaGive2
import Derived.Deep.RegionHeld3
import Derived.Deep.AppendLies
namespace Go.Proofs.Ytmcjgfoaiannoaa
open Go.RowKit

theorem Rd.take_ {w : World} {B : Nat} {A : Option Addr} {l : List (Int × Int × Int)} (h : Rd 3 encH w B A l) (i : Nat) : Rd 3 encH w B A (l.take i) := fun hl => by
  have h0 : 0 < l.length := by rw [List.length_take] at hl; omega
  obtain ⟨b, off, e, hb, hc⟩ := h h0
  refine ⟨b, off, e, hb, fun j x hx u v hv => hc j x ?_ u v hv⟩
  rw [List.getElem?_take] at hx
  split at hx
  · exact hx
  · cases hx
theorem Rd.drop_ {w : World} {B b off : Nat} {l : List (Int × Int × Int)} (h : Rd 3 encH w B (some ⟨b, off, none⟩) l) (k : Nat) : Rd 3 encH w B (some ⟨b, off + k * 3, none⟩) (l.drop k) := fun hl => by
  have h0 : 0 < l.length := by rw [List.length_drop] at hl; omega
  obtain ⟨b', off', e, hb, hc⟩ := h h0
  injection e with e
  injection e with e1 e2
  subst e1 e2
  refine ⟨b, off + k * 3, rfl, hb, fun j x hx u v hv => ?_⟩
  rw [List.getElem?_drop] at hx
  have := hc _ x hx u v hv
  rw [Nat.add_mul] at this
  rwa [show off + (k * 3 + j * 3) + u = off + k * 3 + j * 3 + u by omega] at this
def lastI (o : Option Nat) : Int := match o with | some i => (i : Int) | none => -1
def RefGive (l : List (Int × Int × Int)) (m0 m1 m2 m3 id kind : Int) (w : World) (e : Ending) (w' : World) : Prop :=
  ∃ A' c', e = .returned (.tuple #[ledV A' c' (giveP (l, m0, m1, m2, m3) id kind).1, .int .i64 (giveP (l, m0, m1, m2, m3) id kind).2]) ∧ Rd 3 encH w' w'.heap.size A' (giveP (l, m0, m1, m2, m3) id kind).1.1 ∧ Below w.heap.size w w'

set_option maxRecDepth 100000 in
set_option maxHeartbeats 2000000 in
theorem refgive_any (A : Option Addr) (c : Nat) (l : List (Int × Int × Int)) (m0 m1 m2 m3 id kind : Int) (w : World) (hr : Rd 3 encH w w.heap.size A l) (hn : l.length * 24 ≤ 140737488355328) (hc : l.length ≤ c) (hcm : c ≤ maxLen) :
    Calls Try.prog 24 #[.agg #[.slice A l.length c, .int .i64 m0, .int .i64 m1, .int .i64 m2, .int .i64 m3], .int .i64 id, .int .i64 kind] w (RefGive l m0 m1 m2 m3 id kind w) := by
  obtain ⟨w1, hw1⟩ : ∃ w1, (w.alloc (.cells #[.slice A l.length c, .int .i64 m0, .int .i64 m1, .int .i64 m2, .int .i64 m3] 25)).alloc (.cells #[.slice none 0 0, .int .i64 0, .int .i64 0, .int .i64 0, .int .i64 0] 25) = w1 := ⟨_, rfl⟩
  have b0 := (Blk.new w 25 #[.slice A l.length c, .int .i64 m0, .int .i64 m1, .int .i64 m2, .int .i64 m3]).alloc (.cells #[.slice none 0 0, .int .i64 0, .int .i64 0, .int .i64 0, .int .i64 0] 25)
  have b1 := Blk.new' (w.alloc (.cells #[.slice A l.length c, .int .i64 m0, .int .i64 m1, .int .i64 m2, .int .i64 m3] 25)) (w.heap.size + 1) (by simp) 25 #[.slice none 0 0, .int .i64 0, .int .i64 0, .int .i64 0, .int .i64 0]
  have fin : Below w.heap.size w w1 := by rw [← hw1]; exact ((Below.refl _ w).alloc (Nat.le_refl _) _).alloc (by simp) _
  have hr1 : Rd 3 encH w1 w.heap.size A l := hr.below fin
  have hz : w1.heap.size = w.heap.size + 1 + 1 := by rw [← hw1]; simp
  rw [hw1] at b0 b1
  have ⟨k0, k1, k2, k3, k4⟩ := b0.c5
  have HZ := Lib.hid hz
  clear hz
  go_enter Try.func24, Try.ntmps24
  go_wp2_with fail
  clear hw1
  go_loopw [8, 14] (fun n i wr => ∃ j : Nat, j ≤ l.length ∧ i = .int .i64 j ∧ n = .int .i64 (lastI (lastIdx (isOf id kind) (l.take j))) ∧ Below w1.heap.size w1 wr)
    (fun _ i _ => l.length - (intOf i).toNat)
  case atStart => exact ⟨0, Nat.zero_le _, rfl, rfl, Below.refl _ _⟩
  case round =>
    obtain ⟨j, hj, rfl, rfl, hb⟩ := hrel
    have hzr := hb.size
    by_cases hlt : j < l.length
    · obtain ⟨b, off, x, y, z, rfl, hbB, hx, c0, c1, c2⟩ := (hr1.below' hb (by have := HZ.out; omega)).atH hlt
      have H1 := Lib.hid (lastIdx_snoc (isOf id kind) (l.take j) (x, y, z))
      have H2 := Lib.hid (take_snoc' hx)
      have H3 := Lib.hid (show (l.take j).length = j by rw [List.length_take]; omega)
      clear hx k0 k1 k2 k3 k4
      have hyes : (x == id) = true → (y == kind) = true → lastI (lastIdx (isOf id kind) (l.take (j + 1))) = (j : Int) := fun h1 h2 => by
        rw [H2.out, H1.out, if_pos (by simp only [isOf, h1, h2]; rfl), H3.out]; rfl
      have hno : ((x == id) = false ∨ (y == kind) = false) → lastI (lastIdx (isOf id kind) (l.take (j + 1))) = lastI (lastIdx (isOf id kind) (l.take j)) := fun h => by
        rw [H2.out, H1.out, if_neg (by rcases h with h | h <;> simp [isOf] at * <;> simp [h])]
      have HY := Lib.hid hyes
      have HN := Lib.hid hno
      clear hyes hno
      by_cases ht : (x == id) = true
      · by_cases hu : (y == kind) = true
        · go_wp2
          go_roundw
          case rel => exact ⟨j + 1, by omega, by go_num, by rw [HY.out ht hu], hb.alloc (by omega) _⟩
          case measure => simp [intOf]; omega
        · have hu' : (y == kind) = false := by simpa using hu
          clear hu
          go_wp2
          go_roundw
          case rel => exact ⟨j + 1, by omega, by go_num, by rw [HN.out (.inr hu')], hb.alloc (by omega) _⟩
          case measure => simp [intOf]; omega
      · have ht' : (x == id) = false := by simpa using ht
        clear ht
        go_wp2
        go_roundw
        case rel => exact ⟨j + 1, by omega, by go_num, by rw [HN.out (.inl ht')], hb.alloc (by omega) _⟩
        case measure => simp [intOf]; omega
    · obtain rfl : j = l.length := by omega
      rw [List.take_length]
      have c0 := b0.below hb (by have := HZ.out; omega)
      have c1 := b1.below hb (by have := HZ.out; omega)
      have ⟨k0, k1, k2, k3, k4⟩ := c0.c5
      have ⟨j0, j1, j2, j3, j4⟩ := c1.c5
      have f0 := c0.frz
      have f1 := c1.frz
      have hr2 : Rd 3 encH wr wr.heap.size A l := (hr1.below' hb (by have := HZ.out; omega)).more (by have := HZ.out; omega)
      have hB0 : Below w.heap.size w wr := fin.trans (hb.mono (by have := HZ.out; omega))
      have hzz : w.heap.size + 1 < wr.heap.size := by have := HZ.out; have := hb.size; omega
      have hz00 : w.heap.size < wr.heap.size := by omega
      rcases hL : lastIdx (isOf id kind) l with _ | i
      · have hg : giveP (l, m0, m1, m2, m3) id kind = (led0, 6) := by simp [giveP, hL]
        have HG := Lib.hid hg
        clear hg hL
        simp only [lastI]
        go_wp2
        refine bodyPost_ret (v := .tuple #[.agg #[.slice none 0 0, .int .i64 0, .int .i64 0, .int .i64 0, .int .i64 0], .int .i64 6]) (by simp only [results, Try.results24]; go_simp) rfl ?_
        unfold RefGive
        rw [HG.out]
        refine ⟨none, 0, rfl, Rd.nil_, ?_⟩
        iterate 5 refine Below.setCell ?_ (by (try simp) <;> omega) _
        exact hB0
      · have hg : giveP (l, m0, m1, m2, m3) id kind = ((l.eraseIdx i, m0, m1, m2, m3), 0) := by simp [giveP, hL]
        have hi := lastIdx_lt hL
        have HG := Lib.hid hg
        clear hg hL
        simp only [lastI]
        obtain ⟨i0, hi0, hz0, hz1, hz2⟩ := info_parts infoH
        obtain ⟨b, off, rfl, hbB, _⟩ := hr2 (by omega)
        have R1 : Reads (wr.alloc (.cells #[] 27)).drew wr.heap.size 3 (some ⟨b, off, none⟩) i ((l.take i).flatMap encH) := by
          have := ((hr2.take_ i).reads encH_len (by omega)).alloc (Nat.le_refl _) (.cells #[] 27)
          rw [List.length_take, Nat.min_eq_left (by omega)] at this
          exact this
        have hb0 : (wr.alloc (.cells #[] 27)).drew.ownsRow wr.heap.size 27 3 (.slice (some ⟨wr.heap.size, 0, none⟩) 0 0) 0 [] :=
          ⟨rfl, .inr ⟨wr.heap.size, 0, #[], rfl, Nat.le_refl _, heap_alloc_new _ _, Nat.le_refl _, by simp [maxLen], rfl, rfl⟩⟩
        unfold maxLen at hcm
        have g1 : i ≤ c := by omega
        have g2 : i + 1 ≤ c := by omega
        have g3 : i + 1 ≤ l.length := by omega
        have g5 : (0 : Int) ≤ (i : Int) + 1 := by omega
        have g6 : (i : Int) + 1 ≤ (l.length : Int) := by omega
        have g7 : ¬ (i : Int) < 0 := by omega
        have R1' := Lib.hid R1
        have hb0' := Lib.hid hb0
        clear R1 hb0
        by_cases hci : c = i + 1
        · have hl0 : l.length - (i + 1) = 0 := by omega
          have R2 : Reads wr wr.heap.size 3 (some ⟨b, off, none⟩) 0 [] := ⟨rfl, fun h => absurd h (by omega)⟩
          have hdr : l.drop (i + 1) = [] := List.drop_eq_nil_of_le (by omega)
          have HDR := Lib.hid hdr
          clear hdr
          have HL0 := Lib.hid hl0
          clear hl0
          subst hci
          have g0 : (i : Int) ≤ (i : Int) + 1 := by omega
          have R2' := Lib.hid R2
          clear R2
          have HI := Lib.hid (And.intro hi0 (And.intro hz0 (And.intro hz1 hz2)))
          clear hi0 hz0 hz1 hz2
          have e0 := c0.alloc (.cells #[] 27)
          have e1 := c1.alloc (.cells #[] 27)
          have HS3 : ∀ w3 : World, (wr.alloc (.cells #[] 27)).drew.grownBy w3 (Value.slice (some ⟨wr.heap.size, 0, none⟩) 0 0).ownBlock → Blk w3 w.heap.size 25 #[.slice (some ⟨b, off, none⟩) l.length (i + 1), .int .i64 m0, .int .i64 m1, .int .i64 m2, .int .i64 m3] ∧ Blk w3 (w.heap.size + 1) 25 #[.slice none 0 0, .int .i64 0, .int .i64 0, .int .i64 0, .int .i64 0] ∧ Reads w3 wr.heap.size 3 (some ⟨b, off, none⟩) 0 [] ∧ Below w.heap.size w w3 ∧ wr.heap.size < w3.heap.size := fun w3 hg =>
            ⟨Blk.grown (w := (wr.alloc (.cells #[] 27)).drew) e0 hg (fun e => by injection e with e; have : w.heap.size = wr.heap.size := e; omega), Blk.grown (w := (wr.alloc (.cells #[] 27)).drew) e1 hg (fun e => by injection e with e; have : w.heap.size + 1 = wr.heap.size := e; omega),
              Reads.grown (w := (wr.alloc (.cells #[] 27)).drew) (R2'.out.alloc (Nat.le_refl _) (.cells #[] 27)) hg (by show wr.heap.size ≤ (wr.alloc (.cells #[] 27)).heap.size; simp) (fun g hg => by cases hg; exact Nat.le_refl _),
              Below.grown (w := (wr.alloc (.cells #[] 27)).drew) (hB0.alloc (by omega) _).drew hg (by show w.heap.size ≤ (wr.alloc (.cells #[] 27)).heap.size; simp; omega) (fun g hg => by cases hg; exact (show w.heap.size ≤ wr.heap.size by omega)), by have := hg.size; have h2 : (wr.alloc (.cells #[] 27)).drew.heap.size = wr.heap.size + 1 := World.size_alloc _ _; omega⟩
          have HS3' := Lib.hid HS3
          have HS0 : Hid ((wr.alloc (.cells #[] 27)).drew.cell? ⟨w.heap.size, 0, none⟩ = some (.slice (some ⟨b, off, none⟩) l.length (i + 1)) ∧ (wr.alloc (.cells #[] 27)).drew.frozen? ⟨w.heap.size, 0, none⟩ = false) := ⟨e0.c5.1, e0.frz 0⟩
          have hsum : IntKind.i64.wrap ((i : Int) + 1) = (i : Int) + 1 := IntWalk.i64_in _ (by omega)
          have hsum' : ((i : Int) + 1).toNat = i + 1 := by omega
          clear HS3 e0 e1
          go_wp2
          go_region_law (first
                          | (refine step_append_any _ (by rfl) (.tmp 34) (.tmp 38) 22 (by rfl) wr.heap.size 27 i0 _ 3 24 Try.underlying22 HI.out.1 HI.out.2.1 HI.out.2.2.1 HI.out.2.2.2 rfl (by omega) _ 0 [] (by rfl) hb0'.out wr.heap.size (some ⟨b, off, none⟩) i (i + 1) _ (by rfl) R1'.out (encH_one _) (by simp only [maxLen]; omega) (by omega) (by simp) ?_; intro v3 w3 hown3 hg3 hat3; have z0 := (HS3'.out _ hg3).1.c5.1; have zf := (HS3'.out _ hg3).1.frz 0)
                          | (refine step_append_any _ (by rfl) (.tmp 39) (.tmp 44) 22 (by rfl) wr.heap.size 27 i0 _ 3 24 Try.underlying22 HI.out.1 HI.out.2.1 HI.out.2.2.1 HI.out.2.2.2 rfl (by omega) _ (0 + i) _ (by rfl) hown3 wr.heap.size (some ⟨b, off, none⟩) 0 0 _ (by rfl) (HS3'.out _ hg3).2.2.1 (fun u hu => absurd hu (by simp)) (by simp only [maxLen]; omega) (by omega) (by have := (HS3'.out _ hg3).2.2.2.2; omega) ?_; intro v4 w4 hown4 hg4 hat4; obtain ⟨A4, c4, rfl, hA4, hA5⟩ := own_shape hown4; have q4 := (HS3'.out _ hg3).1.grown hg4 (fun e => by have := own_ge hown3 _ e.symm; omega); have y0 := q4.c5.1; have yf := q4.frz 0))
          all_goals
            have p4 := (HS3'.out _ hg3).2.1.grown hg4 (fun e => by have := own_ge hown3 _ e.symm; omega)
            have hB4 : Below w.heap.size w w4 := (HS3'.out _ hg3).2.2.2.1.grown hg4 (by have := (HS3'.out _ hg3).2.2.2.2; omega) (fun g hg => by have := own_ge hown3 g hg; omega)
            have N0 := Lib.hid (own_blk_ne hown4 q4 (by decide))
            have N1 := Lib.hid (own_blk_ne hown4 p4 (by decide))
            obtain ⟨_, y1, y2, y3, y4⟩ := q4.c5
            obtain ⟨x0, x1, x2, x3, x4⟩ := p4.c5
            have yg := q4.frz
            have xg := p4.frz
            have HO4 := Lib.hid hown4
            clear yf z0 zf hown3 hg3 hat3 hown4 hg4 hat4
            simp only [Exit.then]
            go_wp2
            refine bodyPost_ret (v := .tuple #[.agg #[.slice A4 i c4, .int .i64 m0, .int .i64 m1, .int .i64 m2, .int .i64 m3], .int .i64 0]) (by simp only [results, Try.results24]; go_simp) rfl ?_
            unfold RefGive
            rw [HG.out]
            refine ⟨A4, c4, ?_, ?_, ?_⟩
            · show _ = Ending.returned (.tuple #[.agg #[.slice A4 (l.eraseIdx i).length c4, .int .i64 m0, .int .i64 m1, .int .i64 m2, .int .i64 m3], .int .i64 0])
              rw [show (l.eraseIdx i).length = i by rw [List.length_eraseIdx_of_lt hi]; have := HL0.out; omega]
            · refine Rd.of_own (base := wr.heap.size) (e := 27) (c := c4) encH_len ?_
              show World.ownsRow _ _ _ _ (.slice A4 (l.eraseIdx i).length c4) (l.eraseIdx i).length ((l.eraseIdx i).flatMap encH)
              rw [show (l.eraseIdx i).length = 0 + i + 0 by rw [List.length_eraseIdx_of_lt hi]; have := HL0.out; omega, List.eraseIdx_eq_take_drop_succ, List.flatMap_append, HDR.out]
              iterate 5 refine own_setCell ?_ N1.out _
              exact own_setCell HO4.out N0.out _
            · iterate 6 refine Below.setCell ?_ (by (try simp) <;> omega) _
              exact hB4
        · have R2 : Reads wr wr.heap.size 3 (some ⟨b, off + (i + 1) * 3, none⟩) (l.length - (i + 1)) ((l.drop (i + 1)).flatMap encH) := by
            have := (hr2.drop_ (i + 1)).reads encH_len (by omega)
            rw [List.length_drop] at this
            exact this
          have R2' := Lib.hid R2
          clear R2
          have HI := Lib.hid (And.intro hi0 (And.intro hz0 (And.intro hz1 hz2)))
          clear hi0 hz0 hz1 hz2
          have e0 := c0.alloc (.cells #[] 27)
          have e1 := c1.alloc (.cells #[] 27)
          have HS3 : ∀ w3 : World, (wr.alloc (.cells #[] 27)).drew.grownBy w3 (Value.slice (some ⟨wr.heap.size, 0, none⟩) 0 0).ownBlock → Blk w3 w.heap.size 25 #[.slice (some ⟨b, off, none⟩) l.length c, .int .i64 m0, .int .i64 m1, .int .i64 m2, .int .i64 m3] ∧ Blk w3 (w.heap.size + 1) 25 #[.slice none 0 0, .int .i64 0, .int .i64 0, .int .i64 0, .int .i64 0] ∧ Reads w3 wr.heap.size 3 (some ⟨b, off + (i + 1) * 3, none⟩) (l.length - (i + 1)) ((l.drop (i + 1)).flatMap encH) ∧ Below w.heap.size w w3 ∧ wr.heap.size < w3.heap.size := fun w3 hg =>
            ⟨Blk.grown (w := (wr.alloc (.cells #[] 27)).drew) e0 hg (fun e => by injection e with e; have : w.heap.size = wr.heap.size := e; omega), Blk.grown (w := (wr.alloc (.cells #[] 27)).drew) e1 hg (fun e => by injection e with e; have : w.heap.size + 1 = wr.heap.size := e; omega),
              Reads.grown (w := (wr.alloc (.cells #[] 27)).drew) (R2'.out.alloc (Nat.le_refl _) (.cells #[] 27)) hg (by show wr.heap.size ≤ (wr.alloc (.cells #[] 27)).heap.size; simp) (fun g hg => by cases hg; exact Nat.le_refl _),
              Below.grown (w := (wr.alloc (.cells #[] 27)).drew) (hB0.alloc (by omega) _).drew hg (by show w.heap.size ≤ (wr.alloc (.cells #[] 27)).heap.size; simp; omega) (fun g hg => by cases hg; exact (show w.heap.size ≤ wr.heap.size by omega)), by have := hg.size; have h2 : (wr.alloc (.cells #[] 27)).drew.heap.size = wr.heap.size + 1 := World.size_alloc _ _; omega⟩
          have HS3' := Lib.hid HS3
          have HS0 : Hid ((wr.alloc (.cells #[] 27)).drew.cell? ⟨w.heap.size, 0, none⟩ = some (.slice (some ⟨b, off, none⟩) l.length c) ∧ (wr.alloc (.cells #[] 27)).drew.frozen? ⟨w.heap.size, 0, none⟩ = false) := ⟨e0.c5.1, e0.frz 0⟩
          have hsum : IntKind.i64.wrap ((i : Int) + 1) = (i : Int) + 1 := IntWalk.i64_in _ (by omega)
          have hsum' : ((i : Int) + 1).toNat = i + 1 := by omega
          clear HS3 e0 e1
          go_wp2
          go_region_law (first
                          | (refine step_append_any _ (by rfl) (.tmp 34) (.tmp 38) 22 (by rfl) wr.heap.size 27 i0 _ 3 24 Try.underlying22 HI.out.1 HI.out.2.1 HI.out.2.2.1 HI.out.2.2.2 rfl (by omega) _ 0 [] (by rfl) hb0'.out wr.heap.size (some ⟨b, off, none⟩) i c _ (by rfl) R1'.out (encH_one _) (by simp only [maxLen]; omega) (by omega) (by simp) ?_; intro v3 w3 hown3 hg3 hat3; have z0 := (HS3'.out _ hg3).1.c5.1; have zf := (HS3'.out _ hg3).1.frz 0)
                          | (refine step_append_any _ (by rfl) (.tmp 39) (.tmp 44) 22 (by rfl) wr.heap.size 27 i0 _ 3 24 Try.underlying22 HI.out.1 HI.out.2.1 HI.out.2.2.1 HI.out.2.2.2 rfl (by omega) _ (0 + i) _ (by rfl) hown3 wr.heap.size (some ⟨b, off + (i + 1) * 3, none⟩) (l.length - (i + 1)) (c - (i + 1)) _ (by rfl) (HS3'.out _ hg3).2.2.1 (encH_one _) (by simp only [maxLen]; omega) (by omega) (by have := (HS3'.out _ hg3).2.2.2.2; omega) ?_; intro v4 w4 hown4 hg4 hat4; obtain ⟨A4, c4, rfl, hA4, hA5⟩ := own_shape hown4; have q4 := (HS3'.out _ hg3).1.grown hg4 (fun e => by have := own_ge hown3 _ e.symm; omega); have y0 := q4.c5.1; have yf := q4.frz 0))
          all_goals
            have p4 := (HS3'.out _ hg3).2.1.grown hg4 (fun e => by have := own_ge hown3 _ e.symm; omega)
            have hB4 : Below w.heap.size w w4 := (HS3'.out _ hg3).2.2.2.1.grown hg4 (by have := (HS3'.out _ hg3).2.2.2.2; omega) (fun g hg => by have := own_ge hown3 g hg; omega)
            have N0 := Lib.hid (own_blk_ne hown4 q4 (by decide))
            have N1 := Lib.hid (own_blk_ne hown4 p4 (by decide))
            obtain ⟨_, y1, y2, y3, y4⟩ := q4.c5
            obtain ⟨x0, x1, x2, x3, x4⟩ := p4.c5
            have yg := q4.frz
            have xg := p4.frz
            have HO4 := Lib.hid hown4
            clear yf z0 zf hown3 hg3 hat3 hown4 hg4 hat4
            simp only [Exit.then]
            go_wp2
            refine bodyPost_ret (v := .tuple #[.agg #[.slice A4 (i + (l.length - (i + 1))) c4, .int .i64 m0, .int .i64 m1, .int .i64 m2, .int .i64 m3], .int .i64 0]) (by simp only [results, Try.results24]; go_simp) rfl ?_
            unfold RefGive
            rw [HG.out]
            refine ⟨A4, c4, ?_, ?_, ?_⟩
            · show _ = Ending.returned (.tuple #[.agg #[.slice A4 (l.eraseIdx i).length c4, .int .i64 m0, .int .i64 m1, .int .i64 m2, .int .i64 m3], .int .i64 0])
              rw [show (l.eraseIdx i).length = i + (l.length - (i + 1)) by rw [List.length_eraseIdx_of_lt hi]; omega]
            · refine Rd.of_own (base := wr.heap.size) (e := 27) (c := c4) encH_len ?_
              show World.ownsRow _ _ _ _ (.slice A4 (l.eraseIdx i).length c4) (l.eraseIdx i).length ((l.eraseIdx i).flatMap encH)
              rw [show (l.eraseIdx i).length = 0 + i + (l.length - (i + 1)) by rw [List.length_eraseIdx_of_lt hi]; omega, List.eraseIdx_eq_take_drop_succ, List.flatMap_append]
              iterate 5 refine own_setCell ?_ N1.out _
              exact own_setCell HO4.out N0.out _
            · iterate 6 refine Below.setCell ?_ (by (try simp) <;> omega) _
              exact hB4
end Go.Proofs.Ytmcjgfoaiannoaa
