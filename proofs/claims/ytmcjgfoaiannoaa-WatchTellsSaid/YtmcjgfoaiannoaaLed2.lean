/-
  Take of the ledger, and of the reference: what takeP says. Conditions: the length bound that the reach pays.
-/
import Derived.Test.YtmcjgfoaiannoaaLed1
import Derived.Lib.QuietBelow
namespace Go.Proofs.Ytmcjgfoaiannoaa
open Go.RowKit

/-- a ledger: its holds, and how much of each kind there is -/
abbrev Led := List (Int × Int × Int) × Int × Int × Int × Int
def ledV (A : Option Addr) (c : Nat) (L : Led) : Value := .agg #[.slice A L.1.length c, .int .i64 L.2.1, .int .i64 L.2.2.1, .int .i64 L.2.2.2.1, .int .i64 L.2.2.2.2]
def led0 : Led := ([], 0, 0, 0, 0)
def mostP (L : Led) (kind : Int) : Int := if kind = 1 then L.2.2.1 else if kind = 2 then L.2.2.2.1 else L.2.2.2.2
def takeP (L : Led) (id kind filter : Int) : Led × Int :=
  if kind < 1 ∨ 3 < kind then (led0, 1) else if mostP L kind ≤ countK L.1 kind then (led0, 8) else ((L.1 ++ [(id, kind, filter)], L.2), 0)

set_option maxHeartbeats 400000 in
theorem take_no1 (A : Option Addr) (c : Nat) (l : List (Int × Int × Int)) (m0 m1 m2 m3 id kind filter : Int) (w : World) (hk : kind < 1 ∨ 3 < kind) :
    Calls Try.prog 21 #[.agg #[.slice A l.length c, .int .i64 m0, .int .i64 m1, .int .i64 m2, .int .i64 m3], .int .i64 id, .int .i64 kind, .int .i64 filter] w fun e w' => e = .returned (.tuple #[.agg #[.slice none 0 0, .int .i64 0, .int .i64 0, .int .i64 0, .int .i64 0], .int .i64 1]) ∧ Below w.heap.size w w' := by
  have fin : Below w.heap.size w ((w.alloc (.cells #[.slice A l.length c, .int .i64 m0, .int .i64 m1, .int .i64 m2, .int .i64 m3] 25)).alloc (.cells #[.slice none 0 0, .int .i64 0, .int .i64 0, .int .i64 0, .int .i64 0] 25)) := ((Below.refl _ w).alloc (Nat.le_refl _) _).alloc (by simp) _
  rcases hk with hk | hk
  · go_enter Try.func21, Try.ntmps21
    go_wp2_with fail
    refine bodyPost_ret (v := .tuple #[.agg #[.slice none 0 0, .int .i64 0, .int .i64 0, .int .i64 0, .int .i64 0], .int .i64 1]) (by simp only [results, Try.results21]; go_simp) rfl ⟨rfl, fin⟩
  · have hk' : ¬ kind < 1 := by omega
    go_enter Try.func21, Try.ntmps21
    go_wp2_with fail
    refine bodyPost_ret (v := .tuple #[.agg #[.slice none 0 0, .int .i64 0, .int .i64 0, .int .i64 0, .int .i64 0], .int .i64 1]) (by simp only [results, Try.results21]; go_simp) rfl ⟨rfl, fin⟩

theorem follows_mixed : Try.prog.follows .mixedOrders = true := by kernel_rfl

set_option maxHeartbeats 400000 in
theorem take_full (A : Option Addr) (c : Nat) (l : List (Int × Int × Int)) (m0 m1 m2 m3 id filter : Int) (k : Nat) (w : World) (hr : Rd 3 encH w w.heap.size A l) (hn : l.length * 24 + 24 ≤ 140737488355328) (hk1 : 1 ≤ k) (hk3 : k ≤ 3) (mk : Int)
    (hmk : #[Value.slice A l.length c, .int .i64 m0, .int .i64 m1, .int .i64 m2, .int .i64 m3][1 + k]? = some (.int .i64 mk)) (hm : mk ≤ (countK l k : Int)) :
    Calls Try.prog 21 #[.agg #[.slice A l.length c, .int .i64 m0, .int .i64 m1, .int .i64 m2, .int .i64 m3], .int .i64 id, .int .i64 k, .int .i64 filter] w fun e w' => e = .returned (.tuple #[.agg #[.slice none 0 0, .int .i64 0, .int .i64 0, .int .i64 0, .int .i64 0], .int .i64 8]) ∧ Below w.heap.size w w' := by
  obtain ⟨w1, hw1⟩ : ∃ w1, (w.alloc (.cells #[.slice A l.length c, .int .i64 m0, .int .i64 m1, .int .i64 m2, .int .i64 m3] 25)).alloc (.cells #[.slice none 0 0, .int .i64 0, .int .i64 0, .int .i64 0, .int .i64 0] 25) = w1 := ⟨_, rfl⟩
  have b0 := (Blk.new w 25 #[.slice A l.length c, .int .i64 m0, .int .i64 m1, .int .i64 m2, .int .i64 m3]).alloc (.cells #[.slice none 0 0, .int .i64 0, .int .i64 0, .int .i64 0, .int .i64 0] 25)
  have b1 := Blk.new' (w.alloc (.cells #[.slice A l.length c, .int .i64 m0, .int .i64 m1, .int .i64 m2, .int .i64 m3] 25)) (w.heap.size + 1) (by simp) 25 #[.slice none 0 0, .int .i64 0, .int .i64 0, .int .i64 0, .int .i64 0]
  have fin : Below w.heap.size w w1 := by rw [← hw1]; exact ((Below.refl _ w).alloc (Nat.le_refl _) _).alloc (by simp) _
  have hr1 : Rd 3 encH w1 w.heap.size A l := hr.below fin
  have hz : w1.heap.size = w.heap.size + 1 + 1 := by rw [← hw1]; simp
  rw [hw1] at b0 b1
  have km := cell_regrown ((b0.cell (1 + k)).trans hmk)
  have ⟨k0, k1, k2, k3, k4⟩ := b0.c5
  have g0 := cell_regrown k0
  have g1 := cell_regrown k1
  have g2 := cell_regrown k2
  have g3 := cell_regrown k3
  have g4 := cell_regrown k4
  have cQ : ∀ d os, Calls Try.prog 13 #[.agg #[.slice A l.length c, .int .i64 m0, .int .i64 m1, .int .i64 m2, .int .i64 m3], .int .i64 k] (Sort.grow (redrawn w1 d) os) fun e w'' => e = .returned (.int .i64 (countK l k)) ∧ ∃ p : Regrown, w'' = Sort.grow (redrawn w1 p.d) p.os :=
    fun d os => Calls.regrown_of (count_any A c l m0 m1 m2 m3 k _ ((hr1.below' (below_regrown w1 d os) (by omega)).more (by have := (below_regrown w1 d os).size; omega)) (by omega))
  have F := Lib.hid follows_mixed
  have hk4 : (k : Int) < 4 := by omega
  have hk0 : (0 : Int) ≤ k := by omega
  have hk1' : ¬ (k : Int) < 1 := by omega
  have hk3' : ¬ (3 : Int) < k := by omega
  have HW := Lib.hid hw1
  go_enter Try.func21, Try.ntmps21
  go_wp2_with fail
  refine wp_region_quiet_below F.out (by kernel_rfl) ?_
  clear hw1
  repeat (quiet_step (exact cQ _ _))
  refine wpQuiet_nil ?_
  rintro w2 ⟨p, hp⟩
  have hb2 : Below w1.heap.size w1 w2 := by rw [hp]; exact below_regrown w1 p.d p.os
  clear hp cQ km g0 g1 g2 g3 g4 k0 k1 k2 k3 k4
  have hz2 := hb2.size
  have c1 := b1.below hb2 (by omega)
  obtain ⟨j0, j1, j2, j3, j4⟩ := c1.c5
  have f1 := c1.frz
  clear b0 b1 hm hmk
  go_wp2
  refine bodyPost_ret (v := .tuple #[.agg #[.slice none 0 0, .int .i64 0, .int .i64 0, .int .i64 0, .int .i64 0], .int .i64 8]) (by simp only [results, Try.results21]; go_simp) rfl ⟨rfl, ?_⟩
  have hB : Below w.heap.size w w2 := fin.trans (hb2.mono (by omega))
  iterate 5 refine Below.setCell ?_ (by (try simp) <;> omega) _
  exact hB
set_option maxHeartbeats 400000 in
theorem take_ok (A : Option Addr) (c : Nat) (l : List (Int × Int × Int)) (m0 m1 m2 m3 id filter : Int) (k : Nat) (w : World) (hr : Rd 3 encH w w.heap.size A l) (hn : l.length * 24 + 24 ≤ 140737488355328) (hk1 : 1 ≤ k) (hk3 : k ≤ 3) (mk : Int)
    (hmk : #[Value.slice A l.length c, .int .i64 m0, .int .i64 m1, .int .i64 m2, .int .i64 m3][1 + k]? = some (.int .i64 mk)) (hm : (countK l k : Int) < mk) :
    Calls Try.prog 21 #[.agg #[.slice A l.length c, .int .i64 m0, .int .i64 m1, .int .i64 m2, .int .i64 m3], .int .i64 id, .int .i64 k, .int .i64 filter] w fun e w' => ∃ A' c', e = .returned (.tuple #[.agg #[.slice A' (l ++ [((id, (k : Int), filter) : Int × Int × Int)]).length c', .int .i64 m0, .int .i64 m1, .int .i64 m2, .int .i64 m3], .int .i64 0]) ∧
      w'.ownsRow w.heap.size 27 3 (.slice A' (l ++ [((id, (k : Int), filter) : Int × Int × Int)]).length c') (l ++ [((id, (k : Int), filter) : Int × Int × Int)]).length ((l ++ [((id, (k : Int), filter) : Int × Int × Int)]).flatMap encH) ∧ Below w.heap.size w w' := by
  obtain ⟨w1, hw1⟩ : ∃ w1, (w.alloc (.cells #[.slice A l.length c, .int .i64 m0, .int .i64 m1, .int .i64 m2, .int .i64 m3] 25)).alloc (.cells #[.slice none 0 0, .int .i64 0, .int .i64 0, .int .i64 0, .int .i64 0] 25) = w1 := ⟨_, rfl⟩
  have b0 := (Blk.new w 25 #[.slice A l.length c, .int .i64 m0, .int .i64 m1, .int .i64 m2, .int .i64 m3]).alloc (.cells #[.slice none 0 0, .int .i64 0, .int .i64 0, .int .i64 0, .int .i64 0] 25)
  have b1 := Blk.new' (w.alloc (.cells #[.slice A l.length c, .int .i64 m0, .int .i64 m1, .int .i64 m2, .int .i64 m3] 25)) (w.heap.size + 1) (by simp) 25 #[.slice none 0 0, .int .i64 0, .int .i64 0, .int .i64 0, .int .i64 0]
  have fin : Below w.heap.size w w1 := by rw [← hw1]; exact ((Below.refl _ w).alloc (Nat.le_refl _) _).alloc (by simp) _
  have hr1 : Rd 3 encH w1 w.heap.size A l := hr.below fin
  have hz : w1.heap.size = w.heap.size + 1 + 1 := by rw [← hw1]; simp
  rw [hw1] at b0 b1
  have km := cell_regrown ((b0.cell (1 + k)).trans hmk)
  have ⟨k0, k1, k2, k3, k4⟩ := b0.c5
  have g0 := cell_regrown k0
  have g1 := cell_regrown k1
  have g2 := cell_regrown k2
  have g3 := cell_regrown k3
  have g4 := cell_regrown k4
  have cQ : ∀ d os, Calls Try.prog 13 #[.agg #[.slice A l.length c, .int .i64 m0, .int .i64 m1, .int .i64 m2, .int .i64 m3], .int .i64 k] (Sort.grow (redrawn w1 d) os) fun e w'' => e = .returned (.int .i64 (countK l k)) ∧ ∃ p : Regrown, w'' = Sort.grow (redrawn w1 p.d) p.os :=
    fun d os => Calls.regrown_of (count_any A c l m0 m1 m2 m3 k _ ((hr1.below' (below_regrown w1 d os) (by omega)).more (by have := (below_regrown w1 d os).size; omega)) (by omega))
  have F := Lib.hid follows_mixed
  have hk4 : (k : Int) < 4 := by omega
  have hk0 : (0 : Int) ≤ k := by omega
  have hk1' : ¬ (k : Int) < 1 := by omega
  have hk3' : ¬ (3 : Int) < k := by omega
  have HW := Lib.hid hw1
  go_enter Try.func21, Try.ntmps21
  go_wp2_with fail
  refine wp_region_quiet_below F.out (by kernel_rfl) ?_
  clear hw1
  repeat (quiet_step (exact cQ _ _))
  refine wpQuiet_nil ?_
  rintro w2 ⟨p, hp⟩
  have hb2 : Below w1.heap.size w1 w2 := by rw [hp]; exact below_regrown w1 p.d p.os
  clear hp cQ km g0 g1 g2 g3 g4 k0 k1 k2 k3 k4
  have hz2 := hb2.size
  have c0 := b0.below hb2 (by omega)
  have c1 := b1.below hb2 (by omega)
  have ⟨k0, k1, k2, k3, k4⟩ := c0.c5
  have hr2 : Rd 3 encH w2 w2.heap.size A l := (hr1.below' hb2 (by omega)).more (by omega)
  have hm' : ¬ (mk ≤ (countK l k : Int)) := by omega
  clear b0 b1 hmk hm
  go_wp2_with fail
  refine (ownL_any A c l m0 m1 m2 m3 w2 hr2 (by omega)).mono ?_
  rintro e w3 ⟨A', c', rfl, hown, hb3⟩
  have hz3 := hb3.size
  have d0 := c0.below hb3 (by omega)
  have d1 := c1.below hb3 (by omega)
  clear k0 k1 k2 k3 k4 c0 c1
  obtain ⟨i0, hi, hz0, hz1, hz2⟩ := info_parts infoH
  clear hm' hr2 hr1 hr d0
  have hone : ∀ u ∈ encH (id, (k : Int), filter), u.oneCell' = true := fun u hu => encH_one [(id, (k : Int), filter)] u (by simpa using hu)
  have hcn := cells_new (w3.alloc (.cells #[.slice A' l.length c', .int .i64 m0, .int .i64 m1, .int .i64 m2, .int .i64 m3] 25)) (w3.heap.size + 1) (by simp) [.int .i64 id, .int .i64 k, .int .i64 filter] 27
  have hown2 := (hown.alloc (.cells #[.slice A' l.length c', .int .i64 m0, .int .i64 m1, .int .i64 m2, .int .i64 m3] 25)).alloc (.cells #[.int .i64 id, .int .i64 k, .int .i64 filter] 27)
  have hne : (Value.slice A' l.length c').ownBlock ≠ some w3.heap.size := fun e => by have := own_lt hown _ e; omega
  have hne1 : (Value.slice A' l.length c').ownBlock ≠ some (w.heap.size + 1) := fun e => by have := own_ge hown _ e; omega
  have e0 := (Blk.new w3 25 #[.slice A' l.length c', .int .i64 m0, .int .i64 m1, .int .i64 m2, .int .i64 m3]).alloc (.cells #[.int .i64 id, .int .i64 k, .int .i64 filter] 27)
  have e1 := (d1.alloc (.cells #[.slice A' l.length c', .int .i64 m0, .int .i64 m1, .int .i64 m2, .int .i64 m3] 25)).alloc (.cells #[.int .i64 id, .int .i64 k, .int .i64 filter] 27)
  clear d1
  have HN := Lib.hid hne
  have HN1 := Lib.hid hne1
  have hge := own_ge hown
  have HGE := Lib.hid hge
  clear hne hne1 hge
  go_wp2_with (at_builtin; refine wpList_append_own _ rfl (.tmp 30) (.tmp 35) 22 rfl w2.heap.size 27 i0 _ 3 24 Try.underlying22 hi hz0 hz1 hz2 rfl (by decide) _ _ _ rfl hown2 ⟨w3.heap.size + 1, 0, none⟩ 1 1 (encH (id, (k : Int), filter)) rfl rfl hcn hone (by simp only [maxLen]; omega) (by omega) (by simp; omega) ?_; intro v4 w4 hown4 hg4 _; obtain ⟨A4, c4, rfl, _, _⟩ := own_shape hown4; have q0 := e0.grown hg4 HN.out.symm; have q1 := e1.grown hg4 HN1.out.symm; have N0 := Lib.hid (own_blk_ne hown4 q0 (by decide)); have N1 := Lib.hid (own_blk_ne hown4 q1 (by decide)); obtain ⟨p0, p1, p2, p3, p4⟩ := q0.c5; obtain ⟨r0, r1, r2, r3, r4⟩ := q1.c5; have fp := q0.frz; have fr := q1.frz; clear q0 q1)
  refine bodyPost_ret (v := .tuple #[.agg #[.slice A4 (l.length + 1) c4, .int .i64 m0, .int .i64 m1, .int .i64 m2, .int .i64 m3], .int .i64 0]) (by simp only [results, Try.results21]; go_simp) rfl ?_
  have hl : (l ++ [((id, (k : Int), filter) : Int × Int × Int)]).length = l.length + 1 := by simp
  rw [hl]
  refine ⟨A4, c4, rfl, ?_, ?_⟩
  · rw [show (l ++ [((id, (k : Int), filter) : Int × Int × Int)]).flatMap encH = l.flatMap encH ++ encH (id, (k : Int), filter) by simp]
    refine own_mono ?_ (show w.heap.size ≤ w2.heap.size by omega)
    iterate 5 refine own_setCell ?_ N1.out _
    exact own_setCell hown4 N0.out _
  · have hB : Below w.heap.size w w4 := ((((fin.trans (hb2.mono (by omega))).trans (hb3.mono (by omega))).alloc (by omega) _).alloc (by simp; omega) _).grown hg4 (by simp; omega) (fun g hg => by have := HGE.out g hg; omega)
    iterate 6 refine Below.setCell ?_ (by (try simp) <;> omega) _
    exact hB

/-- Take, at any kind: what takeP says -/
theorem take_any (A : Option Addr) (c : Nat) (l : List (Int × Int × Int)) (m0 m1 m2 m3 id kind filter : Int) (w : World) (hr : Rd 3 encH w w.heap.size A l) (hn : l.length * 24 + 24 ≤ 140737488355328) :
    Calls Try.prog 21 #[.agg #[.slice A l.length c, .int .i64 m0, .int .i64 m1, .int .i64 m2, .int .i64 m3], .int .i64 id, .int .i64 kind, .int .i64 filter] w fun e w' =>
      ∃ A' c', e = .returned (.tuple #[ledV A' c' (takeP (l, m0, m1, m2, m3) id kind filter).1, .int .i64 (takeP (l, m0, m1, m2, m3) id kind filter).2]) ∧ Rd 3 encH w' w'.heap.size A' (takeP (l, m0, m1, m2, m3) id kind filter).1.1 ∧ Below w.heap.size w w' := by
  by_cases hk : kind < 1 ∨ 3 < kind
  · rw [takeP, if_pos hk]
    exact (take_no1 A c l m0 m1 m2 m3 id kind filter w hk).mono fun e w' ⟨he, hb⟩ => ⟨none, 0, he, Rd.nil_, hb⟩
  · obtain ⟨k, rfl⟩ : ∃ k : Nat, kind = k := ⟨kind.toNat, by omega⟩
    have hmk : ∃ mk, mostP (l, m0, m1, m2, m3) k = mk ∧ #[Value.slice A l.length c, .int .i64 m0, .int .i64 m1, .int .i64 m2, .int .i64 m3][1 + k]? = some (.int .i64 mk) := by
      rcases (show k = 1 ∨ k = 2 ∨ k = 3 by omega) with rfl | rfl | rfl
      · exact ⟨m1, rfl, rfl⟩
      · exact ⟨m2, rfl, rfl⟩
      · exact ⟨m3, rfl, rfl⟩
    obtain ⟨mk, h1, h2⟩ := hmk
    by_cases hm : mk ≤ (countK l k : Int)
    · have ht : takeP (l, m0, m1, m2, m3) id k filter = (led0, 8) := by rw [takeP, if_neg hk, h1, if_pos hm]
      rw [ht]
      exact (take_full A c l m0 m1 m2 m3 id filter k w hr hn (by omega) (by omega) mk h2 hm).mono fun e w' ⟨he, hb⟩ => ⟨none, 0, he, Rd.nil_, hb⟩
    · have ht : takeP (l, m0, m1, m2, m3) id k filter = ((l ++ [(id, (k : Int), filter)], m0, m1, m2, m3), 0) := by rw [takeP, if_neg hk, h1, if_neg hm]
      rw [ht]
      exact (take_ok A c l m0 m1 m2 m3 id filter k w hr hn (by omega) (by omega) mk h2 (by omega)).mono fun e w' ⟨A', c', he, ho, hb⟩ => ⟨A', c', he, Rd.of_own encH_len ho, hb⟩

set_option maxHeartbeats 400000 in
theorem reftake_no1 (A : Option Addr) (c : Nat) (l : List (Int × Int × Int)) (m0 m1 m2 m3 id kind filter : Int) (w : World) (hk : kind < 1 ∨ 3 < kind) :
    Calls Try.prog 22 #[.agg #[.slice A l.length c, .int .i64 m0, .int .i64 m1, .int .i64 m2, .int .i64 m3], .int .i64 id, .int .i64 kind, .int .i64 filter] w fun e w' => e = .returned (.tuple #[.agg #[.slice none 0 0, .int .i64 0, .int .i64 0, .int .i64 0, .int .i64 0], .int .i64 1]) ∧ Below w.heap.size w w' := by
  have fin : Below w.heap.size w ((w.alloc (.cells #[.slice A l.length c, .int .i64 m0, .int .i64 m1, .int .i64 m2, .int .i64 m3] 25)).alloc (.cells #[.slice none 0 0, .int .i64 0, .int .i64 0, .int .i64 0, .int .i64 0] 25)) := ((Below.refl _ w).alloc (Nat.le_refl _) _).alloc (by simp) _
  rcases hk with hk | hk
  · go_enter Try.func22, Try.ntmps22
    go_wp2_with fail
    refine bodyPost_ret (v := .tuple #[.agg #[.slice none 0 0, .int .i64 0, .int .i64 0, .int .i64 0, .int .i64 0], .int .i64 1]) (by simp only [results, Try.results22]; go_simp) rfl ⟨rfl, fin⟩
  · have hk' : ¬ kind < 1 := by omega
    go_enter Try.func22, Try.ntmps22
    go_wp2_with fail
    refine bodyPost_ret (v := .tuple #[.agg #[.slice none 0 0, .int .i64 0, .int .i64 0, .int .i64 0, .int .i64 0], .int .i64 1]) (by simp only [results, Try.results22]; go_simp) rfl ⟨rfl, fin⟩

/-- what comes of the reference's Take at a kind that is one -/
def RefTake (l : List (Int × Int × Int)) (m0 m1 m2 m3 id filter : Int) (k : Nat) (mk : Int) (w : World) (e : Ending) (w' : World) : Prop :=
  (mk ≤ (countK l k : Int) → e = .returned (.tuple #[.agg #[.slice none 0 0, .int .i64 0, .int .i64 0, .int .i64 0, .int .i64 0], .int .i64 8])) ∧
  (¬ mk ≤ (countK l k : Int) → ∃ A' c', e = .returned (.tuple #[.agg #[.slice A' (l.length + 1) c', .int .i64 m0, .int .i64 m1, .int .i64 m2, .int .i64 m3], .int .i64 0]) ∧
      w'.ownsRow w.heap.size 27 3 (.slice A' (l.length + 1) c') (l.length + 1) (l.flatMap encH ++ encH (id, (k : Int), filter))) ∧ Below w.heap.size w w'

set_option maxRecDepth 100000 in
set_option maxHeartbeats 1000000 in
theorem reftake_rest (A : Option Addr) (c : Nat) (l : List (Int × Int × Int)) (m0 m1 m2 m3 id filter : Int) (k : Nat) (w : World) (hr : Rd 3 encH w w.heap.size A l) (hn : l.length * 24 + 24 ≤ 140737488355328) (hk1 : 1 ≤ k) (hk3 : k ≤ 3) (mk : Int)
    (hmk : #[Value.slice A l.length c, .int .i64 m0, .int .i64 m1, .int .i64 m2, .int .i64 m3][1 + k]? = some (.int .i64 mk)) :
    Calls Try.prog 22 #[.agg #[.slice A l.length c, .int .i64 m0, .int .i64 m1, .int .i64 m2, .int .i64 m3], .int .i64 id, .int .i64 k, .int .i64 filter] w (RefTake l m0 m1 m2 m3 id filter k mk w) := by
  obtain ⟨w1, hw1⟩ : ∃ w1, (w.alloc (.cells #[.slice A l.length c, .int .i64 m0, .int .i64 m1, .int .i64 m2, .int .i64 m3] 25)).alloc (.cells #[.slice none 0 0, .int .i64 0, .int .i64 0, .int .i64 0, .int .i64 0] 25) = w1 := ⟨_, rfl⟩
  have b0 := (Blk.new w 25 #[.slice A l.length c, .int .i64 m0, .int .i64 m1, .int .i64 m2, .int .i64 m3]).alloc (.cells #[.slice none 0 0, .int .i64 0, .int .i64 0, .int .i64 0, .int .i64 0] 25)
  have b1 := Blk.new' (w.alloc (.cells #[.slice A l.length c, .int .i64 m0, .int .i64 m1, .int .i64 m2, .int .i64 m3] 25)) (w.heap.size + 1) (by simp) 25 #[.slice none 0 0, .int .i64 0, .int .i64 0, .int .i64 0, .int .i64 0]
  have fin : Below w.heap.size w w1 := by rw [← hw1]; exact ((Below.refl _ w).alloc (Nat.le_refl _) _).alloc (by simp) _
  have hr1 : Rd 3 encH w1 w.heap.size A l := hr.below fin
  have hz : w1.heap.size = w.heap.size + 1 + 1 := by rw [← hw1]; simp
  rw [hw1] at b0 b1
  have ⟨k0, k1, k2, k3, k4⟩ := b0.c5
  have hk1' : ¬ (k : Int) < 1 := by omega
  have hk3' : ¬ (3 : Int) < k := by omega
  go_enter Try.func22, Try.ntmps22
  go_wp2_with fail
  clear hw1
  go_loopw [10, 23] (fun n i wr => ∃ j : Nat, j ≤ l.length ∧ i = .int .i64 j ∧ n = .int .i64 (countK (l.take j) k) ∧ Below w1.heap.size w1 wr)
    (fun _ i _ => l.length - (intOf i).toNat)
  case atStart => exact ⟨0, Nat.zero_le _, rfl, rfl, Below.refl _ _⟩
  case round =>
    obtain ⟨j, hj, rfl, rfl, hb⟩ := hrel
    have hzr := hb.size
    by_cases hlt : j < l.length
    · obtain ⟨b, off, x, y, z, rfl, hbB, hx, c0, c1, c2⟩ := (hr1.below' hb (by omega)).atH hlt
      have H1 := Lib.hid (countK_snoc (l.take j) (x, y, z) k)
      have H2 := Lib.hid (take_snoc' hx)
      have hle := countK_le (l.take j) k
      have hle2 : (l.take j).length ≤ j := List.length_take_le _ _
      clear hx hmk k0 k1 k2 k3 k4
      by_cases ht : (y == (k : Int)) = true
      · go_wp2
        go_roundw
        case rel => exact ⟨j + 1, by omega, by go_num, by rw [H2.out, H1.out, if_pos ht]; rfl, hb.alloc (by omega) _⟩
        case measure => simp [intOf]; omega
      · have ht' : (y == (k : Int)) = false := by simpa using ht
        have H3 := Lib.hid ht
        clear ht
        go_wp2
        go_roundw
        case rel => exact ⟨j + 1, by omega, by go_num, by rw [H2.out, H1.out, if_neg H3.out]; rfl, hb.alloc (by omega) _⟩
        case measure => simp [intOf]; omega
    · obtain rfl : j = l.length := by omega
      have c0 := b0.below hb (by omega)
      have c1 := b1.below hb (by omega)
      rw [List.take_length]
      have km := (c0.cell (1 + k)).trans hmk
      have ⟨k0, k1, k2, k3, k4⟩ := c0.c5
      have ⟨j0, j1, j2, j3, j4⟩ := c1.c5
      have f0 := c0.frz
      have f1 := c1.frz
      have hr2 : Rd 3 encH wr wr.heap.size A l := (hr1.below' hb (by omega)).more (by omega)
      have hk4 : (k : Int) < 4 := by omega
      have hk0 : (0 : Int) ≤ k := by omega
      have hzz : w.heap.size + 1 < wr.heap.size := by omega
      have hz00 : w.heap.size < wr.heap.size := by omega
      have HZ := Lib.hid hz
      have hB0 : Below w.heap.size w wr := fin.trans (hb.mono (by omega))
      clear hz hzr hmk hr1 hr b0 b1
      by_cases hm : mk ≤ (countK l k : Int)
      · go_wp2
        refine bodyPost_ret (v := .tuple #[.agg #[.slice none 0 0, .int .i64 0, .int .i64 0, .int .i64 0, .int .i64 0], .int .i64 8]) (by simp only [results, Try.results22]; go_simp) rfl ⟨fun _ => rfl, fun h => absurd hm h, ?_⟩
        iterate 5 refine Below.setCell ?_ (by (try simp) <;> omega) _
        exact hB0
      · obtain ⟨i0, hi, hz0, hz1, hz2⟩ := info_parts infoH
        have hrd := hr2.reads encH_len (by omega)
        have hrd' := hrd.alloc (Nat.le_refl _) (.cells #[] 27)
        have hb0 : (wr.alloc (.cells #[] 27)).ownsRow wr.heap.size 27 3 (.slice (some ⟨wr.heap.size, 0, none⟩) 0 0) 0 [] :=
          ⟨rfl, .inr ⟨wr.heap.size, 0, #[], rfl, Nat.le_refl _, heap_alloc_new _ _, Nat.le_refl _, by simp [maxLen], rfl, rfl⟩⟩
        clear hrd
        have e0 := c0.alloc (.cells #[] 27)
        have e1 := c1.alloc (.cells #[] 27)
        clear c0 c1
        go_wp2_with (at_builtin; refine Hid.out ?_)
        unfold Hid
        refine wpList_append_any _ rfl (.tmp 41) (.tmp 43) _ rfl wr.heap.size 27 i0 _ 3 24 Try.underlying22 hi hz0 hz1 hz2 rfl (by omega) _ 0 [] rfl hb0 wr.heap.size A l.length c _ rfl hrd' (encH_one l) (by simp only [maxLen]; omega) (by omega) (by simp) ?_
        intro v3 w3 hown3 hg3 hat3
        simp only [Nat.zero_add, List.nil_append] at hown3
        have q0 := e0.grown hg3 (fun e => by injection e with e; have : w.heap.size = wr.heap.size := e; omega)
        have q1 := e1.grown hg3 (fun e => by injection e with e; have : w.heap.size + 1 = wr.heap.size := e; omega)
        obtain ⟨A3, c3, rfl, _, _⟩ := own_shape hown3
        have hB3 : Below w.heap.size w w3 := (hB0.alloc (by omega) _).grown hg3 (by simp; omega) (fun g hg => by cases hg; exact (show w.heap.size ≤ wr.heap.size by omega))
        have hz3 : wr.heap.size < w3.heap.size := by have := hg3.size; simp at this; omega
        have hge := Lib.hid (own_ge hown3)
        clear k0 k1 k2 k3 k4 j0 j1 j2 j3 j4 f0 f1 km hb0 hrd' e0 e1 hg3 hat3
        have hone : ∀ u ∈ encH (id, (k : Int), filter), u.oneCell' = true := fun u hu => encH_one [(id, (k : Int), filter)] u (by simpa using hu)
        have hcn := cells_new w3 w3.heap.size rfl [.int .i64 id, .int .i64 k, .int .i64 filter] 27
        have hown4 := hown3.alloc (.cells #[.int .i64 id, .int .i64 k, .int .i64 filter] 27)
        have r0 := q0.alloc (.cells #[.int .i64 id, .int .i64 k, .int .i64 filter] 27)
        have r1 := q1.alloc (.cells #[.int .i64 id, .int .i64 k, .int .i64 filter] 27)
        clear q0 q1
        go_wp2_with (at_builtin; refine Hid.out ?_)
        unfold Hid
        refine wpList_append_own _ rfl (.tmp 44) (.tmp 49) 22 rfl wr.heap.size 27 i0 _ 3 24 Try.underlying22 hi hz0 hz1 hz2 rfl (by decide) _ _ _ rfl hown4 ⟨w3.heap.size, 0, none⟩ 1 1 (encH (id, (k : Int), filter)) rfl rfl hcn hone (by simp only [maxLen]; omega) (by omega) (by simp; omega) ?_
        intro v5 w5 hown5 hg5 _
        have s0 := r0.grown hg5 (fun e => by have := hge.out _ e.symm; omega)
        have s1 := r1.grown hg5 (fun e => by have := hge.out _ e.symm; omega)
        obtain ⟨A5, c5, rfl, _, _⟩ := own_shape hown5
        have hB5 : Below w.heap.size w w5 := (hB3.alloc (by omega) _).grown hg5 (by simp; omega) (fun g hg => by have := hge.out g hg; omega)
        have N0 := Lib.hid (own_blk_ne hown5 s0 (by decide))
        have N1 := Lib.hid (own_blk_ne hown5 s1 (by decide))
        obtain ⟨k0, k1, k2, k3, k4⟩ := s0.c5
        obtain ⟨j0, j1, j2, j3, j4⟩ := s1.c5
        have f0 := s0.frz
        have f1 := s1.frz
        clear s0 s1 r0 r1 hg5 hown3 hown4 hcn
        go_wp2
        refine bodyPost_ret (v := .tuple #[.agg #[.slice A5 (l.length + 1) c5, .int .i64 m0, .int .i64 m1, .int .i64 m2, .int .i64 m3], .int .i64 0]) (by simp only [results, Try.results22]; go_simp) rfl ⟨fun h => absurd h (by omega), fun _ => ⟨A5, c5, rfl, ?_⟩, ?_⟩
        · refine own_mono ?_ (show w.heap.size ≤ wr.heap.size by omega)
          iterate 5 refine own_setCell ?_ N1.out _
          exact own_setCell hown5 N0.out _
        · iterate 6 refine Below.setCell ?_ (by (try simp) <;> omega) _
          exact hB5

/-- the reference's Take, at any kind: what takeP says -/
theorem reftake_any (A : Option Addr) (c : Nat) (l : List (Int × Int × Int)) (m0 m1 m2 m3 id kind filter : Int) (w : World) (hr : Rd 3 encH w w.heap.size A l) (hn : l.length * 24 + 24 ≤ 140737488355328) :
    Calls Try.prog 22 #[.agg #[.slice A l.length c, .int .i64 m0, .int .i64 m1, .int .i64 m2, .int .i64 m3], .int .i64 id, .int .i64 kind, .int .i64 filter] w fun e w' =>
      ∃ A' c', e = .returned (.tuple #[ledV A' c' (takeP (l, m0, m1, m2, m3) id kind filter).1, .int .i64 (takeP (l, m0, m1, m2, m3) id kind filter).2]) ∧ Rd 3 encH w' w'.heap.size A' (takeP (l, m0, m1, m2, m3) id kind filter).1.1 ∧ Below w.heap.size w w' := by
  by_cases hk : kind < 1 ∨ 3 < kind
  · rw [takeP, if_pos hk]
    exact (reftake_no1 A c l m0 m1 m2 m3 id kind filter w hk).mono fun e w' ⟨he, hb⟩ => ⟨none, 0, he, Rd.nil_, hb⟩
  · obtain ⟨k, rfl⟩ : ∃ k : Nat, kind = k := ⟨kind.toNat, by omega⟩
    have hmk : ∃ mk, mostP (l, m0, m1, m2, m3) k = mk ∧ #[Value.slice A l.length c, .int .i64 m0, .int .i64 m1, .int .i64 m2, .int .i64 m3][1 + k]? = some (.int .i64 mk) := by
      rcases (show k = 1 ∨ k = 2 ∨ k = 3 by omega) with rfl | rfl | rfl
      · exact ⟨m1, rfl, rfl⟩
      · exact ⟨m2, rfl, rfl⟩
      · exact ⟨m3, rfl, rfl⟩
    obtain ⟨mk, h1, h2⟩ := hmk
    have hc := reftake_rest A c l m0 m1 m2 m3 id filter k w hr hn (by omega) (by omega) mk h2
    by_cases hm : mk ≤ (countK l k : Int)
    · have ht : takeP (l, m0, m1, m2, m3) id k filter = (led0, 8) := by rw [takeP, if_neg hk, h1, if_pos hm]
      rw [ht]
      exact hc.mono fun e w' h => ⟨none, 0, h.1 hm, Rd.nil_, h.2.2⟩
    · have ht : takeP (l, m0, m1, m2, m3) id k filter = ((l ++ [(id, (k : Int), filter)], m0, m1, m2, m3), 0) := by rw [takeP, if_neg hk, h1, if_neg hm]
      rw [ht]
      refine hc.mono fun e w' h => ?_
      obtain ⟨A', c', he, ho⟩ := h.2.1 hm
      have hl : (l ++ [((id, (k : Int), filter) : Int × Int × Int)]).length = l.length + 1 := by simp
      refine ⟨A', c', by rw [he]; simp only [ledV, hl], Rd.of_own (c := c') (base := w.heap.size) (e := 27) encH_len ?_, h.2.2⟩
      rw [hl, show (l ++ [((id, (k : Int), filter) : Int × Int × Int)]).flatMap encH = l.flatMap encH ++ encH (id, (k : Int), filter) by simp]
      exact ho
end Go.Proofs.Ytmcjgfoaiannoaa
