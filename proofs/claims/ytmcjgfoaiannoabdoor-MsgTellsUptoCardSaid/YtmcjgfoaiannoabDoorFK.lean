/-
  Faults' names and states: what Kind.Error, Kind, Status, Is of the reference and New answer. Condition: the kind is an int of 64 bits.
-/
import Derived.Test.YtmcjgfoaiannoabDoorFrame
import Derived.Test.YtmcjgfoaiannoabDoorBase
import Derived.Maps.OwnOps
import Derived.Maps.OwnSet
import Derived.Maps.Views
namespace Go.Proofs.YtmcjgfoaiannoabDoor
open Go.RowKit Go.Maps

/-- a kind's name -/
def nameP (k : Int) : ByteArray :=
  if k = 1 then ⟨#[102, 97, 105, 108]⟩ else
  if k = 2 then ⟨#[112, 97, 110, 105, 99]⟩ else
  if k = 3 then ⟨#[102, 97, 116, 97, 108]⟩ else
  if k = 4 then ⟨#[117, 112, 115, 116, 114, 101, 97, 109]⟩ else
  if k = 5 then ⟨#[111, 118, 101, 114, 108, 111, 97, 100]⟩ else
  if k = 6 then ⟨#[110, 111, 32, 117, 112, 115, 116, 114, 101, 97, 109]⟩ else
  if k = 7 then ⟨#[114, 101, 108, 101, 97, 115, 101]⟩ else
  ⟨#[63]⟩
theorem nameP_no {k : Int} (h : k < 1 ∨ 7 < k) : nameP k = ⟨#[63]⟩ := by
  unfold nameP
  rw [if_neg (show ¬ k = 1 by omega), if_neg (show ¬ k = 2 by omega), if_neg (show ¬ k = 3 by omega), if_neg (show ¬ k = 4 by omega), if_neg (show ¬ k = 5 by omega), if_neg (show ¬ k = 6 by omega), if_neg (show ¬ k = 7 by omega)]
theorem nameP_size (k : Int) : (nameP k).size ≤ 16 := by
  unfold nameP
  repeat' split
  all_goals decide
/-- a kind's state -/
def statP (k : Int) : Int := if k = 1 then 400 else if k = 4 then 502 else if k = 5 then 503 else if k = 6 then 504 else 500

abbrev kindsC : Array Value := #[.string ⟨#[102, 97, 105, 108]⟩, .string ⟨#[112, 97, 110, 105, 99]⟩, .string ⟨#[102, 97, 116, 97, 108]⟩, .string ⟨#[117, 112, 115, 116, 114, 101, 97, 109]⟩, .string ⟨#[111, 118, 101, 114, 108, 111, 97, 100]⟩, .string ⟨#[110, 111, 32, 117, 112, 115, 116, 114, 101, 97, 109]⟩, .string ⟨#[114, 101, 108, 101, 97, 115, 101]⟩]
theorem kinds_any (w : World) : Calls Tryd.prog 79 #[] w fun e w' => e = .returned (.slice (some ⟨w.heap.size, 0, none⟩) 7 7) ∧ w' = w.alloc (.cells kindsC 9) := by
  go_enter Tryd.func79, Tryd.ntmps79
  go_wp2
  go_ret
  exact ⟨rfl, rfl⟩
set_option maxRecDepth 100000 in
theorem error_any (k : Int) (w : World) : Calls Tryd.prog 58 #[.int .i64 k] w fun e w' => e = .returned (.string (nameP k)) ∧ Below w.heap.size w w' := by
  have hB0 := Below.refl w.heap.size w
  by_cases h1 : k < 1
  · rw [nameP_no (.inl h1)]
    go_enter Tryd.func58, Tryd.ntmps58
    go_wp2
    go_ret
    exact ⟨rfl, hB0⟩
  have hB1 := hB0.alloc (Nat.le_refl _) (.cells kindsC 9)
  by_cases h7 : 7 < k
  · rw [nameP_no (.inr h7)]
    go_enter Tryd.func58, Tryd.ntmps58
    go_wp2_with (go_at_call 79; refine (kinds_any _).mono ?_; rintro e w1 ⟨rfl, rfl⟩)
    go_ret
    exact ⟨rfl, hB1⟩
  obtain ⟨W1, hW1⟩ : ∃ W, W = w.alloc (.cells kindsC 9) := ⟨_, rfl⟩
  obtain ⟨W2, hW2⟩ : ∃ W, W = W1.alloc (.cells kindsC 9) := ⟨_, rfl⟩
  rw [← hW1] at hB1
  have hB2 : Below w.heap.size w W2 := by rw [hW2]; exact hB1.alloc hB1.size _
  have bk : Blk W2 W1.heap.size 9 kindsC := by rw [hW2]; exact Blk.new _ _ _
  have q0 := bk.cell 0
  have q1 := bk.cell 1
  have q2 := bk.cell 2
  have q3 := bk.cell 3
  have q4 := bk.cell 4
  have q5 := bk.cell 5
  have q6 := bk.cell 6
  simp at q0 q1 q2 q3 q4 q5 q6
  rcases (show k = 1 ∨ k = 2 ∨ k = 3 ∨ k = 4 ∨ k = 5 ∨ k = 6 ∨ k = 7 by omega) with rfl | rfl | rfl | rfl | rfl | rfl | rfl
  all_goals
    go_enter Tryd.func58, Tryd.ntmps58
    go_wp2_with (go_at_call 79; refine (kinds_any _).mono ?_; rintro e w1 ⟨rfl, rfl⟩)
    go_ret
    rw [hW2, hW1] at hB2
    exact ⟨rfl, hB2⟩

theorem mkeyI : Keyed Tryd.prog 3 := int_keyed Tryd.underlying3
theorem mkeyB : Keyed Tryd.prog 4 := bool_keyed Tryd.underlying4
theorem mzeroS (w : World) : (zeroValue 9).run Tryd.prog w = .ok (.string ⟨#[]⟩) w := by kernel_rfl
theorem mzeroI (w : World) : (zeroValue 3).run Tryd.prog w = .ok (.int .i64 0) w := by kernel_rfl
theorem plainElem_string_inv {H : Type} {P : Program} {e : TypeId} (he : P.underlying e = some .string) {v : Value} {z : DataW H × List MemPlace} (h : plainElem P e v = some z) : ∃ s : ByteArray, v = .string s ∧ z = (.lit (.string s.data.toList), []) := by
  unfold plainElem at h
  rw [he] at h
  cases v <;> simp at h
  exact ⟨_, rfl, h.2.symm⟩
theorem look_str {w : World} {b n : Nat} {D : DataW Unit} {k t : TypeId} (o : w.ownsMap Tryd.prog k (plainElem Tryd.prog 9) b n D) (K : Keyed Tryd.prog k) (ht : Tryd.prog.underlying t = some (.map k 9)) {key : Value} {kl : Lit} (hkey : keyOf Tryd.prog k key = some kl) {s : ByteArray} (hs : D.atKey kl (.lit (.string [])) = .lit (.string s.data.toList)) :
    (Instr.lookup t (.map (some b)) key false).run Tryd.prog w = .ok (.string s) w := by
  obtain ⟨v, ps, hrun, hv⟩ := o.lookup K ht (mzeroS w) (plainElem_string (s := ⟨#[]⟩) Tryd.underlying9 (by decide)) hkey
  have hs2 : D.atKey kl (.lit (.string (⟨#[]⟩ : ByteArray).data.toList)) = .lit (.string s.data.toList) := hs
  rw [hs2] at hv
  obtain ⟨s', rfl, hz⟩ := plainElem_string_inv Tryd.underlying9 hv
  simp only [Prod.mk.injEq, DataW.lit.injEq, Lit.string.injEq] at hz
  have : s = s' := by
    have h2 : s.data = s'.data := Array.toList_inj.1 hz.1
    cases s; cases s'; simp_all
  rw [this]
  exact hrun
/-- the names in a map -/
def nmMap : DataW Unit := (((((((DataW.map []).put (.int .i64 1) (.lit (.string [102, 97, 105, 108]))).put (.int .i64 2) (.lit (.string [112, 97, 110, 105, 99]))).put (.int .i64 3) (.lit (.string [102, 97, 116, 97, 108]))).put (.int .i64 4) (.lit (.string [117, 112, 115, 116, 114, 101, 97, 109]))).put (.int .i64 5) (.lit (.string [111, 118, 101, 114, 108, 111, 97, 100]))).put (.int .i64 6) (.lit (.string [110, 111, 32, 117, 112, 115, 116, 114, 101, 97, 109]))).put (.int .i64 7) (.lit (.string [114, 101, 108, 101, 97, 115, 101]))
theorem nm_in {k : Int} (h1 : ¬ k < 1) (h7 : ¬ 7 < k) : nmMap.atKey (.int .i64 k) (.lit (.string [])) = .lit (.string (nameP k).data.toList) := by
  rcases (show k = 1 ∨ k = 2 ∨ k = 3 ∨ k = 4 ∨ k = 5 ∨ k = 6 ∨ k = 7 by omega) with rfl | rfl | rfl | rfl | rfl | rfl | rfl <;> rfl
theorem int_ne {a b : Int} (h : a ≠ b) : (Lit.int .i64 a) ≠ .int .i64 b := fun e => by
  injection e with _ e
  exact h e
theorem nm_out {k : Int} (h : k < 1 ∨ 7 < k) : nmMap.atKey (.int .i64 k) (.lit (.string [])) = .lit (.string []) := by
  unfold nmMap
  rw [atKey_put_other (int_ne (show k ≠ 7 by omega)), atKey_put_other (int_ne (show k ≠ 6 by omega)), atKey_put_other (int_ne (show k ≠ 5 by omega)), atKey_put_other (int_ne (show k ≠ 4 by omega)), atKey_put_other (int_ne (show k ≠ 3 by omega)), atKey_put_other (int_ne (show k ≠ 2 by omega)), atKey_put_other (int_ne (show k ≠ 1 by omega))]
  rfl
theorem app_nil (a : ByteArray) : a ++ ⟨#[]⟩ = a := by
  show a ++ ByteArray.empty = a
  simp
def qMap : DataW Unit := ((DataW.map []).put (.bool true) (.lit (.string [63]))).put (.bool false) (.lit (.string []))
set_option maxRecDepth 100000 in
set_option maxHeartbeats 2000000 in
theorem kind_any (k : Int) (hk : (Lit.int .i64 k).wf = true) (w : World) : Calls Tryd.prog 60 #[.int .i64 k] w fun e w' => e = .returned (.string (nameP k)) ∧ Below w.heap.size w w' := by
  have hmm := @run_makeMap Tryd.prog
  obtain ⟨w0, hw0⟩ : ∃ w0, w0 = w.alloc (.map #[] 0) := ⟨_, rfl⟩
  have hB : Below w.heap.size w w0 := by rw [hw0]; exact (Below.refl _ w).alloc (Nat.le_refl _) _
  have o0 : w0.ownsMap Tryd.prog 3 (plainElem (H := Unit) Tryd.prog 9) w.heap.size 0 (.map []) := by
    rw [hw0]
    exact World.ownsMap_made _ _ _ _
  obtain ⟨w1, r1, o1, g1⟩ := o0.update mkeyI Tryd.underlying122 (by unfold maxLen; omega) (keyOf_int_mk (q := .i64) (a := 1) Tryd.underlying3 (by decide)) (plainElem_string (s := ⟨#[102, 97, 105, 108]⟩) Tryd.underlying9 (by decide))
  obtain ⟨w2, r2, o2, g2⟩ := o1.update mkeyI Tryd.underlying122 (by unfold maxLen; omega) (keyOf_int_mk (q := .i64) (a := 2) Tryd.underlying3 (by decide)) (plainElem_string (s := ⟨#[112, 97, 110, 105, 99]⟩) Tryd.underlying9 (by decide))
  obtain ⟨w3, r3, o3, g3⟩ := o2.update mkeyI Tryd.underlying122 (by unfold maxLen; omega) (keyOf_int_mk (q := .i64) (a := 3) Tryd.underlying3 (by decide)) (plainElem_string (s := ⟨#[102, 97, 116, 97, 108]⟩) Tryd.underlying9 (by decide))
  obtain ⟨w4, r4, o4, g4⟩ := o3.update mkeyI Tryd.underlying122 (by unfold maxLen; omega) (keyOf_int_mk (q := .i64) (a := 4) Tryd.underlying3 (by decide)) (plainElem_string (s := ⟨#[117, 112, 115, 116, 114, 101, 97, 109]⟩) Tryd.underlying9 (by decide))
  obtain ⟨w5, r5, o5, g5⟩ := o4.update mkeyI Tryd.underlying122 (by unfold maxLen; omega) (keyOf_int_mk (q := .i64) (a := 5) Tryd.underlying3 (by decide)) (plainElem_string (s := ⟨#[111, 118, 101, 114, 108, 111, 97, 100]⟩) Tryd.underlying9 (by decide))
  obtain ⟨w6, r6, o6, g6⟩ := o5.update mkeyI Tryd.underlying122 (by unfold maxLen; omega) (keyOf_int_mk (q := .i64) (a := 6) Tryd.underlying3 (by decide)) (plainElem_string (s := ⟨#[110, 111, 32, 117, 112, 115, 116, 114, 101, 97, 109]⟩) Tryd.underlying9 (by decide))
  obtain ⟨w7, r7, o7, g7⟩ := o6.update mkeyI Tryd.underlying122 (by unfold maxLen; omega) (keyOf_int_mk (q := .i64) (a := 7) Tryd.underlying3 (by decide)) (plainElem_string (s := ⟨#[114, 101, 108, 101, 97, 115, 101]⟩) Tryd.underlying9 (by decide))
  have hg := (((((g1.trans g2).trans g3).trans g4).trans g5).trans g6).trans g7
  have hB7 : Below w.heap.size w w7 := hB.grown hg hB.size (fun g hg => by cases hg; omega)
  obtain ⟨w8, hw8⟩ : ∃ w8, w8 = w7.alloc (.map #[] 0) := ⟨_, rfl⟩
  have hB8 : Below w.heap.size w w8 := by rw [hw8]; exact hB7.alloc hB7.size _
  have p0 : w8.ownsMap Tryd.prog 4 (plainElem (H := Unit) Tryd.prog 9) w7.heap.size 0 (.map []) := by
    rw [hw8]
    exact World.ownsMap_made _ _ _ _
  obtain ⟨w9, r9, p1, f1⟩ := p0.update mkeyB Tryd.underlying123 (by unfold maxLen; omega) (keyOf_bool_mk Tryd.underlying4 true) (plainElem_string (s := ⟨#[63]⟩) Tryd.underlying9 (by decide))
  obtain ⟨w10, r10, p2, f2⟩ := p1.update mkeyB Tryd.underlying123 (by unfold maxLen; omega) (keyOf_bool_mk Tryd.underlying4 false) (plainElem_string (s := ⟨#[]⟩) Tryd.underlying9 (by decide))
  have hB10 : Below w.heap.size w w10 := hB8.grown (f1.trans f2) hB8.size (fun g hg => by cases hg; exact hB7.size)
  have o7 : w7.ownsMap Tryd.prog 3 (plainElem Tryd.prog 9) w.heap.size 7 nmMap := o7
  have p2 : w10.ownsMap Tryd.prog 4 (plainElem Tryd.prog 9) w7.heap.size 2 qMap := p2
  by_cases h1 : k < 1
  · rw [nameP_no (.inl h1)]
    have l1 := look_str (s := ⟨#[]⟩) o7 mkeyI Tryd.underlying122 (keyOf_int_mk (q := .i64) (a := k) Tryd.underlying3 hk) (nm_out (.inl h1))
    have l2 := look_str (s := ⟨#[63]⟩) p2 mkeyB Tryd.underlying123 (keyOf_bool_mk Tryd.underlying4 true) rfl
    clear o0 o1 o2 o3 o4 o5 o6 o7 p0 p1 p2 g1 g2 g3 g4 g5 g6 g7 f1 f2 hg
    go_enter Tryd.func60, Tryd.ntmps60
    subst hw0 hw8
    go_wp2
    go_ret
    exact ⟨rfl, hB10⟩
  by_cases h7 : 7 < k
  · rw [nameP_no (.inr h7)]
    have l1 := look_str (s := ⟨#[]⟩) o7 mkeyI Tryd.underlying122 (keyOf_int_mk (q := .i64) (a := k) Tryd.underlying3 hk) (nm_out (.inr h7))
    have l2 := look_str (s := ⟨#[63]⟩) p2 mkeyB Tryd.underlying123 (keyOf_bool_mk Tryd.underlying4 true) rfl
    clear o0 o1 o2 o3 o4 o5 o6 o7 p0 p1 p2 g1 g2 g3 g4 g5 g6 g7 f1 f2 hg
    go_enter Tryd.func60, Tryd.ntmps60
    subst hw0 hw8
    go_wp2
    go_ret
    exact ⟨rfl, hB10⟩
  have l1 := look_str (s := nameP k) o7 mkeyI Tryd.underlying122 (keyOf_int_mk (q := .i64) (a := k) Tryd.underlying3 hk) (nm_in h1 h7)
  have l2 := look_str (s := ⟨#[]⟩) p2 mkeyB Tryd.underlying123 (keyOf_bool_mk Tryd.underlying4 false) rfl
  clear o0 o1 o2 o3 o4 o5 o6 o7 p0 p1 p2 g1 g2 g3 g4 g5 g6 g7 f1 f2 hg
  go_enter Tryd.func60, Tryd.ntmps60
  subst hw0 hw8
  have hsz := nameP_size k
  go_wp2
  go_ret
  exact ⟨by rw [app_nil]; rfl, hB10⟩

/-- a fault's cells -/
abbrev fltC (k fi ca : Int) (t : ByteArray) (n : Int) : Array Value := #[.int .i64 k, .int .i64 fi, .int .i64 ca, .string t, .int .i64 n]
abbrev fltV (k fi ca : Int) (t : ByteArray) (n : Int) : Value := .agg (fltC k fi ca t n)
theorem beq_eq_dec (a b : Int) : (a == b) = decide (a = b) := by
  rw [Bool.eq_iff_iff]
  simp
theorem new_any (k : Int) (w : World) : Calls Tryd.prog 17 #[.int .i64 k] w fun e w' => e = .returned (fltV k (-1) 0 ⟨#[]⟩ 0) ∧ Below w.heap.size w w' := by
  go_enter Tryd.func17, Tryd.ntmps17
  go_wp2
  have bb : Blk (w.alloc (.cells (fltC k (-1) 0 ⟨#[]⟩ 0) 23)) w.heap.size 23 (fltC k (-1) 0 ⟨#[]⟩ 0) := Blk.new _ _ _
  refine bodyPost_ret (v := fltV k (-1) 0 ⟨#[]⟩ 0) (results_cell_row (p := 2) (ty := 23) Tryd.results17 _ _ w.heap.size 23 _ (0, 0) _ rfl bb Tryd.underlying23 rfl (by kernel_rfl)) rfl ⟨rfl, (Below.refl _ w).alloc (Nat.le_refl _) _⟩
theorem refis_any (k fi ca : Int) (t : ByteArray) (n kind : Int) (w : World) : Calls Tryd.prog 14 #[fltV k fi ca t n, .int .i64 kind] w fun e w' => e = .returned (.bool (decide (k = kind) || (decide (n ≠ 0) && decide (n = kind)))) ∧ Below w.heap.size w w' := by
  have hB : Below w.heap.size w (w.alloc (.cells (fltC k fi ca t n) 23)) := (Below.refl _ w).alloc (Nat.le_refl _) _
  by_cases h1 : k = kind
  · subst h1
    go_enter Tryd.func14, Tryd.ntmps14
    go_wp2
    go_ret
    exact ⟨by simp, hB⟩
  have h1' : (k == kind) = false := by simpa using h1
  by_cases h2 : n = 0
  · subst h2
    go_enter Tryd.func14, Tryd.ntmps14
    go_wp2
    go_ret
    exact ⟨by simp [h1], hB⟩
  have h2' : (n != 0) = true := by simpa using h2
  have h2f : (n == 0) = false := by simpa using h2
  go_enter Tryd.func14, Tryd.ntmps14
  go_wp2
  go_ret
  exact ⟨by simp [h1, h2, beq_eq_dec], hB⟩
theorem status_any (k fi ca : Int) (t : ByteArray) (n : Int) (w : World) : Calls Tryd.prog 18 #[fltV k fi ca t n] w fun e w' => e = .returned (.int .i64 (statP k)) ∧ Below w.heap.size w w' := by
  have hB : Below w.heap.size w (w.alloc (.cells (fltC k fi ca t n) 23)) := (Below.refl _ w).alloc (Nat.le_refl _) _
  by_cases h1 : k = 1
  · subst h1
    go_enter Tryd.func18, Tryd.ntmps18
    go_wp2
    go_ret
    exact ⟨rfl, hB⟩
  have h1' : (k == 1) = false := by simpa using h1
  by_cases h4 : k = 4
  · subst h4
    go_enter Tryd.func18, Tryd.ntmps18
    go_wp2
    go_ret
    exact ⟨rfl, hB⟩
  have h4' : (k == 4) = false := by simpa using h4
  by_cases h5 : k = 5
  · subst h5
    go_enter Tryd.func18, Tryd.ntmps18
    go_wp2
    go_ret
    exact ⟨rfl, hB⟩
  have h5' : (k == 5) = false := by simpa using h5
  by_cases h6 : k = 6
  · subst h6
    go_enter Tryd.func18, Tryd.ntmps18
    go_wp2
    go_ret
    exact ⟨rfl, hB⟩
  have h6' : (k == 6) = false := by simpa using h6
  go_enter Tryd.func18, Tryd.ntmps18
  go_wp2
  go_ret
  exact ⟨by simp [statP, h1, h4, h5, h6], hB⟩
def stMap : DataW Unit := ((((DataW.map []).put (.int .i64 1) (.lit (.int .i64 400))).put (.int .i64 4) (.lit (.int .i64 502))).put (.int .i64 5) (.lit (.int .i64 503))).put (.int .i64 6) (.lit (.int .i64 504))
theorem st_out {k : Int} (h1 : k ≠ 1) (h4 : k ≠ 4) (h5 : k ≠ 5) (h6 : k ≠ 6) : Maps.has stMap (.int .i64 k) = false := by
  unfold stMap
  rw [has_put_other (int_ne h6), has_put_other (int_ne h5), has_put_other (int_ne h4), has_put_other (int_ne h1)]
  rfl
set_option maxRecDepth 100000 in
theorem refstatus_any (k fi ca : Int) (t : ByteArray) (n : Int) (hk : (Lit.int .i64 k).wf = true) (w : World) : Calls Tryd.prog 19 #[fltV k fi ca t n] w fun e w' => e = .returned (.int .i64 (statP k)) ∧ Below w.heap.size w w' := by
  have hmm := @run_makeMap Tryd.prog
  obtain ⟨w0, hw0⟩ : ∃ w0, w0 = (w.alloc (.cells (fltC k fi ca t n) 23)).alloc (.map #[] 0) := ⟨_, rfl⟩
  have bb : Blk w0 w.heap.size 23 (fltC k fi ca t n) := by rw [hw0]; exact (Blk.new _ _ _).alloc _
  have hB : Below w.heap.size w w0 := by rw [hw0]; exact ((Below.refl _ w).alloc (Nat.le_refl _) _).alloc (by simp) _
  have hs : (w.alloc (.cells (fltC k fi ca t n) 23)).heap.size = w.heap.size + 1 := World.size_alloc _ _
  have o0 : w0.ownsMap Tryd.prog 3 (plainElem (H := Unit) Tryd.prog 3) (w.heap.size + 1) 0 (.map []) := by
    rw [hw0, ← hs]
    exact World.ownsMap_made _ _ _ _
  obtain ⟨w1, r1, o1, g1⟩ := o0.update mkeyI Tryd.underlying79 (by unfold maxLen; omega) (keyOf_int_mk (q := .i64) (a := 1) Tryd.underlying3 (by decide)) (plainElem_int (q := .i64) (a := 400) Tryd.underlying3 (by decide))
  obtain ⟨w2, r2, o2, g2⟩ := o1.update mkeyI Tryd.underlying79 (by unfold maxLen; omega) (keyOf_int_mk (q := .i64) (a := 4) Tryd.underlying3 (by decide)) (plainElem_int (q := .i64) (a := 502) Tryd.underlying3 (by decide))
  obtain ⟨w3, r3, o3, g3⟩ := o2.update mkeyI Tryd.underlying79 (by unfold maxLen; omega) (keyOf_int_mk (q := .i64) (a := 5) Tryd.underlying3 (by decide)) (plainElem_int (q := .i64) (a := 503) Tryd.underlying3 (by decide))
  obtain ⟨w4, r4, o4, g4⟩ := o3.update mkeyI Tryd.underlying79 (by unfold maxLen; omega) (keyOf_int_mk (q := .i64) (a := 6) Tryd.underlying3 (by decide)) (plainElem_int (q := .i64) (a := 504) Tryd.underlying3 (by decide))
  have hgb := ((g1.trans g2).trans g3).trans g4
  have bb := bb.grown hgb (fun e => by injection e with e; omega)
  have k0 := bb.c5.1
  have hb4 : Below w.heap.size w w4 := hB.grown hgb hB.size (fun g hg => by cases hg; omega)
  have o4 : w4.ownsMap Tryd.prog 3 (plainElem Tryd.prog 3) (w.heap.size + 1) 4 stMap := o4
  have HL : ∃ c hs, (Instr.lookup 79 (.map (some (w.heap.size + 1))) (.int .i64 k) true).run Tryd.prog w4 = .ok (.tuple #[.int .i64 c, .bool hs]) w4 ∧ (if hs then c else 500) = statP k := by
    obtain ⟨v, ps, hrun, hv⟩ := o4.look_ok mkeyI Tryd.underlying79 (mzeroI _) (plainElem_int (q := .i64) (a := 0) Tryd.underlying3 (by decide)) (keyOf_int_mk (q := .i64) (a := k) Tryd.underlying3 hk)
    obtain ⟨c, rfl, hz, _⟩ := plainElem_int_inv Tryd.underlying3 hv
    simp only [Prod.mk.injEq] at hz
    have hat := hz.1
    refine ⟨c, _, hrun, ?_⟩
    by_cases h1 : k = 1
    · subst h1
      have hat : DataW.lit (Lit.int .i64 400) = (DataW.lit (.int .i64 c) : DataW Unit) := hat
      injection hat with hat
      injection hat with _ hat
      rw [← hat]
      rfl
    by_cases h4 : k = 4
    · subst h4
      have hat : DataW.lit (Lit.int .i64 502) = (DataW.lit (.int .i64 c) : DataW Unit) := hat
      injection hat with hat
      injection hat with _ hat
      rw [← hat]
      rfl
    by_cases h5 : k = 5
    · subst h5
      have hat : DataW.lit (Lit.int .i64 503) = (DataW.lit (.int .i64 c) : DataW Unit) := hat
      injection hat with hat
      injection hat with _ hat
      rw [← hat]
      rfl
    by_cases h6 : k = 6
    · subst h6
      have hat : DataW.lit (Lit.int .i64 504) = (DataW.lit (.int .i64 c) : DataW Unit) := hat
      injection hat with hat
      injection hat with _ hat
      rw [← hat]
      rfl
    rw [st_out h1 h4 h5 h6]
    simp [statP, h1, h4, h5, h6]
  obtain ⟨c, hs', rl, hc⟩ := HL
  clear o0 o1 o2 o3 o4 g1 g2 g3 g4 hgb bb
  cases hs'
  · rw [← hc]
    go_enter Tryd.func19, Tryd.ntmps19
    subst hw0
    go_wp2
    go_ret
    exact ⟨rfl, hb4⟩
  · rw [← hc]
    go_enter Tryd.func19, Tryd.ntmps19
    subst hw0
    go_wp2
    go_ret
    exact ⟨rfl, hb4⟩
end Go.Proofs.YtmcjgfoaiannoabDoor
