/-
  The filters' methods Ask and Answer: what each does with a message. Condition: what the message holds can be read.
-/
import Derived.Test.YtmcjgfoaiannoabDoorMRSet
import Derived.Test.YtmcjgfoaiannoabDoorFAns
namespace Go.Proofs.YtmcjgfoaiannoabDoor
open Go.RowKit Go.Lib

/-- a slice that reads as a list, in a block of a set -/
def RdS {α : Type} (k : Nat) (enc : α → List Value) (w : World) (S : Nat → Prop) (A : Option Addr) (l : List α) : Prop :=
  0 < l.length → ∃ b off, A = some ⟨b, off, none⟩ ∧ S b ∧ b < w.heap.size ∧ ∀ i x, l[i]? = some x → ∀ j u, (enc x)[j]? = some u → w.cell? ⟨b, off + i * k + j, none⟩ = some u
section
variable {α : Type} {k : Nat} {enc : α → List Value} {w w' : World} {S S' : Nat → Prop} {A : Option Addr} {l : List α}
theorem RdS.nil_ : RdS k enc w S A ([] : List α) := fun h => absurd h (by simp)
theorem RdS.rd (h : RdS k enc w S A l) : Rd k enc w w.heap.size A l := fun hl => by
  obtain ⟨b, off, e, _, hb, hc⟩ := h hl
  exact ⟨b, off, e, hb, hc⟩
theorem RdS.of_rd {lo : Nat} (h : Rd k enc w lo A l) (hlo : lo ≤ w.heap.size) : RdS k enc w (· < lo) A l := fun hl => by
  obtain ⟨b, off, e, hb, hc⟩ := h hl
  exact ⟨b, off, e, hb, by omega, hc⟩
theorem RdS.mono (h : RdS k enc w S A l) (hS : ∀ b, S b → S' b) : RdS k enc w S' A l := fun hl => by
  obtain ⟨b, off, e, hs, hb, hc⟩ := h hl
  exact ⟨b, off, e, hS b hs, hb, hc⟩
theorem RdS.below (h : RdS k enc w S A l) (hb : Below w.heap.size w w') : RdS k enc w' S A l := fun hl => by
  obtain ⟨b, off, e, hs, hlt, hc⟩ := h hl
  exact ⟨b, off, e, hs, Nat.lt_of_lt_of_le hlt hb.size, fun i x hx j u hu => (hb.cell hlt).trans (hc i x hx j u hu)⟩
theorem RdS.setCell (h : RdS k enc w S A l) {p : Addr} (hp : ¬ S p.block) (u : Value) : RdS k enc (w.setCell p u) S A l := fun hl => by
  obtain ⟨b, off, e, hs, hlt, hc⟩ := h hl
  exact ⟨b, off, e, hs, by simpa using hlt, fun i x hx j v hv => (World.cell?_setCell_other w p _ u (fun e => hp (by rw [e]; exact hs))).trans (hc i x hx j v hv)⟩
theorem RdS.set4 (h : RdS k enc w S A l) {g : Nat} (hg : ¬ S g) (u0 u1 u2 u3 : Value) : RdS k enc ((((w.setCell ⟨g, 0, none⟩ u0).setCell ⟨g, 1, none⟩ u1).setCell ⟨g, 2, none⟩ u2).setCell ⟨g, 3, none⟩ u3) S A l :=
  (((h.setCell (p := ⟨g, 0, none⟩) hg u0).setCell (p := ⟨g, 1, none⟩) hg u1).setCell (p := ⟨g, 2, none⟩) hg u2).setCell (p := ⟨g, 3, none⟩) hg u3
theorem RdS.drew (h : RdS k enc w S A l) : RdS k enc w.drew S A l := h
end
theorem OwH.rds {w : World} {base : Nat} {A : Option Addr} {c : Nat} {l : List Hd} (h : OwH w base A c l) : RdS 2 encHd w (base ≤ ·) A l := fun hl => by
  obtain ⟨b, off, e, hb, hc⟩ := h.rd hl
  subst e
  obtain ⟨g, cap, hv, _, _⟩ := World.ownsRow.form h hl
  have hg : b = g ∧ off = 0 := by injection hv with e; injection e with e; injection e with e1 e2 e3; exact ⟨e1, e2⟩
  obtain ⟨rfl, rfl⟩ := hg
  exact ⟨b, 0, rfl, own_ge h b rfl, hb, hc⟩
theorem OwY.rds {w : World} {base : Nat} {A : Option Addr} {c : Nat} {l : List UInt8} (h : OwY w base A c l) : RdS 1 encY w (base ≤ ·) A l := fun hl => by
  obtain ⟨b, off, e, hb, hc⟩ := h.rd hl
  subst e
  obtain ⟨g, cap, hv, _, _⟩ := World.ownsRow.form h hl
  have hg : b = g ∧ off = 0 := by injection hv with e; injection e with e; injection e with e1 e2 e3; exact ⟨e1, e2⟩
  obtain ⟨rfl, rfl⟩ := hg
  exact ⟨b, 0, rfl, own_ge h b rfl, hb, hc⟩
theorem Byt.rds {w : World} {g : Nat} {s : ByteArray} {base : Nat} (h : Byt w g s) (hg : base ≤ g) : RdS 1 encY w (base ≤ ·) (some ⟨g, 0, none⟩) s.data.toList := fun _ => ⟨g, 0, rfl, hg, h.1, fun i x hx j u hu => by
  obtain ⟨hi, rfl⟩ := List.getElem?_eq_some_iff.1 hx
  have hj : j = 0 := by
    have := (List.getElem?_eq_some_iff.1 hu).1
    simp [encY] at this
    exact this
  subst hj
  have e : u = .int .u8 (s.data.toList[i].toNat : Int) := by simpa [encY] using hu.symm
  rw [e]
  simpa using h.2 i hi⟩
/-- a message, as data -/
structure Mg where
  st : Int
  path : ByteArray
  l : List Hd
  bd : List UInt8
def sayM (st : Int) (s : ByteArray) : Mg := ⟨st, ⟨#[]⟩, [], s.data.toList⟩
def setM (m : Mg) (h : Hd) : Mg := ⟨m.st, m.path, setP m.l h, m.bd⟩
def tokenB : ByteArray := ⟨#[116, 111, 107, 101, 110]⟩
def limitB : ByteArray := ⟨#[108, 105, 109, 105, 116]⟩
def gateB : ByteArray := ⟨#[103, 97, 116, 101]⟩
/-- what a filter does with an ask -/
def askP (k n : Int) (h : Hd) (m : Mg) (gate : Int) : Int × Mg × Int :=
  if k = 1 then (0, setM m h, gate)
  else if k = 3 then (if getP m.l h.key = (h.text, true) then (0, m, gate) else (1, sayM 401 tokenB, gate))
  else if k = 4 then (if n < (m.bd.length : Int) then (1, sayM 413 limitB, gate) else (0, m, gate))
  else if k = 5 then (if n ≤ gate then (1, sayM 429 gateB, gate) else (0, m, gate + 1))
  else (0, m, gate)
/-- what a filter does with an answer -/
def ansP (k n : Int) (h : Hd) (m : Mg) (again : Int) : Int × Mg :=
  if k = 2 then (0, setM m h)
  else if k = 6 then (if again < n ∧ 499 < m.st then (6, m) else (0, m))
  else (0, m)
def TripOut (w : World) (S : Nat → Prop) (r : Int × Mg × Int) (e : Ending) (w' : World) : Prop :=
  ∃ A c B f, e = .returned (.tuple #[.int .i64 r.1, msgV r.2.1.st r.2.1.path A r.2.1.l.length c B r.2.1.bd.length f, .int .i64 r.2.2]) ∧ RdS 2 encHd w' S A r.2.1.l ∧ RdS 1 encY w' S B r.2.1.bd ∧ Below w.heap.size w w'
def PairOut (w : World) (S : Nat → Prop) (r : Int × Mg) (e : Ending) (w' : World) : Prop :=
  ∃ A c B f, e = .returned (.tuple #[.int .i64 r.1, msgV r.2.st r.2.path A r.2.l.length c B r.2.bd.length f]) ∧ RdS 2 encHd w' S A r.2.l ∧ RdS 1 encY w' S B r.2.bd ∧ Below w.heap.size w w'
theorem tripOut {w w' : World} {S : Nat → Prop} {r : Int × Mg × Int} {d g st : Int} {path : ByteArray} {A B : Option Addr} {n c m f : Nat} {e : Ending} (h1 : r.1 = d) (h2 : r.2.1.st = st) (h3 : r.2.1.path = path) (h4 : r.2.1.l.length = n) (h5 : r.2.1.bd.length = m) (h6 : r.2.2 = g)
    (he : e = .returned (.tuple #[.int .i64 d, msgV st path A n c B m f, .int .i64 g])) (hr : RdS 2 encHd w' S A r.2.1.l) (hy : RdS 1 encY w' S B r.2.1.bd) (hB : Below w.heap.size w w') : TripOut w S r e w' := by
  subst h1 h2 h3 h4 h5 h6
  exact ⟨A, c, B, f, he, hr, hy, hB⟩
theorem pairOut {w w' : World} {S : Nat → Prop} {r : Int × Mg} {d st : Int} {path : ByteArray} {A B : Option Addr} {n c m f : Nat} {e : Ending} (h1 : r.1 = d) (h2 : r.2.st = st) (h3 : r.2.path = path) (h4 : r.2.l.length = n) (h5 : r.2.bd.length = m)
    (he : e = .returned (.tuple #[.int .i64 d, msgV st path A n c B m f])) (hr : RdS 2 encHd w' S A r.2.l) (hy : RdS 1 encY w' S B r.2.bd) (hB : Below w.heap.size w w') : PairOut w S r e w' := by
  subst h1 h2 h3 h4 h5
  exact ⟨A, c, B, f, he, hr, hy, hB⟩
/-- the set of the blocks of a set, and of those that are new -/
abbrev orNew (S : Nat → Prop) (n : Nat) : Nat → Prop := fun b => S b ∨ n ≤ b
set_option maxRecDepth 100000 in
set_option maxHeartbeats 1000000 in
theorem asks_any (m : Mg) (A AB : Option Addr) (c cb : Nat) (S : Nat → Prop) (w : World) (hr : RdS 2 encHd w S A m.l) (hy : RdS 1 encY w S AB m.bd) (gate : Int) :
    Calls Tryd.prog 170 #[.agg #[], msgV m.st m.path A m.l.length c AB m.bd.length cb, .int .i64 gate] w (TripOut w (orNew S w.heap.size) (0, m, gate)) := by
  obtain ⟨w0, hw0⟩ : ∃ W, W = ((w.alloc (.cells #[] 157)).alloc (.cells (msgC m.st m.path A m.l.length c AB m.bd.length cb) 32)).alloc (.cells zerC 32) := ⟨_, rfl⟩
  have rb : Blk w0 w.heap.size 157 #[] := by rw [hw0]; exact ((Blk.new _ _ _).alloc _).alloc _
  have mb : Blk w0 (w.heap.size + 1) 32 (msgC m.st m.path A m.l.length c AB m.bd.length cb) := by rw [hw0]; exact (Blk.new' _ _ (by simp) _ _).alloc _
  have zb : Blk w0 (w.heap.size + 2) 32 zerC := by rw [hw0]; exact Blk.new' _ _ (by simp) _ _
  have hB : Below w.heap.size w w0 := by rw [hw0]; exact (((Below.refl _ w).alloc (Nat.le_refl _) _).alloc (by simp) _).alloc (by simp; omega) _
  have hr0 := hr.below hB
  have hy0 := hy.below hB
  have ⟨m0, m1, m2, m3⟩ := mb.c4
  have ⟨z0, z1, z2, z3⟩ := zb.c4
  have zf := zb.frz
  have zl := zb.lt
  have ml := mb.lt
  have rl := rb.lt
  obtain ⟨rv, hrv⟩ : ∃ v, v = ((0, m, gate) : Int × Mg × Int) := ⟨_, rfl⟩
  rw [← hrv]
  have HV := Lib.hid hrv
  clear hrv
  go_enter Tryd.func170, Tryd.ntmps170
  go_upto_region 1 with (fail)
  rw [← hw0]
  clear hw0
  go_region
  all_goals
    go_wp2
    have hBf : Below w.heap.size w _ := (((hB.drew.setCell (p := ⟨w.heap.size + 2, 0, none⟩) (by show w.heap.size ≤ w.heap.size + 2; omega) (.int .i64 m.st)).setCell (p := ⟨w.heap.size + 2, 1, none⟩) (by show w.heap.size ≤ w.heap.size + 2; omega) (.string m.path)).setCell (p := ⟨w.heap.size + 2, 2, none⟩) (by show w.heap.size ≤ w.heap.size + 2; omega) (.slice A m.l.length c)).setCell (p := ⟨w.heap.size + 2, 3, none⟩) (by show w.heap.size ≤ w.heap.size + 2; omega) (.slice AB m.bd.length cb)
    refine bodyPost_ret (v := .tuple #[.int .i64 0, msgV m.st m.path A m.l.length c AB m.bd.length cb, .int .i64 (gate)]) (by simp only [results, Tryd.results170]; go_simp) rfl ?_
    rw [HV.out]
    exact tripOut rfl rfl rfl rfl rfl rfl rfl ((hr.below hBf).mono fun _ => .inl) ((hy.below hBf).mono fun _ => .inl) hBf
set_option maxRecDepth 100000 in
set_option maxHeartbeats 1000000 in
theorem answers_any (m : Mg) (A AB : Option Addr) (c cb : Nat) (S : Nat → Prop) (w : World) (hr : RdS 2 encHd w S A m.l) (hy : RdS 1 encY w S AB m.bd) (gate : Int) :
    Calls Tryd.prog 171 #[.agg #[], msgV m.st m.path A m.l.length c AB m.bd.length cb, .int .i64 gate] w (PairOut w (orNew S w.heap.size) (0, m)) := by
  obtain ⟨w0, hw0⟩ : ∃ W, W = ((w.alloc (.cells #[] 158)).alloc (.cells (msgC m.st m.path A m.l.length c AB m.bd.length cb) 32)).alloc (.cells zerC 32) := ⟨_, rfl⟩
  have rb : Blk w0 w.heap.size 158 #[] := by rw [hw0]; exact ((Blk.new _ _ _).alloc _).alloc _
  have mb : Blk w0 (w.heap.size + 1) 32 (msgC m.st m.path A m.l.length c AB m.bd.length cb) := by rw [hw0]; exact (Blk.new' _ _ (by simp) _ _).alloc _
  have zb : Blk w0 (w.heap.size + 2) 32 zerC := by rw [hw0]; exact Blk.new' _ _ (by simp) _ _
  have hB : Below w.heap.size w w0 := by rw [hw0]; exact (((Below.refl _ w).alloc (Nat.le_refl _) _).alloc (by simp) _).alloc (by simp; omega) _
  have hr0 := hr.below hB
  have hy0 := hy.below hB
  have ⟨m0, m1, m2, m3⟩ := mb.c4
  have ⟨z0, z1, z2, z3⟩ := zb.c4
  have zf := zb.frz
  have zl := zb.lt
  have ml := mb.lt
  have rl := rb.lt
  obtain ⟨rv, hrv⟩ : ∃ v, v = ((0, m) : Int × Mg) := ⟨_, rfl⟩
  rw [← hrv]
  have HV := Lib.hid hrv
  clear hrv
  go_enter Tryd.func171, Tryd.ntmps171
  go_upto_region 1 with (fail)
  rw [← hw0]
  clear hw0
  go_region
  all_goals
    go_wp2
    have hBf : Below w.heap.size w _ := (((hB.drew.setCell (p := ⟨w.heap.size + 2, 0, none⟩) (by show w.heap.size ≤ w.heap.size + 2; omega) (.int .i64 m.st)).setCell (p := ⟨w.heap.size + 2, 1, none⟩) (by show w.heap.size ≤ w.heap.size + 2; omega) (.string m.path)).setCell (p := ⟨w.heap.size + 2, 2, none⟩) (by show w.heap.size ≤ w.heap.size + 2; omega) (.slice A m.l.length c)).setCell (p := ⟨w.heap.size + 2, 3, none⟩) (by show w.heap.size ≤ w.heap.size + 2; omega) (.slice AB m.bd.length cb)
    refine bodyPost_ret (v := .tuple #[.int .i64 0, msgV m.st m.path A m.l.length c AB m.bd.length cb]) (by simp only [results, Tryd.results171]; go_simp) rfl ?_
    rw [HV.out]
    exact pairOut rfl rfl rfl rfl rfl rfl ((hr.below hBf).mono fun _ => .inl) ((hy.below hBf).mono fun _ => .inl) hBf
set_option maxRecDepth 100000 in
set_option maxHeartbeats 1000000 in
theorem setAsk_any (h : Hd) (m : Mg) (A AB : Option Addr) (c cb : Nat) (S : Nat → Prop) (w : World) (hr : RdS 2 encHd w S A m.l) (hy : RdS 1 encY w S AB m.bd) (hn : m.l.length * 32 + 32 ≤ 140737488355328) (hm : m.bd.length ≤ 140737488355328) (gate : Int) :
    Calls Tryd.prog 152 #[.agg #[.string h.key, .string h.text], msgV m.st m.path A m.l.length c AB m.bd.length cb, .int .i64 gate] w (TripOut w (orNew S w.heap.size) (0, setM m h, gate)) := by
  obtain ⟨w0, hw0⟩ : ∃ W, W = ((w.alloc (.cells #[.string h.key, .string h.text] 125)).alloc (.cells (msgC m.st m.path A m.l.length c AB m.bd.length cb) 32)).alloc (.cells zerC 32) := ⟨_, rfl⟩
  have rb : Blk w0 w.heap.size 125 #[.string h.key, .string h.text] := by rw [hw0]; exact ((Blk.new _ _ _).alloc _).alloc _
  have mb : Blk w0 (w.heap.size + 1) 32 (msgC m.st m.path A m.l.length c AB m.bd.length cb) := by rw [hw0]; exact (Blk.new' _ _ (by simp) _ _).alloc _
  have zb : Blk w0 (w.heap.size + 2) 32 zerC := by rw [hw0]; exact Blk.new' _ _ (by simp) _ _
  have hB : Below w.heap.size w w0 := by rw [hw0]; exact (((Below.refl _ w).alloc (Nat.le_refl _) _).alloc (by simp) _).alloc (by simp; omega) _
  have hr0 := hr.below hB
  have hy0 := hy.below hB
  have ⟨m0, m1, m2, m3⟩ := mb.c4
  have ⟨z0, z1, z2, z3⟩ := zb.c4
  have zf := zb.frz
  have zl := zb.lt
  have ml := mb.lt
  have rl := rb.lt
  have ⟨r0, r1⟩ := rb.c2
  have hC := set_any m.st m.path A m.l c AB m.bd cb h w0 hr0.rd hy0.rd hn hm
  obtain ⟨rv, hrv⟩ : ∃ v, v = ((0, setM m h, gate) : Int × Mg × Int) := ⟨_, rfl⟩
  rw [← hrv]
  have HV := Lib.hid hrv
  clear hrv
  go_enter Tryd.func152, Tryd.ntmps152
  go_wp2_with (go_at_call 54; refine Hid.out ?_)
  rw [← hw0]
  unfold Hid
  refine hC.mono ?_
  rintro e w1 ⟨A', c', B', d', rfl, ow, hb⟩
  have zb1 := zb.below hb zl
  have hB1 := hB.trans (hb.mono hB.size)
  clear hC hw0 z0 z1 z2 z3 m0 m1 m2 m3 r0 r1 zf
  have ⟨z0, z1, z2, z3⟩ := zb1.c4
  have zf := zb1.frz
  have zl1 := zb1.lt
  go_wp2
  have hRh := ((ow.h.rds).set4 (g := w.heap.size + 2) (by omega) (.int .i64 m.st) (.string m.path) (.slice A' (setP m.l h).length c') (.slice B' m.bd.length d')).mono (S' := orNew S w.heap.size) (fun b hb => .inr (by omega))
  have hRy := ((ow.y.rds).set4 (g := w.heap.size + 2) (by omega) (.int .i64 m.st) (.string m.path) (.slice A' (setP m.l h).length c') (.slice B' m.bd.length d')).mono (S' := orNew S w.heap.size) (fun b hb => .inr (by omega))
  refine bodyPost_ret (v := .tuple #[.int .i64 0, msgV m.st m.path A' (setP m.l h).length c' B' m.bd.length d', .int .i64 gate]) (by simp only [results, Tryd.results152]; go_simp) rfl ?_
  rw [HV.out]
  refine tripOut rfl rfl rfl rfl rfl rfl rfl hRh hRy ?_
  iterate 4 refine Below.setCell ?_ (by show w.heap.size ≤ w.heap.size + 2; omega) _
  exact hB1
set_option maxRecDepth 100000 in
set_option maxHeartbeats 1000000 in
theorem markAnswer_any (h : Hd) (m : Mg) (A AB : Option Addr) (c cb : Nat) (S : Nat → Prop) (w : World) (hr : RdS 2 encHd w S A m.l) (hy : RdS 1 encY w S AB m.bd) (hn : m.l.length * 32 + 32 ≤ 140737488355328) (hm : m.bd.length ≤ 140737488355328) (gate : Int) :
    Calls Tryd.prog 153 #[.agg #[.string h.key, .string h.text], msgV m.st m.path A m.l.length c AB m.bd.length cb, .int .i64 gate] w (PairOut w (orNew S w.heap.size) (0, setM m h)) := by
  obtain ⟨w0, hw0⟩ : ∃ W, W = ((w.alloc (.cells #[.string h.key, .string h.text] 126)).alloc (.cells (msgC m.st m.path A m.l.length c AB m.bd.length cb) 32)).alloc (.cells zerC 32) := ⟨_, rfl⟩
  have rb : Blk w0 w.heap.size 126 #[.string h.key, .string h.text] := by rw [hw0]; exact ((Blk.new _ _ _).alloc _).alloc _
  have mb : Blk w0 (w.heap.size + 1) 32 (msgC m.st m.path A m.l.length c AB m.bd.length cb) := by rw [hw0]; exact (Blk.new' _ _ (by simp) _ _).alloc _
  have zb : Blk w0 (w.heap.size + 2) 32 zerC := by rw [hw0]; exact Blk.new' _ _ (by simp) _ _
  have hB : Below w.heap.size w w0 := by rw [hw0]; exact (((Below.refl _ w).alloc (Nat.le_refl _) _).alloc (by simp) _).alloc (by simp; omega) _
  have hr0 := hr.below hB
  have hy0 := hy.below hB
  have ⟨m0, m1, m2, m3⟩ := mb.c4
  have ⟨z0, z1, z2, z3⟩ := zb.c4
  have zf := zb.frz
  have zl := zb.lt
  have ml := mb.lt
  have rl := rb.lt
  have ⟨r0, r1⟩ := rb.c2
  have hC := set_any m.st m.path A m.l c AB m.bd cb h w0 hr0.rd hy0.rd hn hm
  obtain ⟨rv, hrv⟩ : ∃ v, v = ((0, setM m h) : Int × Mg) := ⟨_, rfl⟩
  rw [← hrv]
  have HV := Lib.hid hrv
  clear hrv
  go_enter Tryd.func153, Tryd.ntmps153
  go_wp2_with (go_at_call 54; refine Hid.out ?_)
  rw [← hw0]
  unfold Hid
  refine hC.mono ?_
  rintro e w1 ⟨A', c', B', d', rfl, ow, hb⟩
  have zb1 := zb.below hb zl
  have hB1 := hB.trans (hb.mono hB.size)
  clear hC hw0 z0 z1 z2 z3 m0 m1 m2 m3 r0 r1 zf
  have ⟨z0, z1, z2, z3⟩ := zb1.c4
  have zf := zb1.frz
  have zl1 := zb1.lt
  go_wp2
  have hRh := ((ow.h.rds).set4 (g := w.heap.size + 2) (by omega) (.int .i64 m.st) (.string m.path) (.slice A' (setP m.l h).length c') (.slice B' m.bd.length d')).mono (S' := orNew S w.heap.size) (fun b hb => .inr (by omega))
  have hRy := ((ow.y.rds).set4 (g := w.heap.size + 2) (by omega) (.int .i64 m.st) (.string m.path) (.slice A' (setP m.l h).length c') (.slice B' m.bd.length d')).mono (S' := orNew S w.heap.size) (fun b hb => .inr (by omega))
  refine bodyPost_ret (v := .tuple #[.int .i64 0, msgV m.st m.path A' (setP m.l h).length c' B' m.bd.length d']) (by simp only [results, Tryd.results153]; go_simp) rfl ?_
  rw [HV.out]
  refine pairOut rfl rfl rfl rfl rfl rfl hRh hRy ?_
  iterate 4 refine Below.setCell ?_ (by show w.heap.size ≤ w.heap.size + 2; omega) _
  exact hB1
set_option maxRecDepth 100000 in
set_option maxHeartbeats 2000000 in
theorem limitAsk_any (n : Int) (m : Mg) (A AB : Option Addr) (c cb : Nat) (S : Nat → Prop) (w : World) (hr : RdS 2 encHd w S A m.l) (hy : RdS 1 encY w S AB m.bd) (gate : Int) :
    Calls Tryd.prog 155 #[.agg #[.int .i64 n], msgV m.st m.path A m.l.length c AB m.bd.length cb, .int .i64 gate] w (TripOut w (orNew S w.heap.size) (if n < (m.bd.length : Int) then (1, sayM 413 limitB, gate) else (0, m, gate))) := by
  obtain ⟨w0, hw0⟩ : ∃ W, W = ((w.alloc (.cells #[.int .i64 n] 129)).alloc (.cells (msgC m.st m.path A m.l.length c AB m.bd.length cb) 32)).alloc (.cells zerC 32) := ⟨_, rfl⟩
  have rb : Blk w0 w.heap.size 129 #[.int .i64 n] := by rw [hw0]; exact ((Blk.new _ _ _).alloc _).alloc _
  have mb : Blk w0 (w.heap.size + 1) 32 (msgC m.st m.path A m.l.length c AB m.bd.length cb) := by rw [hw0]; exact (Blk.new' _ _ (by simp) _ _).alloc _
  have zb : Blk w0 (w.heap.size + 2) 32 zerC := by rw [hw0]; exact Blk.new' _ _ (by simp) _ _
  have hB : Below w.heap.size w w0 := by rw [hw0]; exact (((Below.refl _ w).alloc (Nat.le_refl _) _).alloc (by simp) _).alloc (by simp; omega) _
  have hr0 := hr.below hB
  have hy0 := hy.below hB
  have ⟨m0, m1, m2, m3⟩ := mb.c4
  have ⟨z0, z1, z2, z3⟩ := zb.c4
  have zf := zb.frz
  have zl := zb.lt
  have ml := mb.lt
  have rl := rb.lt
  have r0 := rb.c1
  by_cases hlt : n < (m.bd.length : Int)
  · rw [if_pos hlt]
    obtain ⟨rv, hrv⟩ : ∃ v, v = ((1, sayM 413 limitB, gate) : Int × Mg × Int) := ⟨_, rfl⟩
    rw [← hrv]
    have HV := Lib.hid hrv
    clear hrv
    have hC := answer_any 413 limitB w0
    go_enter Tryd.func155, Tryd.ntmps155
    go_wp2_with (go_at_call 50; refine Hid.out ?_)
    rw [← hw0]
    clear hw0
    unfold Hid
    refine (answer_any 413 limitB w0).mono ?_
    rintro e w2 ⟨g, f, rfl, hby, hgl, hb⟩
    have zb2 := zb.below hb zl
    have hB2 := hB.trans (hb.mono hB.size)
    clear z0 z1 z2 z3 m0 m1 m2 m3 zf
    have ⟨z0, z1, z2, z3⟩ := zb2.c4
    have zf := zb2.frz
    have zl2 := zb2.lt
    go_wp2
    have hRy := ((hby.rds hgl).set4 (g := w.heap.size + 2) (by omega) (.int .i64 413) (.string ⟨#[]⟩) (.slice none 0 0) (.slice (some ⟨g, 0, none⟩) (limitB).size f)).mono (S' := orNew S w.heap.size) (fun b hb => .inr (by omega))
    refine bodyPost_ret (v := .tuple #[.int .i64 1, msgV 413 ⟨#[]⟩ none 0 0 (some ⟨g, 0, none⟩) (limitB).size f, .int .i64 gate]) (by simp only [results, Tryd.results155]; go_simp) rfl ?_
    rw [HV.out]
    refine tripOut rfl rfl rfl rfl rfl rfl rfl RdS.nil_ hRy ?_
    iterate 4 refine Below.setCell ?_ (by show w.heap.size ≤ w.heap.size + 2; omega) _
    exact hB2
  · rw [if_neg hlt]
    obtain ⟨rv, hrv⟩ : ∃ v, v = ((0, m, gate) : Int × Mg × Int) := ⟨_, rfl⟩
    rw [← hrv]
    have HV := Lib.hid hrv
    clear hrv
    go_enter Tryd.func155, Tryd.ntmps155
    go_upto_region 3 with (fail)
    rw [← hw0]
    clear hw0
    go_region
    all_goals
      go_wp2
      have hBf : Below w.heap.size w _ := (((hB.drew.setCell (p := ⟨w.heap.size + 2, 0, none⟩) (by show w.heap.size ≤ w.heap.size + 2; omega) (.int .i64 m.st)).setCell (p := ⟨w.heap.size + 2, 1, none⟩) (by show w.heap.size ≤ w.heap.size + 2; omega) (.string m.path)).setCell (p := ⟨w.heap.size + 2, 2, none⟩) (by show w.heap.size ≤ w.heap.size + 2; omega) (.slice A m.l.length c)).setCell (p := ⟨w.heap.size + 2, 3, none⟩) (by show w.heap.size ≤ w.heap.size + 2; omega) (.slice AB m.bd.length cb)
      refine bodyPost_ret (v := .tuple #[.int .i64 0, msgV m.st m.path A m.l.length c AB m.bd.length cb, .int .i64 (gate)]) (by simp only [results, Tryd.results155]; go_simp) rfl ?_
      rw [HV.out]
      exact tripOut rfl rfl rfl rfl rfl rfl rfl ((hr.below hBf).mono fun _ => .inl) ((hy.below hBf).mono fun _ => .inl) hBf
set_option maxRecDepth 100000 in
set_option maxHeartbeats 2000000 in
theorem gateAskM_any (n : Int) (m : Mg) (A AB : Option Addr) (c cb : Nat) (S : Nat → Prop) (w : World) (hr : RdS 2 encHd w S A m.l) (hy : RdS 1 encY w S AB m.bd) (gate : Int) (hg1 : -1000000 ≤ gate) (hg2 : gate ≤ 1000000) :
    Calls Tryd.prog 156 #[.agg #[.int .i64 n], msgV m.st m.path A m.l.length c AB m.bd.length cb, .int .i64 gate] w (TripOut w (orNew S w.heap.size) (if n ≤ gate then (1, sayM 429 gateB, gate) else (0, m, gate + 1))) := by
  obtain ⟨w0, hw0⟩ : ∃ W, W = ((w.alloc (.cells #[.int .i64 n] 130)).alloc (.cells (msgC m.st m.path A m.l.length c AB m.bd.length cb) 32)).alloc (.cells zerC 32) := ⟨_, rfl⟩
  have rb : Blk w0 w.heap.size 130 #[.int .i64 n] := by rw [hw0]; exact ((Blk.new _ _ _).alloc _).alloc _
  have mb : Blk w0 (w.heap.size + 1) 32 (msgC m.st m.path A m.l.length c AB m.bd.length cb) := by rw [hw0]; exact (Blk.new' _ _ (by simp) _ _).alloc _
  have zb : Blk w0 (w.heap.size + 2) 32 zerC := by rw [hw0]; exact Blk.new' _ _ (by simp) _ _
  have hB : Below w.heap.size w w0 := by rw [hw0]; exact (((Below.refl _ w).alloc (Nat.le_refl _) _).alloc (by simp) _).alloc (by simp; omega) _
  have hr0 := hr.below hB
  have hy0 := hy.below hB
  have ⟨m0, m1, m2, m3⟩ := mb.c4
  have ⟨z0, z1, z2, z3⟩ := zb.c4
  have zf := zb.frz
  have zl := zb.lt
  have ml := mb.lt
  have rl := rb.lt
  have r0 := rb.c1
  by_cases hlt : n ≤ gate
  · rw [if_pos hlt]
    obtain ⟨rv, hrv⟩ : ∃ v, v = ((1, sayM 429 gateB, gate) : Int × Mg × Int) := ⟨_, rfl⟩
    rw [← hrv]
    have HV := Lib.hid hrv
    clear hrv
    go_enter Tryd.func156, Tryd.ntmps156
    go_wp2_with (go_at_call 50; refine Hid.out ?_)
    rw [← hw0]
    clear hw0
    unfold Hid
    refine (answer_any 429 gateB w0).mono ?_
    rintro e w2 ⟨g, f, rfl, hby, hgl, hb⟩
    have zb2 := zb.below hb zl
    have hB2 := hB.trans (hb.mono hB.size)
    clear z0 z1 z2 z3 m0 m1 m2 m3 zf
    have ⟨z0, z1, z2, z3⟩ := zb2.c4
    have zf := zb2.frz
    have zl2 := zb2.lt
    go_wp2
    have hRy := ((hby.rds hgl).set4 (g := w.heap.size + 2) (by omega) (.int .i64 429) (.string ⟨#[]⟩) (.slice none 0 0) (.slice (some ⟨g, 0, none⟩) (gateB).size f)).mono (S' := orNew S w.heap.size) (fun b hb => .inr (by omega))
    refine bodyPost_ret (v := .tuple #[.int .i64 1, msgV 429 ⟨#[]⟩ none 0 0 (some ⟨g, 0, none⟩) (gateB).size f, .int .i64 gate]) (by simp only [results, Tryd.results156]; go_simp) rfl ?_
    rw [HV.out]
    refine tripOut rfl rfl rfl rfl rfl rfl rfl RdS.nil_ hRy ?_
    iterate 4 refine Below.setCell ?_ (by show w.heap.size ≤ w.heap.size + 2; omega) _
    exact hB2
  · rw [if_neg hlt]
    have hwr : IntKind.i64.wrap (gate + 1) = gate + 1 := IntWalk.i64_in _ (by omega)
    obtain ⟨rv, hrv⟩ : ∃ v, v = ((0, m, gate + 1) : Int × Mg × Int) := ⟨_, rfl⟩
    rw [← hrv]
    have HV := Lib.hid hrv
    clear hrv
    go_enter Tryd.func156, Tryd.ntmps156
    go_upto_region 3 with (fail)
    rw [← hw0]
    clear hw0
    go_region
    all_goals
      go_wp2
      have hBf : Below w.heap.size w _ := (((hB.drew.setCell (p := ⟨w.heap.size + 2, 0, none⟩) (by show w.heap.size ≤ w.heap.size + 2; omega) (.int .i64 m.st)).setCell (p := ⟨w.heap.size + 2, 1, none⟩) (by show w.heap.size ≤ w.heap.size + 2; omega) (.string m.path)).setCell (p := ⟨w.heap.size + 2, 2, none⟩) (by show w.heap.size ≤ w.heap.size + 2; omega) (.slice A m.l.length c)).setCell (p := ⟨w.heap.size + 2, 3, none⟩) (by show w.heap.size ≤ w.heap.size + 2; omega) (.slice AB m.bd.length cb)
      refine bodyPost_ret (v := .tuple #[.int .i64 0, msgV m.st m.path A m.l.length c AB m.bd.length cb, .int .i64 (gate + 1)]) (by simp only [results, Tryd.results156]; go_simp) rfl ?_
      rw [HV.out]
      exact tripOut rfl rfl rfl rfl rfl rfl rfl ((hr.below hBf).mono fun _ => .inl) ((hy.below hBf).mono fun _ => .inl) hBf
set_option maxRecDepth 100000 in
set_option maxHeartbeats 2000000 in
theorem retryAnswer_any (n : Int) (m : Mg) (A AB : Option Addr) (c cb : Nat) (S : Nat → Prop) (w : World) (hr : RdS 2 encHd w S A m.l) (hy : RdS 1 encY w S AB m.bd) (again : Int) :
    Calls Tryd.prog 157 #[.agg #[.int .i64 n], msgV m.st m.path A m.l.length c AB m.bd.length cb, .int .i64 again] w (PairOut w (orNew S w.heap.size) (if again < n ∧ 499 < m.st then (6, m) else (0, m))) := by
  obtain ⟨w0, hw0⟩ : ∃ W, W = ((w.alloc (.cells #[.int .i64 n] 131)).alloc (.cells (msgC m.st m.path A m.l.length c AB m.bd.length cb) 32)).alloc (.cells zerC 32) := ⟨_, rfl⟩
  have rb : Blk w0 w.heap.size 131 #[.int .i64 n] := by rw [hw0]; exact ((Blk.new _ _ _).alloc _).alloc _
  have mb : Blk w0 (w.heap.size + 1) 32 (msgC m.st m.path A m.l.length c AB m.bd.length cb) := by rw [hw0]; exact (Blk.new' _ _ (by simp) _ _).alloc _
  have zb : Blk w0 (w.heap.size + 2) 32 zerC := by rw [hw0]; exact Blk.new' _ _ (by simp) _ _
  have hB : Below w.heap.size w w0 := by rw [hw0]; exact (((Below.refl _ w).alloc (Nat.le_refl _) _).alloc (by simp) _).alloc (by simp; omega) _
  have hr0 := hr.below hB
  have hy0 := hy.below hB
  have ⟨m0, m1, m2, m3⟩ := mb.c4
  have ⟨z0, z1, z2, z3⟩ := zb.c4
  have zf := zb.frz
  have zl := zb.lt
  have ml := mb.lt
  have rl := rb.lt
  have r0 := rb.c1
  by_cases h5 : 500 ≤ m.st
  · by_cases hlt : again < n
    · rw [if_pos ⟨hlt, by omega⟩]
      obtain ⟨rv, hrv⟩ : ∃ v, v = ((6, m) : Int × Mg) := ⟨_, rfl⟩
      rw [← hrv]
      have HV := Lib.hid hrv
      clear hrv
      go_enter Tryd.func157, Tryd.ntmps157
      go_upto_region 2 with (fail)
      rw [← hw0]
      clear hw0
      go_region
      all_goals
        go_wp2
        have hBf : Below w.heap.size w _ := (((hB.drew.setCell (p := ⟨w.heap.size + 2, 0, none⟩) (by show w.heap.size ≤ w.heap.size + 2; omega) (.int .i64 m.st)).setCell (p := ⟨w.heap.size + 2, 1, none⟩) (by show w.heap.size ≤ w.heap.size + 2; omega) (.string m.path)).setCell (p := ⟨w.heap.size + 2, 2, none⟩) (by show w.heap.size ≤ w.heap.size + 2; omega) (.slice A m.l.length c)).setCell (p := ⟨w.heap.size + 2, 3, none⟩) (by show w.heap.size ≤ w.heap.size + 2; omega) (.slice AB m.bd.length cb)
        refine bodyPost_ret (v := .tuple #[.int .i64 6, msgV m.st m.path A m.l.length c AB m.bd.length cb]) (by simp only [results, Tryd.results157]; go_simp) rfl ?_
        rw [HV.out]
        exact pairOut rfl rfl rfl rfl rfl rfl ((hr.below hBf).mono fun _ => .inl) ((hy.below hBf).mono fun _ => .inl) hBf
    · rw [if_neg (fun h => hlt h.1)]
      obtain ⟨rv, hrv⟩ : ∃ v, v = ((0, m) : Int × Mg) := ⟨_, rfl⟩
      rw [← hrv]
      have HV := Lib.hid hrv
      clear hrv
      go_enter Tryd.func157, Tryd.ntmps157
      go_upto_region 3 with (fail)
      rw [← hw0]
      clear hw0
      go_region
      all_goals
        go_wp2
        have hBf : Below w.heap.size w _ := (((hB.drew.setCell (p := ⟨w.heap.size + 2, 0, none⟩) (by show w.heap.size ≤ w.heap.size + 2; omega) (.int .i64 m.st)).setCell (p := ⟨w.heap.size + 2, 1, none⟩) (by show w.heap.size ≤ w.heap.size + 2; omega) (.string m.path)).setCell (p := ⟨w.heap.size + 2, 2, none⟩) (by show w.heap.size ≤ w.heap.size + 2; omega) (.slice A m.l.length c)).setCell (p := ⟨w.heap.size + 2, 3, none⟩) (by show w.heap.size ≤ w.heap.size + 2; omega) (.slice AB m.bd.length cb)
        refine bodyPost_ret (v := .tuple #[.int .i64 0, msgV m.st m.path A m.l.length c AB m.bd.length cb]) (by simp only [results, Tryd.results157]; go_simp) rfl ?_
        rw [HV.out]
        exact pairOut rfl rfl rfl rfl rfl rfl ((hr.below hBf).mono fun _ => .inl) ((hy.below hBf).mono fun _ => .inl) hBf
  · rw [if_neg (fun h => h5 (by omega))]
    obtain ⟨rv, hrv⟩ : ∃ v, v = ((0, m) : Int × Mg) := ⟨_, rfl⟩
    rw [← hrv]
    have HV := Lib.hid hrv
    clear hrv
    go_enter Tryd.func157, Tryd.ntmps157
    go_upto_region 3 with (fail)
    rw [← hw0]
    clear hw0
    go_region
    all_goals
      go_wp2
      have hBf : Below w.heap.size w _ := (((hB.drew.setCell (p := ⟨w.heap.size + 2, 0, none⟩) (by show w.heap.size ≤ w.heap.size + 2; omega) (.int .i64 m.st)).setCell (p := ⟨w.heap.size + 2, 1, none⟩) (by show w.heap.size ≤ w.heap.size + 2; omega) (.string m.path)).setCell (p := ⟨w.heap.size + 2, 2, none⟩) (by show w.heap.size ≤ w.heap.size + 2; omega) (.slice A m.l.length c)).setCell (p := ⟨w.heap.size + 2, 3, none⟩) (by show w.heap.size ≤ w.heap.size + 2; omega) (.slice AB m.bd.length cb)
      refine bodyPost_ret (v := .tuple #[.int .i64 0, msgV m.st m.path A m.l.length c AB m.bd.length cb]) (by simp only [results, Tryd.results157]; go_simp) rfl ?_
      rw [HV.out]
      exact pairOut rfl rfl rfl rfl rfl rfl ((hr.below hBf).mono fun _ => .inl) ((hy.below hBf).mono fun _ => .inl) hBf
set_option maxRecDepth 100000 in
set_option maxHeartbeats 2000000 in
theorem tokenAsk_any (h : Hd) (m : Mg) (A AB : Option Addr) (c cb : Nat) (S : Nat → Prop) (w : World) (hr : RdS 2 encHd w S A m.l) (hy : RdS 1 encY w S AB m.bd) (hn : m.l.length ≤ 140737488355328) (gate : Int) :
    Calls Tryd.prog 154 #[.agg #[.string h.key, .string h.text], msgV m.st m.path A m.l.length c AB m.bd.length cb, .int .i64 gate] w (TripOut w (orNew S w.heap.size) (if getP m.l h.key = (h.text, true) then (0, m, gate) else (1, sayM 401 tokenB, gate))) := by
  obtain ⟨w0, hw0⟩ : ∃ W, W = ((w.alloc (.cells #[.string h.key, .string h.text] 127)).alloc (.cells (msgC m.st m.path A m.l.length c AB m.bd.length cb) 32)).alloc (.cells zerC 32) := ⟨_, rfl⟩
  have rb : Blk w0 w.heap.size 127 #[.string h.key, .string h.text] := by rw [hw0]; exact ((Blk.new _ _ _).alloc _).alloc _
  have mb : Blk w0 (w.heap.size + 1) 32 (msgC m.st m.path A m.l.length c AB m.bd.length cb) := by rw [hw0]; exact (Blk.new' _ _ (by simp) _ _).alloc _
  have zb : Blk w0 (w.heap.size + 2) 32 zerC := by rw [hw0]; exact Blk.new' _ _ (by simp) _ _
  have hB : Below w.heap.size w w0 := by rw [hw0]; exact (((Below.refl _ w).alloc (Nat.le_refl _) _).alloc (by simp) _).alloc (by simp; omega) _
  have hr0 := hr.below hB
  have hy0 := hy.below hB
  have ⟨m0, m1, m2, m3⟩ := mb.c4
  have ⟨z0, z1, z2, z3⟩ := zb.c4
  have zf := zb.frz
  have zl := zb.lt
  have ml := mb.lt
  have rl := rb.lt
  have ⟨r0, r1⟩ := rb.c2
  have hC := get_any m.st m.path A AB m.l c m.bd.length cb h.key w0 hr0.rd hn
  obtain ⟨gp, hgp⟩ : ∃ p, p = getP m.l h.key := ⟨_, rfl⟩
  rw [← hgp] at hC ⊢
  clear hgp
  obtain ⟨t, ok⟩ := gp
  unfold gtup at hC
  cases ok
  · rw [if_neg (by simp)]
    obtain ⟨rv, hrv⟩ : ∃ v, v = ((1, sayM 401 tokenB, gate) : Int × Mg × Int) := ⟨_, rfl⟩
    rw [← hrv]
    have HV := Lib.hid hrv
    clear hrv
    go_enter Tryd.func154, Tryd.ntmps154
    go_wp2_with (go_at_call 52; refine Hid.out ?_)
    rw [← hw0]
    clear hw0
    unfold Hid
    refine hC.mono ?_
    rintro e w1 ⟨rfl, hb1⟩
    clear m0 m1 m2 m3 z0 z1 z2 z3 zf r0 r1 hC
    have zb := zb.below hb1 zl
    have hB := hB.trans (hb1.mono hB.size)
    have ⟨z0, z1, z2, z3⟩ := zb.c4
    have mb := mb.below hb1 ml
    have ⟨m0, m1, m2, m3⟩ := mb.c4
    have zf := zb.frz
    have zl := zb.lt
    go_wp2_with (go_at_call 50; refine Hid.out ?_)
    unfold Hid
    refine (answer_any 401 tokenB w1).mono ?_
    rintro e w2 ⟨g, f, rfl, hby, hgl, hb⟩
    have zb2 := zb.below hb zl
    have hB2 := hB.trans (hb.mono hB.size)
    clear z0 z1 z2 z3 m0 m1 m2 m3 zf
    have ⟨z0, z1, z2, z3⟩ := zb2.c4
    have zf := zb2.frz
    have zl2 := zb2.lt
    go_wp2
    have hRy := ((hby.rds hgl).set4 (g := w.heap.size + 2) (by omega) (.int .i64 401) (.string ⟨#[]⟩) (.slice none 0 0) (.slice (some ⟨g, 0, none⟩) (tokenB).size f)).mono (S' := orNew S w.heap.size) (fun b hb => .inr (by omega))
    refine bodyPost_ret (v := .tuple #[.int .i64 1, msgV 401 ⟨#[]⟩ none 0 0 (some ⟨g, 0, none⟩) (tokenB).size f, .int .i64 gate]) (by simp only [results, Tryd.results154]; go_simp) rfl ?_
    rw [HV.out]
    refine tripOut rfl rfl rfl rfl rfl rfl rfl RdS.nil_ hRy ?_
    iterate 4 refine Below.setCell ?_ (by show w.heap.size ≤ w.heap.size + 2; omega) _
    exact hB2
  · by_cases he : t = h.text
    · rw [if_pos (by rw [he])]
      obtain ⟨rv, hrv⟩ : ∃ v, v = ((0, m, gate) : Int × Mg × Int) := ⟨_, rfl⟩
      rw [← hrv]
      have HV := Lib.hid hrv
      clear hrv
      have hq := str_yes he
      clear he
      go_enter Tryd.func154, Tryd.ntmps154
      go_wp2_with (go_at_call 52; refine Hid.out ?_)
      rw [← hw0]
      clear hw0
      unfold Hid
      refine hC.mono ?_
      rintro e w1 ⟨rfl, hb1⟩
      clear m0 m1 m2 m3 z0 z1 z2 z3 zf r0 r1 hC
      have zb := zb.below hb1 zl
      have rb := rb.below hb1 rl
      have mb := mb.below hb1 ml
      have hB := hB.trans (hb1.mono hB.size)
      have ⟨r0, r1⟩ := rb.c2
      have ⟨m0, m1, m2, m3⟩ := mb.c4
      have ⟨z0, z1, z2, z3⟩ := zb.c4
      have zf := zb.frz
      have zl := zb.lt
      have ml := mb.lt
      go_upto_region 4 with fail
      go_region
      all_goals
        go_wp2
        have hBf : Below w.heap.size w _ := (((hB.drew.setCell (p := ⟨w.heap.size + 2, 0, none⟩) (by show w.heap.size ≤ w.heap.size + 2; omega) (.int .i64 m.st)).setCell (p := ⟨w.heap.size + 2, 1, none⟩) (by show w.heap.size ≤ w.heap.size + 2; omega) (.string m.path)).setCell (p := ⟨w.heap.size + 2, 2, none⟩) (by show w.heap.size ≤ w.heap.size + 2; omega) (.slice A m.l.length c)).setCell (p := ⟨w.heap.size + 2, 3, none⟩) (by show w.heap.size ≤ w.heap.size + 2; omega) (.slice AB m.bd.length cb)
        refine bodyPost_ret (v := .tuple #[.int .i64 0, msgV m.st m.path A m.l.length c AB m.bd.length cb, .int .i64 (gate)]) (by simp only [results, Tryd.results154]; go_simp) rfl ?_
        rw [HV.out]
        exact tripOut rfl rfl rfl rfl rfl rfl rfl ((hr.below hBf).mono fun _ => .inl) ((hy.below hBf).mono fun _ => .inl) hBf
    · rw [if_neg (fun e => he (by injection e))]
      obtain ⟨rv, hrv⟩ : ∃ v, v = ((1, sayM 401 tokenB, gate) : Int × Mg × Int) := ⟨_, rfl⟩
      rw [← hrv]
      have HV := Lib.hid hrv
      clear hrv
      have hq := str_no he
      clear he
      go_enter Tryd.func154, Tryd.ntmps154
      go_wp2_with (go_at_call 52; refine Hid.out ?_)
      rw [← hw0]
      clear hw0
      unfold Hid
      refine hC.mono ?_
      rintro e w1 ⟨rfl, hb1⟩
      clear m0 m1 m2 m3 z0 z1 z2 z3 zf r0 r1 hC
      have zb := zb.below hb1 zl
      have rb := rb.below hb1 rl
      have mb := mb.below hb1 ml
      have hB := hB.trans (hb1.mono hB.size)
      have ⟨r0, r1⟩ := rb.c2
      have ⟨m0, m1, m2, m3⟩ := mb.c4
      have ⟨z0, z1, z2, z3⟩ := zb.c4
      have zf := zb.frz
      have zl := zb.lt
      go_wp2_with (go_at_call 50; refine Hid.out ?_)
      unfold Hid
      refine (answer_any 401 tokenB w1).mono ?_
      rintro e w2 ⟨g, f, rfl, hby, hgl, hb⟩
      have zb2 := zb.below hb zl
      have hB2 := hB.trans (hb.mono hB.size)
      clear z0 z1 z2 z3 m0 m1 m2 m3 zf
      have ⟨z0, z1, z2, z3⟩ := zb2.c4
      have zf := zb2.frz
      have zl2 := zb2.lt
      go_wp2
      have hRy := ((hby.rds hgl).set4 (g := w.heap.size + 2) (by omega) (.int .i64 401) (.string ⟨#[]⟩) (.slice none 0 0) (.slice (some ⟨g, 0, none⟩) (tokenB).size f)).mono (S' := orNew S w.heap.size) (fun b hb => .inr (by omega))
      refine bodyPost_ret (v := .tuple #[.int .i64 1, msgV 401 ⟨#[]⟩ none 0 0 (some ⟨g, 0, none⟩) (tokenB).size f, .int .i64 gate]) (by simp only [results, Tryd.results154]; go_simp) rfl ?_
      rw [HV.out]
      refine tripOut rfl rfl rfl rfl rfl rfl rfl RdS.nil_ hRy ?_
      iterate 4 refine Below.setCell ?_ (by show w.heap.size ≤ w.heap.size + 2; omega) _
      exact hB2
end Go.Proofs.YtmcjgfoaiannoabDoor
