/-
  Worlds as data: where their slices lie, what is kept of them, and what Own, Ask and Back make of them. No condition.
-/
import Derived.Test.YtmcjgfoaiannoaaPoolOwn
namespace Go.Proofs.Ytmcjgfoaiannoaa
open Go.RowKit

structure WA where
  A : Option Addr
  Ag : Option Addr
  Af : Option Addr
  Aq : Option Addr
  Am : Option Addr
  c : Nat
  cg : Nat
  cf : Nat
  cq : Nat
  cm : Nat
structure WD where
  l : List (Int × Int × Int)
  m0 : Int
  m1 : Int
  m2 : Int
  m3 : Int
  g : List Int
  f : List Int
  q : List Int
  m : List (Int × Int × Int)
abbrev wV (a : WA) (D : WD) : Value := .agg #[.slice a.A D.l.length a.c, .int .i64 D.m0, .int .i64 D.m1, .int .i64 D.m2, .int .i64 D.m3, .slice a.Ag D.g.length a.cg, .slice a.Af D.f.length a.cf, .slice a.Aq D.q.length a.cq, .slice a.Am D.m.length a.cm]
abbrev wC (a : WA) (D : WD) : Array Value := #[.slice a.A D.l.length a.c, .int .i64 D.m0, .int .i64 D.m1, .int .i64 D.m2, .int .i64 D.m3, .slice a.Ag D.g.length a.cg, .slice a.Af D.f.length a.cf, .slice a.Aq D.q.length a.cq, .slice a.Am D.m.length a.cm]
def wa0 : WA := ⟨none, none, none, none, none, 0, 0, 0, 0, 0⟩
def wd0 : WD := ⟨[], 0, 0, 0, 0, [], [], [], []⟩
/-- what a world's slices take, in bounds that the reach pays -/
structure Fit (D : WD) : Prop where
  l : D.l.length * 24 + 24 ≤ 140737488355328
  g : D.g.length * 8 ≤ 140737488355328
  f : D.f.length * 8 ≤ 140737488355328
  q : D.q.length * 8 + 8 ≤ 140737488355328
  m : D.m.length * 24 ≤ 140737488355328
/-- its slices read so, in blocks below B -/
structure RdW (w : World) (B : Nat) (a : WA) (D : WD) : Prop where
  l : Rd 3 encH w B a.A D.l
  g : Rd 1 encI w B a.Ag D.g
  f : Rd 1 encI w B a.Af D.f
  q : Rd 1 encI w B a.Aq D.q
  m : Rd 3 encH w B a.Am D.m
/-- its slices lie in rows of their own -/
structure OwW (w : World) (B : Nat) (a : WA) (D : WD) : Prop where
  l : Ow w B a.A a.c D.l
  g : OwI w B a.Ag a.cg D.g
  f : OwI w B a.Af a.cf D.f
  q : OwI w B a.Aq a.cq D.q
  m : OwM w B a.Am a.cm D.m
/-- a list that is older than block B, or lies in a row of its own -/
def Hd {α : Type} (t : TypeId) (k : Nat) (enc : α → List Value) (w : World) (B : Nat) (A : Option Addr) (c : Nat) (l : List α) : Prop :=
  (Rd k enc w B A l ∧ B ≤ w.heap.size) ∨ w.ownsRow 0 t k (.slice A l.length c) l.length (l.flatMap enc)
structure HdW (w : World) (B : Nat) (a : WA) (D : WD) : Prop where
  l : Hd 27 3 encH w B a.A a.c D.l
  g : Hd 3 1 encI w B a.Ag a.cg D.g
  f : Hd 3 1 encI w B a.Af a.cf D.f
  q : Hd 3 1 encI w B a.Aq a.cq D.q
  m : Hd 82 3 encH w B a.Am a.cm D.m
section
variable {w w' : World} {B B' : Nat} {a : WA} {D : WD}
theorem RdW.nil_ : RdW w B wa0 wd0 := ⟨Rd.nil_, Rd.nil_, Rd.nil_, Rd.nil_, Rd.nil_⟩
theorem RdW.more (h : RdW w B a D) (hB : B ≤ B') : RdW w B' a D := ⟨h.l.more hB, h.g.more hB, h.f.more hB, h.q.more hB, h.m.more hB⟩
theorem RdW.below (h : RdW w B a D) (hb : Below B' w w') (hB : B ≤ B') : RdW w' B a D := ⟨h.l.below' hb hB, h.g.below' hb hB, h.f.below' hb hB, h.q.below' hb hB, h.m.below' hb hB⟩
theorem RdW.up (h : RdW w w.heap.size a D) (hb : Below w.heap.size w w') : RdW w' w'.heap.size a D := (h.below hb (Nat.le_refl _)).more hb.size
theorem RdW.alloc (h : RdW w B a D) (hB : B ≤ w.heap.size) (o : Obj) : RdW (w.alloc o) B a D := ⟨h.l.alloc hB o, h.g.alloc hB o, h.f.alloc hB o, h.q.alloc hB o, h.m.alloc hB o⟩
theorem RdW.setCell (h : RdW w B a D) {p : Addr} (hB : B ≤ p.block) (u : Value) : RdW (w.setCell p u) B a D := ⟨h.l.setCell hB u, h.g.setCell hB u, h.f.setCell hB u, h.q.setCell hB u, h.m.setCell hB u⟩
theorem OwW.nil_ : OwW w B wa0 wd0 := ⟨Ow.nil_, World.ownsRow_nil _ _ _ _, World.ownsRow_nil _ _ _ _, World.ownsRow_nil _ _ _ _, World.ownsRow_nil _ _ _ _⟩
theorem OwW.rd (h : OwW w B a D) : RdW w w.heap.size a D := ⟨h.l.rd, h.g.rd, h.f.rd, h.q.rd, h.m.rd⟩
theorem OwW.below (h : OwW w B a D) (hb : Below w.heap.size w w') : OwW w' B a D := ⟨h.l.below hb, h.g.below hb, h.f.below hb, h.q.below hb, h.m.below hb⟩
theorem OwW.alloc (h : OwW w B a D) (o : Obj) : OwW (w.alloc o) B a D := ⟨h.l.alloc o, h.g.alloc o, h.f.alloc o, h.q.alloc o, h.m.alloc o⟩
theorem OwW.more (h : OwW w B a D) (hB : B' ≤ B) : OwW w B' a D := ⟨h.l.more hB, h.g.more hB, h.f.more hB, h.q.more hB, h.m.more hB⟩
theorem OwW.set_ (h : OwW w B a D) {g i : Nat} {t : TypeId} {cs : Array Value} (hg : Blk w g t cs) (h1 : (27 : TypeId) ≠ t) (h2 : (3 : TypeId) ≠ t) (h3 : (82 : TypeId) ≠ t) (u : Value) : OwW (w.setCell ⟨g, i, none⟩ u) B a D :=
  ⟨h.l.set_ hg h1 u, h.g.set_ hg h2 u, h.f.set_ hg h2 u, h.q.set_ hg h2 u, h.m.set_ hg h3 u⟩
variable {α : Type} {t : TypeId} {k : Nat} {enc : α → List Value} {A : Option Addr} {c : Nat} {l : List α}
theorem Hd.of_own (h : w.ownsRow B t k (.slice A l.length c) l.length (l.flatMap enc)) : Hd t k enc w B' A c l := .inr (own_mono h (Nat.zero_le _))
theorem Hd.of_rd (h : Rd k enc w B A l) (hB : B ≤ w.heap.size) : Hd t k enc w B A c l := .inl ⟨h, hB⟩
theorem Hd.rd (hk : ∀ x, (enc x).length = k) (h : Hd t k enc w B A c l) : Rd k enc w w.heap.size A l := by
  rcases h with ⟨h, hB⟩ | h
  · exact h.more hB
  · exact Rd.of_own hk h
theorem Hd.below (h : Hd t k enc w B A c l) (hb : Below w.heap.size w w') : Hd t k enc w' B A c l := by
  rcases h with ⟨h, hB⟩ | h
  · exact .inl ⟨h.below' hb hB, Nat.le_trans hB hb.size⟩
  · exact .inr (own_below h hb (own_lt h))
theorem Hd.alloc (h : Hd t k enc w B A c l) (o : Obj) : Hd t k enc (w.alloc o) B A c l := h.below ((Below.refl _ w).alloc (Nat.le_refl _) o)
theorem Hd.set_ (h : Hd t k enc w B A c l) {g i : Nat} {t' : TypeId} {cs : Array Value} (hg : Blk w g t' cs) (hB : B ≤ g) (ht : t ≠ t') (u : Value) : Hd t k enc (w.setCell ⟨g, i, none⟩ u) B A c l := by
  rcases h with ⟨h, hB'⟩ | h
  · exact .inl ⟨h.setCell (p := ⟨g, i, none⟩) hB u, by simpa using hB'⟩
  · exact .inr (own_setCell h (own_blk_ne h hg ht) u)
theorem OwW.hd (h : OwW w B a D) : HdW w B' a D := ⟨Hd.of_own h.l, Hd.of_own h.g, Hd.of_own h.f, Hd.of_own h.q, Hd.of_own h.m⟩
theorem RdW.hd (h : RdW w B a D) (hB : B ≤ w.heap.size) : HdW w B a D := ⟨.of_rd h.l hB, .of_rd h.g hB, .of_rd h.f hB, .of_rd h.q hB, .of_rd h.m hB⟩
theorem HdW.rd (h : HdW w B a D) : RdW w w.heap.size a D := ⟨h.l.rd encH_len, h.g.rd encI_len, h.f.rd encI_len, h.q.rd encI_len, h.m.rd encH_len⟩
theorem HdW.below (h : HdW w B a D) (hb : Below w.heap.size w w') : HdW w' B a D := ⟨h.l.below hb, h.g.below hb, h.f.below hb, h.q.below hb, h.m.below hb⟩
theorem HdW.alloc (h : HdW w B a D) (o : Obj) : HdW (w.alloc o) B a D := h.below ((Below.refl _ w).alloc (Nat.le_refl _) o)
theorem HdW.set_ (h : HdW w B a D) {g i : Nat} {t : TypeId} {cs : Array Value} (hg : Blk w g t cs) (hB : B ≤ g) (h1 : (27 : TypeId) ≠ t) (h2 : (3 : TypeId) ≠ t) (h3 : (82 : TypeId) ≠ t) (u : Value) : HdW (w.setCell ⟨g, i, none⟩ u) B a D :=
  ⟨h.l.set_ hg hB h1 u, h.g.set_ hg hB h2 u, h.f.set_ hg hB h2 u, h.q.set_ hg hB h2 u, h.m.set_ hg hB h3 u⟩
end
theorem Blk.setL {w : World} {g : Nat} {t : TypeId} {xs : List Value} (h : Blk w g t xs.toArray) (i : Nat) (u : Value) : Blk (w.setCell ⟨g, i, none⟩ u) g t (xs.set i u).toArray := by
  have := h.set_ i u
  rwa [List.setIfInBounds_toArray] at this
theorem below_put5 {B : Nat} {w0 w : World} (h : Below B w0 w) {g : Nat} (hg : B ≤ g) (v0 v1 v2 v3 v4 : Value) : Below B w0 (World.setCell (World.setCell (World.setCell (World.setCell (World.setCell w ⟨g, 0, none⟩ v0) ⟨g, 1, none⟩ v1) ⟨g, 2, none⟩ v2) ⟨g, 3, none⟩ v3) ⟨g, 4, none⟩ v4) := by
  iterate 5 refine Below.setCell ?_ hg _
  exact h
theorem Blk.farP5 {w : World} {g' : Nat} {t : TypeId} {cs : Array Value} (h : Blk w g' t cs) {g : Nat} (hg : g' ≠ g) (v0 v1 v2 v3 v4 : Value) : Blk (World.setCell (World.setCell (World.setCell (World.setCell (World.setCell w ⟨g, 0, none⟩ v0) ⟨g, 1, none⟩ v1) ⟨g, 2, none⟩ v2) ⟨g, 3, none⟩ v3) ⟨g, 4, none⟩ v4) g' t cs := by
  iterate 5 refine Blk.far ?_ hg _
  exact h
theorem Blk.put5 {w : World} {g : Nat} {t : TypeId} {x0 x1 x2 x3 x4 : Value} (h : Blk w g t #[x0, x1, x2, x3, x4]) (v0 v1 v2 v3 v4 : Value) : Blk (World.setCell (World.setCell (World.setCell (World.setCell (World.setCell w ⟨g, 0, none⟩ v0) ⟨g, 1, none⟩ v1) ⟨g, 2, none⟩ v2) ⟨g, 3, none⟩ v3) ⟨g, 4, none⟩ v4) g t #[v0, v1, v2, v3, v4] := (((((h.setL 0 v0).setL 1 v1).setL 2 v2).setL 3 v3).setL 4 v4)
theorem OwW.put5 {w : World} {B : Nat} {a : WA} {D : WD} (h : OwW w B a D) {g : Nat} {t : TypeId} {cs : Array Value} (hg : Blk w g t cs) (h1 : (27 : TypeId) ≠ t) (h2 : (3 : TypeId) ≠ t) (h3 : (82 : TypeId) ≠ t) (v0 v1 v2 v3 v4 : Value) : OwW (World.setCell (World.setCell (World.setCell (World.setCell (World.setCell w ⟨g, 0, none⟩ v0) ⟨g, 1, none⟩ v1) ⟨g, 2, none⟩ v2) ⟨g, 3, none⟩ v3) ⟨g, 4, none⟩ v4) B a D :=
  (((((h.set_ hg h1 h2 h3 v0).set_ (hg.set_ 0 v0) h1 h2 h3 v1).set_ ((hg.set_ 0 v0).set_ 1 v1) h1 h2 h3 v2).set_ (((hg.set_ 0 v0).set_ 1 v1).set_ 2 v2) h1 h2 h3 v3).set_ ((((hg.set_ 0 v0).set_ 1 v1).set_ 2 v2).set_ 3 v3) h1 h2 h3 v4)
theorem HdW.put5 {w : World} {B : Nat} {a : WA} {D : WD} (h : HdW w B a D) {g : Nat} {t : TypeId} {cs : Array Value} (hg : Blk w g t cs) (hB : B ≤ g) (h1 : (27 : TypeId) ≠ t) (h2 : (3 : TypeId) ≠ t) (h3 : (82 : TypeId) ≠ t) (v0 v1 v2 v3 v4 : Value) : HdW (World.setCell (World.setCell (World.setCell (World.setCell (World.setCell w ⟨g, 0, none⟩ v0) ⟨g, 1, none⟩ v1) ⟨g, 2, none⟩ v2) ⟨g, 3, none⟩ v3) ⟨g, 4, none⟩ v4) B a D :=
  (((((h.set_ hg hB h1 h2 h3 v0).set_ (hg.set_ 0 v0) hB h1 h2 h3 v1).set_ ((hg.set_ 0 v0).set_ 1 v1) hB h1 h2 h3 v2).set_ (((hg.set_ 0 v0).set_ 1 v1).set_ 2 v2) hB h1 h2 h3 v3).set_ ((((hg.set_ 0 v0).set_ 1 v1).set_ 2 v2).set_ 3 v3) hB h1 h2 h3 v4)
theorem Ow.put5 {w : World} {B : Nat} {A : Option Addr} {c : Nat} {l : List (Int × Int × Int)} (h : Ow w B A c l) {g : Nat} {t : TypeId} {cs : Array Value} (hg : Blk w g t cs) (h1 : (27 : TypeId) ≠ t) (v0 v1 v2 v3 v4 : Value) : Ow (World.setCell (World.setCell (World.setCell (World.setCell (World.setCell w ⟨g, 0, none⟩ v0) ⟨g, 1, none⟩ v1) ⟨g, 2, none⟩ v2) ⟨g, 3, none⟩ v3) ⟨g, 4, none⟩ v4) B A c l :=
  (((((h.set_ hg h1 v0).set_ (hg.set_ 0 v0) h1 v1).set_ ((hg.set_ 0 v0).set_ 1 v1) h1 v2).set_ (((hg.set_ 0 v0).set_ 1 v1).set_ 2 v2) h1 v3).set_ ((((hg.set_ 0 v0).set_ 1 v1).set_ 2 v2).set_ 3 v3) h1 v4)
theorem OwI.put5 {w : World} {B : Nat} {A : Option Addr} {c : Nat} {l : List Int} (h : OwI w B A c l) {g : Nat} {t : TypeId} {cs : Array Value} (hg : Blk w g t cs) (h1 : (3 : TypeId) ≠ t) (v0 v1 v2 v3 v4 : Value) : OwI (World.setCell (World.setCell (World.setCell (World.setCell (World.setCell w ⟨g, 0, none⟩ v0) ⟨g, 1, none⟩ v1) ⟨g, 2, none⟩ v2) ⟨g, 3, none⟩ v3) ⟨g, 4, none⟩ v4) B A c l :=
  (((((h.set_ hg h1 v0).set_ (hg.set_ 0 v0) h1 v1).set_ ((hg.set_ 0 v0).set_ 1 v1) h1 v2).set_ (((hg.set_ 0 v0).set_ 1 v1).set_ 2 v2) h1 v3).set_ ((((hg.set_ 0 v0).set_ 1 v1).set_ 2 v2).set_ 3 v3) h1 v4)
theorem OwM.put5 {w : World} {B : Nat} {A : Option Addr} {c : Nat} {l : List (Int × Int × Int)} (h : OwM w B A c l) {g : Nat} {t : TypeId} {cs : Array Value} (hg : Blk w g t cs) (h1 : (82 : TypeId) ≠ t) (v0 v1 v2 v3 v4 : Value) : OwM (World.setCell (World.setCell (World.setCell (World.setCell (World.setCell w ⟨g, 0, none⟩ v0) ⟨g, 1, none⟩ v1) ⟨g, 2, none⟩ v2) ⟨g, 3, none⟩ v3) ⟨g, 4, none⟩ v4) B A c l :=
  (((((h.set_ hg h1 v0).set_ (hg.set_ 0 v0) h1 v1).set_ ((hg.set_ 0 v0).set_ 1 v1) h1 v2).set_ (((hg.set_ 0 v0).set_ 1 v1).set_ 2 v2) h1 v3).set_ ((((hg.set_ 0 v0).set_ 1 v1).set_ 2 v2).set_ 3 v3) h1 v4)
theorem Rd.put5 {α : Type} {k : Nat} {enc : α → List Value} {w : World} {B : Nat} {A : Option Addr} {l : List α} (h : Rd k enc w B A l) {g : Nat} (hg : B ≤ g) (v0 v1 v2 v3 v4 : Value) : Rd k enc (World.setCell (World.setCell (World.setCell (World.setCell (World.setCell w ⟨g, 0, none⟩ v0) ⟨g, 1, none⟩ v1) ⟨g, 2, none⟩ v2) ⟨g, 3, none⟩ v3) ⟨g, 4, none⟩ v4) B A l := by
  iterate 5 refine Rd.setCell ?_ hg _
  exact h
theorem RdW.put5 {w : World} {B : Nat} {a : WA} {D : WD} (h : RdW w B a D) {g : Nat} (hg : B ≤ g) (v0 v1 v2 v3 v4 : Value) : RdW (World.setCell (World.setCell (World.setCell (World.setCell (World.setCell w ⟨g, 0, none⟩ v0) ⟨g, 1, none⟩ v1) ⟨g, 2, none⟩ v2) ⟨g, 3, none⟩ v3) ⟨g, 4, none⟩ v4) B a D := ⟨h.l.put5 hg v0 v1 v2 v3 v4, h.g.put5 hg v0 v1 v2 v3 v4, h.f.put5 hg v0 v1 v2 v3 v4, h.q.put5 hg v0 v1 v2 v3 v4, h.m.put5 hg v0 v1 v2 v3 v4⟩
theorem size_put5 {w : World} {g : Nat} (v0 v1 v2 v3 v4 : Value) : (World.heap (World.setCell (World.setCell (World.setCell (World.setCell (World.setCell w ⟨g, 0, none⟩ v0) ⟨g, 1, none⟩ v1) ⟨g, 2, none⟩ v2) ⟨g, 3, none⟩ v3) ⟨g, 4, none⟩ v4)).size = w.heap.size := by simp
theorem below_put9 {B : Nat} {w0 w : World} (h : Below B w0 w) {g : Nat} (hg : B ≤ g) (v0 v1 v2 v3 v4 v5 v6 v7 v8 : Value) : Below B w0 (World.setCell (World.setCell (World.setCell (World.setCell (World.setCell (World.setCell (World.setCell (World.setCell (World.setCell w ⟨g, 0, none⟩ v0) ⟨g, 1, none⟩ v1) ⟨g, 2, none⟩ v2) ⟨g, 3, none⟩ v3) ⟨g, 4, none⟩ v4) ⟨g, 5, none⟩ v5) ⟨g, 6, none⟩ v6) ⟨g, 7, none⟩ v7) ⟨g, 8, none⟩ v8) := by
  iterate 9 refine Below.setCell ?_ hg _
  exact h
theorem Blk.farP9 {w : World} {g' : Nat} {t : TypeId} {cs : Array Value} (h : Blk w g' t cs) {g : Nat} (hg : g' ≠ g) (v0 v1 v2 v3 v4 v5 v6 v7 v8 : Value) : Blk (World.setCell (World.setCell (World.setCell (World.setCell (World.setCell (World.setCell (World.setCell (World.setCell (World.setCell w ⟨g, 0, none⟩ v0) ⟨g, 1, none⟩ v1) ⟨g, 2, none⟩ v2) ⟨g, 3, none⟩ v3) ⟨g, 4, none⟩ v4) ⟨g, 5, none⟩ v5) ⟨g, 6, none⟩ v6) ⟨g, 7, none⟩ v7) ⟨g, 8, none⟩ v8) g' t cs := by
  iterate 9 refine Blk.far ?_ hg _
  exact h
theorem Blk.put9 {w : World} {g : Nat} {t : TypeId} {x0 x1 x2 x3 x4 x5 x6 x7 x8 : Value} (h : Blk w g t #[x0, x1, x2, x3, x4, x5, x6, x7, x8]) (v0 v1 v2 v3 v4 v5 v6 v7 v8 : Value) : Blk (World.setCell (World.setCell (World.setCell (World.setCell (World.setCell (World.setCell (World.setCell (World.setCell (World.setCell w ⟨g, 0, none⟩ v0) ⟨g, 1, none⟩ v1) ⟨g, 2, none⟩ v2) ⟨g, 3, none⟩ v3) ⟨g, 4, none⟩ v4) ⟨g, 5, none⟩ v5) ⟨g, 6, none⟩ v6) ⟨g, 7, none⟩ v7) ⟨g, 8, none⟩ v8) g t #[v0, v1, v2, v3, v4, v5, v6, v7, v8] := (((((((((h.setL 0 v0).setL 1 v1).setL 2 v2).setL 3 v3).setL 4 v4).setL 5 v5).setL 6 v6).setL 7 v7).setL 8 v8)
theorem OwW.put9 {w : World} {B : Nat} {a : WA} {D : WD} (h : OwW w B a D) {g : Nat} {t : TypeId} {cs : Array Value} (hg : Blk w g t cs) (h1 : (27 : TypeId) ≠ t) (h2 : (3 : TypeId) ≠ t) (h3 : (82 : TypeId) ≠ t) (v0 v1 v2 v3 v4 v5 v6 v7 v8 : Value) : OwW (World.setCell (World.setCell (World.setCell (World.setCell (World.setCell (World.setCell (World.setCell (World.setCell (World.setCell w ⟨g, 0, none⟩ v0) ⟨g, 1, none⟩ v1) ⟨g, 2, none⟩ v2) ⟨g, 3, none⟩ v3) ⟨g, 4, none⟩ v4) ⟨g, 5, none⟩ v5) ⟨g, 6, none⟩ v6) ⟨g, 7, none⟩ v7) ⟨g, 8, none⟩ v8) B a D :=
  (((((((((h.set_ hg h1 h2 h3 v0).set_ (hg.set_ 0 v0) h1 h2 h3 v1).set_ ((hg.set_ 0 v0).set_ 1 v1) h1 h2 h3 v2).set_ (((hg.set_ 0 v0).set_ 1 v1).set_ 2 v2) h1 h2 h3 v3).set_ ((((hg.set_ 0 v0).set_ 1 v1).set_ 2 v2).set_ 3 v3) h1 h2 h3 v4).set_ (((((hg.set_ 0 v0).set_ 1 v1).set_ 2 v2).set_ 3 v3).set_ 4 v4) h1 h2 h3 v5).set_ ((((((hg.set_ 0 v0).set_ 1 v1).set_ 2 v2).set_ 3 v3).set_ 4 v4).set_ 5 v5) h1 h2 h3 v6).set_ (((((((hg.set_ 0 v0).set_ 1 v1).set_ 2 v2).set_ 3 v3).set_ 4 v4).set_ 5 v5).set_ 6 v6) h1 h2 h3 v7).set_ ((((((((hg.set_ 0 v0).set_ 1 v1).set_ 2 v2).set_ 3 v3).set_ 4 v4).set_ 5 v5).set_ 6 v6).set_ 7 v7) h1 h2 h3 v8)
theorem HdW.put9 {w : World} {B : Nat} {a : WA} {D : WD} (h : HdW w B a D) {g : Nat} {t : TypeId} {cs : Array Value} (hg : Blk w g t cs) (hB : B ≤ g) (h1 : (27 : TypeId) ≠ t) (h2 : (3 : TypeId) ≠ t) (h3 : (82 : TypeId) ≠ t) (v0 v1 v2 v3 v4 v5 v6 v7 v8 : Value) : HdW (World.setCell (World.setCell (World.setCell (World.setCell (World.setCell (World.setCell (World.setCell (World.setCell (World.setCell w ⟨g, 0, none⟩ v0) ⟨g, 1, none⟩ v1) ⟨g, 2, none⟩ v2) ⟨g, 3, none⟩ v3) ⟨g, 4, none⟩ v4) ⟨g, 5, none⟩ v5) ⟨g, 6, none⟩ v6) ⟨g, 7, none⟩ v7) ⟨g, 8, none⟩ v8) B a D :=
  (((((((((h.set_ hg hB h1 h2 h3 v0).set_ (hg.set_ 0 v0) hB h1 h2 h3 v1).set_ ((hg.set_ 0 v0).set_ 1 v1) hB h1 h2 h3 v2).set_ (((hg.set_ 0 v0).set_ 1 v1).set_ 2 v2) hB h1 h2 h3 v3).set_ ((((hg.set_ 0 v0).set_ 1 v1).set_ 2 v2).set_ 3 v3) hB h1 h2 h3 v4).set_ (((((hg.set_ 0 v0).set_ 1 v1).set_ 2 v2).set_ 3 v3).set_ 4 v4) hB h1 h2 h3 v5).set_ ((((((hg.set_ 0 v0).set_ 1 v1).set_ 2 v2).set_ 3 v3).set_ 4 v4).set_ 5 v5) hB h1 h2 h3 v6).set_ (((((((hg.set_ 0 v0).set_ 1 v1).set_ 2 v2).set_ 3 v3).set_ 4 v4).set_ 5 v5).set_ 6 v6) hB h1 h2 h3 v7).set_ ((((((((hg.set_ 0 v0).set_ 1 v1).set_ 2 v2).set_ 3 v3).set_ 4 v4).set_ 5 v5).set_ 6 v6).set_ 7 v7) hB h1 h2 h3 v8)
theorem Ow.put9 {w : World} {B : Nat} {A : Option Addr} {c : Nat} {l : List (Int × Int × Int)} (h : Ow w B A c l) {g : Nat} {t : TypeId} {cs : Array Value} (hg : Blk w g t cs) (h1 : (27 : TypeId) ≠ t) (v0 v1 v2 v3 v4 v5 v6 v7 v8 : Value) : Ow (World.setCell (World.setCell (World.setCell (World.setCell (World.setCell (World.setCell (World.setCell (World.setCell (World.setCell w ⟨g, 0, none⟩ v0) ⟨g, 1, none⟩ v1) ⟨g, 2, none⟩ v2) ⟨g, 3, none⟩ v3) ⟨g, 4, none⟩ v4) ⟨g, 5, none⟩ v5) ⟨g, 6, none⟩ v6) ⟨g, 7, none⟩ v7) ⟨g, 8, none⟩ v8) B A c l :=
  (((((((((h.set_ hg h1 v0).set_ (hg.set_ 0 v0) h1 v1).set_ ((hg.set_ 0 v0).set_ 1 v1) h1 v2).set_ (((hg.set_ 0 v0).set_ 1 v1).set_ 2 v2) h1 v3).set_ ((((hg.set_ 0 v0).set_ 1 v1).set_ 2 v2).set_ 3 v3) h1 v4).set_ (((((hg.set_ 0 v0).set_ 1 v1).set_ 2 v2).set_ 3 v3).set_ 4 v4) h1 v5).set_ ((((((hg.set_ 0 v0).set_ 1 v1).set_ 2 v2).set_ 3 v3).set_ 4 v4).set_ 5 v5) h1 v6).set_ (((((((hg.set_ 0 v0).set_ 1 v1).set_ 2 v2).set_ 3 v3).set_ 4 v4).set_ 5 v5).set_ 6 v6) h1 v7).set_ ((((((((hg.set_ 0 v0).set_ 1 v1).set_ 2 v2).set_ 3 v3).set_ 4 v4).set_ 5 v5).set_ 6 v6).set_ 7 v7) h1 v8)
theorem OwI.put9 {w : World} {B : Nat} {A : Option Addr} {c : Nat} {l : List Int} (h : OwI w B A c l) {g : Nat} {t : TypeId} {cs : Array Value} (hg : Blk w g t cs) (h1 : (3 : TypeId) ≠ t) (v0 v1 v2 v3 v4 v5 v6 v7 v8 : Value) : OwI (World.setCell (World.setCell (World.setCell (World.setCell (World.setCell (World.setCell (World.setCell (World.setCell (World.setCell w ⟨g, 0, none⟩ v0) ⟨g, 1, none⟩ v1) ⟨g, 2, none⟩ v2) ⟨g, 3, none⟩ v3) ⟨g, 4, none⟩ v4) ⟨g, 5, none⟩ v5) ⟨g, 6, none⟩ v6) ⟨g, 7, none⟩ v7) ⟨g, 8, none⟩ v8) B A c l :=
  (((((((((h.set_ hg h1 v0).set_ (hg.set_ 0 v0) h1 v1).set_ ((hg.set_ 0 v0).set_ 1 v1) h1 v2).set_ (((hg.set_ 0 v0).set_ 1 v1).set_ 2 v2) h1 v3).set_ ((((hg.set_ 0 v0).set_ 1 v1).set_ 2 v2).set_ 3 v3) h1 v4).set_ (((((hg.set_ 0 v0).set_ 1 v1).set_ 2 v2).set_ 3 v3).set_ 4 v4) h1 v5).set_ ((((((hg.set_ 0 v0).set_ 1 v1).set_ 2 v2).set_ 3 v3).set_ 4 v4).set_ 5 v5) h1 v6).set_ (((((((hg.set_ 0 v0).set_ 1 v1).set_ 2 v2).set_ 3 v3).set_ 4 v4).set_ 5 v5).set_ 6 v6) h1 v7).set_ ((((((((hg.set_ 0 v0).set_ 1 v1).set_ 2 v2).set_ 3 v3).set_ 4 v4).set_ 5 v5).set_ 6 v6).set_ 7 v7) h1 v8)
theorem OwM.put9 {w : World} {B : Nat} {A : Option Addr} {c : Nat} {l : List (Int × Int × Int)} (h : OwM w B A c l) {g : Nat} {t : TypeId} {cs : Array Value} (hg : Blk w g t cs) (h1 : (82 : TypeId) ≠ t) (v0 v1 v2 v3 v4 v5 v6 v7 v8 : Value) : OwM (World.setCell (World.setCell (World.setCell (World.setCell (World.setCell (World.setCell (World.setCell (World.setCell (World.setCell w ⟨g, 0, none⟩ v0) ⟨g, 1, none⟩ v1) ⟨g, 2, none⟩ v2) ⟨g, 3, none⟩ v3) ⟨g, 4, none⟩ v4) ⟨g, 5, none⟩ v5) ⟨g, 6, none⟩ v6) ⟨g, 7, none⟩ v7) ⟨g, 8, none⟩ v8) B A c l :=
  (((((((((h.set_ hg h1 v0).set_ (hg.set_ 0 v0) h1 v1).set_ ((hg.set_ 0 v0).set_ 1 v1) h1 v2).set_ (((hg.set_ 0 v0).set_ 1 v1).set_ 2 v2) h1 v3).set_ ((((hg.set_ 0 v0).set_ 1 v1).set_ 2 v2).set_ 3 v3) h1 v4).set_ (((((hg.set_ 0 v0).set_ 1 v1).set_ 2 v2).set_ 3 v3).set_ 4 v4) h1 v5).set_ ((((((hg.set_ 0 v0).set_ 1 v1).set_ 2 v2).set_ 3 v3).set_ 4 v4).set_ 5 v5) h1 v6).set_ (((((((hg.set_ 0 v0).set_ 1 v1).set_ 2 v2).set_ 3 v3).set_ 4 v4).set_ 5 v5).set_ 6 v6) h1 v7).set_ ((((((((hg.set_ 0 v0).set_ 1 v1).set_ 2 v2).set_ 3 v3).set_ 4 v4).set_ 5 v5).set_ 6 v6).set_ 7 v7) h1 v8)
theorem Rd.put9 {α : Type} {k : Nat} {enc : α → List Value} {w : World} {B : Nat} {A : Option Addr} {l : List α} (h : Rd k enc w B A l) {g : Nat} (hg : B ≤ g) (v0 v1 v2 v3 v4 v5 v6 v7 v8 : Value) : Rd k enc (World.setCell (World.setCell (World.setCell (World.setCell (World.setCell (World.setCell (World.setCell (World.setCell (World.setCell w ⟨g, 0, none⟩ v0) ⟨g, 1, none⟩ v1) ⟨g, 2, none⟩ v2) ⟨g, 3, none⟩ v3) ⟨g, 4, none⟩ v4) ⟨g, 5, none⟩ v5) ⟨g, 6, none⟩ v6) ⟨g, 7, none⟩ v7) ⟨g, 8, none⟩ v8) B A l := by
  iterate 9 refine Rd.setCell ?_ hg _
  exact h
theorem RdW.put9 {w : World} {B : Nat} {a : WA} {D : WD} (h : RdW w B a D) {g : Nat} (hg : B ≤ g) (v0 v1 v2 v3 v4 v5 v6 v7 v8 : Value) : RdW (World.setCell (World.setCell (World.setCell (World.setCell (World.setCell (World.setCell (World.setCell (World.setCell (World.setCell w ⟨g, 0, none⟩ v0) ⟨g, 1, none⟩ v1) ⟨g, 2, none⟩ v2) ⟨g, 3, none⟩ v3) ⟨g, 4, none⟩ v4) ⟨g, 5, none⟩ v5) ⟨g, 6, none⟩ v6) ⟨g, 7, none⟩ v7) ⟨g, 8, none⟩ v8) B a D := ⟨h.l.put9 hg v0 v1 v2 v3 v4 v5 v6 v7 v8, h.g.put9 hg v0 v1 v2 v3 v4 v5 v6 v7 v8, h.f.put9 hg v0 v1 v2 v3 v4 v5 v6 v7 v8, h.q.put9 hg v0 v1 v2 v3 v4 v5 v6 v7 v8, h.m.put9 hg v0 v1 v2 v3 v4 v5 v6 v7 v8⟩
theorem size_put9 {w : World} {g : Nat} (v0 v1 v2 v3 v4 v5 v6 v7 v8 : Value) : (World.heap (World.setCell (World.setCell (World.setCell (World.setCell (World.setCell (World.setCell (World.setCell (World.setCell (World.setCell w ⟨g, 0, none⟩ v0) ⟨g, 1, none⟩ v1) ⟨g, 2, none⟩ v2) ⟨g, 3, none⟩ v3) ⟨g, 4, none⟩ v4) ⟨g, 5, none⟩ v5) ⟨g, 6, none⟩ v6) ⟨g, 7, none⟩ v7) ⟨g, 8, none⟩ v8)).size = w.heap.size := by simp
theorem Blk.put59 {w : World} {g : Nat} {t : TypeId} {x0 x1 x2 x3 x4 x5 x6 x7 x8 : Value} (h : Blk w g t #[x0, x1, x2, x3, x4, x5, x6, x7, x8]) (v0 v1 v2 v3 v4 : Value) : Blk (World.setCell (World.setCell (World.setCell (World.setCell (World.setCell w ⟨g, 0, none⟩ v0) ⟨g, 1, none⟩ v1) ⟨g, 2, none⟩ v2) ⟨g, 3, none⟩ v3) ⟨g, 4, none⟩ v4) g t #[v0, v1, v2, v3, v4, x5, x6, x7, x8] := (((((h.setL 0 v0).setL 1 v1).setL 2 v2).setL 3 v3).setL 4 v4)
theorem own_grown {w w' : World} {base : Nat} {e : TypeId} {size n : Nat} {v : Value} {xs : List Value} (h : w.ownsRow base e size v n xs) {row : Option Nat} (hg : w.grownBy w' row) (hne : ∀ x, v.ownBlock = some x → some x ≠ row) : w'.ownsRow base e size v n xs := by
  refine ⟨h.1, ?_⟩
  have hlt := own_lt h
  rcases h.2 with h2 | ⟨g, cap, cur, rfl, hb, hh, r⟩
  · exact .inl h2
  · exact .inr ⟨g, cap, cur, rfl, hb, (hg.block g (hlt g rfl) (hne g rfl)).trans hh, r⟩
theorem own_own_ne {w : World} {base base' : Nat} {e e' : TypeId} {size size' n n' : Nat} {v v' : Value} {xs xs' : List Value} (h : w.ownsRow base e size v n xs) (h' : w.ownsRow base' e' size' v' n' xs') (hne : e ≠ e') : ∀ x, v.ownBlock = some x → some x ≠ v'.ownBlock := by
  rintro x hx hx'
  rcases h.2 with ⟨rfl, _⟩ | ⟨g, cap, cur, rfl, hb, hh, r⟩
  · simp [Value.ownBlock] at hx
  · have : g = x := by simpa [Value.ownBlock] using hx
    subst this
    exact own_blk_ne (t := e) (g := g) h' hh (Ne.symm hne) hx'.symm
/-- the queue's row is no other row of ints -/
def ApQ (a : WA) (D : WD) : Prop :=
  (∀ x, (Value.slice a.Ag D.g.length a.cg).ownBlock = some x → some x ≠ (Value.slice a.Aq D.q.length a.cq).ownBlock) ∧ (∀ x, (Value.slice a.Af D.f.length a.cf).ownBlock = some x → some x ≠ (Value.slice a.Aq D.q.length a.cq).ownBlock)
theorem Rd.grown {α : Type} {k : Nat} {enc : α → List Value} {w w' : World} {B : Nat} {A : Option Addr} {l : List α} (h : Rd k enc w B A l) {row : Option Nat} (hg : w.grownBy w' row) (hB : B ≤ w.heap.size) (hr : ∀ g, row = some g → B ≤ g) : Rd k enc w' B A l :=
  h.keep fun p hp => World.cell?_of_block (hg.block p.block (by omega) (fun e => by have := hr _ e.symm; omega))
theorem RdW.grown {w w' : World} {B : Nat} {a : WA} {D : WD} (h : RdW w B a D) {row : Option Nat} (hg : w.grownBy w' row) (hB : B ≤ w.heap.size) (hr : ∀ g, row = some g → B ≤ g) : RdW w' B a D :=
  ⟨h.l.grown hg hB hr, h.g.grown hg hB hr, h.f.grown hg hB hr, h.q.grown hg hB hr, h.m.grown hg hB hr⟩
/-- Ask of a world -/
def askP (D : WD) (id waits : Int) : WD × Int :=
  if D.q.any (· == id) || D.l.any (leaseP id) then (wd0, 9)
  else if D.m2 ≤ (countK D.l 2 : Int) ∨ D.q ≠ [] then (if waits ≤ (D.q.length : Int) then (wd0, 8) else ({ D with q := D.q ++ [id] }, 10))
  else ({ D with l := D.l ++ [(id, 2, -1)] }, 0)
/-- Back of a world -/
def backP (D : WD) (id : Int) : WD × Int × Int :=
  match lastIdx (isOf id 2) D.l with
  | none => (wd0, -1, 6)
  | some i => match D.q with
    | [] => ({ D with l := D.l.eraseIdx i }, -1, 0)
    | n :: qs => if D.m2 ≤ (countK (D.l.eraseIdx i) 2 : Int) then ({ D with l := D.l.eraseIdx i }, -1, 0) else ({ D with l := D.l.eraseIdx i ++ [(n, 2, -1)], q := qs }, n, 0)
end Go.Proofs.Ytmcjgfoaiannoaa
