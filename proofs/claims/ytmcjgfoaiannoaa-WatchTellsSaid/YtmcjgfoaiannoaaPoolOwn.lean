/-
  pool.Own: a copy of a world, each of its slices in a row of its own. Conditions: the length bounds that the reach pays.
-/
import Derived.Test.YtmcjgfoaiannoaaPoolLease
import Derived.Test.YtmcjgfoaiannoaaAllWalk
import Derived.Deep.RegionHeld3
import Derived.Deep.DeepCutAuto
namespace Go.Proofs.Ytmcjgfoaiannoaa
open Go.RowKit

/-- ints in a row of their own -/
def OwI (w : World) (B : Nat) (A : Option Addr) (c : Nat) (l : List Int) : Prop := w.ownsRow B 3 1 (.slice A l.length c) l.length (l.flatMap encI)
/-- marks in a row of their own -/
def OwM (w : World) (B : Nat) (A : Option Addr) (c : Nat) (l : List (Int × Int × Int)) : Prop := w.ownsRow B 82 3 (.slice A l.length c) l.length (l.flatMap encH)
section
variable {w w' : World} {B : Nat} {A : Option Addr} {c : Nat} {l : List Int} {lm : List (Int × Int × Int)}
theorem OwI.rd (h : OwI w B A c l) : Rd 1 encI w w.heap.size A l := Rd.of_own encI_len h
theorem OwI.below (h : OwI w B A c l) (hb : Below w.heap.size w w') : OwI w' B A c l := own_below h hb (own_lt h)
theorem OwI.alloc (h : OwI w B A c l) (o : Obj) : OwI (w.alloc o) B A c l := h.below ((Below.refl _ w).alloc (Nat.le_refl _) o)
theorem OwI.set_ (h : OwI w B A c l) {g i : Nat} {t : TypeId} {cs : Array Value} (hg : Blk w g t cs) (ht : (3 : TypeId) ≠ t) (u : Value) : OwI (w.setCell ⟨g, i, none⟩ u) B A c l := own_setCell h (own_blk_ne h hg ht) u
theorem OwI.more (h : OwI w B A c l) {B' : Nat} (hB : B' ≤ B) : OwI w B' A c l := own_mono h hB
theorem OwM.rd (h : OwM w B A c lm) : Rd 3 encH w w.heap.size A lm := Rd.of_own encH_len h
theorem OwM.below (h : OwM w B A c lm) (hb : Below w.heap.size w w') : OwM w' B A c lm := own_below h hb (own_lt h)
theorem OwM.alloc (h : OwM w B A c lm) (o : Obj) : OwM (w.alloc o) B A c lm := h.below ((Below.refl _ w).alloc (Nat.le_refl _) o)
theorem OwM.set_ (h : OwM w B A c lm) {g i : Nat} {t : TypeId} {cs : Array Value} (hg : Blk w g t cs) (ht : (82 : TypeId) ≠ t) (u : Value) : OwM (w.setCell ⟨g, i, none⟩ u) B A c lm := own_setCell h (own_blk_ne h hg ht) u
theorem OwM.more (h : OwM w B A c lm) {B' : Nat} (hB : B' ≤ B) : OwM w B' A c lm := own_mono h hB
end
end Go.Proofs.Ytmcjgfoaiannoaa
