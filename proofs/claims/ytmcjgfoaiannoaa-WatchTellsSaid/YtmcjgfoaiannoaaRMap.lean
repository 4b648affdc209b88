/-
  A map that tells which ints are on a list: what it answers, and what it is once one is put in. Condition: the ints are ints of 64 bits.
-/
import Derived.Test.YtmcjgfoaiannoaaWDat
import Derived.Maps.OwnOps
import Derived.Maps.OwnSet
import Derived.Maps.Views
namespace Go.Proofs.Ytmcjgfoaiannoaa
open Go.RowKit Go.Maps

theorem mkey3 : Keyed Try.prog 3 := int_keyed Try.underlying3
theorem mzero4 (w : World) : (zeroValue 4).run Try.prog w = .ok (.bool false) w := by kernel_rfl
theorem plainElem_bool_inv {H : Type} {P : Program} {e : TypeId} (he : P.underlying e = some .bool) {v : Value} {z : DataW H × List MemPlace} (h : plainElem P e v = some z) : ∃ a, v = .bool a ∧ z = (.lit (.bool a), []) := by
  unfold plainElem at h
  rw [he] at h
  cases v <;> simp at h
  exact ⟨_, rfl, h.symm⟩
/-- block b is a map that tells which ints are on a list -/
def MapB (w : World) (b n : Nat) (l : List Int) : Prop := ∃ D : DataW Unit, w.ownsMap Try.prog 3 (plainElem Try.prog 4) b n D ∧ (∀ x, (Lit.int .i64 x).wf = true → D.atKey (.int .i64 x) (.lit (.bool false)) = .lit (.bool (l.any (· == x)))) ∧ (Maps.size D = 0 ↔ l.length = 0)
theorem MapB.made (w : World) : MapB (w.alloc (.map #[] 0)) w.heap.size 0 [] := ⟨.map [], World.ownsMap_made _ _ _ _, fun _ _ => rfl, by simp [Maps.size]⟩
theorem MapB.lt {w : World} {b n : Nat} {l : List Int} (h : MapB w b n l) : b < w.heap.size := by
  obtain ⟨D, h, _⟩ := h
  exact h.lt
theorem MapB.kept {w w' : World} {b n : Nat} {l : List Int} (h : MapB w b n l) (hb : w'.heap[b]? = w.heap[b]?) : MapB w' b n l := by
  obtain ⟨D, ⟨es, clock, h1, h2, h3⟩, h4, h5⟩ := h
  exact ⟨D, ⟨es, clock, hb.trans h1, h2, h3⟩, h4, h5⟩
theorem MapB.below {w w' : World} {b n N : Nat} {l : List Int} (h : MapB w b n l) (hb : Below N w w') (hN : b < N) : MapB w' b n l := h.kept (hb.block b hN)
theorem MapB.alloc {w : World} {b n : Nat} {l : List Int} (h : MapB w b n l) (o : Obj) : MapB (w.alloc o) b n l := by
  obtain ⟨D, h, h4, h5⟩ := h
  exact ⟨D, h.alloc o, h4, h5⟩
theorem MapB.look {w : World} {b n : Nat} {l : List Int} (h : MapB w b n l) {x : Int} (hx : (Lit.int .i64 x).wf = true) : (Instr.lookup 117 (.map (some b)) (.int .i64 x) false).run Try.prog w = .ok (.bool (l.any (· == x))) w := by
  obtain ⟨D, h, h4, _⟩ := h
  obtain ⟨v, ps, hrun, hv⟩ := h.lookup mkey3 Try.underlying117 (mzero4 w) (plainElem_bool Try.underlying4 false) (keyOf_int_mk Try.underlying3 hx)
  rw [h4 x hx] at hv
  obtain ⟨a, rfl, hz⟩ := plainElem_bool_inv Try.underlying4 hv
  simp only [Prod.mk.injEq, DataW.lit.injEq, Lit.bool.injEq] at hz
  rw [hz.1]
  exact hrun
theorem MapB.len {w : World} {b n : Nat} {l : List Int} (h : MapB w b n l) : ∃ c : Nat, (∀ ty, (Builtin.len_ #[117] ty #[.map (some b)]).run Try.prog w = .ok (.int .i64 c) w) ∧ (c = 0 ↔ l.length = 0) := by
  obtain ⟨D, h, _, h5⟩ := h
  exact ⟨_, fun ty => h.len Try.underlying117 ty, h5⟩
theorem MapB.put {w : World} {b n : Nat} {l : List Int} (h : MapB w b n l) (hn : n < maxLen) {x : Int} (hx : (Lit.int .i64 x).wf = true) : ∃ w', (Instr.mapUpdate 117 (.map (some b)) (.int .i64 x) (.bool true)).run Try.prog w = .ok () w' ∧ MapB w' b (n + 1) (l ++ [x]) ∧ w.grownBy w' (some b) := by
  obtain ⟨D, h, h4, h5⟩ := h
  obtain ⟨w', hrun, h', hg⟩ := h.update mkey3 Try.underlying117 hn (keyOf_int_mk Try.underlying3 hx) (plainElem_bool Try.underlying4 true)
  have ht := h.tidy mkey3
  have hk : WideAt.IsKeyLit (.int .i64 x) := by trivial
  refine ⟨w', hrun, ⟨_, h', fun y hy => ?_, ?_⟩, hg⟩
  · by_cases hyx : y = x
    · subst y
      rw [Maps.atKey_put_same ht.isMap hk]
      simp
    · rw [Maps.atKey_put_other (by intro e; injection e with _ e; exact hyx e), h4 y hy]
      simp [Ne.symm hyx]
  · have hs := (ht.put hk (.lit (.bool true))).isMap
    rw [size_put ht]
    constructor
    · intro e
      split at e
      · rename_i hh
        obtain ⟨es, rfl⟩ := ht.isMap
        simp only [Maps.size, List.length_eq_zero_iff] at e
        subst e
        simp [Maps.has] at hh
      · omega
    · intro e
      simp at e
end Go.Proofs.Ytmcjgfoaiannoaa
