/-
  What who asked is told of a fault, by the program and by the reference, and that the two are one message. Condition: the kind is an int of 64 bits.
-/
import Derived.Test.YtmcjgfoaiannoabDoorFText
import Derived.Laws.IdiomStrings
namespace Go.Proofs.YtmcjgfoaiannoabDoor
open Go.RowKit

/-- the bytes of a string lie in a block -/
def Byt (w : World) (g : Nat) (s : ByteArray) : Prop := g < w.heap.size ∧ ∀ j (hj : j < s.data.toList.length), w.cell? ⟨g, j, none⟩ = some (.int .u8 (s.data.toList[j].toNat : Int))
theorem Byt.below {w w' : World} {g : Nat} {s : ByteArray} (h : Byt w g s) (hb : Below w.heap.size w w') : Byt w' g s := ⟨Nat.lt_of_lt_of_le h.1 hb.size, fun j hj => (hb.cell (p := ⟨g, j, none⟩) h.1).trans (h.2 j hj)⟩
theorem Byt.far {w : World} {g b i : Nat} {s : ByteArray} (h : Byt w g s) (hne : b ≠ g) (u : Value) : Byt (w.setCell ⟨b, i, none⟩ u) g s :=
  ⟨by simpa using h.1, fun j hj => (World.cell?_setCell_other w ⟨b, i, none⟩ ⟨g, j, none⟩ u (fun e => hne (congrArg Addr.block e))).trans (h.2 j hj)⟩
theorem Byt.conv {w : World} {g c : Nat} {s : ByteArray} (h : Byt w g s) : (convert 30 9 (.slice (some ⟨g, 0, none⟩) s.size c)).run Tryd.prog w = .ok (.string s) w := by
  have ea : ∀ j, (⟨g, 0, none⟩ : Addr).add j = ⟨g, j, none⟩ := fun j => by
    unfold Addr.add
    split <;> simp_all
  have := run_convert_bytes_back (P := Tryd.prog) w 30 9 5 ⟨g, 0, none⟩ c s.data.toList Tryd.underlying30 Tryd.underlying5 Tryd.underlying9 (fun j hj => by
    rw [ea j]
    exact h.2 j hj)
  have e1 : s.data.toList.length = s.size := by rw [Array.length_toList]; rfl
  rw [e1] at this
  simpa using this
theorem byt_new (w : World) (s : ByteArray) (c : Nat) (fr : Nat × Nat) : Byt (w.alloc (.cells (bytesRow s c) 5 fr)) w.heap.size s := by
  refine ⟨by simp, fun j hj => ?_⟩
  have hj' : j < s.data.size := by simpa using hj
  have hr := bytesRow_at s c j hj'
  have hh : (w.alloc (.cells (bytesRow s c) 5 fr)).heap[w.heap.size]? = some (.cells (bytesRow s c) 5 fr) := (MapKept.heap_alloc w _).1
  rw [cell_of_row _ w.heap.size j (bytesRow s c) 5 fr hh, hr]
  simp
/-- a message that says a text -/
abbrev sayC (st : Int) (g n c : Nat) : Array Value := #[.int .i64 st, .string { data := #[] }, .slice none 0 0, .slice (some ⟨g, 0, none⟩) n c]
abbrev sayV (st : Int) (g n c : Nat) : Value := .agg (sayC st g n c)
set_option maxRecDepth 100000 in
set_option maxHeartbeats 1000000 in
theorem answer_any (st : Int) (s : ByteArray) (w : World) :
    Calls Tryd.prog 50 #[.int .i64 st, .string s] w fun e w' => ∃ g c, e = .returned (sayV st g s.size c) ∧ Byt w' g s ∧ w.heap.size ≤ g ∧ Below w.heap.size w w' := by
  have hcv := fun (W : World) => run_bytes_of_string (P := Tryd.prog) W 9 30 5 s Tryd.underlying9 Tryd.underlying30 Tryd.underlying5
  obtain ⟨c, hc⟩ : ∃ c, c = grownCap (w.alloc (.cells #[.int .i64 0, .string { data := #[] }, .slice none 0 0, .slice none 0 0] 32)) s.size 0 5 := ⟨_, rfl⟩
  have b0 : Blk (w.alloc (.cells (sayC st (w.heap.size + 1) s.size c) 32)) w.heap.size 32 (sayC st (w.heap.size + 1) s.size c) := Blk.new _ _ _
  have bb : Blk (((w.alloc (.cells (sayC st (w.heap.size + 1) s.size c) 32)).alloc (.cells (bytesRow s c) 5 ((bytesRow s c).size, (bytesRow s c).size + 1))).drew) w.heap.size 32 (sayC st (w.heap.size + 1) s.size c) := b0.alloc _
  have y0 := byt_new (w.alloc (.cells (sayC st (w.heap.size + 1) s.size c) 32)) s c ((bytesRow s c).size, (bytesRow s c).size + 1)
  rw [World.size_alloc] at y0
  have yy : Byt (((w.alloc (.cells (sayC st (w.heap.size + 1) s.size c) 32)).alloc (.cells (bytesRow s c) 5 ((bytesRow s c).size, (bytesRow s c).size + 1))).drew) (w.heap.size + 1) s := y0
  have hBB : Below w.heap.size w (((w.alloc (.cells (sayC st (w.heap.size + 1) s.size c) 32)).alloc (.cells (bytesRow s c) 5 ((bytesRow s c).size, (bytesRow s c).size + 1))).drew) := Below.drew (((Below.refl _ w).alloc (Nat.le_refl _) _).alloc (by simp) _)
  clear b0 y0
  go_enter Tryd.func50, Tryd.ntmps50
  go_wp2
  rw [← hc]
  refine bodyPost_ret (v := sayV st (w.heap.size + 1) s.size c) (results_cell_row (p := 4) (ty := 32) Tryd.results50 _ _ w.heap.size 32 _ (0, 0) _ rfl bb Tryd.underlying32 rfl (by kernel_rfl)) rfl ⟨_, _, rfl, yy, by omega, hBB⟩
set_option maxRecDepth 100000 in
set_option maxHeartbeats 1000000 in
theorem say_any (st : Int) (s : ByteArray) (w : World) :
    Calls Tryd.prog 51 #[.int .i64 st, .string s] w fun e w' => ∃ g c, e = .returned (sayV st g s.size c) ∧ Byt w' g s ∧ w.heap.size ≤ g ∧ Below w.heap.size w w' := by
  have hcv := fun (W : World) => run_bytes_of_string (P := Tryd.prog) W 9 30 5 s Tryd.underlying9 Tryd.underlying30 Tryd.underlying5
  obtain ⟨c, hc⟩ : ∃ c, c = grownCap (w.alloc (.cells #[.int .i64 0, .string { data := #[] }, .slice none 0 0, .slice none 0 0] 32)) s.size 0 5 := ⟨_, rfl⟩
  have b0 : Blk (w.alloc (.cells (sayC st (w.heap.size + 1) s.size c) 32)) w.heap.size 32 (sayC st (w.heap.size + 1) s.size c) := Blk.new _ _ _
  have bb : Blk (((w.alloc (.cells (sayC st (w.heap.size + 1) s.size c) 32)).alloc (.cells (bytesRow s c) 5 ((bytesRow s c).size, (bytesRow s c).size + 1))).drew) w.heap.size 32 (sayC st (w.heap.size + 1) s.size c) := b0.alloc _
  have y0 := byt_new (w.alloc (.cells (sayC st (w.heap.size + 1) s.size c) 32)) s c ((bytesRow s c).size, (bytesRow s c).size + 1)
  rw [World.size_alloc] at y0
  have yy : Byt (((w.alloc (.cells (sayC st (w.heap.size + 1) s.size c) 32)).alloc (.cells (bytesRow s c) 5 ((bytesRow s c).size, (bytesRow s c).size + 1))).drew) (w.heap.size + 1) s := y0
  have hBB : Below w.heap.size w (((w.alloc (.cells (sayC st (w.heap.size + 1) s.size c) 32)).alloc (.cells (bytesRow s c) 5 ((bytesRow s c).size, (bytesRow s c).size + 1))).drew) := Below.drew (((Below.refl _ w).alloc (Nat.le_refl _) _).alloc (by simp) _)
  clear b0 y0
  go_enter Tryd.func51, Tryd.ntmps51
  go_wp2
  rw [← hc]
  refine bodyPost_ret (v := sayV st (w.heap.size + 1) s.size c) (results_cell_row (p := 4) (ty := 32) Tryd.results51 _ _ w.heap.size 32 _ (0, 0) _ rfl bb Tryd.underlying32 rfl (by kernel_rfl)) rfl ⟨_, _, rfl, yy, by omega, hBB⟩
end Go.Proofs.YtmcjgfoaiannoabDoor
