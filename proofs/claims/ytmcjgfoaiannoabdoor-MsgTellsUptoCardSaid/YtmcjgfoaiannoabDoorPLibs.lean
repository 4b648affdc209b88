/-
  What the rows' laid variables give a walk: the table of tens and the library's two errors. No condition.
-/
import Derived.Test.YtmcjgfoaiannoabDoorBOpen
import Derived.Test.YtmcjgfoaiannoabDoorPAtoi
import Derived.Stop.LaidErr
namespace Go.Proofs.YtmcjgfoaiannoabDoor
open Go.RowKit Go.Lib

theorem gES : Tryd.prog.globalNamed "strconv.ErrSyntax" = some 1 := by kernel_rfl
theorem gEST : (Tryd.prog.globals[1]?).map (·.type) = some 73 := by kernel_rfl
theorem gER : Tryd.prog.globalNamed "strconv.ErrRange" = some 2 := by kernel_rfl
theorem gERT : (Tryd.prog.globals[2]?).map (·.type) = some 73 := by kernel_rfl
theorem cells209 : Tryd.prog.cellsOf 209 = 1 := by kernel_rfl
theorem cells9' : Tryd.prog.cellsOf 9 = 1 := by kernel_rfl
theorem star' : "*" ++ "errors.errorString" = "*errors.errorString" := by decide
theorem row207 (u : TypeId) (h : Tryd.prog.typeName? 3 u = some "*errors.errorString") : u = 207 :=
  typeName_ptr_named (nm := "errors.errorString") (by rw [star']; kernel_rfl) (by kernel_rfl) (by decide) u (by rw [star']; exact h)
theorem size_of_var {P : Program} {W : World} {n : String} {g : Nat} {cs : Array Value} (hg : P.globalNamed n = some g) (h : W.var? P n = some cs) : g < W.heap.size := by
  unfold World.var? at h
  rw [hg] at h
  simp only [Option.bind_some] at h
  rcases Nat.lt_or_ge g W.heap.size with hl | hl
  · exact hl
  · simp [Array.getElem?_eq_none hl] at h
theorem libs_of {L : List (String × DataW Unit)} {W : World} (hp : (L.all fun x => x.2.handleName?.isNone) = true) (hL : L.filter (fun x => decide (x.1 = "internal/strconv.uint64pow10")) = [("internal/strconv.uint64pow10", Lib.tabData .u64 Lib.pow10Tab)])
    (h1 : L.filter (fun x => decide (x.1 = "strconv.ErrSyntax")) = [("strconv.ErrSyntax", Rows.laid_strconv_ErrSyntax)]) (h2 : L.filter (fun x => decide (x.1 = "strconv.ErrRange")) = [("strconv.ErrRange", Rows.laid_strconv_ErrRange)]) (h : laidMetH Tryd.prog L W) : Libs W := by
  have hq := h
  rw [MakeChecks.laidMetH_plain _ _ _ hp] at hq
  have f1 := hq.filter (fun x => decide (x.1 = "strconv.ErrSyntax"))
  have f2 := hq.filter (fun x => decide (x.1 = "strconv.ErrRange"))
  rw [h1] at f1
  rw [h2] at f2
  obtain ⟨a0, s0, hv0, -, -, -⟩ := laid_sentinel f1 gES gEST Tryd.underlying73 row207 Tryd.underlying207 Tryd.underlying209 rfl rfl Tryd.underlying9 cells209 cells9'
  obtain ⟨a1, s1, hv1, -, -, -⟩ := laid_sentinel f2 gER gERT Tryd.underlying73 row207 Tryd.underlying207 Tryd.underlying209 rfl rfl Tryd.underlying9 cells209 cells9'
  refine ⟨pow_of hp hL h, ⟨size_of_var gES hv0, _, by have h0 := World.var?_cell gES hv0 0; simpa using h0, Or.inr ⟨_, _, rfl⟩⟩, ⟨size_of_var gER hv1, _, by have h0 := World.var?_cell gER hv1 0; simpa using h0, Or.inr ⟨_, _, rfl⟩⟩⟩
theorem msg_libs {W : World} (h : laidMetH Tryd.prog Rows.msgSetRow.laid W) : Libs W := libs_of (by kernel_rfl) (by kernel_rfl) (by kernel_rfl) (by kernel_rfl) h
theorem msg_plain : (Rows.msgSetRow.laid.all fun x => x.2.handleName?.isNone) = true := by kernel_rfl
theorem msg_laid (os : Os) (args : Array Value) : laidMet Tryd.prog Rows.msgSetRow.laid ((World.laidAll Tryd.prog os Rows.msgSetRow.laid).forCall (fun _ _ => 0) ⟨#[], args, []⟩).memory :=
  laidMet_laidAll _ (by kernel_rfl) (by kernel_rfl)
theorem msg_shaped (os : Os) : ((World.laidAll Tryd.prog os Rows.msgSetRow.laid).forCall (fun _ _ => 0) ⟨#[], #[.agg #[.int .i64 0, .string ⟨#[]⟩, .slice none 0 0, .slice none 0 0], .string ⟨#[]⟩, .string ⟨#[]⟩, .string ⟨#[]⟩], []⟩).Shaped Tryd.prog :=
  World.shaped_of_ZipB (by kernel_rfl) (by kernel_rfl)
end Go.Proofs.YtmcjgfoaiannoabDoor
