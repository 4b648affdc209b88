/-
  Arguments opened: faults; and the library's table of tens where a row lists it. No condition.
-/
import Derived.Test.YtmcjgfoaiannoabDoorFItoa
import Derived.Deep.Slices
import Derived.OpenShut
import Derived.LaidSub
namespace Go.Proofs.YtmcjgfoaiannoabDoor
open Go.RowKit Go.Deep Go.ChangeShapes Go.WideShapes Go.ChangeAt

theorem len5 {α : Type} {l : List α} (h : l.length = 5) : ∃ a0 a1 a2 a3 a4, l = [a0, a1, a2, a3, a4] := by
  match l, h with
  | [a0, a1, a2, a3, a4], _ => exact ⟨_, _, _, _, _, rfl⟩
section
variable {H : Type}
theorem weights_each {P : Program} : ∀ {ts : List TypeId} {ds : List (DataW H)} (_ : (DataW.weightsEach P ts ds).all (· ≤ reachBytes) = true) (j : Nat) (t : TypeId) (d : DataW H), ts[j]? = some t → ds[j]? = some d → ∀ n ∈ d.weights P t, n ≤ reachBytes
  | [], _, _, _, _, _, h, _ => by simp at h
  | _ :: _, [], _, _, _, _, _, h => by simp at h
  | t :: ts, d :: ds, h, j, t', d', ht, hd => by
    simp only [DataW.weightsEach, List.all_append, Bool.and_eq_true] at h
    cases j with
    | zero =>
      simp at ht hd
      subst ht hd
      intro n hn
      simpa using List.all_eq_true.1 h.1 n hn
    | succ j => exact weights_each h.2 j t' d' (by simpa using ht) (by simpa using hd)
end
section
variable {H : Type} {enc : TypeId × Value → H} {w : World} {base : Nat}
set_option maxRecDepth 100000 in
/-- a fault given as an argument -/
theorem open_faultArg {v : Value} {d : DataW H} {ps : List MemPlace} (hval : Value.okWide Tryd.prog w .any base 23 v) (h : DataW.Trod enc Tryd.prog w 0 (fun _ => true) true 23 v d ps) (hsz : ∀ n ∈ d.weights Tryd.prog 23, n ≤ reachBytes) :
    ∃ k fi ca t n, v = fltV k fi ca t n ∧ (Lit.int .i64 k).wf = true ∧ (Lit.int .i64 fi).wf = true ∧ (Lit.int .i64 ca).wf = true ∧ (Lit.int .i64 n).wf = true ∧ t.size ≤ 140737488355328 := by
  obtain ⟨cs, hcs, -⟩ := okWide_struct Tryd.underlying23 hval
  subst hcs
  obtain ⟨fuel, hh⟩ := h
  obtain ⟨xs, m, _, hx, hlen, hxs, hf⟩ := DataW.trod_struct Tryd.underlying23 hh
  rw [show Tryd.prog.cellsOf 23 = 5 by kernel_rfl] at hlen
  have c3 : Tryd.prog.cellsOf 3 = 1 := by kernel_rfl
  have c9 : Tryd.prog.cellsOf 9 = 1 := by kernel_rfl
  obtain ⟨a0, a1, a2, a3, a4, hal⟩ := len5 hlen
  rw [hal] at hf
  obtain ⟨x0, x1, x2, x3, x4, rfl⟩ := len5 hxs
  all_goals
    have f0 : DataW.trod enc Tryd.prog w 0 (fun _ => true) true m 3 ((List.drop 0 [a0, a1, a2, a3, a4]).take (Tryd.prog.cellsOf 3)) = _ := hf 0 _ rfl
    have f1 : DataW.trod enc Tryd.prog w 0 (fun _ => true) true m 3 ((List.drop 1 [a0, a1, a2, a3, a4]).take (Tryd.prog.cellsOf 3)) = _ := hf 1 _ rfl
    have f2 : DataW.trod enc Tryd.prog w 0 (fun _ => true) true m 3 ((List.drop 2 [a0, a1, a2, a3, a4]).take (Tryd.prog.cellsOf 3)) = _ := hf 2 _ rfl
    have f3 : DataW.trod enc Tryd.prog w 0 (fun _ => true) true m 9 ((List.drop 3 [a0, a1, a2, a3, a4]).take (Tryd.prog.cellsOf 9)) = _ := hf 3 _ rfl
    have f4 : DataW.trod enc Tryd.prog w 0 (fun _ => true) true m 3 ((List.drop 4 [a0, a1, a2, a3, a4]).take (Tryd.prog.cellsOf 3)) = _ := hf 4 _ rfl
    simp only [c3, c9] at f0 f1 f2 f3 f4
    obtain ⟨n0, h0, e0, w0⟩ := DataW.trod_int Tryd.underlying3 f0
    obtain ⟨n1, h1, e1, w1⟩ := DataW.trod_int Tryd.underlying3 f1
    obtain ⟨n2, h2, e2, w2⟩ := DataW.trod_int Tryd.underlying3 f2
    obtain ⟨s3, h3, e3, w3⟩ := DataW.trod_string Tryd.underlying9 f3
    obtain ⟨n4, h4, e4, w4⟩ := DataW.trod_int Tryd.underlying3 f4
    simp at h0 h1 h2 h3 h4
    subst h0 h1 h2 h3 h4 e3
    simp only [Prod.mk.injEq] at hx
    obtain ⟨rfl, rfl⟩ := hx
    have hs := hsz s3.data.toList.length (by
      simp only [List.map_cons, List.map_nil, DataW.weights, Tryd.underlying23, List.mem_append, DataW.weightsEach, List.mem_cons, List.not_mem_nil, or_false]
      simp)
    refine ⟨n0, n1, n2, s3, n4, ?_, w0, w1, w2, w4, ?_⟩
    · cases cs
      simp only [Value.cells] at hal
      rw [hal]
    · rw [Array.length_toList] at hs
      simp only [reachBytes] at hs
      show s3.data.size ≤ _
      omega
end
theorem pow_of {L : List (String × DataW Unit)} {W : World} (hp : (L.all fun x => x.2.handleName?.isNone) = true) (hL : L.filter (fun x => decide (x.1 = "internal/strconv.uint64pow10")) = [("internal/strconv.uint64pow10", Lib.tabData .u64 Lib.pow10Tab)]) (h : laidMetH Tryd.prog L W) : pow W := by
  rw [MakeChecks.laidMetH_plain _ _ _ hp] at h
  have h2 := h.filter (fun x => decide (x.1 = "internal/strconv.uint64pow10"))
  rw [hL] at h2
  exact Lib.tabIs_of_head (g := 3) (by kernel_rfl) (by kernel_rfl) Tryd.underlying194 Tryd.underlying177 (by kernel_rfl) (by kernel_rfl) h2
end Go.Proofs.YtmcjgfoaiannoabDoor
