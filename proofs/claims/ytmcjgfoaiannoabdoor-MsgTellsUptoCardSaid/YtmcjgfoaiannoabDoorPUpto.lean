/-
  Rows of the second form: the frame that turns a walk into one. Condition: what comes in is of small bulk.
-/
import Derived.Test.YtmcjgfoaiannoabDoorPLibs
import Derived.Test.YtmcjgfoaiannoabDoorFrame
import Derived.Deep.DeepHandedRow
import Derived.Deep.DeepWitnessRowRef
namespace Go.Proofs.YtmcjgfoaiannoabDoor
open Go.RowKit Go.ChangeShapes Go.WideShapes Go.ChangeAt
section
variable {H : Type} {enc : TypeId × Value → H}
theorem lifted_upto {C : Checked} (L : List (String × DataW Unit)) (hown : ownKnob C.prog.godebug = none) (hl : laidOutB C.prog = true) (os : Os) (started : os.Started) (f : FuncId) (fn : Func) (s : ChangeSpec) (hf : C.prog.funcs[f]? = some fn) (noInit : C.prog.inits.idxOf? f = none) (hvars : s.vars = [])
    (hspec : ∀ ds : List (DataW H), ds.length = fn.params.toList.length → s.fn H ds = { results := [.lit (.bool true)], args := ds })
    (tb : TypeId) (hbool : C.prog.underlying tb = some .bool) (hres : fn.resultTypes = #[tb]) (hread : (fn.params.toList.all fun t => C.prog.readableRec t && decide (t < C.prog.types.size)) = true)
    (witness : ∃ (w : World) (tape : Tape) (i : Input), w.os = os ∧ (w.forCall tape i).Shaped C.prog ∧ i.vars = [] ∧ Input.okWide C.prog (w.forCall tape i) .any w.heap.size f i ∧
      (Rows.OpenSpec.upto s).preRow enc C.prog fn [] false L (w.forCall tape i).memory i.args ∧ ({} : Assume).holds C.prog (lone (Frame.enter C.prog f i.args .normal) [] (w.forCall tape i)))
    (walk : ∀ (W : World) (base : Nat) (args : Array Value) (ds : List (DataW H)) (ps : List MemPlace),
      (∀ (j : Nat) t v, fn.params[j]? = some t → args[j]? = some v → Value.okWide C.prog W .any base t v) →
      DataW.TrodAll enc C.prog W 0 (fun _ => true) true fn.params.toList args.toList ds ps → (∀ x ∈ ps, x.block < W.heap.size) →
      (DataW.weightsEach C.prog fn.params.toList ds).all (· ≤ reachBytes) = true → laidMetH C.prog L W → Rows.uptoSmall H ds = true →
      Calls C.prog f args W fun e W' => e = .returned (.bool true) ∧ Below W.heap.size W W') (F : Stop.Interp) :
    ReturnsInHanded {} C os f .any ((Rows.OpenSpec.upto s).preRow enc C.prog fn [] false L) (((Rows.OpenSpec.upto s).at F).post enc C.prog fn false true false false) := by
  refine returnsInHanded_of_row (C := C) (s := Rows.OpenSpec.upto s) hown started noInit hf witness ?_
  intro W base args ds gs before hval hW0 _ hk hsz hL _ _
  have hW : DataW.Whole enc C.prog fn.params.toList s.vars false W args.toList ds gs before := hW0
  have hk := hk _ rfl
  have hW' := hW
  have hlt := hW.lt
  obtain ⟨p, q, hA, hV, rfl, hfz, hnd⟩ := hW
  rw [hvars] at hV
  obtain ⟨rfl, rfl⟩ := trodVars_none hV
  have hvt : (Rows.OpenSpec.upto s).bare.plain.varTypes C.prog = [] := by
    have : (Rows.OpenSpec.upto s).bare.plain.vars = [] := hvars
    simp [DataSpec.varTypes, this]
  rw [hvt] at hsz
  simp only [List.append_nil] at hW' hlt hsz hk
  refine (walk W base args ds p hval hA hlt hsz hL hk).mono fun e W' ⟨he, hb⟩ => ?_
  subst he
  have hlen := trodAll_len hA
  have hs := hspec ds hlen
  have hp : s.post enc C.prog fn false true false false W args (.bool true) W' := by
    refine post_of_below (pa := p) (pv := []) hW' ?_ ?_ ?_ (by simp) hb ?_
    · intro b sp hd
      rw [List.append_nil, hs, hres]
      exact trodAll_mk1 (shut_bool hbool _)
    · intro sp hsp
      rw [List.append_nil, hs]
      exact trodAll_below hl hb (fun t ht => by simpa using List.all_eq_true.1 hread t ht) hA hlt sp hsp
    · intro sp _
      rw [List.append_nil, hs, hvars]
      rfl
    · exact ok_one hres rfl (okWide_bool_mk hbool _)
  exact ⟨_, rfl, hp⟩
set_option maxRecDepth 100000 in
theorem open_strBulk {W : World} {base : Nat} {v : Value} {d : DataW H} {ps : List MemPlace} (h : DataW.Trod enc Tryd.prog W 0 (fun _ => true) true 9 v d ps) (hval : Value.okWide Tryd.prog W .any base 9 v) : ∃ s : ByteArray, v = .string s ∧ s.size + 1 = Rows.uptoBulk d := by
  obtain ⟨s, rfl⟩ := okWide_string Tryd.underlying9 hval
  obtain ⟨fuel, hf⟩ := h
  obtain ⟨s', h', hx, _⟩ := DataW.trod_string Tryd.underlying9 hf
  simp [Value.cells] at h'
  subst h'
  simp only [Prod.mk.injEq] at hx
  obtain ⟨rfl, rfl⟩ := hx
  refine ⟨s, rfl, ?_⟩
  simp only [Rows.uptoBulk]
  rw [Array.length_toList]
  rfl
end
set_option maxRecDepth 100000 in
theorem turn_laid (os : Os) (args : Array Value) : laidMetH Tryd.prog Rows.msgTurnsUptoRow.laid ((World.laidAll Tryd.prog os Rows.msgTurnsUptoRow.laid).forCall (fun _ _ => 0) ⟨#[], args, []⟩).memory := by
  rw [MakeChecks.laidMetH_plain _ _ _ (by kernel_rfl)]
  exact laidMet_laidAll _ (by kernel_rfl) (by kernel_rfl)
set_option maxRecDepth 100000 in
theorem turn_reads (os : Os) {H : Type} (enc : TypeId × Value → H) : ∃ x, DataW.whole enc Tryd.prog ((World.laidAll Tryd.prog os Rows.msgTurnsUptoRow.laid).forCall (fun _ _ => 0) ⟨#[], #[.agg #[.int .i64 0, .string ⟨#[]⟩, .slice none 0 0, .slice none 0 0], .string ⟨#[]⟩], []⟩).memory Tryd.f11.params.toList Rows.msgTurnsSpec.vars false #[Value.agg #[.int .i64 0, .string ⟨#[]⟩, .slice none 0 0, .slice none 0 0], .string ⟨#[]⟩].toList 8 = some ([.agg [.lit (.int .i64 0), .lit (.string []), .nil, .nil], .lit (.string [])], [], x) :=
  ⟨[], by kernel_rfl⟩
end Go.Proofs.YtmcjgfoaiannoabDoor
