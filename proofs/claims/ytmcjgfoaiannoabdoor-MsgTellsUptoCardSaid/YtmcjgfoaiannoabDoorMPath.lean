/-
  Paths of messages, of the program and of the reference: which strings may be one. Condition: the length bound that the reach pays.
-/
import Derived.Test.YtmcjgfoaiannoabDoorBKey
namespace Go.Proofs.YtmcjgfoaiannoabDoor
open Go.RowKit Go.Lib

/-- the bytes of a path -/
def ptB : ByteArray := ⟨#[97, 98, 99, 100, 101, 102, 103, 104, 105, 106, 107, 108, 109, 110, 111, 112, 113, 114, 115, 116, 117, 118, 119, 120, 121, 122, 48, 49, 50, 51, 52, 53, 54, 55, 56, 57, 47]⟩
/-- whether a string begins with a stroke -/
def fstP (s : ByteArray) : Bool := decide (s.data.toList.head? = some 47)
/-- whether a string may be a path -/
def pathP (s : ByteArray) : Bool := ofP s ptB && decide (1 ≤ s.size) && decide (s.size ≤ 24) && fstP s
theorem fst_at {s : ByteArray} (h : 0 < s.size) : fstP s = (((s[0].toNat : Nat) : Int) == 47) := by
  unfold fstP
  have e : s.data.toList.head? = some s[0] := by
    have h' : 0 < s.data.toList.length := by rw [Array.length_toList]; exact h
    rw [List.head?_eq_getElem?, List.getElem?_eq_getElem h']
    rfl
  rw [e, Bool.eq_iff_iff]
  simp only [Option.some.injEq, decide_eq_true_eq, beq_iff_eq]
  constructor
  · intro h
    rw [h]
    rfl
  · intro h
    exact UInt8.toNat_inj.1 (by show s[0].toNat = 47; omega)
set_option maxRecDepth 100000 in
set_option maxHeartbeats 1000000 in
theorem path_any (s : ByteArray) (hs : s.size ≤ 140737488355328) (w : World) : Calls Tryd.prog 44 #[.string s] w fun e w' => e = .returned (.bool (pathP s)) ∧ Below w.heap.size w w' := by
  have hT := Go.Proofs.Any.strings_Trim_laid Tryd.l160 (by kernel_rfl) s ptB w (by omega) (by decide) (Go.Proofs.ascii_of_all (by decide))
  have hT : Calls Tryd.prog 66 #[.string s, .string ptB] w fun e w' => e = .returned (.string ⟨(trimS s.data.toList ptB.data.toList).toArray⟩) ∧ Below w.heap.size w w' := hT
  by_cases h1 : 1 ≤ s.size
  · have h1' : (1 : Int) ≤ (s.size : Int) := by omega
    by_cases h8 : s.size ≤ 24
    · have h8' : (s.size : Int) ≤ 24 := by omega
      have hf := fst_at (s := s) (by omega)
      have hv : pathP s = (ofP s ptB && fstP s) := by
        unfold pathP
        rw [decide_eq_true h1, decide_eq_true h8, Bool.and_true, Bool.and_true]
      cases h47 : fstP s
      · rw [h47] at hv hf
        rw [Bool.and_false] at hv
        rw [hv]
        have hf2 := hf.symm
        have h0 : 0 < s.size := by omega
        clear hv h47 hT hf
        go_enter Tryd.func44, Tryd.ntmps44
        go_wp2
        go_ret
        exact ⟨rfl, Below.refl _ _⟩
      · rw [h47] at hv hf
        rw [Bool.and_true] at hv
        have hf2 := hf.symm
        have h0 : 0 < s.size := by omega
        have hn := trim_nil s.data.toList ptB.data.toList
        obtain ⟨l, hl⟩ : ∃ l, l = trimS s.data.toList ptB.data.toList := ⟨_, rfl⟩
        rw [← hl] at hn hT
        have hn2 : l.isEmpty = pathP s := by rw [hv]; exact hn
        rw [← hn2]
        clear hn hn2 hl hv h47 hf
        go_enter Tryd.func44, Tryd.ntmps44
        go_wp2_with (first | (go_at_call 66; refine Hid.out ?_) | go_in)
        unfold Hid
        refine hT.mono ?_
        rintro e w1 ⟨rfl, hB⟩
        go_wp2
        go_ret
        exact ⟨by simp, hB⟩
    · have hv : pathP s = false := by
        unfold pathP
        rw [decide_eq_false h8, Bool.and_false, Bool.false_and]
      have h8' : ¬ (s.size : Int) ≤ 24 := by omega
      rw [hv]
      clear hv hT
      go_enter Tryd.func44, Tryd.ntmps44
      go_wp2
      go_ret
      exact ⟨rfl, Below.refl _ _⟩
  · have hv : pathP s = false := by
      unfold pathP
      rw [decide_eq_false h1, Bool.and_false, Bool.false_and, Bool.false_and]
    have h1' : ¬ (1 : Int) ≤ (s.size : Int) := by omega
    rw [hv]
    clear hv hT
    go_enter Tryd.func44, Tryd.ntmps44
    go_wp2
    go_ret
    exact ⟨rfl, Below.refl _ _⟩
set_option maxRecDepth 100000 in
set_option maxHeartbeats 1000000 in
theorem refpath_any (s : ByteArray) (hs : s.size ≤ 140737488355328) (w : World) : Calls Tryd.prog 45 #[.string s] w fun e w' => e = .returned (.bool (pathP s)) ∧ Below w.heap.size w w' := by
  have ho := of_any s ptB 1 24 hs (by decide) w
  obtain ⟨b, hb⟩ : ∃ b, b = (ofP s ptB && decide ((1 : Int) ≤ s.size) && decide ((s.size : Int) ≤ 24)) := ⟨_, rfl⟩
  rw [← hb] at ho
  have e1 : decide ((1 : Int) ≤ s.size) = decide (1 ≤ s.size) := decide_eq_decide.2 (by omega)
  have e2 : decide ((s.size : Int) ≤ 24) = decide (s.size ≤ 24) := decide_eq_decide.2 (by omega)
  have hv : pathP s = (b && fstP s) := by
    rw [hb, e1, e2]
    rfl
  cases b
  · rw [hv, Bool.false_and]
    clear hv e1 e2 hb
    go_enter Tryd.func45, Tryd.ntmps45
    go_wp2_with (first | (go_at_call 68; go_in) | (go_at_call 67; refine Hid.out ?_))
    unfold Hid
    refine ho.mono ?_
    rintro e w1 ⟨rfl, hB⟩
    go_wp2
    go_ret
    exact ⟨rfl, hB⟩
  · have h1 : 0 < s.size := by
      have := hb.symm
      simp only [Bool.and_eq_true, decide_eq_true_eq] at this
      omega
    rw [Bool.true_and, fst_at h1] at hv
    rw [hv]
    have hc : s.size ≤ 9223372036854775807 := by omega
    have h1' : (0 : Int) < (s.size : Int) := by omega
    clear hv e1 e2 hb
    go_enter Tryd.func45, Tryd.ntmps45
    go_wp2_with (first | (go_at_call 68; go_in) | (go_at_call 67; refine Hid.out ?_))
    unfold Hid
    refine ho.mono ?_
    rintro e w1 ⟨rfl, hB⟩
    go_wp2
    go_ret
    exact ⟨rfl, hB⟩
end Go.Proofs.YtmcjgfoaiannoabDoor
