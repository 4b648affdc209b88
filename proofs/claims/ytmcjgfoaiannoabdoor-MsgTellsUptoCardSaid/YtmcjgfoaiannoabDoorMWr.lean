/-
  What is wrong with a message: the program's Wrong. Condition: the heads can be read, and the lengths' bounds that the reach pays.
-/
import Derived.Test.YtmcjgfoaiannoabDoorMDat
namespace Go.Proofs.YtmcjgfoaiannoabDoor
open Go.RowKit Go.Lib

/-- whether heads are right: their keys and lines, and no key twice -/
def hdsP : List ByteArray → List Hd → Bool
  | _, [] => true
  | had, x :: l => keyP x.key && lineP x.text && !had.any (fun y => decide (y = x.key)) && hdsP (had ++ [x.key]) l
/-- what is wrong with a message -/
def wrongP (st : Int) (path : ByteArray) (l : List Hd) (nb : Nat) : Int :=
  if st ≠ 0 ∧ (st < 100 ∨ 599 < st) then 3
  else if (st = 0 ∧ pathP path = false) ∨ (st ≠ 0 ∧ path ≠ ⟨#[]⟩) then 2
  else if 6 < l.length then 5
  else if 40 < nb then 4
  else if hdsP [] l = true then 0 else 7
/-- the state and the path are right -/
def topP (st : Int) (path : ByteArray) : Prop := (st = 0 ∧ pathP path = true) ∨ (100 ≤ st ∧ st ≤ 599 ∧ path = ⟨#[]⟩)
theorem wrongP_top {st : Int} {path : ByteArray} (h : topP st path) (l : List Hd) (nb : Nat) : wrongP st path l nb = if 6 < l.length then 5 else if 40 < nb then 4 else if hdsP [] l = true then 0 else 7 := by
  unfold wrongP
  rcases h with ⟨rfl, hp⟩ | ⟨h1, h2, rfl⟩
  · rw [if_neg (by omega), if_neg (by simp [hp])]
  · rw [if_neg (by omega), if_neg (by rintro (⟨h, -⟩ | ⟨-, h⟩); omega; exact h rfl)]
theorem wrongP_range {st : Int} {path : ByteArray} (h0 : st ≠ 0) (h : st < 100 ∨ 599 < st) (l : List Hd) (nb : Nat) : wrongP st path l nb = 3 := if_pos ⟨h0, h⟩
theorem wrongP_form0 {path : ByteArray} (h : pathP path = false) (l : List Hd) (nb : Nat) : wrongP 0 path l nb = 2 := by
  unfold wrongP
  rw [if_neg (by omega), if_pos (.inl ⟨rfl, h⟩)]
theorem wrongP_form1 {st : Int} {path : ByteArray} (h1 : 100 ≤ st) (h2 : st ≤ 599) (h : path ≠ ⟨#[]⟩) (l : List Hd) (nb : Nat) : wrongP st path l nb = 2 := by
  unfold wrongP
  rw [if_neg (by omega), if_pos (.inr ⟨by omega, h⟩)]
theorem hasK_map (l : List Hd) (k : ByteArray) : hasK l k = (l.map Hd.key).any fun y => decide (y = k) := by
  unfold hasK
  rw [List.any_map]
  rfl
theorem hds_step {l : List Hd} {k : Nat} {x : Hd} (hx : l[k]? = some x) : hdsP ((l.take k).map Hd.key) (l.drop k) = (keyP x.key && lineP x.text && !hasK (l.take k) x.key && hdsP ((l.take (k + 1)).map Hd.key) (l.drop (k + 1))) := by
  obtain ⟨hlt, rfl⟩ := List.getElem?_eq_some_iff.1 hx
  rw [List.drop_eq_getElem_cons hlt, hasK_map, take_snoc' hx, List.map_append]
  rfl
theorem hds_end {l : List Hd} {k : Nat} (h : l.length ≤ k) : hdsP ((l.take k).map Hd.key) (l.drop k) = true := by
  rw [List.drop_of_length_le h]
  rfl
theorem ret_int {a b : Int} (h : a = b) : Ending.returned (.int .i64 a) = .returned (.int .i64 b) := by rw [h]
set_option maxRecDepth 100000 in
set_option maxHeartbeats 4000000 in
theorem wrong_not (st : Int) (path : ByteArray) (A AB : Option Addr) (l : List Hd) (c nb cb : Nat) (hp : path.size ≤ 140737488355328) (h : ¬ topP st path) (w : World) :
    Calls Tryd.prog 41 #[msgV st path A l.length c AB nb cb] w fun e w' => e = .returned (.int .i64 (wrongP st path l nb)) ∧ Below w.heap.size w w' := by
  obtain ⟨wz, hwz⟩ : ∃ W, W = w.alloc (.cells (msgC st path A l.length c AB nb cb) 32) := ⟨_, rfl⟩
  have bb : Blk wz w.heap.size 32 (msgC st path A l.length c AB nb cb) := by rw [hwz]; exact Blk.new _ _ _
  have hB : Below w.heap.size w wz := by rw [hwz]; exact (Below.refl _ w).alloc (Nat.le_refl _) _
  by_cases h0 : st = 0
  · subst h0
    cases hpp : pathP path
    · rw [wrongP_form0 hpp]
      have hP := path_any path hp wz
      rw [hpp] at hP
      clear hpp h
      go_enter Tryd.func41, Tryd.ntmps41
      go_wp2_with (go_at_call 44; refine Hid.out ?_)
      rw [← hwz]
      unfold Hid
      refine hP.mono ?_
      rintro e w1 ⟨rfl, hb⟩
      have hB := hB.trans (hb.mono hB.size)
      clear hP hwz hb bb
      go_wp2
      go_ret
      exact ⟨rfl, hB⟩
    · exact absurd (.inl ⟨rfl, hpp⟩) h
  have g0 : (st == 0) = false := by simpa using h0
  have g1 : (st != 0) = true := by simpa using h0
  by_cases h1 : st < 100
  · rw [wrongP_range h0 (.inl h1)]
    clear h h0
    go_enter Tryd.func41, Tryd.ntmps41
    go_wp2
    rw [← hwz]
    go_ret
    exact ⟨rfl, hB⟩
  by_cases h2 : 599 < st
  · rw [wrongP_range h0 (.inr h2)]
    clear h h0
    go_enter Tryd.func41, Tryd.ntmps41
    go_wp2
    rw [← hwz]
    go_ret
    exact ⟨rfl, hB⟩
  have he : path ≠ ⟨#[]⟩ := fun e => h (.inr ⟨by omega, by omega, e⟩)
  rw [wrongP_form1 (by omega) (by omega) he]
  have he2 : path.toList.isEmpty = false := by
    rw [toList_data]
    cases hd : path.data.toList with
    | nil => exact absurd (ba_inj (a := path) (b := ⟨#[]⟩) (by rw [hd])) he
    | cons a l => rfl
  clear h h0 he
  go_enter Tryd.func41, Tryd.ntmps41
  go_wp2
  rw [← hwz]
  go_ret
  exact ⟨rfl, hB⟩
set_option maxRecDepth 100000 in
set_option maxHeartbeats 4000000 in
theorem wrong_top (st : Int) (path : ByteArray) (A AB : Option Addr) (l : List Hd) (c nb cb : Nat) (hp : path.size ≤ 140737488355328) (hl : l.length ≤ c) (hc : c ≤ 140737488355328) (w : World) (hr : Rd 2 encHd w w.heap.size A l)  (ht : topP st path) :
    Calls Tryd.prog 41 #[msgV st path A l.length c AB nb cb] w fun e w' => e = .returned (.int .i64 (wrongP st path l nb)) ∧ Below w.heap.size w w' := by
  have hrv := wrongP_top ht l nb
  obtain ⟨rv, hr0⟩ : ∃ v, v = wrongP st path l nb := ⟨_, rfl⟩
  rw [← hr0] at hrv ⊢
  have HR := Lib.hid hrv
  clear hrv hr0
  obtain ⟨wz, hwz⟩ : ∃ W, W = w.alloc (.cells (msgC st path A l.length c AB nb cb) 32) := ⟨_, rfl⟩
  have bb : Blk wz w.heap.size 32 (msgC st path A l.length c AB nb cb) := by rw [hwz]; exact Blk.new _ _ _
  have hB : Below w.heap.size w wz := by rw [hwz]; exact (Below.refl _ w).alloc (Nat.le_refl _) _
  rcases ht with ⟨h0, hpp⟩ | ⟨h1, h2, he⟩
  · subst h0
    have hP := path_any path hp wz
    rw [hpp] at hP
    clear hpp
    go_enter Tryd.func41, Tryd.ntmps41
    go_wp2_with (go_at_call 44; refine Hid.out ?_)
    rw [← hwz]
    unfold Hid
    refine hP.mono ?_
    rintro e w1 ⟨rfl, hb⟩
    have bb := bb.below hb bb.lt
    have hB := hB.trans (hb.mono hB.size)
    have ⟨k0, k1, k2, k3⟩ := bb.c4
    have bl := bb.lt
    clear hP hwz hb
    by_cases h3 : 6 < l.length
    · have HV : Hid (rv = 5) := Lib.hid (by rw [HR.out, if_pos h3])
      have h3' : (6 : Int) < (l.length : Int) := by omega
      clear HR h3
      go_wp2
      go_ret
      exact ⟨ret_int HV.out.symm, hB⟩
    by_cases h4 : 40 < nb
    · have HV : Hid (rv = 4) := Lib.hid (by rw [HR.out, if_neg h3, if_pos h4])
      have h3' : ¬ (6 : Int) < (l.length : Int) := by omega
      have h4' : (40 : Int) < (nb : Int) := by omega
      clear HR h3 h4
      go_wp2
      go_ret
      exact ⟨ret_int HV.out.symm, hB⟩
    have HH : Hid (rv = if hdsP [] l = true then 0 else 7) := Lib.hid (by rw [HR.out, if_neg h3, if_neg h4])
    have h3' : ¬ (6 : Int) < (l.length : Int) := by omega
    have h4' : ¬ (40 : Int) < (nb : Int) := by omega
    clear HR h4
    go_wp2
    clear k0 k1 k2 k3 bl h3' h4'
    go_loopw [50] (fun i wr => ∃ k : Nat, k ≤ l.length ∧ i = .int .i64 k ∧ Hid (hdsP [] l = hdsP ((l.take k).map Hd.key) (l.drop k)) ∧ Below w.heap.size w wr ∧ Blk wr w.heap.size 32 (msgC 0 path A l.length c AB nb cb))
      (fun i _ => l.length - (intOf i).toNat)
    case atStart => exact ⟨0, Nat.zero_le _, rfl, Lib.hid rfl, hB, bb⟩
    case round =>
      clear hB bb
      obtain ⟨k, hk, rfl, HA, hB, bb⟩ := hrel
      have ⟨k0, k1, k2, k3⟩ := bb.c4
      have bl := bb.lt
      by_cases hlt : k < l.length
      · obtain ⟨b, off, x, rfl, hbB, hx, d0, d1⟩ := (hr.below hB).atH hlt
        have hst := hds_step hx
        obtain ⟨wq, hwq⟩ : ∃ wq, wq = wr.alloc (.cells #[.string x.key, .string x.text] 81) := ⟨_, rfl⟩
        obtain ⟨K, hK⟩ : ∃ K, K = wr.heap.size := ⟨_, rfl⟩
        have xb : Blk wq K 81 #[.string x.key, .string x.text] := by rw [hwq, hK]; exact Blk.new _ _ _
        have bbq : Blk wq w.heap.size 32 (msgC 0 path (some ⟨b, off, none⟩) l.length c AB nb cb) := by rw [hwq]; exact bb.alloc _
        have hBq : Below w.heap.size w wq := by rw [hwq]; exact hB.alloc hB.size _
        have hkey := key_any x.key x.hk wq
        have hln := line_any x.text x.ht
        have hhas := fun W (h1 : Rd 2 encHd W W.heap.size (some ⟨b, off, none⟩) (l.take k)) h2 => has64_any (some ⟨b, off, none⟩) (l.take k) c K x.key x.text W h1 h2 (by rw [List.length_take]; omega)
        rw [List.length_take, Nat.min_eq_left (by omega)] at hhas
        obtain ⟨q1, hq1⟩ : ∃ q, q = keyP x.key := ⟨_, rfl⟩
        obtain ⟨q2, hq2⟩ : ∃ q, q = lineP x.text := ⟨_, rfl⟩
        obtain ⟨q3, hq3⟩ : ∃ q, q = hasK (l.take k) x.key := ⟨_, rfl⟩
        rw [← hq1] at hkey
        rw [← hq2] at hln
        rw [← hq3] at hhas
        rw [← hq1, ← hq2, ← hq3] at hst
        have HS := Lib.hid (HA.out.trans hst)
        have HHAS := Lib.hid hhas
        have HLN := Lib.hid hln
        have hr1 := (hr.below hBq).take k
        have hkc : k ≤ c := by omega
        clear hst hx HA hq1 hq2 hq3 hhas hln hB bb
        go_wp2_with (go_at_call 42; refine Hid.out ?_)
        rw [← hK, ← hwq]
        unfold Hid
        clear hwq hK d0 d1 k0 k1 k2 k3
        refine hkey.mono ?_
        rintro e w2 ⟨rfl, hb⟩
        clear hkey
        have xb := xb.below hb xb.lt
        have bb := bbq.below hb bbq.lt
        have hr1 := hr1.below' hb hBq.size
        have hB := hBq.trans (hb.mono hBq.size)
        clear hb bbq hBq
        have ⟨k0, k1, k2, k3⟩ := bb.c4
        have ⟨x0, x1⟩ := xb.c2
        have bl := bb.lt
        have xl := xb.lt
        cases q1
        · have HV : Hid (rv = 7) := Lib.hid (by rw [HH.out, HS.out]; rfl)
          clear HH HS HHAS HLN
          go_wp2
          go_ret
          exact ⟨ret_int HV.out.symm, hB⟩
        · go_wp2_with (go_at_call 63; refine Hid.out ?_)
          unfold Hid
          refine (HLN.out w2).mono ?_
          rintro e w3 ⟨rfl, hb⟩
          clear HLN k0 k1 k2 k3 x0 x1
          have xb := xb.below hb xl
          have bb := bb.below hb bl
          have hr1 := hr1.below' hb hB.size
          have hB := hB.trans (hb.mono hB.size)
          clear hb bl xl
          have ⟨k0, k1, k2, k3⟩ := bb.c4
          have ⟨x0, x1⟩ := xb.c2
          have bl := bb.lt
          have xl := xb.lt
          cases q2
          · have HV : Hid (rv = 7) := Lib.hid (by rw [HH.out, HS.out]; rfl)
            clear HH HS HHAS
            go_wp2
            go_ret
            exact ⟨ret_int HV.out.symm, hB⟩
          · have hC := HHAS.out w3 (hr1.more hB.size) xb
            clear HHAS
            go_wp2_with (go_at_call 64; refine Hid.out ?_)
            unfold Hid
            refine hC.mono ?_
            rintro e w4 ⟨rfl, hb⟩
            clear hC k0 k1 k2 k3 x0 x1
            have bb := bb.below hb bl
            have hB := hB.trans (hb.mono hB.size)
            clear hb bl xl
            cases q3
            · go_wp2
              go_roundw
              case rel => exact ⟨k + 1, by omega, by go_num, Lib.hid (by rw [HS.out]; rfl), hB, bb⟩
              case measure => simp [intOf]; omega
            · have HV : Hid (rv = 7) := Lib.hid (by rw [HH.out, HS.out]; rfl)
              clear HH HS
              go_wp2
              go_ret
              exact ⟨ret_int HV.out.symm, hB⟩
      · have HV : Hid (rv = 0) := Lib.hid (by rw [HH.out, HA.out, hds_end (by omega)]; rfl)
        have hle : l.length ≤ k := by omega
        clear HH HA
        go_wp2
        go_ret
        exact ⟨ret_int HV.out.symm, hB⟩
  · subst he
    have g0 : (st == 0) = false := by simp; omega
    have g1 : (st != 0) = true := by simp; omega
    have h1' : ¬ st < 100 := by omega
    have h2' : ¬ 599 < st := by omega
    have ⟨k0, k1, k2, k3⟩ := bb.c4
    have bl := bb.lt
    clear h1 h2
    go_enter Tryd.func41, Tryd.ntmps41
    go_upto_region 6 with fail
    rw [← hwz]
    clear hwz
    by_cases h3 : 6 < l.length
    · have HV : Hid (rv = 5) := Lib.hid (by rw [HR.out, if_pos h3])
      have h3' : (6 : Int) < (l.length : Int) := by omega
      clear HR h3
      go_wp2
      go_ret
      exact ⟨ret_int HV.out.symm, hB⟩
    by_cases h4 : 40 < nb
    · have HV : Hid (rv = 4) := Lib.hid (by rw [HR.out, if_neg h3, if_pos h4])
      have h3' : ¬ (6 : Int) < (l.length : Int) := by omega
      have h4' : (40 : Int) < (nb : Int) := by omega
      clear HR h3 h4
      go_wp2
      go_ret
      exact ⟨ret_int HV.out.symm, hB⟩
    have HH : Hid (rv = if hdsP [] l = true then 0 else 7) := Lib.hid (by rw [HR.out, if_neg h3, if_neg h4])
    have h3' : ¬ (6 : Int) < (l.length : Int) := by omega
    have h4' : ¬ (40 : Int) < (nb : Int) := by omega
    clear HR h4
    go_wp2
    clear k0 k1 k2 k3 bl h3' h4'
    go_loopw [50] (fun i wr => ∃ k : Nat, k ≤ l.length ∧ i = .int .i64 k ∧ Hid (hdsP [] l = hdsP ((l.take k).map Hd.key) (l.drop k)) ∧ Below w.heap.size w wr ∧ Blk wr w.heap.size 32 (msgC st ⟨#[]⟩ A l.length c AB nb cb))
      (fun i _ => l.length - (intOf i).toNat)
    case atStart => exact ⟨0, Nat.zero_le _, rfl, Lib.hid rfl, hB, bb⟩
    case round =>
      clear hB bb
      obtain ⟨k, hk, rfl, HA, hB, bb⟩ := hrel
      have ⟨k0, k1, k2, k3⟩ := bb.c4
      have bl := bb.lt
      by_cases hlt : k < l.length
      · obtain ⟨b, off, x, rfl, hbB, hx, d0, d1⟩ := (hr.below hB).atH hlt
        have hst := hds_step hx
        obtain ⟨wq, hwq⟩ : ∃ wq, wq = wr.alloc (.cells #[.string x.key, .string x.text] 81) := ⟨_, rfl⟩
        obtain ⟨K, hK⟩ : ∃ K, K = wr.heap.size := ⟨_, rfl⟩
        have xb : Blk wq K 81 #[.string x.key, .string x.text] := by rw [hwq, hK]; exact Blk.new _ _ _
        have bbq : Blk wq w.heap.size 32 (msgC st ⟨#[]⟩ (some ⟨b, off, none⟩) l.length c AB nb cb) := by rw [hwq]; exact bb.alloc _
        have hBq : Below w.heap.size w wq := by rw [hwq]; exact hB.alloc hB.size _
        have hkey := key_any x.key x.hk wq
        have hln := line_any x.text x.ht
        have hhas := fun W (h1 : Rd 2 encHd W W.heap.size (some ⟨b, off, none⟩) (l.take k)) h2 => has64_any (some ⟨b, off, none⟩) (l.take k) c K x.key x.text W h1 h2 (by rw [List.length_take]; omega)
        rw [List.length_take, Nat.min_eq_left (by omega)] at hhas
        obtain ⟨q1, hq1⟩ : ∃ q, q = keyP x.key := ⟨_, rfl⟩
        obtain ⟨q2, hq2⟩ : ∃ q, q = lineP x.text := ⟨_, rfl⟩
        obtain ⟨q3, hq3⟩ : ∃ q, q = hasK (l.take k) x.key := ⟨_, rfl⟩
        rw [← hq1] at hkey
        rw [← hq2] at hln
        rw [← hq3] at hhas
        rw [← hq1, ← hq2, ← hq3] at hst
        have HS := Lib.hid (HA.out.trans hst)
        have HHAS := Lib.hid hhas
        have HLN := Lib.hid hln
        have hr1 := (hr.below hBq).take k
        have hkc : k ≤ c := by omega
        clear hst hx HA hq1 hq2 hq3 hhas hln hB bb
        go_wp2_with (go_at_call 42; refine Hid.out ?_)
        rw [← hK, ← hwq]
        unfold Hid
        clear hwq hK d0 d1 k0 k1 k2 k3
        refine hkey.mono ?_
        rintro e w2 ⟨rfl, hb⟩
        clear hkey
        have xb := xb.below hb xb.lt
        have bb := bbq.below hb bbq.lt
        have hr1 := hr1.below' hb hBq.size
        have hB := hBq.trans (hb.mono hBq.size)
        clear hb bbq hBq
        have ⟨k0, k1, k2, k3⟩ := bb.c4
        have ⟨x0, x1⟩ := xb.c2
        have bl := bb.lt
        have xl := xb.lt
        cases q1
        · have HV : Hid (rv = 7) := Lib.hid (by rw [HH.out, HS.out]; rfl)
          clear HH HS HHAS HLN
          go_wp2
          go_ret
          exact ⟨ret_int HV.out.symm, hB⟩
        · go_wp2_with (go_at_call 63; refine Hid.out ?_)
          unfold Hid
          refine (HLN.out w2).mono ?_
          rintro e w3 ⟨rfl, hb⟩
          clear HLN k0 k1 k2 k3 x0 x1
          have xb := xb.below hb xl
          have bb := bb.below hb bl
          have hr1 := hr1.below' hb hB.size
          have hB := hB.trans (hb.mono hB.size)
          clear hb bl xl
          have ⟨k0, k1, k2, k3⟩ := bb.c4
          have ⟨x0, x1⟩ := xb.c2
          have bl := bb.lt
          have xl := xb.lt
          cases q2
          · have HV : Hid (rv = 7) := Lib.hid (by rw [HH.out, HS.out]; rfl)
            clear HH HS HHAS
            go_wp2
            go_ret
            exact ⟨ret_int HV.out.symm, hB⟩
          · have hC := HHAS.out w3 (hr1.more hB.size) xb
            clear HHAS
            go_wp2_with (go_at_call 64; refine Hid.out ?_)
            unfold Hid
            refine hC.mono ?_
            rintro e w4 ⟨rfl, hb⟩
            clear hC k0 k1 k2 k3 x0 x1
            have bb := bb.below hb bl
            have hB := hB.trans (hb.mono hB.size)
            clear hb bl xl
            cases q3
            · go_wp2
              go_roundw
              case rel => exact ⟨k + 1, by omega, by go_num, Lib.hid (by rw [HS.out]; rfl), hB, bb⟩
              case measure => simp [intOf]; omega
            · have HV : Hid (rv = 7) := Lib.hid (by rw [HH.out, HS.out]; rfl)
              clear HH HS
              go_wp2
              go_ret
              exact ⟨ret_int HV.out.symm, hB⟩
      · have HV : Hid (rv = 0) := Lib.hid (by rw [HH.out, HA.out, hds_end (by omega)]; rfl)
        have hle : l.length ≤ k := by omega
        clear HH HA
        go_wp2
        go_ret
        exact ⟨ret_int HV.out.symm, hB⟩
theorem wrong_any (st : Int) (path : ByteArray) (A AB : Option Addr) (l : List Hd) (c nb cb : Nat) (hp : path.size ≤ 140737488355328) (hl : l.length ≤ c) (hc : c ≤ 140737488355328) (w : World) (hr : Rd 2 encHd w w.heap.size A l) :
    Calls Tryd.prog 41 #[msgV st path A l.length c AB nb cb] w fun e w' => e = .returned (.int .i64 (wrongP st path l nb)) ∧ Below w.heap.size w w' := by
  by_cases h : topP st path
  · exact wrong_top st path A AB l c nb cb hp hl hc w hr h
  · exact wrong_not st path A AB l c nb cb hp h w
end Go.Proofs.YtmcjgfoaiannoabDoor
