/-
  What is wrong with a message: the reference's Wrong. Condition: the heads can be read, and the lengths' bounds that the reach pays.
-/
import Derived.Test.YtmcjgfoaiannoabDoorMWr
import Derived.Test.YtmcjgfoaiannoabDoorFK
import Derived.StringKeys
namespace Go.Proofs.YtmcjgfoaiannoabDoor
open Go.RowKit Go.Lib Go.Maps

theorem mkeyS : Keyed Tryd.prog 9 := string_keyed Tryd.underlying9
theorem mzeroB (w : World) : (zeroValue 4).run Tryd.prog w = .ok (.bool false) w := by kernel_rfl
theorem plainElem_bool_inv {H : Type} {P : Program} {e : TypeId} (he : P.underlying e = some .bool) {v : Value} {z : DataW H × List MemPlace} (h : plainElem P e v = some z) : ∃ b : Bool, v = .bool b ∧ z = (.lit (.bool b), []) := by
  unfold plainElem at h
  rw [he] at h
  cases v <;> simp at h
  exact ⟨_, rfl, h.symm⟩
/-- a map that holds these keys -/
def keyM : List ByteArray → DataW Unit
  | [] => .map []
  | k :: ks => (keyM ks).put (.string k.data.toList) (.lit (.bool true))
theorem keyM_map : ∀ ks, IsMap (keyM ks)
  | [] => ⟨[], rfl⟩
  | k :: ks => by
    obtain ⟨es, he⟩ := keyM_map ks
    unfold keyM
    rw [he]
    exact ⟨_, rfl⟩
theorem strlit_ne {a b : ByteArray} (h : a ≠ b) : (Lit.string a.data.toList) ≠ .string b.data.toList := fun e => by
  injection e with e
  exact h (ba_inj e)
theorem keyM_at (x : ByteArray) : ∀ ks : List ByteArray, (keyM ks).atKey (.string x.data.toList) (.lit (.bool false)) = .lit (.bool (ks.any fun y => decide (y = x)))
  | [] => rfl
  | k :: ks => by
    unfold keyM
    by_cases h : k = x
    · subst h
      rw [atKey_put_same (keyM_map ks) (by trivial)]
      simp
    · rw [atKey_put_other (strlit_ne (fun e => h e.symm)), keyM_at x ks]
      simp [h]
theorem own_map_below {w w' : World} {b n : Nat} {D : DataW Unit} (h : w.ownsMap Tryd.prog 9 (plainElem Tryd.prog 4) b n D) (hb : Below w.heap.size w w') : w'.ownsMap Tryd.prog 9 (plainElem Tryd.prog 4) b n D := by
  obtain ⟨es, clock, hh, r⟩ := h
  exact ⟨es, clock, (hb.block b (Array.getElem?_eq_some_iff.1 hh).1).trans hh, r⟩
theorem look_bool {w : World} {b n : Nat} {ks : List ByteArray} (o : w.ownsMap Tryd.prog 9 (plainElem Tryd.prog 4) b n (keyM ks)) {x : ByteArray} (hx : x.size ≤ maxLen) :
    (Instr.lookup 82 (.map (some b)) (.string x) false).run Tryd.prog w = .ok (.bool (ks.any fun y => decide (y = x))) w := by
  obtain ⟨v, ps, hrun, hv⟩ := o.lookup mkeyS Tryd.underlying82 (mzeroB w) (plainElem_bool Tryd.underlying4 false) (WideMaps.keyOf_string_mk Tryd.underlying9 hx)
  rw [keyM_at] at hv
  obtain ⟨b', rfl, hz⟩ := plainElem_bool_inv Tryd.underlying4 hv
  simp only [Prod.mk.injEq, DataW.lit.injEq, Lit.bool.injEq] at hz
  rw [hz.1]
  exact hrun
theorem any_perm_rev (ks : List ByteArray) (x : ByteArray) : (ks.reverse.any fun y => decide (y = x)) = ks.any fun y => decide (y = x) := List.any_reverse
theorem size_pos {p : ByteArray} (h : p ≠ ⟨#[]⟩) : 0 < p.size := by
  rcases Nat.eq_zero_or_pos p.size with h0 | h0
  · exact absurd (ba_inj (a := p) (b := ⟨#[]⟩) (by
      have : p.data.toList = [] := List.eq_nil_of_length_eq_zero (by rw [Array.length_toList]; exact h0)
      rw [this])) h
  · exact h0
set_option maxRecDepth 100000 in
set_option maxHeartbeats 4000000 in
theorem rwrong_not (st : Int) (path : ByteArray) (A AB : Option Addr) (l : List Hd) (c nb cb : Nat) (hp : path.size ≤ 140737488355328) (h : ¬ topP st path) (w : World) :
    Calls Tryd.prog 24 #[msgV st path A l.length c AB nb cb] w fun e w' => e = .returned (.int .i64 (wrongP st path l nb)) ∧ Below w.heap.size w w' := by
  obtain ⟨wz, hwz⟩ : ∃ W, W = w.alloc (.cells (msgC st path A l.length c AB nb cb) 32) := ⟨_, rfl⟩
  have bb : Blk wz w.heap.size 32 (msgC st path A l.length c AB nb cb) := by rw [hwz]; exact Blk.new _ _ _
  have hB : Below w.heap.size w wz := by rw [hwz]; exact (Below.refl _ w).alloc (Nat.le_refl _) _
  by_cases h0 : st = 0
  · subst h0
    cases hpp : pathP path
    · rw [wrongP_form0 hpp]
      have hP := refpath_any path hp wz
      rw [hpp] at hP
      clear hpp h
      go_enter Tryd.func24, Tryd.ntmps24
      go_wp2_with (go_at_call 45; refine Hid.out ?_)
      rw [← hwz]
      unfold Hid
      refine hP.mono ?_
      rintro e w1 ⟨rfl, hb⟩
      have hB := hB.trans (hb.mono hB.size)
      clear hP hwz hb bb
      go_wp2
      go_ret
      exact ⟨rfl, hB⟩
    · exact absurd (.inl ⟨rfl, hpp⟩) h
  have g0 : (st == 0) = false := by simpa using h0
  have g1 : (st != 0) = true := by simpa using h0
  by_cases h1 : st < 100
  · rw [wrongP_range h0 (.inl h1)]
    clear h h0
    go_enter Tryd.func24, Tryd.ntmps24
    go_wp2
    rw [← hwz]
    go_ret
    exact ⟨rfl, hB⟩
  by_cases h2 : 599 < st
  · rw [wrongP_range h0 (.inr h2)]
    clear h h0
    go_enter Tryd.func24, Tryd.ntmps24
    go_wp2
    rw [← hwz]
    go_ret
    exact ⟨rfl, hB⟩
  have he : path ≠ ⟨#[]⟩ := fun e => h (.inr ⟨by omega, by omega, e⟩)
  rw [wrongP_form1 (by omega) (by omega) he]
  have he2 : (0 : Int) < (path.size : Int) := by have := size_pos he; omega
  clear h h0 he
  go_enter Tryd.func24, Tryd.ntmps24
  go_wp2
  rw [← hwz]
  go_ret
  exact ⟨rfl, hB⟩
set_option maxRecDepth 100000 in
set_option maxHeartbeats 8000000 in
theorem rwrong_top (st : Int) (path : ByteArray) (A AB : Option Addr) (l : List Hd) (c nb cb : Nat) (hp : path.size ≤ 140737488355328) (w : World) (hr : Rd 2 encHd w w.heap.size A l) (ht : topP st path) :
    Calls Tryd.prog 24 #[msgV st path A l.length c AB nb cb] w fun e w' => e = .returned (.int .i64 (wrongP st path l nb)) ∧ Below w.heap.size w w' := by
  have hrv := wrongP_top ht l nb
  obtain ⟨rv, hr0⟩ : ∃ v, v = wrongP st path l nb := ⟨_, rfl⟩
  rw [← hr0] at hrv ⊢
  have HR := Lib.hid hrv
  clear hrv hr0
  obtain ⟨wz, hwz⟩ : ∃ W, W = w.alloc (.cells (msgC st path A l.length c AB nb cb) 32) := ⟨_, rfl⟩
  have bb : Blk wz w.heap.size 32 (msgC st path A l.length c AB nb cb) := by rw [hwz]; exact Blk.new _ _ _
  have hB : Below w.heap.size w wz := by rw [hwz]; exact (Below.refl _ w).alloc (Nat.le_refl _) _
  rcases ht with ⟨h0, hpp⟩ | ⟨h1, h2, he⟩
  · subst h0
    have hP := refpath_any path hp wz
    rw [hpp] at hP
    clear hpp
    go_enter Tryd.func24, Tryd.ntmps24
    go_wp2_with (go_at_call 45; refine Hid.out ?_)
    rw [← hwz]
    unfold Hid
    refine hP.mono ?_
    clear hP hwz
    rintro e wy ⟨rfl, hb⟩
    have bb := bb.below hb bb.lt
    have hB := hB.trans (hb.mono hB.size)
    have ⟨k0, k1, k2, k3⟩ := bb.c4
    have bl := bb.lt
    clear hb
    by_cases h3 : 6 < l.length
    · have HV : Hid (rv = 5) := Lib.hid (by rw [HR.out, if_pos h3])
      have h3' : (6 : Int) < (l.length : Int) := by omega
      clear HR h3
      go_wp2
      go_ret
      exact ⟨ret_int HV.out.symm, hB⟩
    by_cases h4 : 40 < nb
    · have HV : Hid (rv = 4) := Lib.hid (by rw [HR.out, if_neg h3, if_pos h4])
      have h3' : ¬ (6 : Int) < (l.length : Int) := by omega
      have h4' : (40 : Int) < (nb : Int) := by omega
      clear HR h3 h4
      go_wp2
      go_ret
      exact ⟨ret_int HV.out.symm, hB⟩
    have HH : Hid (rv = if hdsP [] l = true then 0 else 7) := Lib.hid (by rw [HR.out, if_neg h3, if_neg h4])
    have h3' : ¬ (6 : Int) < (l.length : Int) := by omega
    have h4' : ¬ (40 : Int) < (nb : Int) := by omega
    clear HR h4
    obtain ⟨Mb, hMb⟩ : ∃ M, M = wy.heap.size := ⟨_, rfl⟩
    obtain ⟨wm, hwm⟩ : ∃ W, W = wy.alloc (.map #[] 0) := ⟨_, rfl⟩
    have om : wm.ownsMap Tryd.prog 9 (plainElem (H := Unit) Tryd.prog 4) Mb 0 (keyM []) := by rw [hwm, hMb]; exact World.ownsMap_made _ _ _ _
    have bb : Blk wm w.heap.size 32 (msgC 0 path A l.length c AB nb cb) := by rw [hwm]; exact bb.alloc _
    have hMg : w.heap.size < Mb := by rw [hMb]; exact bl
    have hB : Below w.heap.size w wm := by rw [hwm]; exact hB.alloc hB.size _
    have bl := bb.lt
    have ⟨k0, k1, k2, k3⟩ := bb.c4
    have hmm := @run_makeMap Tryd.prog
    go_wp2
    rw [← hwm, ← hMb]
    clear k0 k1 k2 k3 bl h3' h4' hwm hMb hmm
    go_loopw [51] (fun i wr => ∃ k : Nat, k ≤ l.length ∧ i = .int .i64 k ∧ Hid (hdsP [] l = hdsP ((l.take k).map Hd.key) (l.drop k)) ∧ Below w.heap.size w wr ∧ Blk wr w.heap.size 32 (msgC 0 path A l.length c AB nb cb) ∧ Hid (wr.ownsMap Tryd.prog 9 (plainElem (H := Unit) Tryd.prog 4) Mb k (keyM ((l.take k).map Hd.key).reverse)))
      (fun i _ => l.length - (intOf i).toNat)
    case atStart => exact ⟨0, Nat.zero_le _, rfl, Lib.hid rfl, hB, bb, Lib.hid om⟩
    case round =>
      clear hB bb om
      obtain ⟨k, hk, rfl, HA, hB, bb, OM⟩ := hrel
      have ⟨k0, k1, k2, k3⟩ := bb.c4
      have bl := bb.lt
      by_cases hlt : k < l.length
      · obtain ⟨b, off, x, rfl, hbB, hx, d0, d1⟩ := (hr.below hB).atH hlt
        have hst := hds_step hx
        have htk := take_snoc' hx
        obtain ⟨wq, hwq⟩ : ∃ wq, wq = wr.alloc (.cells #[.string x.key, .string x.text] 81) := ⟨_, rfl⟩
        obtain ⟨K, hK⟩ : ∃ K, K = wr.heap.size := ⟨_, rfl⟩
        have xb : Blk wq K 81 #[.string x.key, .string x.text] := by rw [hwq, hK]; exact Blk.new _ _ _
        have bbq : Blk wq w.heap.size 32 (msgC 0 path (some ⟨b, off, none⟩) l.length c AB nb cb) := by rw [hwq]; exact bb.alloc _
        have hBq : Below w.heap.size w wq := by rw [hwq]; exact hB.alloc hB.size _
        have hxm : x.key.size ≤ maxLen := by have := x.hk; unfold maxLen; omega
        have omq : wq.ownsMap Tryd.prog 9 (plainElem (H := Unit) Tryd.prog 4) Mb k (keyM ((l.take k).map Hd.key).reverse) := by rw [hwq]; exact own_map_below OM.out ((Below.refl _ _).alloc (Nat.le_refl _) _)
        have hlk := look_bool omq hxm
        rw [any_perm_rev, ← hasK_map] at hlk
        have hkey := fun W => refkey_any x.key x.hk W
        have hln := fun W => refline_any x.text x.ht W
        obtain ⟨q1, hq1⟩ : ∃ q, q = keyP x.key := ⟨_, rfl⟩
        obtain ⟨q2, hq2⟩ : ∃ q, q = lineP x.text := ⟨_, rfl⟩
        obtain ⟨q3, hq3⟩ : ∃ q, q = hasK (l.take k) x.key := ⟨_, rfl⟩
        simp only [← hq1] at hkey
        simp only [← hq2] at hln
        rw [← hq3, hwq] at hlk
        rw [← hq1, ← hq2, ← hq3] at hst
        have HS := Lib.hid (HA.out.trans hst)
        have HK := Lib.hid hkey
        have HLN := Lib.hid hln
        have HTK := Lib.hid htk
        have OMQ := Lib.hid omq
        have ⟨x0, x1⟩ := xb.c2
        have xl := xb.lt
        clear hst hx HA hq1 hq2 hq3 hln hkey hB bb OM htk omq
        cases q3
        · go_wp2_with (go_at_call 43; refine Hid.out ?_)
          rw [← hK, ← hwq]
          unfold Hid
          clear hwq hK d0 d1 k0 k1 k2 k3 x0 x1 hlk
          refine (HK.out _).mono ?_
          rintro e w2 ⟨rfl, hb⟩
          clear HK
          have om2 := own_map_below OMQ.out hb
          have xb := xb.below hb xl
          have bb := bbq.below hb bbq.lt
          have hB := hBq.trans (hb.mono hBq.size)
          clear hb bbq hBq OMQ xl
          have ⟨x0, x1⟩ := xb.c2
          have bl := bb.lt
          have xl := xb.lt
          cases q1
          · have HV : Hid (rv = 7) := Lib.hid (by rw [HH.out, HS.out]; rfl)
            clear HH HS HLN om2
            go_wp2
            go_ret
            exact ⟨ret_int HV.out.symm, hB⟩
          · go_wp2_with (go_at_call 61; refine Hid.out ?_)
            unfold Hid
            refine (HLN.out w2).mono ?_
            rintro e w3 ⟨rfl, rfl⟩
            clear HLN
            cases q2
            · have HV : Hid (rv = 7) := Lib.hid (by rw [HH.out, HS.out]; rfl)
              clear HH HS om2
              go_wp2
              go_ret
              exact ⟨ret_int HV.out.symm, hB⟩
            · obtain ⟨w4, hup, om4, hg4⟩ := om2.update mkeyS Tryd.underlying82 (by unfold maxLen; omega) (WideMaps.keyOf_string_mk Tryd.underlying9 hxm) (plainElem_bool (H := Unit) Tryd.underlying4 true)
              have bb4 := bb.grown hg4 (fun e => by injection e with e; omega)
              have hB4 := hB.grown hg4 hB.size (fun g hg => by cases hg; omega)
              have OM4 : Hid (w4.ownsMap Tryd.prog 9 (plainElem (H := Unit) Tryd.prog 4) Mb (k + 1) (keyM ((l.take (k + 1)).map Hd.key).reverse)) := Lib.hid (by
                rw [HTK.out, List.map_append, List.reverse_append]
                exact om4)
              clear om2 om4 hg4 bb hB
              go_wp2
              go_roundw
              case rel => exact ⟨k + 1, by omega, by go_num, Lib.hid (by rw [HS.out]; rfl), hB4, bb4, OM4⟩
              case measure => simp [intOf]; omega
        · have HV : Hid (rv = 7) := Lib.hid (by rw [HH.out, HS.out]; cases q1 <;> cases q2 <;> rfl)
          clear HH HS HK HLN OMQ
          subst hwq
          go_wp2
          go_ret
          exact ⟨ret_int HV.out.symm, hBq⟩
      · have HV : Hid (rv = 0) := Lib.hid (by rw [HH.out, HA.out, hds_end (by omega)]; rfl)
        have hle : l.length ≤ k := by omega
        clear HH HA OM
        go_wp2
        go_ret
        exact ⟨ret_int HV.out.symm, hB⟩
  · subst he
    have g0 : (st == 0) = false := by simp; omega
    have g1 : (st != 0) = true := by simp; omega
    have h1' : ¬ st < 100 := by omega
    have h2' : ¬ 599 < st := by omega
    have ⟨k0, k1, k2, k3⟩ := bb.c4
    have bl := bb.lt
    clear h1 h2
    go_enter Tryd.func24, Tryd.ntmps24
    go_upto_region 5 with fail
    rw [← hwz]
    clear hwz
    by_cases h3 : 6 < l.length
    · have HV : Hid (rv = 5) := Lib.hid (by rw [HR.out, if_pos h3])
      have h3' : (6 : Int) < (l.length : Int) := by omega
      clear HR h3
      go_wp2
      go_ret
      exact ⟨ret_int HV.out.symm, hB⟩
    by_cases h4 : 40 < nb
    · have HV : Hid (rv = 4) := Lib.hid (by rw [HR.out, if_neg h3, if_pos h4])
      have h3' : ¬ (6 : Int) < (l.length : Int) := by omega
      have h4' : (40 : Int) < (nb : Int) := by omega
      clear HR h3 h4
      go_wp2
      go_ret
      exact ⟨ret_int HV.out.symm, hB⟩
    have HH : Hid (rv = if hdsP [] l = true then 0 else 7) := Lib.hid (by rw [HR.out, if_neg h3, if_neg h4])
    have h3' : ¬ (6 : Int) < (l.length : Int) := by omega
    have h4' : ¬ (40 : Int) < (nb : Int) := by omega
    clear HR h4
    obtain ⟨Mb, hMb⟩ : ∃ M, M = wz.heap.size := ⟨_, rfl⟩
    obtain ⟨wm, hwm⟩ : ∃ W, W = wz.alloc (.map #[] 0) := ⟨_, rfl⟩
    have om : wm.ownsMap Tryd.prog 9 (plainElem (H := Unit) Tryd.prog 4) Mb 0 (keyM []) := by rw [hwm, hMb]; exact World.ownsMap_made _ _ _ _
    have bb : Blk wm w.heap.size 32 (msgC st ⟨#[]⟩ A l.length c AB nb cb) := by rw [hwm]; exact bb.alloc _
    have hMg : w.heap.size < Mb := by rw [hMb]; exact bl
    have hB : Below w.heap.size w wm := by rw [hwm]; exact hB.alloc hB.size _
    have bl := bb.lt
    have ⟨k0, k1, k2, k3⟩ := bb.c4
    have hmm := @run_makeMap Tryd.prog
    go_wp2
    rw [← hwm, ← hMb]
    clear k0 k1 k2 k3 bl h3' h4' hwm hMb hmm
    go_loopw [51] (fun i wr => ∃ k : Nat, k ≤ l.length ∧ i = .int .i64 k ∧ Hid (hdsP [] l = hdsP ((l.take k).map Hd.key) (l.drop k)) ∧ Below w.heap.size w wr ∧ Blk wr w.heap.size 32 (msgC st ⟨#[]⟩ A l.length c AB nb cb) ∧ Hid (wr.ownsMap Tryd.prog 9 (plainElem (H := Unit) Tryd.prog 4) Mb k (keyM ((l.take k).map Hd.key).reverse)))
      (fun i _ => l.length - (intOf i).toNat)
    case atStart => exact ⟨0, Nat.zero_le _, rfl, Lib.hid rfl, hB, bb, Lib.hid om⟩
    case round =>
      clear hB bb om
      obtain ⟨k, hk, rfl, HA, hB, bb, OM⟩ := hrel
      have ⟨k0, k1, k2, k3⟩ := bb.c4
      have bl := bb.lt
      by_cases hlt : k < l.length
      · obtain ⟨b, off, x, rfl, hbB, hx, d0, d1⟩ := (hr.below hB).atH hlt
        have hst := hds_step hx
        have htk := take_snoc' hx
        obtain ⟨wq, hwq⟩ : ∃ wq, wq = wr.alloc (.cells #[.string x.key, .string x.text] 81) := ⟨_, rfl⟩
        obtain ⟨K, hK⟩ : ∃ K, K = wr.heap.size := ⟨_, rfl⟩
        have xb : Blk wq K 81 #[.string x.key, .string x.text] := by rw [hwq, hK]; exact Blk.new _ _ _
        have bbq : Blk wq w.heap.size 32 (msgC st ⟨#[]⟩ (some ⟨b, off, none⟩) l.length c AB nb cb) := by rw [hwq]; exact bb.alloc _
        have hBq : Below w.heap.size w wq := by rw [hwq]; exact hB.alloc hB.size _
        have hxm : x.key.size ≤ maxLen := by have := x.hk; unfold maxLen; omega
        have omq : wq.ownsMap Tryd.prog 9 (plainElem (H := Unit) Tryd.prog 4) Mb k (keyM ((l.take k).map Hd.key).reverse) := by rw [hwq]; exact own_map_below OM.out ((Below.refl _ _).alloc (Nat.le_refl _) _)
        have hlk := look_bool omq hxm
        rw [any_perm_rev, ← hasK_map] at hlk
        have hkey := fun W => refkey_any x.key x.hk W
        have hln := fun W => refline_any x.text x.ht W
        obtain ⟨q1, hq1⟩ : ∃ q, q = keyP x.key := ⟨_, rfl⟩
        obtain ⟨q2, hq2⟩ : ∃ q, q = lineP x.text := ⟨_, rfl⟩
        obtain ⟨q3, hq3⟩ : ∃ q, q = hasK (l.take k) x.key := ⟨_, rfl⟩
        simp only [← hq1] at hkey
        simp only [← hq2] at hln
        rw [← hq3, hwq] at hlk
        rw [← hq1, ← hq2, ← hq3] at hst
        have HS := Lib.hid (HA.out.trans hst)
        have HK := Lib.hid hkey
        have HLN := Lib.hid hln
        have HTK := Lib.hid htk
        have OMQ := Lib.hid omq
        have ⟨x0, x1⟩ := xb.c2
        have xl := xb.lt
        clear hst hx HA hq1 hq2 hq3 hln hkey hB bb OM htk omq
        cases q3
        · go_wp2_with (go_at_call 43; refine Hid.out ?_)
          rw [← hK, ← hwq]
          unfold Hid
          clear hwq hK d0 d1 k0 k1 k2 k3 x0 x1 hlk
          refine (HK.out _).mono ?_
          rintro e w2 ⟨rfl, hb⟩
          clear HK
          have om2 := own_map_below OMQ.out hb
          have xb := xb.below hb xl
          have bb := bbq.below hb bbq.lt
          have hB := hBq.trans (hb.mono hBq.size)
          clear hb bbq hBq OMQ xl
          have ⟨x0, x1⟩ := xb.c2
          have bl := bb.lt
          have xl := xb.lt
          cases q1
          · have HV : Hid (rv = 7) := Lib.hid (by rw [HH.out, HS.out]; rfl)
            clear HH HS HLN om2
            go_wp2
            go_ret
            exact ⟨ret_int HV.out.symm, hB⟩
          · go_wp2_with (go_at_call 61; refine Hid.out ?_)
            unfold Hid
            refine (HLN.out w2).mono ?_
            rintro e w3 ⟨rfl, rfl⟩
            clear HLN
            cases q2
            · have HV : Hid (rv = 7) := Lib.hid (by rw [HH.out, HS.out]; rfl)
              clear HH HS om2
              go_wp2
              go_ret
              exact ⟨ret_int HV.out.symm, hB⟩
            · obtain ⟨w4, hup, om4, hg4⟩ := om2.update mkeyS Tryd.underlying82 (by unfold maxLen; omega) (WideMaps.keyOf_string_mk Tryd.underlying9 hxm) (plainElem_bool (H := Unit) Tryd.underlying4 true)
              have bb4 := bb.grown hg4 (fun e => by injection e with e; omega)
              have hB4 := hB.grown hg4 hB.size (fun g hg => by cases hg; omega)
              have OM4 : Hid (w4.ownsMap Tryd.prog 9 (plainElem (H := Unit) Tryd.prog 4) Mb (k + 1) (keyM ((l.take (k + 1)).map Hd.key).reverse)) := Lib.hid (by
                rw [HTK.out, List.map_append, List.reverse_append]
                exact om4)
              clear om2 om4 hg4 bb hB
              go_wp2
              go_roundw
              case rel => exact ⟨k + 1, by omega, by go_num, Lib.hid (by rw [HS.out]; rfl), hB4, bb4, OM4⟩
              case measure => simp [intOf]; omega
        · have HV : Hid (rv = 7) := Lib.hid (by rw [HH.out, HS.out]; cases q1 <;> cases q2 <;> rfl)
          clear HH HS HK HLN OMQ
          subst hwq
          go_wp2
          go_ret
          exact ⟨ret_int HV.out.symm, hBq⟩
      · have HV : Hid (rv = 0) := Lib.hid (by rw [HH.out, HA.out, hds_end (by omega)]; rfl)
        have hle : l.length ≤ k := by omega
        clear HH HA OM
        go_wp2
        go_ret
        exact ⟨ret_int HV.out.symm, hB⟩
theorem rwrong_any (st : Int) (path : ByteArray) (A AB : Option Addr) (l : List Hd) (c nb cb : Nat) (hp : path.size ≤ 140737488355328) (w : World) (hr : Rd 2 encHd w w.heap.size A l) :
    Calls Tryd.prog 24 #[msgV st path A l.length c AB nb cb] w fun e w' => e = .returned (.int .i64 (wrongP st path l nb)) ∧ Below w.heap.size w w' := by
  by_cases h : topP st path
  · exact rwrong_top st path A AB l c nb cb hp w hr h
  · exact rwrong_not st path A AB l c nb cb hp h w
end Go.Proofs.YtmcjgfoaiannoabDoor
