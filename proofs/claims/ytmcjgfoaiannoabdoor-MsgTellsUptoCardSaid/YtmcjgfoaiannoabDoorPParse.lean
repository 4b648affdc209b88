/-
  Texts of messages read by the program: msg.Parse. Conditions: the text has no more than a million bytes; the library's tables and errors lie where they lie.
-/
import Derived.Test.YtmcjgfoaiannoabDoorPText
import Derived.Lib.AtoiAllCases
namespace Go.Proofs.YtmcjgfoaiannoabDoor
open Go.RowKit Go.Lib

theorem str_lit (a : ByteArray) (l : List UInt8) : (a.toList == l) = decide (a = bs l) := by
  have e : l = (bs l).toList := by rw [toList_data]; rfl
  conv => lhs; rw [e]
  exact str_eq a (bs l)
theorem str_empty {a : ByteArray} (h : a ≠ ⟨#[]⟩) : a.toList.isEmpty = false ∧ (a.toList == []) = false := by
  constructor
  · rw [toList_data]
    cases hd : a.data.toList with
    | nil => exact absurd (ba_inj (a := a) (b := ⟨#[]⟩) (by rw [hd])) h
    | cons x l => rfl
  · rw [str_lit]
    exact decide_eq_false h
/-- what comes of reading a text -/
def ParseOut (w : World) (r : Mg × Int) (e : Ending) (w' : World) : Prop :=
  ∃ A c B f, e = .returned (.tuple #[msgV r.1.st r.1.path A r.1.l.length c B r.1.bd.length f, .int .i64 r.2]) ∧ RdS 2 encHd w' (w.heap.size ≤ ·) A r.1.l ∧ RdS 1 encY w' (w.heap.size ≤ ·) B r.1.bd ∧ r.1.l.length ≤ c ∧ c ≤ 9223372036854775807 ∧ Below w.heap.size w w'
theorem parse_err {w w' : World} {rv : Mg × Int} {code : Int} (h : rv = (emptyM, code)) (hB : Below w.heap.size w w') : ParseOut w rv (.returned (.tuple #[msgV 0 ⟨#[]⟩ none 0 0 none 0 0, .int .i64 code])) w' := by
  subst h
  exact ⟨none, 0, none, 0, rfl, RdS.nil_, RdS.nil_, Nat.le_refl _, by omega, hB⟩
theorem parse_yes {w w' : World} {rv : Mg × Int} {M : Mg} {A B : Option Addr} {n c m f : Nat} (h : rv = (M, 0)) (hn : n = M.l.length) (hm : m = M.bd.length) (h1 : RdS 2 encHd w' (w.heap.size ≤ ·) A M.l) (h2 : RdS 1 encY w' (w.heap.size ≤ ·) B M.bd) (hc : n ≤ c) (hc2 : c ≤ 9223372036854775807) (hB : Below w.heap.size w w') :
    ParseOut w rv (.returned (.tuple #[msgV M.st M.path A n c B m f, .int .i64 0])) w' := by
  subst h hn hm
  exact ⟨A, c, B, f, rfl, h1, h2, hc, hc2, hB⟩
/-- heads ahead of those that are read -/
def preO (L : List Hd) (o : Option (List Hd × List UInt8)) : Option (List Hd × List UInt8) :=
  match o with
  | none => none
  | some r => some (L ++ r.1, r.2)
/-- what comes of a message that is read, where its heads are known -/
def endP (a : Int × ByteArray) (o : Option (List Hd × List UInt8)) : Mg × Int :=
  match o with
  | none => (emptyM, 2)
  | some r => if wrongM ⟨a.1, a.2, r.1, r.2⟩ = 0 then (⟨a.1, a.2, r.1, r.2⟩, 0) else (emptyM, wrongM ⟨a.1, a.2, r.1, r.2⟩)
theorem restP_end (a : Int × ByteArray) (s : List UInt8) : restP a s = endP a (headsF (s.length + 1) s) := rfl
theorem heads_none {s : List UInt8} (h : (cutB 10 s).2.2 = false) : headsF (s.length + 1) s = none := by
  unfold headsF
  rw [if_pos h]
theorem heads_end {s : List UInt8} (h : (cutB 10 s).2.2 = true) (h2 : (cutB 10 s).1 = []) : headsF (s.length + 1) s = some ([], (cutB 10 s).2.1) := by
  unfold headsF
  rw [if_neg (by simp [h]), if_pos h2]
theorem heads_bad {s : List UInt8} (h : (cutB 10 s).2.2 = true) (h2 : (cutB 10 s).1 ≠ []) (h3 : (cutB 61 (cutB 10 s).1).2.2 = false) : headsF (s.length + 1) s = none := by
  unfold headsF
  rw [if_neg (by simp [h]), if_neg h2, if_pos h3]
theorem heads_more {s : List UInt8} (h : (cutB 10 s).2.2 = true) (h2 : (cutB 10 s).1 ≠ []) (h3 : (cutB 61 (cutB 10 s).1).2.2 = true) :
    headsF (s.length + 1) s = preO [mkHd (cutB 61 (cutB 10 s).1).1 (cutB 61 (cutB 10 s).1).2.1] (headsF ((cutB 10 s).2.1.length + 1) (cutB 10 s).2.1) := by
  conv => lhs; unfold headsF
  rw [if_neg (by simp [h]), if_neg h2, if_neg (by simp [h3])]
  rw [headsF_more (f := (cutB 10 s).2.1.length + 1) s.length (by omega) (by have := cutB_lt h; omega)]
  cases headsF ((cutB 10 s).2.1.length + 1) (cutB 10 s).2.1 <;> rfl
theorem preO_preO (L : List Hd) (x : Hd) (o : Option (List Hd × List UInt8)) : preO L (preO [x] o) = preO (L ++ [x]) o := by
  cases o <;> simp [preO]
theorem preO_nil (o : Option (List Hd × List UInt8)) : preO [] o = o := by
  cases o <;> simp [preO]
/-- a slice of strings made of texts: in a block of the call's own -/
theorem bytes_rd {w : World} {s : ByteArray} {c : Nat} {fr : Nat × Nat} : RdS 1 encY (w.alloc (.cells (bytesRow s c) 5 fr)) (w.heap.size ≤ ·) (some ⟨w.heap.size, 0, none⟩) s.data.toList := (byt_new w s c fr).rds (Nat.le_refl _)
set_option maxRecDepth 100000 in
set_option maxHeartbeats 16000000 in
theorem parse_any (s : ByteArray) (hs : s.size ≤ 1048576) (w : World) (hL : Libs w) :
    Calls Tryd.prog 48 #[.string s] w (ParseOut w (parseP s.data.toList)) := by
  obtain ⟨rv, hrv⟩ : ∃ v, v = parseP s.data.toList := ⟨_, rfl⟩
  rw [← hrv]
  obtain ⟨w0, hw0⟩ : ∃ W, W = (w.alloc (.cells zerC 32)).alloc (.cells zerC 32) := ⟨_, rfl⟩
  have zb : Blk w0 w.heap.size 32 zerC := by rw [hw0]; exact (Blk.new _ _ _).alloc _
  have mb : Blk w0 (w.heap.size + 1) 32 zerC := by rw [hw0]; exact Blk.new' _ _ (by simp) _ _
  have hB : Below w.heap.size w w0 := by rw [hw0]; exact ((Below.refl _ w).alloc (Nat.le_refl _) _).alloc (by simp) _
  have hC := cut_any s 10 (by omega) w0
  have hcl := cutB_len (c := 10) s.data.toList
  have hsl : s.data.toList.length = s.size := by rw [Array.length_toList]; rfl
  rw [hsl] at hcl
  obtain ⟨r, hr⟩ : ∃ r, r = cutB 10 s.data.toList := ⟨_, rfl⟩
  have hpP : rv = if r.2.2 = false then (emptyM, 2) else match firstL r.1 with | none => (emptyM, 2) | some a => restP a r.2.1 := by rw [hrv, hr]; rfl
  rw [← hr] at hC hcl
  clear hrv hr hsl
  obtain ⟨f, y, q⟩ := r
  unfold ctup at hC
  simp only at hC hcl hpP
  have hfz : (bs f).size ≤ 140737488355328 := by rw [bs_size]; omega
  have hC2 := fun W => cut_any (bs f) 32 hfz W
  simp only [bs_list] at hC2
  have hcl2 := cutB_len (c := 32) f
  obtain ⟨r2, hr2⟩ : ∃ r, r = cutB 32 f := ⟨_, rfl⟩
  have hfP : firstL f = if r2.2.2 = false then none else if bs r2.1 = askB then some (0, bs r2.2.1) else if bs r2.1 = sayB then (match numP (bs r2.2.1) with | some n => some (n, ⟨#[]⟩) | none => none) else none := by rw [hr2]; rfl
  simp only [← hr2] at hC2
  rw [← hr2] at hcl2
  clear hr2
  obtain ⟨wd, wt, q2⟩ := r2
  unfold ctup at hC2
  simp only at hC2 hcl2 hfP
  obtain ⟨word, hword⟩ : ∃ x, x = bs wd := ⟨_, rfl⟩
  obtain ⟨what, hwhat⟩ : ∃ x, x = bs wt := ⟨_, rfl⟩
  have hwz : what.size ≤ 1048576 := by rw [hwhat, bs_size]; omega
  simp only [← hword, ← hwhat] at hC2
  rw [← hword, ← hwhat] at hfP
  clear hword hwhat
  have HC2 := Lib.hid hC2
  have HPP := Lib.hid hpP
  have HFP := Lib.hid hfP
  clear hC2 hpP hfP
  go_enter Tryd.func48, Tryd.ntmps48
  go_wp2_with (go_at_call 73; refine Hid.out ?_)
  unfold Hid
  rw [← hw0]
  clear hw0
  refine hC.mono ?_
  rintro e w1 ⟨rfl, hb⟩
  have zb := zb.below hb zb.lt
  have mb := mb.below hb mb.lt
  have hB := hB.trans (hb.mono hB.size)
  clear hb hC
  go_wp2_with (go_at_call 73; refine Hid.out ?_)
  unfold Hid
  refine (HC2.out w1).mono ?_
  rintro e w2 ⟨rfl, hb⟩
  have zb := zb.below hb zb.lt
  have mb := mb.below hb mb.lt
  have hB := hB.trans (hb.mono hB.size)
  have hL := hL.below hB
  clear hb HC2
  have ⟨z0, z1, z2, z3⟩ := zb.c4
  have ⟨m0, m1, m2, m3⟩ := mb.c4
  have zf := zb.frz
  have mf := mb.frz
  have zl := zb.lt
  have ml := mb.lt
  cases q
  · have HV : Hid (rv = (emptyM, 2)) := Lib.hid HPP.out
    clear HPP HFP
    go_wp2
    refine bodyPost_ret (v := .tuple #[msgV 0 ⟨#[]⟩ none 0 0 none 0 0, .int .i64 2]) (by simp only [results, Tryd.results48]; go_simp) rfl (parse_err HV.out ?_)
    iterate 4 refine Below.setCell ?_ (by show w.heap.size ≤ w.heap.size; omega) _
    exact hB
  cases q2
  · have HV : Hid (rv = (emptyM, 2)) := Lib.hid (by
      have h1 := HPP.out
      have h2 := HFP.out
      rw [h1, h2]; rfl)
    clear HPP HFP
    go_wp2
    refine bodyPost_ret (v := .tuple #[msgV 0 ⟨#[]⟩ none 0 0 none 0 0, .int .i64 2]) (by simp only [results, Tryd.results48]; go_simp) rfl (parse_err HV.out ?_)
    iterate 4 refine Below.setCell ?_ (by show w.heap.size ≤ w.heap.size; omega) _
    exact hB
  have hpP : rv = match firstL f with | none => (emptyM, 2) | some a => restP a y := HPP.out
  have hfP : firstL f = if word = askB then some (0, what) else if word = sayB then (match numP what with | some n => some (n, ⟨#[]⟩) | none => none) else none := HFP.out
  clear HPP HFP
  have hyl : y.length ≤ 1048576 := by omega
  by_cases ha : word = askB
  · rw [if_pos ha] at hfP
    have HRY : Hid (rv = endP (0, what) (headsF (y.length + 1) y)) := Lib.hid (by rw [hpP, hfP]; rfl)
    clear hpP hfP
    have ha2 : word = ⟨#[97, 115, 107]⟩ := ha
    clear ha
    subst ha2
    have mb := mb.set_ 1 (.string what)
    have zb := zb.far (p := ⟨w.heap.size + 1, 1, none⟩) (by show w.heap.size ≠ w.heap.size + 1; omega) (.string what)
    have hB := hB.setCell (p := ⟨w.heap.size + 1, 1, none⟩) (by show w.heap.size ≤ w.heap.size + 1; omega) (.string what)
    have mb : Blk (w2.setCell ⟨w.heap.size + 1, 1, none⟩ (.string what)) (w.heap.size + 1) 32 (msgC 0 what none 0 0 none 0 0) := mb
    go_wp2
    clear z0 z1 z2 z3 m0 m1 m2 m3 zf mf zl ml
    go_loopw [6] (fun t wr => ∃ (x : List UInt8) (L : List Hd) (A4 : Option Addr) (c4 : Nat), t = .string (bs x) ∧ Hid (rv = endP (0, what) (preO L (headsF (x.length + 1) x))) ∧ L.length + x.length ≤ 1048576 ∧ Below w.heap.size w wr ∧ Blk wr w.heap.size 32 zerC ∧ Blk wr (w.heap.size + 1) 32 (msgC 0 what A4 L.length c4 none 0 0) ∧ Hid (OwH wr w.heap.size A4 c4 L))
      (fun t _ => match t with | .string b => b.size | _ => 0)
    case atStart => exact ⟨y, [], none, 0, rfl, Lib.hid (by rw [preO_nil]; exact HRY.out), by simp; omega, hB, zb, mb, Lib.hid (World.ownsRow_nil _ _ _ _)⟩
    case round =>
      clear hB zb mb HRY hyl hL hcl
      obtain ⟨x, L, A4, c4, rfl, HA, hlen, hB, zb, mb, OW⟩ := hrel
      have ⟨z0, z1, z2, z3⟩ := zb.c4
      have ⟨m0, m1, m2, m3⟩ := mb.c4
      have zf := zb.frz
      have mf := mb.frz
      have zl := zb.lt
      have ml := mb.lt
      have hxz : (bs x).size ≤ 140737488355328 := by rw [bs_size]; omega
      have hC := cut_any (bs x) 10 hxz wr
      rw [bs_list] at hC
      unfold ctup at hC
      cases hq : (cutB 10 x).2.2
      · have HV : Hid (rv = (emptyM, 2)) := Lib.hid (by rw [HA.out, heads_none hq]; rfl)
        rw [hq] at hC
        clear hq HA OW
        go_wp2_with (go_at_call 73; refine Hid.out ?_)
        unfold Hid
        refine hC.mono ?_
        rintro e w3 ⟨rfl, hb⟩
        have zb := zb.below hb zl
        have hB := hB.trans (hb.mono hB.size)
        clear hb hC z0 z1 z2 z3 m0 m1 m2 m3 zf mf zl ml mb
        have ⟨z0, z1, z2, z3⟩ := zb.c4
        have zf := zb.frz
        have zl := zb.lt
        go_wp2
        refine bodyPost_ret (v := .tuple #[msgV 0 ⟨#[]⟩ none 0 0 none 0 0, .int .i64 2]) (by simp only [results, Tryd.results48]; go_simp) rfl (parse_err HV.out ?_)
        iterate 4 refine Below.setCell ?_ (by show w.heap.size ≤ w.heap.size; omega) _
        exact hB
      · rw [hq] at hC
        have hcl := cutB_len (c := 10) x
        have hcs := cutB_lt hq
        by_cases hln : (cutB 10 x).1 = []
        · have HE : Hid (headsF (x.length + 1) x = some ([], (cutB 10 x).2.1)) := Lib.hid (heads_end hq hln)
          obtain ⟨bd, hbd⟩ : ∃ b, b = (cutB 10 x).2.1 := ⟨_, rfl⟩
          rw [← hbd] at HE hC hcl hcs
          rw [hln] at hC
          have e0 : bs [] = ⟨#[]⟩ := rfl
          rw [e0] at hC
          have HR : Hid (rv = endP (0, what) (some (L, bd))) := Lib.hid (by rw [HA.out, HE.out]; simp [preO])
          clear hbd hln hq HA HE e0
          go_wp2_with (go_at_call 73; refine Hid.out ?_)
          unfold Hid
          refine hC.mono ?_
          rintro e w3 ⟨rfl, hb⟩
          have zb := zb.below hb zl
          have mb := mb.below hb ml
          have ow := OW.out.below hb
          have hB := hB.trans (hb.mono hB.size)
          clear hb hC z0 z1 z2 z3 m0 m1 m2 m3 zf mf zl ml OW
          have ⟨z0, z1, z2, z3⟩ := zb.c4
          have ⟨m0, m1, m2, m3⟩ := mb.c4
          have zf := zb.frz
          have mf := mb.frz
          have zl := zb.lt
          have ml := mb.lt
          have hcv := fun (W : World) => run_bytes_of_string (P := Tryd.prog) W 9 30 5 (bs bd) Tryd.underlying9 Tryd.underlying30 Tryd.underlying5
          obtain ⟨N, hN⟩ : ∃ N, N = w3.heap.size := ⟨_, rfl⟩
          obtain ⟨G, hG⟩ : ∃ G, G = grownCap w3 (bs bd).size 0 5 := ⟨_, rfl⟩
          obtain ⟨w4, hw4⟩ : ∃ W, W = (((w3.setCell ⟨w.heap.size + 1, 3, none⟩ (.slice (some ⟨N, 0, none⟩) (bs bd).size G)).alloc (.cells (bytesRow (bs bd) G) 5 ((bytesRow (bs bd) G).size, (bytesRow (bs bd) G).size + 1))).drew) := ⟨_, rfl⟩
          have hNw : w.heap.size + 1 < N := by rw [hN]; exact ml
          have ow4 : OwH w4 w.heap.size A4 c4 L := by rw [hw4]; exact (ow.box mb (by decide) _).below (Below.drew ((Below.refl _ _).alloc (Nat.le_refl _) _))
          have hy4 : RdS 1 encY w4 (N ≤ ·) (some ⟨N, 0, none⟩) bd := by
            have e1 : (w3.setCell ⟨w.heap.size + 1, 3, none⟩ (.slice (some ⟨N, 0, none⟩) (bs bd).size G)).heap.size = N := by rw [hN]; simp
            have h1 := bytes_rd (w := w3.setCell ⟨w.heap.size + 1, 3, none⟩ (.slice (some ⟨N, 0, none⟩) (bs bd).size G)) (s := bs bd) (c := G) (fr := ((bytesRow (bs bd) G).size, (bytesRow (bs bd) G).size + 1))
            rw [e1] at h1
            rw [hw4]
            exact h1
          have zb4 : Blk w4 w.heap.size 32 zerC := by rw [hw4]; exact ((zb.far (p := ⟨w.heap.size + 1, 3, none⟩) (by show w.heap.size ≠ w.heap.size + 1; omega) _).alloc _).drew
          have mb4 : Blk w4 (w.heap.size + 1) 32 (msgC 0 what A4 L.length c4 (some ⟨N, 0, none⟩) (bs bd).size G) := by rw [hw4]; exact ((mb.set_ 3 _).alloc _).drew
          have hB4 : Below w.heap.size w w4 := by rw [hw4]; exact Below.drew ((hB.setCell (p := ⟨w.heap.size + 1, 3, none⟩) (by show w.heap.size ≤ w.heap.size + 1; omega) _).alloc (by simpa using hB.size) _)
          obtain ⟨hcap, hcmx⟩ := ow4.cap
          unfold maxLen at hcmx
          have hW := wrong_anyC 0 what A4 (some ⟨N, 0, none⟩) L c4 (bs bd).size G (by omega) hcap hcmx w4 ow4.rd
          obtain ⟨zc, hzc⟩ : ∃ z, z = wrongP 0 what L (bs bd).size := ⟨_, rfl⟩
          rw [← hzc] at hW
          have hzM : zc = wrongM ⟨0, what, L, bd⟩ := by rw [hzc, bs_size]; rfl
          have HR2 : Hid (rv = if zc = 0 then (⟨0, what, L, bd⟩, 0) else (emptyM, zc)) := Lib.hid (by rw [HR.out, hzM]; rfl)
          clear hzc hzM HR
          clear zb mb ow hB
          go_wp2_with (go_at_call 41; refine Hid.out ?_)
          rw [← hN, ← hG, ← hw4]
          unfold Hid
          clear hN hG hw4 hcv z0 z1 z2 z3 m0 m1 m2 m3 zf mf zl ml
          refine hW.mono ?_
          rintro e w5 ⟨rfl, hb⟩
          have zb := zb4.below hb zb4.lt
          have mb := mb4.below hb mb4.lt
          have ow := ow4.below hb
          have hy5 := hy4.below hb
          have hB := hB4.trans (hb.mono hB4.size)
          clear hb hW zb4 mb4 ow4 hy4 hB4
          have ⟨z0, z1, z2, z3⟩ := zb.c4
          have ⟨m0, m1, m2, m3⟩ := mb.c4
          have zf := zb.frz
          have mf := mb.frz
          have zl := zb.lt
          have ml := mb.lt
          by_cases hz0 : zc ≠ 0
          · have f1 : (zc == 0) = false := by simpa using hz0
            have f2 : (zc != 0) = true := by simpa using hz0
            have HV : Hid (rv = (emptyM, zc)) := Lib.hid (by rw [HR2.out, if_neg hz0])
            clear hz0 HR2
            go_wp2
            refine bodyPost_ret (v := .tuple #[msgV 0 ⟨#[]⟩ none 0 0 none 0 0, .int .i64 zc]) (by simp only [results, Tryd.results48]; go_simp) rfl (parse_err HV.out ?_)
            iterate 4 refine Below.setCell ?_ (by show w.heap.size ≤ w.heap.size; omega) _
            exact hB
          have hz0 := Decidable.not_not.1 hz0
          have HV : Hid (rv = (⟨0, what, L, bd⟩, 0)) := Lib.hid (by rw [HR2.out, if_pos hz0])
          clear HR2
          subst hz0
          go_wp2
          have o7 := (ow.box4 zb (.int .i64 0) (.string what) (.slice A4 L.length c4) (.slice (some ⟨N, 0, none⟩) (bs bd).size G)).rds
          have y7 := (hy5.set4 (g := w.heap.size) (by omega) (.int .i64 0) (.string what) (.slice A4 L.length c4) (.slice (some ⟨N, 0, none⟩) (bs bd).size G)).mono (S' := (w.heap.size ≤ ·)) (fun b h => by omega)
          refine bodyPost_ret (v := .tuple #[msgV 0 what A4 L.length c4 (some ⟨N, 0, none⟩) (bs bd).size G, .int .i64 0]) (by simp only [results, Tryd.results48]; go_simp) rfl (parse_yes HV.out rfl (bs_size bd) o7 y7 hcap hcmx ?_)
          iterate 4 refine Below.setCell ?_ (by show w.heap.size ≤ w.heap.size; omega) _
          exact hB
        · have hne := str_empty (a := bs (cutB 10 x).1) (fun e => hln (bs_inj (b := []) e))
          obtain ⟨n1, n2⟩ := hne
          have hxz2 : (bs (cutB 10 x).1).size ≤ 140737488355328 := by rw [bs_size]; omega
          have hC2 := fun W => cut_any (bs (cutB 10 x).1) 61 hxz2 W
          simp only [bs_list] at hC2
          have hcl2 := cutB_len (c := 61) (cutB 10 x).1
          have HM := fun h3 => heads_more (s := x) hq hln h3
          have HBD := fun h3 => heads_bad (s := x) hq hln h3
          obtain ⟨ln, hln'⟩ : ∃ b, b = (cutB 10 x).1 := ⟨_, rfl⟩
          obtain ⟨mo, hmo⟩ : ∃ b, b = (cutB 10 x).2.1 := ⟨_, rfl⟩
          rw [← hln'] at hC n1 n2 hxz2 hcl2 hcl
          rw [← hmo] at hC hcl hcs
          simp only [← hln'] at hC2
          simp only [← hln', ← hmo] at HM HBD
          clear hln' hmo hln hq
          obtain ⟨r3, hr3⟩ : ∃ b, b = cutB 61 ln := ⟨_, rfl⟩
          rw [← hr3] at hcl2
          simp only [← hr3] at hC2 HM HBD
          clear hr3
          obtain ⟨kk, vv, q3⟩ := r3
          unfold ctup at hC2
          simp only at hC2 hcl2 HM HBD
          have HC2 := Lib.hid hC2
          have HM := Lib.hid HM
          have HBD := Lib.hid HBD
          clear hC2
          go_wp2_with (go_at_call 73; refine Hid.out ?_)
          unfold Hid
          refine hC.mono ?_
          rintro e w3 ⟨rfl, hb⟩
          have zb := zb.below hb zl
          have mb := mb.below hb ml
          have ow := OW.out.below hb
          have hB := hB.trans (hb.mono hB.size)
          clear hb hC z0 z1 z2 z3 m0 m1 m2 m3 zf mf zl ml OW
          go_wp2_with (go_at_call 73; refine Hid.out ?_)
          unfold Hid
          refine (HC2.out w3).mono ?_
          rintro e w4 ⟨rfl, hb⟩
          have zb := zb.below hb zb.lt
          have mb := mb.below hb mb.lt
          have ow := ow.below hb
          have hB := hB.trans (hb.mono hB.size)
          clear hb HC2
          have ⟨z0, z1, z2, z3⟩ := zb.c4
          have ⟨m0, m1, m2, m3⟩ := mb.c4
          have zf := zb.frz
          have mf := mb.frz
          have zl := zb.lt
          have ml := mb.lt
          cases q3
          · have HV : Hid (rv = (emptyM, 2)) := Lib.hid (by rw [HA.out, HBD.out rfl]; rfl)
            clear HA HM HBD
            go_wp2
            refine bodyPost_ret (v := .tuple #[msgV 0 ⟨#[]⟩ none 0 0 none 0 0, .int .i64 2]) (by simp only [results, Tryd.results48]; go_simp) rfl (parse_err HV.out ?_)
            iterate 4 refine Below.setCell ?_ (by show w.heap.size ≤ w.heap.size; omega) _
            exact hB
          · obtain ⟨hd, hhd⟩ : ∃ h : Hd, h = ⟨bs kk, bs vv, by rw [bs_size]; omega, by rw [bs_size]; omega⟩ := ⟨_, rfl⟩
            have hk1 : hd.key = bs kk := by rw [hhd]
            have hk2 : hd.text = bs vv := by rw [hhd]
            have hmk : mkHd kk vv = hd := by
              rw [hhd]
              unfold mkHd
              rw [dif_pos ⟨by rw [bs_size]; omega, by rw [bs_size]; omega⟩]
            have HA2 : Hid (rv = endP (0, what) (preO (L ++ [hd]) (headsF (mo.length + 1) mo))) := Lib.hid (by
              rw [HA.out, HM.out rfl, preO_preO, hmk])
            clear HA HM HBD hmk hhd
            obtain ⟨i0, hi, hz0, hz1, hz2⟩ := info_parts infoHd
            have hone : ∀ u ∈ encHd hd, u.oneCell' = true := fun u hu => encHd_one [hd] u (by simpa using hu)
            have hee : encHd hd = [.string (bs kk), .string (bs vv)] := by unfold encHd; rw [hk1, hk2]
            rw [hee] at hone
            have hcn := cells_new w4 w4.heap.size rfl [.string (bs kk), .string (bs vv)] 81
            have hown2 := ow.alloc (.cells #[.string (bs kk), .string (bs vv)] 81)
            have HN := Lib.hid (own_blk_ne ow mb (by decide))
            have HN1 := Lib.hid (own_blk_ne ow zb (by decide))
            have HGE := Lib.hid (own_ge ow)
            have e0 := mb.alloc (.cells #[.string (bs kk), .string (bs vv)] 81)
            have e1 := zb.alloc (.cells #[.string (bs kk), .string (bs vv)] 81)
            have hB3 := hB.alloc hB.size (.cells #[.string (bs kk), .string (bs vv)] 81)
            have hbs := hB.size
            have HEE := Lib.hid hee
            clear hB mb zb ow hee hk1 hk2
            go_wp2_with (at_builtin; refine wpList_append_own _ rfl (.tmp 88) (.tmp 92) 29 rfl w.heap.size 81 i0 _ 2 32 Tryd.underlying29 hi hz0 hz1 hz2 rfl (by decide) _ _ _ rfl hown2 ⟨w4.heap.size, 0, none⟩ 1 1 [.string (bs kk), .string (bs vv)] rfl rfl hcn hone (by simp only [maxLen]; omega) (by omega) (by simp; omega) ?_; intro v5 w5 hown5 hg5 _; obtain ⟨A5, c5, rfl, _, _⟩ := own_shape hown5; have q0 := e0.grown hg5 HN.out.symm; have q1 := e1.grown hg5 HN1.out.symm; have Q0 := Lib.hid q0; have Q1 := Lib.hid q1; obtain ⟨p0, p1, p2, p3⟩ := q0.c4; have pl := q0.lt; have fp := q0.frz; clear q0 q1)
            go_roundw
            case rel =>
              have hB5 : Below w.heap.size w w5 := hB3.grown hg5 hB3.size (fun g hg => HGE.out g hg)
              have o5 : OwH w5 w.heap.size A5 c5 (L ++ [hd]) := by
                unfold OwH
                rw [List.length_append, List.flatMap_append]
                simp only [List.flatMap_cons, List.flatMap_nil, List.append_nil, HEE.out]
                simpa using hown5
              refine ⟨mo, L ++ [hd], A5, c5, rfl, HA2, ?_, hB5.setCell (by show w.heap.size ≤ w.heap.size + 1; omega) _, Q1.out.far (by show w.heap.size ≠ w.heap.size + 1; omega) _, ?_, Lib.hid (o5.box Q0.out (by decide) _)⟩
              · rw [List.length_append]
                simp
                omega
              · rw [List.length_append]
                exact Q0.out.set_ 2 _
            case measure =>
              simp only [bs_size]
              omega
  have t1 : (word.toList == [97, 115, 107]) = false := by rw [str_lit]; exact decide_eq_false ha
  rw [if_neg ha] at hfP
  by_cases hy : word = sayB
  · rw [if_pos hy] at hfP
    have hy2 : word = ⟨#[115, 97, 121]⟩ := hy
    clear ha hy t1
    subst hy2
    rcases hAt : Lib.atoiAll what.data.toList with v | _ | _
    · have hnum : numP what = if itoaB v = what ∧ v ≠ 0 then some v else none := by unfold numP; rw [hAt]
      have hbd := Lib.atoiAll_bounds hAt
      have hwf : (Lit.int .i64 v).wf = true := by
        simp [Lit.wf, IntKind.min, IntKind.max, IntKind.signed, IntKind.bits]
        omega
      have hAK := atoi_ok what (by omega) v hAt w2
      have HPP := Lib.hid hpP
      have HFP := Lib.hid hfP
      have HNP := Lib.hid hnum
      clear hpP hfP hnum hAt
      go_wp2_with (go_at_call 74; refine Hid.out ?_)
      unfold Hid
      refine hAK.mono ?_
      rintro e w3 ⟨rfl, hb⟩
      have zb := zb.below hb zl
      have mb := mb.below hb ml
      have hB := hB.trans (hb.mono hB.size)
      have hL := hL.below hb
      clear hb hAK z0 z1 z2 z3 m0 m1 m2 m3 zf mf zl ml
      go_wp2_with (go_at_call 59; refine Hid.out ?_)
      unfold Hid
      refine (itoa_any v hwf w3 hL.p).mono ?_
      rintro e w4 ⟨rfl, hb⟩
      have zb := zb.below hb zb.lt
      have mb := mb.below hb mb.lt
      have hB := hB.trans (hb.mono hB.size)
      have hL := hL.below hb
      clear hb
      have ⟨z0, z1, z2, z3⟩ := zb.c4
      have ⟨m0, m1, m2, m3⟩ := mb.c4
      have zf := zb.frz
      have mf := mb.frz
      have zl := zb.lt
      have ml := mb.lt
      obtain ⟨dg, hdg⟩ : ∃ x, x = itoaB v := ⟨_, rfl⟩
      have HNP : Hid (numP what = if dg = what ∧ v ≠ 0 then some v else none) := Lib.hid (by rw [hdg]; exact HNP.out)
      rw [← hdg]
      clear hdg
      by_cases he : dg ≠ what
      · have HV : Hid (rv = (emptyM, 2)) := Lib.hid (by
          have h1 := HPP.out
          rw [HFP.out, HNP.out, if_neg (fun h => he h.1)] at h1
          exact h1)
        have u1 := str_no he
        have u2 : (dg.toList != what.toList) = true := by rw [bne, u1]; rfl
        clear HPP HFP HNP he
        go_wp2
        refine bodyPost_ret (v := .tuple #[msgV 0 ⟨#[]⟩ none 0 0 none 0 0, .int .i64 2]) (by simp only [results, Tryd.results48]; go_simp) rfl (parse_err HV.out ?_)
        iterate 4 refine Below.setCell ?_ (by show w.heap.size ≤ w.heap.size; omega) _
        exact hB
      have he := Decidable.not_not.1 he
      by_cases hv0 : v = 0
      · have HV : Hid (rv = (emptyM, 2)) := Lib.hid (by
          have h1 := HPP.out
          rw [HFP.out, HNP.out, if_neg (fun h => h.2 hv0)] at h1
          exact h1)
        subst he hv0
        clear HPP HFP HNP
        go_wp2
        refine bodyPost_ret (v := .tuple #[msgV 0 ⟨#[]⟩ none 0 0 none 0 0, .int .i64 2]) (by simp only [results, Tryd.results48]; go_simp) rfl (parse_err HV.out ?_)
        iterate 4 refine Below.setCell ?_ (by show w.heap.size ≤ w.heap.size; omega) _
        exact hB
      have HRY : Hid (rv = endP (v, ⟨#[]⟩) (headsF (y.length + 1) y)) := Lib.hid (by
        have h1 := HPP.out
        rw [HFP.out, HNP.out, if_pos ⟨he, hv0⟩] at h1
        exact h1)
      have v1 : (v == 0) = false := by simpa using hv0
      subst he
      clear HPP HFP HNP hv0
      have mb := mb.set_ 0 (.int .i64 v)
      have zb := zb.far (p := ⟨w.heap.size + 1, 0, none⟩) (by show w.heap.size ≠ w.heap.size + 1; omega) (.int .i64 v)
      have hB := hB.setCell (p := ⟨w.heap.size + 1, 0, none⟩) (by show w.heap.size ≤ w.heap.size + 1; omega) (.int .i64 v)
      have mb : Blk (w4.setCell ⟨w.heap.size + 1, 0, none⟩ (.int .i64 v)) (w.heap.size + 1) 32 (msgC v ⟨#[]⟩ none 0 0 none 0 0) := mb
      go_wp2
      clear z0 z1 z2 z3 m0 m1 m2 m3 zf mf zl ml
      go_loopw [6] (fun t wr => ∃ (x : List UInt8) (L : List Hd) (A4 : Option Addr) (c4 : Nat), t = .string (bs x) ∧ Hid (rv = endP (v, ⟨#[]⟩) (preO L (headsF (x.length + 1) x))) ∧ L.length + x.length ≤ 1048576 ∧ Below w.heap.size w wr ∧ Blk wr w.heap.size 32 zerC ∧ Blk wr (w.heap.size + 1) 32 (msgC v ⟨#[]⟩ A4 L.length c4 none 0 0) ∧ Hid (OwH wr w.heap.size A4 c4 L))
        (fun t _ => match t with | .string b => b.size | _ => 0)
      case atStart => exact ⟨y, [], none, 0, rfl, Lib.hid (by rw [preO_nil]; exact HRY.out), by simp; omega, hB, zb, mb, Lib.hid (World.ownsRow_nil _ _ _ _)⟩
      case round =>
        clear hB zb mb HRY hyl hL hcl
        obtain ⟨x, L, A4, c4, rfl, HA, hlen, hB, zb, mb, OW⟩ := hrel
        have ⟨z0, z1, z2, z3⟩ := zb.c4
        have ⟨m0, m1, m2, m3⟩ := mb.c4
        have zf := zb.frz
        have mf := mb.frz
        have zl := zb.lt
        have ml := mb.lt
        have hxz : (bs x).size ≤ 140737488355328 := by rw [bs_size]; omega
        have hC := cut_any (bs x) 10 hxz wr
        rw [bs_list] at hC
        unfold ctup at hC
        cases hq : (cutB 10 x).2.2
        · have HV : Hid (rv = (emptyM, 2)) := Lib.hid (by rw [HA.out, heads_none hq]; rfl)
          rw [hq] at hC
          clear hq HA OW
          go_wp2_with (go_at_call 73; refine Hid.out ?_)
          unfold Hid
          refine hC.mono ?_
          rintro e w3 ⟨rfl, hb⟩
          have zb := zb.below hb zl
          have hB := hB.trans (hb.mono hB.size)
          clear hb hC z0 z1 z2 z3 m0 m1 m2 m3 zf mf zl ml mb
          have ⟨z0, z1, z2, z3⟩ := zb.c4
          have zf := zb.frz
          have zl := zb.lt
          go_wp2
          refine bodyPost_ret (v := .tuple #[msgV 0 ⟨#[]⟩ none 0 0 none 0 0, .int .i64 2]) (by simp only [results, Tryd.results48]; go_simp) rfl (parse_err HV.out ?_)
          iterate 4 refine Below.setCell ?_ (by show w.heap.size ≤ w.heap.size; omega) _
          exact hB
        · rw [hq] at hC
          have hcl := cutB_len (c := 10) x
          have hcs := cutB_lt hq
          by_cases hln : (cutB 10 x).1 = []
          · have HE : Hid (headsF (x.length + 1) x = some ([], (cutB 10 x).2.1)) := Lib.hid (heads_end hq hln)
            obtain ⟨bd, hbd⟩ : ∃ b, b = (cutB 10 x).2.1 := ⟨_, rfl⟩
            rw [← hbd] at HE hC hcl hcs
            rw [hln] at hC
            have e0 : bs [] = ⟨#[]⟩ := rfl
            rw [e0] at hC
            have HR : Hid (rv = endP (v, ⟨#[]⟩) (some (L, bd))) := Lib.hid (by rw [HA.out, HE.out]; simp [preO])
            clear hbd hln hq HA HE e0
            go_wp2_with (go_at_call 73; refine Hid.out ?_)
            unfold Hid
            refine hC.mono ?_
            rintro e w3 ⟨rfl, hb⟩
            have zb := zb.below hb zl
            have mb := mb.below hb ml
            have ow := OW.out.below hb
            have hB := hB.trans (hb.mono hB.size)
            clear hb hC z0 z1 z2 z3 m0 m1 m2 m3 zf mf zl ml OW
            have ⟨z0, z1, z2, z3⟩ := zb.c4
            have ⟨m0, m1, m2, m3⟩ := mb.c4
            have zf := zb.frz
            have mf := mb.frz
            have zl := zb.lt
            have ml := mb.lt
            have hcv := fun (W : World) => run_bytes_of_string (P := Tryd.prog) W 9 30 5 (bs bd) Tryd.underlying9 Tryd.underlying30 Tryd.underlying5
            obtain ⟨N, hN⟩ : ∃ N, N = w3.heap.size := ⟨_, rfl⟩
            obtain ⟨G, hG⟩ : ∃ G, G = grownCap w3 (bs bd).size 0 5 := ⟨_, rfl⟩
            obtain ⟨w4, hw4⟩ : ∃ W, W = (((w3.setCell ⟨w.heap.size + 1, 3, none⟩ (.slice (some ⟨N, 0, none⟩) (bs bd).size G)).alloc (.cells (bytesRow (bs bd) G) 5 ((bytesRow (bs bd) G).size, (bytesRow (bs bd) G).size + 1))).drew) := ⟨_, rfl⟩
            have hNw : w.heap.size + 1 < N := by rw [hN]; exact ml
            have ow4 : OwH w4 w.heap.size A4 c4 L := by rw [hw4]; exact (ow.box mb (by decide) _).below (Below.drew ((Below.refl _ _).alloc (Nat.le_refl _) _))
            have hy4 : RdS 1 encY w4 (N ≤ ·) (some ⟨N, 0, none⟩) bd := by
              have e1 : (w3.setCell ⟨w.heap.size + 1, 3, none⟩ (.slice (some ⟨N, 0, none⟩) (bs bd).size G)).heap.size = N := by rw [hN]; simp
              have h1 := bytes_rd (w := w3.setCell ⟨w.heap.size + 1, 3, none⟩ (.slice (some ⟨N, 0, none⟩) (bs bd).size G)) (s := bs bd) (c := G) (fr := ((bytesRow (bs bd) G).size, (bytesRow (bs bd) G).size + 1))
              rw [e1] at h1
              rw [hw4]
              exact h1
            have zb4 : Blk w4 w.heap.size 32 zerC := by rw [hw4]; exact ((zb.far (p := ⟨w.heap.size + 1, 3, none⟩) (by show w.heap.size ≠ w.heap.size + 1; omega) _).alloc _).drew
            have mb4 : Blk w4 (w.heap.size + 1) 32 (msgC v ⟨#[]⟩ A4 L.length c4 (some ⟨N, 0, none⟩) (bs bd).size G) := by rw [hw4]; exact ((mb.set_ 3 _).alloc _).drew
            have hB4 : Below w.heap.size w w4 := by rw [hw4]; exact Below.drew ((hB.setCell (p := ⟨w.heap.size + 1, 3, none⟩) (by show w.heap.size ≤ w.heap.size + 1; omega) _).alloc (by simpa using hB.size) _)
            obtain ⟨hcap, hcmx⟩ := ow4.cap
            unfold maxLen at hcmx
            have hW := wrong_anyC v ⟨#[]⟩ A4 (some ⟨N, 0, none⟩) L c4 (bs bd).size G (by decide) hcap hcmx w4 ow4.rd
            obtain ⟨zc, hzc⟩ : ∃ z, z = wrongP v ⟨#[]⟩ L (bs bd).size := ⟨_, rfl⟩
            rw [← hzc] at hW
            have hzM : zc = wrongM ⟨v, ⟨#[]⟩, L, bd⟩ := by rw [hzc, bs_size]; rfl
            have HR2 : Hid (rv = if zc = 0 then (⟨v, ⟨#[]⟩, L, bd⟩, 0) else (emptyM, zc)) := Lib.hid (by rw [HR.out, hzM]; rfl)
            clear hzc hzM HR
            clear zb mb ow hB
            go_wp2_with (go_at_call 41; refine Hid.out ?_)
            rw [← hN, ← hG, ← hw4]
            unfold Hid
            clear hN hG hw4 hcv z0 z1 z2 z3 m0 m1 m2 m3 zf mf zl ml
            refine hW.mono ?_
            rintro e w5 ⟨rfl, hb⟩
            have zb := zb4.below hb zb4.lt
            have mb := mb4.below hb mb4.lt
            have ow := ow4.below hb
            have hy5 := hy4.below hb
            have hB := hB4.trans (hb.mono hB4.size)
            clear hb hW zb4 mb4 ow4 hy4 hB4
            have ⟨z0, z1, z2, z3⟩ := zb.c4
            have ⟨m0, m1, m2, m3⟩ := mb.c4
            have zf := zb.frz
            have mf := mb.frz
            have zl := zb.lt
            have ml := mb.lt
            by_cases hz0 : zc ≠ 0
            · have f1 : (zc == 0) = false := by simpa using hz0
              have f2 : (zc != 0) = true := by simpa using hz0
              have HV : Hid (rv = (emptyM, zc)) := Lib.hid (by rw [HR2.out, if_neg hz0])
              clear hz0 HR2
              go_wp2
              refine bodyPost_ret (v := .tuple #[msgV 0 ⟨#[]⟩ none 0 0 none 0 0, .int .i64 zc]) (by simp only [results, Tryd.results48]; go_simp) rfl (parse_err HV.out ?_)
              iterate 4 refine Below.setCell ?_ (by show w.heap.size ≤ w.heap.size; omega) _
              exact hB
            have hz0 := Decidable.not_not.1 hz0
            have HV : Hid (rv = (⟨v, ⟨#[]⟩, L, bd⟩, 0)) := Lib.hid (by rw [HR2.out, if_pos hz0])
            clear HR2
            subst hz0
            go_wp2
            have o7 := (ow.box4 zb (.int .i64 v) (.string ⟨#[]⟩) (.slice A4 L.length c4) (.slice (some ⟨N, 0, none⟩) (bs bd).size G)).rds
            have y7 := (hy5.set4 (g := w.heap.size) (by omega) (.int .i64 v) (.string ⟨#[]⟩) (.slice A4 L.length c4) (.slice (some ⟨N, 0, none⟩) (bs bd).size G)).mono (S' := (w.heap.size ≤ ·)) (fun b h => by omega)
            refine bodyPost_ret (v := .tuple #[msgV v ⟨#[]⟩ A4 L.length c4 (some ⟨N, 0, none⟩) (bs bd).size G, .int .i64 0]) (by simp only [results, Tryd.results48]; go_simp) rfl (parse_yes HV.out rfl (bs_size bd) o7 y7 hcap hcmx ?_)
            iterate 4 refine Below.setCell ?_ (by show w.heap.size ≤ w.heap.size; omega) _
            exact hB
          · have hne := str_empty (a := bs (cutB 10 x).1) (fun e => hln (bs_inj (b := []) e))
            obtain ⟨n1, n2⟩ := hne
            have hxz2 : (bs (cutB 10 x).1).size ≤ 140737488355328 := by rw [bs_size]; omega
            have hC2 := fun W => cut_any (bs (cutB 10 x).1) 61 hxz2 W
            simp only [bs_list] at hC2
            have hcl2 := cutB_len (c := 61) (cutB 10 x).1
            have HM := fun h3 => heads_more (s := x) hq hln h3
            have HBD := fun h3 => heads_bad (s := x) hq hln h3
            obtain ⟨ln, hln'⟩ : ∃ b, b = (cutB 10 x).1 := ⟨_, rfl⟩
            obtain ⟨mo, hmo⟩ : ∃ b, b = (cutB 10 x).2.1 := ⟨_, rfl⟩
            rw [← hln'] at hC n1 n2 hxz2 hcl2 hcl
            rw [← hmo] at hC hcl hcs
            simp only [← hln'] at hC2
            simp only [← hln', ← hmo] at HM HBD
            clear hln' hmo hln hq
            obtain ⟨r3, hr3⟩ : ∃ b, b = cutB 61 ln := ⟨_, rfl⟩
            rw [← hr3] at hcl2
            simp only [← hr3] at hC2 HM HBD
            clear hr3
            obtain ⟨kk, vv, q3⟩ := r3
            unfold ctup at hC2
            simp only at hC2 hcl2 HM HBD
            have HC2 := Lib.hid hC2
            have HM := Lib.hid HM
            have HBD := Lib.hid HBD
            clear hC2
            go_wp2_with (go_at_call 73; refine Hid.out ?_)
            unfold Hid
            refine hC.mono ?_
            rintro e w3 ⟨rfl, hb⟩
            have zb := zb.below hb zl
            have mb := mb.below hb ml
            have ow := OW.out.below hb
            have hB := hB.trans (hb.mono hB.size)
            clear hb hC z0 z1 z2 z3 m0 m1 m2 m3 zf mf zl ml OW
            go_wp2_with (go_at_call 73; refine Hid.out ?_)
            unfold Hid
            refine (HC2.out w3).mono ?_
            rintro e w4 ⟨rfl, hb⟩
            have zb := zb.below hb zb.lt
            have mb := mb.below hb mb.lt
            have ow := ow.below hb
            have hB := hB.trans (hb.mono hB.size)
            clear hb HC2
            have ⟨z0, z1, z2, z3⟩ := zb.c4
            have ⟨m0, m1, m2, m3⟩ := mb.c4
            have zf := zb.frz
            have mf := mb.frz
            have zl := zb.lt
            have ml := mb.lt
            cases q3
            · have HV : Hid (rv = (emptyM, 2)) := Lib.hid (by rw [HA.out, HBD.out rfl]; rfl)
              clear HA HM HBD
              go_wp2
              refine bodyPost_ret (v := .tuple #[msgV 0 ⟨#[]⟩ none 0 0 none 0 0, .int .i64 2]) (by simp only [results, Tryd.results48]; go_simp) rfl (parse_err HV.out ?_)
              iterate 4 refine Below.setCell ?_ (by show w.heap.size ≤ w.heap.size; omega) _
              exact hB
            · obtain ⟨hd, hhd⟩ : ∃ h : Hd, h = ⟨bs kk, bs vv, by rw [bs_size]; omega, by rw [bs_size]; omega⟩ := ⟨_, rfl⟩
              have hk1 : hd.key = bs kk := by rw [hhd]
              have hk2 : hd.text = bs vv := by rw [hhd]
              have hmk : mkHd kk vv = hd := by
                rw [hhd]
                unfold mkHd
                rw [dif_pos ⟨by rw [bs_size]; omega, by rw [bs_size]; omega⟩]
              have HA2 : Hid (rv = endP (v, ⟨#[]⟩) (preO (L ++ [hd]) (headsF (mo.length + 1) mo))) := Lib.hid (by
                rw [HA.out, HM.out rfl, preO_preO, hmk])
              clear HA HM HBD hmk hhd
              obtain ⟨i0, hi, hz0, hz1, hz2⟩ := info_parts infoHd
              have hone : ∀ u ∈ encHd hd, u.oneCell' = true := fun u hu => encHd_one [hd] u (by simpa using hu)
              have hee : encHd hd = [.string (bs kk), .string (bs vv)] := by unfold encHd; rw [hk1, hk2]
              rw [hee] at hone
              have hcn := cells_new w4 w4.heap.size rfl [.string (bs kk), .string (bs vv)] 81
              have hown2 := ow.alloc (.cells #[.string (bs kk), .string (bs vv)] 81)
              have HN := Lib.hid (own_blk_ne ow mb (by decide))
              have HN1 := Lib.hid (own_blk_ne ow zb (by decide))
              have HGE := Lib.hid (own_ge ow)
              have e0 := mb.alloc (.cells #[.string (bs kk), .string (bs vv)] 81)
              have e1 := zb.alloc (.cells #[.string (bs kk), .string (bs vv)] 81)
              have hB3 := hB.alloc hB.size (.cells #[.string (bs kk), .string (bs vv)] 81)
              have hbs := hB.size
              have HEE := Lib.hid hee
              clear hB mb zb ow hee hk1 hk2
              go_wp2_with (at_builtin; refine wpList_append_own _ rfl (.tmp 88) (.tmp 92) 29 rfl w.heap.size 81 i0 _ 2 32 Tryd.underlying29 hi hz0 hz1 hz2 rfl (by decide) _ _ _ rfl hown2 ⟨w4.heap.size, 0, none⟩ 1 1 [.string (bs kk), .string (bs vv)] rfl rfl hcn hone (by simp only [maxLen]; omega) (by omega) (by simp; omega) ?_; intro v5 w5 hown5 hg5 _; obtain ⟨A5, c5, rfl, _, _⟩ := own_shape hown5; have q0 := e0.grown hg5 HN.out.symm; have q1 := e1.grown hg5 HN1.out.symm; have Q0 := Lib.hid q0; have Q1 := Lib.hid q1; obtain ⟨p0, p1, p2, p3⟩ := q0.c4; have pl := q0.lt; have fp := q0.frz; clear q0 q1)
              go_roundw
              case rel =>
                have hB5 : Below w.heap.size w w5 := hB3.grown hg5 hB3.size (fun g hg => HGE.out g hg)
                have o5 : OwH w5 w.heap.size A5 c5 (L ++ [hd]) := by
                  unfold OwH
                  rw [List.length_append, List.flatMap_append]
                  simp only [List.flatMap_cons, List.flatMap_nil, List.append_nil, HEE.out]
                  simpa using hown5
                refine ⟨mo, L ++ [hd], A5, c5, rfl, HA2, ?_, hB5.setCell (by show w.heap.size ≤ w.heap.size + 1; omega) _, Q1.out.far (by show w.heap.size ≠ w.heap.size + 1; omega) _, ?_, Lib.hid (o5.box Q0.out (by decide) _)⟩
                · rw [List.length_append]
                  simp
                  omega
                · rw [List.length_append]
                  exact Q0.out.set_ 2 _
              case measure =>
                simp only [bs_size]
                omega
    all_goals
      have hnum : numP what = none := by unfold numP; rw [hAt]
      have HV : Hid (rv = (emptyM, 2)) := Lib.hid (by rw [hpP, hfP, hnum])
      have hAK := atoi_no what (by omega) (fun v h => by rw [hAt] at h; cases h) w2 hL
      clear hpP hfP hnum hAt
      go_wp2_with (go_at_call 74; refine Hid.out ?_)
      unfold Hid
      refine hAK.mono ?_
      rintro e w3 ⟨x0, N, rfl, hb⟩
      have zb := zb.below hb zl
      have hB := hB.trans (hb.mono hB.size)
      clear hb hAK z0 z1 z2 z3 m0 m1 m2 m3 zf mf zl ml mb
      have ⟨z0, z1, z2, z3⟩ := zb.c4
      have zf := zb.frz
      have zl := zb.lt
      go_wp2
      refine bodyPost_ret (v := .tuple #[msgV 0 ⟨#[]⟩ none 0 0 none 0 0, .int .i64 2]) (by simp only [results, Tryd.results48]; go_simp) rfl (parse_err HV.out ?_)
      iterate 4 refine Below.setCell ?_ (by show w.heap.size ≤ w.heap.size; omega) _
      exact hB
  have t2 : (word.toList == [115, 97, 121]) = false := by rw [str_lit]; exact decide_eq_false hy
  rw [if_neg hy] at hfP
  have HV : Hid (rv = (emptyM, 2)) := Lib.hid (by rw [hpP, hfP])
  clear hpP hfP ha hy
  go_wp2
  refine bodyPost_ret (v := .tuple #[msgV 0 ⟨#[]⟩ none 0 0 none 0 0, .int .i64 2]) (by simp only [results, Tryd.results48]; go_simp) rfl (parse_err HV.out ?_)
  iterate 4 refine Below.setCell ?_ (by show w.heap.size ≤ w.heap.size; omega) _
  exact hB
end Go.Proofs.YtmcjgfoaiannoabDoor
