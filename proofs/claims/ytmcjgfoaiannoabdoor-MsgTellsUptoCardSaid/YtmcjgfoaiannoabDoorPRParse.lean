/-
  Texts of messages read by the reference: its Parse. Conditions: the text has no more than a million bytes; the library's tables and errors lie where they lie.
-/
import Derived.Test.YtmcjgfoaiannoabDoorPParse
namespace Go.Proofs.YtmcjgfoaiannoabDoor
open Go.RowKit Go.Lib

def askS : ByteArray := ⟨#[97, 115, 107, 32]⟩
def sayS : ByteArray := ⟨#[115, 97, 121, 32]⟩
/-- the first line, as the reference reads it -/
def firstR (l : List UInt8) : Option (Int × ByteArray) :=
  if l.length < 4 then none
  else if bs (l.take 4) = askS then some (0, bs (l.drop 4))
  else if bs (l.take 4) = sayS then (match numP (bs (l.drop 4)) with | some n => some (n, ⟨#[]⟩) | none => none)
  else none
theorem bs_eq {l : List UInt8} {s : ByteArray} : bs l = s ↔ l = s.data.toList := ⟨fun h => by rw [← h]; rfl, fun h => by rw [h]; rfl⟩
theorem first_same (l : List UInt8) : firstR l = firstL l := by
  have key : ∀ (w u : List UInt8), w.length = 3 → (32 : UInt8) ∉ w → u = w ++ [32] → ∀ l : List UInt8, (¬ l.length < 4 ∧ l.take 4 = u) ↔ ((cutB 32 l).2.2 = true ∧ (cutB 32 l).1 = w) := by
    intro w u h3 hn hu l
    constructor
    · rintro ⟨h4, ht⟩
      have hl : l = w ++ 32 :: l.drop 4 := by
        have e := List.take_append_drop 4 l
        rw [ht, hu, List.append_assoc] at e
        exact e.symm
      rw [hl, cutB_at hn]
      exact ⟨rfl, rfl⟩
    · rintro ⟨h1, h2⟩
      have e := (cutB_yes h1).1
      rw [h2] at e
      have hlen := congrArg List.length e
      simp at hlen
      refine ⟨by omega, ?_⟩
      rw [e, hu, show w ++ 32 :: (cutB 32 l).2.1 = (w ++ [32]) ++ (cutB 32 l).2.1 by simp]
      rw [List.take_append_of_le_length (by simp; omega)]
      exact List.take_of_length_le (by simp; omega)
  have drop : ∀ (w : List UInt8), w.length = 3 → (cutB 32 l).2.2 = true → (cutB 32 l).1 = w → l.drop 4 = (cutB 32 l).2.1 := by
    intro w h3 h1 h2
    have e := (cutB_yes h1).1
    rw [h2] at e
    have e2 : l.drop 4 = (w ++ 32 :: (cutB 32 l).2.1).drop 4 := by rw [← e]
    rw [e2, show w ++ 32 :: (cutB 32 l).2.1 = (w ++ [32]) ++ (cutB 32 l).2.1 by simp, List.drop_append, List.drop_of_length_le (by simp; omega)]
    simp [h3]
  have kA := key askB.data.toList askS.data.toList rfl (by decide) rfl l
  have kS := key sayB.data.toList sayS.data.toList rfl (by decide) rfl l
  unfold firstR firstL
  by_cases a : (cutB 32 l).2.2 = true ∧ (cutB 32 l).1 = askB.data.toList
  · obtain ⟨p1, p2⟩ := kA.2 a
    rw [if_neg p1, if_pos (bs_eq.2 p2), if_neg (by simp [a.1]), if_pos (bs_eq.2 a.2), drop _ rfl a.1 a.2]
  by_cases b : (cutB 32 l).2.2 = true ∧ (cutB 32 l).1 = sayB.data.toList
  · obtain ⟨p1, p2⟩ := kS.2 b
    have na : bs (l.take 4) ≠ askS := fun h => a (kA.1 ⟨p1, bs_eq.1 h⟩)
    have nb : bs (cutB 32 l).1 ≠ askB := fun h => a ⟨b.1, bs_eq.1 h⟩
    rw [if_neg p1, if_neg na, if_pos (bs_eq.2 p2), if_neg (by simp [b.1]), if_neg nb, if_pos (bs_eq.2 b.2), drop _ rfl b.1 b.2]
    cases numP (bs (cutB 32 l).2.1) <;> rfl
  · have e1 : firstR l = none := by
      unfold firstR
      by_cases p1 : l.length < 4
      · rw [if_pos p1]
      rw [if_neg p1, if_neg (fun h => a (kA.1 ⟨p1, bs_eq.1 h⟩)), if_neg (fun h => b (kS.1 ⟨p1, bs_eq.1 h⟩))]
    have e2 : firstL l = none := by
      unfold firstL
      by_cases p1 : (cutB 32 l).2.2 = false
      · rw [if_pos p1]
      have p2 : (cutB 32 l).2.2 = true := by simpa using p1
      rw [if_neg p1, if_neg (fun h => a ⟨p2, bs_eq.1 h⟩), if_neg (fun h => b ⟨p2, bs_eq.1 h⟩)]
    unfold firstR at e1
    unfold firstL at e2
    rw [e1, e2]
theorem below_undrewR {w w' : World} (h : Below w.drew.heap.size w.drew w') : Below w.heap.size w w' := ⟨h.os, h.tape, h.output, h.size, h.block⟩
theorem below_undrewQ {w w' : World} {n : Nat} (h : Below (w.drewN n).heap.size (w.drewN n) w') : Below w.heap.size w w' := ⟨h.os, h.tape, h.output, h.size, h.block⟩
set_option maxRecDepth 100000 in
theorem no75 (code : Int) (w : World) : Calls Tryd.prog 75 #[.int .i64 code] w fun e w' => e = .returned (.tuple #[msgV 0 ⟨#[]⟩ none 0 0 none 0 0, .int .i64 code]) ∧ Below w.heap.size w w' := by
  have hB : Below w.heap.size w (w.alloc (.cells zerC 32)) := (Below.refl _ w).alloc (Nat.le_refl _) _
  go_enter Tryd.func75, Tryd.ntmps75
  go_wp2
  refine bodyPost_ret (v := .tuple #[msgV 0 ⟨#[]⟩ none 0 0 none 0 0, .int .i64 code]) (by simp only [results, Tryd.results75]; go_simp) rfl ⟨rfl, ?_⟩
  exact hB
set_option maxRecDepth 100000 in
set_option maxHeartbeats 16000000 in
theorem refparse_any (s : ByteArray) (hs : s.size ≤ 1048576) (w : World) (hL : Libs w) :
    Calls Tryd.prog 49 #[.string s] w (ParseOut w (parseP s.data.toList)) := by
  obtain ⟨rv, hrv⟩ : ∃ v, v = parseP s.data.toList := ⟨_, rfl⟩
  rw [← hrv]
  obtain ⟨w0, hw0⟩ : ∃ W, W = w.alloc (.cells zerC 32) := ⟨_, rfl⟩
  have zb : Blk w0 w.heap.size 32 zerC := by rw [hw0]; exact Blk.new _ _ _
  have hB : Below w.heap.size w w0 := by rw [hw0]; exact (Below.refl _ w).alloc (Nat.le_refl _) _
  have hC : Calls Tryd.prog 76 #[.string s, .int .u8 10] w0 fun e w' => e = .returned (ctup (cutB 10 s.data.toList)) ∧ Below w0.heap.size w0 w' := upto_any s 10 (by omega) w0
  have hcl := cutB_len (c := 10) s.data.toList
  have hsl : s.data.toList.length = s.size := by rw [Array.length_toList]; rfl
  rw [hsl] at hcl
  obtain ⟨r, hr⟩ : ∃ r, r = cutB 10 s.data.toList := ⟨_, rfl⟩
  have hpP : rv = if r.2.2 = false then (emptyM, 2) else match firstR r.1 with | none => (emptyM, 2) | some a => restP a r.2.1 := by rw [hrv, hr, first_same]; rfl
  rw [← hr] at hC hcl
  clear hrv hr hsl
  obtain ⟨f, y, q⟩ := r
  unfold ctup at hC
  simp only at hC hcl hpP
  have HPP := Lib.hid hpP
  clear hpP
  go_enter Tryd.func49, Tryd.ntmps49
  go_wp2_with (go_at_call 76; refine Hid.out ?_)
  unfold Hid
  rw [← hw0]
  clear hw0
  refine hC.mono ?_
  rintro e w1 ⟨rfl, hb⟩
  have zb := zb.below hb zb.lt
  have hB := hB.trans (hb.mono hB.size)
  have hL := hL.below hB
  clear hb hC
  have ⟨z0, z1, z2, z3⟩ := zb.c4
  have zf := zb.frz
  have zl := zb.lt
  have hfz : (bs f).size = f.length := bs_size f
  cases q
  · have HV : Hid (rv = (emptyM, 2)) := Lib.hid HPP.out
    clear HPP hfz
    go_wp2_with (go_at_call 75; refine Hid.out ?_)
    unfold Hid
    refine (no75 2 _).mono ?_
    rintro e w9 ⟨rfl, hb9⟩
    have zb9 := zb.below hb9 zb.lt
    have hB9 := hB.trans (hb9.mono hB.size)
    clear hb9
    have ⟨y0, y1, y2, y3⟩ := zb9.c4
    have yf := zb9.frz
    have yl := zb9.lt
    go_wp2
    refine bodyPost_ret (v := .tuple #[msgV 0 ⟨#[]⟩ none 0 0 none 0 0, .int .i64 2]) (by simp only [results, Tryd.results49]; go_simp) rfl (parse_err HV.out ?_)
    iterate 4 refine Below.setCell ?_ (by show w.heap.size ≤ w.heap.size; omega) _
    exact hB9
  have hpP : rv = match firstR f with | none => (emptyM, 2) | some a => restP a y := HPP.out
  clear HPP
  by_cases h4 : f.length < 4
  · have hf0 : firstR f = none := by unfold firstR; rw [if_pos h4]
    have HV : Hid (rv = (emptyM, 2)) := Lib.hid (by rw [hpP, hf0])
    have h4' : ((bs f).size : Int) < 4 := by omega
    clear hpP hf0 hfz h4
    go_wp2_with (go_at_call 75; refine Hid.out ?_)
    unfold Hid
    refine (no75 2 _).mono ?_
    rintro e w9 ⟨rfl, hb9⟩
    have zb9 := zb.below hb9 zb.lt
    have hB9 := hB.trans (hb9.mono hB.size)
    clear hb9
    have ⟨y0, y1, y2, y3⟩ := zb9.c4
    have yf := zb9.frz
    have yl := zb9.lt
    go_wp2
    refine bodyPost_ret (v := .tuple #[msgV 0 ⟨#[]⟩ none 0 0 none 0 0, .int .i64 2]) (by simp only [results, Tryd.results49]; go_simp) rfl (parse_err HV.out ?_)
    iterate 4 refine Below.setCell ?_ (by show w.heap.size ≤ w.heap.size; omega) _
    exact hB9
  have hfP : firstR f = if bs (f.take 4) = askS then some (0, bs (f.drop 4)) else if bs (f.take 4) = sayS then (match numP (bs (f.drop 4)) with | some n => some (n, ⟨#[]⟩) | none => none) else none := by
    unfold firstR
    rw [if_neg h4]
  have h4' : ¬ ((bs f).size : Int) < 4 := by omega
  have h4a : (4 : Int) ≤ ((bs f).size : Int) := by omega
  have h4b : 4 ≤ (bs f).size := by omega
  have hw4 : (bs f).extract 0 4 = bs (f.take 4) := ba_inj (by rw [extract_data, bs_list, bs_list]; simp)
  have hd4 : (bs f).extract 4 (bs f).size = bs (f.drop 4) := ba_inj (by
    rw [extract_data, bs_list, bs_list, hfz]
    exact List.take_of_length_le (by rw [List.length_drop]; exact Nat.le_refl _))
  obtain ⟨word, hword⟩ : ∃ x, x = (bs f).extract 0 4 := ⟨_, rfl⟩
  obtain ⟨what, hwhat⟩ : ∃ x, x = (bs f).extract 4 (bs f).size := ⟨_, rfl⟩
  have hwz : what.size ≤ 1048576 := by rw [hwhat, hd4, bs_size, List.length_drop]; omega
  rw [← hw4, ← hd4, ← hword, ← hwhat] at hfP
  clear hw4 hd4
  have hyl : y.length ≤ 1048576 := by omega
  obtain ⟨K, hK⟩ : ∃ K, K = w1.heap.size := ⟨_, rfl⟩
  have hKw : w.heap.size < K := by rw [hK]; exact zl
  obtain ⟨w2, hw2⟩ : ∃ W, W = w1.alloc (.cells zerC 32) := ⟨_, rfl⟩
  have mb : Blk w2 K 32 zerC := by rw [hw2, hK]; exact Blk.new _ _ _
  have hb2 : Below w1.heap.size w1 w2 := by rw [hw2]; exact (Below.refl _ _).alloc (Nat.le_refl _) _
  have zb := zb.below hb2 zl
  have hB := hB.trans (hb2.mono hB.size)
  have hL := hL.below hb2
  have hKz : w.heap.size ≠ K := by omega
  have HW2 := Lib.hid hw2
  have HK := Lib.hid hK
  have HPP := Lib.hid hpP
  have HFP := Lib.hid hfP
  have HWD := Lib.hid hword
  have HWT := Lib.hid hwhat
  clear hb2 hw2 hK hpP hfP hword hwhat h4 hfz
  go_upto_region 8 with fail
  rw [← HW2.out, ← HK.out]
  clear HW2 HK z0 z1 z2 z3 zf zl
  have ⟨z0, z1, z2, z3⟩ := zb.c4
  have ⟨m0, m1, m2, m3⟩ := mb.c4
  have zf := zb.frz
  have mf := mb.frz
  have zl := zb.lt
  have ml := mb.lt
  have hKn := hKz.symm
  by_cases ha : word = askS
  · have HRY : Hid (rv = endP (0, what) (headsF (y.length + 1) y)) := Lib.hid (by
      have h1 := HPP.out
      rw [HFP.out, if_pos ha] at h1
      exact h1)
    have ta : (((bs f).extract 0 4).toList == [97, 115, 107, 32]) = true := by rw [← HWD.out, str_lit]; exact decide_eq_true ha
    clear HPP HFP HWD ha
    have mb := mb.set_ 1 (.string what)
    have zb := zb.far (p := ⟨K, 1, none⟩) hKz (.string what)
    have hB := hB.setCell (p := ⟨K, 1, none⟩) (by show w.heap.size ≤ K; omega) (.string what)
    have mb : Blk (w2.setCell ⟨K, 1, none⟩ (.string what)) K 32 (msgC 0 what none 0 0 none 0 0) := mb
    go_wp2
    rw [← HWT.out]
    clear z0 z1 z2 z3 m0 m1 m2 m3 zf mf zl ml
    go_loopw [0] (fun t wr => ∃ (x : List UInt8) (L : List Hd) (A4 : Option Addr) (c4 : Nat), t = .string (bs x) ∧ Hid (rv = endP (0, what) (preO L (headsF (x.length + 1) x))) ∧ L.length + x.length ≤ 1048576 ∧ Below w.heap.size w wr ∧ Blk wr w.heap.size 32 zerC ∧ Blk wr (K) 32 (msgC 0 what A4 L.length c4 none 0 0) ∧ Hid (OwH wr w.heap.size A4 c4 L))
      (fun t _ => match t with | .string b => b.size | _ => 0)
    case atStart => exact ⟨y, [], none, 0, rfl, Lib.hid (by rw [preO_nil]; exact HRY.out), by simp; omega, hB, zb, mb, Lib.hid (World.ownsRow_nil _ _ _ _)⟩
    case round =>
      clear hB zb mb HRY hyl hL HWT
      obtain ⟨x, L, A4, c4, rfl, HA, hlen, hB, zb, mb, OW⟩ := hrel
      have ⟨z0, z1, z2, z3⟩ := zb.c4
      have ⟨m0, m1, m2, m3⟩ := mb.c4
      have zf := zb.frz
      have mf := mb.frz
      have zl := zb.lt
      have ml := mb.lt
      have hxz : (bs x).size ≤ 140737488355328 := by rw [bs_size]; omega
      have hC := upto_any (bs x) 10 hxz wr
      rw [bs_list] at hC
      have hC : Calls Tryd.prog 76 #[.string (bs x), .int .u8 10] wr _ := hC
      unfold ctup at hC
      cases hq : (cutB 10 x).2.2
      · have HV : Hid (rv = (emptyM, 2)) := Lib.hid (by rw [HA.out, heads_none hq]; rfl)
        rw [hq] at hC
        clear hq HA OW
        go_wp2_with (go_at_call 76; refine Hid.out ?_)
        unfold Hid
        refine hC.mono ?_
        rintro e w3 ⟨rfl, hb⟩
        have zb := zb.below hb zl
        have hB := hB.trans (hb.mono hB.size)
        clear hb hC z0 z1 z2 z3 m0 m1 m2 m3 zf mf zl ml mb
        have ⟨z0, z1, z2, z3⟩ := zb.c4
        have zf := zb.frz
        have zl := zb.lt
        go_wp2_with (go_at_call 75; refine Hid.out ?_)
        unfold Hid
        refine (no75 2 _).mono ?_
        rintro e w9 ⟨rfl, hb9⟩
        have zb9 := zb.below hb9 zb.lt
        have hB9 := hB.trans (hb9.mono hB.size)
        clear hb9
        have ⟨y0, y1, y2, y3⟩ := zb9.c4
        have yf := zb9.frz
        have yl := zb9.lt
        go_wp2
        refine bodyPost_ret (v := .tuple #[msgV 0 ⟨#[]⟩ none 0 0 none 0 0, .int .i64 2]) (by simp only [results, Tryd.results49]; go_simp) rfl (parse_err HV.out ?_)
        iterate 4 refine Below.setCell ?_ (by show w.heap.size ≤ w.heap.size; omega) _
        exact hB9
      · rw [hq] at hC
        have hcl := cutB_len (c := 10) x
        have hcs := cutB_lt hq
        by_cases hln : (cutB 10 x).1 = []
        · have HE : Hid (headsF (x.length + 1) x = some ([], (cutB 10 x).2.1)) := Lib.hid (heads_end hq hln)
          obtain ⟨bd, hbd⟩ : ∃ b, b = (cutB 10 x).2.1 := ⟨_, rfl⟩
          rw [← hbd] at HE hC hcl hcs
          rw [hln] at hC
          have e0 : bs [] = ⟨#[]⟩ := rfl
          rw [e0] at hC
          have HR : Hid (rv = endP (0, what) (some (L, bd))) := Lib.hid (by rw [HA.out, HE.out]; simp [preO])
          clear hbd hln hq HA HE e0
          go_wp2_with (go_at_call 76; refine Hid.out ?_)
          unfold Hid
          refine hC.mono ?_
          rintro e w3 ⟨rfl, hb⟩
          have zb := zb.below hb zl
          have mb := mb.below hb ml
          have ow := OW.out.below hb
          have hB := hB.trans (hb.mono hB.size)
          clear hb hC z0 z1 z2 z3 m0 m1 m2 m3 zf mf zl ml OW
          have ⟨z0, z1, z2, z3⟩ := zb.c4
          have ⟨m0, m1, m2, m3⟩ := mb.c4
          have zf := zb.frz
          have mf := mb.frz
          have zl := zb.lt
          have ml := mb.lt
          have hcv := fun (W : World) => run_bytes_of_string (P := Tryd.prog) W 9 30 5 (bs bd) Tryd.underlying9 Tryd.underlying30 Tryd.underlying5
          obtain ⟨N, hN⟩ : ∃ N, N = w3.heap.size := ⟨_, rfl⟩
          obtain ⟨G, hG⟩ : ∃ G, G = grownCap w3 (bs bd).size 0 5 := ⟨_, rfl⟩
          obtain ⟨w4, hw4⟩ : ∃ W, W = (((w3.setCell ⟨K, 3, none⟩ (.slice (some ⟨N, 0, none⟩) (bs bd).size G)).alloc (.cells (bytesRow (bs bd) G) 5 ((bytesRow (bs bd) G).size, (bytesRow (bs bd) G).size + 1))).drew) := ⟨_, rfl⟩
          have hNw : K < N := by rw [hN]; exact ml
          have ow4 : OwH w4 w.heap.size A4 c4 L := by rw [hw4]; exact (ow.box mb (by decide) _).below (Below.drew ((Below.refl _ _).alloc (Nat.le_refl _) _))
          have hy4 : RdS 1 encY w4 (N ≤ ·) (some ⟨N, 0, none⟩) bd := by
            have e1 : (w3.setCell ⟨K, 3, none⟩ (.slice (some ⟨N, 0, none⟩) (bs bd).size G)).heap.size = N := by rw [hN]; simp
            have h1 := bytes_rd (w := w3.setCell ⟨K, 3, none⟩ (.slice (some ⟨N, 0, none⟩) (bs bd).size G)) (s := bs bd) (c := G) (fr := ((bytesRow (bs bd) G).size, (bytesRow (bs bd) G).size + 1))
            rw [e1] at h1
            rw [hw4]
            exact h1
          have zb4 : Blk w4 w.heap.size 32 zerC := by rw [hw4]; exact ((zb.far (p := ⟨K, 3, none⟩) (by show w.heap.size ≠ K; omega) _).alloc _).drew
          have mb4 : Blk w4 (K) 32 (msgC 0 what A4 L.length c4 (some ⟨N, 0, none⟩) (bs bd).size G) := by rw [hw4]; exact ((mb.set_ 3 _).alloc _).drew
          have hB4 : Below w.heap.size w w4 := by rw [hw4]; exact Below.drew ((hB.setCell (p := ⟨K, 3, none⟩) (by show w.heap.size ≤ K; omega) _).alloc (by simpa using hB.size) _)
          obtain ⟨hcap, hcmx⟩ := ow4.cap
          unfold maxLen at hcmx
          have hW := rwrong_any 0 what A4 (some ⟨N, 0, none⟩) L c4 (bs bd).size G (by omega) w4 ow4.rd
          obtain ⟨zc, hzc⟩ : ∃ z, z = wrongP 0 what L (bs bd).size := ⟨_, rfl⟩
          rw [← hzc] at hW
          have hzM : zc = wrongM ⟨0, what, L, bd⟩ := by rw [hzc, bs_size]; rfl
          have HR2 : Hid (rv = if zc = 0 then (⟨0, what, L, bd⟩, 0) else (emptyM, zc)) := Lib.hid (by rw [HR.out, hzM]; rfl)
          clear hzc hzM HR
          clear zb mb ow hB
          go_wp2_with (go_at_call 24; refine Hid.out ?_)
          rw [← hN, ← hG, ← hw4]
          unfold Hid
          clear hN hG hw4 hcv z0 z1 z2 z3 m0 m1 m2 m3 zf mf zl ml
          refine hW.mono ?_
          rintro e w5 ⟨rfl, hb⟩
          have zb := zb4.below hb zb4.lt
          have mb := mb4.below hb mb4.lt
          have ow := ow4.below hb
          have hy5 := hy4.below hb
          have hB := hB4.trans (hb.mono hB4.size)
          clear hb hW zb4 mb4 ow4 hy4 hB4
          have ⟨z0, z1, z2, z3⟩ := zb.c4
          have ⟨m0, m1, m2, m3⟩ := mb.c4
          have zf := zb.frz
          have mf := mb.frz
          have zl := zb.lt
          have ml := mb.lt
          by_cases hz0 : zc ≠ 0
          · have f1 : (zc == 0) = false := by simpa using hz0
            have f2 : (zc != 0) = true := by simpa using hz0
            have HV : Hid (rv = (emptyM, zc)) := Lib.hid (by rw [HR2.out, if_neg hz0])
            clear hz0 HR2
            go_wp2_with (go_at_call 75; refine Hid.out ?_)
            unfold Hid
            refine (no75 zc _).mono ?_
            rintro e w9 ⟨rfl, hb9⟩
            have zb9 := zb.below hb9 zb.lt
            have hB9 := hB.trans (hb9.mono hB.size)
            clear hb9
            have ⟨y0, y1, y2, y3⟩ := zb9.c4
            have yf := zb9.frz
            have yl := zb9.lt
            go_wp2
            refine bodyPost_ret (v := .tuple #[msgV 0 ⟨#[]⟩ none 0 0 none 0 0, .int .i64 zc]) (by simp only [results, Tryd.results49]; go_simp) rfl (parse_err HV.out ?_)
            iterate 4 refine Below.setCell ?_ (by show w.heap.size ≤ w.heap.size; omega) _
            exact hB9
          have hz0 := Decidable.not_not.1 hz0
          have HV : Hid (rv = (⟨0, what, L, bd⟩, 0)) := Lib.hid (by rw [HR2.out, if_pos hz0])
          clear HR2
          subst hz0
          go_wp2
          have o7 := (ow.box4 zb (.int .i64 0) (.string what) (.slice A4 L.length c4) (.slice (some ⟨N, 0, none⟩) (bs bd).size G)).rds
          have y7 := (hy5.set4 (g := w.heap.size) (by omega) (.int .i64 0) (.string what) (.slice A4 L.length c4) (.slice (some ⟨N, 0, none⟩) (bs bd).size G)).mono (S' := (w.heap.size ≤ ·)) (fun b h => by omega)
          refine bodyPost_ret (v := .tuple #[msgV 0 what A4 L.length c4 (some ⟨N, 0, none⟩) (bs bd).size G, .int .i64 0]) (by simp only [results, Tryd.results49]; go_simp) rfl (parse_yes HV.out rfl (bs_size bd) o7 y7 hcap hcmx ?_)
          iterate 4 refine Below.setCell ?_ (by show w.heap.size ≤ w.heap.size; omega) _
          exact hB
        · have hne := str_empty (a := bs (cutB 10 x).1) (fun e => hln (bs_inj (b := []) e))
          obtain ⟨n1, n2⟩ := hne
          have hxz2 : (bs (cutB 10 x).1).size ≤ 140737488355328 := by rw [bs_size]; omega
          have hC2 : ∀ W, Calls Tryd.prog 76 #[.string (bs (cutB 10 x).1), .int .u8 61] W fun e w' => e = .returned (ctup (cutB 61 (bs (cutB 10 x).1).data.toList)) ∧ Below W.heap.size W w' := fun W => upto_any (bs (cutB 10 x).1) 61 hxz2 W
          simp only [bs_list] at hC2
          have hcl2 := cutB_len (c := 61) (cutB 10 x).1
          have HM := fun h3 => heads_more (s := x) hq hln h3
          have HBD := fun h3 => heads_bad (s := x) hq hln h3
          obtain ⟨ln, hln'⟩ : ∃ b, b = (cutB 10 x).1 := ⟨_, rfl⟩
          obtain ⟨mo, hmo⟩ : ∃ b, b = (cutB 10 x).2.1 := ⟨_, rfl⟩
          rw [← hln'] at hC n1 n2 hxz2 hcl2 hcl
          rw [← hmo] at hC hcl hcs
          simp only [← hln'] at hC2
          simp only [← hln', ← hmo] at HM HBD
          clear hln' hmo hln hq
          obtain ⟨r3, hr3⟩ : ∃ b, b = cutB 61 ln := ⟨_, rfl⟩
          rw [← hr3] at hcl2
          simp only [← hr3] at hC2 HM HBD
          clear hr3
          obtain ⟨kk, vv, q3⟩ := r3
          unfold ctup at hC2
          simp only at hC2 hcl2 HM HBD
          have HC2 := Lib.hid hC2
          have HM := Lib.hid HM
          have HBD := Lib.hid HBD
          clear hC2
          go_wp2_with (go_at_call 76; refine Hid.out ?_)
          unfold Hid
          refine hC.mono ?_
          rintro e w3 ⟨rfl, hb⟩
          have zb := zb.below hb zl
          have mb := mb.below hb ml
          have ow := OW.out.below hb
          have hB := hB.trans (hb.mono hB.size)
          clear hb hC z0 z1 z2 z3 m0 m1 m2 m3 zf mf zl ml OW
          go_wp2_with (go_at_call 76; refine Hid.out ?_)
          unfold Hid
          refine (HC2.out w3).mono ?_
          rintro e w4 ⟨rfl, hb⟩
          have zb := zb.below hb zb.lt
          have mb := mb.below hb mb.lt
          have ow := ow.below hb
          have hB := hB.trans (hb.mono hB.size)
          clear hb HC2
          have ⟨z0, z1, z2, z3⟩ := zb.c4
          have ⟨m0, m1, m2, m3⟩ := mb.c4
          have zf := zb.frz
          have mf := mb.frz
          have zl := zb.lt
          have ml := mb.lt
          cases q3
          · have HV : Hid (rv = (emptyM, 2)) := Lib.hid (by rw [HA.out, HBD.out rfl]; rfl)
            clear HA HM HBD
            go_wp2_with (go_at_call 75; refine Hid.out ?_)
            unfold Hid
            refine (no75 2 _).mono ?_
            rintro e w9 ⟨rfl, hb9⟩
            have zb9 := zb.below hb9 zb.lt
            have hB9 := hB.trans (hb9.mono hB.size)
            clear hb9
            have ⟨y0, y1, y2, y3⟩ := zb9.c4
            have yf := zb9.frz
            have yl := zb9.lt
            go_wp2
            refine bodyPost_ret (v := .tuple #[msgV 0 ⟨#[]⟩ none 0 0 none 0 0, .int .i64 2]) (by simp only [results, Tryd.results49]; go_simp) rfl (parse_err HV.out ?_)
            iterate 4 refine Below.setCell ?_ (by show w.heap.size ≤ w.heap.size; omega) _
            exact hB9
          · obtain ⟨hd, hhd⟩ : ∃ h : Hd, h = ⟨bs kk, bs vv, by rw [bs_size]; omega, by rw [bs_size]; omega⟩ := ⟨_, rfl⟩
            have hk1 : hd.key = bs kk := by rw [hhd]
            have hk2 : hd.text = bs vv := by rw [hhd]
            have hmk : mkHd kk vv = hd := by
              rw [hhd]
              unfold mkHd
              rw [dif_pos ⟨by rw [bs_size]; omega, by rw [bs_size]; omega⟩]
            have HA2 : Hid (rv = endP (0, what) (preO (L ++ [hd]) (headsF (mo.length + 1) mo))) := Lib.hid (by
              rw [HA.out, HM.out rfl, preO_preO, hmk])
            clear HA HM HBD hmk hhd
            obtain ⟨i0, hi, hz0, hz1, hz2⟩ := info_parts infoHd
            have hone : ∀ u ∈ encHd hd, u.oneCell' = true := fun u hu => encHd_one [hd] u (by simpa using hu)
            have hee : encHd hd = [.string (bs kk), .string (bs vv)] := by unfold encHd; rw [hk1, hk2]
            rw [hee] at hone
            have hcn := cells_new w4 w4.heap.size rfl [.string (bs kk), .string (bs vv)] 81
            have hown2 := ow.alloc (.cells #[.string (bs kk), .string (bs vv)] 81)
            have HN := Lib.hid (own_blk_ne ow mb (by decide))
            have HN1 := Lib.hid (own_blk_ne ow zb (by decide))
            have HGE := Lib.hid (own_ge ow)
            have e0 := mb.alloc (.cells #[.string (bs kk), .string (bs vv)] 81)
            have e1 := zb.alloc (.cells #[.string (bs kk), .string (bs vv)] 81)
            have hB3 := hB.alloc hB.size (.cells #[.string (bs kk), .string (bs vv)] 81)
            have hbs := hB.size
            have HEE := Lib.hid hee
            clear hB mb zb ow hee hk1 hk2
            go_wp2_with (at_builtin; refine wpList_append_own _ rfl (.tmp 97) (.tmp 101) 29 rfl w.heap.size 81 i0 _ 2 32 Tryd.underlying29 hi hz0 hz1 hz2 rfl (by decide) _ _ _ rfl hown2 ⟨w4.heap.size, 0, none⟩ 1 1 [.string (bs kk), .string (bs vv)] rfl rfl hcn hone (by simp only [maxLen]; omega) (by omega) (by simp; omega) ?_; intro v5 w5 hown5 hg5 _; obtain ⟨A5, c5, rfl, _, _⟩ := own_shape hown5; have q0 := e0.grown hg5 HN.out.symm; have q1 := e1.grown hg5 HN1.out.symm; have Q0 := Lib.hid q0; have Q1 := Lib.hid q1; obtain ⟨p0, p1, p2, p3⟩ := q0.c4; have pl := q0.lt; have fp := q0.frz; clear q0 q1)
            go_roundw
            case rel =>
              have hB5 : Below w.heap.size w w5 := hB3.grown hg5 hB3.size (fun g hg => HGE.out g hg)
              have o5 : OwH w5 w.heap.size A5 c5 (L ++ [hd]) := by
                unfold OwH
                rw [List.length_append, List.flatMap_append]
                simp only [List.flatMap_cons, List.flatMap_nil, List.append_nil, HEE.out]
                simpa using hown5
              refine ⟨mo, L ++ [hd], A5, c5, rfl, HA2, ?_, hB5.setCell (by show w.heap.size ≤ K; omega) _, Q1.out.far (by show w.heap.size ≠ K; omega) _, ?_, Lib.hid (o5.box Q0.out (by decide) _)⟩
              · rw [List.length_append]
                simp
                omega
              · rw [List.length_append]
                exact Q0.out.set_ 2 _
            case measure =>
              simp only [bs_size]
              omega
  have ta : (((bs f).extract 0 4).toList == [97, 115, 107, 32]) = false := by rw [← HWD.out, str_lit]; exact decide_eq_false ha
  by_cases hy : word = sayS
  · have ty : (((bs f).extract 0 4).toList == [115, 97, 121, 32]) = true := by rw [← HWD.out, str_lit]; exact decide_eq_true hy
    have HFP : Hid (firstR f = (match numP what with | some n => some (n, ⟨#[]⟩) | none => none)) := Lib.hid (by rw [HFP.out, if_neg ha, if_pos hy])
    clear HWD ha hy
    rcases hAt : Lib.atoiAll what.data.toList with v | _ | _
    · have hnum : numP what = if itoaB v = what ∧ v ≠ 0 then some v else none := by unfold numP; rw [hAt]
      have hbd := Lib.atoiAll_bounds hAt
      have hwf : (Lit.int .i64 v).wf = true := by
        simp [Lit.wf, IntKind.min, IntKind.max, IntKind.signed, IntKind.bits]
        omega
      have hAK := atoi_ok what (by omega) v hAt w2
      rw [HWT.out] at hAK
      have HNP := Lib.hid hnum
      clear hnum hAt
      go_wp2_with (go_at_call 74; refine Hid.out ?_)
      unfold Hid
      refine hAK.mono ?_
      rintro e w3 ⟨rfl, hb⟩
      have zb := zb.below hb zl
      have mb := mb.below hb ml
      have hB := hB.trans (hb.mono hB.size)
      have hL := hL.below hb
      clear hb hAK z0 z1 z2 z3 m0 m1 m2 m3 zf mf zl ml
      have ⟨z0, z1, z2, z3⟩ := zb.c4
      have ⟨m0, m1, m2, m3⟩ := mb.c4
      have zf := zb.frz
      have mf := mb.frz
      have zl := zb.lt
      have ml := mb.lt
      by_cases hv0 : v = 0
      · have HV : Hid (rv = (emptyM, 2)) := Lib.hid (by
          have h1 := HPP.out
          rw [HFP.out, HNP.out, if_neg (fun h => h.2 hv0)] at h1
          exact h1)
        clear HPP HFP HNP
        subst hv0
        go_upto_region 12 with fail
        go_quiet (fail)
        go_wp2_with (go_at_call 75; refine Hid.out ?_)
        unfold Hid
        refine (no75 2 _).mono ?_
        rintro e w9 ⟨rfl, hb9⟩
        have hb9 := below_undrewQ hb9
        have zb9 := zb.below hb9 zb.lt
        have hB9 := hB.trans (hb9.mono hB.size)
        clear hb9
        have ⟨y0, y1, y2, y3⟩ := zb9.c4
        have yf := zb9.frz
        have yl := zb9.lt
        go_wp2
        refine bodyPost_ret (v := .tuple #[msgV 0 ⟨#[]⟩ none 0 0 none 0 0, .int .i64 2]) (by simp only [results, Tryd.results49]; go_simp) rfl (parse_err HV.out ?_)
        iterate 4 refine Below.setCell ?_ (by show w.heap.size ≤ w.heap.size; omega) _
        exact hB9
      have v1 : (v == 0) = false := by simpa using hv0
      by_cases he : itoaB v ≠ what
      · have HV : Hid (rv = (emptyM, 2)) := Lib.hid (by
          have h1 := HPP.out
          rw [HFP.out, HNP.out, if_neg (fun h => he h.1)] at h1
          exact h1)
        have u1 := str_no he
        rw [HWT.out] at u1
        have u2 : ((itoaB v).toList != ((bs f).extract 4 (bs f).size).toList) = true := by rw [bne, u1]; rfl
        clear HPP HFP HNP he
        go_upto_region 12 with fail
        go_region_held3 (fun _ => True) (exact trivial)
            (first
            | (go_at_call 59
               with_reducible refine (itoa_any v hwf _ ?_).mono ?_
               · exact hL.p
               rintro e w4 ⟨rfl, hb⟩
               repeat (have hb := below_undrewR hb)
               have zb := zb.below hb zl
               have mb := mb.below hb ml
               have hB := hB.trans (hb.mono hB.size)
               have hL := hL.below hb
               have ⟨z0, z1, z2, z3⟩ := zb.c4
               have ⟨m0, m1, m2, m3⟩ := mb.c4
               have zf := zb.frz
               have mf := mb.frz
               have zl := zb.lt
               have ml := mb.lt))
        all_goals
          go_wp2_with (go_at_call 75; refine Hid.out ?_)
          unfold Hid
          refine (no75 2 _).mono ?_
          rintro e w9 ⟨rfl, hb9⟩
          have zb9 := zb.below hb9 zb.lt
          have hB9 := hB.trans (hb9.mono hB.size)
          clear hb9
          have ⟨y0, y1, y2, y3⟩ := zb9.c4
          have yf := zb9.frz
          have yl := zb9.lt
          go_wp2
          refine bodyPost_ret (v := .tuple #[msgV 0 ⟨#[]⟩ none 0 0 none 0 0, .int .i64 2]) (by simp only [results, Tryd.results49]; go_simp) rfl (parse_err HV.out ?_)
          iterate 4 refine Below.setCell ?_ (by show w.heap.size ≤ w.heap.size; omega) _
          exact hB9
      have he := Decidable.not_not.1 he
      have u1 := str_yes he
      rw [HWT.out] at u1
      have u2 : ((itoaB v).toList != ((bs f).extract 4 (bs f).size).toList) = false := by rw [bne, u1]; rfl
      have HRY : Hid (rv = endP (v, ⟨#[]⟩) (headsF (y.length + 1) y)) := Lib.hid (by
        have h1 := HPP.out
        rw [HFP.out, HNP.out, if_pos ⟨he, hv0⟩] at h1
        exact h1)
      clear HPP HFP HNP hv0 he
      go_upto_region 12 with fail
      go_region_held3 (fun _ => True) (exact trivial)
          (first
          | (go_at_call 59
             with_reducible refine (itoa_any v hwf _ ?_).mono ?_
             · exact hL.p
             rintro e w4 ⟨rfl, hb⟩
             repeat (have hb := below_undrewR hb)
             have zb := zb.below hb zl
             have mb := mb.below hb ml
             have hB := hB.trans (hb.mono hB.size)
             have hL := hL.below hb
             have ⟨z0, z1, z2, z3⟩ := zb.c4
             have ⟨m0, m1, m2, m3⟩ := mb.c4
             have zf := zb.frz
             have mf := mb.frz
             have zl := zb.lt
             have ml := mb.lt))
      have hKz2 := hKz
      have mb := mb.set_ 0 (.int .i64 v)
      have zb := zb.far (p := ⟨K, 0, none⟩) hKz (.int .i64 v)
      have hB := hB.setCell (p := ⟨K, 0, none⟩) (by show w.heap.size ≤ K; omega) (.int .i64 v)
      have mb : Blk (w4.setCell ⟨K, 0, none⟩ (.int .i64 v)) K 32 (msgC v ⟨#[]⟩ none 0 0 none 0 0) := mb
      go_wp2
      clear z0 z1 z2 z3 m0 m1 m2 m3 zf mf zl ml
      go_loopw [0] (fun t wr => ∃ (x : List UInt8) (L : List Hd) (A4 : Option Addr) (c4 : Nat), t = .string (bs x) ∧ Hid (rv = endP (v, ⟨#[]⟩) (preO L (headsF (x.length + 1) x))) ∧ L.length + x.length ≤ 1048576 ∧ Below w.heap.size w wr ∧ Blk wr w.heap.size 32 zerC ∧ Blk wr (K) 32 (msgC v ⟨#[]⟩ A4 L.length c4 none 0 0) ∧ Hid (OwH wr w.heap.size A4 c4 L))
        (fun t _ => match t with | .string b => b.size | _ => 0)
      case atStart => exact ⟨y, [], none, 0, rfl, Lib.hid (by rw [preO_nil]; exact HRY.out), by simp; omega, hB, zb, mb, Lib.hid (World.ownsRow_nil _ _ _ _)⟩
      case round =>
        clear hB zb mb HRY hyl hL
        obtain ⟨x, L, A4, c4, rfl, HA, hlen, hB, zb, mb, OW⟩ := hrel
        have ⟨z0, z1, z2, z3⟩ := zb.c4
        have ⟨m0, m1, m2, m3⟩ := mb.c4
        have zf := zb.frz
        have mf := mb.frz
        have zl := zb.lt
        have ml := mb.lt
        have hxz : (bs x).size ≤ 140737488355328 := by rw [bs_size]; omega
        have hC := upto_any (bs x) 10 hxz wr
        rw [bs_list] at hC
        have hC : Calls Tryd.prog 76 #[.string (bs x), .int .u8 10] wr _ := hC
        unfold ctup at hC
        cases hq : (cutB 10 x).2.2
        · have HV : Hid (rv = (emptyM, 2)) := Lib.hid (by rw [HA.out, heads_none hq]; rfl)
          rw [hq] at hC
          clear hq HA OW
          go_wp2_with (go_at_call 76; refine Hid.out ?_)
          unfold Hid
          refine hC.mono ?_
          rintro e w3 ⟨rfl, hb⟩
          have zb := zb.below hb zl
          have hB := hB.trans (hb.mono hB.size)
          clear hb hC z0 z1 z2 z3 m0 m1 m2 m3 zf mf zl ml mb
          have ⟨z0, z1, z2, z3⟩ := zb.c4
          have zf := zb.frz
          have zl := zb.lt
          go_wp2_with (go_at_call 75; refine Hid.out ?_)
          unfold Hid
          refine (no75 2 _).mono ?_
          rintro e w9 ⟨rfl, hb9⟩
          have zb9 := zb.below hb9 zb.lt
          have hB9 := hB.trans (hb9.mono hB.size)
          clear hb9
          have ⟨y0, y1, y2, y3⟩ := zb9.c4
          have yf := zb9.frz
          have yl := zb9.lt
          go_wp2
          refine bodyPost_ret (v := .tuple #[msgV 0 ⟨#[]⟩ none 0 0 none 0 0, .int .i64 2]) (by simp only [results, Tryd.results49]; go_simp) rfl (parse_err HV.out ?_)
          iterate 4 refine Below.setCell ?_ (by show w.heap.size ≤ w.heap.size; omega) _
          exact hB9
        · rw [hq] at hC
          have hcl := cutB_len (c := 10) x
          have hcs := cutB_lt hq
          by_cases hln : (cutB 10 x).1 = []
          · have HE : Hid (headsF (x.length + 1) x = some ([], (cutB 10 x).2.1)) := Lib.hid (heads_end hq hln)
            obtain ⟨bd, hbd⟩ : ∃ b, b = (cutB 10 x).2.1 := ⟨_, rfl⟩
            rw [← hbd] at HE hC hcl hcs
            rw [hln] at hC
            have e0 : bs [] = ⟨#[]⟩ := rfl
            rw [e0] at hC
            have HR : Hid (rv = endP (v, ⟨#[]⟩) (some (L, bd))) := Lib.hid (by rw [HA.out, HE.out]; simp [preO])
            clear hbd hln hq HA HE e0
            go_wp2_with (go_at_call 76; refine Hid.out ?_)
            unfold Hid
            refine hC.mono ?_
            rintro e w3 ⟨rfl, hb⟩
            have zb := zb.below hb zl
            have mb := mb.below hb ml
            have ow := OW.out.below hb
            have hB := hB.trans (hb.mono hB.size)
            clear hb hC z0 z1 z2 z3 m0 m1 m2 m3 zf mf zl ml OW
            have ⟨z0, z1, z2, z3⟩ := zb.c4
            have ⟨m0, m1, m2, m3⟩ := mb.c4
            have zf := zb.frz
            have mf := mb.frz
            have zl := zb.lt
            have ml := mb.lt
            have hcv := fun (W : World) => run_bytes_of_string (P := Tryd.prog) W 9 30 5 (bs bd) Tryd.underlying9 Tryd.underlying30 Tryd.underlying5
            obtain ⟨N, hN⟩ : ∃ N, N = w3.heap.size := ⟨_, rfl⟩
            obtain ⟨G, hG⟩ : ∃ G, G = grownCap w3 (bs bd).size 0 5 := ⟨_, rfl⟩
            obtain ⟨w4, hw4⟩ : ∃ W, W = (((w3.setCell ⟨K, 3, none⟩ (.slice (some ⟨N, 0, none⟩) (bs bd).size G)).alloc (.cells (bytesRow (bs bd) G) 5 ((bytesRow (bs bd) G).size, (bytesRow (bs bd) G).size + 1))).drew) := ⟨_, rfl⟩
            have hNw : K < N := by rw [hN]; exact ml
            have ow4 : OwH w4 w.heap.size A4 c4 L := by rw [hw4]; exact (ow.box mb (by decide) _).below (Below.drew ((Below.refl _ _).alloc (Nat.le_refl _) _))
            have hy4 : RdS 1 encY w4 (N ≤ ·) (some ⟨N, 0, none⟩) bd := by
              have e1 : (w3.setCell ⟨K, 3, none⟩ (.slice (some ⟨N, 0, none⟩) (bs bd).size G)).heap.size = N := by rw [hN]; simp
              have h1 := bytes_rd (w := w3.setCell ⟨K, 3, none⟩ (.slice (some ⟨N, 0, none⟩) (bs bd).size G)) (s := bs bd) (c := G) (fr := ((bytesRow (bs bd) G).size, (bytesRow (bs bd) G).size + 1))
              rw [e1] at h1
              rw [hw4]
              exact h1
            have zb4 : Blk w4 w.heap.size 32 zerC := by rw [hw4]; exact ((zb.far (p := ⟨K, 3, none⟩) (by show w.heap.size ≠ K; omega) _).alloc _).drew
            have mb4 : Blk w4 (K) 32 (msgC v ⟨#[]⟩ A4 L.length c4 (some ⟨N, 0, none⟩) (bs bd).size G) := by rw [hw4]; exact ((mb.set_ 3 _).alloc _).drew
            have hB4 : Below w.heap.size w w4 := by rw [hw4]; exact Below.drew ((hB.setCell (p := ⟨K, 3, none⟩) (by show w.heap.size ≤ K; omega) _).alloc (by simpa using hB.size) _)
            obtain ⟨hcap, hcmx⟩ := ow4.cap
            unfold maxLen at hcmx
            have hW := rwrong_any v ⟨#[]⟩ A4 (some ⟨N, 0, none⟩) L c4 (bs bd).size G (by decide) w4 ow4.rd
            obtain ⟨zc, hzc⟩ : ∃ z, z = wrongP v ⟨#[]⟩ L (bs bd).size := ⟨_, rfl⟩
            rw [← hzc] at hW
            have hzM : zc = wrongM ⟨v, ⟨#[]⟩, L, bd⟩ := by rw [hzc, bs_size]; rfl
            have HR2 : Hid (rv = if zc = 0 then (⟨v, ⟨#[]⟩, L, bd⟩, 0) else (emptyM, zc)) := Lib.hid (by rw [HR.out, hzM]; rfl)
            clear hzc hzM HR
            clear zb mb ow hB
            go_wp2_with (go_at_call 24; refine Hid.out ?_)
            rw [← hN, ← hG, ← hw4]
            unfold Hid
            clear hN hG hw4 hcv z0 z1 z2 z3 m0 m1 m2 m3 zf mf zl ml
            refine hW.mono ?_
            rintro e w5 ⟨rfl, hb⟩
            have zb := zb4.below hb zb4.lt
            have mb := mb4.below hb mb4.lt
            have ow := ow4.below hb
            have hy5 := hy4.below hb
            have hB := hB4.trans (hb.mono hB4.size)
            clear hb hW zb4 mb4 ow4 hy4 hB4
            have ⟨z0, z1, z2, z3⟩ := zb.c4
            have ⟨m0, m1, m2, m3⟩ := mb.c4
            have zf := zb.frz
            have mf := mb.frz
            have zl := zb.lt
            have ml := mb.lt
            by_cases hz0 : zc ≠ 0
            · have f1 : (zc == 0) = false := by simpa using hz0
              have f2 : (zc != 0) = true := by simpa using hz0
              have HV : Hid (rv = (emptyM, zc)) := Lib.hid (by rw [HR2.out, if_neg hz0])
              clear hz0 HR2
              go_wp2_with (go_at_call 75; refine Hid.out ?_)
              unfold Hid
              refine (no75 zc _).mono ?_
              rintro e w9 ⟨rfl, hb9⟩
              have zb9 := zb.below hb9 zb.lt
              have hB9 := hB.trans (hb9.mono hB.size)
              clear hb9
              have ⟨y0, y1, y2, y3⟩ := zb9.c4
              have yf := zb9.frz
              have yl := zb9.lt
              go_wp2
              refine bodyPost_ret (v := .tuple #[msgV 0 ⟨#[]⟩ none 0 0 none 0 0, .int .i64 zc]) (by simp only [results, Tryd.results49]; go_simp) rfl (parse_err HV.out ?_)
              iterate 4 refine Below.setCell ?_ (by show w.heap.size ≤ w.heap.size; omega) _
              exact hB9
            have hz0 := Decidable.not_not.1 hz0
            have HV : Hid (rv = (⟨v, ⟨#[]⟩, L, bd⟩, 0)) := Lib.hid (by rw [HR2.out, if_pos hz0])
            clear HR2
            subst hz0
            go_wp2
            have o7 := (ow.box4 zb (.int .i64 v) (.string ⟨#[]⟩) (.slice A4 L.length c4) (.slice (some ⟨N, 0, none⟩) (bs bd).size G)).rds
            have y7 := (hy5.set4 (g := w.heap.size) (by omega) (.int .i64 v) (.string ⟨#[]⟩) (.slice A4 L.length c4) (.slice (some ⟨N, 0, none⟩) (bs bd).size G)).mono (S' := (w.heap.size ≤ ·)) (fun b h => by omega)
            refine bodyPost_ret (v := .tuple #[msgV v ⟨#[]⟩ A4 L.length c4 (some ⟨N, 0, none⟩) (bs bd).size G, .int .i64 0]) (by simp only [results, Tryd.results49]; go_simp) rfl (parse_yes HV.out rfl (bs_size bd) o7 y7 hcap hcmx ?_)
            iterate 4 refine Below.setCell ?_ (by show w.heap.size ≤ w.heap.size; omega) _
            exact hB
          · have hne := str_empty (a := bs (cutB 10 x).1) (fun e => hln (bs_inj (b := []) e))
            obtain ⟨n1, n2⟩ := hne
            have hxz2 : (bs (cutB 10 x).1).size ≤ 140737488355328 := by rw [bs_size]; omega
            have hC2 : ∀ W, Calls Tryd.prog 76 #[.string (bs (cutB 10 x).1), .int .u8 61] W fun e w' => e = .returned (ctup (cutB 61 (bs (cutB 10 x).1).data.toList)) ∧ Below W.heap.size W w' := fun W => upto_any (bs (cutB 10 x).1) 61 hxz2 W
            simp only [bs_list] at hC2
            have hcl2 := cutB_len (c := 61) (cutB 10 x).1
            have HM := fun h3 => heads_more (s := x) hq hln h3
            have HBD := fun h3 => heads_bad (s := x) hq hln h3
            obtain ⟨ln, hln'⟩ : ∃ b, b = (cutB 10 x).1 := ⟨_, rfl⟩
            obtain ⟨mo, hmo⟩ : ∃ b, b = (cutB 10 x).2.1 := ⟨_, rfl⟩
            rw [← hln'] at hC n1 n2 hxz2 hcl2 hcl
            rw [← hmo] at hC hcl hcs
            simp only [← hln'] at hC2
            simp only [← hln', ← hmo] at HM HBD
            clear hln' hmo hln hq
            obtain ⟨r3, hr3⟩ : ∃ b, b = cutB 61 ln := ⟨_, rfl⟩
            rw [← hr3] at hcl2
            simp only [← hr3] at hC2 HM HBD
            clear hr3
            obtain ⟨kk, vv, q3⟩ := r3
            unfold ctup at hC2
            simp only at hC2 hcl2 HM HBD
            have HC2 := Lib.hid hC2
            have HM := Lib.hid HM
            have HBD := Lib.hid HBD
            clear hC2
            go_wp2_with (go_at_call 76; refine Hid.out ?_)
            unfold Hid
            refine hC.mono ?_
            rintro e w3 ⟨rfl, hb⟩
            have zb := zb.below hb zl
            have mb := mb.below hb ml
            have ow := OW.out.below hb
            have hB := hB.trans (hb.mono hB.size)
            clear hb hC z0 z1 z2 z3 m0 m1 m2 m3 zf mf zl ml OW
            go_wp2_with (go_at_call 76; refine Hid.out ?_)
            unfold Hid
            refine (HC2.out w3).mono ?_
            rintro e w4 ⟨rfl, hb⟩
            have zb := zb.below hb zb.lt
            have mb := mb.below hb mb.lt
            have ow := ow.below hb
            have hB := hB.trans (hb.mono hB.size)
            clear hb HC2
            have ⟨z0, z1, z2, z3⟩ := zb.c4
            have ⟨m0, m1, m2, m3⟩ := mb.c4
            have zf := zb.frz
            have mf := mb.frz
            have zl := zb.lt
            have ml := mb.lt
            cases q3
            · have HV : Hid (rv = (emptyM, 2)) := Lib.hid (by rw [HA.out, HBD.out rfl]; rfl)
              clear HA HM HBD
              go_wp2_with (go_at_call 75; refine Hid.out ?_)
              unfold Hid
              refine (no75 2 _).mono ?_
              rintro e w9 ⟨rfl, hb9⟩
              have zb9 := zb.below hb9 zb.lt
              have hB9 := hB.trans (hb9.mono hB.size)
              clear hb9
              have ⟨y0, y1, y2, y3⟩ := zb9.c4
              have yf := zb9.frz
              have yl := zb9.lt
              go_wp2
              refine bodyPost_ret (v := .tuple #[msgV 0 ⟨#[]⟩ none 0 0 none 0 0, .int .i64 2]) (by simp only [results, Tryd.results49]; go_simp) rfl (parse_err HV.out ?_)
              iterate 4 refine Below.setCell ?_ (by show w.heap.size ≤ w.heap.size; omega) _
              exact hB9
            · obtain ⟨hd, hhd⟩ : ∃ h : Hd, h = ⟨bs kk, bs vv, by rw [bs_size]; omega, by rw [bs_size]; omega⟩ := ⟨_, rfl⟩
              have hk1 : hd.key = bs kk := by rw [hhd]
              have hk2 : hd.text = bs vv := by rw [hhd]
              have hmk : mkHd kk vv = hd := by
                rw [hhd]
                unfold mkHd
                rw [dif_pos ⟨by rw [bs_size]; omega, by rw [bs_size]; omega⟩]
              have HA2 : Hid (rv = endP (v, ⟨#[]⟩) (preO (L ++ [hd]) (headsF (mo.length + 1) mo))) := Lib.hid (by
                rw [HA.out, HM.out rfl, preO_preO, hmk])
              clear HA HM HBD hmk hhd
              obtain ⟨i0, hi, hz0, hz1, hz2⟩ := info_parts infoHd
              have hone : ∀ u ∈ encHd hd, u.oneCell' = true := fun u hu => encHd_one [hd] u (by simpa using hu)
              have hee : encHd hd = [.string (bs kk), .string (bs vv)] := by unfold encHd; rw [hk1, hk2]
              rw [hee] at hone
              have hcn := cells_new w4 w4.heap.size rfl [.string (bs kk), .string (bs vv)] 81
              have hown2 := ow.alloc (.cells #[.string (bs kk), .string (bs vv)] 81)
              have HN := Lib.hid (own_blk_ne ow mb (by decide))
              have HN1 := Lib.hid (own_blk_ne ow zb (by decide))
              have HGE := Lib.hid (own_ge ow)
              have e0 := mb.alloc (.cells #[.string (bs kk), .string (bs vv)] 81)
              have e1 := zb.alloc (.cells #[.string (bs kk), .string (bs vv)] 81)
              have hB3 := hB.alloc hB.size (.cells #[.string (bs kk), .string (bs vv)] 81)
              have hbs := hB.size
              have HEE := Lib.hid hee
              clear hB mb zb ow hee hk1 hk2
              go_wp2_with (at_builtin; refine wpList_append_own _ rfl (.tmp 97) (.tmp 101) 29 rfl w.heap.size 81 i0 _ 2 32 Tryd.underlying29 hi hz0 hz1 hz2 rfl (by decide) _ _ _ rfl hown2 ⟨w4.heap.size, 0, none⟩ 1 1 [.string (bs kk), .string (bs vv)] rfl rfl hcn hone (by simp only [maxLen]; omega) (by omega) (by simp; omega) ?_; intro v5 w5 hown5 hg5 _; obtain ⟨A5, c5, rfl, _, _⟩ := own_shape hown5; have q0 := e0.grown hg5 HN.out.symm; have q1 := e1.grown hg5 HN1.out.symm; have Q0 := Lib.hid q0; have Q1 := Lib.hid q1; obtain ⟨p0, p1, p2, p3⟩ := q0.c4; have pl := q0.lt; have fp := q0.frz; clear q0 q1)
              go_roundw
              case rel =>
                have hB5 : Below w.heap.size w w5 := hB3.grown hg5 hB3.size (fun g hg => HGE.out g hg)
                have o5 : OwH w5 w.heap.size A5 c5 (L ++ [hd]) := by
                  unfold OwH
                  rw [List.length_append, List.flatMap_append]
                  simp only [List.flatMap_cons, List.flatMap_nil, List.append_nil, HEE.out]
                  simpa using hown5
                refine ⟨mo, L ++ [hd], A5, c5, rfl, HA2, ?_, hB5.setCell (by show w.heap.size ≤ K; omega) _, Q1.out.far (by show w.heap.size ≠ K; omega) _, ?_, Lib.hid (o5.box Q0.out (by decide) _)⟩
                · rw [List.length_append]
                  simp
                  omega
                · rw [List.length_append]
                  exact Q0.out.set_ 2 _
              case measure =>
                simp only [bs_size]
                omega
    all_goals
      have hnum : numP what = none := by unfold numP; rw [hAt]
      have HV : Hid (rv = (emptyM, 2)) := Lib.hid (by
        have h1 := HPP.out
        rw [HFP.out, hnum] at h1
        exact h1)
      have hAK := atoi_no what (by omega) (fun v h => by rw [hAt] at h; cases h) w2 hL
      rw [HWT.out] at hAK
      clear HPP HFP hnum hAt
      go_wp2_with (go_at_call 74; refine Hid.out ?_)
      unfold Hid
      refine hAK.mono ?_
      rintro e w3 ⟨x0, N, rfl, hb⟩
      have zb := zb.below hb zl
      have hB := hB.trans (hb.mono hB.size)
      clear hb hAK z0 z1 z2 z3 m0 m1 m2 m3 zf mf zl ml mb
      have ⟨z0, z1, z2, z3⟩ := zb.c4
      have zf := zb.frz
      have zl := zb.lt
      go_upto_region 12 with fail
      go_quiet (fail)
      go_wp2_with (go_at_call 75; refine Hid.out ?_)
      unfold Hid
      refine (no75 2 _).mono ?_
      rintro e w9 ⟨rfl, hb9⟩
      have hb9 := below_undrewQ hb9
      have zb9 := zb.below hb9 zb.lt
      have hB9 := hB.trans (hb9.mono hB.size)
      clear hb9
      have ⟨y0, y1, y2, y3⟩ := zb9.c4
      have yf := zb9.frz
      have yl := zb9.lt
      go_wp2
      refine bodyPost_ret (v := .tuple #[msgV 0 ⟨#[]⟩ none 0 0 none 0 0, .int .i64 2]) (by simp only [results, Tryd.results49]; go_simp) rfl (parse_err HV.out ?_)
      iterate 4 refine Below.setCell ?_ (by show w.heap.size ≤ w.heap.size; omega) _
      exact hB9
  have ty : (((bs f).extract 0 4).toList == [115, 97, 121, 32]) = false := by rw [← HWD.out, str_lit]; exact decide_eq_false hy
  have HV : Hid (rv = (emptyM, 2)) := Lib.hid (by
    have h1 := HPP.out
    rw [HFP.out, if_neg ha, if_neg hy] at h1
    exact h1)
  clear HPP HFP HWD ha hy
  go_wp2_with (go_at_call 75; refine Hid.out ?_)
  unfold Hid
  refine (no75 2 _).mono ?_
  rintro e w9 ⟨rfl, hb9⟩
  have zb9 := zb.below hb9 zb.lt
  have hB9 := hB.trans (hb9.mono hB.size)
  clear hb9
  have ⟨y0, y1, y2, y3⟩ := zb9.c4
  have yf := zb9.frz
  have yl := zb9.lt
  go_wp2
  refine bodyPost_ret (v := .tuple #[msgV 0 ⟨#[]⟩ none 0 0 none 0 0, .int .i64 2]) (by simp only [results, Tryd.results49]; go_simp) rfl (parse_err HV.out ?_)
  iterate 4 refine Below.setCell ?_ (by show w.heap.size ≤ w.heap.size; omega) _
  exact hB9
end Go.Proofs.YtmcjgfoaiannoabDoor
