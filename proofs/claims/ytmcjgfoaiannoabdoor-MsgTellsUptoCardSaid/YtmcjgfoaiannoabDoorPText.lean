/-
  Texts of messages written, by the program and by the reference: one text. Conditions: the message can be read; the library's tables lie where they lie.
-/
import Derived.Test.YtmcjgfoaiannoabDoorPAtoi
import Derived.Test.YtmcjgfoaiannoabDoorMWr2
import Derived.Test.YtmcjgfoaiannoabDoorMRWr
import Derived.Test.YtmcjgfoaiannoabDoorSKLaw
import Derived.Test.YtmcjgfoaiannoabDoorFText
import Derived.Lib.SmallJoins
namespace Go.Proofs.YtmcjgfoaiannoabDoor
open Go.RowKit Go.Lib

/-- a message's text, and what is wrong with it -/
def mtxP (m : Mg) : ByteArray × Int := if wrongM m = 0 then (bs (textL m), 0) else (⟨#[]⟩, wrongM m)
def stup (r : ByteArray × Int) : Value := .tuple #[.string r.1, .int .i64 r.2]
theorem ret_stup {a : ByteArray} {n : Int} {r : ByteArray × Int} (h : r = (a, n)) : Ending.returned (.tuple #[.string a, .int .i64 n]) = .returned (stup r) := by rw [h]; rfl
theorem lines_snoc {l : List Hd} {k : Nat} {x : Hd} (hx : l[k]? = some x) : linesL (l.take (k + 1)) = linesL (l.take k) ++ (x.key.data.toList ++ 61 :: (x.text.data.toList ++ [10])) := by
  unfold linesL
  rw [take_snoc' hx, List.flatMap_append]
  simp
/-- lines with the end ahead -/
def linesR (l : List Hd) : List UInt8 := l.flatMap fun x => 10 :: (x.key.data.toList ++ 61 :: x.text.data.toList)
theorem linesR_snoc {l : List Hd} {k : Nat} {x : Hd} (hx : l[k]? = some x) : linesR (l.take (k + 1)) = linesR (l.take k) ++ 10 :: (x.key.data.toList ++ 61 :: x.text.data.toList) := by
  unfold linesR
  rw [take_snoc' hx, List.flatMap_append]
  simp
theorem lines_turn : ∀ (l : List Hd) (t : List UInt8), linesR l ++ 10 :: t = 10 :: (linesL l ++ t)
  | [], t => rfl
  | x :: l, t => by
    have ih := lines_turn l t
    unfold linesR linesL at ih ⊢
    simp only [List.flatMap_cons, List.cons_append, List.append_assoc]
    rw [ih]
    simp
theorem good_size {x : Hd} (h : goodH x = true) : x.key.size ≤ 8 ∧ x.text.size ≤ 20 := by
  unfold goodH keyP lineP at h
  simp only [Bool.and_eq_true, decide_eq_true_eq] at h
  exact ⟨h.1.2, h.2.2⟩
theorem ba_cat (a b : ByteArray) : (a ++ b).data.toList = a.data.toList ++ b.data.toList := Go.Joins.data_append a b
theorem wf_st {m : Mg} (h : wrongM m = 0) : m.st = 0 ∧ m.path.size ≤ 24 ∨ 100 ≤ m.st ∧ m.st ≤ 599 ∧ m.path = ⟨#[]⟩ := by
  rcases (wrong0.1 h).1 with ⟨h1, h2⟩ | h1
  · left
    unfold pathP at h2
    simp only [Bool.and_eq_true, decide_eq_true_eq] at h2
    exact ⟨h1, h2.1.2⟩
  · exact .inr h1
theorem wf_small {n : Int} (h1 : 100 ≤ n) (h2 : n ≤ 599) : (Lit.int .i64 n).wf = true := by
  simp [Lit.wf, IntKind.min, IntKind.max, IntKind.signed, IntKind.bits]
  omega
set_option maxRecDepth 100000 in
set_option maxHeartbeats 8000000 in
theorem text_any39 (m : Mg) (A AB : Option Addr) (c cb : Nat) (hp : m.path.size ≤ 140737488355328) (hl : m.l.length ≤ c) (hc : c ≤ 9223372036854775807) (w : World) (hr : Rd 2 encHd w w.heap.size A m.l) (hy : Rd 1 encY w w.heap.size AB m.bd) (hL : Libs w) :
    Calls Tryd.prog 39 #[msgV m.st m.path A m.l.length c AB m.bd.length cb] w fun e w' => e = .returned (stup (mtxP m)) ∧ Below w.heap.size w w' := by
  obtain ⟨rv, hrv⟩ : ∃ v, v = mtxP m := ⟨_, rfl⟩
  rw [← hrv]
  obtain ⟨wz, hwz⟩ : ∃ W, W = w.alloc (.cells (msgC m.st m.path A m.l.length c AB m.bd.length cb) 32) := ⟨_, rfl⟩
  have bb : Blk wz w.heap.size 32 (msgC m.st m.path A m.l.length c AB m.bd.length cb) := by rw [hwz]; exact Blk.new _ _ _
  have hB : Below w.heap.size w wz := by rw [hwz]; exact (Below.refl _ w).alloc (Nat.le_refl _) _
  have hC := wrong_anyC m.st m.path A AB m.l c m.bd.length cb hp hl hc wz (hr.up hB)
  have z61 : ByteArray.size ⟨#[61]⟩ = 1 := rfl
  have z10 : ByteArray.size ⟨#[10]⟩ = 1 := rfl
  have z1010 : ByteArray.size ⟨#[10, 10]⟩ = 2 := rfl
  have za : ByteArray.size ⟨#[97, 115, 107, 32]⟩ = 4 := rfl
  have zs : ByteArray.size ⟨#[115, 97, 121, 32]⟩ = 4 := rfl
  obtain ⟨z, hz⟩ : ∃ z, z = wrongP m.st m.path m.l m.bd.length := ⟨_, rfl⟩
  rw [← hz] at hC
  have hzM : z = wrongM m := hz
  clear hz
  go_enter Tryd.func39, Tryd.ntmps39
  go_wp2_with (go_at_call 41; refine Hid.out ?_)
  rw [← hwz]
  unfold Hid
  clear hwz
  refine hC.mono ?_
  rintro e w1 ⟨rfl, hb⟩
  have bb := bb.below hb bb.lt
  have hB := hB.trans (hb.mono hB.size)
  clear hb hC
  have hL := hL.below hB
  have ⟨k0, k1, k2, k3⟩ := bb.c4
  have bl := bb.lt
  by_cases hz0 : z ≠ 0
  · have f1 : (z == 0) = false := by simpa using hz0
    have f2 : (z != 0) = true := by simpa using hz0
    have HV : Hid (rv = (⟨#[]⟩, z)) := Lib.hid (by rw [hrv, mtxP, if_neg (by rw [← hzM]; exact hz0), ← hzM])
    clear hz0 hzM hrv
    go_wp2
    go_ret2
    exact ⟨ret_stup HV.out, hB⟩
  have hz0 := Decidable.not_not.1 hz0
  have hw0 : wrongM m = 0 := by rw [← hzM]; exact hz0
  have HR : Hid (rv = (bs (textL m), 0)) := Lib.hid (by rw [hrv, mtxP, if_pos hw0])
  obtain ⟨_, hl6, hb40, hds⟩ := wrong0.1 hw0
  have HD := Lib.hid hds
  have hst := wf_st hw0
  clear hrv hzM hw0 hds
  subst hz0
  have hz0 : True := trivial
  rcases hst with ⟨h0, hp24⟩ | ⟨h1, h2, he⟩
  · have g0 : (m.st == 0) = true := by simp [h0]
    have g1 : (m.st != 0) = false := by simp [h0]
    have g2 : ¬ (0 : Int) < m.st := by omega
    have ca := cat_run ⟨#[97, 115, 107, 32]⟩ m.path (by omega)
    have ca2 := cat_run (⟨#[97, 115, 107, 32]⟩ ++ m.path) ⟨#[10]⟩ (by simp only [ByteArray.size_append]; omega)
    obtain ⟨F, hF⟩ : ∃ F, F = (askB.data.toList ++ 32 :: m.path.data.toList) ++ [10] := ⟨_, rfl⟩
    have HF : Hid (textL m = F ++ (linesL m.l ++ 10 :: m.bd)) := Lib.hid (by rw [hF, textL, if_pos h0]; simp)
    have hS0 : ((⟨#[97, 115, 107, 32]⟩ ++ m.path) ++ ⟨#[10]⟩ : ByteArray).data.toList = F := by rw [hF, ba_cat, ba_cat]; rfl
    have hz60 : ((⟨#[97, 115, 107, 32]⟩ ++ m.path) ++ ⟨#[10]⟩ : ByteArray).size ≤ 60 := by simp only [ByteArray.size_append, za, z10]; omega
    clear hF h0
    have HS0 := Lib.hid hS0
    clear hS0
    go_wp2
    go_loopw [5, 28] (fun s i wr => ∃ (k : Nat) (S : ByteArray), k ≤ m.l.length ∧ i = .int .i64 k ∧ s = .string S ∧ Hid (S.data.toList = F ++ linesL (m.l.take k)) ∧ S.size ≤ 60 + 40 * k ∧ Below w.heap.size w wr ∧ Blk wr w.heap.size 32 (msgC m.st m.path A m.l.length c AB m.bd.length cb))
      (fun _ i _ => m.l.length - (intOf i).toNat)
    case atStart => exact ⟨0, _, Nat.zero_le _, rfl, rfl, Lib.hid (by rw [HS0.out]; simp [linesL]), by omega, hB, bb⟩
    case round =>
      clear hB bb HS0 hz0
      obtain ⟨k, S, hk, rfl, rfl, HS, hsz, hB, bb⟩ := hrel
      have ⟨k0, k1, k2, k3⟩ := bb.c4
      have bl := bb.lt
      by_cases hlt : k < m.l.length
      · obtain ⟨b, off, x, rfl, hbB, hx, d0, d1⟩ := (hr.below hB).atH hlt
        have hgx := good_size ((hdsP_iff.1 HD.out).1 x (List.mem_of_getElem? hx))
        obtain ⟨hk8, ht20⟩ := hgx
        have HX := Lib.hid (lines_snoc hx)
        have cr1 := cat_run x.key ⟨#[61]⟩ (by omega)
        have cr2 := cat_run (x.key ++ ⟨#[61]⟩) x.text (by simp only [ByteArray.size_append]; omega)
        have cr3 := cat_run ((x.key ++ ⟨#[61]⟩) ++ x.text) ⟨#[10]⟩ (by simp only [ByteArray.size_append]; omega)
        have cr4 := cat_run S (((x.key ++ ⟨#[61]⟩) ++ x.text) ++ ⟨#[10]⟩) (by simp only [ByteArray.size_append]; omega)
        clear hx
        go_wp2
        go_roundw
        case rel => exact ⟨k + 1, S ++ (((x.key ++ ⟨#[61]⟩) ++ x.text) ++ ⟨#[10]⟩), by omega, by go_num, rfl, Lib.hid (by
          rw [HX.out]
          simp only [ba_cat, HS.out]
          simp), by simp only [ByteArray.size_append, z61, z10]; omega, hB.alloc hB.size _, bb.alloc _⟩
        case measure => simp [intOf]; omega
      · have hck := conv_any (hy.up hB) cb
        have hle : m.l.length ≤ k := by omega
        have hk6 : k ≤ 6 := by omega
        have hbz : ByteArray.size ⟨m.bd.toArray⟩ = m.bd.length := bs_size m.bd
        have cr1 := cat_run S ⟨#[10]⟩ (by omega)
        have cr2 := cat_run (S ++ ⟨#[10]⟩) ⟨m.bd.toArray⟩ (by simp only [ByteArray.size_append]; omega)
        have HV : Hid (rv = ((S ++ ⟨#[10]⟩) ++ ⟨m.bd.toArray⟩, 0)) := Lib.hid (by
          rw [HR.out]
          congr 1
          apply ba_inj
          have e := HS.out
          rw [List.take_of_length_le hle] at e
          simp only [ba_cat, e]
          show textL m = _
          rw [HF.out]
          simp)
        clear HS
        go_wp2
        go_ret2
        exact ⟨ret_stup HV.out, hB⟩
  · have g0 : (m.st == 0) = false := by simp; omega
    have g1 : (m.st != 0) = true := by simp; omega
    have g2 : (0 : Int) < m.st := by omega
    have hwf := wf_small h1 h2
    have hiz := itoaB_size hwf
    have HP : Hid (m.path.size = 0) := Lib.hid (by rw [he]; rfl)
    have hpz : m.path.size ≤ 0 := by rw [HP.out]; exact Nat.le_refl _
    have ca := cat_run ⟨#[97, 115, 107, 32]⟩ m.path (by omega)
    have cs := cat_run ⟨#[115, 97, 121, 32]⟩ (itoaB m.st) (by omega)
    have ca2 := cat_run (⟨#[97, 115, 107, 32]⟩ ++ m.path) ⟨#[10]⟩ (by simp only [ByteArray.size_append]; omega)
    have cs2 := cat_run (⟨#[115, 97, 121, 32]⟩ ++ itoaB m.st) ⟨#[10]⟩ (by simp only [ByteArray.size_append]; omega)
    obtain ⟨F, hF⟩ : ∃ F, F = (sayB.data.toList ++ 32 :: (itoaB m.st).data.toList) ++ [10] := ⟨_, rfl⟩
    have HF : Hid (textL m = F ++ (linesL m.l ++ 10 :: m.bd)) := Lib.hid (by rw [hF, textL, if_neg (by omega)]; simp)
    have hS0 : ((⟨#[115, 97, 121, 32]⟩ ++ itoaB m.st) ++ ⟨#[10]⟩ : ByteArray).data.toList = F := by rw [hF, ba_cat, ba_cat]; rfl
    have hz60 : ((⟨#[115, 97, 121, 32]⟩ ++ itoaB m.st) ++ ⟨#[10]⟩ : ByteArray).size ≤ 60 := by simp only [ByteArray.size_append, zs, z10]; omega
    clear hF he
    go_wp2_with (go_at_call 59; refine Hid.out ?_)
    unfold Hid
    refine (itoa_any m.st hwf _ hL.p).mono ?_
    rintro e w2 ⟨rfl, hb⟩
    have bb := bb.below hb bl
    have hB := hB.trans (hb.mono hB.size)
    clear hb hL k0 k1 k2 k3 bl
    have ⟨k0, k1, k2, k3⟩ := bb.c4
    have bl := bb.lt
    have HS0 := Lib.hid hS0
    clear hS0
    go_wp2
    go_loopw [5, 28] (fun s i wr => ∃ (k : Nat) (S : ByteArray), k ≤ m.l.length ∧ i = .int .i64 k ∧ s = .string S ∧ Hid (S.data.toList = F ++ linesL (m.l.take k)) ∧ S.size ≤ 60 + 40 * k ∧ Below w.heap.size w wr ∧ Blk wr w.heap.size 32 (msgC m.st m.path A m.l.length c AB m.bd.length cb))
      (fun _ i _ => m.l.length - (intOf i).toNat)
    case atStart => exact ⟨0, _, Nat.zero_le _, rfl, rfl, Lib.hid (by rw [HS0.out]; simp [linesL]), by omega, hB, bb⟩
    case round =>
      clear hB bb HS0 hz0
      obtain ⟨k, S, hk, rfl, rfl, HS, hsz, hB, bb⟩ := hrel
      have ⟨k0, k1, k2, k3⟩ := bb.c4
      have bl := bb.lt
      by_cases hlt : k < m.l.length
      · obtain ⟨b, off, x, rfl, hbB, hx, d0, d1⟩ := (hr.below hB).atH hlt
        have hgx := good_size ((hdsP_iff.1 HD.out).1 x (List.mem_of_getElem? hx))
        obtain ⟨hk8, ht20⟩ := hgx
        have HX := Lib.hid (lines_snoc hx)
        have cr1 := cat_run x.key ⟨#[61]⟩ (by omega)
        have cr2 := cat_run (x.key ++ ⟨#[61]⟩) x.text (by simp only [ByteArray.size_append]; omega)
        have cr3 := cat_run ((x.key ++ ⟨#[61]⟩) ++ x.text) ⟨#[10]⟩ (by simp only [ByteArray.size_append]; omega)
        have cr4 := cat_run S (((x.key ++ ⟨#[61]⟩) ++ x.text) ++ ⟨#[10]⟩) (by simp only [ByteArray.size_append]; omega)
        clear hx
        go_wp2
        go_roundw
        case rel => exact ⟨k + 1, S ++ (((x.key ++ ⟨#[61]⟩) ++ x.text) ++ ⟨#[10]⟩), by omega, by go_num, rfl, Lib.hid (by
          rw [HX.out]
          simp only [ba_cat, HS.out]
          simp), by simp only [ByteArray.size_append, z61, z10]; omega, hB.alloc hB.size _, bb.alloc _⟩
        case measure => simp [intOf]; omega
      · have hck := conv_any (hy.up hB) cb
        have hle : m.l.length ≤ k := by omega
        have hk6 : k ≤ 6 := by omega
        have hbz : ByteArray.size ⟨m.bd.toArray⟩ = m.bd.length := bs_size m.bd
        have cr1 := cat_run S ⟨#[10]⟩ (by omega)
        have cr2 := cat_run (S ++ ⟨#[10]⟩) ⟨m.bd.toArray⟩ (by simp only [ByteArray.size_append]; omega)
        have HV : Hid (rv = ((S ++ ⟨#[10]⟩) ++ ⟨m.bd.toArray⟩, 0)) := Lib.hid (by
          rw [HR.out]
          congr 1
          apply ba_inj
          have e := HS.out
          rw [List.take_of_length_le hle] at e
          simp only [ba_cat, e]
          show textL m = _
          rw [HF.out]
          simp)
        clear HS
        go_wp2
        go_ret2
        exact ⟨ret_stup HV.out, hB⟩
set_option maxRecDepth 100000 in
set_option maxHeartbeats 8000000 in
theorem reftext_any40 (m : Mg) (A AB : Option Addr) (c cb : Nat) (hp : m.path.size ≤ 140737488355328) (w : World) (hr : Rd 2 encHd w w.heap.size A m.l) (hy : Rd 1 encY w w.heap.size AB m.bd) (hL : Libs w) :
    Calls Tryd.prog 40 #[msgV m.st m.path A m.l.length c AB m.bd.length cb] w fun e w' => e = .returned (stup (mtxP m)) ∧ Below w.heap.size w w' := by
  obtain ⟨rv, hrv⟩ : ∃ v, v = mtxP m := ⟨_, rfl⟩
  rw [← hrv]
  obtain ⟨wz, hwz⟩ : ∃ W, W = w.alloc (.cells (msgC m.st m.path A m.l.length c AB m.bd.length cb) 32) := ⟨_, rfl⟩
  have bb : Blk wz w.heap.size 32 (msgC m.st m.path A m.l.length c AB m.bd.length cb) := by rw [hwz]; exact Blk.new _ _ _
  have hB : Below w.heap.size w wz := by rw [hwz]; exact (Below.refl _ w).alloc (Nat.le_refl _) _
  have hC := rwrong_any m.st m.path A AB m.l c m.bd.length cb hp wz (hr.up hB)
  have z61 : ByteArray.size ⟨#[61]⟩ = 1 := rfl
  have z10 : ByteArray.size ⟨#[10]⟩ = 1 := rfl
  have z1010 : ByteArray.size ⟨#[10, 10]⟩ = 2 := rfl
  have za : ByteArray.size ⟨#[97, 115, 107, 32]⟩ = 4 := rfl
  have zs : ByteArray.size ⟨#[115, 97, 121, 32]⟩ = 4 := rfl
  obtain ⟨z, hz⟩ : ∃ z, z = wrongP m.st m.path m.l m.bd.length := ⟨_, rfl⟩
  rw [← hz] at hC
  have hzM : z = wrongM m := hz
  clear hz
  go_enter Tryd.func40, Tryd.ntmps40
  go_wp2_with (go_at_call 24; refine Hid.out ?_)
  rw [← hwz]
  unfold Hid
  clear hwz
  refine hC.mono ?_
  rintro e w1 ⟨rfl, hb⟩
  have bb := bb.below hb bb.lt
  have hB := hB.trans (hb.mono hB.size)
  clear hb hC
  have hL := hL.below hB
  have ⟨k0, k1, k2, k3⟩ := bb.c4
  have bl := bb.lt
  by_cases hz0 : z ≠ 0
  · have f1 : (z == 0) = false := by simpa using hz0
    have f2 : (z != 0) = true := by simpa using hz0
    have HV : Hid (rv = (⟨#[]⟩, z)) := Lib.hid (by rw [hrv, mtxP, if_neg (by rw [← hzM]; exact hz0), ← hzM])
    clear hz0 hzM hrv
    go_wp2
    go_ret2
    exact ⟨ret_stup HV.out, hB⟩
  have hz0 := Decidable.not_not.1 hz0
  have hw0 : wrongM m = 0 := by rw [← hzM]; exact hz0
  have HR : Hid (rv = (bs (textL m), 0)) := Lib.hid (by rw [hrv, mtxP, if_pos hw0])
  obtain ⟨_, hl6, hb40, hds⟩ := wrong0.1 hw0
  have HD := Lib.hid hds
  have hst := wf_st hw0
  clear hrv hzM hw0 hds
  subst hz0
  have hz0 : True := trivial
  rcases hst with ⟨h0, hp24⟩ | ⟨h1, h2, he⟩
  · have g0 : (m.st == 0) = true := by simp [h0]
    have g1 : (m.st != 0) = false := by simp [h0]
    have g2 : ¬ (0 : Int) < m.st := by omega
    have ca := cat_run ⟨#[97, 115, 107, 32]⟩ m.path (by omega)
    obtain ⟨F, hF⟩ : ∃ F, F = askB.data.toList ++ 32 :: m.path.data.toList := ⟨_, rfl⟩
    have HF : Hid (textL m = F ++ 10 :: (linesL m.l ++ 10 :: m.bd)) := Lib.hid (by rw [hF, textL, if_pos h0])
    have hS0 : (⟨#[97, 115, 107, 32]⟩ ++ m.path : ByteArray).data.toList = F := by rw [hF, ba_cat]; rfl
    have hz60 : (⟨#[97, 115, 107, 32]⟩ ++ m.path : ByteArray).size ≤ 60 := by simp only [ByteArray.size_append, za]; omega
    clear hF h0
    have HS0 := Lib.hid hS0
    clear hS0
    go_wp2
    go_loopw [5, 26] (fun s i wr => ∃ (k : Nat) (S : ByteArray), k ≤ m.l.length ∧ i = .int .i64 k ∧ s = .string S ∧ Hid (S.data.toList = F ++ linesR (m.l.take k)) ∧ S.size ≤ 60 + 40 * k ∧ Below w.heap.size w wr ∧ Blk wr w.heap.size 32 (msgC m.st m.path A m.l.length c AB m.bd.length cb))
      (fun _ i _ => m.l.length - (intOf i).toNat)
    case atStart => exact ⟨0, _, Nat.zero_le _, rfl, rfl, Lib.hid (by rw [HS0.out]; simp [linesR]), by omega, hB, bb⟩
    case round =>
      clear hB bb HS0 hz0
      obtain ⟨k, S, hk, rfl, rfl, HS, hsz, hB, bb⟩ := hrel
      have ⟨k0, k1, k2, k3⟩ := bb.c4
      have bl := bb.lt
      by_cases hlt : k < m.l.length
      · obtain ⟨b, off, x, rfl, hbB, hx, d0, d1⟩ := (hr.below hB).atH hlt
        have hgx := good_size ((hdsP_iff.1 HD.out).1 x (List.mem_of_getElem? hx))
        obtain ⟨hk8, ht20⟩ := hgx
        have HX := Lib.hid (linesR_snoc hx)
        have cr1 := cat_run S ⟨#[10]⟩ (by omega)
        have cr2 := cat_run (S ++ ⟨#[10]⟩) x.key (by simp only [ByteArray.size_append]; omega)
        have cr3 := cat_run ((S ++ ⟨#[10]⟩) ++ x.key) ⟨#[61]⟩ (by simp only [ByteArray.size_append]; omega)
        have cr4 := cat_run (((S ++ ⟨#[10]⟩) ++ x.key) ++ ⟨#[61]⟩) x.text (by simp only [ByteArray.size_append]; omega)
        clear hx
        go_wp2
        go_roundw
        case rel => exact ⟨k + 1, (((S ++ ⟨#[10]⟩) ++ x.key) ++ ⟨#[61]⟩) ++ x.text, by omega, by go_num, rfl, Lib.hid (by
          rw [HX.out]
          simp only [ba_cat, HS.out]
          simp), by simp only [ByteArray.size_append, z61, z10]; omega, hB.alloc hB.size _, bb.alloc _⟩
        case measure => simp [intOf]; omega
      · have hck := conv_any (hy.up hB) cb
        have hle : m.l.length ≤ k := by omega
        have hk6 : k ≤ 6 := by omega
        have hbz : ByteArray.size ⟨m.bd.toArray⟩ = m.bd.length := bs_size m.bd
        have cr1 := cat_run S ⟨#[10, 10]⟩ (by omega)
        have cr2 := cat_run (S ++ ⟨#[10, 10]⟩) ⟨m.bd.toArray⟩ (by simp only [ByteArray.size_append]; omega)
        have HV : Hid (rv = ((S ++ ⟨#[10, 10]⟩) ++ ⟨m.bd.toArray⟩, 0)) := Lib.hid (by
          rw [HR.out]
          congr 1
          apply ba_inj
          have e := HS.out
          rw [List.take_of_length_le hle] at e
          simp only [ba_cat, e]
          show textL m = _
          rw [HF.out]
          have e2 := lines_turn m.l (10 :: m.bd)
          simp only [List.append_assoc]
          rw [← e2]
          simp)
        clear HS
        go_wp2
        go_ret2
        exact ⟨ret_stup HV.out, hB⟩
  · have g0 : (m.st == 0) = false := by simp; omega
    have g1 : (m.st != 0) = true := by simp; omega
    have g2 : (0 : Int) < m.st := by omega
    have hwf := wf_small h1 h2
    have hiz := itoaB_size hwf
    have HP : Hid (m.path.size = 0) := Lib.hid (by rw [he]; rfl)
    have hpz : m.path.size ≤ 0 := by rw [HP.out]; exact Nat.le_refl _
    have ca := cat_run ⟨#[97, 115, 107, 32]⟩ m.path (by omega)
    have cs := cat_run ⟨#[115, 97, 121, 32]⟩ (itoaB m.st) (by omega)
    obtain ⟨F, hF⟩ : ∃ F, F = sayB.data.toList ++ 32 :: (itoaB m.st).data.toList := ⟨_, rfl⟩
    have HF : Hid (textL m = F ++ 10 :: (linesL m.l ++ 10 :: m.bd)) := Lib.hid (by rw [hF, textL, if_neg (by omega)])
    have hS0 : (⟨#[115, 97, 121, 32]⟩ ++ itoaB m.st : ByteArray).data.toList = F := by rw [hF, ba_cat]; rfl
    have hz60 : (⟨#[115, 97, 121, 32]⟩ ++ itoaB m.st : ByteArray).size ≤ 60 := by simp only [ByteArray.size_append, zs]; omega
    clear hF he
    go_wp2_with (go_at_call 59; refine Hid.out ?_)
    unfold Hid
    refine (itoa_any m.st hwf _ hL.p).mono ?_
    rintro e w2 ⟨rfl, hb⟩
    have bb := bb.below hb bl
    have hB := hB.trans (hb.mono hB.size)
    clear hb hL k0 k1 k2 k3 bl
    have ⟨k0, k1, k2, k3⟩ := bb.c4
    have bl := bb.lt
    have HS0 := Lib.hid hS0
    clear hS0
    go_wp2
    go_loopw [5, 26] (fun s i wr => ∃ (k : Nat) (S : ByteArray), k ≤ m.l.length ∧ i = .int .i64 k ∧ s = .string S ∧ Hid (S.data.toList = F ++ linesR (m.l.take k)) ∧ S.size ≤ 60 + 40 * k ∧ Below w.heap.size w wr ∧ Blk wr w.heap.size 32 (msgC m.st m.path A m.l.length c AB m.bd.length cb))
      (fun _ i _ => m.l.length - (intOf i).toNat)
    case atStart => exact ⟨0, _, Nat.zero_le _, rfl, rfl, Lib.hid (by rw [HS0.out]; simp [linesR]), by omega, hB, bb⟩
    case round =>
      clear hB bb HS0 hz0
      obtain ⟨k, S, hk, rfl, rfl, HS, hsz, hB, bb⟩ := hrel
      have ⟨k0, k1, k2, k3⟩ := bb.c4
      have bl := bb.lt
      by_cases hlt : k < m.l.length
      · obtain ⟨b, off, x, rfl, hbB, hx, d0, d1⟩ := (hr.below hB).atH hlt
        have hgx := good_size ((hdsP_iff.1 HD.out).1 x (List.mem_of_getElem? hx))
        obtain ⟨hk8, ht20⟩ := hgx
        have HX := Lib.hid (linesR_snoc hx)
        have cr1 := cat_run S ⟨#[10]⟩ (by omega)
        have cr2 := cat_run (S ++ ⟨#[10]⟩) x.key (by simp only [ByteArray.size_append]; omega)
        have cr3 := cat_run ((S ++ ⟨#[10]⟩) ++ x.key) ⟨#[61]⟩ (by simp only [ByteArray.size_append]; omega)
        have cr4 := cat_run (((S ++ ⟨#[10]⟩) ++ x.key) ++ ⟨#[61]⟩) x.text (by simp only [ByteArray.size_append]; omega)
        clear hx
        go_wp2
        go_roundw
        case rel => exact ⟨k + 1, (((S ++ ⟨#[10]⟩) ++ x.key) ++ ⟨#[61]⟩) ++ x.text, by omega, by go_num, rfl, Lib.hid (by
          rw [HX.out]
          simp only [ba_cat, HS.out]
          simp), by simp only [ByteArray.size_append, z61, z10]; omega, hB.alloc hB.size _, bb.alloc _⟩
        case measure => simp [intOf]; omega
      · have hck := conv_any (hy.up hB) cb
        have hle : m.l.length ≤ k := by omega
        have hk6 : k ≤ 6 := by omega
        have hbz : ByteArray.size ⟨m.bd.toArray⟩ = m.bd.length := bs_size m.bd
        have cr1 := cat_run S ⟨#[10, 10]⟩ (by omega)
        have cr2 := cat_run (S ++ ⟨#[10, 10]⟩) ⟨m.bd.toArray⟩ (by simp only [ByteArray.size_append]; omega)
        have HV : Hid (rv = ((S ++ ⟨#[10, 10]⟩) ++ ⟨m.bd.toArray⟩, 0)) := Lib.hid (by
          rw [HR.out]
          congr 1
          apply ba_inj
          have e := HS.out
          rw [List.take_of_length_le hle] at e
          simp only [ba_cat, e]
          show textL m = _
          rw [HF.out]
          have e2 := lines_turn m.l (10 :: m.bd)
          simp only [List.append_assoc]
          rw [← e2]
          simp)
        clear HS
        go_wp2
        go_ret2
        exact ⟨ret_stup HV.out, hB⟩
end Go.Proofs.YtmcjgfoaiannoabDoor
