/-
  flat.Lay of a conf whose filters are right: the table that it lays. Condition: the filters are right.
-/
import Derived.Test.YtmcjgfoaiannoaaFConf
import Derived.Deep.RegionLaw
import Derived.Deep.DeepCutAuto
import Derived.Test.YtmcjgfoaiannoaaAllWalk
namespace Go.Proofs.Ytmcjgfoaiannoaa
open Go.RowKit

/-- what filters can, of one call -/
def bsF (l : List Sv) (c : Int) : List Bool := l.map fun x => capB (canP x.k x.n) c
def boolA (l : List Bool) : Array Value := (l.map Value.bool).toArray
/-- behind i filters -/
def bsI (l : List Sv) (c : Int) (i : Nat) : List Bool := (bsF l c).take i ++ List.replicate (l.length - i) false
theorem bsF_len (l : List Sv) (c : Int) : (bsF l c).length = l.length := by simp [bsF]
theorem bsI_len (l : List Sv) (c : Int) (i : Nat) (hi : i ≤ l.length) : (bsI l c i).length = l.length := by
  simp [bsI, bsF_len]
  omega
theorem bsI_all (l : List Sv) (c : Int) : bsI l c l.length = bsF l c := by
  unfold bsI
  rw [Nat.sub_self, List.replicate_zero, List.append_nil, ← bsF_len l c, List.take_length]
theorem bsI_succ {l : List Sv} {c : Int} {i : Nat} {x : Sv} (h : l[i]? = some x) : bsI l c (i + 1) = (bsI l c i).set i (capB (canP x.k x.n) c) := by
  have hi : i < l.length := (List.getElem?_eq_some_iff.1 h).1
  have hb : (bsF l c)[i]? = some (capB (canP x.k x.n) c) := by simp [bsF, h]
  unfold bsI
  rw [take_snoc' hb, show l.length - i = (l.length - (i + 1)) + 1 by omega, List.replicate_succ]
  rw [List.set_append_right _ _ (by simp [bsF_len]; omega)]
  have : i - ((bsF l c).take i).length = 0 := by simp [bsF_len]; omega
  rw [this, List.set_cons_zero, List.append_assoc]
  rfl
theorem made_bools (n : Nat) : (madeCells (Value.cells (.bool false)) (n * 1)).toList = (List.replicate n false).map Value.bool := by
  apply List.ext_getElem
  · simp [madeCells]
  · intro i h1 h2
    simp [madeCells, Value.cells, Nat.mod_one]
theorem blk_of_own {w : World} {base g n : Nat} {e : TypeId} {xs : List Value} (h : w.ownsRow base e 1 (.slice (some ⟨g, 0, none⟩) n n) n xs) : Blk w g e xs.toArray := by
  rcases h.2 with ⟨h0, _⟩ | ⟨g', cap, cur, hv, _, hh, _, _, hc, ht⟩
  · cases h0
  · injection hv with e1 _ e3
    injection e1 with e1
    injection e1 with e1
    subst e1
    subst e3
    have : cur = xs.toArray := by
      have h1 : cur.toList.take (n * 1) = cur.toList := List.take_of_length_le (by simp [hc])
      rw [h1] at ht
      rw [← ht]
    rw [← this]
    exact hh
theorem Blk.setL2 {w : World} {g : Nat} {t : TypeId} {xs : List Value} (h : Blk w g t xs.toArray) (i : Nat) (u : Value) : Blk (w.setCell ⟨g, i, none⟩ u) g t (xs.set i u).toArray := by
  have := h.set_ i u
  simpa using this
theorem Blk.setB {w : World} {g : Nat} {t : TypeId} {bs : List Bool} (h : Blk w g t (boolA bs)) (i : Nat) (b : Bool) : Blk (w.setCell ⟨g, i, none⟩ (.bool b)) g t (boolA (bs.set i b)) := by
  unfold boolA at h ⊢
  rw [List.map_set]
  exact Blk.setL2 h i _
def intA (l : List Nat) : Array Value := (l.map fun (n : Nat) => Value.int .i64 n).toArray
/-- the next filter that can, d places from the end -/
def nxt (bs : List Bool) : Nat → Nat
  | 0 => bs.length
  | d + 1 => if bs[bs.length - (d + 1)]? = some true then bs.length - (d + 1) else nxt bs d
def nsR (bs : List Bool) : Nat → List Nat
  | 0 => [nxt bs 0]
  | d + 1 => nxt bs (d + 1) :: nsR bs d
def nsI (bs : List Bool) (d : Nat) : List Nat := List.replicate (bs.length - d) 0 ++ nsR bs d
theorem nsR_len (bs : List Bool) (d : Nat) : (nsR bs d).length = d + 1 := by
  induction d with
  | zero => rfl
  | succ d ih => simp [nsR, ih]
theorem nsI_len (bs : List Bool) (d : Nat) (h : d ≤ bs.length) : (nsI bs d).length = bs.length + 1 := by
  simp [nsI, nsR_len]
  omega
theorem nsR_head (bs : List Bool) (d : Nat) : (nsR bs d)[0]? = some (nxt bs d) := by
  cases d <;> simp [nsR]
theorem nsI_at (bs : List Bool) (d : Nat) : (nsI bs d)[bs.length - d]? = some (nxt bs d) := by
  unfold nsI
  rw [List.getElem?_append_right (by simp)]
  simp [nsR_head]
theorem nsI_step (bs : List Bool) (d : Nat) (h : d < bs.length) : (nsI bs d).set (bs.length - (d + 1)) (nxt bs (d + 1)) = nsI bs (d + 1) := by
  unfold nsI
  rw [show bs.length - d = (bs.length - (d + 1)) + 1 by omega, List.replicate_succ', List.append_assoc]
  rw [List.set_append_right _ _ (by simp)]
  simp [nsR]
theorem nsI_zero (bs : List Bool) : (List.replicate (bs.length + 1) 0).set bs.length bs.length = nsI bs 0 := by
  unfold nsI
  rw [List.replicate_succ', List.set_append_right _ _ (by simp)]
  simp [nsR, nxt]
theorem made_ints (n : Nat) : (madeCells (Value.cells (.int .i64 0)) (n * 1)).toList = (List.replicate n 0).map fun (n : Nat) => Value.int .i64 n := by
  apply List.ext_getElem
  · simp [madeCells]
  · intro i h1 h2
    simp [madeCells, Value.cells, Nat.mod_one]
theorem Blk.setI {w : World} {g : Nat} {t : TypeId} {ns : List Nat} (h : Blk w g t (intA ns)) (i n : Nat) : Blk (w.setCell ⟨g, i, none⟩ (.int .i64 n)) g t (intA (ns.set i n)) := by
  unfold intA at h ⊢
  rw [List.map_set]
  exact Blk.setL2 h i _
/-- what Lay makes of a conf -/
def LayOut (l : List Sv) (w : World) (e : Ending) (w' : World) : Prop :=
  ∃ K0 K1 K2 K3 : Nat, e = .returned (.agg #[.slice (some ⟨K0, 0, none⟩) l.length l.length, .slice (some ⟨K1, 0, none⟩) l.length l.length, .slice (some ⟨K2, 0, none⟩) l.length l.length, .slice (some ⟨K3, 0, none⟩) (l.length + 1) (l.length + 1)]) ∧
    Blk w' K0 4 (boolA (bsF l 1)) ∧ Blk w' K1 4 (boolA (bsF l 2)) ∧ Blk w' K2 4 (boolA (bsF l 3)) ∧ Blk w' K3 3 (intA (nsI (bsF l 1) l.length)) ∧ Below w.heap.size w w'
theorem infoB : (Try.prog.info? 4).map (fun i => (i.zero, i.size, i.bytes)) = some (some (.bool false), 1, 1) := by kernel_rfl
set_option maxRecDepth 100000 in
set_option maxHeartbeats 4000000 in
theorem lay_any (A1 A2 A3 : Option Addr) (c1 c2 c3 n2 n3 : Nat) (l1 : List Sv) (fl cn wt tm : Int) (w : World) (r1 : Rd 4 encS w w.heap.size A1 l1) (hok : OkL l1) :
    Calls Try.prog 27 #[.agg #[.slice A1 l1.length c1, .slice A2 n2 c2, .slice A3 n3 c3, .int .i64 fl, .int .i64 cn, .int .i64 wt, .int .i64 tm]] w (LayOut l1 w) := by
  obtain ⟨i0', hi0, hz0, hz1, hz2⟩ := info_parts infoB
  have hN := hok.1
  go_enter Try.func27, Try.ntmps27
  obtain ⟨w0, hw0⟩ : ∃ w0, w0 = ((w.alloc (.cells #[.slice A1 l1.length c1, .slice A2 n2 c2, .slice A3 n3 c3, .int .i64 fl, .int .i64 cn, .int .i64 wt, .int .i64 tm] 50)).alloc (.cells #[.slice none 0 0, .slice none 0 0, .slice none 0 0, .slice none 0 0] 56)).alloc (.cells #[.slice none 0 0, .slice none 0 0, .slice none 0 0, .slice none 0 0] 56) := ⟨_, rfl⟩
  have cb : Blk w0 w.heap.size 50 #[.slice A1 l1.length c1, .slice A2 n2 c2, .slice A3 n3 c3, .int .i64 fl, .int .i64 cn, .int .i64 wt, .int .i64 tm] := by rw [hw0]; exact ((Blk.new _ _ _).alloc _).alloc _
  have zb : Blk w0 (w.heap.size + 1) 56 #[.slice none 0 0, .slice none 0 0, .slice none 0 0, .slice none 0 0] := by rw [hw0]; exact (Blk.new' _ _ (by simp) _ _).alloc _
  have tb : Blk w0 (w.heap.size + 1 + 1) 56 #[.slice none 0 0, .slice none 0 0, .slice none 0 0, .slice none 0 0] := by rw [hw0]; exact Blk.new' _ _ (by simp) _ _
  have hB : Below w.heap.size w w0 := by rw [hw0]; exact (((Below.refl _ w).alloc (Nat.le_refl _) _).alloc (by simp) _).alloc (by simp; omega) _
  go_wp2
  rw [← hw0]
  clear hw0
  refine wp_loop_rounds 4 ?_
  rw [rounds_succ]
  go_wp2_with (at_make; refine Hid.out ?_)
  unfold Hid
  obtain ⟨K0, hK0⟩ : ∃ K, K = w0.heap.size := ⟨_, rfl⟩
  refine wpList_make_full _ rfl (.tmp 16) (.tmp 16) 53 rfl w.heap.size 4 i0' (.bool false) 1 Try.underlying53 hi0 hz0 hz1 .i64 .i64 l1.length l1.length l1.length rfl rfl rfl rfl (by rw [hz2]; omega) (by simp only [maxLen]; omega) hB.size ?_
  intro w0a own0 hg0
  rw [made_bools, ← hK0] at own0
  rw [← hK0]
  have b0 : Blk w0a K0 4 (boolA (bsI l1 1 0)) := by
    have := blk_of_own own0
    unfold boolA bsI
    simpa using this
  have hlt0 : w.heap.size + 1 + 1 < K0 := by rw [hK0]; exact tb.lt
  have cb := cb.grown hg0 (by simp)
  have zb := zb.grown hg0 (by simp)
  have tb := tb.grown hg0 (by simp)
  have hB := hB.grown hg0 hB.size (by simp)
  clear own0 hg0 hK0
  have ⟨t0, t1, t2, t3⟩ := tb.c4
  have tf := tb.frz
  have hsz := hz0
  have k0 := cb.c7.1
  have ll := cb.lt
  have lt2 := tb.lt
  obtain ⟨w0b, hw0b⟩ : ∃ w', w' = w0a.setCell ⟨w.heap.size + 1 + 1, 0, none⟩ (.slice (some ⟨K0, 0, none⟩) l1.length l1.length) := ⟨_, rfl⟩
  have cbn : Blk w0b w.heap.size 50 #[.slice A1 l1.length c1, .slice A2 n2 c2, .slice A3 n3 c3, .int .i64 fl, .int .i64 cn, .int .i64 wt, .int .i64 tm] := by rw [hw0b]; exact cb.far (p := ⟨w.heap.size + 1 + 1, 0, none⟩) (by show w.heap.size ≠ w.heap.size + 1 + 1; omega) _
  have zbn : Blk w0b (w.heap.size + 1) 56 #[.slice none 0 0, .slice none 0 0, .slice none 0 0, .slice none 0 0] := by rw [hw0b]; exact zb.far (p := ⟨w.heap.size + 1 + 1, 0, none⟩) (by show w.heap.size + 1 ≠ w.heap.size + 1 + 1; omega) _
  have tbn : Blk w0b (w.heap.size + 1 + 1) 56 #[.slice (some ⟨K0, 0, none⟩) l1.length l1.length, .slice none 0 0, .slice none 0 0, .slice none 0 0] := by rw [hw0b]; exact tb.set_ 0 _
  have b0 : Blk w0b K0 4 (boolA (bsI l1 1 0)) := by rw [hw0b]; exact b0.far (p := ⟨w.heap.size + 1 + 1, 0, none⟩) (by show K0 ≠ w.heap.size + 1 + 1; omega) _
  have hBn : Below w.heap.size w w0b := by rw [hw0b]; exact hB.setCell (p := ⟨w.heap.size + 1 + 1, 0, none⟩) (by show w.heap.size ≤ w.heap.size + 1 + 1; omega) _
  go_wp2
  rw [← hw0b]
  clear hw0b t0 t1 t2 t3 tf k0 ll lt2 cb zb tb hB hsz
  go_loopw [23] (fun i ws => ∃ j : Nat, j ≤ l1.length ∧ i = .int .i64 j ∧ Below w.heap.size w ws ∧ Blk ws w.heap.size 50 #[.slice A1 l1.length c1, .slice A2 n2 c2, .slice A3 n3 c3, .int .i64 fl, .int .i64 cn, .int .i64 wt, .int .i64 tm] ∧ Blk ws (w.heap.size + 1) 56 #[.slice none 0 0, .slice none 0 0, .slice none 0 0, .slice none 0 0] ∧ Blk ws (w.heap.size + 1 + 1) 56 #[.slice (some ⟨K0, 0, none⟩) l1.length l1.length, .slice none 0 0, .slice none 0 0, .slice none 0 0] ∧ Blk ws K0 4 (boolA (bsI l1 1 j)))
    (fun i _ => l1.length - (intOf i).toNat)
  case atStart => exact ⟨0, Nat.zero_le _, rfl, hBn, cbn, zbn, tbn, b0⟩
  case round =>
    clear hBn cbn zbn tbn b0
    obtain ⟨j, hj, rfl, hB, cb, zb, tb, b0⟩ := hrel
    by_cases hlt : j < l1.length
    · obtain ⟨b, off, x, rfl, hbB, hx, d0, d1, d2, d3⟩ := (r1.below hB).atS hlt
      have hS := hok.2 x (List.mem_of_getElem? hx)
      have HX := Lib.hid hx
      clear hx
      obtain ⟨v, hv⟩ : ∃ v : Bool, (bsI l1 1 j)[j]? = some v := ⟨_, List.getElem?_eq_getElem (by rw [bsI_len _ _ _ hj]; exact hlt)⟩
      have dj : wr.cell? ⟨K0, j, none⟩ = some (.bool v) := by rw [b0.cell j]; simp [boolA, hv]
      have t0 := tb.c4.1
      have bf := b0.frz
      have l1_ := tb.lt
      have l2_ := b0.lt
      obtain ⟨wq, hwq⟩ : ∃ wq, wq = wr.alloc (.cells #[.int .i64 x.k, .int .i64 x.n, .string x.key, .string x.text] 60) := ⟨_, rfl⟩
      go_upto_region 10 with fail
      rw [← hwq]
      have qb : Blk wq wr.heap.size 60 #[.int .i64 x.k, .int .i64 x.n, .string x.key, .string x.text] := by rw [hwq]; exact Blk.new _ _ _
      have cb : Blk wq w.heap.size 50 #[.slice (some ⟨b, off, none⟩) l1.length c1, .slice A2 n2 c2, .slice A3 n3 c3, .int .i64 fl, .int .i64 cn, .int .i64 wt, .int .i64 tm] := by rw [hwq]; exact cb.alloc _
      have zb : Blk wq (w.heap.size + 1) 56 #[.slice none 0 0, .slice none 0 0, .slice none 0 0, .slice none 0 0] := by rw [hwq]; exact zb.alloc _
      have tb : Blk wq (w.heap.size + 1 + 1) 56 #[.slice (some ⟨K0, 0, none⟩) l1.length l1.length, .slice none 0 0, .slice none 0 0, .slice none 0 0] := by rw [hwq]; exact tb.alloc _
      have b0 : Blk wq K0 4 (boolA (bsI l1 1 j)) := by rw [hwq]; exact b0.alloc _
      have hB : Below w.heap.size w wq := by rw [hwq]; exact hB.alloc hB.size _
      clear hwq dj t0 bf l1_ l2_ d0 d1 d2 d3
      have dj : wq.cell? ⟨K0, j, none⟩ = some (.bool v) := by rw [b0.cell j]; simp [boolA, hv]
      have tc := tb.c4.1
      have bf := b0.frz
      have l1_ := tb.lt
      have l2_ := b0.lt
      have l3_ := qb.lt
      have ⟨q0, q1, q2, q3⟩ := qb.c4
      go_region_law (first
        | (go_simp
           rw [show IntKind.i64.wrap (1 : Int) = 1 by decide]
           with_reducible refine (capsCan_any hS x.key x.text 1 (by omega) (by omega) _).mono ?_
           rintro e w3 ⟨rfl, hb⟩
           repeat (have hb := below_undrew' hb)
           have cb := cb.below hb cb.lt
           have zb := zb.below hb zb.lt
           have tb := tb.below hb tb.lt
           have b0 := b0.below hb b0.lt
           have hB := hB.trans (hb.mono hB.size)
           have dj : w3.cell? ⟨K0, j, none⟩ = some (.bool v) := by rw [b0.cell j]; simp [boolA, hv]
           have tc := tb.c4.1
           have bf := b0.frz
           have l1_ := tb.lt
           have l2_ := b0.lt))
      all_goals
        go_wp2
        go_roundw
        case rel =>
          refine ⟨j + 1, by omega, by go_num, hB.setCell (p := ⟨K0, j, none⟩) (by show w.heap.size ≤ K0; omega) _, cb.far (p := ⟨K0, j, none⟩) (by show w.heap.size ≠ K0; omega) _, zb.far (p := ⟨K0, j, none⟩) (by show w.heap.size + 1 ≠ K0; omega) _, tb.far (p := ⟨K0, j, none⟩) (by show w.heap.size + 1 + 1 ≠ K0; omega) _, ?_⟩
          rw [bsI_succ HX.out]
          exact b0.setB j _
        case measure => simp [intOf]; omega
    · obtain ⟨N, hN0⟩ : ∃ N : Nat, N = l1.length := ⟨_, rfl⟩
      have hjN : ¬ ((j : Int) < (l1.length : Int)) := by omega
      have hje : j = l1.length := by omega
      have b0 : Blk wr K0 4 (boolA (bsF l1 1)) := by rw [hje, bsI_all] at b0; exact b0
      clear hj hlt hje hN0
      go_wp2
      rw [rounds_succ]
      go_wp2_with (at_make; refine Hid.out ?_)
      unfold Hid
      obtain ⟨K1, hK1⟩ : ∃ K, K = wr.heap.size := ⟨_, rfl⟩
      refine wpList_make_full _ rfl (.tmp 16) (.tmp 16) 53 rfl w.heap.size 4 i0' (.bool false) 1 Try.underlying53 hi0 hz0 hz1 .i64 .i64 l1.length l1.length l1.length rfl rfl rfl rfl (by rw [hz2]; omega) (by simp only [maxLen]; omega) hB.size ?_
      intro w1a own1 hg1
      rw [made_bools, ← hK1] at own1
      rw [← hK1]
      have b1 : Blk w1a K1 4 (boolA (bsI l1 2 0)) := by
        have := blk_of_own own1
        unfold boolA bsI
        simpa using this
      have hlt1 : w.heap.size + 1 + 1 < K1 := by rw [hK1]; exact tb.lt
      have hlt10 : K0 < K1 := by rw [hK1]; exact b0.lt
      have cb := cb.grown hg1 (by simp)
      have zb := zb.grown hg1 (by simp)
      have tb := tb.grown hg1 (by simp)
      have b0 := b0.grown hg1 (by simp)
      have hB := hB.grown hg1 hB.size (by simp)
      clear own1 hg1 hK1
      have ⟨t0, t1, t2, t3⟩ := tb.c4
      have tf := tb.frz
      have hsz := hz0
      have k0 := cb.c7.1
      have ll := cb.lt
      have lt2 := tb.lt
      obtain ⟨w1b, hw1b⟩ : ∃ w', w' = w1a.setCell ⟨w.heap.size + 1 + 1, 1, none⟩ (.slice (some ⟨K1, 0, none⟩) l1.length l1.length) := ⟨_, rfl⟩
      have cbn : Blk w1b w.heap.size 50 #[.slice A1 l1.length c1, .slice A2 n2 c2, .slice A3 n3 c3, .int .i64 fl, .int .i64 cn, .int .i64 wt, .int .i64 tm] := by rw [hw1b]; exact cb.far (p := ⟨w.heap.size + 1 + 1, 1, none⟩) (by show w.heap.size ≠ w.heap.size + 1 + 1; omega) _
      have zbn : Blk w1b (w.heap.size + 1) 56 #[.slice none 0 0, .slice none 0 0, .slice none 0 0, .slice none 0 0] := by rw [hw1b]; exact zb.far (p := ⟨w.heap.size + 1 + 1, 1, none⟩) (by show w.heap.size + 1 ≠ w.heap.size + 1 + 1; omega) _
      have tbn : Blk w1b (w.heap.size + 1 + 1) 56 #[.slice (some ⟨K0, 0, none⟩) l1.length l1.length, .slice (some ⟨K1, 0, none⟩) l1.length l1.length, .slice none 0 0, .slice none 0 0] := by rw [hw1b]; exact tb.set_ 1 _
      have b0 : Blk w1b K0 4 (boolA (bsF l1 1)) := by rw [hw1b]; exact b0.far (p := ⟨w.heap.size + 1 + 1, 1, none⟩) (by show K0 ≠ w.heap.size + 1 + 1; omega) _
      have b1 : Blk w1b K1 4 (boolA (bsI l1 2 0)) := by rw [hw1b]; exact b1.far (p := ⟨w.heap.size + 1 + 1, 1, none⟩) (by show K1 ≠ w.heap.size + 1 + 1; omega) _
      have hBn : Below w.heap.size w w1b := by rw [hw1b]; exact hB.setCell (p := ⟨w.heap.size + 1 + 1, 1, none⟩) (by show w.heap.size ≤ w.heap.size + 1 + 1; omega) _
      go_wp2
      rw [← hw1b]
      clear hw1b t0 t1 t2 t3 tf k0 ll lt2 cb zb tb hB hsz
      go_loopw [23] (fun i ws => ∃ j : Nat, j ≤ l1.length ∧ i = .int .i64 j ∧ Below w.heap.size w ws ∧ Blk ws w.heap.size 50 #[.slice A1 l1.length c1, .slice A2 n2 c2, .slice A3 n3 c3, .int .i64 fl, .int .i64 cn, .int .i64 wt, .int .i64 tm] ∧ Blk ws (w.heap.size + 1) 56 #[.slice none 0 0, .slice none 0 0, .slice none 0 0, .slice none 0 0] ∧ Blk ws (w.heap.size + 1 + 1) 56 #[.slice (some ⟨K0, 0, none⟩) l1.length l1.length, .slice (some ⟨K1, 0, none⟩) l1.length l1.length, .slice none 0 0, .slice none 0 0] ∧ Blk ws K0 4 (boolA (bsF l1 1)) ∧ Blk ws K1 4 (boolA (bsI l1 2 j)))
        (fun i _ => l1.length - (intOf i).toNat)
      case atStart => exact ⟨0, Nat.zero_le _, rfl, hBn, cbn, zbn, tbn, b0, b1⟩
      case round =>
        clear hBn cbn zbn tbn b0 b1
        obtain ⟨j, hj, rfl, hB, cb, zb, tb, b0, b1⟩ := hrel
        by_cases hlt : j < l1.length
        · obtain ⟨b, off, x, rfl, hbB, hx, d0, d1, d2, d3⟩ := (r1.below hB).atS hlt
          have hS := hok.2 x (List.mem_of_getElem? hx)
          have HX := Lib.hid hx
          clear hx
          obtain ⟨v, hv⟩ : ∃ v : Bool, (bsI l1 2 j)[j]? = some v := ⟨_, List.getElem?_eq_getElem (by rw [bsI_len _ _ _ hj]; exact hlt)⟩
          have dj : wr.cell? ⟨K1, j, none⟩ = some (.bool v) := by rw [b1.cell j]; simp [boolA, hv]
          have t1 := tb.c4.2.1
          have bf := b1.frz
          have l1_ := tb.lt
          have l2_ := b1.lt
          obtain ⟨wq, hwq⟩ : ∃ wq, wq = wr.alloc (.cells #[.int .i64 x.k, .int .i64 x.n, .string x.key, .string x.text] 60) := ⟨_, rfl⟩
          go_upto_region 10 with fail
          rw [← hwq]
          have qb : Blk wq wr.heap.size 60 #[.int .i64 x.k, .int .i64 x.n, .string x.key, .string x.text] := by rw [hwq]; exact Blk.new _ _ _
          have cb : Blk wq w.heap.size 50 #[.slice (some ⟨b, off, none⟩) l1.length c1, .slice A2 n2 c2, .slice A3 n3 c3, .int .i64 fl, .int .i64 cn, .int .i64 wt, .int .i64 tm] := by rw [hwq]; exact cb.alloc _
          have zb : Blk wq (w.heap.size + 1) 56 #[.slice none 0 0, .slice none 0 0, .slice none 0 0, .slice none 0 0] := by rw [hwq]; exact zb.alloc _
          have tb : Blk wq (w.heap.size + 1 + 1) 56 #[.slice (some ⟨K0, 0, none⟩) l1.length l1.length, .slice (some ⟨K1, 0, none⟩) l1.length l1.length, .slice none 0 0, .slice none 0 0] := by rw [hwq]; exact tb.alloc _
          have b0 : Blk wq K0 4 (boolA (bsF l1 1)) := by rw [hwq]; exact b0.alloc _
          have b1 : Blk wq K1 4 (boolA (bsI l1 2 j)) := by rw [hwq]; exact b1.alloc _
          have hB : Below w.heap.size w wq := by rw [hwq]; exact hB.alloc hB.size _
          clear hwq dj t1 bf l1_ l2_ d0 d1 d2 d3
          have dj : wq.cell? ⟨K1, j, none⟩ = some (.bool v) := by rw [b1.cell j]; simp [boolA, hv]
          have tc := tb.c4.2.1
          have bf := b1.frz
          have l1_ := tb.lt
          have l2_ := b1.lt
          have l3_ := qb.lt
          have ⟨q0, q1, q2, q3⟩ := qb.c4
          go_region_law (first
            | (go_simp
               rw [show IntKind.i64.wrap (2 : Int) = 2 by decide]
               with_reducible refine (capsCan_any hS x.key x.text 2 (by omega) (by omega) _).mono ?_
               rintro e w3 ⟨rfl, hb⟩
               repeat (have hb := below_undrew' hb)
               have cb := cb.below hb cb.lt
               have zb := zb.below hb zb.lt
               have tb := tb.below hb tb.lt
               have b0 := b0.below hb b0.lt
               have b1 := b1.below hb b1.lt
               have hB := hB.trans (hb.mono hB.size)
               have dj : w3.cell? ⟨K1, j, none⟩ = some (.bool v) := by rw [b1.cell j]; simp [boolA, hv]
               have tc := tb.c4.2.1
               have bf := b1.frz
               have l1_ := tb.lt
               have l2_ := b1.lt))
          all_goals
            go_wp2
            go_roundw
            case rel =>
              refine ⟨j + 1, by omega, by go_num, hB.setCell (p := ⟨K1, j, none⟩) (by show w.heap.size ≤ K1; omega) _, cb.far (p := ⟨K1, j, none⟩) (by show w.heap.size ≠ K1; omega) _, zb.far (p := ⟨K1, j, none⟩) (by show w.heap.size + 1 ≠ K1; omega) _, tb.far (p := ⟨K1, j, none⟩) (by show w.heap.size + 1 + 1 ≠ K1; omega) _, b0.far (p := ⟨K1, j, none⟩) (by show K0 ≠ K1; omega) _, ?_⟩
              rw [bsI_succ HX.out]
              exact b1.setB j _
            case measure => simp [intOf]; omega
        · obtain ⟨N, hN0⟩ : ∃ N : Nat, N = l1.length := ⟨_, rfl⟩
          have hjN : ¬ ((j : Int) < (l1.length : Int)) := by omega
          have hje : j = l1.length := by omega
          have b1 : Blk wr K1 4 (boolA (bsF l1 2)) := by rw [hje, bsI_all] at b1; exact b1
          clear hj hlt hje hN0
          go_wp2
          rw [rounds_succ]
          go_wp2_with (at_make; refine Hid.out ?_)
          unfold Hid
          obtain ⟨K2, hK2⟩ : ∃ K, K = wr.heap.size := ⟨_, rfl⟩
          refine wpList_make_full _ rfl (.tmp 16) (.tmp 16) 53 rfl w.heap.size 4 i0' (.bool false) 1 Try.underlying53 hi0 hz0 hz1 .i64 .i64 l1.length l1.length l1.length rfl rfl rfl rfl (by rw [hz2]; omega) (by simp only [maxLen]; omega) hB.size ?_
          intro w2a own2 hg2
          rw [made_bools, ← hK2] at own2
          rw [← hK2]
          have b2 : Blk w2a K2 4 (boolA (bsI l1 3 0)) := by
            have := blk_of_own own2
            unfold boolA bsI
            simpa using this
          have hlt2 : w.heap.size + 1 + 1 < K2 := by rw [hK2]; exact tb.lt
          have hlt20 : K0 < K2 := by rw [hK2]; exact b0.lt
          have hlt21 : K1 < K2 := by rw [hK2]; exact b1.lt
          have cb := cb.grown hg2 (by simp)
          have zb := zb.grown hg2 (by simp)
          have tb := tb.grown hg2 (by simp)
          have b0 := b0.grown hg2 (by simp)
          have b1 := b1.grown hg2 (by simp)
          have hB := hB.grown hg2 hB.size (by simp)
          clear own2 hg2 hK2
          have ⟨t0, t1, t2, t3⟩ := tb.c4
          have tf := tb.frz
          have hsz := hz0
          have k0 := cb.c7.1
          have ll := cb.lt
          have lt2 := tb.lt
          obtain ⟨w2b, hw2b⟩ : ∃ w', w' = w2a.setCell ⟨w.heap.size + 1 + 1, 2, none⟩ (.slice (some ⟨K2, 0, none⟩) l1.length l1.length) := ⟨_, rfl⟩
          have cbn : Blk w2b w.heap.size 50 #[.slice A1 l1.length c1, .slice A2 n2 c2, .slice A3 n3 c3, .int .i64 fl, .int .i64 cn, .int .i64 wt, .int .i64 tm] := by rw [hw2b]; exact cb.far (p := ⟨w.heap.size + 1 + 1, 2, none⟩) (by show w.heap.size ≠ w.heap.size + 1 + 1; omega) _
          have zbn : Blk w2b (w.heap.size + 1) 56 #[.slice none 0 0, .slice none 0 0, .slice none 0 0, .slice none 0 0] := by rw [hw2b]; exact zb.far (p := ⟨w.heap.size + 1 + 1, 2, none⟩) (by show w.heap.size + 1 ≠ w.heap.size + 1 + 1; omega) _
          have tbn : Blk w2b (w.heap.size + 1 + 1) 56 #[.slice (some ⟨K0, 0, none⟩) l1.length l1.length, .slice (some ⟨K1, 0, none⟩) l1.length l1.length, .slice (some ⟨K2, 0, none⟩) l1.length l1.length, .slice none 0 0] := by rw [hw2b]; exact tb.set_ 2 _
          have b0 : Blk w2b K0 4 (boolA (bsF l1 1)) := by rw [hw2b]; exact b0.far (p := ⟨w.heap.size + 1 + 1, 2, none⟩) (by show K0 ≠ w.heap.size + 1 + 1; omega) _
          have b1 : Blk w2b K1 4 (boolA (bsF l1 2)) := by rw [hw2b]; exact b1.far (p := ⟨w.heap.size + 1 + 1, 2, none⟩) (by show K1 ≠ w.heap.size + 1 + 1; omega) _
          have b2 : Blk w2b K2 4 (boolA (bsI l1 3 0)) := by rw [hw2b]; exact b2.far (p := ⟨w.heap.size + 1 + 1, 2, none⟩) (by show K2 ≠ w.heap.size + 1 + 1; omega) _
          have hBn : Below w.heap.size w w2b := by rw [hw2b]; exact hB.setCell (p := ⟨w.heap.size + 1 + 1, 2, none⟩) (by show w.heap.size ≤ w.heap.size + 1 + 1; omega) _
          go_wp2
          rw [← hw2b]
          clear hw2b t0 t1 t2 t3 tf k0 ll lt2 cb zb tb hB hsz
          go_loopw [23] (fun i ws => ∃ j : Nat, j ≤ l1.length ∧ i = .int .i64 j ∧ Below w.heap.size w ws ∧ Blk ws w.heap.size 50 #[.slice A1 l1.length c1, .slice A2 n2 c2, .slice A3 n3 c3, .int .i64 fl, .int .i64 cn, .int .i64 wt, .int .i64 tm] ∧ Blk ws (w.heap.size + 1) 56 #[.slice none 0 0, .slice none 0 0, .slice none 0 0, .slice none 0 0] ∧ Blk ws (w.heap.size + 1 + 1) 56 #[.slice (some ⟨K0, 0, none⟩) l1.length l1.length, .slice (some ⟨K1, 0, none⟩) l1.length l1.length, .slice (some ⟨K2, 0, none⟩) l1.length l1.length, .slice none 0 0] ∧ Blk ws K0 4 (boolA (bsF l1 1)) ∧ Blk ws K1 4 (boolA (bsF l1 2)) ∧ Blk ws K2 4 (boolA (bsI l1 3 j)))
            (fun i _ => l1.length - (intOf i).toNat)
          case atStart => exact ⟨0, Nat.zero_le _, rfl, hBn, cbn, zbn, tbn, b0, b1, b2⟩
          case round =>
            clear hBn cbn zbn tbn b0 b1 b2
            obtain ⟨j, hj, rfl, hB, cb, zb, tb, b0, b1, b2⟩ := hrel
            by_cases hlt : j < l1.length
            · obtain ⟨b, off, x, rfl, hbB, hx, d0, d1, d2, d3⟩ := (r1.below hB).atS hlt
              have hS := hok.2 x (List.mem_of_getElem? hx)
              have HX := Lib.hid hx
              clear hx
              obtain ⟨v, hv⟩ : ∃ v : Bool, (bsI l1 3 j)[j]? = some v := ⟨_, List.getElem?_eq_getElem (by rw [bsI_len _ _ _ hj]; exact hlt)⟩
              have dj : wr.cell? ⟨K2, j, none⟩ = some (.bool v) := by rw [b2.cell j]; simp [boolA, hv]
              have t2 := tb.c4.2.2.1
              have bf := b2.frz
              have l1_ := tb.lt
              have l2_ := b2.lt
              obtain ⟨wq, hwq⟩ : ∃ wq, wq = wr.alloc (.cells #[.int .i64 x.k, .int .i64 x.n, .string x.key, .string x.text] 60) := ⟨_, rfl⟩
              go_upto_region 10 with fail
              rw [← hwq]
              have qb : Blk wq wr.heap.size 60 #[.int .i64 x.k, .int .i64 x.n, .string x.key, .string x.text] := by rw [hwq]; exact Blk.new _ _ _
              have cb : Blk wq w.heap.size 50 #[.slice (some ⟨b, off, none⟩) l1.length c1, .slice A2 n2 c2, .slice A3 n3 c3, .int .i64 fl, .int .i64 cn, .int .i64 wt, .int .i64 tm] := by rw [hwq]; exact cb.alloc _
              have zb : Blk wq (w.heap.size + 1) 56 #[.slice none 0 0, .slice none 0 0, .slice none 0 0, .slice none 0 0] := by rw [hwq]; exact zb.alloc _
              have tb : Blk wq (w.heap.size + 1 + 1) 56 #[.slice (some ⟨K0, 0, none⟩) l1.length l1.length, .slice (some ⟨K1, 0, none⟩) l1.length l1.length, .slice (some ⟨K2, 0, none⟩) l1.length l1.length, .slice none 0 0] := by rw [hwq]; exact tb.alloc _
              have b0 : Blk wq K0 4 (boolA (bsF l1 1)) := by rw [hwq]; exact b0.alloc _
              have b1 : Blk wq K1 4 (boolA (bsF l1 2)) := by rw [hwq]; exact b1.alloc _
              have b2 : Blk wq K2 4 (boolA (bsI l1 3 j)) := by rw [hwq]; exact b2.alloc _
              have hB : Below w.heap.size w wq := by rw [hwq]; exact hB.alloc hB.size _
              clear hwq dj t2 bf l1_ l2_ d0 d1 d2 d3
              have dj : wq.cell? ⟨K2, j, none⟩ = some (.bool v) := by rw [b2.cell j]; simp [boolA, hv]
              have tc := tb.c4.2.2.1
              have bf := b2.frz
              have l1_ := tb.lt
              have l2_ := b2.lt
              have l3_ := qb.lt
              have ⟨q0, q1, q2, q3⟩ := qb.c4
              go_region_law (first
                | (go_simp
                   rw [show IntKind.i64.wrap (3 : Int) = 3 by decide]
                   with_reducible refine (capsCan_any hS x.key x.text 3 (by omega) (by omega) _).mono ?_
                   rintro e w3 ⟨rfl, hb⟩
                   repeat (have hb := below_undrew' hb)
                   have cb := cb.below hb cb.lt
                   have zb := zb.below hb zb.lt
                   have tb := tb.below hb tb.lt
                   have b0 := b0.below hb b0.lt
                   have b1 := b1.below hb b1.lt
                   have b2 := b2.below hb b2.lt
                   have hB := hB.trans (hb.mono hB.size)
                   have dj : w3.cell? ⟨K2, j, none⟩ = some (.bool v) := by rw [b2.cell j]; simp [boolA, hv]
                   have tc := tb.c4.2.2.1
                   have bf := b2.frz
                   have l1_ := tb.lt
                   have l2_ := b2.lt))
              all_goals
                go_wp2
                go_roundw
                case rel =>
                  refine ⟨j + 1, by omega, by go_num, hB.setCell (p := ⟨K2, j, none⟩) (by show w.heap.size ≤ K2; omega) _, cb.far (p := ⟨K2, j, none⟩) (by show w.heap.size ≠ K2; omega) _, zb.far (p := ⟨K2, j, none⟩) (by show w.heap.size + 1 ≠ K2; omega) _, tb.far (p := ⟨K2, j, none⟩) (by show w.heap.size + 1 + 1 ≠ K2; omega) _, b0.far (p := ⟨K2, j, none⟩) (by show K0 ≠ K2; omega) _, b1.far (p := ⟨K2, j, none⟩) (by show K1 ≠ K2; omega) _, ?_⟩
                  rw [bsI_succ HX.out]
                  exact b2.setB j _
                case measure => simp [intOf]; omega
            · obtain ⟨N, hN0⟩ : ∃ N : Nat, N = l1.length := ⟨_, rfl⟩
              have hjN : ¬ ((j : Int) < (l1.length : Int)) := by omega
              have hje : j = l1.length := by omega
              have b2 : Blk wr K2 4 (boolA (bsF l1 3)) := by rw [hje, bsI_all] at b2; exact b2
              clear hj hlt hje hN0
              go_wp2
              rw [rounds_succ]
              have hwN : IntKind.i64.wrap ((l1.length : Int) + 1) = (l1.length : Int) + 1 := IntWalk.i64_in _ (by omega)
              obtain ⟨j0, hj0, hy0, hy1, hy2⟩ := info_parts infoI
              go_wp2_with (at_make; refine Hid.out ?_)
              unfold Hid
              obtain ⟨K3, hK3⟩ : ∃ K, K = wr.heap.size := ⟨_, rfl⟩
              refine wpList_make_full _ rfl (.tmp 41) (.tmp 41) 44 rfl w.heap.size 3 j0 (.int .i64 0) 1 Try.underlying44 hj0 hy0 hy1 .i64 .i64 _ _ (l1.length + 1) rfl rfl (by simp) (by simp) (by rw [hy2]; omega) (by simp only [maxLen]; omega) hB.size ?_
              intro w3a own3 hg3
              rw [made_ints, ← hK3] at own3
              rw [← hK3]
              have nb : Blk w3a K3 3 (intA (List.replicate (l1.length + 1) 0)) := blk_of_own own3
              have hl3 : w.heap.size + 1 + 1 < K3 := by rw [hK3]; exact tb.lt
              have hl30 : K0 < K3 := by rw [hK3]; exact b0.lt
              have hl31 : K1 < K3 := by rw [hK3]; exact b1.lt
              have hl32 : K2 < K3 := by rw [hK3]; exact b2.lt
              have cb := cb.grown hg3 (by simp)
              have zb := zb.grown hg3 (by simp)
              have tb := tb.grown hg3 (by simp)
              have b0 := b0.grown hg3 (by simp)
              have b1 := b1.grown hg3 (by simp)
              have b2 := b2.grown hg3 (by simp)
              have hB := hB.grown hg3 hB.size (by simp)
              clear own3 hg3 hK3
              have hbl := bsF_len l1 1
              obtain ⟨w3b, hw3b⟩ : ∃ w', w' = (w3a.setCell ⟨w.heap.size + 1 + 1, 3, none⟩ (.slice (some ⟨K3, 0, none⟩) (l1.length + 1) (l1.length + 1))).setCell ⟨K3, l1.length, none⟩ (.int .i64 l1.length) := ⟨_, rfl⟩
              have p3 := fun (i : Nat) => (⟨w.heap.size + 1 + 1, 3, none⟩ : Addr)
              have tb' : Blk w3b (w.heap.size + 1 + 1) 56 #[.slice (some ⟨K0, 0, none⟩) l1.length l1.length, .slice (some ⟨K1, 0, none⟩) l1.length l1.length, .slice (some ⟨K2, 0, none⟩) l1.length l1.length, .slice (some ⟨K3, 0, none⟩) (l1.length + 1) (l1.length + 1)] := by
                rw [hw3b]
                exact (tb.set_ 3 _).far (p := ⟨K3, l1.length, none⟩) (by show w.heap.size + 1 + 1 ≠ K3; omega) _
              have nb' : Blk w3b K3 3 (intA (nsI (bsF l1 1) 0)) := by
                rw [hw3b, ← nsI_zero, hbl]
                exact (nb.far (p := ⟨w.heap.size + 1 + 1, 3, none⟩) (by show K3 ≠ w.heap.size + 1 + 1; omega) _).setI l1.length l1.length
              have cb' : Blk w3b w.heap.size 50 #[.slice A1 l1.length c1, .slice A2 n2 c2, .slice A3 n3 c3, .int .i64 fl, .int .i64 cn, .int .i64 wt, .int .i64 tm] := by rw [hw3b]; exact (cb.far (p := ⟨w.heap.size + 1 + 1, 3, none⟩) (by show w.heap.size ≠ w.heap.size + 1 + 1; omega) _).far (p := ⟨K3, l1.length, none⟩) (by show w.heap.size ≠ K3; omega) _
              have zb' : Blk w3b (w.heap.size + 1) 56 #[.slice none 0 0, .slice none 0 0, .slice none 0 0, .slice none 0 0] := by rw [hw3b]; exact (zb.far (p := ⟨w.heap.size + 1 + 1, 3, none⟩) (by show w.heap.size + 1 ≠ w.heap.size + 1 + 1; omega) _).far (p := ⟨K3, l1.length, none⟩) (by show w.heap.size + 1 ≠ K3; omega) _
              have b0' : Blk w3b K0 4 (boolA (bsF l1 1)) := by rw [hw3b]; exact (b0.far (p := ⟨w.heap.size + 1 + 1, 3, none⟩) (by show K0 ≠ w.heap.size + 1 + 1; omega) _).far (p := ⟨K3, l1.length, none⟩) (by show K0 ≠ K3; omega) _
              have b1' : Blk w3b K1 4 (boolA (bsF l1 2)) := by rw [hw3b]; exact (b1.far (p := ⟨w.heap.size + 1 + 1, 3, none⟩) (by show K1 ≠ w.heap.size + 1 + 1; omega) _).far (p := ⟨K3, l1.length, none⟩) (by show K1 ≠ K3; omega) _
              have b2' : Blk w3b K2 4 (boolA (bsF l1 3)) := by rw [hw3b]; exact (b2.far (p := ⟨w.heap.size + 1 + 1, 3, none⟩) (by show K2 ≠ w.heap.size + 1 + 1; omega) _).far (p := ⟨K3, l1.length, none⟩) (by show K2 ≠ K3; omega) _
              have hB' : Below w.heap.size w w3b := by rw [hw3b]; exact (hB.setCell (p := ⟨w.heap.size + 1 + 1, 3, none⟩) (by show w.heap.size ≤ w.heap.size + 1 + 1; omega) _).setCell (p := ⟨K3, l1.length, none⟩) (by show w.heap.size ≤ K3; omega) _
              have ⟨t0, t1, t2, t3⟩ := tb.c4
              have tf := tb.frz
              have nf := nb.frz
              have dn : w3a.cell? ⟨K3, l1.length, none⟩ = some (.int .i64 0) := by rw [nb.cell l1.length]; simp [intA]
              have lt2 := tb.lt
              have lt3 := nb.lt
              clear p3
              go_wp2
              rw [← hw3b]
              clear hw3b t0 t1 t2 t3 tf nf dn lt2 lt3 cb zb tb nb b0 b1 b2 hB
              go_loopw [8] (fun i ws => ∃ d : Nat, d ≤ l1.length ∧ i = .int .i64 ((l1.length : Int) - 1 - d) ∧ Below w.heap.size w ws ∧ Blk ws w.heap.size 50 #[.slice A1 l1.length c1, .slice A2 n2 c2, .slice A3 n3 c3, .int .i64 fl, .int .i64 cn, .int .i64 wt, .int .i64 tm] ∧ Blk ws (w.heap.size + 1) 56 #[.slice none 0 0, .slice none 0 0, .slice none 0 0, .slice none 0 0] ∧ Blk ws (w.heap.size + 1 + 1) 56 #[.slice (some ⟨K0, 0, none⟩) l1.length l1.length, .slice (some ⟨K1, 0, none⟩) l1.length l1.length, .slice (some ⟨K2, 0, none⟩) l1.length l1.length, .slice (some ⟨K3, 0, none⟩) (l1.length + 1) (l1.length + 1)] ∧ Blk ws K0 4 (boolA (bsF l1 1)) ∧ Blk ws K1 4 (boolA (bsF l1 2)) ∧ Blk ws K2 4 (boolA (bsF l1 3)) ∧ Blk ws K3 3 (intA (nsI (bsF l1 1) d)))
                (fun i _ => (intOf i + 1).toNat)
              case atStart => exact ⟨0, Nat.zero_le _, by simp, hB', cb', zb', tb', b0', b1', b2', nb'⟩
              case round =>
                clear hB' cb' zb' tb' b0' b1' b2' nb'
                obtain ⟨d, hd, rfl, hB, cb, zb, tb, b0, b1, b2, nb⟩ := hrel
                by_cases hlt : d < l1.length
                · obtain ⟨p, hp⟩ : ∃ p : Nat, p + d + 1 = l1.length := ⟨l1.length - 1 - d, by omega⟩
                  have hpi : (l1.length : Int) - 1 - d = (p : Int) := by omega
                  have e1 : (bsF l1 1).length - d = p + 1 := by omega
                  have e2 : (bsF l1 1).length - (d + 1) = p := by omega
                  have at1 := nsI_at (bsF l1 1) d
                  have stp := nsI_step (bsF l1 1) d (by omega)
                  have hnx : nxt (bsF l1 1) (d + 1) = if (bsF l1 1)[p]? = some true then p else nxt (bsF l1 1) d := by simp only [nxt, e2]
                  rw [e1] at at1
                  rw [e2] at stp
                  rw [hpi]
                  have hnl := nsI_len (bsF l1 1) d (by omega)
                  obtain ⟨v0, hv0⟩ : ∃ v, (nsI (bsF l1 1) d)[p]? = some v := ⟨_, List.getElem?_eq_getElem (by omega)⟩
                  obtain ⟨bv, hbv⟩ : ∃ v, (bsF l1 1)[p]? = some v := ⟨_, List.getElem?_eq_getElem (by omega)⟩
                  obtain ⟨X, hX⟩ : ∃ X, nxt (bsF l1 1) d = X := ⟨_, rfl⟩
                  rw [hX] at at1 hnx
                  have dp : wr.cell? ⟨K3, p, none⟩ = some (.int .i64 v0) := by rw [nb.cell p]; simp [intA, hv0]
                  have dq : wr.cell? ⟨K3, p + 1, none⟩ = some (.int .i64 X) := by rw [nb.cell (p + 1)]; simp [intA, at1]
                  have db : wr.cell? ⟨K0, p, none⟩ = some (.bool bv) := by rw [b0.cell p]; simp [boolA, hbv]
                  have ⟨t0, t1, t2, t3⟩ := tb.c4
                  have nf := nb.frz
                  have lt2 := tb.lt
                  have lt3 := nb.lt
                  have lt0 := b0.lt
                  have hp1 : (p : Int) + 1 ≤ (l1.length : Int) := by omega
                  have hp0 : (p : Int) < (l1.length : Int) := by omega
                  have hwp : IntKind.i64.wrap ((p : Int) + 1) = (p : Int) + 1 := IntWalk.i64_in _ (by omega)
                  have hn30 : ¬ K0 = K3 := by omega
                  have hn32 : ¬ w.heap.size + 1 + 1 = K3 := by omega
                  have HX := Lib.hid hnx
                  have HS := Lib.hid stp
                  have HBV := Lib.hid hbv
                  clear hnx stp hbv hX at1 hv0 e1 e2 hpi hbl
                  go_upto_region 18 with fail
                  go_region
                  all_goals
                    cases bv
                    · have hxe : nxt (bsF l1 1) (d + 1) = X := by rw [HX.out, HBV.out]; simp
                      have nb' := nb.setI p X
                      rw [← hxe, HS.out, hxe] at nb'
                      go_wp2
                      go_roundw
                      case rel =>
                        exact ⟨d + 1, by omega, by rw [show ((l1.length : Int) - 1 - ((d + 1 : Nat) : Int)) = (p : Int) - 1 by omega], (hB.setCell (p := ⟨K3, p, none⟩) (by show w.heap.size ≤ K3; omega) _).drew, cb.far (p := ⟨K3, p, none⟩) (by show w.heap.size ≠ K3; omega) _, zb.far (p := ⟨K3, p, none⟩) (by show w.heap.size + 1 ≠ K3; omega) _, tb.far (p := ⟨K3, p, none⟩) (by show w.heap.size + 1 + 1 ≠ K3; omega) _, b0.far (p := ⟨K3, p, none⟩) (by show K0 ≠ K3; omega) _, b1.far (p := ⟨K3, p, none⟩) (by show K1 ≠ K3; omega) _, b2.far (p := ⟨K3, p, none⟩) (by show K2 ≠ K3; omega) _, nb'⟩
                      case measure => simp [intOf] <;> omega
                    · have hxe : nxt (bsF l1 1) (d + 1) = p := by rw [HX.out, HBV.out]; simp
                      have nb' := (nb.setI p X).setI p p
                      rw [List.set_set, ← hxe] at nb'
                      rw [hxe] at nb'
                      have hst := HS.out
                      rw [hxe] at hst
                      rw [hst] at nb'
                      go_wp2
                      go_roundw
                      case rel =>
                        exact ⟨d + 1, by omega, by rw [show ((l1.length : Int) - 1 - ((d + 1 : Nat) : Int)) = (p : Int) - 1 by omega], ((hB.setCell (p := ⟨K3, p, none⟩) (by show w.heap.size ≤ K3; omega) _).setCell (p := ⟨K3, p, none⟩) (by show w.heap.size ≤ K3; omega) _).drew, (cb.far (p := ⟨K3, p, none⟩) (by show w.heap.size ≠ K3; omega) _).far (p := ⟨K3, p, none⟩) (by show w.heap.size ≠ K3; omega) _, (zb.far (p := ⟨K3, p, none⟩) (by show w.heap.size + 1 ≠ K3; omega) _).far (p := ⟨K3, p, none⟩) (by show w.heap.size + 1 ≠ K3; omega) _, (tb.far (p := ⟨K3, p, none⟩) (by show w.heap.size + 1 + 1 ≠ K3; omega) _).far (p := ⟨K3, p, none⟩) (by show w.heap.size + 1 + 1 ≠ K3; omega) _, (b0.far (p := ⟨K3, p, none⟩) (by show K0 ≠ K3; omega) _).far (p := ⟨K3, p, none⟩) (by show K0 ≠ K3; omega) _, (b1.far (p := ⟨K3, p, none⟩) (by show K1 ≠ K3; omega) _).far (p := ⟨K3, p, none⟩) (by show K1 ≠ K3; omega) _, (b2.far (p := ⟨K3, p, none⟩) (by show K2 ≠ K3; omega) _).far (p := ⟨K3, p, none⟩) (by show K2 ≠ K3; omega) _, nb'⟩
                      case measure => simp [intOf] <;> omega
                · have hde : d = l1.length := by omega
                  have nb : Blk wr K3 3 (intA (nsI (bsF l1 1) l1.length)) := by rw [← hde]; exact nb
                  have hng : ¬ ((l1.length : Int) - 1 - (d : Int) ≥ 0) := by omega
                  have hng2 : (l1.length : Int) - 1 - (d : Int) < 0 := by omega
                  clear hde hlt hd
                  have ⟨t0, t1, t2, t3⟩ := tb.c4
                  have ⟨z0, z1, z2, z3⟩ := zb.c4
                  have zf := zb.frz
                  have lz := zb.lt
                  have lt2 := tb.lt
                  go_wp2
                  refine bodyPost_ret (v := .agg #[.slice (some ⟨K0, 0, none⟩) l1.length l1.length, .slice (some ⟨K1, 0, none⟩) l1.length l1.length, .slice (some ⟨K2, 0, none⟩) l1.length l1.length, .slice (some ⟨K3, 0, none⟩) (l1.length + 1) (l1.length + 1)]) (by simp only [results, Try.results27]; go_simp) rfl ⟨K0, K1, K2, K3, rfl, ?_, ?_, ?_, ?_, ?_⟩
                  · iterate 4 refine Blk.far ?_ (by show K0 ≠ w.heap.size + 1; omega) _
                    exact b0
                  · iterate 4 refine Blk.far ?_ (by show K1 ≠ w.heap.size + 1; omega) _
                    exact b1
                  · iterate 4 refine Blk.far ?_ (by show K2 ≠ w.heap.size + 1; omega) _
                    exact b2
                  · iterate 4 refine Blk.far ?_ (by show K3 ≠ w.heap.size + 1; omega) _
                    exact nb
                  · iterate 4 refine Below.setCell ?_ (by show w.heap.size ≤ w.heap.size + 1; omega) _
                    exact hB
end Go.Proofs.Ytmcjgfoaiannoaa
