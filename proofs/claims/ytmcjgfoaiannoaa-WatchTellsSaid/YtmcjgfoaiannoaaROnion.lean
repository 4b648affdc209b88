/-
  The reference's Onion: it says what watch's says. Condition: the length bound that the reach pays.
-/
import Derived.Test.YtmcjgfoaiannoaaOnion
namespace Go.Proofs.Ytmcjgfoaiannoaa
open Go.RowKit

theorem below_set3 {a w : World} (h : Below a.heap.size a w) (u0 u1 u2 : Value) (o : Obj) : Below a.heap.size a ((((w.setCell ⟨a.heap.size, 0, none⟩ u0).setCell ⟨a.heap.size, 1, none⟩ u1).setCell ⟨a.heap.size, 2, none⟩ u2).alloc o) :=
  have h3 := ((h.setCell (p := ⟨a.heap.size, 0, none⟩) (Nat.le_refl _) u0).setCell (p := ⟨a.heap.size, 1, none⟩) (Nat.le_refl _) u1).setCell (p := ⟨a.heap.size, 2, none⟩) (Nat.le_refl _) u2
  h3.alloc h3.size o
set_option maxRecDepth 100000 in
set_option maxHeartbeats 8000000 in
theorem ronion_any (A : Option Addr) (c : Nat) (l : List (Int × Int × Int)) (w : World) (hr : Rd 3 encH w w.heap.size A l) (hn : l.length * 24 ≤ 140737488355328) :
    Calls Try.prog 45 #[.slice A l.length c] w fun e w' => e = .returned (.bool (onW l).isSome) ∧ Below w.heap.size w w' := by
  go_enter Try.func45, Try.ntmps45
  go_wp2
  go_loopw [10] (fun i wr => ∃ (k : Nat) (s t o u : Int), k ≤ l.length ∧ i = .int .i64 k ∧ 1 ≤ s ∧ (s ≤ 3 → u = t) ∧ Blk wr w.heap.size 82 #[.int .i64 o, .int .i64 u, .int .i64 s] ∧ Hid (onW (l.take k) = some (s, t)) ∧ Below w.heap.size w wr)
    (fun i _ => l.length - (intOf i).toNat)
  case atStart => exact ⟨0, 1, -1, 0, -1, Nat.zero_le _, rfl, by omega, fun _ => rfl, Blk.new _ _ _, Lib.hid rfl, (Below.refl _ _).alloc (Nat.le_refl _) _⟩
  case round =>
    obtain ⟨k, s, t, o, u, hk, rfl, hs1, hu, hbk, HO, hB⟩ := hrel
    have e3 := hbk.c3
    obtain ⟨e0, e1, e2⟩ := e3
    have ef := hbk.frz
    have el := hbk.lt
    by_cases hlt : k < l.length
    · obtain ⟨b, off, x, y, z, rfl, hbB, hx, d0, d1, d2⟩ := (hr.below hB).atH hlt
      have HS := Lib.hid (show onW (l.take (k + 1)) = stepW (s, t) (x, y, z) by rw [take_snoc' hx, onW_snoc, HO.out]; rfl)
      clear hx
      by_cases z5 : z = 5
      · subst z5
        by_cases s1 : s = 1
        · subst s1
          have hst : stepW (1, t) (x, y, 5) = some (2, 6) := by
            first
            | (simp [stepW]; done)
            | (simp [stepW]; omega)
            | (simp only [stepW]
               repeat' split
               all_goals first | rfl | (exfalso; omega) | (exfalso; simp_all; done) | (exfalso; simp_all; omega))
          have HT := Lib.hid (HS.out.trans hst)
          clear hst HS
          go_wp2
          go_roundw
          case rel =>
            refine ⟨k + 1, 2, 6, 0, 6, by omega, by go_num, by omega, fun _ => rfl, ?_, HT, ?_⟩
            · exact (((hbk.set_ 0 _).set_ 1 _).set_ 2 _).alloc _
            · exact below_set3 hB _ _ _ _
          case measure => simp [intOf] <;> omega
        by_cases s2 : s = 2
        · subst s2
          have hst : stepW (2, t) (x, y, 5) = some (2, 6) := by
            first
            | (simp [stepW]; done)
            | (simp [stepW]; omega)
            | (simp only [stepW]
               repeat' split
               all_goals first | rfl | (exfalso; omega) | (exfalso; simp_all; done) | (exfalso; simp_all; omega))
          have HT := Lib.hid (HS.out.trans hst)
          clear hst HS
          go_wp2
          go_roundw
          case rel =>
            refine ⟨k + 1, 2, 6, 0, 6, by omega, by go_num, by omega, fun _ => rfl, ?_, HT, ?_⟩
            · exact (((hbk.set_ 0 _).set_ 1 _).set_ 2 _).alloc _
            · exact below_set3 hB _ _ _ _
          case measure => simp [intOf] <;> omega
        · skip
          have hst : stepW (s, t) (x, y, 5) = none := by
            first
            | (simp [stepW]; done)
            | (simp [stepW]; omega)
            | (simp only [stepW]
               repeat' split
               all_goals first | rfl | (exfalso; omega) | (exfalso; simp_all; done) | (exfalso; simp_all; omega))
          have qs1 : (s == 1) = false := by simp; omega
          have ps1 : (s != 1) = true := by simp; omega
          have qs2 : (s == 2) = false := by simp; omega
          have ps2 : (s != 2) = true := by simp; omega
          have HT := Lib.hid (onW_stop (HS.out.trans hst))
          clear hst HS
          go_wp2
          all_goals
            go_ret
            rw [HT.out]
            exact ⟨rfl, hB.alloc hB.size _⟩
      have qz5 : (z == 5) = false := by simp; omega
      by_cases zs : z < s
      · by_cases s2 : s = 2
        · subst s2
          have hu := hu (by omega)
          subst u
          by_cases z1 : z = 1
          · subst z1
            by_cases yt : y ≤ t
            · skip
              have hst : stepW (2, t) (x, y, 1) = none := by
                first
                | (simp [stepW]; done)
                | (simp [stepW]; omega)
                | (simp only [stepW]
                   repeat' split
                   all_goals first | rfl | (exfalso; omega) | (exfalso; simp_all; done) | (exfalso; simp_all; omega))
              have HT := Lib.hid (onW_stop (HS.out.trans hst))
              clear hst HS
              go_wp2
              all_goals
                go_ret
                rw [HT.out]
                exact ⟨rfl, hB.alloc hB.size _⟩
            · skip
              have hst : stepW (2, t) (x, y, 1) = some (1, y) := by
                first
                | (simp [stepW]; done)
                | (simp [stepW]; omega)
                | (simp only [stepW]
                   repeat' split
                   all_goals first | rfl | (exfalso; omega) | (exfalso; simp_all; done) | (exfalso; simp_all; omega))
              have HT := Lib.hid (HS.out.trans hst)
              clear hst HS
              go_wp2
              go_roundw
              case rel =>
                refine ⟨k + 1, 1, y, x, y, by omega, by go_num, by omega, fun _ => rfl, ?_, HT, ?_⟩
                · exact (((hbk.set_ 0 _).set_ 1 _).set_ 2 _).alloc _
                · exact below_set3 hB _ _ _ _
              case measure => simp [intOf] <;> omega
          · skip
            have hst : stepW (2, t) (x, y, z) = none := by
              first
              | (simp [stepW]; done)
              | (simp [stepW]; omega)
              | (simp only [stepW]
                 repeat' split
                 all_goals first | rfl | (exfalso; omega) | (exfalso; simp_all; done) | (exfalso; simp_all; omega))
            have qz1 : (z == 1) = false := by simp; omega
            have pz1 : (z != 1) = true := by simp; omega
            have HT := Lib.hid (onW_stop (HS.out.trans hst))
            clear hst HS
            go_wp2
            all_goals
              go_ret
              rw [HT.out]
              exact ⟨rfl, hB.alloc hB.size _⟩
        · skip
          have hst : stepW (s, t) (x, y, z) = none := by
            first
            | (simp [stepW]; done)
            | (simp [stepW]; omega)
            | (simp only [stepW]
               repeat' split
               all_goals first | rfl | (exfalso; omega) | (exfalso; simp_all; done) | (exfalso; simp_all; omega))
          have qs2 : (s == 2) = false := by simp; omega
          have ps2 : (s != 2) = true := by simp; omega
          have HT := Lib.hid (onW_stop (HS.out.trans hst))
          clear hst HS
          go_wp2
          all_goals
            go_ret
            rw [HT.out]
            exact ⟨rfl, hB.alloc hB.size _⟩
      by_cases z1 : z = 1
      · have s1 : s = 1 := by omega
        subst s
        subst z
        have hu := hu (by omega)
        subst u
        by_cases yt : y ≤ t
        · skip
          have hst : stepW (1, t) (x, y, 1) = none := by
            first
            | (simp [stepW]; done)
            | (simp [stepW]; omega)
            | (simp only [stepW]
               repeat' split
               all_goals first | rfl | (exfalso; omega) | (exfalso; simp_all; done) | (exfalso; simp_all; omega))
          have HT := Lib.hid (onW_stop (HS.out.trans hst))
          clear hst HS
          go_wp2
          all_goals
            go_ret
            rw [HT.out]
            exact ⟨rfl, hB.alloc hB.size _⟩
        · skip
          have hst : stepW (1, t) (x, y, 1) = some (1, y) := by
            first
            | (simp [stepW]; done)
            | (simp [stepW]; omega)
            | (simp only [stepW]
               repeat' split
               all_goals first | rfl | (exfalso; omega) | (exfalso; simp_all; done) | (exfalso; simp_all; omega))
          have HT := Lib.hid (HS.out.trans hst)
          clear hst HS
          go_wp2
          go_roundw
          case rel =>
            refine ⟨k + 1, 1, y, x, y, by omega, by go_num, by omega, fun _ => rfl, ?_, HT, ?_⟩
            · exact (((hbk.set_ 0 _).set_ 1 _).set_ 2 _).alloc _
            · exact below_set3 hB _ _ _ _
          case measure => simp [intOf] <;> omega
      by_cases z2 : z = 2
      · by_cases s1 : s = 1
        · skip
          subst s
          subst z
          have hu := hu (by omega)
          subst u
          by_cases yt : 6 ≤ y
          · skip
            have hst : stepW (1, t) (x, y, 2) = none := by
              first
              | (simp [stepW]; done)
              | (simp [stepW]; omega)
              | (simp only [stepW]
                 repeat' split
                 all_goals first | rfl | (exfalso; omega) | (exfalso; simp_all; done) | (exfalso; simp_all; omega))
            have HT := Lib.hid (onW_stop (HS.out.trans hst))
            clear hst HS
            go_wp2
            all_goals
              go_ret
              rw [HT.out]
              exact ⟨rfl, hB.alloc hB.size _⟩
          · skip
            have hst : stepW (1, t) (x, y, 2) = some (2, y) := by
              first
              | (simp [stepW]; done)
              | (simp [stepW]; omega)
              | (simp only [stepW]
                 repeat' split
                 all_goals first | rfl | (exfalso; omega) | (exfalso; simp_all; done) | (exfalso; simp_all; omega))
            have HT := Lib.hid (HS.out.trans hst)
            clear hst HS
            go_wp2
            go_roundw
            case rel =>
              refine ⟨k + 1, 2, y, x, y, by omega, by go_num, by omega, fun _ => rfl, ?_, HT, ?_⟩
              · exact (((hbk.set_ 0 _).set_ 1 _).set_ 2 _).alloc _
              · exact below_set3 hB _ _ _ _
            case measure => simp [intOf] <;> omega
        · have s2 : s = 2 := by omega
          subst s
          subst z
          have hu := hu (by omega)
          subst u
          by_cases yt : t ≤ y
          · skip
            have hst : stepW (2, t) (x, y, 2) = none := by
              first
              | (simp [stepW]; done)
              | (simp [stepW]; omega)
              | (simp only [stepW]
                 repeat' split
                 all_goals first | rfl | (exfalso; omega) | (exfalso; simp_all; done) | (exfalso; simp_all; omega))
            have HT := Lib.hid (onW_stop (HS.out.trans hst))
            clear hst HS
            go_wp2
            all_goals
              go_ret
              rw [HT.out]
              exact ⟨rfl, hB.alloc hB.size _⟩
          · skip
            have hst : stepW (2, t) (x, y, 2) = some (2, y) := by
              first
              | (simp [stepW]; done)
              | (simp [stepW]; omega)
              | (simp only [stepW]
                 repeat' split
                 all_goals first | rfl | (exfalso; omega) | (exfalso; simp_all; done) | (exfalso; simp_all; omega))
            have HT := Lib.hid (HS.out.trans hst)
            clear hst HS
            go_wp2
            go_roundw
            case rel =>
              refine ⟨k + 1, 2, y, x, y, by omega, by go_num, by omega, fun _ => rfl, ?_, HT, ?_⟩
              · exact (((hbk.set_ 0 _).set_ 1 _).set_ 2 _).alloc _
              · exact below_set3 hB _ _ _ _
            case measure => simp [intOf] <;> omega
      by_cases z3 : z = 3
      · by_cases s1 : s = 1
        · skip
          subst s
          subst z
          have hu := hu (by omega)
          subst u
          by_cases yt : 6 ≤ y
          · skip
            have hst : stepW (1, t) (x, y, 3) = none := by
              first
              | (simp [stepW]; done)
              | (simp [stepW]; omega)
              | (simp only [stepW]
                 repeat' split
                 all_goals first | rfl | (exfalso; omega) | (exfalso; simp_all; done) | (exfalso; simp_all; omega))
            have HT := Lib.hid (onW_stop (HS.out.trans hst))
            clear hst HS
            go_wp2
            all_goals
              go_ret
              rw [HT.out]
              exact ⟨rfl, hB.alloc hB.size _⟩
          · skip
            have hst : stepW (1, t) (x, y, 3) = some (3, y) := by
              first
              | (simp [stepW]; done)
              | (simp [stepW]; omega)
              | (simp only [stepW]
                 repeat' split
                 all_goals first | rfl | (exfalso; omega) | (exfalso; simp_all; done) | (exfalso; simp_all; omega))
            have HT := Lib.hid (HS.out.trans hst)
            clear hst HS
            go_wp2
            go_roundw
            case rel =>
              refine ⟨k + 1, 3, y, x, y, by omega, by go_num, by omega, fun _ => rfl, ?_, HT, ?_⟩
              · exact (((hbk.set_ 0 _).set_ 1 _).set_ 2 _).alloc _
              · exact below_set3 hB _ _ _ _
            case measure => simp [intOf] <;> omega
        by_cases s2 : s = 2
        · skip
          subst s
          subst z
          have hu := hu (by omega)
          subst u
          by_cases yt : 6 ≤ y
          · skip
            have hst : stepW (2, t) (x, y, 3) = none := by
              first
              | (simp [stepW]; done)
              | (simp [stepW]; omega)
              | (simp only [stepW]
                 repeat' split
                 all_goals first | rfl | (exfalso; omega) | (exfalso; simp_all; done) | (exfalso; simp_all; omega))
            have HT := Lib.hid (onW_stop (HS.out.trans hst))
            clear hst HS
            go_wp2
            all_goals
              go_ret
              rw [HT.out]
              exact ⟨rfl, hB.alloc hB.size _⟩
          · skip
            have hst : stepW (2, t) (x, y, 3) = some (3, y) := by
              first
              | (simp [stepW]; done)
              | (simp [stepW]; omega)
              | (simp only [stepW]
                 repeat' split
                 all_goals first | rfl | (exfalso; omega) | (exfalso; simp_all; done) | (exfalso; simp_all; omega))
            have HT := Lib.hid (HS.out.trans hst)
            clear hst HS
            go_wp2
            go_roundw
            case rel =>
              refine ⟨k + 1, 3, y, x, y, by omega, by go_num, by omega, fun _ => rfl, ?_, HT, ?_⟩
              · exact (((hbk.set_ 0 _).set_ 1 _).set_ 2 _).alloc _
              · exact below_set3 hB _ _ _ _
            case measure => simp [intOf] <;> omega
        · have s3 : s = 3 := by omega
          subst s
          subst z
          have hu := hu (by omega)
          subst u
          by_cases yt : t ≤ y
          · skip
            have hst : stepW (3, t) (x, y, 3) = none := by
              first
              | (simp [stepW]; done)
              | (simp [stepW]; omega)
              | (simp only [stepW]
                 repeat' split
                 all_goals first | rfl | (exfalso; omega) | (exfalso; simp_all; done) | (exfalso; simp_all; omega))
            have HT := Lib.hid (onW_stop (HS.out.trans hst))
            clear hst HS
            go_wp2
            all_goals
              go_ret
              rw [HT.out]
              exact ⟨rfl, hB.alloc hB.size _⟩
          · skip
            have hst : stepW (3, t) (x, y, 3) = some (3, y) := by
              first
              | (simp [stepW]; done)
              | (simp [stepW]; omega)
              | (simp only [stepW]
                 repeat' split
                 all_goals first | rfl | (exfalso; omega) | (exfalso; simp_all; done) | (exfalso; simp_all; omega))
            have HT := Lib.hid (HS.out.trans hst)
            clear hst HS
            go_wp2
            go_roundw
            case rel =>
              refine ⟨k + 1, 3, y, x, y, by omega, by go_num, by omega, fun _ => rfl, ?_, HT, ?_⟩
              · exact (((hbk.set_ 0 _).set_ 1 _).set_ 2 _).alloc _
              · exact below_set3 hB _ _ _ _
            case measure => simp [intOf] <;> omega
      obtain ⟨T, hT⟩ : ∃ T, T = if s < z then 6 else t := ⟨_, rfl⟩
      have hst : stepW (s, t) (x, y, z) = some (z, T) := by
        simp only [stepW]
        rw [if_neg z5, if_neg zs, if_neg z1, if_neg (by omega), hT]
      have qz1 : (z == 1) = false := by simp; omega
      have pz1 : (z != 1) = true := by simp; omega
      have qz2 : (z == 2) = false := by simp; omega
      have pz2 : (z != 2) = true := by simp; omega
      have qz3 : (z == 3) = false := by simp; omega
      have pz3 : (z != 3) = true := by simp; omega
      have HT := Lib.hid (HS.out.trans hst)
      clear hst hT HS
      go_wp2
      all_goals
        go_roundw
        case rel =>
          refine ⟨k + 1, z, T, x, y, by omega, by go_num, by omega, fun h => by omega, ?_, HT, ?_⟩
          · exact (((hbk.set_ 0 _).set_ 1 _).set_ 2 _).alloc _
          · exact below_set3 hB _ _ _ _
        case measure => simp [intOf] <;> omega
    · obtain rfl : k = l.length := by omega
      rw [List.take_length] at HO
      go_wp2
      go_ret
      rw [HO.out]
      exact ⟨rfl, hB⟩
end Go.Proofs.Ytmcjgfoaiannoaa
