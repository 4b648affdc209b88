/-
  SieveKeeps, the plain law: what a right filter lets through of a right ask is a right ask, and what it says instead is a right answer. No condition.
-/
import Derived.Test.YtmcjgfoaiannoabDoorSMeth
namespace Go.Proofs.YtmcjgfoaiannoabDoor
open Go.RowKit Go.Lib

def goodH (x : Hd) : Bool := keyP x.key && lineP x.text
theorem hdsP_iff : ∀ {l : List Hd} {had : List ByteArray}, hdsP had l = true ↔ (∀ x ∈ l, goodH x = true) ∧ (∀ x ∈ l, x.key ∉ had) ∧ (l.map Hd.key).Nodup
  | [], had => by simp [hdsP]
  | x :: l, had => by
    have ih := hdsP_iff (l := l) (had := had ++ [x.key])
    unfold hdsP
    simp only [Bool.and_eq_true, ih, Bool.not_eq_true', List.map_cons, List.nodup_cons]
    have hany : (had.any fun y => decide (y = x.key)) = false ↔ x.key ∉ had := by
      rw [Bool.eq_false_iff]
      simp
    rw [hany]
    constructor
    · rintro ⟨⟨⟨h1, h2⟩, h3⟩, h4, h5, h6⟩
      refine ⟨?_, ?_, ?_, h6⟩
      · intro y hy
        rcases List.mem_cons.1 hy with rfl | hy
        · simp [goodH, h1, h2]
        · exact h4 y hy
      · intro y hy
        rcases List.mem_cons.1 hy with rfl | hy
        · exact h3
        · intro hm
          exact h5 y hy (List.mem_append_left _ hm)
      · intro hm
        obtain ⟨y, hy, he⟩ := List.mem_map.1 hm
        exact h5 y hy (List.mem_append_right _ (by simp [he]))
    · rintro ⟨h1, h2, h3, h4⟩
      have hx := h1 x (by simp)
      unfold goodH at hx
      simp only [Bool.and_eq_true] at hx
      refine ⟨⟨⟨hx.1, hx.2⟩, h2 x (by simp)⟩, fun y hy => h1 y (by simp [hy]), fun y hy hm => ?_, h4⟩
      rcases List.mem_append.1 hm with hm | hm
      · exact h2 y (by simp [hy]) hm
      · have he : y.key = x.key := by simpa using hm
        exact h3 (List.mem_map.2 ⟨y, hy, he⟩)
theorem putP_keys : ∀ (l : List Hd) (h : Hd), (putP l h).map Hd.key = l.map Hd.key
  | [], _ => rfl
  | x :: l, h => by
    unfold putP
    split
    · rename_i he
      simp [he]
    · simp [putP_keys l h]
theorem putP_mem : ∀ {l : List Hd} {h y : Hd}, y ∈ putP l h → y ∈ l ∨ y = h
  | [], _, _, hy => by simp [putP] at hy
  | x :: l, h, y, hy => by
    unfold putP at hy
    split at hy
    · rcases List.mem_cons.1 hy with rfl | hy
      · exact .inr rfl
      · exact .inl (by simp [hy])
    · rcases List.mem_cons.1 hy with rfl | hy
      · exact .inl (by simp)
      · rcases putP_mem hy with h1 | h1
        · exact .inl (by simp [h1])
        · exact .inr h1
theorem hds_set {l : List Hd} {h : Hd} (hl : hdsP [] l = true) (hg : goodH h = true) : hdsP [] (setP l h) = true := by
  rw [hdsP_iff] at hl ⊢
  obtain ⟨h1, _, h3⟩ := hl
  unfold setP
  split
  · refine ⟨fun y hy => ?_, fun y _ => by simp, ?_⟩
    · rcases putP_mem hy with hy | rfl
      · exact h1 y hy
      · exact hg
    · rw [putP_keys]
      exact h3
  · rename_i hn
    split
    · refine ⟨fun y hy => ?_, fun y _ => by simp, ?_⟩
      · rcases List.mem_append.1 hy with hy | hy
        · exact h1 y hy
        · have : y = h := by simpa using hy
          rw [this]
          exact hg
      · rw [List.map_append, List.nodup_append]
        refine ⟨h3, by simp, ?_⟩
        intro a ha b hb he
        subst he
        have hb' : a = h.key := by simpa using hb
        subst hb'
        apply hn
        obtain ⟨y, hy, hk⟩ := List.mem_map.1 ha
        exact List.any_eq_true.2 ⟨y, hy, by simp [hk]⟩
    · exact ⟨h1, fun y _ => by simp, h3⟩
theorem set_len {l : List Hd} (h : Hd) (hl : l.length ≤ 6) : (setP l h).length ≤ 6 := by
  unfold setP
  split
  · rw [putP_len]; exact hl
  · split
    · rw [List.length_append]; simp; omega
    · exact hl
/-- what is wrong with a message, as data -/
def wrongM (m : Mg) : Int := wrongP m.st m.path m.l m.bd.length
theorem wrong0 {m : Mg} : wrongM m = 0 ↔ topP m.st m.path ∧ m.l.length ≤ 6 ∧ m.bd.length ≤ 40 ∧ hdsP [] m.l = true := by
  unfold wrongM
  by_cases ht : topP m.st m.path
  · rw [wrongP_top ht]
    by_cases h1 : 6 < m.l.length
    · rw [if_pos h1]
      exact ⟨fun h => by omega, fun h => by omega⟩
    rw [if_neg h1]
    by_cases h2 : 40 < m.bd.length
    · rw [if_pos h2]
      exact ⟨fun h => by omega, fun h => by omega⟩
    rw [if_neg h2]
    cases hh : hdsP [] m.l
    · rw [if_neg (by simp)]
      exact ⟨fun h => by omega, fun h => by simp at h⟩
    · rw [if_pos rfl]
      exact ⟨fun _ => ⟨ht, by omega, by omega, rfl⟩, fun _ => rfl⟩
  · refine ⟨fun h => ?_, fun h => absurd h.1 ht⟩
    exfalso
    unfold wrongP at h
    by_cases a : m.st ≠ 0 ∧ (m.st < 100 ∨ 599 < m.st)
    · rw [if_pos a] at h; omega
    rw [if_neg a] at h
    by_cases b : (m.st = 0 ∧ pathP m.path = false) ∨ (m.st ≠ 0 ∧ m.path ≠ ⟨#[]⟩)
    · rw [if_pos b] at h; omega
    apply ht
    by_cases c : m.st = 0
    · left
      refine ⟨c, ?_⟩
      cases hp : pathP m.path
      · exact absurd (.inl ⟨c, hp⟩) b
      · rfl
    · right
      refine ⟨by omega, by omega, ?_⟩
      rcases Decidable.em (m.path = ⟨#[]⟩) with e | e
      · exact e
      · exact absurd (.inr ⟨c, e⟩) b
theorem say_ok (st : Int) (s : ByteArray) (h1 : 100 ≤ st) (h2 : st ≤ 599) (h3 : s.size ≤ 40) : wrongM (sayM st s) = 0 :=
  wrong0.2 ⟨.inr ⟨h1, h2, rfl⟩, Nat.zero_le _, by show s.data.toList.length ≤ 40; rw [Array.length_toList]; exact h3, rfl⟩
/-- what comes of a right ask at a right filter -/
def KeptP (m : Mg) (g : Int) (r : Int × Mg × Int) : Prop :=
  wrongM r.2.1 = 0 ∧ g ≤ r.2.2 ∧ r.2.2 ≤ g + 1 ∧ ((r.1 = 1 ∧ 400 ≤ r.2.1.st ∧ r.2.2 = g) ∨ (r.1 = 0 ∧ r.2.1.st = 0 ∧ r.2.1.path = m.path ∧ r.2.1.bd = m.bd))
theorem keeps (k n : Int) (h : Hd) (m : Mg) (g : Int) (hs : wsP k n h.key h.text = 0) (hm : wrongM m = 0) (h0 : m.st = 0) : KeptP m g (askP k n h m g) := by
  have same : KeptP m g (0, m, g) := ⟨hm, Int.le_refl _, by show g ≤ g + 1; omega, .inr ⟨rfl, h0, rfl, rfl⟩⟩
  have says : ∀ st s, 400 ≤ st → st ≤ 599 → s.size ≤ 40 → KeptP m g (1, sayM st s, g) := fun st s h1 h2 h3 =>
    ⟨say_ok st s (by omega) h2 h3, Int.le_refl _, by show g ≤ g + 1; omega, .inl ⟨rfl, h1, rfl⟩⟩
  unfold askP
  by_cases h1 : k = 1
  · rw [if_pos h1]
    subst h1
    have hg : goodH h = true := by
      rw [ws_str (.inl rfl)] at hs
      unfold goodH
      cases hh : (keyP h.key && lineP h.text)
      · rw [hh, if_neg (by simp)] at hs; omega
      · rfl
    obtain ⟨ht, hl, hb, hh⟩ := wrong0.1 hm
    exact ⟨wrong0.2 ⟨ht, set_len h hl, hb, hds_set hh hg⟩, Int.le_refl _, by show g ≤ g + 1; omega, .inr ⟨rfl, h0, rfl, rfl⟩⟩
  rw [if_neg h1]
  by_cases h3 : k = 3
  · rw [if_pos h3]
    split
    · exact same
    · exact says 401 tokenB (by omega) (by omega) (by decide)
  rw [if_neg h3]
  by_cases h4 : k = 4
  · rw [if_pos h4]
    split
    · exact says 413 limitB (by omega) (by omega) (by decide)
    · exact same
  rw [if_neg h4]
  by_cases h5 : k = 5
  · rw [if_pos h5]
    split
    · exact says 429 gateB (by omega) (by omega) (by decide)
    · exact ⟨hm, by show g ≤ g + 1; omega, by show g + 1 ≤ g + 1; omega, .inr ⟨rfl, h0, rfl, rfl⟩⟩
  rw [if_neg h5]
  exact same
end Go.Proofs.YtmcjgfoaiannoabDoor
