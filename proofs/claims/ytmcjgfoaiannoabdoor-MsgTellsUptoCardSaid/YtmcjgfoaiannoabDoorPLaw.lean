/-
  Texts of messages, the plain law: cutting at a byte, heads' lines, the text that is read and the text that is written. No condition.
-/
import Derived.Test.YtmcjgfoaiannoabDoorSKLaw
import Derived.Test.YtmcjgfoaiannoabDoorFItoa
import Derived.Lib.AtoiAll
namespace Go.Proofs.YtmcjgfoaiannoabDoor
open Go.RowKit Go.Lib

/-- a string of these bytes -/
def bs (l : List UInt8) : ByteArray := ⟨l.toArray⟩
theorem bs_list (l : List UInt8) : (bs l).data.toList = l := rfl
theorem bs_of (s : ByteArray) : bs s.data.toList = s := rfl
theorem bs_size (l : List UInt8) : (bs l).size = l.length := by
  show l.toArray.size = _
  simp
theorem bs_inj {a b : List UInt8} (h : bs a = bs b) : a = b := by
  have := congrArg (fun s : ByteArray => s.data.toList) h
  exact this
/-- what is ahead of the first of a byte, what is behind it, and whether there is one -/
def cutB (c : UInt8) : List UInt8 → List UInt8 × List UInt8 × Bool
  | [] => ([], [], false)
  | b :: l => if b = c then ([], l, true) else (b :: (cutB c l).1, (cutB c l).2.1, (cutB c l).2.2)
theorem cutB_yes {c : UInt8} : ∀ {l : List UInt8}, (cutB c l).2.2 = true → l = (cutB c l).1 ++ c :: (cutB c l).2.1 ∧ c ∉ (cutB c l).1
  | [], h => by simp [cutB] at h
  | b :: l, h => by
    unfold cutB at h ⊢
    by_cases hb : b = c
    · rw [if_pos hb]
      subst hb
      exact ⟨rfl, by simp⟩
    · rw [if_neg hb] at h ⊢
      have ih := cutB_yes (l := l) h
      refine ⟨by rw [List.cons_append, ← ih.1], ?_⟩
      intro hm
      rcases List.mem_cons.1 hm with e | hm
      · exact hb e.symm
      · exact ih.2 hm
theorem cutB_no {c : UInt8} : ∀ {l : List UInt8}, (cutB c l).2.2 = false → cutB c l = (l, [], false) ∧ c ∉ l
  | [], _ => ⟨rfl, by simp⟩
  | b :: l, h => by
    unfold cutB at h ⊢
    by_cases hb : b = c
    · rw [if_pos hb] at h
      cases h
    · rw [if_neg hb] at h ⊢
      have ih := cutB_no (l := l) h
      refine ⟨by rw [ih.1], ?_⟩
      intro hm
      rcases List.mem_cons.1 hm with e | hm
      · exact hb e.symm
      · exact ih.2 hm
theorem cutB_at {c : UInt8} : ∀ {w t : List UInt8}, c ∉ w → cutB c (w ++ c :: t) = (w, t, true)
  | [], t, _ => by simp [cutB]
  | b :: w, t, h => by
    have hb : b ≠ c := fun e => h (by simp [e])
    have hw : c ∉ w := fun e => h (by simp [e])
    rw [List.cons_append, cutB, if_neg hb, cutB_at hw]
theorem cutB_len {c : UInt8} (l : List UInt8) : (cutB c l).1.length ≤ l.length ∧ (cutB c l).2.1.length ≤ l.length := by
  cases h : (cutB c l).2.2
  · rw [(cutB_no h).1]
    simp
  · have e := congrArg List.length (cutB_yes h).1
    simp at e
    omega
theorem cutB_lt {c : UInt8} {l : List UInt8} (h : (cutB c l).2.2 = true) : (cutB c l).2.1.length < l.length := by
  have e := congrArg List.length (cutB_yes h).1
  simp at e
  omega
/-- a head of two texts, where they are no longer than may be -/
def mkHd (k t : List UInt8) : Hd := if h : (bs k).size ≤ 140737488355328 ∧ (bs t).size ≤ 140737488355328 then ⟨bs k, bs t, h.1, h.2⟩ else ⟨⟨#[]⟩, ⟨#[]⟩, by decide, by decide⟩
theorem mkHd_of {k t : List UInt8} (hk : k.length ≤ 140737488355328) (ht : t.length ≤ 140737488355328) : (mkHd k t).key = bs k ∧ (mkHd k t).text = bs t := by
  unfold mkHd
  rw [dif_pos ⟨by rw [bs_size]; exact hk, by rw [bs_size]; exact ht⟩]
  exact ⟨rfl, rfl⟩
/-- heads' lines, up to the empty one: the heads, and what is behind -/
def headsF : Nat → List UInt8 → Option (List Hd × List UInt8)
  | 0, _ => none
  | f + 1, s =>
    if (cutB 10 s).2.2 = false then none
    else if (cutB 10 s).1 = [] then some ([], (cutB 10 s).2.1)
    else if (cutB 61 (cutB 10 s).1).2.2 = false then none
    else match headsF f (cutB 10 s).2.1 with
      | none => none
      | some r => some (mkHd (cutB 61 (cutB 10 s).1).1 (cutB 61 (cutB 10 s).1).2.1 :: r.1, r.2)
def askB : ByteArray := ⟨#[97, 115, 107]⟩
def sayB : ByteArray := ⟨#[115, 97, 121]⟩
def emptyM : Mg := ⟨0, ⟨#[]⟩, [], []⟩
/-- the number of a text, if the text is the number's own, and it is not nothing -/
def numP (s : ByteArray) : Option Int :=
  match Lib.atoiAll s.data.toList with
  | .ok n => if itoaB n = s ∧ n ≠ 0 then some n else none
  | _ => none
/-- the first line: the state and the path -/
def firstL (l : List UInt8) : Option (Int × ByteArray) :=
  if (cutB 32 l).2.2 = false then none
  else if bs (cutB 32 l).1 = askB then some (0, bs (cutB 32 l).2.1)
  else if bs (cutB 32 l).1 = sayB then (match numP (bs (cutB 32 l).2.1) with | some n => some (n, ⟨#[]⟩) | none => none)
  else none
/-- the rest, behind the first line -/
def restP (a : Int × ByteArray) (s : List UInt8) : Mg × Int :=
  match headsF (s.length + 1) s with
  | none => (emptyM, 2)
  | some r => if wrongM ⟨a.1, a.2, r.1, r.2⟩ = 0 then (⟨a.1, a.2, r.1, r.2⟩, 0) else (emptyM, wrongM ⟨a.1, a.2, r.1, r.2⟩)
/-- a text read -/
def parseP (s : List UInt8) : Mg × Int :=
  if (cutB 10 s).2.2 = false then (emptyM, 2)
  else match firstL (cutB 10 s).1 with
    | none => (emptyM, 2)
    | some a => restP a (cutB 10 s).2.1
/-- heads' lines written -/
def linesL (l : List Hd) : List UInt8 := l.flatMap fun x => x.key.data.toList ++ 61 :: (x.text.data.toList ++ [10])
/-- a message's text -/
def textL (m : Mg) : List UInt8 :=
  (if m.st = 0 then askB.data.toList ++ 32 :: m.path.data.toList else sayB.data.toList ++ 32 :: (itoaB m.st).data.toList) ++ 10 :: (linesL m.l ++ 10 :: m.bd)
theorem headsF_more : ∀ {f : Nat} {s : List UInt8} (g : Nat), s.length < f → f ≤ g → headsF g s = headsF f s
  | 0, _, _, h, _ => absurd h (by omega)
  | f + 1, s, 0, _, h => absurd h (by omega)
  | f + 1, s, g + 1, h1, h2 => by
    unfold headsF
    by_cases a : (cutB 10 s).2.2 = false
    · rw [if_pos a, if_pos a]
    rw [if_neg a, if_neg a]
    have ha : (cutB 10 s).2.2 = true := by simpa using a
    rw [headsF_more (f := f) (s := (cutB 10 s).2.1) g (by have := cutB_lt ha; omega) (by omega)]

/-! what is written is read -/
theorem itoa3 (n : Nat) (h1 : 100 ≤ n) (h2 : n ≤ 599) : Lib.itoa (n : Int) = [UInt8.ofNat (48 + n / 100), UInt8.ofNat (48 + n / 10 % 10), UInt8.ofNat (48 + n % 10)] := by
  unfold Lib.itoa
  rw [if_neg (by omega), Int.toNat_natCast, Lib.decDigits, dif_neg (by omega), Lib.decDigits_two (by omega) (by omega), Nat.div_div_eq_div_mul]
  rfl
theorem dig3 : ∀ a : Fin 10, ∀ b : Fin 10, ∀ c : Fin 10, Lib.atoiAll [UInt8.ofNat (48 + a.val), UInt8.ofNat (48 + b.val), UInt8.ofNat (48 + c.val)] = .ok ((100 * a.val + 10 * b.val + c.val : Nat) : Int) ∧ (10 : UInt8) ∉ [UInt8.ofNat (48 + a.val), UInt8.ofNat (48 + b.val), UInt8.ofNat (48 + c.val)] := by
  decide +kernel
theorem num3 {n : Int} (h1 : 100 ≤ n) (h2 : n ≤ 599) : numP (itoaB n) = some n ∧ (10 : UInt8) ∉ (itoaB n).data.toList := by
  obtain ⟨k, rfl⟩ : ∃ k : Nat, n = k := ⟨n.toNat, by omega⟩
  have e := itoa3 k (by omega) (by omega)
  have d := dig3 ⟨k / 100, by omega⟩ ⟨k / 10 % 10, by omega⟩ ⟨k % 10, by omega⟩
  simp only at d
  rw [← e, show 100 * (k / 100) + 10 * (k / 10 % 10) + k % 10 = k by omega] at d
  refine ⟨?_, d.2⟩
  unfold numP
  have e2 : (itoaB (k : Int)).data.toList = Lib.itoa (k : Int) := rfl
  rw [e2, d.1]
  simp only
  rw [if_pos ⟨trivial, by omega⟩]
theorem all_not_mem {l : List UInt8} {p : UInt8 → Bool} {c : UInt8} (h : l.all p = true) (hc : p c = false) : c ∉ l := fun hm => by
  have := List.all_eq_true.1 h c hm
  rw [hc] at this
  cases this
theorem path_no {s : ByteArray} (h : pathP s = true) : (10 : UInt8) ∉ s.data.toList := by
  unfold pathP ofP at h
  simp only [Bool.and_eq_true] at h
  exact all_not_mem h.1.1.1 (by decide)
theorem key_no {s : ByteArray} (h : keyP s = true) : (10 : UInt8) ∉ s.data.toList ∧ (61 : UInt8) ∉ s.data.toList := by
  unfold keyP ofP at h
  simp only [Bool.and_eq_true] at h
  exact ⟨all_not_mem h.1.1 (by decide), all_not_mem h.1.1 (by decide)⟩
theorem line_no {s : ByteArray} (h : lineP s = true) : (10 : UInt8) ∉ s.data.toList := by
  unfold lineP at h
  simp only [Bool.and_eq_true] at h
  exact all_not_mem h.1 (by decide)
theorem mkHd_self (x : Hd) : mkHd x.key.data.toList x.text.data.toList = x := by
  unfold mkHd
  rw [dif_pos ⟨x.hk, x.ht⟩]
  rfl
theorem heads_back : ∀ {l : List Hd} (bd : List UInt8) (f : Nat), (∀ x ∈ l, goodH x = true) → (linesL l ++ 10 :: bd).length < f → headsF f (linesL l ++ 10 :: bd) = some (l, bd)
  | [], bd, 0, _, h => absurd h (by omega)
  | [], bd, f + 1, _, _ => by
    unfold headsF
    have e : cutB 10 (linesL [] ++ 10 :: bd) = ([], bd, true) := cutB_at (w := []) (by simp)
    rw [e]
    simp
  | x :: l, bd, 0, _, h => absurd h (by omega)
  | x :: l, bd, f + 1, hg, h => by
    have hx := hg x (by simp)
    unfold goodH at hx
    simp only [Bool.and_eq_true] at hx
    have hk := key_no hx.1
    have ht := line_no hx.2
    have es : linesL (x :: l) ++ 10 :: bd = (x.key.data.toList ++ 61 :: x.text.data.toList) ++ 10 :: (linesL l ++ 10 :: bd) := by
      unfold linesL
      simp
    have hw : (10 : UInt8) ∉ x.key.data.toList ++ 61 :: x.text.data.toList := by
      intro hm
      rcases List.mem_append.1 hm with hm | hm
      · exact hk.1 hm
      · rcases List.mem_cons.1 hm with hm | hm
        · exact absurd hm (by decide)
        · exact ht hm
    unfold headsF
    rw [es, cutB_at hw]
    simp only
    rw [if_neg (by simp), if_neg (by simp), cutB_at hk.2]
    simp only
    rw [if_neg (by simp), heads_back (l := l) bd f (fun y hy => hg y (by simp [hy])) (by rw [es] at h; simp at h ⊢; omega), mkHd_self]
theorem first_back {st : Int} {path : ByteArray} (h : topP st path) :
    firstL (if st = 0 then askB.data.toList ++ 32 :: path.data.toList else sayB.data.toList ++ 32 :: (itoaB st).data.toList) = some (st, path) ∧ (10 : UInt8) ∉ (if st = 0 then askB.data.toList ++ 32 :: path.data.toList else sayB.data.toList ++ 32 :: (itoaB st).data.toList) := by
  rcases h with ⟨rfl, hp⟩ | ⟨h1, h2, rfl⟩
  · rw [if_pos rfl]
    have hn := path_no hp
    constructor
    · unfold firstL
      rw [cutB_at (by decide)]
      simp only
      rw [if_neg (by simp), if_pos (show bs askB.data.toList = askB from rfl)]
      rfl
    · intro hm
      rcases List.mem_append.1 hm with hm | hm
      · exact absurd hm (by decide)
      · rcases List.mem_cons.1 hm with hm | hm
        · exact absurd hm (by decide)
        · exact hn hm
  · rw [if_neg (by omega)]
    obtain ⟨hn, hm0⟩ := num3 h1 h2
    constructor
    · unfold firstL
      rw [cutB_at (by decide)]
      simp only
      rw [if_neg (by simp), if_neg (by decide), if_pos (show bs sayB.data.toList = sayB from rfl)]
      rw [bs_of, hn]
    · intro hm
      rcases List.mem_append.1 hm with hm | hm
      · exact absurd hm (by decide)
      · rcases List.mem_cons.1 hm with hm | hm
        · exact absurd hm (by decide)
        · exact hm0 hm
/-- a right message comes back from its text -/
theorem parse_text {m : Mg} (h : wrongM m = 0) : parseP (textL m) = (m, 0) := by
  obtain ⟨ht, _, _, hh⟩ := wrong0.1 h
  obtain ⟨h1, h2⟩ := first_back ht
  unfold parseP textL
  rw [cutB_at h2]
  simp only
  rw [if_neg (by simp), h1]
  simp only
  unfold restP
  rw [heads_back m.bd _ ((hdsP_iff.1 hh).1) (by omega)]
  simp only
  have e : (⟨m.st, m.path, m.l, m.bd⟩ : Mg) = m := rfl
  rw [e, if_pos h]

/-! what is read was written so -/
theorem heads_fwd : ∀ {f : Nat} {s : List UInt8} {r : List Hd × List UInt8}, s.length ≤ 140737488355328 → headsF f s = some r → s = linesL r.1 ++ 10 :: r.2
  | 0, _, _, _, h => by simp [headsF] at h
  | f + 1, s, r, hs, h => by
    unfold headsF at h
    by_cases a : (cutB 10 s).2.2 = false
    · rw [if_pos a] at h
      cases h
    rw [if_neg a] at h
    have ha := cutB_yes (c := 10) (l := s) (by simpa using a)
    have hl := cutB_len (c := 10) s
    by_cases b : (cutB 10 s).1 = []
    · rw [if_pos b] at h
      cases h
      rw [b] at ha
      exact ha.1
    rw [if_neg b] at h
    by_cases c : (cutB 61 (cutB 10 s).1).2.2 = false
    · rw [if_pos c] at h
      cases h
    rw [if_neg c] at h
    have hc := cutB_yes (c := 61) (l := (cutB 10 s).1) (by simpa using c)
    have hl2 := cutB_len (c := 61) (cutB 10 s).1
    cases hr : headsF f (cutB 10 s).2.1 with
    | none => rw [hr] at h; cases h
    | some q =>
      rw [hr] at h
      cases h
      have ih := heads_fwd (f := f) (by omega) hr
      have hm := mkHd_of (k := (cutB 61 (cutB 10 s).1).1) (t := (cutB 61 (cutB 10 s).1).2.1) (by omega) (by omega)
      unfold linesL
      simp only [List.flatMap_cons, hm.1, hm.2, bs_list]
      have e1 := ha.1
      rw [hc.1, ih] at e1
      unfold linesL at e1
      simpa using e1
theorem numP_some {s : ByteArray} {n : Int} (h : numP s = some n) : itoaB n = s ∧ n ≠ 0 := by
  unfold numP at h
  split at h
  · split at h
    · rename_i hh
      cases h
      exact hh
    · cases h
  · cases h
theorem first_fwd {l : List UInt8} {a : Int × ByteArray} (h : firstL l = some a) : l = if a.1 = 0 then askB.data.toList ++ 32 :: a.2.data.toList else sayB.data.toList ++ 32 :: (itoaB a.1).data.toList := by
  unfold firstL at h
  by_cases q : (cutB 32 l).2.2 = false
  · rw [if_pos q] at h
    cases h
  rw [if_neg q] at h
  have hq := (cutB_yes (c := 32) (l := l) (by simpa using q)).1
  by_cases b : bs (cutB 32 l).1 = askB
  · rw [if_pos b] at h
    cases h
    rw [if_pos rfl]
    have e : (cutB 32 l).1 = askB.data.toList := by rw [← b]; rfl
    rw [e] at hq
    exact hq
  rw [if_neg b] at h
  by_cases c : bs (cutB 32 l).1 = sayB
  · rw [if_pos c] at h
    cases hn : numP (bs (cutB 32 l).2.1) with
    | none => rw [hn] at h; cases h
    | some n =>
      rw [hn] at h
      cases h
      have hi := numP_some hn
      rw [if_neg hi.2]
      have e : (cutB 32 l).1 = sayB.data.toList := by rw [← c]; rfl
      simp only [hi.1]
      rw [e] at hq
      exact hq
  · rw [if_neg c] at h
    cases h
/-- what is wrong with a text -/
theorem parse_bad {s : List UInt8} (h : (parseP s).2 ≠ 0) : (parseP s).1 = emptyM := by
  unfold parseP at h ⊢
  by_cases a : (cutB 10 s).2.2 = false
  · rw [if_pos a]
  rw [if_neg a] at h ⊢
  cases hf : firstL (cutB 10 s).1 with
  | none => rfl
  | some q =>
    rw [hf] at h
    simp only at h ⊢
    unfold restP at h ⊢
    cases hh : headsF ((cutB 10 s).2.1.length + 1) (cutB 10 s).2.1 with
    | none => rfl
    | some r =>
      rw [hh] at h
      simp only at h ⊢
      by_cases w : wrongM ⟨q.1, q.2, r.1, r.2⟩ = 0
      · rw [if_pos w] at h
        exact absurd rfl h
      · rw [if_neg w]
/-- a text that is read is right, and it is its message's text -/
theorem text_parse {s : List UInt8} (hs : s.length ≤ 140737488355328) (h : (parseP s).2 = 0) : wrongM (parseP s).1 = 0 ∧ textL (parseP s).1 = s := by
  unfold parseP at h ⊢
  by_cases a : (cutB 10 s).2.2 = false
  · rw [if_pos a] at h
    exact absurd h (by decide)
  rw [if_neg a] at h ⊢
  have ha := (cutB_yes (c := 10) (l := s) (by simpa using a)).1
  have hl := cutB_len (c := 10) s
  cases hf : firstL (cutB 10 s).1 with
  | none => rw [hf] at h; exact absurd (show (2 : Int) = 0 from h) (by decide)
  | some q =>
    rw [hf] at h
    simp only at h ⊢
    unfold restP at h ⊢
    cases hh : headsF ((cutB 10 s).2.1.length + 1) (cutB 10 s).2.1 with
    | none => rw [hh] at h; exact absurd (show (2 : Int) = 0 from h) (by decide)
    | some r =>
      rw [hh] at h
      simp only at h ⊢
      by_cases w : wrongM ⟨q.1, q.2, r.1, r.2⟩ = 0
      · rw [if_pos w]
        refine ⟨w, ?_⟩
        have e2 := heads_fwd (by omega) hh
        have e1 := first_fwd hf
        unfold textL
        simp only
        rw [← e1, ← e2]
        exact ha.symm
      · rw [if_neg w] at h
        exact absurd h w
end Go.Proofs.YtmcjgfoaiannoabDoor
