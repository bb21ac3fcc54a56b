/-
  PLAIN: texts for a page, and back. No program here.
-/
import Derived.Test.YtlgodkjbilkloaaDoorPlain
import GoSem.Core.Utf8
import Derived.Laws.RangeAny
namespace Go.Proofs.YtlgodkjbilkloaaDoor.Es

/-- What stands for a byte; nothing, if it is no sign that cuts. -/
def std (c : UInt8) : List UInt8 :=
  if c = 38 then [38, 97, 109, 112, 59] else if c = 60 then [38, 108, 116, 59] else if c = 62 then [38, 103, 116, 59] else if c = 34 then [38, 113, 117, 111, 116, 59] else if c = 39 then [38, 35, 51, 57, 59] else []
/-- Is it a sign that cuts? -/
def sg (c : UInt8) : Bool := c == 38 || c == 60 || c == 62 || c == 34 || c == 39
def ent (c : UInt8) : List UInt8 := if sg c then std c else [c]
def esc : List UInt8 → List UInt8
  | [] => []
  | c :: r => ent c ++ esc r
/-- Does a text begin with another one? -/
def pre : List UInt8 → List UInt8 → Bool
  | [], _ => true
  | _ :: _, [] => false
  | a :: p, b :: s => a == b && pre p s
/-- The sign for which a text's beginning stands, or nought. -/
def hit (s : List UInt8) : UInt8 :=
  if pre (std 38) s then 38 else if pre (std 60) s then 60 else if pre (std 62) s then 62 else if pre (std 34) s then 34 else if pre (std 39) s then 39 else 0
/-- Back, so many bytes being passed over first. -/
def un : Nat → List UInt8 → Option (List UInt8)
  | _, [] => some []
  | k + 1, _ :: r => un k r
  | 0, c :: r => if sg c = false then (un 0 r).map (c :: ·) else if hit (c :: r) = 0 then none else (un ((std (hit (c :: r))).length - 1) r).map (hit (c :: r) :: ·)
def back (s : List UInt8) : Option (List UInt8) := un 0 s

theorem sg_cases (c : UInt8) : sg c = true ↔ c = 38 ∨ c = 60 ∨ c = 62 ∨ c = 34 ∨ c = 39 := by simp [sg, or_assoc]
theorem pre_iff : ∀ (p s : List UInt8), pre p s = true ↔ ∃ t, s = p ++ t
  | [], s => by simp [pre]
  | a :: p, [] => by simp [pre]
  | a :: p, b :: s => by
    simp only [pre, Bool.and_eq_true, beq_iff_eq, pre_iff p s, List.cons_append, List.cons.injEq]
    constructor
    · rintro ⟨rfl, t, rfl⟩; exact ⟨t, rfl, rfl⟩
    · rintro ⟨t, rfl, rfl⟩; exact ⟨rfl, t, rfl⟩
theorem pre_append (p t : List UInt8) : pre p (p ++ t) = true := (pre_iff p _).2 ⟨t, rfl⟩
theorem std_ne_of (c : UInt8) (h : sg c = true) : 3 < (std c).length := by
  rcases (sg_cases c).1 h with rfl | rfl | rfl | rfl | rfl <;> decide
theorem std_head (c : UInt8) (h : sg c = true) : ∃ r, std c = 38 :: r := by
  rcases (sg_cases c).1 h with rfl | rfl | rfl | rfl | rfl <;> exact ⟨_, rfl⟩
/-- No one begins another one. -/
theorem hit_of (c : UInt8) (h : sg c = true) (t : List UInt8) : hit (std c ++ t) = c := by
  rcases (sg_cases c).1 h with rfl | rfl | rfl | rfl | rfl <;> rfl
theorem hit_pre (s : List UInt8) (c : UInt8) (h : sg c = true) (hp : pre (std c) s = true) : hit s = c := by
  obtain ⟨t, rfl⟩ := (pre_iff _ _).1 hp
  exact hit_of c h t
theorem hit_some (s : List UInt8) (h : hit s ≠ 0) : sg (hit s) = true ∧ ∃ t, s = std (hit s) ++ t := by
  have key : ∀ c, sg c = true → pre (std c) s = true → sg (hit s) = true ∧ ∃ t, s = std (hit s) ++ t := fun c hc hp => by
    rw [hit_pre s c hc hp]
    exact ⟨hc, (pre_iff _ _).1 hp⟩
  by_cases h1 : pre (std 38) s = true
  · exact key 38 rfl h1
  by_cases h2 : pre (std 60) s = true
  · exact key 60 rfl h2
  by_cases h3 : pre (std 62) s = true
  · exact key 62 rfl h3
  by_cases h4 : pre (std 34) s = true
  · exact key 34 rfl h4
  by_cases h5 : pre (std 39) s = true
  · exact key 39 rfl h5
  · exact absurd (by unfold hit; rw [if_neg h1, if_neg h2, if_neg h3, if_neg h4, if_neg h5]) h
theorem hit_none (s : List UInt8) (h : hit s = 0) (c : UInt8) (hc : sg c = true) : pre (std c) s = false := by
  cases hp : pre (std c) s
  · rfl
  · have := hit_pre s c hc hp
    rw [h] at this
    subst this
    cases hc
theorem un_skip : ∀ (p r : List UInt8), un p.length (p ++ r) = un 0 r
  | [], r => by simp
  | a :: p, r => by
    rw [List.length_cons, List.cons_append, un]
    exact un_skip p r
theorem un_plain (c : UInt8) (r : List UInt8) (h : sg c = false) : un 0 (c :: r) = (un 0 r).map (c :: ·) := by
  rw [un, if_pos h]
theorem un_hit (c : UInt8) (h : sg c = true) (t : List UInt8) : un 0 (std c ++ t) = (un 0 t).map (c :: ·) := by
  obtain ⟨r, hr⟩ := std_head c h
  have hh := hit_of c h t
  rw [hr, List.cons_append] at hh ⊢
  rw [un, if_neg (by decide), hh, if_neg (by rintro rfl; cases h), hr, List.length_cons, Nat.add_sub_cancel, un_skip]
theorem un_none (c : UInt8) (r : List UInt8) (h : sg c = true) (h0 : hit (c :: r) = 0) : un 0 (c :: r) = none := by
  rw [un, if_neg (by rw [h]; decide), if_pos h0]
theorem esc_append (a b : List UInt8) : esc (a ++ b) = esc a ++ esc b := by
  induction a with
  | nil => rfl
  | cons c a ih => simp [esc, ih]
theorem esc_plain (l : List UInt8) (h : l.all (fun c => !sg c) = true) : esc l = l := by
  induction l with
  | nil => rfl
  | cons c l ih =>
    simp only [List.all_cons, Bool.and_eq_true, Bool.not_eq_true'] at h
    rw [esc, ih h.2, ent, h.1]; rfl
theorem back_esc (s : List UInt8) : back (esc s) = some s := by
  induction s with
  | nil => rfl
  | cons c s ih =>
    unfold back at *
    rw [esc, ent]
    by_cases h : sg c = true
    · rw [if_pos h, un_hit c h, ih]; rfl
    · rw [if_neg h]
      have h' : sg c = false := by simpa using h
      rw [List.singleton_append, un_plain c _ h', ih]; rfl
theorem esc_back : ∀ (n : Nat) (s b : List UInt8), s.length ≤ n → un 0 s = some b → esc b = s := by
  intro n
  induction n with
  | zero =>
    intro s b hl h
    obtain rfl := List.eq_nil_of_length_eq_zero (by omega : s.length = 0)
    rw [un] at h
    cases h; rfl
  | succ n ih =>
    intro s b hl h
    cases s with
    | nil => rw [un] at h; cases h; rfl
    | cons c r =>
      by_cases hc : sg c = true
      · by_cases h0 : hit (c :: r) = 0
        · rw [un_none c r hc h0] at h; cases h
        · obtain ⟨h1, t, ht⟩ := hit_some _ h0
          have h3 := std_ne_of _ h1
          have hlen := congrArg List.length ht
          rw [List.length_append, List.length_cons] at hlen
          rw [List.length_cons] at hl
          generalize hit (c :: r) = d at *
          rw [ht, un_hit _ h1] at h
          obtain ⟨b', hb', rfl⟩ := Option.map_eq_some_iff.1 h
          rw [ht, esc, ent, if_pos h1, ih t b' (by omega) hb']
      · have hc' : sg c = false := by simpa using hc
        rw [un_plain c r hc'] at h
        obtain ⟨b', hb', rfl⟩ := Option.map_eq_some_iff.1 h
        rw [esc, ent, if_neg hc, ih r b' (by simpa using hl) hb']; rfl
theorem back_some (s b : List UInt8) : back s = some b ↔ esc b = s :=
  ⟨esc_back s.length s b (Nat.le_refl _), fun h => by rw [← h]; exact back_esc b⟩
theorem back_joins (a b x y : List UInt8) (ha : back a = some x) (hb : back b = some y) : back (a ++ b) = some (x ++ y) := by
  rw [back_some] at *
  rw [esc_append, ha, hb]
theorem back_len (s b : List UInt8) (h : back s = some b) : b.length ≤ s.length := by
  rw [back_some] at h
  subst h
  induction b with
  | nil => simp
  | cons c b ih =>
    rw [esc, List.length_append, List.length_cons]
    have : 1 ≤ (ent c).length := by
      unfold ent; split
      · rename_i h; have := std_ne_of c h; omega
      · simp
    omega
theorem esc_len (s : List UInt8) : (esc s).length ≤ 6 * s.length := by
  induction s with
  | nil => simp [esc]
  | cons c s ih =>
    rw [esc, List.length_append, List.length_cons]
    have : (ent c).length ≤ 6 := by
      unfold ent; split
      · rename_i h; rcases (sg_cases c).1 h with rfl | rfl | rfl | rfl | rfl <;> decide
      · simp
    omega

/-- How many bytes more a sign takes. -/
def plus (c : UInt8) : Nat := if c = 38 then 4 else if c = 60 then 3 else if c = 62 then 3 else if c = 34 then 5 else if c = 39 then 4 else 0
def pluses : List UInt8 → Nat
  | [] => 0
  | c :: r => plus c + pluses r
theorem ent_len (c : UInt8) : (ent c).length = 1 + plus c := by
  unfold ent
  by_cases h : sg c = true
  · rw [if_pos h]
    rcases (sg_cases c).1 h with rfl | rfl | rfl | rfl | rfl <;> rfl
  · rw [if_neg h]
    unfold plus
    have hh : ¬ (c = 38 ∨ c = 60 ∨ c = 62 ∨ c = 34 ∨ c = 39) := mt (sg_cases c).2 h
    simp only [not_or] at hh
    obtain ⟨h1, h2, h3, h4, h5⟩ := hh
    rw [if_neg h1, if_neg h2, if_neg h3, if_neg h4, if_neg h5]; rfl
theorem esc_pluses (s : List UInt8) : (esc s).length = s.length + pluses s := by
  induction s with
  | nil => rfl
  | cons c s ih =>
    rw [esc, List.length_append, List.length_cons, ih, ent_len, pluses]; omega
theorem pluses_zero (s : List UInt8) (h : pluses s = 0) : esc s = s := by
  refine esc_plain s ?_
  induction s with
  | nil => rfl
  | cons c s ih =>
    rw [pluses] at h
    rw [List.all_cons, ih (by omega), Bool.and_true]
    cases hc : sg c
    · rfl
    · have := ent_len c
      have h3 := std_ne_of c hc
      unfold ent at this
      rw [if_pos hc] at this
      omega
def cut (c : UInt8) : Bool := c == 60 || c == 62 || c == 34 || c == 39
theorem esc_clean (s : List UInt8) : (esc s).all (fun c => !cut c) = true := by
  induction s with
  | nil => rfl
  | cons c s ih =>
    rw [esc, List.all_append, ih, Bool.and_true]
    unfold ent
    by_cases h : sg c = true
    · rw [if_pos h]
      rcases (sg_cases c).1 h with rfl | rfl | rfl | rfl | rfl <;> decide
    · rw [if_neg h]
      have h' : sg c = false := by simpa using h
      unfold sg at h'
      simp only [Bool.or_eq_false_iff] at h'
      simp [cut, h'.1.1.1.2, h'.1.1.2, h'.1.2, h'.2]

/-- An element's attribute. -/
def att (n v : List UInt8) : List UInt8 := if v = [] then [] else [32] ++ n ++ [61, 34] ++ esc v ++ [34]
def tag (name cls id cont : List UInt8) : List UInt8 :=
  [60] ++ name ++ att [99, 108, 97, 115, 115] cls ++ att [105, 100] id ++ [62] ++ cont ++ [60, 47] ++ name ++ [62]

/-! ### runes: what is decoded at a place takes up bytes that are no signs, unless it is one of them -/
theorem decode_cont (s : ByteArray) (pos : Nat) (h : pos < s.size) (ha : 128 ≤ (s[pos]'h).toNat) : ∀ j, j < (Utf8.decode s pos).2 → pos + j < s.size ∧ 128 ≤ (s.get! (pos + j)).toNat := by
  have h0 : 128 ≤ (s.get! (pos + 0)).toNat := by rw [get_at s pos h]; exact ha
  have c0 : pos + 0 < s.size ∧ 128 ≤ (s.get! (pos + 0)).toNat := ⟨h, h0⟩
  have hn : ¬ (s.get! (pos + 0)).toNat < 0x80 := by omega
  have one : ∀ j, j < 1 → pos + j < s.size ∧ 128 ≤ (s.get! (pos + j)).toNat := fun j hj => by
    obtain rfl : j = 0 := by omega
    exact c0
  simp only [Utf8.decode, hn, if_false]
  split
  · rename_i h1
    simp only [Bool.and_eq_true, decide_eq_true_eq, beq_iff_eq] at h1
    obtain ⟨_, k1, k2⟩ := h1
    split
    · intro j hj
      rcases (by simp at hj; omega : j = 0 ∨ j = 1) with rfl | rfl
      · exact c0
      · exact ⟨k1, by omega⟩
    · exact one
  split
  · rename_i _ h1
    simp only [Bool.and_eq_true, decide_eq_true_eq, beq_iff_eq] at h1
    obtain ⟨⟨_, k1, k2⟩, k3, k4⟩ := h1
    split
    · intro j hj
      rcases (by simp at hj; omega : j = 0 ∨ j = 1 ∨ j = 2) with rfl | rfl | rfl
      · exact c0
      · exact ⟨k1, by omega⟩
      · exact ⟨k3, by omega⟩
    · exact one
  split
  · rename_i _ _ h1
    simp only [Bool.and_eq_true, decide_eq_true_eq, beq_iff_eq] at h1
    obtain ⟨⟨⟨_, k1, k2⟩, k3, k4⟩, k5, k6⟩ := h1
    split
    · intro j hj
      rcases (by simp at hj; omega : j = 0 ∨ j = 1 ∨ j = 2 ∨ j = 3) with rfl | rfl | rfl | rfl
      · exact c0
      · exact ⟨k1, by omega⟩
      · exact ⟨k3, by omega⟩
      · exact ⟨k5, by omega⟩
    · exact one
  · exact one
theorem sg_low (c : UInt8) (h : sg c = true) : c.toNat < 128 := by
  rcases (sg_cases c).1 h with rfl | rfl | rfl | rfl | rfl <;> decide
end Go.Proofs.YtlgodkjbilkloaaDoor.Es
