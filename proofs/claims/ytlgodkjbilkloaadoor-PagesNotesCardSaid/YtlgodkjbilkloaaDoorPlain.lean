/-
  PLAIN: letters, names, the order of texts, words: functions on lists of bytes and their laws. No program here.
-/
import Derived.Lib.Bytealg
import Derived.Lib.Strings
namespace Go.Proofs.YtlgodkjbilkloaaDoor
abbrev lb (x : ByteArray) : List UInt8 := x.data.toList
end Go.Proofs.YtlgodkjbilkloaaDoor
namespace Go.Proofs.YtlgodkjbilkloaaDoor.Pl
open Go.Lib

def isLet (c : Int) : Bool := decide ((65 ≤ c ∧ c ≤ 90) ∨ (97 ≤ c ∧ c ≤ 122))
def isDig (c : Int) : Bool := decide (48 ≤ c ∧ c ≤ 57)
def isLD (c : Int) : Bool := isLet c || isDig c
def isNm (c : Int) : Bool := isLD c || decide (c = 45)
def lowI (c : Int) : Int := if 65 ≤ c ∧ c ≤ 90 then c + 32 else c
def lowB (b : UInt8) : UInt8 := UInt8.ofNat (lowI b.toNat).toNat
def lower (l : List UInt8) : List UInt8 := l.map lowB
def ldB (b : UInt8) : Bool := isLD b.toNat
def nmB (b : UInt8) : Bool := isNm b.toNat
def key (l : List UInt8) : List UInt8 := (lower l).filter ldB
def order (a b : List UInt8) : Int := if compareBytes (key a) (key b) = 0 then compareBytes a b else compareBytes (key a) (key b)
def headLet : List UInt8 → Bool
  | [] => false
  | c :: _ => isLet c.toNat
def name (l : List UInt8) : Bool := decide (l.length ≤ 60) && headLet l && l.all nmB

theorem u8_lt (b : UInt8) : (b.toNat : Int) < 256 := by have := b.toNat_lt; omega
theorem lowI_range (c : Int) (h0 : 0 ≤ c) (h1 : c < 256) : 0 ≤ lowI c ∧ lowI c < 256 := by
  unfold lowI; split <;> omega
theorem lowB_toNat (b : UInt8) : ((lowB b).toNat : Int) = lowI b.toNat := by
  have h := lowI_range b.toNat (by omega) (u8_lt b)
  unfold lowB
  rw [UInt8.toNat_ofNat']
  have : (lowI (b.toNat : Int)).toNat % 2 ^ 8 = (lowI (b.toNat : Int)).toNat := Nat.mod_eq_of_lt (by omega)
  rw [this]; omega
theorem lower_length (l : List UInt8) : (lower l).length = l.length := by simp [lower]

theorem u8_ext {a b : UInt8} (h : (a.toNat : Int) = b.toNat) : a = b := UInt8.toNat_inj.1 (by omega)

/-! ### compareBytes -/
theorem cmp_range : ∀ (a b : List UInt8), -1 ≤ compareBytes a b ∧ compareBytes a b ≤ 1
  | [], [] => by simp [compareBytes]
  | [], _ :: _ => by simp [compareBytes]
  | _ :: _, [] => by simp [compareBytes]
  | x :: a, y :: b => by
    have ih := cmp_range a b
    unfold compareBytes
    split
    · omega
    · split
      · omega
      · exact ih
theorem cmp_self : ∀ (a : List UInt8), compareBytes a a = 0
  | [] => rfl
  | x :: a => by
    have hlt : ¬ x < x := UInt8.lt_irrefl x
    unfold compareBytes
    simp only [hlt, if_false]
    exact cmp_self a
theorem cmp_zero : ∀ {a b : List UInt8}, compareBytes a b = 0 → a = b
  | [], [], _ => rfl
  | [], _ :: _, h => by simp [compareBytes] at h
  | _ :: _, [], h => by simp [compareBytes] at h
  | x :: a, y :: b, h => by
    unfold compareBytes at h
    split at h
    · omega
    · rename_i h1
      split at h
      · omega
      · rename_i h2
        have e : x = y := UInt8.le_antisymm (UInt8.not_lt.1 h2) (UInt8.not_lt.1 h1)
        rw [e, cmp_zero h]
theorem cmp_zero_iff (a b : List UInt8) : compareBytes a b = 0 ↔ a = b := ⟨cmp_zero, fun h => by rw [h]; exact cmp_self b⟩
theorem cmp_neg : ∀ (a b : List UInt8), compareBytes b a = - compareBytes a b
  | [], [] => rfl
  | [], _ :: _ => rfl
  | _ :: _, [] => rfl
  | x :: a, y :: b => by
    have ih := cmp_neg a b
    unfold compareBytes
    by_cases h1 : x < y
    · have h2 : ¬ y < x := UInt8.not_lt.2 (UInt8.le_of_lt h1)
      simp only [h1, h2, if_true, if_false]; rfl
    · by_cases h2 : y < x
      · simp only [h1, h2, if_true, if_false]
      · simp only [h1, h2, if_false]; exact ih
/-- Going on: at most, and at most: at most; and if one of them is less, less. -/
theorem cmp_trans : ∀ (a b c : List UInt8), compareBytes a b ≤ 0 → compareBytes b c ≤ 0 → compareBytes a c ≤ 0 ∧ (compareBytes a b < 0 ∨ compareBytes b c < 0 → compareBytes a c < 0)
  | [], [], [], _, _ => by simp [compareBytes]
  | [], [], _ :: _, _, _ => by simp [compareBytes]
  | [], _ :: _, [], _, h => by simp [compareBytes] at h
  | [], _ :: _, _ :: _, _, _ => by simp [compareBytes]
  | _ :: _, [], _, h, _ => by simp [compareBytes] at h
  | _ :: _, _ :: _, [], _, h => by simp [compareBytes] at h
  | x :: a, y :: b, z :: c, h1, h2 => by
    have ih := cmp_trans a b c
    unfold compareBytes at h1 h2 ⊢
    simp only [UInt8.lt_iff_toNat_lt] at h1 h2 ⊢
    by_cases p1 : x.toNat < y.toNat
    · by_cases q1 : y.toNat < z.toNat
      · have : x.toNat < z.toNat := by omega
        simp [p1, q1, this]
      · by_cases q2 : z.toNat < y.toNat
        · simp [q1, q2] at h2
        · have : x.toNat < z.toNat := by omega
          simp [this]
    · by_cases p2 : y.toNat < x.toNat
      · simp [p1, p2] at h1
      · by_cases q1 : y.toNat < z.toNat
        · have : x.toNat < z.toNat := by omega
          simp [this]
        · by_cases q2 : z.toNat < y.toNat
          · simp [q1, q2] at h2
          · have e1 : ¬ x.toNat < z.toNat := by omega
            have e2 : ¬ z.toNat < x.toNat := by omega
            simp only [p1, p2, q1, q2, e1, e2, if_false] at h1 h2 ⊢
            exact ih h1 h2

theorem order_range (a b : List UInt8) : -1 ≤ order a b ∧ order a b ≤ 1 := by
  have h1 := cmp_range a b
  have h2 := cmp_range (key a) (key b)
  unfold order; split <;> omega
theorem order_neg (a b : List UInt8) : order b a = - order a b := by
  unfold order
  rw [cmp_neg (key a) (key b), cmp_neg a b]
  by_cases h : compareBytes (key a) (key b) = 0
  · simp [h]
  · have : ¬ (- compareBytes (key a) (key b) = 0) := by omega
    simp [h]
theorem order_self (a : List UInt8) : order a a = 0 := by simp [order, cmp_self]
theorem order_zero_iff (a b : List UInt8) : order a b = 0 ↔ a = b := by
  constructor
  · intro h
    unfold order at h
    split at h
    · exact cmp_zero h
    · rename_i hn; exact absurd h hn
  · rintro rfl; exact order_self a
theorem order_trans (a b c : List UInt8) (h1 : order a b ≤ 0) (h2 : order b c ≤ 0) : order a c ≤ 0 := by
  have t1 := cmp_trans a b c
  have t2 := cmp_trans (key a) (key b) (key c)
  unfold order at *
  by_cases e1 : compareBytes (key a) (key b) = 0
  · simp only [e1, if_true] at h1
    by_cases e2 : compareBytes (key b) (key c) = 0
    · simp only [e2, if_true] at h2
      have e3 : compareBytes (key a) (key c) = 0 := by rw [cmp_zero e1, cmp_zero e2]; exact cmp_self _
      simp only [e3, if_true]
      exact (t1 h1 h2).1
    · simp only [e2, if_false] at h2
      have e3 : compareBytes (key a) (key c) = compareBytes (key b) (key c) := by rw [cmp_zero e1]
      simp only [e3, e2, if_false]
      exact h2
  · simp only [e1, if_false] at h1
    by_cases e2 : compareBytes (key b) (key c) = 0
    · have e3 : compareBytes (key a) (key c) = compareBytes (key a) (key b) := by rw [cmp_zero e2]
      simp only [e3, e1, if_false]
      exact h1
    · simp only [e2, if_false] at h2
      have := (t2 h1 h2).2 (Or.inl (by omega))
      have e3 : ¬ compareBytes (key a) (key c) = 0 := by omega
      simp only [e3, if_false]
      omega

/-! ### a sign that is neither letter nor digit -/
theorem lowI_ld (c : Int) : isLD (lowI c) = isLD c := by
  unfold lowI isLD isLet isDig
  by_cases h : 65 ≤ c ∧ c ≤ 90
  · have h1 : (65 ≤ c ∧ c ≤ 90) ∨ (97 ≤ c ∧ c ≤ 122) := Or.inl h
    have h2 : (65 ≤ c + 32 ∧ c + 32 ≤ 90) ∨ (97 ≤ c + 32 ∧ c + 32 ≤ 122) := by omega
    simp only [if_pos h, decide_eq_true h1, decide_eq_true h2, Bool.true_or]
  · rw [if_neg h]
theorem ldB_low (b : UInt8) : ldB (lowB b) = ldB b := by unfold ldB; rw [lowB_toNat, lowI_ld]
theorem key_append (a b : List UInt8) : key (a ++ b) = key a ++ key b := by simp [key, lower]
theorem key_other (c : UInt8) (h : ldB c = false) : key [c] = [] := by simp [key, lower, ldB_low, h]
theorem key_plain (a : List UInt8) (h : a.all ldB = true) : key a = lower a := by
  unfold key
  rw [List.filter_eq_self]
  intro x hx
  simp only [lower, List.mem_map] at hx
  obtain ⟨y, hy, rfl⟩ := hx
  rw [ldB_low]
  exact List.all_eq_true.1 h y hy
theorem order_between (a b : List UInt8) (c : UInt8) (k : Nat) (hc : ldB c = false) : order (a.take k ++ [c] ++ a.drop k) a ≠ 0 ∧
    (a.all ldB = true → b.all ldB = true → lower a ≠ lower b → order (a.take k ++ [c] ++ a.drop k) b = order a b) := by
  have hk : key (a.take k ++ [c] ++ a.drop k) = key a := by
    rw [key_append, key_append, key_other c hc, List.append_nil, ← key_append, List.take_append_drop]
  constructor
  · rw [Ne, order_zero_iff]
    intro h
    have := congrArg List.length h
    simp at this
    omega
  · intro ha hb hne
    have h0 : ¬ compareBytes (key a) (key b) = 0 := by
      rw [cmp_zero_iff, key_plain a ha, key_plain b hb]; exact hne
    unfold order
    rw [hk, if_neg h0, if_neg h0]

/-! ### names -/
theorem headLet_append (l r : List UInt8) (h : l ≠ []) : headLet (l ++ r) = headLet l := by
  cases l with
  | nil => exact absurd rfl h
  | cons a l => rfl
theorem name_snoc (s : List UInt8) (c : UInt8) : (name s = true → name (s ++ [c]) = (nmB c && decide (s.length < 60))) ∧ (name s = false → s = [] ∨ name (s ++ [c]) = false) := by
  constructor
  · intro h
    unfold name at *
    simp only [Bool.and_eq_true, decide_eq_true_eq] at h
    obtain ⟨⟨h1, h2⟩, h3⟩ := h
    have hne : s ≠ [] := by rintro rfl; simp [headLet] at h2
    rw [headLet_append _ _ hne, h2]
    simp only [List.length_append, List.length_cons, List.length_nil, List.all_append, h3, List.all_cons, List.all_nil, Bool.and_true, Bool.true_and, Nat.zero_add]
    rw [Bool.and_comm]
    congr 1
  · intro h
    by_cases hne : s = []
    · exact Or.inl hne
    · refine Or.inr ?_
      unfold name at *
      rw [headLet_append _ _ hne]
      simp only [List.length_append, List.length_cons, List.length_nil, List.all_append]
      cases hh : headLet s
      · simp
      · cases ha : s.all nmB
        · simp
        · rw [hh, ha] at h
          simp at h
          have : ¬ s.length + 1 ≤ 60 := by omega
          simp [this]
theorem name_front (s : List UInt8) (c : UInt8) (h : isLet c.toNat = false) : name (c :: s) = false := by simp [name, headLet, h]
theorem lowI_let (c : Int) : isLet (lowI c) = isLet c := by
  unfold lowI isLet
  by_cases h : 65 ≤ c ∧ c ≤ 90
  · have h1 : (65 ≤ c ∧ c ≤ 90) ∨ (97 ≤ c ∧ c ≤ 122) := Or.inl h
    have h2 : (65 ≤ c + 32 ∧ c + 32 ≤ 90) ∨ (97 ≤ c + 32 ∧ c + 32 ≤ 122) := by omega
    simp only [if_pos h, decide_eq_true h1, decide_eq_true h2]
  · rw [if_neg h]
theorem lowI_nm (c : Int) : isNm (lowI c) = isNm c := by
  unfold isNm
  rw [lowI_ld]
  by_cases h : 65 ≤ c ∧ c ≤ 90
  · have h1 : (65 ≤ c ∧ c ≤ 90) ∨ (97 ≤ c ∧ c ≤ 122) := Or.inl h
    have : isLD c = true := by unfold isLD isLet; rw [decide_eq_true h1]; rfl
    simp [this]
  · have : lowI c = c := by unfold lowI; rw [if_neg h]
    rw [this]
theorem name_lower (s : List UInt8) : name (lower s) = name s := by
  unfold name
  rw [lower_length]
  have h1 : headLet (lower s) = headLet s := by
    cases s with
    | nil => rfl
    | cons a s => simp only [lower, List.map_cons, headLet]; rw [lowB_toNat, lowI_let]
  have h2 : (lower s).all nmB = s.all nmB := by
    unfold lower
    rw [List.all_map]
    congr 1
    funext b
    simp only [Function.comp, nmB]
    rw [lowB_toNat, lowI_nm]
  rw [h1, h2]

/-! ### words -/
def blank (c : UInt8) : Bool := c == 32 || c == 9 || c == 10
def wds : List UInt8 → List UInt8 → List (List UInt8)
  | cur, [] => if cur = [] then [] else [cur]
  | cur, c :: l => if blank c = true then (if cur = [] then wds [] l else cur :: wds [] l) else wds (cur ++ [c]) l
def words (l : List UInt8) : List (List UInt8) := wds [] l
theorem wds_nil (cur : List UInt8) : wds cur [] = if cur = [] then [] else [cur] := by rw [wds]
theorem wds_cons (cur : List UInt8) (c : UInt8) (l : List UInt8) : wds cur (c :: l) = if blank c = true then (if cur = [] then wds [] l else cur :: wds [] l) else wds (cur ++ [c]) l := by rw [wds]

theorem wds_blank (cur : List UInt8) (b : List UInt8) (hb : b.all blank = true) (hne : b ≠ []) (r : List UInt8) : wds cur (b ++ r) = (if cur = [] then [] else [cur]) ++ wds [] r := by
  induction b generalizing cur with
  | nil => exact absurd rfl hne
  | cons c b ih =>
    simp only [List.all_cons, Bool.and_eq_true] at hb
    rw [List.cons_append, wds_cons, if_pos hb.1]
    cases b with
    | nil =>
      split <;> simp
    | cons d b =>
      have h := ih [] hb.2 (by simp)
      rw [h]
      split <;> simp
theorem wds_joins (b : List UInt8) (hb : b.all blank = true) (hne : b ≠ []) (r : List UInt8) : ∀ (a cur : List UInt8), wds cur (a ++ b ++ r) = wds cur a ++ words r
  | [], cur => by
    rw [List.nil_append, wds_blank cur b hb hne r]
    unfold words
    rw [wds_nil]
  | c :: a, cur => by
    rw [List.cons_append, List.cons_append]
    rw [wds_cons, wds_cons]
    split
    · split
      · exact wds_joins b hb hne r a []
      · rw [List.cons_append, wds_joins b hb hne r a []]
    · exact wds_joins b hb hne r a _
theorem words_joins (a b r : List UInt8) (hb : b.all blank = true) (hne : b ≠ []) : words (a ++ b ++ r) = words a ++ words r := wds_joins b hb hne r a []
/-- A word: not empty, no blank. -/
def isWord (l : List UInt8) : Prop := l ≠ [] ∧ l.all (fun c => !blank c) = true
theorem wds_words : ∀ (l cur : List UInt8), cur.all (fun c => !blank c) = true → ∀ x ∈ wds cur l, isWord x
  | [], cur, hc, x, hx => by
    rw [wds_nil] at hx
    split at hx
    · cases hx
    · rename_i h
      simp only [List.mem_singleton] at hx
      subst hx
      exact ⟨h, hc⟩
  | c :: l, cur, hc, x, hx => by
    rw [wds_cons] at hx
    split at hx
    · split at hx
      · exact wds_words l [] rfl x hx
      · rename_i h
        rcases List.mem_cons.1 hx with rfl | hx
        · exact ⟨h, hc⟩
        · exact wds_words l [] rfl x hx
    · rename_i h
      exact wds_words l (cur ++ [c]) (by simp [hc, h]) x hx
theorem words_isWord (l : List UInt8) : ∀ x ∈ words l, isWord x := wds_words l [] rfl
theorem wds_word : ∀ (w cur : List UInt8), w.all (fun c => !blank c) = true → wds cur w = if cur ++ w = [] then [] else [cur ++ w]
  | [], cur, _ => by simp [wds]
  | c :: w, cur, h => by
    simp only [List.all_cons, Bool.and_eq_true, Bool.not_eq_true'] at h
    rw [wds_cons, h.1]
    simp only [Bool.false_eq_true, if_false]
    rw [wds_word w (cur ++ [c]) h.2]
    simp
theorem words_word (w : List UInt8) (h : isWord w) : words w = [w] := by
  unfold words
  rw [wds_word w [] h.2]
  simp [h.1]
theorem words_blank (b : List UInt8) (hb : b.all blank = true) : words b = [] := by
  by_cases hne : b = []
  · subst hne; rfl
  · have := words_joins [] b [] hb hne
    have h0 : words [] = [] := rfl
    rw [h0] at this
    simpa using this
theorem words_again (b : List UInt8) (hb : b.all blank = true) (hne : b ≠ []) : ∀ (x : List (List UInt8)), (∀ w ∈ x, isWord w) → words ((x.map (fun w => b ++ w)).flatten) = x
  | [], _ => rfl
  | w :: x, h => by
    have ih := words_again b hb hne x (fun v hv => h v (List.mem_cons_of_mem _ hv))
    have hw := words_word w (h w (List.mem_cons_self ..))
    rw [List.map_cons, List.flatten_cons]
    cases x with
    | nil =>
      simp only [List.map_nil, List.flatten_nil, List.append_nil]
      have := words_joins [] b w hb hne
      rw [List.nil_append] at this
      rw [this, hw]; rfl
    | cons v x =>
      rw [List.map_cons, List.flatten_cons] at ih ⊢
      have e : b ++ w ++ (b ++ v ++ (x.map (fun w => b ++ w)).flatten) = [] ++ b ++ (w ++ b ++ (v ++ (x.map (fun w => b ++ w)).flatten)) := by simp
      rw [e, words_joins [] b _ hb hne, words_joins w b _ hb hne, hw]
      have e2 : b ++ v ++ (x.map (fun w => b ++ w)).flatten = [] ++ b ++ (v ++ (x.map (fun w => b ++ w)).flatten) := by simp
      rw [e2, words_joins [] b _ hb hne] at ih
      have h0 : words [] = [] := rfl
      rw [h0, List.nil_append] at ih ⊢
      rw [ih]; rfl

end Go.Proofs.YtlgodkjbilkloaaDoor.Pl
