/-
  PLAIN: names of files: the pieces between points. No program here.
-/
import Derived.Test.YtcainpicbkncpaaDoorPlain
import Derived.Lib.Split
import Derived.Lib.SplitLaws
namespace Go.Proofs.YtcainpicbkncpaaDoor.Pa
open Go.Lib

/-- A text laid ahead of the first piece. -/
def pre (cur : List UInt8) : List (List UInt8) → List (List UInt8)
  | [] => [cur]
  | p :: ps => (cur ++ p) :: ps
/-- The pieces between points. -/
def pieces : List UInt8 → List (List UInt8)
  | [] => [[]]
  | c :: r => if c = 46 then [] :: pieces r else pre [c] (pieces r)
def names (l : List UInt8) : Bool := (pieces l).all Pl.name
def check (l : List UInt8) : Bool := decide (l.length ≤ 60) && names l

theorem index_cons (c : UInt8) (r : List UInt8) (h : c ≠ 46) : index (c :: r) [46] = if index r [46] == -1 then -1 else index r [46] + 1 := by
  have h0 : ([46] : List UInt8).isPrefixOf (c :: r) = false := by
    simp [List.isPrefixOf]; exact fun e => h e.symm
  conv => lhs; unfold index
  rw [h0]; rfl
theorem split_cons (c : UInt8) (h : c ≠ 46) : ∀ (k : Nat) (r : List UInt8), splitK [46] 0 k (c :: r) = pre [c] (splitK [46] 0 k r)
  | 0, r => rfl
  | k + 1, r => by
    have hi := index_cons c r h
    have hg := index_ge r [46]
    by_cases hm : index r [46] = -1
    · have : index (c :: r) [46] = -1 := by rw [hi, hm]; rfl
      unfold splitK
      rw [if_pos (beq_iff_eq.2 this), if_pos (beq_iff_eq.2 hm)]; rfl
    · have hm' : ¬ (index r [46] == -1) = true := by simpa using hm
      have hs : index (c :: r) [46] = index r [46] + 1 := by rw [hi, if_neg hm']
      have hs' : ¬ (index (c :: r) [46] == -1) = true := by rw [hs]; simp; omega
      have ht : (index (c :: r) [46]).toNat = (index r [46]).toNat + 1 := by rw [hs]; omega
      unfold splitK
      rw [if_neg hs', if_neg hm', ht]
      simp only [Nat.add_zero, List.take_succ_cons, pre, List.singleton_append]
      congr 1
theorem split_pieces : ∀ (s : List UInt8), splitK [46] 0 (count s [46]) s = pieces s
  | [] => by
    unfold pieces
    have : count [] [46] = 0 := by rw [count_one]; rfl
    rw [this]; rfl
  | c :: r => by
    unfold pieces
    by_cases h : c = 46
    · subst h
      rw [if_pos rfl, count_cons_eq, Nat.add_comm 1]
      have hi : index (46 :: r) [46] = 0 := by
        conv => lhs; unfold index
        rw [if_pos (by simp [List.isPrefixOf])]
      unfold splitK
      rw [if_neg (by rw [hi]; decide), hi]
      have := split_pieces r
      simp only [Int.toNat_zero, Nat.zero_add, List.take_zero, List.length_cons, List.length_nil, List.drop_succ_cons, List.drop_zero]
      rw [this]
    · rw [if_neg h, count_cons_ne _ _ _ h, split_cons c h, split_pieces r]

theorem pieces_ne : ∀ (s : List UInt8), pieces s ≠ []
  | [] => by simp [pieces]
  | c :: r => by
    unfold pieces
    split
    · simp
    · cases h : pieces r <;> simp [pre]
theorem pre_append (a b : List UInt8) (l : List (List UInt8)) (h : l ≠ []) : pre (a ++ b) l = pre a (pre b l) := by
  cases l with
  | nil => exact absurd rfl h
  | cons p ps => simp [pre]
theorem pieces_joins : ∀ (a b : List UInt8), pieces (a ++ 46 :: b) = pieces a ++ pieces b
  | [], b => by simp [pieces]
  | c :: a, b => by
    rw [List.cons_append]
    conv => lhs; unfold pieces
    conv => rhs; lhs; unfold pieces
    rw [pieces_joins a b]
    by_cases h : c = 46
    · rw [if_pos h, if_pos h]; rfl
    · rw [if_neg h, if_neg h]
      cases hp : pieces a with
      | nil => exact absurd hp (pieces_ne a)
      | cons p ps => rfl
theorem pieces_none : ∀ (a : List UInt8), (∀ c ∈ a, c ≠ 46) → pieces a = [a]
  | [], _ => rfl
  | c :: a, h => by
    unfold pieces
    rw [if_neg (h c (List.mem_cons_self ..)), pieces_none a (fun x hx => h x (List.mem_cons_of_mem _ hx))]; rfl
theorem names_joins (a b : List UInt8) : names (a ++ 46 :: b) = (names a && names b) := by
  unfold names; rw [pieces_joins, List.all_append]
theorem name_len (a : List UInt8) (h : Pl.name a = true) : a.length ≤ 60 := by
  unfold Pl.name at h
  simp only [Bool.and_eq_true, decide_eq_true_eq] at h
  exact h.1.1
theorem name_noDot (a : List UInt8) (h : Pl.name a = true) : ∀ c ∈ a, c ≠ 46 := by
  unfold Pl.name at h
  simp only [Bool.and_eq_true] at h
  intro c hc e
  have := List.all_eq_true.1 h.2 c hc
  subst e
  revert this
  decide
theorem names_name (a : List UInt8) (h : Pl.name a = true) : names a = true := by
  unfold names
  rw [pieces_none a (name_noDot a h)]
  simp [h]
theorem check_name (a : List UInt8) (h : Pl.name a = true) : check a = true := by
  unfold check
  rw [names_name a h, decide_eq_true (name_len a h)]; rfl
theorem names_nil : names [] = false := rfl
theorem check_dotEnd (a : List UInt8) : check (a ++ [46]) = false := by
  unfold check
  rw [show a ++ [46] = a ++ 46 :: [] from rfl, names_joins, names_nil]; simp
theorem check_dotHead (a : List UInt8) : check (46 :: a) = false := by
  unfold check
  rw [show (46 : UInt8) :: a = [] ++ 46 :: a from rfl, names_joins, names_nil]; simp
theorem check_dots (a b : List UInt8) : check (a ++ [46, 46] ++ b) = false := by
  unfold check
  rw [show a ++ [46, 46] ++ b = (a ++ [46]) ++ 46 :: b by simp, names_joins, show a ++ [46] = a ++ 46 :: [] from rfl, names_joins, names_nil]; simp
theorem check_joins (a b : List UInt8) : check (a ++ [46] ++ b) = (check a && check b && decide (a.length + b.length < 60)) := by
  unfold check
  rw [show a ++ [46] ++ b = a ++ 46 :: b by simp, names_joins]
  rw [Bool.eq_iff_iff]
  cases names a <;> cases names b <;> simp
  omega
def html : List UInt8 := [104, 116, 109, 108]
theorem check_page (a : List UInt8) (h : check a = true) : check (a ++ 46 :: html) = decide ((a ++ 46 :: html).length ≤ 60) := by
  unfold check at *
  simp only [Bool.and_eq_true] at h
  rw [names_joins, h.2, show names html = true by decide]; simp
/-- A byte that may stand in a file's name; the first one. -/
def okB (c : UInt8) : Bool := Pl.nmB c || c == 46
theorem names_ok : ∀ (s cur : List UInt8), cur.all okB = true → (pre cur (pieces s)).all Pl.name = true → (cur ++ s).all okB = true
  | [], cur, hc, _ => by simpa using hc
  | c :: r, cur, hc, h => by
    unfold pieces at h
    by_cases h46 : c = 46
    · rw [if_pos h46] at h
      subst h46
      simp only [pre, List.append_nil, List.all_cons, Bool.and_eq_true] at h
      have hp : pre [] (pieces r) = pieces r := by cases hq : pieces r <;> simp [pre]; exact absurd hq (pieces_ne r)
      have := names_ok r [] rfl (by rw [hp]; exact h.2)
      rw [List.all_append, hc, List.all_cons]
      simpa [okB] using this
    · rw [if_neg h46, ← pre_append cur [c] _ (pieces_ne r)] at h
      by_cases hcc : okB c = true
      · have := names_ok r (cur ++ [c]) (by rw [List.all_append, hc]; simpa using hcc) h
        simpa using this
      · exfalso
        cases hq : pieces r with
        | nil => exact pieces_ne r hq
        | cons p ps =>
          rw [hq] at h
          simp only [pre, List.all_cons, Bool.and_eq_true] at h
          have hn := h.1
          unfold Pl.name at hn
          simp only [Bool.and_eq_true] at hn
          have := List.all_eq_true.1 hn.2 c (by simp)
          exact hcc (by simp [okB, this])
theorem pre_nil (s : List UInt8) : pre [] (pieces s) = pieces s := by cases hq : pieces s <;> simp [pre]; exact absurd hq (pieces_ne s)
theorem check_ok (s : List UInt8) (h : check s = true) : s.all okB = true := by
  unfold check names at h
  simp only [Bool.and_eq_true] at h
  have := names_ok s [] rfl (by rw [pre_nil]; exact h.2)
  simpa using this
theorem check_head (s : List UInt8) (h : check s = true) : ∃ c r, s = c :: r ∧ Pl.isLet c.toNat = true := by
  unfold check names at h
  simp only [Bool.and_eq_true] at h
  cases s with
  | nil => exact absurd h.2 (by decide)
  | cons c r =>
    refine ⟨c, r, rfl, ?_⟩
    have h2 := h.2
    unfold pieces at h2
    by_cases h46 : c = 46
    · rw [if_pos h46] at h2
      simp only [List.all_cons, Bool.and_eq_true] at h2
      exact absurd h2.1 (by decide)
    · rw [if_neg h46] at h2
      cases hq : pieces r with
      | nil => exact absurd hq (pieces_ne r)
      | cons p ps =>
        rw [hq] at h2
        simp only [pre, List.all_cons, Bool.and_eq_true, List.singleton_append] at h2
        have hn := h2.1
        unfold Pl.name at hn
        simp only [Bool.and_eq_true] at hn
        exact hn.1.2
theorem lowB_dot (c : UInt8) : Pl.lowB c = 46 ↔ c = 46 := by
  constructor
  · intro h
    have h1 := Pl.lowB_toNat c
    rw [h] at h1
    have h46 : (((46 : UInt8).toNat : Nat) : Int) = 46 := rfl
    rw [h46] at h1
    have h2 : Pl.lowI c.toNat = 46 := h1.symm
    unfold Pl.lowI at h2
    apply Pl.u8_ext
    rw [h46]
    split at h2 <;> omega
  · rintro rfl; rfl
theorem lower_pieces : ∀ (s : List UInt8), pieces (Pl.lower s) = (pieces s).map Pl.lower
  | [] => rfl
  | c :: r => by
    have ih := lower_pieces r
    unfold Pl.lower at *
    rw [List.map_cons]
    unfold pieces
    by_cases h : c = 46
    · rw [if_pos h, if_pos ((lowB_dot c).2 h), ih]; rfl
    · rw [if_neg h, if_neg (fun e => h ((lowB_dot c).1 e)), ih]
      cases hq : pieces r with
      | nil => exact absurd hq (pieces_ne r)
      | cons p ps => simp [pre]
theorem check_lower (s : List UInt8) : check (Pl.lower s) = check s := by
  unfold check names
  rw [lower_pieces, Pl.lower_length, List.all_map]
  congr 2
  funext x
  exact Pl.name_lower x
def link (page anchor : List UInt8) : List UInt8 := if anchor = [] then page else page ++ [35] ++ anchor
theorem link_eq (p a b : List UInt8) : link p a = link p b ↔ a = b := by
  unfold link
  by_cases ha : a = []
  · by_cases hb : b = []
    · simp [ha, hb]
    · rw [if_pos ha, if_neg hb]
      constructor
      · intro h
        have := congrArg List.length h
        simp at this
      · intro h; exact absurd (h ▸ ha) hb
  · by_cases hb : b = []
    · rw [if_neg ha, if_pos hb]
      constructor
      · intro h
        have := congrArg List.length h
        simp at this
      · intro h; exact absurd (h ▸ hb) ha
    · rw [if_neg ha, if_neg hb]; simp
theorem link_pre (p a : List UInt8) : ∃ t, link p a = p ++ t := by
  unfold link
  split
  · exact ⟨[], by simp⟩
  · exact ⟨[35] ++ a, by simp⟩
end Go.Proofs.YtcainpicbkncpaaDoor.Pa
