/-
  PLAIN: signs of a text (a byte that belongs to none is one); lines of some width. No program here.
-/
import Derived.Test.YtidccanfjcanoaaGreatDoorPlain
import Derived.Lib.DecodeN
namespace Go.Proofs.YtidccanfjcanoaaGreatDoor.Fi
open Go.Lib Go.Proofs.YtidccanfjcanoaaGreatDoor.Pl

/-! ### signs -/
def decW (n b0 b1 b2 b3 : Nat) : Nat := (decodeN n b0 b1 b2 b3).2
/-- How many bytes the first sign has. -/
def sgw (l : List UInt8) : Nat := decW l.length (l.getD 0 0).toNat (l.getD 1 0).toNat (l.getD 2 0).toNat (l.getD 3 0).toNat

theorem decW_pos (n b0 b1 b2 b3 : Nat) : 1 ≤ decW n b0 b1 b2 b3 := by
  unfold decW decodeN
  repeat' split
  all_goals simp
theorem decW_le (n b0 b1 b2 b3 : Nat) (h : 1 ≤ n) : decW n b0 b1 b2 b3 ≤ n := by
  unfold decW decodeN
  repeat' split
  all_goals simp only
  all_goals omega
theorem decW_one (n b0 b1 b2 b3 : Nat) (h : ¬ (1 < n ∧ b1 / 64 = 2)) : decW n b0 b1 b2 b3 = 1 := by
  unfold decW decodeN
  repeat' split
  all_goals first | rfl | (exfalso; omega)
theorem decW_two (n n' b0 b1 b2 b3 c2 c3 : Nat) (hn : 1 < n) (hn' : 1 < n') (h : ¬ (2 < n ∧ b2 / 64 = 2)) (h' : ¬ (2 < n' ∧ c2 / 64 = 2)) : decW n b0 b1 b2 b3 = decW n' b0 b1 c2 c3 := by
  unfold decW decodeN
  simp only [h, h', hn, hn', true_and, false_and, and_false, if_false]
theorem decW_three (n n' b0 b1 b2 b3 c3 : Nat) (hn : 2 < n) (hn' : 2 < n') (h : ¬ (3 < n ∧ b3 / 64 = 2)) (h' : ¬ (3 < n' ∧ c3 / 64 = 2)) : decW n b0 b1 b2 b3 = decW n' b0 b1 b2 c3 := by
  have h1 : 1 < n := by omega
  have h2 : 1 < n' := by omega
  unfold decW decodeN
  simp only [h, h', hn, hn', h1, h2, true_and, and_false, if_false]
theorem decW_four (n n' b0 b1 b2 b3 : Nat) (hn : 3 < n) (hn' : 3 < n') : decW n b0 b1 b2 b3 = decW n' b0 b1 b2 b3 := by
  have h1 : 1 < n := by omega
  have h2 : 1 < n' := by omega
  have h3 : 2 < n := by omega
  have h4 : 2 < n' := by omega
  unfold decW decodeN
  simp only [hn, hn', h1, h2, h3, h4]

theorem sgw_pos (l : List UInt8) : 1 ≤ sgw l := decW_pos _ _ _ _ _
theorem sgw_le (l : List UInt8) (h : l ≠ []) : sgw l ≤ l.length := decW_le _ _ _ _ _ (by
  cases l with
  | nil => exact absurd rfl h
  | cons c l => simp)
theorem sgw_blank (r : List UInt8) : sgw (32 :: r) = 1 := by
  unfold sgw decW decodeN
  have h : ((32 :: r).getD 0 0).toNat < 128 := by simp
  rw [if_pos h]
theorem sgw_front (a r : List UInt8) (h : a ≠ []) : sgw (a ++ 32 :: r) = sgw a := by
  match a, h with
  | [x], _ =>
    unfold sgw
    rw [decW_one _ _ _ _ _ (by simp), decW_one _ _ _ _ _ (by simp)]
  | [x, y], _ => exact decW_two _ _ _ _ _ _ _ _ (by simp) (by simp) (by simp) (by simp)
  | [x, y, z], _ => exact decW_three _ _ _ _ _ _ _ (by simp) (by simp) (by simp) (by simp)
  | x :: y :: z :: u :: t, _ => exact decW_four _ _ _ _ _ _ (by simp) (by simp)

def sigF : Nat → List UInt8 → Nat
  | 0, _ => 0
  | f + 1, l => if l = [] then 0 else 1 + sigF f (l.drop (sgw l))
/-- How many signs a text has. -/
def sigs (l : List UInt8) : Nat := sigF l.length l
theorem sigF_nil (f : Nat) : sigF f [] = 0 := by cases f <;> simp [sigF]
theorem sigF_enough : ∀ (f g : Nat) (l : List UInt8), l.length ≤ f → l.length ≤ g → sigF f l = sigF g l
  | 0, g, l, hf, _ => by
    obtain rfl : l = [] := List.eq_nil_of_length_eq_zero (by omega)
    rw [sigF_nil, sigF_nil]
  | f + 1, 0, l, _, hg => by
    obtain rfl : l = [] := List.eq_nil_of_length_eq_zero (by omega)
    rw [sigF_nil, sigF_nil]
  | f + 1, g + 1, l, hf, hg => by
    unfold sigF
    by_cases h : l = []
    · rw [if_pos h, if_pos h]
    · have hp := sgw_pos l
      rw [if_neg h, if_neg h, sigF_enough f g _ (by rw [List.length_drop]; omega) (by rw [List.length_drop]; omega)]
theorem sigs_nil : sigs [] = 0 := rfl
theorem sigs_step (l : List UInt8) (h : l ≠ []) : sigs l = 1 + sigs (l.drop (sgw l)) := by
  have hl : 0 < l.length := List.length_pos_iff.2 h
  have hp := sgw_pos l
  unfold sigs
  obtain ⟨n, hn⟩ : ∃ n, l.length = n + 1 := ⟨l.length - 1, by omega⟩
  rw [hn, sigF, if_neg h, sigF_enough n (l.drop (sgw l)).length _ (by rw [List.length_drop]; omega) (Nat.le_refl _)]
theorem sigF_le : ∀ (f : Nat) (l : List UInt8), sigF f l ≤ f
  | 0, _ => by simp [sigF]
  | f + 1, l => by
    have := sigF_le f (l.drop (sgw l))
    unfold sigF
    split <;> omega
theorem sigs_le (l : List UInt8) : sigs l ≤ l.length := sigF_le _ _
theorem sigs_pos (l : List UInt8) (h : l ≠ []) : 1 ≤ sigs l := by rw [sigs_step l h]; omega
theorem sigs_blank (r : List UInt8) : sigs (32 :: r) = 1 + sigs r := by
  rw [sigs_step _ (by simp), sgw_blank]; rfl
theorem sigs_front_n : ∀ (n : Nat) (a r : List UInt8), a.length ≤ n → sigs (a ++ 32 :: r) = sigs a + 1 + sigs r
  | 0, a, r, h => by
    obtain rfl : a = [] := List.eq_nil_of_length_eq_zero (by omega)
    rw [List.nil_append, sigs_blank, sigs_nil]
  | n + 1, a, r, h => by
    by_cases ha : a = []
    · subst ha
      rw [List.nil_append, sigs_blank, sigs_nil]
    · have hp := sgw_pos a
      have hl := sgw_le a ha
      rw [sigs_step _ (by simp), sgw_front a r ha, sigs_step a ha, List.drop_append_of_le_length hl, sigs_front_n n _ r (by rw [List.length_drop]; omega)]
      omega
/-- A blank parts the signs. -/
theorem sigs_front (a r : List UInt8) : sigs (a ++ 32 :: r) = sigs a + 1 + sigs r := sigs_front_n _ a r (Nat.le_refl _)

/-! ### lines -/
/-- Words with a blank between each two. -/
def glue : List (List UInt8) → List UInt8
  | [] => []
  | w :: ws => w ++ (ws.map (32 :: ·)).flatten
theorem glue_snoc (L : List (List UInt8)) (w : List UInt8) (h : L ≠ []) : glue (L ++ [w]) = glue L ++ 32 :: w := by
  cases L with
  | nil => exact absurd rfl h
  | cons v L => simp [glue]
theorem glue_one (w : List UInt8) : glue [w] = w := by simp [glue]
theorem sigs_snoc (L : List (List UInt8)) (w : List UInt8) (h : L ≠ []) : sigs (glue (L ++ [w])) = sigs (glue L) + 1 + sigs w := by
  rw [glue_snoc L w h, sigs_front]
/-- The lines of words: cur stands on the line that is being filled. -/
def fl (wd : Nat) : List (List UInt8) → List (List UInt8) → List (List (List UInt8))
  | cur, [] => if cur = [] then [] else [cur]
  | cur, w :: ws => if cur ≠ [] ∧ wd < sigs (glue cur) + 1 + sigs w then cur :: fl wd [w] ws else fl wd (cur ++ [w]) ws
def linesOf (wd : Nat) (ws : List (List UInt8)) : List (List UInt8) := (fl wd [] ws).map glue
theorem fl_nil (wd : Nat) (cur : List (List UInt8)) : fl wd cur [] = if cur = [] then [] else [cur] := by rw [fl]
theorem fl_cons (wd : Nat) (cur ws : List (List UInt8)) (w : List UInt8) : fl wd cur (w :: ws) = if cur ≠ [] ∧ wd < sigs (glue cur) + 1 + sigs w then cur :: fl wd [w] ws else fl wd (cur ++ [w]) ws := by rw [fl]

theorem fl_flatten (wd : Nat) : ∀ (ws cur : List (List UInt8)), (fl wd cur ws).flatten = cur ++ ws
  | [], cur => by
    rw [fl_nil]
    split
    · rename_i h; subst h; rfl
    · simp
  | w :: ws, cur => by
    rw [fl_cons]
    split
    · rw [List.flatten_cons, fl_flatten wd ws [w]]; simp
    · rw [fl_flatten wd ws (cur ++ [w])]; simp
theorem fl_ne (wd : Nat) : ∀ (ws cur : List (List UInt8)), ∀ L ∈ fl wd cur ws, L ≠ []
  | [], cur => by
    rw [fl_nil]
    split
    · simp
    · rename_i h; simpa using h
  | w :: ws, cur => by
    rw [fl_cons]
    split
    · rename_i h
      intro L hL
      rcases List.mem_cons.1 hL with rfl | hL
      · exact h.1
      · exact fl_ne wd ws [w] L hL
    · exact fl_ne wd ws (cur ++ [w])
/-- No line is wider than it may be, but one of a single word. -/
theorem fl_fit (wd : Nat) : ∀ (ws cur : List (List UInt8)), (1 < cur.length → sigs (glue cur) ≤ wd) → ∀ L ∈ fl wd cur ws, 1 < L.length → sigs (glue L) ≤ wd
  | [], cur, h => by
    rw [fl_nil]
    split
    · simp
    · intro L hL
      rw [List.mem_singleton] at hL
      subst hL; exact h
  | w :: ws, cur, h => by
    rw [fl_cons]
    split
    · intro L hL
      rcases List.mem_cons.1 hL with rfl | hL
      · exact h
      · exact fl_fit wd ws [w] (by simp) L hL
    · rename_i h2
      refine fl_fit wd ws (cur ++ [w]) (fun h3 => ?_)
      have hc : cur ≠ [] := by rintro rfl; simp at h3
      rw [sigs_snoc cur w hc]
      have : ¬ wd < sigs (glue cur) + 1 + sigs w := fun h4 => h2 ⟨hc, h4⟩
      omega
/-- The first words of what the lines are. -/
theorem fl_head (wd : Nat) : ∀ (ws cur : List (List UInt8)), cur ≠ [] → ∃ L rest, fl wd cur ws = L :: rest ∧ L.head? = cur.head?
  | [], cur, h => ⟨cur, [], by rw [fl_nil, if_neg h], rfl⟩
  | w :: ws, cur, h => by
    rw [fl_cons]
    split
    · exact ⟨cur, _, rfl, rfl⟩
    · obtain ⟨L, rest, h1, h2⟩ := fl_head wd ws (cur ++ [w]) (by simp)
      refine ⟨L, rest, h1, h2.trans ?_⟩
      cases cur with
      | nil => exact absurd rfl h
      | cons c cur => rfl
/-- Each line but the first had no room on the line ahead. -/
theorem fl_room (wd : Nat) : ∀ (ws cur : List (List UInt8)) (i : Nat) (L M : List (List UInt8)), (fl wd cur ws)[i]? = some L → (fl wd cur ws)[i + 1]? = some M → wd < sigs (glue L) + 1 + sigs (M.headD [])
  | [], cur, i, L, M, h1, h2 => by
    rw [fl_nil] at h1 h2
    split at h2
    · simp at h2
    · simp at h2
  | w :: ws, cur, i, L, M, h1, h2 => by
    rw [fl_cons] at h1 h2
    split at h1
    · rename_i h
      rw [if_pos h] at h2
      cases i with
      | zero =>
        simp only [List.getElem?_cons_zero, Option.some.injEq] at h1
        subst h1
        obtain ⟨K, rest, h3, h4⟩ := fl_head wd ws [w] (by simp)
        rw [h3] at h2
        simp only [List.getElem?_cons_succ, List.getElem?_cons_zero, Option.some.injEq] at h2
        subst h2
        cases K with
        | nil => simp at h4
        | cons k K =>
          simp only [List.head?_cons, Option.some.injEq] at h4
          subst h4
          exact h.2
      | succ i =>
        simp only [List.getElem?_cons_succ] at h1 h2
        exact fl_room wd ws [w] i L M h1 h2
    · rename_i h
      rw [if_neg h] at h2
      exact fl_room wd ws (cur ++ [w]) i L M h1 h2

/-! ### words that stand on one line -/
theorem sigs_prefix : ∀ (B A : List (List UInt8)), A ≠ [] → sigs (glue A) ≤ sigs (glue (A ++ B))
  | [], A, _ => by simp
  | b :: B, A, h => by
    have := sigs_prefix B (A ++ [b]) (by simp)
    rw [List.append_assoc] at this
    rw [sigs_snoc A b h] at this
    simp only [List.singleton_append] at this
    omega
theorem fl_one (wd : Nat) : ∀ (ws cur : List (List UInt8)), cur ++ ws ≠ [] → (1 < (cur ++ ws).length → sigs (glue (cur ++ ws)) ≤ wd) → fl wd cur ws = [cur ++ ws]
  | [], cur, h, _ => by
    rw [List.append_nil] at h ⊢
    rw [fl_nil, if_neg h]
  | w :: ws, cur, h, hf => by
    have e : cur ++ w :: ws = (cur ++ [w]) ++ ws := by simp
    rw [fl_cons, if_neg, fl_one wd ws (cur ++ [w]) (by simp) (by rw [← e]; exact hf), ← e]
    rintro ⟨hc, h1⟩
    have h2 := hf (by
      cases cur with
      | nil => exact absurd rfl hc
      | cons c cur => simp; omega)
    have h3 := sigs_prefix ws (cur ++ [w]) (by simp)
    rw [← e, sigs_snoc cur w hc] at h3
    omega
theorem words_glue (L : List (List UInt8)) (h : ∀ w ∈ L, isWord w) : words (glue L) = L := by
  cases L with
  | nil => rfl
  | cons w L =>
    have hw := words_word w (h w (List.mem_cons_self ..))
    have ha := words_again [32] (by decide) (by simp) L (fun v hv => h v (List.mem_cons_of_mem _ hv))
    simp only [List.singleton_append] at ha
    cases L with
    | nil => simpa [glue] using hw
    | cons v L =>
      show words (w ++ ((v :: L).map (32 :: ·)).flatten) = _
      have e : w ++ ((v :: L).map (32 :: ·)).flatten = w ++ [32] ++ (v ++ (L.map (32 :: ·)).flatten) := by simp
      have e2 : ((v :: L).map (32 :: ·)).flatten = [] ++ [32] ++ (v ++ (L.map (32 :: ·)).flatten) := by simp
      rw [e, words_joins w [32] _ (by decide) (by simp), hw]
      rw [e2, words_joins [] [32] _ (by decide) (by simp)] at ha
      have h0 : words [] = [] := rfl
      rw [h0, List.nil_append] at ha
      rw [ha]; rfl
/-- Lines told one behind the other, a sign of a new line ahead of each: the words again. -/
theorem words_lines (F : List (List (List UInt8))) (h : ∀ L ∈ F, L ≠ [] ∧ ∀ w ∈ L, isWord w) : words ((F.map (fun L => 10 :: glue L)).flatten) = F.flatten := by
  induction F with
  | nil => rfl
  | cons L F ih =>
    have ih := ih (fun K hK => h K (List.mem_cons_of_mem _ hK))
    have hL := words_glue L (h L (List.mem_cons_self ..)).2
    have h0 : words [] = [] := rfl
    rw [List.map_cons, List.flatten_cons, List.flatten_cons]
    cases F with
    | nil =>
      have e : (10 :: glue L) ++ (([] : List (List (List UInt8))).map (fun L => 10 :: glue L)).flatten = [] ++ [10] ++ glue L := by simp
      rw [e, words_joins [] [10] _ (by decide) (by simp), h0, hL]; simp
    | cons K F =>
      rw [← ih]
      have e : (10 :: glue L) ++ ((K :: F).map (fun L => 10 :: glue L)).flatten = [] ++ [10] ++ (glue L ++ [10] ++ (glue K ++ (F.map (fun L => 10 :: glue L)).flatten)) := by simp
      have e2 : ((K :: F).map (fun L => 10 :: glue L)).flatten = [] ++ [10] ++ (glue K ++ (F.map (fun L => 10 :: glue L)).flatten) := by simp
      rw [e, e2, words_joins [] [10] _ (by decide) (by simp), words_joins (glue L) [10] _ (by decide) (by simp), words_joins [] [10] _ (by decide) (by simp), h0, hL]
      simp

/-! ### on wider lines there are no more of them -/
theorem fl_wider (wd wd' : Nat) (h : wd ≤ wd') : ∀ (ws cur cur' : List (List UInt8)) (d d' : Nat), (d' < d ∧ (cur ≠ []) ∧ (cur' ≠ []) ∧ cur.getLast? = cur'.getLast? ∨ d' = d ∧ (cur' <:+ cur) ∧ (cur = [] ↔ cur' = [])) →
    d' + (fl wd' cur' ws).length ≤ d + (fl wd cur ws).length
  | [], cur, cur', d, d', hh => by
    rw [fl_nil, fl_nil]
    rcases hh with ⟨h1, h2, h3, _⟩ | ⟨rfl, _, h2⟩
    · rw [if_neg h2, if_neg h3]; simp; omega
    · by_cases hc : cur = []
      · rw [if_pos hc, if_pos (h2.1 hc)]
        exact Nat.le_refl _
      · rw [if_neg hc, if_neg (fun e => hc (h2.2 e))]; exact Nat.le_refl _
  | w :: ws, cur, cur', d, d', hh => by
    rw [fl_cons, fl_cons]
    have last : ∀ (x : List (List UInt8)), (x ++ [w]).getLast? = some w := fun x => by simp
    rcases hh with ⟨h1, h2, h3, h4⟩ | ⟨rfl, h1, h2⟩
    · by_cases b : cur ≠ [] ∧ wd < sigs (glue cur) + 1 + sigs w
      · rw [if_pos b]
        by_cases b' : cur' ≠ [] ∧ wd' < sigs (glue cur') + 1 + sigs w
        · rw [if_pos b']
          have := fl_wider wd wd' h ws [w] [w] (d + 1) (d' + 1) (.inl ⟨by omega, by simp, by simp, rfl⟩)
          simp only [List.length_cons]; omega
        · rw [if_neg b']
          have := fl_wider wd wd' h ws [w] (cur' ++ [w]) (d + 1) d' (.inl ⟨by omega, by simp, by simp, by rw [last]; rfl⟩)
          simp only [List.length_cons]; omega
      · rw [if_neg b]
        by_cases b' : cur' ≠ [] ∧ wd' < sigs (glue cur') + 1 + sigs w
        · rw [if_pos b']
          rcases (by omega : d' + 1 < d ∨ d' + 1 = d) with h5 | h5
          · have := fl_wider wd wd' h ws (cur ++ [w]) [w] d (d' + 1) (.inl ⟨h5, by simp, by simp, by rw [last]; rfl⟩)
            simp only [List.length_cons]; omega
          · have := fl_wider wd wd' h ws (cur ++ [w]) [w] d (d' + 1) (.inr ⟨h5, List.suffix_append _ _, by simp⟩)
            simp only [List.length_cons]; omega
        · rw [if_neg b']
          exact fl_wider wd wd' h ws (cur ++ [w]) (cur' ++ [w]) d d' (.inl ⟨h1, by simp, by simp, by rw [last, last]⟩)
    · by_cases b : cur ≠ [] ∧ wd < sigs (glue cur) + 1 + sigs w
      · rw [if_pos b]
        by_cases b' : cur' ≠ [] ∧ wd' < sigs (glue cur') + 1 + sigs w
        · rw [if_pos b']
          have := fl_wider wd wd' h ws [w] [w] (d' + 1) (d' + 1) (.inr ⟨rfl, List.suffix_refl _, by simp⟩)
          simp only [List.length_cons]; omega
        · rw [if_neg b']
          have := fl_wider wd wd' h ws [w] (cur' ++ [w]) (d' + 1) d' (.inl ⟨by omega, by simp, by simp, by rw [last]; rfl⟩)
          simp only [List.length_cons]; omega
      · have b' : ¬ (cur' ≠ [] ∧ wd' < sigs (glue cur') + 1 + sigs w) := by
          rintro ⟨b1, b2⟩
          apply b
          have hc : cur ≠ [] := fun e => b1 (h2.1 e)
          refine ⟨hc, ?_⟩
          obtain ⟨p, hp⟩ := h1
          have : sigs (glue cur') ≤ sigs (glue cur) := by
            subst hp
            exact sigs_suffix p cur' b1
          omega
        rw [if_neg b, if_neg b']
        refine fl_wider wd wd' h ws (cur ++ [w]) (cur' ++ [w]) d' d' (.inr ⟨rfl, ?_, by simp⟩)
        obtain ⟨p, hp⟩ := h1
        exact ⟨p, by rw [← hp]; simp⟩
where
  sigs_suffix : ∀ (p cur' : List (List UInt8)), cur' ≠ [] → sigs (glue cur') ≤ sigs (glue (p ++ cur'))
    | [], _, _ => Nat.le_refl _
    | x :: p, cur', hc => by
      have := sigs_suffix p cur' hc
      obtain ⟨y, q, hq⟩ : ∃ y q, p ++ cur' = y :: q := by
        cases hpc : p ++ cur' with
        | nil => simp at hpc; exact absurd hpc.2 hc
        | cons y q => exact ⟨y, q, rfl⟩
      rw [hq] at this
      have e : glue (x :: y :: q) = x ++ 32 :: glue (y :: q) := by simp [glue]
      rw [List.cons_append, hq, e, sigs_front]
      omega
end Go.Proofs.YtidccanfjcanoaaGreatDoor.Fi
