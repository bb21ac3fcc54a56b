/-
  Book.Apart: fillText.
-/
import Derived.Test.YtidccanfjcanoaaGreatDoorAptL
namespace Go.Proofs.YtidccanfjcanoaaGreatDoor
open Go.RowKit
set_option linter.unusedVariables false

/-- All but the blocks of P are as they were. -/
structure KeptBut (w w' : World) (P : Nat → Prop) : Prop where
  os : w'.os = w.os
  tape : w'.tape = w.tape
  output : w'.output = w.output
  size : w.heap.size ≤ w'.heap.size
  block : ∀ k, k < w.heap.size → ¬ P k → w'.heap[k]? = w.heap[k]?
theorem KeptBut.refl (w : World) (P : Nat → Prop) : KeptBut w w P := ⟨rfl, rfl, rfl, Nat.le_refl _, fun _ _ _ => rfl⟩
theorem KeptBut.grown {w w1 w2 : World} {P : Nat → Prop} {row : Option Nat} (h : KeptBut w w1 P) (g : w1.grownBy w2 row) (hr : ∀ k, row = some k → k < w.heap.size → P k) : KeptBut w w2 P :=
  ⟨g.os.trans h.os, g.tape.trans h.tape, g.output.trans h.output, Nat.le_trans h.size g.size, fun k hk hP => (g.block k (Nat.lt_of_lt_of_le hk h.size) (fun e => hP (hr k e.symm hk))).trans (h.block k hk hP)⟩
/-- The list of held rows: m of them, three cells each. -/
structure Held (K H m cap : Nat) (F : Nat) (bt ht : TypeId) (V L : Nat → Value) (w : World) : Prop where
  book : w.cell? ⟨K, F, none⟩ = some (.slice (some ⟨H, 0, none⟩) m cap)
  kb : ∃ cur fz, w.heap[K]? = some (.cells cur bt fz)
  hb : ∃ cur, w.heap[H]? = some (.cells cur ht (0, 0))
  l : ∀ j, j < m → w.cell? ⟨H, j * 3, none⟩ = some (V j)
  long : ∀ j, j < m → w.cell? ⟨H, j * 3 + 1, none⟩ = some (L j)
  n : ∀ j, j < m → w.cell? ⟨H, j * 3 + 2, none⟩ = some (.int .i64 ((j : Int) + 1))
theorem Held.same {K H m cap F : Nat} {bt ht : TypeId} {V L : Nat → Value} {w w' : World} (h : Held K H m cap F bt ht V L w) (hK : w'.heap[K]? = w.heap[K]?) (hH : w'.heap[H]? = w.heap[H]?) : Held K H m cap F bt ht V L w' := by
  have eK : ∀ k, w'.cell? ⟨K, k, none⟩ = w.cell? ⟨K, k, none⟩ := fun k => World.cell?_of_block hK
  have eH : ∀ k, w'.cell? ⟨H, k, none⟩ = w.cell? ⟨H, k, none⟩ := fun k => World.cell?_of_block hH
  exact ⟨by rw [eK]; exact h.book, by rw [hK]; exact h.kb, by rw [hH]; exact h.hb, fun j hj => by rw [eH]; exact h.l j hj, fun j hj => by rw [eH]; exact h.long j hj, fun j hj => by rw [eH]; exact h.n j hj⟩
theorem Held.ltK {K H m cap F : Nat} {bt ht : TypeId} {V L : Nat → Value} {w : World} (h : Held K H m cap F bt ht V L w) : K < w.heap.size := by
  obtain ⟨_, _, e⟩ := h.kb
  exact (Array.getElem?_eq_some_iff.1 e).1
theorem Held.ltH {K H m cap F : Nat} {bt ht : TypeId} {V L : Nat → Value} {w : World} (h : Held K H m cap F bt ht V L w) : H < w.heap.size := by
  obtain ⟨_, e⟩ := h.hb
  exact (Array.getElem?_eq_some_iff.1 e).1
theorem own_lt {w : World} {base e size n g : Nat} {v : Value} {xs : List Value} (h : w.ownsRow base e size v n xs) (hg : v.ownBlock = some g) : g < w.heap.size := by
  rcases h.2 with ⟨rfl, _⟩ | ⟨g', cap, cur', rfl, _, hg', _⟩
  · cases hg
  · obtain rfl : g' = g := by simpa [Value.ownBlock] using hg
    exact (Array.getElem?_eq_some_iff.1 hg').1
theorem own_at {w : World} {base e size n g : Nat} {v : Value} {xs : List Value} (h : w.ownsRow base e size v n xs) (hg : v.ownBlock = some g) : ∃ cur, w.heap[g]? = some (.cells cur e (0, 0)) := by
  rcases h.2 with ⟨rfl, _⟩ | ⟨g', cap, cur', rfl, _, hg', _⟩
  · cases hg
  · obtain rfl : g' = g := by simpa [Value.ownBlock] using hg
    exact ⟨_, hg'⟩
/-- No two of the rows share a block. -/
def ApartV (m : Nat) (V : Nat → Value) : Prop := ∀ i j, i < m → j < m → i ≠ j → (V i).ownBlock = none ∨ (V i).ownBlock ≠ (V j).ownBlock
/-- The first i rows hold marks, the others what they held. -/
def FillSt (base e : Nat) (mk : Nat → Value) (m : Nat) (V : Nat → Value) (N : Nat → Nat) (xs : Nat → List Value) (i : Nat) (w : World) : Prop :=
  ∀ j, j < m → w.ownsRow base e 1 (V j) (N j) (if j < i then List.replicate (N j) (mk (j + 1)) else xs j)
def mixed (mk : Value) (k : Nat) (xs : List Value) : List Value := List.replicate k mk ++ xs.drop k
theorem mixed_zero (mk : Value) (xs : List Value) : mixed mk 0 xs = xs := by simp [mixed]
theorem mixed_set (mk : Value) (k : Nat) (xs : List Value) (hk : k < xs.length) : (mixed mk k xs).set k mk = mixed mk (k + 1) xs := by
  unfold mixed
  rw [List.set_append_right _ _ (by simp)]
  rw [List.length_replicate, Nat.sub_self, List.drop_eq_getElem_cons hk, List.set_cons_zero, List.replicate_succ', List.append_assoc]
  rfl
theorem mixed_all (mk : Value) (xs : List Value) : mixed mk xs.length xs = List.replicate xs.length mk := by simp [mixed]
theorem own_len {w : World} {base e n : Nat} {v : Value} {xs : List Value} (h : w.ownsRow base e 1 v n xs) : xs.length = n := by have := h.1; omega
theorem own_lenOf {w : World} {base e n : Nat} {v : Value} {xs : List Value} (h : w.ownsRow base e 1 v n xs) : (∃ a cap, v = .slice a n cap) := by
  rcases h.2 with ⟨rfl, rfl⟩ | ⟨g', cap, cur', rfl, _, hg', _⟩
  · exact ⟨_, _, rfl⟩
  · exact ⟨_, _, rfl⟩
theorem fillSt_next {base e : Nat} {mk : Nat → Value} {m : Nat} {V : Nat → Value} {N : Nat → Nat} {xs : Nat → List Value} {i : Nat} {w w' : World} (hi : i < m) (hA : ApartV m V) (h : FillSt base e mk m V N xs i w) (hg : w.grownBy w' (V i).ownBlock)
    (ho : w'.ownsRow base e 1 (V i) (N i) (List.replicate (N i) (mk (i + 1)))) : FillSt base e mk m V N xs (i + 1) w' := by
  intro j hj
  by_cases hij : j = i
  · subst hij
    rw [if_pos (by omega)]
    exact ho
  · have h1 := h j hj
    have e1 : (if j < i + 1 then List.replicate (N j) (mk (j + 1)) else xs j) = (if j < i then List.replicate (N j) (mk (j + 1)) else xs j) := by
      by_cases h2 : j < i
      · rw [if_pos h2, if_pos (by omega)]
      · rw [if_neg h2, if_neg (by omega)]
    rw [e1]
    exact h1.kept hg (hA j i hj hi hij)

theorem grown_belowd {w w' : World} {row : Option Nat} (h : Below w.drew.heap.size w.drew w') : w.grownBy w' row := ⟨h.os, h.tape, h.output, h.size, fun k hk _ => h.block k hk⟩
theorem markText_i (i : Nat) (hi : i ≤ 999) (w : World) (hP : Pow10 w) :
    Calls Tryz.prog 90 #[.int .i64 ((i : Int) + 1)] w fun e w' => e = .returned (.string (mkT (i + 1))) ∧ Below w.heap.size w w' := markText_any (i + 1) (by omega) w hP
set_option maxHeartbeats 2000000 in
set_option maxRecDepth 100000 in
theorem fillText_any (K H m cap B : Nat) (V : Nat → Value) (N : Nat → Nat) (xs : Nat → List Value) (w : World) (hm : m ≤ 999) (hN : ∀ j, j < m → N j ≤ 17592186044416)
    (hH : Held K H m cap 3 44 74 V (fun _ => .slice none 0 0) w) (hA : ApartV m V) (hx : ∀ j, j < m → w.ownsRow B 9 1 (V j) (N j) (xs j)) (hP : Pow10 w)
    (hPk : ∀ w', KeptBut w w' (fun k => ∃ j, j < m ∧ (V j).ownBlock = some k) → Pow10 w') :
    Calls Tryz.prog 32 #[.pointer (some ⟨K, 0, none⟩)] w fun e w' => e = .returned (.tuple #[]) ∧ KeptBut w w' (fun k => ∃ j, j < m ∧ (V j).ownBlock = some k) ∧ ∀ j, j < m → w'.ownsRow B 9 1 (V j) (N j) (List.replicate (N j) (.string (mkT (j + 1)))) := by
  have h0 : FillSt B 9 (fun n => .string (mkT n)) m V N xs 0 w := fun j hj => by rw [if_neg (by omega)]; exact hx j hj
  have hNK : ∀ j, j < m → (V j).ownBlock ≠ some K := fun j hj => by obtain ⟨c, f, e⟩ := hH.kb; exact own_ne (hx j hj) e (by decide)
  have hNH : ∀ j, j < m → (V j).ownBlock ≠ some H := fun j hj => by obtain ⟨c, e⟩ := hH.hb; exact own_ne (hx j hj) e (by decide)
  have HX := Lib.hid hx
  have HH := Lib.hid hH
  have HA := Lib.hid hA
  have HNK := Lib.hid hNK
  have HNH := Lib.hid hNH
  have HPK := Lib.hid hPk
  have HN := Lib.hid hN
  have HF := Lib.hid h0
  clear hx hH hA hNK hNH hPk hN h0
  go_enter Tryz.func32, Tryz.ntmps32
  go_wp2_with fail
  go_loopw [2] (fun i wr => ∃ k : Nat, k ≤ m ∧ i = .int .i64 k ∧ KeptBut w wr (fun k => ∃ j, j < m ∧ (V j).ownBlock = some k) ∧ FillSt B 9 (fun n => .string (mkT n)) m V N xs k wr) (fun i _ => m - (intOf i).toNat)
  case atStart => exact ⟨0, by omega, rfl, KeptBut.refl _ _, HF.out⟩
  case round =>
    obtain ⟨wo, rfl⟩ : ∃ x, x = wr := ⟨wr, rfl⟩
    obtain ⟨i, hi, rfl, hkb, hst⟩ := hrel
    have hpow := HPK.out _ hkb
    have hheld := HH.out.same (hkb.block K HH.out.ltK (fun ⟨j, hj, e⟩ => HNK.out j hj e)) (hkb.block H HH.out.ltH (fun ⟨j, hj, e⟩ => HNH.out j hj e))
    have cb := hheld.book
    have HST := Lib.hid hst
    have HKB := Lib.hid hkb
    have HHE := Lib.hid hheld
    have HPW := Lib.hid hpow
    clear hst hkb hheld hpow
    by_cases hc : i < m
    · have hoi := HST.out i hc
      rw [if_neg (by omega)] at hoi
      have hNi := HN.out i hc
      have hlen := own_len hoi
      obtain ⟨a, cp, hv⟩ := own_lenOf hoi
      have c0 := HHE.out.l i hc
      have c1 := HHE.out.long i hc
      have c2 := HHE.out.n i hc
      rw [hv] at c0
      have hbx := heap_alloc_new wo (.cells #[.slice a (N i) cp, .slice none 0 0, .int .i64 ((i : Int) + 1)] 74)
      have HBX := Lib.hid hbx
      have HOI := Lib.hid hoi
      have HV := Lib.hid hv
      clear hbx hoi hv
      go_wp2_with fail
      go_loopw [4] (fun y w2 => ∃ k : Nat, k ≤ N i ∧ y = .int .i64 k ∧ w2.heap[wo.heap.size]? = some (.cells #[.slice a (N i) cp, .slice none 0 0, .int .i64 ((i : Int) + 1)] 74 (0, 0)) ∧ w2.ownsRow B 9 1 (V i) (N i) (mixed (.string (mkT (i + 1))) k (xs i)) ∧ wo.grownBy w2 (V i).ownBlock) (fun y _ => N i - (intOf y).toNat)
      case atStart => exact ⟨0, by omega, rfl, HBX.out, by rw [mixed_zero]; exact HOI.out.alloc _, grown_below ((Below.refl _ _).alloc (Nat.le_refl _) _)⟩
      case round =>
        obtain ⟨k, hk, rfl, hb2, ho2, hg2⟩ := hrel
        have hlt2 : wo.heap.size < wr.heap.size := (Array.getElem?_eq_some_iff.1 hb2).1
        have d0 : wr.cell? ⟨wo.heap.size, 0, none⟩ = some (.slice a (N i) cp) := by rw [Lib.cell_of_heap hb2]; rfl
        by_cases hk2 : k < N i
        · obtain ⟨g, cp', e1, hBg, hgl, hcell, hfro⟩ := own_cell ho2 k hk2
          have hne : ∀ G, (V i).ownBlock = some G → G ≠ wo.heap.size := fun G e => by have := own_lt HOI.out e; omega
          rw [e1] at hne
          have hne2 : g ≠ wo.heap.size := hne g rfl
          clear hne
          have e2 := HV.out.symm.trans e1
          injection e2 with e3 e5 e4
          subst e3 e4
          have d2 : wr.cell? ⟨wo.heap.size, 2, none⟩ = some (.int .i64 ((i : Int) + 1)) := by rw [Lib.cell_of_heap hb2]; rfl
          have hpow : Pow10 wr := HPK.out _ (HKB.out.grown hg2 (fun k e _ => ⟨i, hc, e⟩))
          have HB2 := Lib.hid hb2
          have HO2 := Lib.hid ho2
          have HG2 := Lib.hid hg2
          have HPO := Lib.hid hpow
          clear hb2 ho2 hg2 hpow e5
          go_wp2_with fail
          go_region_with (first
            | (go_at_call 90; go_loud (refine (markText_i i (by omega) _ (show Pow10 wr.drew from HPO.out)).mono ?_; rintro e w3 ⟨rfl, b3⟩; have f3 := b3.block wo.heap.size hlt2; have f4 := b3.block g hgl; have g0 : w3.cell? ⟨wo.heap.size, 0, none⟩ = some (.slice (some ⟨g, 0, none⟩) (N i) cp) := (by rw [Lib.cell_of_heap (f3.trans HB2.out)]; rfl); have g2 : w3.cell? ⟨wo.heap.size, 2, none⟩ = some (.int .i64 ((i : Int) + 1)) := (by rw [Lib.cell_of_heap (f3.trans HB2.out)]; rfl); have g3 : w3.cell? ⟨g, k, none⟩ = _ := (World.cell?_of_block f4).trans hcell; have g4 : w3.frozen? ⟨g, k, none⟩ = false := (World.frozen?_of_block f4).trans hfro; have F3 := Lib.hid f3; clear f3 f4)))
          all_goals
            go_wp2_with fail
            go_roundw
            case rel => exact ⟨k + 1, by omega, by go_num, by rw [Below.heap_setCell _ _ _ _ (fun e => hne2 e.symm)]; exact F3.out.trans HB2.out, by
                have h1 := (HO2.out.kept (row := none) (grown_belowd b3) (.inr (by rw [e1]; simp [Value.ownBlock])))
                have h2 := own_set (by rw [e1] at h1; exact h1) k hk2 (.string (mkT (i + 1)))
                rw [mixed_set _ _ _ (by omega)] at h2
                rw [e1]
                exact h2, (HG2.out.andThen (grown_belowd (row := none) b3) (fun _ e => by cases e)).andThen (grown_set _ _ _ _) (fun j e => .inr (by rw [e1]; exact e))⟩
            case measure => simp [intOf]; omega
        · obtain rfl : k = N i := by omega
          have HO2 := Lib.hid ho2
          have HG2 := Lib.hid hg2
          clear ho2 hg2 hb2
          go_wp2_with fail
          go_roundw
          case rel => exact ⟨i + 1, by omega, by go_num, HKB.out.grown HG2.out (fun k e _ => ⟨i, hc, e⟩), fillSt_next hc HA.out HST.out HG2.out (by have h := HO2.out; rw [← hlen, mixed_all, hlen] at h; exact h)⟩
          case measure => simp [intOf]; omega
    · obtain rfl : i = m := by omega
      go_wp2_with fail
      go_end0
      exact ⟨rfl, HKB.out, fun j hj => by have h := HST.out j hj; rw [if_pos hj] at h; exact h⟩
end Go.Proofs.YtidccanfjcanoaaGreatDoor
