/-
  Book.Apart for two rows of texts: the walk (printed by gen_apt.py).
-/
import Derived.Test.YtidccanfjcanoaaGreatDoorAptP
namespace Go.Proofs.YtidccanfjcanoaaGreatDoor
open Go.RowKit
set_option linter.unusedVariables false

theorem KeptBut.below {w w' : World} {P : Nat → Prop} {B : Nat} (h : KeptBut w w' P) (hB : B ≤ w.heap.size) (hP : ∀ k, P k → B ≤ k) : Below B w w' :=
  ⟨h.os, h.tape, h.output, h.size, fun k hk => h.block k (by omega) (fun e => by have := hP k e; omega)⟩
def two (x y : Value) : Nat → Value
  | 0 => x
  | _ => y
def twoN (x y : Nat) : Nat → Nat
  | 0 => x
  | _ => y
def twoL (x y : List Value) : Nat → List Value
  | 0 => x
  | _ => y
def noneOf (j : Nat) : Bool := decide (1 ≤ j ∧ j ≤ 17 ∧ j ≠ 3)
theorem book_none {w : World} {K : Nat} {n : Int} {tv : Value} (h : w.heap[K]? = some (.cells (bookC n nilV tv) 44 (0, 0))) : ∀ j, noneOf j = true → w.cell? ⟨K, j, none⟩ = some (.slice none 0 0) := by
  intro j hj
  rw [Lib.cell_of_heap h]
  have h1 := of_decide_eq_true hj
  obtain ⟨a, b, c⟩ := h1
  match j, a, b, c with
  | 1, _, _, _ => rfl
  | 2, _, _, _ => rfl
  | 3, _, _, c => exact absurd rfl c
  | 4, _, _, _ => rfl
  | 5, _, _, _ => rfl
  | 6, _, _, _ => rfl
  | 7, _, _, _ => rfl
  | 8, _, _, _ => rfl
  | 9, _, _, _ => rfl
  | 10, _, _, _ => rfl
  | 11, _, _, _ => rfl
  | 12, _, _, _ => rfl
  | 13, _, _, _ => rfl
  | 14, _, _, _ => rfl
  | 15, _, _, _ => rfl
  | 16, _, _, _ => rfl
  | 17, _, _, _ => rfl
set_option maxHeartbeats 4000000 in
set_option maxRecDepth 100000 in
theorem apart_texts (K B gp H m cap : Nat) (nn : Int) (hm : m ≤ 999) (hgp : Pow10At gp) (hgB : gp < B) (V : Nat → Value) (N : Nat → Nat) (xs : Nat → List Value) (w : World) (hBw : B ≤ w.heap.size) (hKB : B ≤ K) (hHB : B ≤ H) (hP : Pow10 w)
    (hN : ∀ j, j < m → N j ≤ 1099511627776)
    (hK : w.heap[K]? = some (.cells (bookC nn nilV (.slice (some ⟨H, 0, none⟩) m cap)) 44 (0, 0)))
    (hHeld : Held K H m cap 3 44 74 V (fun _ => .slice none 0 0) w)
    (hV : ∀ j, j < m → w.ownsRow B 9 1 (V j) (N j) (xs j)) (hA : ApartV m V) :
    Calls Tryz.prog 12 #[.pointer (some ⟨K, 0, none⟩)] w fun e w' => e = .returned (.bool true) ∧ Below B w w' := by
  have hVB : ∀ j, j < m → ∀ g, (V j).ownBlock = some g → B ≤ g := fun j hj g e => by
    rcases (hV j hj).2 with ⟨h, _⟩ | ⟨g', cap', cur, h, hb, _⟩
    · rw [h] at e; cases e
    · rw [h] at e
      injection e with e
      simp at e
      omega
  have hNK : ∀ j, j < m → (V j).ownBlock ≠ some K := fun j hj => own_ne (hV j hj) hK (by decide)
  have hpow : ∀ w', KeptBut w w' (fun k => k = H ∨ ∃ j, j < m ∧ (V j).ownBlock = some k) → Pow10 w' := fun w' h =>
    hP.below hgp (h.below (B := B) hBw (fun k hk => by
      rcases hk with rfl | ⟨j, hj, e⟩
      · exact hHB
      · exact hVB j hj k e)) hgB
  have hsub : ∀ w', KeptBut w w' (fun k => ∃ j, j < m ∧ (V j).ownBlock = some k) → KeptBut w w' (fun k => k = H ∨ ∃ j, j < m ∧ (V j).ownBlock = some k) := fun w' h =>
    ⟨h.os, h.tape, h.output, h.size, fun k hk hn => h.block k hk (fun e => hn (.inr e))⟩
  have hKH : K ≠ H := fun e => by
    obtain ⟨c, e2⟩ := hHeld.hb
    rw [← e, hK] at e2
    injection e2 with e2
    injection e2 with _ e2 _
    exact absurd e2 (by decide)
  have HF := Lib.hid (fillText_any K H m cap B V N xs w hm (fun j hj => Nat.le_trans (hN j hj) (by decide)) hHeld hA hV hP (fun w' h => hpow w' (hsub w' h)))
  have H0 := Lib.hid (book_none hK)
  have HHE := Lib.hid hHeld
  have HA := Lib.hid hA
  have HN := Lib.hid hN
  have HVB := Lib.hid hVB
  have HNK := Lib.hid hNK
  have HPW := Lib.hid hpow
  have HSUB := Lib.hid hsub
  have HK := Lib.hid hK
  have HKH := Lib.hid hKH
  have HVV := Lib.hid hV
  have hKlt : K < w.heap.size := (Array.getElem?_eq_some_iff.1 hK).1
  have hNH : ∀ j, j < m → (V j).ownBlock ≠ some H := fun j hj => by obtain ⟨c, e⟩ := hHeld.hb; exact own_ne (hV j hj) e (by decide)
  have HNH := Lib.hid hNH
  clear hV hA hN hHeld hVB hNK hpow hsub hK hP hKH hNH
  go_enter Tryz.func12, Tryz.ntmps12
  go_wp2_with (first
    | (go_at_call 30; refine (fillByte_none K w (H0.out 1 (by decide))).mono ?_; rintro e w' ⟨rfl, rfl⟩)
    | (go_at_call 31; refine (fillInt_none K w (H0.out 2 (by decide))).mono ?_; rintro e w' ⟨rfl, rfl⟩))
  refine HF.out.mono ?_
  rintro e w1 ⟨rfl, hk1, ho1⟩
  have hK1 := (hk1.block K hKlt (fun ⟨j, hj, e⟩ => HNK.out j hj e)).trans HK.out
  have H1 := Lib.hid (book_none hK1)
  have hH1 := HHE.out.same (hk1.block K HHE.out.ltK (fun ⟨j, hj, e⟩ => HNK.out j hj e)) (hk1.block H HHE.out.ltH (fun ⟨j, hj, e⟩ => HNH.out j hj e))
  have hKlt1 : K < w1.heap.size := Nat.lt_of_lt_of_le hKlt hk1.size
  have HG := Lib.hid (growText_any K H m cap B V N w1 hm HN.out (Nat.le_trans hBw hk1.size) hH1 HA.out ho1 (fun w' h => HPW.out w' ((HSUB.out _ hk1).trans h (fun k _ e => e))))
  have HK1 := Lib.hid hk1
  have HKC1 := Lib.hid hK1
  have HO1 := Lib.hid ho1
  clear hk1 hK1 ho1 hH1
  go_wp2_with (first
    | (go_at_call 33; refine (fillFault_none K w1 (H1.out 4 (by decide))).mono ?_; rintro e w' ⟨rfl, rfl⟩)
    | (go_at_call 34; refine (fillLine_none K w1 (H1.out 5 (by decide))).mono ?_; rintro e w' ⟨rfl, rfl⟩)
    | (go_at_call 35; refine (fillSource_none K w1 (H1.out 6 (by decide))).mono ?_; rintro e w' ⟨rfl, rfl⟩)
    | (go_at_call 36; refine (fillAttr_none K w1 (H1.out 7 (by decide))).mono ?_; rintro e w' ⟨rfl, rfl⟩)
    | (go_at_call 37; refine (fillDiag_none K w1 (H1.out 8 (by decide))).mono ?_; rintro e w' ⟨rfl, rfl⟩)
    | (go_at_call 38; refine (fillSpan_none K w1 (H1.out 9 (by decide))).mono ?_; rintro e w' ⟨rfl, rfl⟩)
    | (go_at_call 39; refine (fillCell_none K w1 (H1.out 10 (by decide))).mono ?_; rintro e w' ⟨rfl, rfl⟩)
    | (go_at_call 40; refine (fillRow_none K w1 (H1.out 11 (by decide))).mono ?_; rintro e w' ⟨rfl, rfl⟩)
    | (go_at_call 41; refine (fillBlock_none K w1 (H1.out 12 (by decide))).mono ?_; rintro e w' ⟨rfl, rfl⟩)
    | (go_at_call 42; refine (fillChapter_none K w1 (H1.out 13 (by decide))).mono ?_; rintro e w' ⟨rfl, rfl⟩)
    | (go_at_call 43; refine (fillPlace_none K w1 (H1.out 14 (by decide))).mono ?_; rintro e w' ⟨rfl, rfl⟩)
    | (go_at_call 44; refine (fillLocator_none K w1 (H1.out 15 (by decide))).mono ?_; rintro e w' ⟨rfl, rfl⟩)
    | (go_at_call 45; refine (fillEntry_none K w1 (H1.out 16 (by decide))).mono ?_; rintro e w' ⟨rfl, rfl⟩)
    | (go_at_call 46; refine (fillFile_none K w1 (H1.out 17 (by decide))).mono ?_; rintro e w' ⟨rfl, rfl⟩)
    | (go_at_call 47; refine (growByte_none K w1 (H1.out 1 (by decide))).mono ?_; rintro e w' ⟨rfl, rfl⟩)
    | (go_at_call 48; refine (growInt_none K w1 (H1.out 2 (by decide))).mono ?_; rintro e w' ⟨rfl, rfl⟩))
  refine HG.out.mono ?_
  rintro e w2 ⟨rfl, hk2, LL, hg2⟩
  have hkk : KeptBut w w2 (fun k => k = H ∨ ∃ j, j < m ∧ (V j).ownBlock = some k) := (HSUB.out _ HK1.out).trans hk2 (fun k _ e => e)
  have hK2 := (hk2.block K hKlt1 (fun e => by
    rcases e with e | ⟨j, hj, e⟩
    · exact HKH.out e
    · exact HNK.out j hj e)).trans HKC1.out
  have H2 := Lib.hid (book_none hK2)
  have HL := Lib.hid (lookText_any K H m cap B w1.heap.size gp hgp V LL N w2 hm HN.out hg2 (fun j hj => by
    obtain ⟨a, cp, hv⟩ := own_lenOf (HVV.out j hj)
    refine ⟨a, cp, hv, fun k hk => ?_⟩
    obtain ⟨g, cp', e1, _⟩ := own_cell (HVV.out j hj) k hk
    rw [hv] at e1
    injection e1 with e1
    exact ⟨g, e1⟩) (HPW.out w2 hkk))
  have HKK := Lib.hid hkk
  have HKC2 := Lib.hid hK2
  have hKlt2 : K < w2.heap.size := Nat.lt_of_lt_of_le hKlt1 hk2.size
  clear hk2 hg2 hkk hK2
  go_wp2_with (first
    | (go_at_call 50; refine (growFault_none K w2 (H2.out 4 (by decide))).mono ?_; rintro e w' ⟨rfl, rfl⟩)
    | (go_at_call 51; refine (growLine_none K w2 (H2.out 5 (by decide))).mono ?_; rintro e w' ⟨rfl, rfl⟩)
    | (go_at_call 52; refine (growSource_none K w2 (H2.out 6 (by decide))).mono ?_; rintro e w' ⟨rfl, rfl⟩)
    | (go_at_call 53; refine (growAttr_none K w2 (H2.out 7 (by decide))).mono ?_; rintro e w' ⟨rfl, rfl⟩)
    | (go_at_call 54; refine (growDiag_none K w2 (H2.out 8 (by decide))).mono ?_; rintro e w' ⟨rfl, rfl⟩)
    | (go_at_call 55; refine (growSpan_none K w2 (H2.out 9 (by decide))).mono ?_; rintro e w' ⟨rfl, rfl⟩)
    | (go_at_call 56; refine (growCell_none K w2 (H2.out 10 (by decide))).mono ?_; rintro e w' ⟨rfl, rfl⟩)
    | (go_at_call 57; refine (growRow_none K w2 (H2.out 11 (by decide))).mono ?_; rintro e w' ⟨rfl, rfl⟩)
    | (go_at_call 58; refine (growBlock_none K w2 (H2.out 12 (by decide))).mono ?_; rintro e w' ⟨rfl, rfl⟩)
    | (go_at_call 59; refine (growChapter_none K w2 (H2.out 13 (by decide))).mono ?_; rintro e w' ⟨rfl, rfl⟩)
    | (go_at_call 60; refine (growPlace_none K w2 (H2.out 14 (by decide))).mono ?_; rintro e w' ⟨rfl, rfl⟩)
    | (go_at_call 61; refine (growLocator_none K w2 (H2.out 15 (by decide))).mono ?_; rintro e w' ⟨rfl, rfl⟩)
    | (go_at_call 62; refine (growEntry_none K w2 (H2.out 16 (by decide))).mono ?_; rintro e w' ⟨rfl, rfl⟩)
    | (go_at_call 63; refine (growFile_none K w2 (H2.out 17 (by decide))).mono ?_; rintro e w' ⟨rfl, rfl⟩)
    | (go_at_call 64; refine (lookByte_none K w2 (H2.out 1 (by decide))).mono ?_; rintro e w' ⟨rfl, rfl⟩)
    | (go_at_call 65; refine (lookInt_none K w2 (H2.out 2 (by decide))).mono ?_; rintro e w' ⟨rfl, rfl⟩))
  refine HL.out.mono ?_
  rintro e w3 ⟨rfl, hb3⟩
  have hK3 := (hb3.block K hKlt2).trans HKC2.out
  have H3 := Lib.hid (book_none hK3)
  have HB3 := Lib.hid hb3
  clear hb3 hK3
  go_wp2_with (first
    | (go_at_call 67; refine (lookFault_none K w3 (H3.out 4 (by decide))).mono ?_; rintro e w' ⟨rfl, rfl⟩)
    | (go_at_call 68; refine (lookLine_none K w3 (H3.out 5 (by decide))).mono ?_; rintro e w' ⟨rfl, rfl⟩)
    | (go_at_call 69; refine (lookSource_none K w3 (H3.out 6 (by decide))).mono ?_; rintro e w' ⟨rfl, rfl⟩)
    | (go_at_call 70; refine (lookAttr_none K w3 (H3.out 7 (by decide))).mono ?_; rintro e w' ⟨rfl, rfl⟩)
    | (go_at_call 71; refine (lookDiag_none K w3 (H3.out 8 (by decide))).mono ?_; rintro e w' ⟨rfl, rfl⟩)
    | (go_at_call 72; refine (lookSpan_none K w3 (H3.out 9 (by decide))).mono ?_; rintro e w' ⟨rfl, rfl⟩)
    | (go_at_call 73; refine (lookCell_none K w3 (H3.out 10 (by decide))).mono ?_; rintro e w' ⟨rfl, rfl⟩)
    | (go_at_call 74; refine (lookRow_none K w3 (H3.out 11 (by decide))).mono ?_; rintro e w' ⟨rfl, rfl⟩)
    | (go_at_call 75; refine (lookBlock_none K w3 (H3.out 12 (by decide))).mono ?_; rintro e w' ⟨rfl, rfl⟩)
    | (go_at_call 76; refine (lookChapter_none K w3 (H3.out 13 (by decide))).mono ?_; rintro e w' ⟨rfl, rfl⟩)
    | (go_at_call 77; refine (lookPlace_none K w3 (H3.out 14 (by decide))).mono ?_; rintro e w' ⟨rfl, rfl⟩)
    | (go_at_call 78; refine (lookLocator_none K w3 (H3.out 15 (by decide))).mono ?_; rintro e w' ⟨rfl, rfl⟩)
    | (go_at_call 79; refine (lookEntry_none K w3 (H3.out 16 (by decide))).mono ?_; rintro e w' ⟨rfl, rfl⟩)
    | (go_at_call 80; refine (lookFile_none K w3 (H3.out 17 (by decide))).mono ?_; rintro e w' ⟨rfl, rfl⟩))
  go_ret
  exact ⟨rfl, (HKK.out.below (B := B) hBw (fun k hk => by
      rcases hk with rfl | ⟨j, hj, e⟩
      · exact hHB
      · exact HVB.out j hj k e)).trans (HB3.out.mono (Nat.le_trans hBw HKK.out.size))⟩
end Go.Proofs.YtidccanfjcanoaaGreatDoor
