/-
  PAGES: within, note: of one text.
-/
import Derived.Test.YtlgodkjbilkloaaDoorPgA
import Derived.RegionTactic
namespace Go.Proofs.YtlgodkjbilkloaaDoor
open Go.RowKit
set_option linter.unusedVariables false
set_option linter.unusedSimpArgs false

theorem infoText : (Tryd.prog.info? 9).map (fun i => (i.zero, i.size, i.bytes)) = some (some (.string ⟨#[]⟩), 1, 16) := by kernel_rfl
theorem cats_cons (x : ByteArray) (xs : List ByteArray) : cats (x :: xs) = lb x ++ cats xs := by simp [cats]
theorem cats_nil : cats [] = [] := rfl
theorem cats_three (x y z : ByteArray) : cats [x, y, z] = lb x ++ lb y ++ lb z := by simp [cats]
theorem esc_small (s : ByteArray) : (Es.esc (lb s)).length ≤ 6 * s.size := by
  have h1 := Es.esc_len (lb s)
  have h2 : s.size = (lb s).length := Lib.size_eq _
  omega
theorem lb_sz (x : ByteArray) : (lb x).length = x.size := (Lib.size_eq x).symm

set_option maxHeartbeats 4000000 in
set_option maxRecDepth 100000 in
theorem within_text (P b g c : Nat) (L : List UInt8) (name : ByteArray) (hnm : name.size ≤ 100) (kd : Int) (hkd : kd = 0 ∨ kd = 5) (s : ByteArray) (hs : s.size ≤ 1000000) (hsz : L.length ≤ 900000000) (w : World) (hB : Bld b L w) (hgb : g ≠ b)
    (hg : w.heap[g]? = some (.cells (spC kd s (.slice none 0 0)) 27 (0, 0))) :
    Calls Tryd.prog 32 #[.pointer (some ⟨P, 0, none⟩), .pointer (some ⟨b, 0, none⟩), .string name, .slice (some ⟨g, 0, none⟩) 1 c] w fun e w' => e = .returned (.tuple #[]) ∧ Bld b (L ++ ([60] ++ lb name ++ [62] ++ Es.esc (lb s) ++ ([60, 47] ++ lb name ++ [62]))) w' ∧ Below b w w' ∧ Lib.OthersKept 5 (some b) w w' := by
  have HB := Lib.hid hB
  have HG := Lib.hid hg
  have hblt := hB.lt
  have hglt : g < w.heap.size := (Array.getElem?_eq_some_iff.1 hg).1
  have hes := esc_small s
  clear hB hg
  go_enter Tryd.func32, Tryd.ntmps32
  go_wp2_with fail
  refine (put_any b w.heap.size 3 3 L [⟨#[60]⟩, name, ⟨#[62]⟩] rfl (by decide) (by have e1 : (⟨#[60]⟩ : ByteArray).size = 1 := rfl; have e2 : (⟨#[62]⟩ : ByteArray).size = 1 := rfl; have e3 : (⟨#[60, 47]⟩ : ByteArray).size = 2 := rfl; simp only [cats_three, List.length_append, lb_sz, List.length_cons, List.length_nil]; omega) (by omega) _ (HB.out.alloc _) (heap_alloc_new w _)).mono ?_
  rintro e w1 ⟨rfl, h1, h2, h3⟩
  rw [cats_three] at h1
  have hg1 : w1.heap[g]? = some (.cells (spC kd s (.slice none 0 0)) 27 (0, 0)) := kept_other h3 ((heap_alloc_old w _ hglt).trans HG.out) hgb (by decide)
  have F1 := Lib.hid (((Below.refl b w).alloc (Nat.le_of_lt hblt) _).trans h2)
  have K1 := Lib.hid ((Lib.OthersKept.alloc (Lib.OthersKept.refl _ (some b) w) _).trans h3)
  have HB1 := Lib.hid h1
  have HG1 := Lib.hid hg1
  clear h1 h2 h3 hg1
  go_wp2_with fail
  refine (spans_text P b g c _ kd hkd s hs (by have e1 : (⟨#[60]⟩ : ByteArray).size = 1 := rfl; have e2 : (⟨#[62]⟩ : ByteArray).size = 1 := rfl; have e3 : (⟨#[60, 47]⟩ : ByteArray).size = 2 := rfl; simp only [ List.length_append, lb_sz, List.length_cons, List.length_nil]; omega) w1 HB1.out HG1.out).mono ?_
  rintro e w2 ⟨rfl, h1, h2, h3⟩
  have F2 := Lib.hid (F1.out.trans h2)
  have K2 := Lib.hid (K1.out.trans h3)
  have HB2 := Lib.hid h1
  have hbl2 := h1.lt
  clear h1 h2 h3
  go_wp2_with fail
  refine (put_any b w2.heap.size 3 3 _ [⟨#[60, 47]⟩, name, ⟨#[62]⟩] rfl (by decide) (by have e1 : (⟨#[60]⟩ : ByteArray).size = 1 := rfl; have e2 : (⟨#[62]⟩ : ByteArray).size = 1 := rfl; have e3 : (⟨#[60, 47]⟩ : ByteArray).size = 2 := rfl; simp only [cats_three, List.length_append, lb_sz, List.length_cons, List.length_nil]; omega) (by omega) _ (HB2.out.alloc _) (heap_alloc_new w2 _)).mono ?_
  rintro e w3 ⟨rfl, h1, h2, h3⟩
  rw [cats_three] at h1
  have F3 := Lib.hid ((F2.out.alloc (Nat.le_of_lt hbl2) _).trans h2)
  have K3 := Lib.hid ((Lib.OthersKept.alloc K2.out _).trans h3)
  have HB3 := Lib.hid h1
  clear h1 h2 h3
  go_wp2_with fail
  go_end0
  refine ⟨rfl, ?_, F3.out, K3.out⟩
  have h := HB3.out
  simp only [List.append_assoc] at h ⊢
  exact h

theorem own_succ {W : World} {base e k : Nat} {v : Value} {xs : List Value} (h : W.ownsRow base e 1 v (k + 1) xs) : ∃ g cap, v = .slice (some ⟨g, 0, none⟩) (k + 1) cap := by
  rcases h.2 with ⟨_, h0⟩ | ⟨g, cap, _, rfl, _⟩
  · omega
  · exact ⟨g, cap, rfl⟩
theorem own_set {w : World} {base e g n cap : Nat} {xs : List Value} (h : w.ownsRow base e 1 (.slice (some ⟨g, 0, none⟩) n cap) n xs) (k : Nat) (hk : k < n) (u : Value) :
    (w.setCell ⟨g, k, none⟩ u).ownsRow base e 1 (.slice (some ⟨g, 0, none⟩) n cap) n (xs.set k u) := by
  obtain ⟨hl, h2⟩ := h
  refine ⟨by rw [List.length_set]; exact hl, .inr ?_⟩
  rcases h2 with ⟨h, _⟩ | ⟨g', cap', cur, hv, hb, hg, h3, h4, h5, h6⟩
  · cases h
  · injection hv with h7 _ h8
    obtain rfl : g = g' := by injection h7 with h7; injection h7
    subst h8
    refine ⟨g, cap, cur.setIfInBounds k u, rfl, hb, ?_, h3, h4, by simpa using h5, ?_⟩
    · simp [World.setCell, Array.getElem?_modify, hg]
    · rw [Array.toList_setIfInBounds, List.take_set, h6]
theorem own_okept {w w' : World} {B e sz n b : Nat} {v : Value} {xs : List Value} (h : w.ownsRow B e sz v n xs) (hk : Lib.OthersKept 5 (some b) w w') (hb : v.ownBlock ≠ some b) (he : e ≠ 5) : w'.ownsRow B e sz v n xs := by
  rcases h with ⟨hl, ⟨rfl, h0⟩ | ⟨g, cap, cur, rfl, hb', hg, rest⟩⟩
  · exact ⟨hl, .inl ⟨rfl, h0⟩⟩
  · exact ⟨hl, .inr ⟨g, cap, cur, rfl, hb', kept_other hk hg (fun e => hb (by rw [← e]; rfl)) he, rest⟩⟩
theorem own_ne {w : World} {base e e' size n K : Nat} {v : Value} {xs : List Value} {cur : Array Value} {fz : Nat × Nat} (h : w.ownsRow base e size v n xs) (hK : w.heap[K]? = some (.cells cur e' fz)) (hne : e ≠ e') : v.ownBlock ≠ some K := by
  rcases h.2 with ⟨rfl, _⟩ | ⟨g, cap, cur', rfl, _, hg, _⟩
  · simp [Value.ownBlock]
  · intro he
    obtain rfl : g = K := by simpa [Value.ownBlock] using he
    rw [hg] at hK
    injection hK with hK
    injection hK with _ h2 _
    exact hne h2
theorem Bld.blk {b : Nat} {L : List UInt8} {w : World} (h : Bld b L w) : ∃ cs, w.heap[b]? = some (.cells cs 54 (0, 0)) := by
  rcases h with ⟨_, v, hbk, _⟩ | ⟨_, v, hbk, _⟩
  · exact ⟨_, hbk⟩
  · exact ⟨_, hbk⟩
theorem Bld.grown {b : Nat} {L : List UInt8} {w w' : World} {row : Option Nat} (h : Bld b L w) (hg : w.grownBy w' row) (hrow : ∀ g, row = some g → ∃ cs T fz, w.heap[g]? = some (.cells cs T fz) ∧ T ≠ 5 ∧ T ≠ 54) : Bld b L w' := by
  have hlt := h.lt
  have go : ∀ p, Lib.BuilderAtF 54 5 b b p (Lib.byteCells L) w → Lib.BuilderAtF 54 5 b b p (Lib.byteCells L) w' := by
    rintro p ⟨hB, v, hbk, hown, hne⟩
    refine ⟨hB, v, (hg.block b hlt (fun e => ?_)).trans hbk, hown.kept hg ?_, hne⟩
    · obtain ⟨cs, T, fz, h1, h2, h3⟩ := hrow b e.symm
      rw [hbk] at h1
      injection h1 with h1
      injection h1 with _ h1 _
      exact h3 h1.symm
    · cases hv : v.ownBlock with
      | none => exact .inl rfl
      | some g =>
        refine .inr (fun e => ?_)
        obtain ⟨cs, T, fz, h1, h2, h3⟩ := hrow g e.symm
        obtain ⟨c', fz', h4⟩ := Lib.ownsRowF_kind hown g hv
        rw [h4] at h1
        injection h1 with h1
        injection h1 with _ h1 _
        exact h2 h1.symm
  rcases h with h | h
  · exact .inl (go _ h)
  · exact .inr (go _ h)
theorem grown_set (w : World) (g k : Nat) (u : Value) : w.grownBy (w.setCell ⟨g, k, none⟩ u) (some g) := by
  refine ⟨rfl, rfl, rfl, ?_, fun i _ hi => ?_⟩
  · simp [World.setCell]
  · exact Below.heap_setCell _ _ _ _ (fun e => hi (by rw [e]))
theorem own_at {w : World} {base e size n g : Nat} {v : Value} {xs : List Value} (h : w.ownsRow base e size v n xs) (hg : v.ownBlock = some g) : ∃ cur, w.heap[g]? = some (.cells cur e (0, 0)) := by
  rcases h.2 with ⟨rfl, _⟩ | ⟨g', cap, cur', rfl, _, hg', _⟩
  · cases hg
  · obtain rfl : g' = g := by simpa [Value.ownBlock] using hg
    exact ⟨_, hg'⟩
theorem grown_of {w w' : World} (hb : Below w.heap.size w w') : w.grownBy w' none := ⟨hb.os, hb.tape, hb.output, hb.size, fun k hk _ => hb.block k hk⟩
theorem none_or' (v : Value) : v.ownBlock = none ∨ v.ownBlock ≠ (none : Option Nat) := by cases v.ownBlock <;> simp
def pgC (G : Nat) (f : Int) (nv : Value) : Array Value := #[.pointer (some ⟨G, 0, none⟩), .int .i64 f, nv]
/-- What a note's number stands in. -/
def noteH (k : Int) : List UInt8 := lb ⟨#[60, 115, 117, 112, 62, 60, 97, 32, 104, 114, 101, 102, 61, 34, 35, 110, 111, 116, 101]⟩ ++ Lib.itoa k ++ lb ⟨#[34, 32, 105, 100, 61, 34, 98, 97, 99, 107]⟩ ++ Lib.itoa k ++ lb ⟨#[34, 62]⟩ ++ Lib.itoa k ++ lb ⟨#[60, 47, 97, 62, 60, 47, 115, 117, 112, 62]⟩
theorem cats_seven (a n b' c d : ByteArray) : cats [a, n, b', n, c, n, d] = lb a ++ lb n ++ lb b' ++ lb n ++ lb c ++ lb n ++ lb d := by simp [cats]

set_option maxHeartbeats 8000000 in
set_option maxRecDepth 100000 in
theorem note_text (P b g c G gp : Nat) (hgp : Pow10At gp) (hgP : gp < P) (L : List UInt8) (f : Int) (hf : 0 ≤ f ∧ f ≤ 1000) (nv : Value) (N : List ByteArray) (hN : N.length ≤ 1000) (s : ByteArray) (hs : s.size ≤ 1000000) (hsz : L.length ≤ 900000000) (w : World) (hB : Bld b L w) (hPb : P < b) (hgP2 : g < P)
    (hg : w.heap[g]? = some (.cells (spC 0 s (.slice none 0 0)) 27 (0, 0))) (hpg : w.heap[P]? = some (.cells (pgC G f nv) 47 (0, 0))) (hown : w.ownsRow P 9 1 nv N.length (N.map Value.string)) (hPw : Pow10 w) :
    Calls Tryd.prog 36 #[.pointer (some ⟨P, 0, none⟩), .pointer (some ⟨b, 0, none⟩), .slice (some ⟨g, 0, none⟩) 1 c] w fun e w' => e = .returned (.tuple #[]) ∧ Bld b (L ++ noteH (f + N.length)) w' ∧ Below P w w' ∧
      ∃ nv', w'.heap[P]? = some (.cells (pgC G f nv') 47 (0, 0)) ∧ w'.ownsRow P 9 1 nv' (N.length + 1) ((N ++ [(⟨(Es.esc (lb s)).toArray⟩ : ByteArray)]).map Value.string) := by
  obtain ⟨i0, hi0, hz0, hz1, hz2⟩ := info_parts infoText
  obtain ⟨an, cn, hnv⟩ : ∃ a cap, nv = .slice a N.length cap := by
    rcases hown.2 with ⟨hv, h⟩ | ⟨g, cap, cur, hv, _⟩
    · exact ⟨none, 0, by rw [hv, h]⟩
    · exact ⟨_, _, hv⟩
  subst hnv
  have p0 : w.cell? ⟨P, 1, none⟩ = some (.int .i64 f) := by rw [Lib.cell_of_heap hpg]; rfl
  have p1 : w.cell? ⟨P, 2, none⟩ = some (.slice an N.length cn) := by rw [Lib.cell_of_heap hpg]; rfl
  have HB := Lib.hid hB
  have HG := Lib.hid hg
  have HPG := Lib.hid hpg
  have HO := Lib.hid hown
  have HPW := Lib.hid hPw
  have hblt := hB.lt
  have hes := esc_small s
  obtain ⟨hf0, hf1⟩ := hf
  have hw1 : IntKind.i64.wrap (f + (N.length : Int)) = f + (N.length : Int) := IntWalk.i64_in _ (by omega)
  clear hB hg hpg hown hPw
  go_enter Tryd.func36, Tryd.ntmps36
  go_wp2_with fail
  refine (itoa_c (f + (N.length : Int)) (by omega) w HPW.out).mono ?_
  rintro e w1 ⟨rfl, b1⟩
  have HB1 := Lib.hid (HB.out.below b1)
  have hs1 := b1.size
  have hglt : g < w.heap.size := by omega
  have HPG1 := Lib.hid ((b1.block P (by omega)).trans HPG.out)
  have HG1 := Lib.hid ((b1.block g hglt).trans HG.out)
  have HO1 := Lib.hid (HO.out.kept (row := none) ⟨b1.os, b1.tape, b1.output, b1.size, fun k hk _ => b1.block k hk⟩ (by cases an <;> simp [Value.ownBlock]))
  have hil := Lib.itoa_length_le (f + (N.length : Int)) (by omega) (by omega)
  have HF1 := Lib.hid (b1.mono (show P ≤ w.heap.size by omega))
  clear b1 p0 p1
  obtain ⟨num, hnum⟩ : ∃ num : ByteArray, num = ⟨(Lib.itoa (f + (N.length : Int))).toArray⟩ := ⟨_, rfl⟩
  have hnl : lb num = Lib.itoa (f + (N.length : Int)) := by rw [hnum]
  have hns : num.size ≤ 21 := by rw [← lb_sz, hnl]; exact hil
  rw [← hnum]
  have HNL := Lib.hid hnl
  clear hnum hnl hil
  go_wp2_with fail
  refine (put_any b w1.heap.size 7 7 L [⟨#[60, 115, 117, 112, 62, 60, 97, 32, 104, 114, 101, 102, 61, 34, 35, 110, 111, 116, 101]⟩, num, ⟨#[34, 32, 105, 100, 61, 34, 98, 97, 99, 107]⟩, num, ⟨#[34, 62]⟩, num, ⟨#[60, 47, 97, 62, 60, 47, 115, 117, 112, 62]⟩] rfl (by decide) (by
    have e1 : (⟨#[60, 115, 117, 112, 62, 60, 97, 32, 104, 114, 101, 102, 61, 34, 35, 110, 111, 116, 101]⟩ : ByteArray).size = 19 := rfl
    have e2 : (⟨#[34, 32, 105, 100, 61, 34, 98, 97, 99, 107]⟩ : ByteArray).size = 10 := rfl
    have e3 : (⟨#[34, 62]⟩ : ByteArray).size = 2 := rfl
    have e4 : (⟨#[60, 47, 97, 62, 60, 47, 115, 117, 112, 62]⟩ : ByteArray).size = 10 := rfl
    simp only [cats_seven, List.length_append, lb_sz]
    omega) (by omega) _ (HB1.out.alloc _) (heap_alloc_new w1 _)).mono ?_
  rintro e w2 ⟨rfl, h1, h2, h3⟩
  have h1' : Bld b (L ++ noteH (f + N.length)) w2 := by
    rw [cats_seven, HNL.out] at h1
    exact h1
  have hP2 : w2.heap[P]? = some (.cells (pgC G f (.slice an N.length cn)) 47 (0, 0)) := (h2.block P hPb).trans ((heap_alloc_old w1 _ (by omega)).trans HPG1.out)
  have hG2 : w2.heap[g]? = some (.cells (spC 0 s (.slice none 0 0)) 27 (0, 0)) := (h2.block g (by omega)).trans ((heap_alloc_old w1 _ (by omega)).trans HG1.out)
  have hO2 : w2.ownsRow P 9 1 (.slice an N.length cn) N.length (N.map Value.string) := by
    obtain ⟨cs, hb⟩ := (HB1.out.alloc (.cells ([(⟨#[60, 115, 117, 112, 62, 60, 97, 32, 104, 114, 101, 102, 61, 34, 35, 110, 111, 116, 101]⟩ : ByteArray), num, ⟨#[34, 32, 105, 100, 61, 34, 98, 97, 99, 107]⟩, num, ⟨#[34, 62]⟩, num, ⟨#[60, 47, 97, 62, 60, 47, 115, 117, 112, 62]⟩].map Value.string).toArray 9)).blk
    exact own_okept (HO1.out.alloc _) h3 (own_ne (HO1.out.alloc _) hb (by decide)) (by decide)
  have hF2 : Below P w w2 := (HF1.out.alloc (by omega) _).trans (h2.mono (by omega))
  have q2 : w2.cell? ⟨P, 2, none⟩ = some (.slice an N.length cn) := by rw [Lib.cell_of_heap hP2]; rfl
  have HB2 := Lib.hid h1'
  have HP2 := Lib.hid hP2
  have HG2 := Lib.hid hG2
  have HO2 := Lib.hid hO2
  have HF2 := Lib.hid hF2
  have hb2l := h1'.lt
  have hneP := own_ne hO2 hP2 (by decide)
  have HNE := Lib.hid hneP
  clear h1 h1' h2 h3 hP2 hG2 hO2 hF2 hneP HB1 HPG1 HG1 HO1
  go_wp2_with (at_builtin; go_must (refine wpList_append_own _ rfl _ _ 28 rfl P 9 i0 (.string ⟨#[]⟩) 1 16 Tryd.underlying28 hi0 hz0 hz1 hz2 rfl (by decide) _ N.length _ rfl (HO2.out.alloc _) ⟨w2.heap.size, 0, none⟩ 1 1 [.string ⟨#[]⟩] rfl rfl (cell_one_new _ _ _) (by simp [Value.oneCell']) (by unfold maxLen; omega) (by omega) (by simp; omega) ?_; intro v3 w3 hown3 hgrow3 _; obtain ⟨g3, cap3, rfl⟩ := own_succ hown3; have f3 := (hgrow3.block P (by simp; omega) (fun e => HNE.out e.symm)).trans ((heap_alloc_old w2 _ (by omega)).trans HP2.out); have m3 : w3.frozen? ⟨P, 2, none⟩ = false := (by simp [World.frozen?, f3]); have m4 : w3.cell? ⟨P, 2, none⟩ = some (.slice an N.length cn) := (by rw [Lib.cell_of_heap f3]; rfl); have F3 := Lib.hid f3; clear f3))
  have HB3 := Lib.hid ((HB2.out.alloc (.cells #[.string ⟨#[]⟩] 9)).grown hgrow3 (fun g e => by
    obtain ⟨cs, h⟩ := own_at (HO2.out.alloc _) e
    exact ⟨cs, _, _, h, by decide, by decide⟩))
  have hs3 := hgrow3.size
  have hs3' : w2.heap.size + 1 ≤ w3.heap.size := by simpa using hs3
  have HG3 := Lib.hid ((hgrow3.block g (by simp; omega) (fun e => by
    obtain ⟨cs, h⟩ := own_at (HO2.out.alloc _) e.symm
    have h4 := (heap_alloc_old w2 (.cells #[.string ⟨#[]⟩] 9) (show g < w2.heap.size by omega)).trans HG2.out
    rw [h4] at h
    injection h with h
    injection h with _ h _
    exact absurd h (by decide))).trans ((heap_alloc_old w2 _ (show g < w2.heap.size by omega)).trans HG2.out))
  have HF3 := Lib.hid ((HF2.out.alloc (by omega) _).grown hgrow3 (by simp; omega) (fun i hi => (HO2.out.lt i hi).1))
  have HO3 := Lib.hid hown3
  have hneP3 := own_ne hown3 F3.out (by decide)
  clear hown3 hgrow3
  obtain ⟨w4, hw4⟩ : ∃ x, x = w3.setCell ⟨P, 2, none⟩ (.slice (some ⟨g3, 0, none⟩) (N.length + 1) cap3) := ⟨_, rfl⟩
  have hgr4 : w3.grownBy w4 (some P) := by rw [hw4]; exact grown_set _ _ _ _
  have hP4 : w4.heap[P]? = some (.cells (pgC G f (.slice (some ⟨g3, 0, none⟩) (N.length + 1) cap3)) 47 (0, 0)) := by
    rw [hw4]
    simp [World.setCell, Array.getElem?_modify, F3.out, pgC]
  have hB4 : Bld b (L ++ noteH (f + N.length)) w4 := HB3.out.grown hgr4 (fun g e => by
    injection e with e
    subst e
    exact ⟨_, _, _, F3.out, by decide, by decide⟩)
  have hO4 := HO3.out.kept hgr4 (.inr hneP3)
  have hG4 := (hgr4.block g (by omega) (fun e => by injection e with e; omega)).trans HG3.out
  have hF4 : Below P w w4 := HF3.out.grown hgr4 (by omega) (fun i hi => by injection hi with hi; omega)
  have hs4 : w3.heap.size = w4.heap.size := by rw [hw4]; simp [World.setCell]
  rw [← hw4]
  have HB4 := Lib.hid hB4
  have HP4 := Lib.hid hP4
  have HO4 := Lib.hid hO4
  have HG4 := Lib.hid hG4
  have HF4 := Lib.hid hF4
  clear hw4 hgr4 hP4 hB4 hO4 hG4 hF4 HB3 HO3 HG3 HF3 hneP3 F3 m3 m4 q2
  rw [hs4]
  refine (spans_text P w4.heap.size g c [] 0 (.inl rfl) s hs (by simp) _ (Bld.new w4) ((heap_alloc_old w4 _ (by omega)).trans HG4.out)).mono ?_
  rintro e w5 ⟨rfl, h1, h2, h3⟩
  have b5 : Below w4.heap.size w4 w5 := ((Below.refl w4.heap.size w4).alloc (Nat.le_refl _) _).trans h2
  rw [List.nil_append] at h1
  have hP5 := (b5.block P (by omega)).trans HP4.out
  have hO5 := HO4.out.kept (row := none) (grown_of b5) (none_or' _)
  have n0 : w5.cell? ⟨P, 2, none⟩ = some (.slice (some ⟨g3, 0, none⟩) (N.length + 1) cap3) := by rw [Lib.cell_of_heap hP5]; rfl
  have hg3 : g3 < w4.heap.size := (HO4.out.lt g3 rfl).2
  have hs5 := b5.size
  have HBS := Lib.hid h1
  have HB5 := Lib.hid (HB4.out.below b5)
  have HP5 := Lib.hid hP5
  have HO5 := Lib.hid hO5
  have HF5 := Lib.hid (HF4.out.trans (b5.mono (by omega)))
  have hi1 : (N.length : Int) < ((N.length : Int) + 1) := by omega
  have B45 := Lib.hid b5
  clear h1 h2 h3 b5 hP5 hO5
  go_wp2_with fail
  go_region_with (first
    | (go_at_call 15; go_loud (refine (bld_string w4.heap.size _ w5.drew HBS.out.drew).mono ?_; rintro e w6 ⟨rfl, _, b6, _⟩; have b46 : Below w4.heap.size w4 w6 := B45.out.trans ⟨b6.os, b6.tape, b6.output, b6.size, b6.block⟩; have p6 := (b46.block P (by omega)).trans HP4.out; have n6 : w6.cell? ⟨P, 2, none⟩ = some (.slice (some ⟨g3, 0, none⟩) (N.length + 1) cap3) := (by rw [Lib.cell_of_heap p6]; rfl); have o6 := HO4.out.kept (row := none) (grown_of b46) (none_or' _); have r6 : w6.cell? ⟨g3, N.length, none⟩ = some (.string ⟨#[]⟩) := (by rw [o6.cellAt N.length (by simp)]; simp); have z6 := o6.frozenAt N.length; have P6 := Lib.hid p6; have O6 := Lib.hid o6; have B46 := Lib.hid b46; clear p6 o6 b46 b6)))
  all_goals
    have hgr := grown_set w6 g3 N.length (.string ⟨(Es.esc (lb s)).toArray⟩)
    have hO7 := own_set O6.out N.length (by omega) (.string ⟨(Es.esc (lb s)).toArray⟩)
    rw [List.set_append_right _ _ (by simp), show N.length - (N.map Value.string).length = 0 by simp, List.set_cons_zero] at hO7
    have hne3 := own_ne O6.out P6.out (by decide)
    have hs6 := B46.out.size
    have hP7 := (hgr.block P (by omega) (fun e => hne3 e.symm)).trans P6.out
    have hB7 := (HB4.out.below B46.out).grown hgr (fun g e => by
      obtain ⟨cs, h⟩ := own_at O6.out e
      exact ⟨cs, _, _, h, by decide, by decide⟩)
    have hF7 : Below P w _ := (HF4.out.trans (B46.out.mono (by omega))).grown hgr (by omega) (fun i hi => (O6.out.lt i hi).1)
    go_end0
    refine ⟨rfl, hB7, hF7, _, hP7, ?_⟩
    rw [List.map_append]
    exact hO7
end Go.Proofs.YtlgodkjbilkloaaDoor
