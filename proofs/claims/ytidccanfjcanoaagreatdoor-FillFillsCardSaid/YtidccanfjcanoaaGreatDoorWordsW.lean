/-
  LETTERS: Words of the program, by contract: the closure that takes a word, the loop.
-/
import Derived.Test.YtidccanfjcanoaaGreatDoorNameP
import Derived.Test.YtidccanfjcanoaaGreatDoorTextW
import Derived.Deep.RegionLaw
import Derived.Deep.AppendLies
namespace Go.Proofs.YtidccanfjcanoaaGreatDoor
open Go.RowKit

/-- What a text is, as bytes. -/
theorem lb_extract (s : ByteArray) (a b : Nat) : lb (s.extract a b) = ((lb s).drop a).take (b - a) := Lib.extract_data s a b

/-- One step: a word ends at e. -/
def wstep (s : ByteArray) (f e : Nat) (xs : List ByteArray) : List ByteArray := if f < e then xs ++ [s.extract f e] else xs

theorem word_done {s x : ByteArray} {Bf Bo Bs base B gg cap : Nat} {v vf' : Value} {xs : List ByteArray} {w w1 : World} {vf : Value}
    (hBf : Boxed w Bf 3 vf) (hBo : Boxed w Bo 23 v) (hBs : Boxed w Bs 9 (.string s)) (hsb : Bs < base) (hbase : base ≤ w.heap.size)
    (hown : w.ownsRow base 9 1 v xs.length (xs.map Value.string)) (hB1 : B ≤ Bf) (hB2 : B ≤ Bo) (hB3 : B ≤ base) (hoo : Bf ≠ Bo)
    (hown1 : w1.ownsRow base 9 1 (.slice (some ⟨gg, 0, none⟩) (xs.length + 1) cap) (xs.length + 1) (xs.map Value.string ++ [.string x]))
    (hgrow : (w.alloc (.cells #[.string x] 9)).drew.grownBy w1 v.ownBlock) :
    (Boxed (w1.setCell ⟨Bo, 0, none⟩ (.slice (some ⟨gg, 0, none⟩) (xs.length + 1) cap)) Bf 3 vf) ∧
    ∃ v', Boxed ((w1.setCell ⟨Bo, 0, none⟩ (.slice (some ⟨gg, 0, none⟩) (xs.length + 1) cap)).setCell ⟨Bf, 0, none⟩ vf') Bf 3 vf' ∧
      Boxed ((w1.setCell ⟨Bo, 0, none⟩ (.slice (some ⟨gg, 0, none⟩) (xs.length + 1) cap)).setCell ⟨Bf, 0, none⟩ vf') Bo 23 v' ∧
      Boxed ((w1.setCell ⟨Bo, 0, none⟩ (.slice (some ⟨gg, 0, none⟩) (xs.length + 1) cap)).setCell ⟨Bf, 0, none⟩ vf') Bs 9 (.string s) ∧
      ((w1.setCell ⟨Bo, 0, none⟩ (.slice (some ⟨gg, 0, none⟩) (xs.length + 1) cap)).setCell ⟨Bf, 0, none⟩ vf').ownsRow base 9 1 v' (xs ++ [x]).length ((xs ++ [x]).map Value.string) ∧
      Below B w ((w1.setCell ⟨Bo, 0, none⟩ (.slice (some ⟨gg, 0, none⟩) (xs.length + 1) cap)).setCell ⟨Bf, 0, none⟩ vf') := by
  have nos : some Bs ≠ v.ownBlock := fun e => by have := (hown.lt _ e.symm).1; omega
  have kf := Boxed.kept (W := (w.alloc (.cells #[.string x] 9)).drew) (hBf.alloc _) hgrow (hBf.not_row (by decide) hown)
  have ko := Boxed.kept (W := (w.alloc (.cells #[.string x] 9)).drew) (hBo.alloc _) hgrow (hBo.not_row (by decide) hown)
  have ks := Boxed.kept (W := (w.alloc (.cells #[.string x] 9)).drew) (hBs.alloc _) hgrow nos
  have nf := kf.not_row (by decide) hown1
  have no := ko.not_row (by decide) hown1
  have hso : Bs ≠ Bo := by
    rintro rfl
    have := (show w.heap[Bs]? = _ from hBs).symm.trans hBo
    simp at this
  have hsf : Bs ≠ Bf := by
    rintro rfl
    have := (show w.heap[Bs]? = _ from hBs).symm.trans hBf
    simp at this
  have g1 := grownBy_setCell' w1 Bo (.slice (some ⟨gg, 0, none⟩) (xs.length + 1) cap)
  have g2 := grownBy_setCell' (w1.setCell ⟨Bo, 0, none⟩ (.slice (some ⟨gg, 0, none⟩) (xs.length + 1) cap)) Bf vf'
  have kf1 := kf.kept g1 (by simpa using hoo)
  have ko1 := ko.set (.slice (some ⟨gg, 0, none⟩) (xs.length + 1) cap)
  have ks1 := ks.kept g1 (by simpa using hso)
  refine ⟨kf1, _, kf1.set vf', ko1.kept g2 (by simpa using hoo.symm), ks1.kept g2 (by simpa using hsf), ?_, ?_⟩
  · rw [List.map_append, List.length_append]
    exact (hown1.kept g1 (.inr no.symm)).kept g2 (.inr nf.symm)
  · have hb0 : Below B w (w.alloc (.cells #[.string x] 9)).drew := ((Below.refl B w).alloc (by omega) _).drew
    refine ((hb0.grown hgrow (by show B ≤ (w.alloc _).heap.size; simp; omega) (fun k hk => ?_)).setCell (p := ⟨Bo, 0, none⟩) hB2 _).setCell (p := ⟨Bf, 0, none⟩) hB1 _
    have := (hown.lt _ hk).1
    omega

set_option maxHeartbeats 2000000 in
set_option maxRecDepth 100000 in
theorem word_any (s : ByteArray) (Bf Bo Bs base f e : Nat) (v : Value) (xs : List ByteArray) (w : World) (hs : s.size ≤ 1099511627776) (_hfe : f ≤ s.size + 1) (he : e ≤ s.size) (hxs : xs.length ≤ s.size)
    (hBf : Boxed w Bf 3 (.int .i64 f)) (hBo : Boxed w Bo 23 v) (hBs : Boxed w Bs 9 (.string s)) (hsb : Bs < base) (hbase : base ≤ w.heap.size)
    (hown : w.ownsRow base 9 1 v xs.length (xs.map Value.string)) (B : Nat) (hB1 : B ≤ Bf) (hB2 : B ≤ Bo) (hB3 : B ≤ base) (hoo : Bf ≠ Bo) :
    Calls Tryz.prog 28 #[.int .i64 e, .pointer (some ⟨Bf, 0, none⟩), .pointer (some ⟨Bo, 0, none⟩), .pointer (some ⟨Bs, 0, none⟩)] w fun r w' => r = .returned (.tuple #[]) ∧
      ∃ v', Boxed w' Bf 3 (.int .i64 ((e + 1 : Nat) : Int)) ∧ Boxed w' Bo 23 v' ∧ Boxed w' Bs 9 (.string s) ∧ w'.ownsRow base 9 1 v' (wstep s f e xs).length ((wstep s f e xs).map Value.string) ∧ Below B w w' := by
  obtain ⟨i0, hi, hz0, hz1, hz2⟩ := info_parts Tryz.info9
  have cf := hBf.cell
  have ff := hBf.frozen
  have co := hBo.cell
  have fo := hBo.frozen
  have cs := hBs.cell
  have lf := hBf.lt
  have lo := hBo.lt
  have ls := hBs.lt
  by_cases hlt : f < e
  · have hle : f ≤ e := by omega
    have HW : Hid (wstep s f e xs = xs ++ [s.extract f e]) := Lib.hid (by unfold wstep; rw [if_pos hlt])
    go_enter Tryz.func28, Tryz.ntmps28
    go_wp2_with fail
    go_region_law (refine step_append_lies _ (by rfl) _ _ _ (by rfl) base 9 i0 _ 1 16 Tryz.underlying23 hi hz0 hz1 hz2 rfl (by omega) v xs.length (xs.map Value.string) (by rfl) ((hown.alloc _).drew) ⟨w.heap.size, 0, none⟩ 1 1 [.string (s.extract f e)] (by rfl) (by rfl) (World.news_of_block (cs := #[.string (s.extract f e)]) (t := 9) (fr := (0, 0)) (heap_alloc_new w _)) (by simp [Value.oneCell']) (by omega) (by unfold maxLen; omega) (by omega) (by simp; omega) (w.heap.size + 1) (by simp) ?_; intro gg cap w1 hown1 hgrow hat hlt1; have hb1 := Boxed.kept (W := (w.alloc (.cells #[.string (s.extract f e)] 9)).drew) (hBo.alloc _) hgrow (hBo.not_row (by decide) hown); have hc1 := hb1.cell; have hf1 := hb1.frozen)
    all_goals
      obtain ⟨hbf, hdone⟩ := word_done (vf' := .int .i64 ((e + 1 : Nat) : Int)) hBf hBo hBs hsb hbase hown hB1 hB2 hB3 hoo hown1 hgrow
      have HD := Lib.hid hdone
      have hcf := hbf.cell
      have hff := hbf.frozen
      clear hdone hown hown1 hgrow hat
      go_wp2_with fail
      go_end0
      rw [HW.out]
      exact ⟨rfl, HD.out⟩
  · have HW : Hid (wstep s f e xs = xs) := Lib.hid (by unfold wstep; rw [if_neg hlt])
    have HF := Lib.hid (hBf.set (.int .i64 ((e + 1 : Nat) : Int)))
    have g2 := grownBy_setCell' w Bf (.int .i64 ((e + 1 : Nat) : Int))
    have HO := Lib.hid (hBo.kept g2 (by simpa using hoo.symm))
    have HS : Hid (Boxed (w.setCell ⟨Bf, 0, none⟩ (.int .i64 ((e + 1 : Nat) : Int))) Bs 9 (.string s)) := Lib.hid (hBs.kept g2 (by
      intro h
      obtain rfl : Bs = Bf := by simpa using h
      have := (show w.heap[Bs]? = _ from hBs).symm.trans hBf
      simp at this))
    have HW2 := Lib.hid (hown.kept g2 (.inr (hBf.not_row (by decide) hown).symm))
    have HB := Lib.hid ((Below.refl B w).setCell (p := ⟨Bf, 0, none⟩) hB1 (.int .i64 ((e + 1 : Nat) : Int)))
    clear hown g2
    go_enter Tryz.func28, Tryz.ntmps28
    go_wp2_with fail
    go_end0
    rw [HW.out]
    exact ⟨rfl, v, HF.out, HO.out, HS.out, HW2.out, HB.out⟩

/-- The word that is being read: from f on, as far as k. -/
def piece (s : ByteArray) (f k : Nat) : List UInt8 := ((lb s).drop f).take (k - f)
theorem piece_self (s : ByteArray) (f : Nat) : piece s f f = [] := by simp [piece]
theorem piece_succ (s : ByteArray) (f k : Nat) (hf : f ≤ k) (hk : k < s.size) : piece s f (k + 1) = piece s f k ++ [s[k]] := by
  unfold piece
  have hl : (lb s).length = s.size := (Lib.size_eq s).symm
  rw [show k + 1 - f = (k - f) + 1 from by omega, List.take_succ_eq_append_getElem (by rw [List.length_drop]; omega)]
  congr 2
  rw [List.getElem_drop]
  have e : f + (k - f) = k := by omega
  simp only [e]
  rfl
theorem piece_nil (s : ByteArray) (f k : Nat) (hf : f ≤ k) (hk : k ≤ s.size) : piece s f k = [] ↔ ¬ f < k := by
  have hl : (lb s).length = s.size := (Lib.size_eq s).symm
  have : (piece s f k).length = k - f := by
    unfold piece; rw [List.length_take, List.length_drop]; omega
  rw [← List.length_eq_zero_iff, this]; omega
theorem lb_piece (s : ByteArray) (f k : Nat) : lb (s.extract f k) = piece s f k := lb_extract s f k
theorem wstep_lb (s : ByteArray) (f e : Nat) (hf : f ≤ e) (he : e ≤ s.size) (xs : List ByteArray) : (wstep s f e xs).map lb = xs.map lb ++ (if piece s f e = [] then [] else [piece s f e]) := by
  unfold wstep
  by_cases h : f < e
  · rw [if_pos h, if_neg (by rw [piece_nil s f e hf he]; omega), List.map_append]
    simp only [List.map_cons, List.map_nil, lb_piece]
  · rw [if_neg h, if_pos (by rw [piece_nil s f e hf he]; exact h), List.append_nil]
theorem wstep_len (s : ByteArray) (f e : Nat) (xs : List ByteArray) (h : xs.length ≤ f) (hf : f ≤ e) : (wstep s f e xs).length ≤ e + 1 := by
  unfold wstep; split
  · rw [List.length_append]; simp; omega
  · omega
theorem words_blank_step (s : ByteArray) (f k : Nat) (xs : List ByteArray) (hf : f ≤ k) (hk : k < s.size) (hb : Pl.blank s[k] = true) (h : xs.map lb ++ Pl.wds (piece s f k) ((lb s).drop k) = Pl.words (lb s)) :
    (wstep s f k xs).map lb ++ Pl.wds (piece s (k + 1) (k + 1)) ((lb s).drop (k + 1)) = Pl.words (lb s) := by
  rw [← h, wstep_lb s f k hf (by omega), drop_cons s k hk, Pl.wds_cons, if_pos hb, piece_self]
  split <;> simp
theorem words_other_step (s : ByteArray) (f k : Nat) (xs : List ByteArray) (hf : f ≤ k) (hk : k < s.size) (hb : Pl.blank s[k] = false) (h : xs.map lb ++ Pl.wds (piece s f k) ((lb s).drop k) = Pl.words (lb s)) :
    xs.map lb ++ Pl.wds (piece s f (k + 1)) ((lb s).drop (k + 1)) = Pl.words (lb s) := by
  rw [← h, drop_cons s k hk, Pl.wds_cons, hb, piece_succ s f k hf hk]
  simp
theorem words_end (s : ByteArray) (f : Nat) (xs : List ByteArray) (hf : f ≤ s.size) (h : xs.map lb ++ Pl.wds (piece s f s.size) ((lb s).drop s.size) = Pl.words (lb s)) :
    (wstep s f s.size xs).map lb = Pl.words (lb s) := by
  rw [← h, wstep_lb s f s.size hf (Nat.le_refl _), List.drop_of_length_le (by rw [Lib.size_eq]; exact Nat.le_refl _), Pl.wds_nil]
theorem blank_of (c : UInt8) : Pl.blank c = (decide ((c.toNat : Int) = 32) || decide ((c.toNat : Int) = 9) || decide ((c.toNat : Int) = 10)) := by
  unfold Pl.blank
  have e : ∀ (d : UInt8), (c == d) = decide ((c.toNat : Int) = d.toNat) := fun d => by
    rw [Bool.eq_iff_iff]
    simp only [beq_iff_eq, decide_eq_true_eq]
    constructor
    · rintro rfl; rfl
    · exact fun h => Pl.u8_ext h
  rw [e, e, e]; rfl

end Go.Proofs.YtidccanfjcanoaaGreatDoor
