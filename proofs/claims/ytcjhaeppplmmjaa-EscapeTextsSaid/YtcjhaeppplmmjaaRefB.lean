/-
  ESCAPE: the document's Back, by contract.
-/
import Derived.Test.YtcjhaeppplmmjaaRefE
import Derived.Test.YtcjhaeppplmmjaaBackE
namespace Go.Proofs.Ytcjhaeppplmmjaa
open Go.RowKit
set_option linter.unusedVariables false

theorem toL2 (x : ByteArray) : x.toList = lb x := Lib.toList_data x
/-- A text begins with another one just if its piece is that one. -/
theorem pre_piece (s : ByteArray) (i : Nat) (hi : i ≤ s.size) (p : List UInt8) : Es.pre p ((lb s).drop i) = (decide (p.length ≤ s.size - i) && ((s.extract i (i + p.length)).toList == p)) := by
  rw [toL2, lb_ext, show i + p.length - i = p.length by omega]
  generalize hd : (lb s).drop i = d
  have hl : d.length = s.size - i := by rw [← hd, List.length_drop, lb_len]
  rw [← hl]
  clear hd hl
  rw [Bool.eq_iff_iff]
  simp only [Bool.and_eq_true, decide_eq_true_eq, beq_iff_eq, Es.pre_iff]
  constructor
  · rintro ⟨t, rfl⟩
    exact ⟨by simp, by simp⟩
  · rintro ⟨h1, h2⟩
    exact ⟨d.drop p.length, by conv => lhs; rw [← List.take_append_drop p.length d, h2]⟩
theorem _root_.Go.Proofs.Ytcjhaeppplmmjaa.Es.pre_of_hit (d : List UInt8) (c : UInt8) (h0 : c ≠ 0) (h : Es.hit d = c) (_hc : Es.sg c = true) : Es.pre (Es.std c) d = true := by
  obtain ⟨_, t, ht⟩ := Es.hit_some d (by rw [h]; exact h0)
  rw [h] at ht
  rw [ht]
  exact Es.pre_append _ _
theorem piece_hit (s : ByteArray) (k : Nat) (hk : k ≤ s.size) (c : UInt8) (L : Nat) (std : List UInt8) (h1 : Es.std c = std) (h2 : std.length = L) (h0 : c ≠ 0) (h : Es.hit ((lb s).drop k) = c) :
    L ≤ s.size - k ∧ ((s.extract k (k + L)).toList == std) = true := by
  have := pre_piece s k hk std
  rw [← h1, Es.pre_of_hit _ c h0 h (by obtain ⟨h3, _⟩ := Es.hit_some ((lb s).drop k) (by rw [h]; exact h0); rw [← h]; exact h3), h1, h2] at this
  have := this.symm
  simp only [Bool.and_eq_true, decide_eq_true_eq] at this
  exact this
theorem piece_miss (s : ByteArray) (k : Nat) (hk : k ≤ s.size) (c : UInt8) (L : Nat) (std : List UInt8) (h1 : Es.std c = std) (h2 : std.length = L) (hs : Es.sg c = true) (h : Es.hit ((lb s).drop k) ≠ c) :
    ¬ L ≤ s.size - k ∨ (L ≤ s.size - k ∧ ((s.extract k (k + L)).toList == std) = false) := by
  have := pre_piece s k hk std
  rw [← h1] at this
  cases hp : Es.pre (Es.std c) ((lb s).drop k) with
  | true => exact absurd (Es.hit_pre _ c hs hp) h
  | false =>
    rw [hp, h1, h2] at this
    by_cases hL : L ≤ s.size - k
    · rw [decide_eq_true hL, Bool.true_and] at this
      exact .inr ⟨hL, this.symm⟩
    · exact .inl hL
theorem hit_of_pre (d : List UInt8) (c : UInt8) (hc : Es.sg c = true) (h : Es.pre (Es.std c) d = true) : Es.hit d = c := Es.hit_pre d c hc h
theorem hit_ne_pre (d : List UInt8) (c : UInt8) (hc : Es.sg c = true) (h : Es.hit d ≠ c) : Es.pre (Es.std c) d = false := by
  cases hp : Es.pre (Es.std c) d
  · rfl
  · exact absurd (Es.hit_pre d c hc hp) h
/-- The signs, as the document's loop has them. -/
def sgs : List UInt8 := [38, 60, 62, 34, 39]
/-- How far the search among the signs has come. -/
def foundN (h : UInt8) (k : Nat) : Nat := if h ∈ sgs.take k then (Es.std h).length else 0
def foundL (h : UInt8) (k : Nat) : List UInt8 := if h ∈ sgs.take k then [h] else []
theorem sgs_mem (h : UInt8) : h ∈ sgs ↔ Es.sg h = true := by rw [Es.sg_cases]; simp [sgs]

/-- One step of the search: the sign c stands next. -/
theorem found_hit (h : UInt8) (k : Nat) (c : UInt8) (hk : sgs[k]? = some c) (hc : h = c) : foundN h (k + 1) = (Es.std c).length ∧ foundL h (k + 1) = [c] ∧ foundN h k = 0 ∧ foundL h k = [] := by
  subst hc
  have h5 : k < 5 := by have := (List.getElem?_eq_some_iff.1 hk).1; simpa [sgs] using this
  rcases (by omega : k = 0 ∨ k = 1 ∨ k = 2 ∨ k = 3 ∨ k = 4) with rfl | rfl | rfl | rfl | rfl <;> (simp [sgs] at hk; subst hk; decide)
theorem found_miss (h : UInt8) (k : Nat) (c : UInt8) (hk : sgs[k]? = some c) (hc : h ≠ c) : foundN h (k + 1) = foundN h k ∧ foundL h (k + 1) = foundL h k := by
  have e : sgs.take (k + 1) = sgs.take k ++ [c] := by
    have h5 := (List.getElem?_eq_some_iff.1 hk).1
    rw [List.take_succ_eq_append_getElem h5]
    congr 2
    exact (List.getElem?_eq_some_iff.1 hk).2
  unfold foundN foundL
  rw [e]
  simp [hc]
theorem found_end (h : UInt8) : foundN h 5 = (Es.std h).length ∨ (Es.sg h = false ∧ foundN h 5 = 0) := by
  unfold foundN
  have : sgs.take 5 = sgs := rfl
  rw [this]
  by_cases hm : h ∈ sgs
  · rw [if_pos hm]; exact .inl rfl
  · rw [if_neg hm]; exact .inr ⟨by cases hs : Es.sg h; rfl; exact absurd ((sgs_mem h).2 hs) hm, rfl⟩

set_option maxHeartbeats 4000000 in
set_option maxRecDepth 100000 in
theorem refBack_any (s : ByteArray) (hs : s.size ≤ 17592186044416) (w : World) :
    Calls Try.prog 13 #[.string s] w fun e w' => BackPost (Es.back (lb s)) e ∧ Below w.heap.size w w' := by
  obtain ⟨i0, hi, hz0, hz1, hz2⟩ := info_parts infoByte
  go_enter Try.func13, Try.ntmps13
  go_wp2_with fail
  go_loopw [4, 6] (fun v i wr => ∃ (k : Nat) (acc : List UInt8), k ≤ s.size ∧ acc.length ≤ k ∧ i = .int .i64 k ∧ wr.ownsRow w.heap.size 5 1 v acc.length (acc.map bv) ∧ Es.back (lb s) = (Es.un 0 ((lb s).drop k)).map (acc ++ ·) ∧ Below w.heap.size w wr) (fun _ i _ => s.size - (intOf i).toNat)
  case atStart => exact ⟨0, [], Nat.zero_le _, Nat.le_refl _, rfl, World.ownsRow_nil _ _ _ _, by rw [List.drop_zero]; show Es.un 0 (lb s) = _; cases Es.un 0 (lb s) <;> rfl, Below.refl _ _⟩
  case round =>
    obtain ⟨k, acc, hk, hal, rfl, hown, hinv, hb⟩ := hrel
    have HOwn := Lib.hid hown
    have HInv := Lib.hid hinv
    clear hinv
    by_cases hlt : k < s.size
    · have HD := Lib.hid (drop_cons' s k hlt)
      clear hown
      have hst := stands_any s[k]
      rcases hsg : Es.sg s[k]
      · rw [std_nil s[k] hsg] at hst
        have HST := Lib.hid hst
        have HI2 : Hid (Es.back (lb s) = (Es.un 0 ((lb s).drop (k + 1))).map ((acc ++ [s[k]]) ++ ·)) := Lib.hid (by rw [HInv.out, HD.out, Es.un_plain _ _ hsg]; cases Es.un 0 ((lb s).drop (k + 1)) <;> simp)
        clear hst hsg
        go_wp2_with (first
          | (go_at_call 23; refine (HST.out _).mono ?_; rintro e w' ⟨rfl, rfl⟩)
          | (at_builtin; refine wpList_append_own _ rfl _ _ 41 rfl w.heap.size 5 i0 (.int .u8 0) 1 1 Try.underlying41 hi hz0 hz1 hz2 rfl (by decide) _ _ _ rfl (HOwn.out.alloc _) ⟨wr.heap.size, 0, none⟩ 1 1 [_] rfl rfl (cell_one_new _ _ _) (by simp [Value.oneCell']) (by unfold maxLen; omega) (by omega) (by have := hb.size; simp; omega) ?_; intro v' w2 hown' hgrow _))
        have hb2 := (hb.alloc hb.size _).grown hgrow (by have := hb.size; simp; omega) (fun i hi => (HOwn.out.lt i hi).1)
        have HO2 := Lib.hid hown'
        clear hown' hgrow
        go_wp2_with fail
        go_roundw
        case rel =>
          refine ⟨k + 1, acc ++ [s[k]], by omega, by rw [List.length_append]; simp; omega, by go_num, ?_, HI2.out, hb2⟩
          rw [List.length_append, List.map_append]
          exact HO2.out
        case measure => simp [intOf]; omega
      · have HST := Lib.hid hst
        have hne : (⟨(Es.std s[k]).toArray⟩ : ByteArray).toList.isEmpty = false := isEmptyB_no _ (by rw [lb_toArray]; intro h; have := Es.std_ne_of _ hsg; rw [h] at this; simp at this)
        obtain ⟨h, hh⟩ : ∃ h, h = Es.hit ((lb s).drop k) := ⟨_, rfl⟩
        have HH := Lib.hid hh
        have HSG := Lib.hid hsg
        have hkk : k ≤ s.size := by omega
        obtain ⟨sx, hsx⟩ : ∃ x : ByteArray, x = ⟨(Es.std s[k]).toArray⟩ := ⟨_, rfl⟩
        have HST : Hid (∀ w, Calls Try.prog 23 #[.int .u8 (s[k].toNat : Int)] w fun e w' => e = .returned (.string sx) ∧ w = w') := Lib.hid (by rw [hsx]; exact hst)
        rw [← hsx] at hne
        clear hst hsg hh hsx
        go_wp2_with (go_at_call 23; refine (HST.out _).mono ?_; rintro e w' ⟨rfl, rfl⟩)
        go_loopw [4, 7, 8] (fun v n j wq => ∃ q : Nat, q ≤ 5 ∧ j = .int .i64 q ∧ n = .int .i64 (foundN h q : Nat) ∧ wq.ownsRow w.heap.size 5 1 v (acc ++ foundL h q).length ((acc ++ foundL h q).map bv) ∧ Below w.heap.size w wq) (fun _ _ j _ => 5 - (intOf j).toNat)
        case atStart => exact ⟨0, by omega, rfl, by simp [foundN], by simpa [foundL] using HOwn.out, hb⟩
        case round =>
          obtain ⟨q, hq5, rfl, rfl, hownq, hbq⟩ := hrel
          have HOq := Lib.hid hownq
          clear hownq
          rcases (by omega : q = 0 ∨ q = 1 ∨ q = 2 ∨ q = 3 ∨ q = 4 ∨ q = 5) with rfl | rfl | rfl | rfl | rfl | rfl
          · have hstq : ∀ w, Calls Try.prog 23 #[.int .u8 38] w fun e w' => e = .returned (.string ⟨#[38, 97, 109, 112, 59]⟩) ∧ w = w' := stands_any 38
            have HSQ := Lib.hid hstq
            clear hstq
            by_cases hc : h = 38
            · obtain ⟨f1, f2, f3, f4⟩ := found_hit h 0 38 rfl hc
              obtain ⟨p1, p2⟩ := piece_hit s k hkk 38 5 [38, 97, 109, 112, 59] rfl rfl (by decide) (HH.out.symm.trans hc)
              have p1i : (5 : Int) ≤ (s.size : Int) - (k : Int) := by omega
              have HO3 : Hid (wr.ownsRow w.heap.size 5 1 u4 acc.length (acc.map bv)) := Lib.hid (by have := HOq.out; rwa [f4, List.append_nil] at this)
              have F1 := Lib.hid f1
              have F2 := Lib.hid f2
              clear f1 f2 f3 f4 hc
              go_wp2_with (first
                | (go_at_call 23; refine (HSQ.out _).mono ?_; rintro e w' ⟨rfl, rfl⟩)
                | (at_builtin; refine wpList_append_own _ rfl _ _ 41 rfl w.heap.size 5 i0 (.int .u8 0) 1 1 Try.underlying41 hi hz0 hz1 hz2 rfl (by decide) _ _ _ rfl (HO3.out.alloc _) ⟨wr.heap.size, 0, none⟩ 1 1 [_] rfl rfl (cell_one_new _ _ _) (by simp [Value.oneCell']) (by unfold maxLen; omega) (by omega) (by have := hbq.size; simp; omega) ?_; intro v' w2 hown' hgrow _))
              have hb2 := (hbq.alloc hbq.size _).grown hgrow (by have := hbq.size; simp; omega) (fun i hi => (HO3.out.lt i hi).1)
              have HO2 := Lib.hid hown'
              clear hown' hgrow
              go_wp2_with fail
              go_roundw
              case rel =>
                refine ⟨1, by omega, by go_num, by rw [F1.out]; rfl, ?_, hb2⟩
                rw [F2.out, List.length_append, List.map_append]
                exact HO2.out
              case measure => simp [intOf]
            · obtain ⟨f1, f2⟩ := found_miss h 0 38 rfl hc
              have F1 := Lib.hid f1
              have F2 := Lib.hid f2
              rcases piece_miss s k hkk 38 5 [38, 97, 109, 112, 59] rfl rfl (by decide) (fun e => hc (HH.out.trans e)) with p1 | ⟨p1, p2⟩
              · have p1i : ¬ (5 : Int) ≤ (s.size : Int) - (k : Int) := by omega
                clear f1 f2 hc p1
                go_wp2_with (go_at_call 23; refine (HSQ.out _).mono ?_; rintro e w' ⟨rfl, rfl⟩)
                go_roundw
                case rel => exact ⟨1, by omega, by go_num, by rw [F1.out], by rw [F2.out]; exact HOq.out, hbq⟩
                case measure => simp [intOf]
              · have p1i : (5 : Int) ≤ (s.size : Int) - (k : Int) := by omega
                clear f1 f2 hc
                go_wp2_with (go_at_call 23; refine (HSQ.out _).mono ?_; rintro e w' ⟨rfl, rfl⟩)
                go_roundw
                case rel => exact ⟨1, by omega, by go_num, by rw [F1.out], by rw [F2.out]; exact HOq.out, hbq⟩
                case measure => simp [intOf]
          · have hstq : ∀ w, Calls Try.prog 23 #[.int .u8 60] w fun e w' => e = .returned (.string ⟨#[38, 108, 116, 59]⟩) ∧ w = w' := stands_any 60
            have HSQ := Lib.hid hstq
            clear hstq
            by_cases hc : h = 60
            · obtain ⟨f1, f2, f3, f4⟩ := found_hit h 1 60 rfl hc
              obtain ⟨p1, p2⟩ := piece_hit s k hkk 60 4 [38, 108, 116, 59] rfl rfl (by decide) (HH.out.symm.trans hc)
              have p1i : (4 : Int) ≤ (s.size : Int) - (k : Int) := by omega
              have HO3 : Hid (wr.ownsRow w.heap.size 5 1 u4 acc.length (acc.map bv)) := Lib.hid (by have := HOq.out; rwa [f4, List.append_nil] at this)
              have F1 := Lib.hid f1
              have F2 := Lib.hid f2
              clear f1 f2 f3 f4 hc
              go_wp2_with (first
                | (go_at_call 23; refine (HSQ.out _).mono ?_; rintro e w' ⟨rfl, rfl⟩)
                | (at_builtin; refine wpList_append_own _ rfl _ _ 41 rfl w.heap.size 5 i0 (.int .u8 0) 1 1 Try.underlying41 hi hz0 hz1 hz2 rfl (by decide) _ _ _ rfl (HO3.out.alloc _) ⟨wr.heap.size, 0, none⟩ 1 1 [_] rfl rfl (cell_one_new _ _ _) (by simp [Value.oneCell']) (by unfold maxLen; omega) (by omega) (by have := hbq.size; simp; omega) ?_; intro v' w2 hown' hgrow _))
              have hb2 := (hbq.alloc hbq.size _).grown hgrow (by have := hbq.size; simp; omega) (fun i hi => (HO3.out.lt i hi).1)
              have HO2 := Lib.hid hown'
              clear hown' hgrow
              go_wp2_with fail
              go_roundw
              case rel =>
                refine ⟨2, by omega, by go_num, by rw [F1.out]; rfl, ?_, hb2⟩
                rw [F2.out, List.length_append, List.map_append]
                exact HO2.out
              case measure => simp [intOf]
            · obtain ⟨f1, f2⟩ := found_miss h 1 60 rfl hc
              have F1 := Lib.hid f1
              have F2 := Lib.hid f2
              rcases piece_miss s k hkk 60 4 [38, 108, 116, 59] rfl rfl (by decide) (fun e => hc (HH.out.trans e)) with p1 | ⟨p1, p2⟩
              · have p1i : ¬ (4 : Int) ≤ (s.size : Int) - (k : Int) := by omega
                clear f1 f2 hc p1
                go_wp2_with (go_at_call 23; refine (HSQ.out _).mono ?_; rintro e w' ⟨rfl, rfl⟩)
                go_roundw
                case rel => exact ⟨2, by omega, by go_num, by rw [F1.out], by rw [F2.out]; exact HOq.out, hbq⟩
                case measure => simp [intOf]
              · have p1i : (4 : Int) ≤ (s.size : Int) - (k : Int) := by omega
                clear f1 f2 hc
                go_wp2_with (go_at_call 23; refine (HSQ.out _).mono ?_; rintro e w' ⟨rfl, rfl⟩)
                go_roundw
                case rel => exact ⟨2, by omega, by go_num, by rw [F1.out], by rw [F2.out]; exact HOq.out, hbq⟩
                case measure => simp [intOf]
          · have hstq : ∀ w, Calls Try.prog 23 #[.int .u8 62] w fun e w' => e = .returned (.string ⟨#[38, 103, 116, 59]⟩) ∧ w = w' := stands_any 62
            have HSQ := Lib.hid hstq
            clear hstq
            by_cases hc : h = 62
            · obtain ⟨f1, f2, f3, f4⟩ := found_hit h 2 62 rfl hc
              obtain ⟨p1, p2⟩ := piece_hit s k hkk 62 4 [38, 103, 116, 59] rfl rfl (by decide) (HH.out.symm.trans hc)
              have p1i : (4 : Int) ≤ (s.size : Int) - (k : Int) := by omega
              have HO3 : Hid (wr.ownsRow w.heap.size 5 1 u4 acc.length (acc.map bv)) := Lib.hid (by have := HOq.out; rwa [f4, List.append_nil] at this)
              have F1 := Lib.hid f1
              have F2 := Lib.hid f2
              clear f1 f2 f3 f4 hc
              go_wp2_with (first
                | (go_at_call 23; refine (HSQ.out _).mono ?_; rintro e w' ⟨rfl, rfl⟩)
                | (at_builtin; refine wpList_append_own _ rfl _ _ 41 rfl w.heap.size 5 i0 (.int .u8 0) 1 1 Try.underlying41 hi hz0 hz1 hz2 rfl (by decide) _ _ _ rfl (HO3.out.alloc _) ⟨wr.heap.size, 0, none⟩ 1 1 [_] rfl rfl (cell_one_new _ _ _) (by simp [Value.oneCell']) (by unfold maxLen; omega) (by omega) (by have := hbq.size; simp; omega) ?_; intro v' w2 hown' hgrow _))
              have hb2 := (hbq.alloc hbq.size _).grown hgrow (by have := hbq.size; simp; omega) (fun i hi => (HO3.out.lt i hi).1)
              have HO2 := Lib.hid hown'
              clear hown' hgrow
              go_wp2_with fail
              go_roundw
              case rel =>
                refine ⟨3, by omega, by go_num, by rw [F1.out]; rfl, ?_, hb2⟩
                rw [F2.out, List.length_append, List.map_append]
                exact HO2.out
              case measure => simp [intOf]
            · obtain ⟨f1, f2⟩ := found_miss h 2 62 rfl hc
              have F1 := Lib.hid f1
              have F2 := Lib.hid f2
              rcases piece_miss s k hkk 62 4 [38, 103, 116, 59] rfl rfl (by decide) (fun e => hc (HH.out.trans e)) with p1 | ⟨p1, p2⟩
              · have p1i : ¬ (4 : Int) ≤ (s.size : Int) - (k : Int) := by omega
                clear f1 f2 hc p1
                go_wp2_with (go_at_call 23; refine (HSQ.out _).mono ?_; rintro e w' ⟨rfl, rfl⟩)
                go_roundw
                case rel => exact ⟨3, by omega, by go_num, by rw [F1.out], by rw [F2.out]; exact HOq.out, hbq⟩
                case measure => simp [intOf]
              · have p1i : (4 : Int) ≤ (s.size : Int) - (k : Int) := by omega
                clear f1 f2 hc
                go_wp2_with (go_at_call 23; refine (HSQ.out _).mono ?_; rintro e w' ⟨rfl, rfl⟩)
                go_roundw
                case rel => exact ⟨3, by omega, by go_num, by rw [F1.out], by rw [F2.out]; exact HOq.out, hbq⟩
                case measure => simp [intOf]
          · have hstq : ∀ w, Calls Try.prog 23 #[.int .u8 34] w fun e w' => e = .returned (.string ⟨#[38, 113, 117, 111, 116, 59]⟩) ∧ w = w' := stands_any 34
            have HSQ := Lib.hid hstq
            clear hstq
            by_cases hc : h = 34
            · obtain ⟨f1, f2, f3, f4⟩ := found_hit h 3 34 rfl hc
              obtain ⟨p1, p2⟩ := piece_hit s k hkk 34 6 [38, 113, 117, 111, 116, 59] rfl rfl (by decide) (HH.out.symm.trans hc)
              have p1i : (6 : Int) ≤ (s.size : Int) - (k : Int) := by omega
              have HO3 : Hid (wr.ownsRow w.heap.size 5 1 u4 acc.length (acc.map bv)) := Lib.hid (by have := HOq.out; rwa [f4, List.append_nil] at this)
              have F1 := Lib.hid f1
              have F2 := Lib.hid f2
              clear f1 f2 f3 f4 hc
              go_wp2_with (first
                | (go_at_call 23; refine (HSQ.out _).mono ?_; rintro e w' ⟨rfl, rfl⟩)
                | (at_builtin; refine wpList_append_own _ rfl _ _ 41 rfl w.heap.size 5 i0 (.int .u8 0) 1 1 Try.underlying41 hi hz0 hz1 hz2 rfl (by decide) _ _ _ rfl (HO3.out.alloc _) ⟨wr.heap.size, 0, none⟩ 1 1 [_] rfl rfl (cell_one_new _ _ _) (by simp [Value.oneCell']) (by unfold maxLen; omega) (by omega) (by have := hbq.size; simp; omega) ?_; intro v' w2 hown' hgrow _))
              have hb2 := (hbq.alloc hbq.size _).grown hgrow (by have := hbq.size; simp; omega) (fun i hi => (HO3.out.lt i hi).1)
              have HO2 := Lib.hid hown'
              clear hown' hgrow
              go_wp2_with fail
              go_roundw
              case rel =>
                refine ⟨4, by omega, by go_num, by rw [F1.out]; rfl, ?_, hb2⟩
                rw [F2.out, List.length_append, List.map_append]
                exact HO2.out
              case measure => simp [intOf]
            · obtain ⟨f1, f2⟩ := found_miss h 3 34 rfl hc
              have F1 := Lib.hid f1
              have F2 := Lib.hid f2
              rcases piece_miss s k hkk 34 6 [38, 113, 117, 111, 116, 59] rfl rfl (by decide) (fun e => hc (HH.out.trans e)) with p1 | ⟨p1, p2⟩
              · have p1i : ¬ (6 : Int) ≤ (s.size : Int) - (k : Int) := by omega
                clear f1 f2 hc p1
                go_wp2_with (go_at_call 23; refine (HSQ.out _).mono ?_; rintro e w' ⟨rfl, rfl⟩)
                go_roundw
                case rel => exact ⟨4, by omega, by go_num, by rw [F1.out], by rw [F2.out]; exact HOq.out, hbq⟩
                case measure => simp [intOf]
              · have p1i : (6 : Int) ≤ (s.size : Int) - (k : Int) := by omega
                clear f1 f2 hc
                go_wp2_with (go_at_call 23; refine (HSQ.out _).mono ?_; rintro e w' ⟨rfl, rfl⟩)
                go_roundw
                case rel => exact ⟨4, by omega, by go_num, by rw [F1.out], by rw [F2.out]; exact HOq.out, hbq⟩
                case measure => simp [intOf]
          · have hstq : ∀ w, Calls Try.prog 23 #[.int .u8 39] w fun e w' => e = .returned (.string ⟨#[38, 35, 51, 57, 59]⟩) ∧ w = w' := stands_any 39
            have HSQ := Lib.hid hstq
            clear hstq
            by_cases hc : h = 39
            · obtain ⟨f1, f2, f3, f4⟩ := found_hit h 4 39 rfl hc
              obtain ⟨p1, p2⟩ := piece_hit s k hkk 39 5 [38, 35, 51, 57, 59] rfl rfl (by decide) (HH.out.symm.trans hc)
              have p1i : (5 : Int) ≤ (s.size : Int) - (k : Int) := by omega
              have HO3 : Hid (wr.ownsRow w.heap.size 5 1 u4 acc.length (acc.map bv)) := Lib.hid (by have := HOq.out; rwa [f4, List.append_nil] at this)
              have F1 := Lib.hid f1
              have F2 := Lib.hid f2
              clear f1 f2 f3 f4 hc
              go_wp2_with (first
                | (go_at_call 23; refine (HSQ.out _).mono ?_; rintro e w' ⟨rfl, rfl⟩)
                | (at_builtin; refine wpList_append_own _ rfl _ _ 41 rfl w.heap.size 5 i0 (.int .u8 0) 1 1 Try.underlying41 hi hz0 hz1 hz2 rfl (by decide) _ _ _ rfl (HO3.out.alloc _) ⟨wr.heap.size, 0, none⟩ 1 1 [_] rfl rfl (cell_one_new _ _ _) (by simp [Value.oneCell']) (by unfold maxLen; omega) (by omega) (by have := hbq.size; simp; omega) ?_; intro v' w2 hown' hgrow _))
              have hb2 := (hbq.alloc hbq.size _).grown hgrow (by have := hbq.size; simp; omega) (fun i hi => (HO3.out.lt i hi).1)
              have HO2 := Lib.hid hown'
              clear hown' hgrow
              go_wp2_with fail
              go_roundw
              case rel =>
                refine ⟨5, by omega, by go_num, by rw [F1.out]; rfl, ?_, hb2⟩
                rw [F2.out, List.length_append, List.map_append]
                exact HO2.out
              case measure => simp [intOf]
            · obtain ⟨f1, f2⟩ := found_miss h 4 39 rfl hc
              have F1 := Lib.hid f1
              have F2 := Lib.hid f2
              rcases piece_miss s k hkk 39 5 [38, 35, 51, 57, 59] rfl rfl (by decide) (fun e => hc (HH.out.trans e)) with p1 | ⟨p1, p2⟩
              · have p1i : ¬ (5 : Int) ≤ (s.size : Int) - (k : Int) := by omega
                clear f1 f2 hc p1
                go_wp2_with (go_at_call 23; refine (HSQ.out _).mono ?_; rintro e w' ⟨rfl, rfl⟩)
                go_roundw
                case rel => exact ⟨5, by omega, by go_num, by rw [F1.out], by rw [F2.out]; exact HOq.out, hbq⟩
                case measure => simp [intOf]
              · have p1i : (5 : Int) ≤ (s.size : Int) - (k : Int) := by omega
                clear f1 f2 hc
                go_wp2_with (go_at_call 23; refine (HSQ.out _).mono ?_; rintro e w' ⟨rfl, rfl⟩)
                go_roundw
                case rel => exact ⟨5, by omega, by go_num, by rw [F1.out], by rw [F2.out]; exact HOq.out, hbq⟩
                case measure => simp [intOf]
          · by_cases h0 : h = 0
            · have hn0 : foundN h 5 = 0 := by rw [h0]; rfl
              have HR : Hid (Es.back (lb s) = none) := Lib.hid (by rw [HInv.out, HD.out, Es.un_none _ _ HSG.out (by rw [← HD.out, ← HH.out]; exact h0)]; rfl)
              rw [hn0]
              clear h0 hn0
              go_wp2_with fail
              go_ret2
              exact ⟨by rw [HR.out]; exact rfl, hbq⟩
            · obtain ⟨k1, t, kt⟩ := Es.hit_some ((lb s).drop k) (by rw [← HH.out]; exact h0)
              rw [← HH.out] at k1 kt
              have hm : h ∈ sgs.take 5 := (sgs_mem h).2 k1
              have hn : foundN h 5 = (Es.std h).length := by unfold foundN; rw [if_pos hm]
              have hl : foundL h 5 = [h] := by unfold foundL; rw [if_pos hm]
              have hlen := congrArg List.length kt
              rw [List.length_drop, lb_len, List.length_append] at hlen
              have h3 := Es.std_ne_of h k1
              have hnz : (((Es.std h).length : Int) == 0) = false := by simp; intro e; rw [e] at h3; simp at h3
              have HR : Hid (Es.back (lb s) = (Es.un 0 ((lb s).drop (k + (Es.std h).length))).map ((acc ++ [h]) ++ ·)) := Lib.hid (by
                rw [HInv.out, kt, Es.un_hit h k1 t, ← List.drop_drop, kt, List.drop_left]
                cases Es.un 0 t <;> simp)
              have HO3 : Hid (wr.ownsRow w.heap.size 5 1 u4 (acc ++ [h]).length ((acc ++ [h]).map bv)) := Lib.hid (by have := HOq.out; rwa [hl] at this)
              rw [hn]
              have h3' : 3 < (Es.std h).length := h3
              have hkn : k + (Es.std h).length ≤ s.size := by omega
              clear kt hlen hm hn hl k1 h0 h3
              generalize (Es.std h).length = n at *
              go_wp2_with fail
              go_roundw
              case rel => exact ⟨k + n, acc ++ [h], hkn, by rw [List.length_append]; simp; omega, by go_num, HO3.out, HR.out, hbq⟩
              case measure => simp [intOf]; omega
    · obtain rfl : k = s.size := by omega
      have hconv := conv_own (P := Try.prog) Try.underlying41 Try.underlying5 Try.underlying9 wr w.heap.size _ _ _ hown
      have HR : Hid (Es.back (lb s) = some acc) := Lib.hid (by rw [HInv.out, List.drop_of_length_le (by rw [lb_len]; exact Nat.le_refl _), Es.un]; simp)
      clear hown
      go_wp2_with fail
      go_ret2
      exact ⟨by rw [HR.out]; exact rfl, hb⟩
end Go.Proofs.Ytcjhaeppplmmjaa
