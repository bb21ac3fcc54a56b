/-
  PATHS: the document's Check; Page, Link; PathsChecks' walk.
-/
import Derived.Test.YtcainpicbkncpaaDoorChkW
namespace Go.Proofs.YtcainpicbkncpaaDoor
open Go.RowKit
set_option linter.unusedVariables false

theorem drop_consP (s : ByteArray) (k : Nat) (h : k < s.size) : (lb s).drop k = s[k] :: (lb s).drop (k + 1) := by
  rw [List.drop_eq_getElem_cons (by rw [lb_len]; exact h)]; rfl
theorem ext_snoc (s : ByteArray) (f k : Nat) (hf : f ≤ k) (hk : k < s.size) : lb (s.extract f (k + 1)) = lb (s.extract f k) ++ [s[k]] := by
  rw [lb_ext, lb_ext, show k + 1 - f = (k - f) + 1 by omega, List.take_succ_eq_append_getElem (by rw [List.length_drop, lb_len]; omega)]
  congr 2
  rw [List.getElem_drop]
  have e2 : f + (k - f) = k := by omega
  simp only [e2]; rfl
theorem u8_litP (c : UInt8) (k : UInt8) (h : ¬ c = k) : ¬ ((c.toNat : Int) = (k.toNat : Int)) := fun e => h (UInt8.toNat_inj.1 (by omega))
/-- Where the document's loop stands. -/
def ChkAt (s : ByteArray) (f i : Nat) : Prop := (i ≤ s.size ∧ f ≤ i ∧ Pa.names (lb s) = (Pa.pre (lb (s.extract f i)) (Pa.pieces ((lb s).drop i))).all Pl.name) ∨ (i = s.size + 1 ∧ Pa.names (lb s) = true)
theorem chk_start (s : ByteArray) : ChkAt s 0 0 := by
  refine .inl ⟨Nat.zero_le _, Nat.le_refl _, ?_⟩
  have : lb (s.extract 0 0) = [] := by rw [lb_ext]; simp
  rw [this, List.drop_zero, Pa.pre_nil]; rfl
theorem chk_dot {s : ByteArray} {f i : Nat} (h : ChkAt s f i) (hi : i < s.size) (hc : s[i] = 46) : f ≤ i ∧ Pa.names (lb s) = (Pl.name (lb (s.extract f i)) && Pa.names ((lb s).drop (i + 1))) := by
  rcases h with ⟨_, h2, h3⟩ | ⟨h1, _⟩
  · refine ⟨h2, ?_⟩
    rw [h3, drop_consP s i hi, Pa.pieces, if_pos hc]
    simp [Pa.pre, Pa.names]
  · omega
theorem chk_other {s : ByteArray} {f i : Nat} (h : ChkAt s f i) (hi : i < s.size) (hc : ¬ s[i] = 46) : ChkAt s f (i + 1) := by
  rcases h with ⟨_, h2, h3⟩ | ⟨h1, _⟩
  · refine .inl ⟨hi, by omega, ?_⟩
    rw [h3, drop_consP s i hi, Pa.pieces, if_neg hc, ext_snoc s f i h2 hi, Pa.pre_append _ _ _ (Pa.pieces_ne _)]
  · omega
theorem chk_end {s : ByteArray} {f : Nat} (h : ChkAt s f s.size) : f ≤ s.size ∧ Pa.names (lb s) = Pl.name (lb (s.extract f s.size)) := by
  rcases h with ⟨_, h2, h3⟩ | ⟨h1, _⟩
  · refine ⟨h2, ?_⟩
    rw [h3, List.drop_of_length_le (by rw [lb_len]; exact Nat.le_refl _)]
    simp [Pa.pieces, Pa.pre]
  · omega
theorem chk_next {s : ByteArray} {i : Nat} (hi : i < s.size) (h : Pa.names (lb s) = Pa.names ((lb s).drop (i + 1))) : ChkAt s (i + 1) (i + 1) := by
  refine .inl ⟨hi, Nat.le_refl _, ?_⟩
  have : lb (s.extract (i + 1) (i + 1)) = [] := by rw [lb_ext]; simp
  rw [this, Pa.pre_nil, h]; rfl

set_option maxHeartbeats 2000000 in
set_option maxRecDepth 100000 in
theorem refCheck_any (s : ByteArray) (hs : s.size ≤ 140737488351232) (w : World) :
    Calls Tryd.prog 9 #[.string s] w fun e w' => e = .returned (.bool (Pa.check (lb s))) ∧ w = w' := by
  by_cases h60 : s.size ≤ 60
  · have hck : Pa.check (lb s) = Pa.names (lb s) := by unfold Pa.check; rw [lb_len, decide_eq_true h60]; rfl
    rw [hck]
    have h60i : ¬ (60 : Int) < (s.size : Int) := by omega
    clear hck
    go_enter Tryd.func9, Tryd.ntmps9
    go_wp2_with fail
    go_loop [3, 4] (fun fr i => ∃ f k : Nat, k ≤ s.size + 1 ∧ fr = .int .i64 f ∧ i = .int .i64 k ∧ ChkAt s f k) (fun _ i => s.size + 1 - (intOf i).toNat)
    case atStart => exact ⟨0, 0, by omega, rfl, rfl, chk_start s⟩
    case round =>
      obtain ⟨f, k, hk, rfl, rfl, hat⟩ := hrel
      have HAt := Lib.hid hat
      clear hat
      rcases (by omega : k < s.size ∨ k = s.size ∨ k = s.size + 1) with hlt | rfl | rfl
      · have hki : (k : Int) ≤ (s.size : Int) := by omega
        have hne : ((k : Int) == (s.size : Int)) = false := by simp; omega
        by_cases h46 : s[k] = 46
        · obtain ⟨hf, hnm⟩ := chk_dot HAt.out hlt h46
          have hb : ((s[k].toNat : Int) == 46) = true := by rw [h46]; rfl
          have hes : (s.extract f k).size ≤ 60 := by rw [ByteArray.size_extract]; omega
          have hkl : k ≤ s.size := by omega
          have hcn := refName_any (s.extract f k) (by omega)
          rcases hp : Pl.name (lb (s.extract f k))
          · rw [show Pl.name (s.extract f k).data.toList = false from hp] at hcn
            have HCN := Lib.hid hcn
            have HN : Hid (Pa.names (lb s) = false) := Lib.hid (by rw [hnm, hp]; rfl)
            clear h46 hp hcn hnm
            go_wp2_with fail
            refine (HCN.out _).mono ?_
            rintro e w' ⟨rfl, rfl⟩
            go_wp2_with fail
            go_ret
            exact ⟨ret_bool (by rw [HN.out]), rfl⟩
          · rw [show Pl.name (s.extract f k).data.toList = true from hp] at hcn
            have HCN := Lib.hid hcn
            have HN := Lib.hid (chk_next hlt (by rw [hnm, hp]; rfl))
            clear h46 hp hcn hnm
            go_wp2_with fail
            refine (HCN.out _).mono ?_
            rintro e w' ⟨rfl, rfl⟩
            go_wp2_with fail
            go_round
            case rel => exact ⟨k + 1, k + 1, by omega, by go_num, by go_num, HN.out⟩
            case measure => simp [intOf]; omega
        · have hb : ((s[k].toNat : Int) == 46) = false := by have := u8_litP s[k] 46 h46; simpa using this
          have HN := Lib.hid (chk_other HAt.out hlt h46)
          clear h46
          go_wp2_with fail
          go_round
          case rel => exact ⟨f, k + 1, by omega, rfl, by go_num, HN.out⟩
          case measure => simp [intOf]; omega
      · obtain ⟨hf, hnm⟩ := chk_end HAt.out
        have hes : (s.extract f s.size).size ≤ 60 := by rw [ByteArray.size_extract]; omega
        have hcn := refName_any (s.extract f s.size) (by omega)
        have hself : ((s.size : Int) == (s.size : Int)) = true := by simp
        rcases hp : Pl.name (lb (s.extract f s.size))
        · rw [show Pl.name (s.extract f s.size).data.toList = false from hp] at hcn
          have HCN := Lib.hid hcn
          have HN : Hid (Pa.names (lb s) = false) := Lib.hid (by rw [hnm, hp])
          clear hp hcn hnm
          go_wp2_with fail
          refine (HCN.out _).mono ?_
          rintro e w' ⟨rfl, rfl⟩
          go_wp2_with fail
          go_ret
          exact ⟨ret_bool (by rw [HN.out]), rfl⟩
        · rw [show Pl.name (s.extract f s.size).data.toList = true from hp] at hcn
          have HCN := Lib.hid hcn
          have HN : Hid (Pa.names (lb s) = true) := Lib.hid (by rw [hnm, hp])
          clear hp hcn hnm
          go_wp2_with fail
          refine (HCN.out _).mono ?_
          rintro e w' ⟨rfl, rfl⟩
          go_wp2_with fail
          go_round
          case rel => exact ⟨s.size + 1, s.size + 1, by omega, by go_num, by go_num, .inr ⟨rfl, HN.out⟩⟩
          case measure => simp [intOf]
      · have HN : Hid (Pa.names (lb s) = true) := Lib.hid (by rcases HAt.out with ⟨h, _⟩ | ⟨_, h⟩; omega; exact h)
        have hki : ¬ ((s.size + 1 : Nat) : Int) ≤ (s.size : Int) := by omega
        go_wp2_with fail
        go_ret
        exact ⟨ret_bool (by rw [HN.out]), rfl⟩
  · have hck : Pa.check (lb s) = false := by unfold Pa.check; rw [lb_len, decide_eq_false h60]; rfl
    rw [hck]
    have h60i : (60 : Int) < (s.size : Int) := by omega
    clear hck
    go_enter Tryd.func9, Tryd.ntmps9
    go_wp2_with fail
    go_ret
    exact ⟨rfl, rfl⟩

theorem beyond_no1 {n : Nat} (h : beyond [(n : Int)] = false) : n ≤ 1048576 := by
  unfold beyond sumI at h
  simp at h
  omega
theorem ml_of {W : World} (h : W.ShapedOpen Tryd.prog) : ML W := Tryd.laysM146.s1_3 W h

set_option maxHeartbeats 2000000 in
set_option maxRecDepth 100000 in
theorem pathsChecks_walk (s : ByteArray) (hs : s.size ≤ 140737488351232) (w : World) (hM : ML w) :
    Calls Tryd.prog 3 #[.string s] w fun e w' => e = .returned (.bool true) ∧ Below w.heap.size w w' := by
  rcases hb : beyond [(s.size : Int)]
  · have hz := beyond_no1 hb
    go_enter Tryd.func3, Tryd.ntmps3
    go_wp2_with fail
    refine (beyond1 w s.size (by omega)).mono ?_
    rintro e w' ⟨rfl, rfl⟩
    have c1 : Below w.heap.size w (w.alloc (.cells #[.int .i64 (s.size : Int)] 3)) := (Below.refl _ _).alloc (Nat.le_refl _) _
    go_wp2_with fail
    refine (check_any s hs _ (hM.below c1)).mono ?_
    rintro e w2 ⟨rfl, b2⟩
    go_wp2_with fail
    refine (refCheck_any s hs _).mono ?_
    rintro e w' ⟨rfl, rfl⟩
    go_wp2_with fail
    go_ret
    exact ⟨ret_bool (by simp), c1.trans (b2.mono c1.size)⟩
  · go_enter Tryd.func3, Tryd.ntmps3
    go_wp2_with fail
    refine (beyond1 w s.size (by omega)).mono ?_
    rintro e w' ⟨rfl, rfl⟩
    go_wp2_with fail
    go_ret
    exact ⟨rfl, (Below.refl _ _).alloc (Nat.le_refl _) _⟩
end Go.Proofs.YtcainpicbkncpaaDoor
