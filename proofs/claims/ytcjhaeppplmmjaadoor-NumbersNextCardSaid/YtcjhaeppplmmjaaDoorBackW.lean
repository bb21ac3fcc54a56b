/-
  numbers.Back and binderyref12.Back: the walks.
-/
import Derived.Test.YtcjhaeppplmmjaaDoorRomW
import Derived.Test.YtcjhaeppplmmjaaDoorRomR
namespace Go.Proofs.YtcjhaeppplmmjaaDoor
open Go.RowKit
set_option linter.unusedVariables false

theorem lb_drop (s : ByteArray) (n : Nat) (h : n ≤ s.size) : lb (s.extract n s.size) = (lb s).drop n := by
  simp only [lb, ByteArray.data_extract, Array.toList_extract, List.extract_eq_take_drop]
  have : s.size = s.data.toList.length := Lib.size_eq s
  rw [List.take_of_length_le]
  rw [List.length_drop]; omega

theorem ba_ne {x y : ByteArray} (h : x ≠ y) : (x.toList == y.toList) = false := by
  simp only [beq_eq_false_iff_ne]
  intro he
  rw [Lib.toList_data, Lib.toList_data] at he
  exact h (lb_inj' he)
theorem below_drewN_left {w w1 : World} {q : Nat} (h : Below (w.drewN q).heap.size (w.drewN q) w1) : Below w.heap.size w w1 :=
  (show Below w.heap.size w (w.drewN q) from ⟨rfl, rfl, rfl, Nat.le_refl _, fun _ _ => rfl⟩).trans h
theorem isEmpty_no (s : ByteArray) (h : s.size ≠ 0) : s.toList.isEmpty = false := by
  rw [Lib.toList_data]
  have : s.size = s.data.toList.length := Lib.size_eq s
  cases h0 : s.data.toList
  · rw [h0] at this; exact absurd this h
  · rfl
theorem isEmpty_yes (s : ByteArray) (h : lb s = []) : s.toList.isEmpty = true := by
  rw [Lib.toList_data]; show (lb s).isEmpty = true; rw [h]; rfl
theorem empty_of (s : ByteArray) (h : s.size = 0) : s = ⟨#[]⟩ := by
  apply lb_inj'
  have : s.size = (lb s).length := Lib.size_eq s
  exact List.eq_nil_of_length_eq_zero (by omega : (lb s).length = 0)
theorem num_short (s : List UInt8) (h : s.length < 1 ∨ 15 < s.length) : Rm.num s = 0 := by
  rcases Nat.eq_zero_or_pos (Rm.num s) with h0 | h0
  · exact h0
  · have h1 := Rm.num_pos (s := s) (by omega)
    have h2 := Rm.roman_len (Rm.num s) h0 (Rm.num_le s)
    rw [h1] at h2
    omega
def Same2 (n : Nat) (r : ByteArray) (s : ByteArray) (k : Nat) : Prop := Rm.back (lb s) k = (n, lb r)
theorem back_four {l : List UInt8} (hz : Rm.num l ≠ 0) : Rm.back l 4 = (Rm.num l, []) := by
  have h1 := Rm.num_pos (s := l) hz
  have h2 := Rm.back_roman (Rm.num l) (Rm.num_le _)
  rwa [h1] at h2
theorem same2_yes {m k : Nat} {x s : ByteArray} (h : Same2 m x s k) (hk : k = 4) (hz : Rm.num (lb s) ≠ 0) : lb x = [] ∧ Rm.num (lb s) = m := by
  have h2 := back_four hz
  unfold Same2 at h
  rw [hk] at h
  have h3 := Prod.mk.inj (h2.symm.trans h)
  exact ⟨h3.2.symm, h3.1⟩
theorem same2_no {m k : Nat} {x s : ByteArray} (h : Same2 m x s k) (hk : k = 4) (hz : Rm.num (lb s) = 0) (h1 : 1 ≤ m) (h2 : m ≤ 3999) : (⟨(Rm.roman m).toArray⟩ : ByteArray) ≠ s := by
  rintro rfl
  rw [lb_toArray, Rm.num_roman m h1 h2] at hz
  omega
theorem hasPrefix_c (x : ByteArray) (l : List UInt8) (w : World) :
    Calls Tryd.prog 24 #[.string x, .string ⟨l.toArray⟩] w fun e w' => e = .returned (.bool (l.isPrefixOf (lb x))) ∧ w' = w :=
  Tryd.strings_HasPrefix x ⟨l.toArray⟩ w
theorem Same2.step {m k d : Nat} {x s y : ByteArray} (h : Same2 m x s k) (hd : d = Rm.best k (lb x) 9) (hy : lb y = (lb x).drop (Rm.row k d).length) : Same2 (m * 10 + d) y s (k + 1) := by
  unfold Same2 at *
  rw [Rm.back, h, hy, hd]
theorem Same2.lt {m k : Nat} {x s : ByteArray} (h : Same2 m x s k) : m < 10 ^ k := by
  have := Rm.back_lt (lb s) k
  unfold Same2 at h
  rw [h] at this
  exact this
theorem wrap_md (m d : Nat) (hm : m ≤ 999) (hd : d ≤ 9) : IntKind.i64.wrap (IntKind.i64.wrap ((m : Int) * 10) + (d : Int)) = ((m * 10 + d : Nat) : Int) := by
  simp [IntKind.wrap, IntKind.signed, IntKind.bits]; omega
theorem Same2.zero (s : ByteArray) : Same2 0 s s 0 := rfl

set_option maxHeartbeats 2000000 in
set_option maxRecDepth 100000 in
theorem back_any (s : ByteArray) (w : World) (hR : RomanIn w) :
    Calls Tryd.prog 15 #[.string s] w fun e w' => e = .returned (.tuple #[.int .i64 (Rm.num (lb s)), .int .i64 (if Rm.num (lb s) = 0 then 4 else 0)]) ∧ Below w.heap.size w w' := by
  have hsl : (lb s).length = s.size := (Lib.size_eq s).symm
  obtain ⟨N, hNum⟩ : ∃ N, N = Rm.num (lb s) := ⟨_, rfl⟩
  rw [← hNum]
  obtain ⟨E, hE⟩ : ∃ E : Int, E = (if N = 0 then 4 else 0) := ⟨_, rfl⟩
  rw [← hE]
  by_cases h0 : s.size = 0
  · have hz := num_short (lb s) (.inl (by omega))
    rw [← hNum] at hz
    subst hz
    rw [if_pos rfl] at hE
    subst hE
    clear hNum
    obtain rfl := empty_of s h0
    clear hsl h0
    go_enter Tryd.func15, Tryd.ntmps15
    go_wp2_with fail
    go_ret2
    exact ⟨rfl, Below.refl _ _⟩
  · have hne := isEmpty_no s h0
    by_cases hlong : 16 < s.size
    · have hz := num_short (lb s) (.inr (by omega))
      rw [← hNum] at hz
      subst hz
      rw [if_pos rfl] at hE
      subst hE
      clear hNum hsl h0
      go_enter Tryd.func15, Tryd.ntmps15
      go_wp2_with fail
      go_ret2
      exact ⟨rfl, Below.refl _ _⟩
    · have hlongi : ¬ (16 : Int) < (s.size : Int) := by omega
      have HR := Lib.hid hR
      have HSL := Lib.hid hsl
      have HNum := Lib.hid hNum
      have HE := Lib.hid hE
      clear hR hsl hNum hE
      go_enter Tryd.func15, Tryd.ntmps15
      go_wp2_with fail
      go_loopw [4, 5, 6] (fun n r p wr => ∃ (k m : Nat) (x : ByteArray), k ≤ 4 ∧ p = .int .i64 k ∧ n = .int .i64 m ∧ r = .string x ∧ x.size ≤ 16 ∧ m ≤ 9999 ∧ (k ≤ 3 → m ≤ 999) ∧ Same2 m x s k ∧ ∃ q, w.drewN q = wr) (fun _ _ p _ => 4 - (intOf p).toNat)
      case atStart => exact ⟨0, 0, s, by omega, rfl, rfl, rfl, by omega, by omega, by omega, Same2.zero s, 0, rfl⟩
      case round =>
        obtain ⟨k, m, x, hk, rfl, rfl, rfl, hxs, hm, hm9, hsame, q, rfl⟩ := hrel
        have HS := Lib.hid hsame
        clear hsame
        by_cases hk4 : k = 4
        · subst hk4
          by_cases hz : N = 0
          · by_cases hm0 : 1 ≤ m ∧ m ≤ 3999
            · have hgood := roman_good m hm0.1 hm0.2 (w.drewN q) (fun k d h1 h2 => HR.out k d h1 h2)
              have hny := same2_no HS.out rfl (by rw [← HNum.out]; exact hz) hm0.1 hm0.2
              have hl := bld_size (Rm.roman m)
              generalize (⟨(Rm.roman m).toArray⟩ : ByteArray) = y at *
              have hyb := ba_ne hny
              have hyn : (y.toList != s.toList) = true := by rw [bne, hyb]; rfl
              have HG := Lib.hid hgood
              clear hgood hny hl HS
              by_cases hx0 : x.size = 0
              · obtain rfl := empty_of x hx0
                clear hx0 hxs
                go_wp2_with fail
                refine HG.out.mono ?_
                rintro e w1 ⟨rfl, b1⟩
                go_wp2_with fail
                go_ret2
                refine ⟨?_, below_drewN_left b1⟩
                rw [HE.out, if_pos hz, hz]
                rfl
              · have hx1 := isEmpty_no x hx0
                go_wp2_with fail
                refine HG.out.mono ?_
                rintro e w1 ⟨rfl, b1⟩
                go_wp2_with fail
                go_ret2
                refine ⟨?_, below_drewN_left b1⟩
                rw [HE.out, if_pos hz, hz]
                rfl
            · have hbad := roman_bad (m : Int) (by omega) (w.drewN q)
              have HG := Lib.hid hbad
              clear hbad HS hm0
              by_cases hx0 : x.size = 0
              · obtain rfl := empty_of x hx0
                clear hx0 hxs
                go_wp2_with fail
                refine HG.out.mono ?_
                rintro e w1 ⟨rfl, rfl⟩
                go_wp2_with fail
                go_ret2
                refine ⟨?_, below_drewN_left (Below.refl _ _)⟩
                rw [HE.out, if_pos hz, hz]
                rfl
              · have hx1 := isEmpty_no x hx0
                go_wp2_with fail
                refine HG.out.mono ?_
                rintro e w1 ⟨rfl, rfl⟩
                go_wp2_with fail
                go_ret2
                refine ⟨?_, below_drewN_left (Below.refl _ _)⟩
                rw [HE.out, if_pos hz, hz]
                rfl
          · obtain ⟨hA1, hA2⟩ := same2_yes HS.out rfl (by rw [← HNum.out]; exact hz)
            have hr := Rm.num_pos (s := lb s) (by rw [← HNum.out]; exact hz)
            have hm2 := Rm.num_le (lb s)
            rw [← HNum.out] at hA2 hr hm2
            subst hA2
            have hm1 : 1 ≤ N := by omega
            obtain ⟨y, hy⟩ : ∃ y : ByteArray, y = ⟨(Rm.roman N).toArray⟩ := ⟨_, rfl⟩
            have hyx : y = s := by rw [hy]; exact lb_inj' (by rw [lb_toArray, hr])
            have hgood := roman_good N hm1 hm2 (w.drewN q) (fun k d h1 h2 => HR.out k d h1 h2)
            rw [← hy, hyx] at hgood
            have hx0 : x = ⟨#[]⟩ := lb_inj' hA1
            have HG := Lib.hid hgood
            clear hy hyx hr hA1 y hgood
            subst hx0
            clear hxs HS
            go_wp2_with fail
            refine HG.out.mono ?_
            rintro e w1 ⟨rfl, b1⟩
            go_wp2_with fail
            go_ret2
            refine ⟨?_, below_drewN_left b1⟩
            rw [HE.out, if_neg hz]
            rfl
        · have hk3 : k < 4 := by omega
          have hm3 := hm9 (by omega)
          have hk3i : (k : Int) < 4 := by omega
          go_wp2_with fail
          go_loopw [7, 8] (fun d j wr => ∃ (jj : Nat), jj ≤ 9 ∧ j = .int .i64 ((jj : Int) + 1) ∧ d = .int .i64 (Rm.best k (lb x) jj) ∧ w.drewN q = wr) (fun _ j _ => 10 - (intOf j).toNat)
          case atStart => exact ⟨0, by omega, rfl, rfl, rfl⟩
          case round =>
            obtain ⟨j, hj1, rfl, rfl, rfl⟩ := hrel
            have hd := Rm.best_le k (lb x) j
            by_cases hj : j < 9
            · have hji : (j : Int) + 1 ≤ 9 := by omega
              have cj : w.cell? ⟨0, k * 10 + (j + 1), none⟩ = _ := HR.out k (j + 1) hk3 (by omega)
              have cd : w.cell? ⟨0, k * 10 + Rm.best k (lb x) j, none⟩ = _ := HR.out k (Rm.best k (lb x) j) hk3 (by omega)
              have hyes := Rm.best_yes k (lb x) j
              have hno := Rm.best_no k (lb x) j
              have hsj := bld_size (Rm.row k (j + 1))
              have hsd := bld_size (Rm.row k (Rm.best k (lb x) j))
              have hrow := Rm.row_length k (j + 1)
              have hrowd := Rm.row_length k (Rm.best k (lb x) j)
              obtain ⟨d, hdd⟩ : ∃ d, d = Rm.best k (lb x) j := ⟨_, rfl⟩
              rw [← hdd] at cd hrowd hyes hno hsd hd ⊢
              have HD := Lib.hid hdd
              have HY := Lib.hid hyes
              have HN := Lib.hid hno
              clear hdd hyes hno
              generalize Rm.row k (j + 1) = lj at *
              generalize Rm.row k d = ld at *
              by_cases hlen : ld.length < lj.length
              · go_wp2_with fail
                refine (hasPrefix_c _ _ _).mono ?_
                rintro e w' ⟨rfl, rfl⟩
                rcases hpre : lj.isPrefixOf (lb x)
                · go_wp2_with fail
                  go_roundw
                  case rel => exact ⟨j + 1, by omega, by go_num, by rw [HN.out (fun h => by rw [hpre] at h; cases h.2)], by first | trivial | rfl⟩
                  case measure => simp [intOf]; omega
                · go_wp2_with fail
                  go_roundw
                  case rel => exact ⟨j + 1, by omega, by go_num, by rw [HY.out hlen hpre]; go_num, by first | trivial | rfl⟩
                  case measure => simp [intOf]; omega
              · go_wp2_with fail
                go_roundw
                case rel => exact ⟨j + 1, by omega, by go_num, by rw [HN.out (fun h => hlen h.1)], by first | trivial | rfl⟩
                case measure => simp [intOf]; omega
            · have hj9 : j = 9 := by omega
              subst hj9
              have cd : w.cell? ⟨0, k * 10 + Rm.best k (lb x) 9, none⟩ = _ := HR.out k (Rm.best k (lb x) 9) hk3 (by omega)
              have hsd := bld_size (Rm.row k (Rm.best k (lb x) 9))
              have hpre := Rm.best_prefix k hk3 (lb x) 9
              have hxl : (lb x).length = x.size := (Lib.size_eq x).symm
              obtain ⟨d, hdd⟩ : ∃ d, d = Rm.best k (lb x) 9 := ⟨_, rfl⟩
              rw [← hdd] at cd hsd hd hpre ⊢
              rw [hxl] at hpre
              have hst := fun y (hy : lb y = (lb x).drop (Rm.row k d).length) => HS.out.step hdd hy
              have HST := Lib.hid hst
              have HDR := Lib.hid (lb_drop x (Rm.row k d).length hpre)
              have HXL := Lib.hid hxl
              clear hst hdd hxl
              generalize Rm.row k d = ld at *
              have q0 : (0 : Int) ≤ (k : Int) := Int.natCast_nonneg _
              have q1 : (0 : Int) ≤ (d : Int) := Int.natCast_nonneg _
              have q2 : (d : Int) < 10 := by omega
              have q3 : (0 : Int) ≤ (ld.length : Int) := Int.natCast_nonneg _
              have q4 : (ld.length : Int) ≤ (x.size : Int) := by omega
              go_wp2_with fail
              go_quiet (fail)
              rw [wrap_md m d hm3 hd]
              go_wp2_with fail
              go_roundw
              case rel =>
                refine ⟨k + 1, m * 10 + d, _, by omega, by go_num, rfl, rfl, ?_, by omega, fun h => ?_, HST.out _ HDR.out, q + nq, by first | rfl | exact (World.drewN_drewN _ _ _).symm⟩
                · rw [Lib.size_eq]
                  show (lb (x.extract ld.length x.size)).length ≤ 16
                  rw [HDR.out, List.length_drop, HXL.out]; omega
                · have := Same2.lt (HST.out _ HDR.out)
                  rcases (by omega : k = 0 ∨ k = 1 ∨ k = 2) with rfl | rfl | rfl <;> (simp at this; omega)
              case measure => simp [intOf]; omega

theorem ba_ne' {x y : ByteArray} (h : x ≠ y) : (x.toList == y.toList) = false ∧ (y.toList == x.toList) = false := ⟨ba_ne h, ba_ne (Ne.symm h)⟩

set_option maxHeartbeats 2000000 in
set_option maxRecDepth 100000 in
theorem refBack_any (s : ByteArray) (w : World) :
    Calls Tryd.prog 16 #[.string s] w fun e w' => e = .returned (.tuple #[.int .i64 (Rm.num (lb s)), .int .i64 (if Rm.num (lb s) = 0 then 4 else 0)]) ∧ w' = w := by
  have hsl : (lb s).length = s.size := (Lib.size_eq s).symm
  obtain ⟨N, hNum⟩ : ∃ N, N = Rm.num (lb s) := ⟨_, rfl⟩
  have hN := Rm.num_le (lb s)
  rw [← hNum] at hN ⊢
  obtain ⟨E, hE⟩ : ∃ E : Int, E = (if N = 0 then 4 else 0) := ⟨_, rfl⟩
  rw [← hE]
  by_cases hlong : 16 ≤ s.size
  · have hz := num_short (lb s) (.inr (by omega))
    rw [← hNum] at hz
    subst hz
    rw [if_pos rfl] at hE
    subst hE
    have hlongi : ¬ (s.size : Int) < 16 := by omega
    clear hNum hsl hN
    go_enter Tryd.func16, Tryd.ntmps16
    go_wp2_with fail
    go_loop [4] (fun i => i = .int .i64 1) (fun i => (intOf i).toNat)
    case atStart => rfl
    case round =>
      obtain rfl := hrel
      go_wp2_with fail
      go_ret2
      exact ⟨rfl, rfl⟩
  · have hlongi : (s.size : Int) < 16 := by omega
    have hNs := fun m h1 h2 => Rm.num_eq (lb s) m h1 h2
    rw [← hNum] at hNs
    have HNs := Lib.hid hNs
    have HNum := Lib.hid hNum
    have HE := Lib.hid hE
    clear hNs hNum hE hsl
    go_enter Tryd.func16, Tryd.ntmps16
    go_wp2_with fail
    go_loop [4] (fun i => ∃ k : Nat, k ≤ 3999 ∧ i = .int .i64 ((k : Int) + 1) ∧ (N = 0 ∨ k < N)) (fun i => 4000 - (intOf i).toNat)
    case atStart => exact ⟨0, by omega, rfl, by omega⟩
    case round =>
      obtain ⟨k, hk, rfl, hkN⟩ := hrel
      by_cases hk4 : k < 3999
      · have hk4i : (k : Int) + 1 ≤ 3999 := by omega
        have hc := refRoman_good (k + 1) (by omega) (by omega) w
        have HC := Lib.hid hc
        clear hc
        go_wp2_with fail
        refine HC.out.mono ?_
        rintro e w' ⟨⟨x, rfl, hx⟩, rfl⟩
        by_cases hfound : N = k + 1
        · have hs' : x = s := lb_inj' (by rw [hx]; exact (HNs.out (k + 1) (by omega) (by omega)).2 hfound)
          subst hs'
          have hself : (x.toList == x.toList) = true := by simp
          clear hx
          go_wp2_with fail
          go_ret2
          refine ⟨?_, rfl⟩
          rw [HE.out, if_neg (by omega), hfound]
          rfl
        · have hs' : x ≠ s := by
            rintro rfl
            exact hfound ((HNs.out (k + 1) (by omega) (by omega)).1 hx.symm)
          have hb := ba_ne hs'
          clear hx hs'
          go_wp2_with fail
          go_round
          case rel => exact ⟨k + 1, by omega, by go_num, by omega⟩
          case measure => simp [intOf]; omega
      · have hN0 : N = 0 := by omega
        have hk4i : ¬ (k : Int) + 1 ≤ 3999 := by omega
        go_wp2_with fail
        go_ret2
        refine ⟨?_, rfl⟩
        rw [HE.out, if_pos hN0]
        rfl
end Go.Proofs.YtcjhaeppplmmjaaDoor

