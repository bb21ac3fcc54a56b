/-
  LettersNamed, LettersBetween: the walks.
-/
import Derived.Test.YtdjfbhdkfdkjnaaAliveW
import Derived.Test.YtdjfbhdkfdkjnaaOrders
namespace Go.Proofs.Ytdjfbhdkfdkjnaa
open Go.RowKit

theorem lb_append (a b : ByteArray) : lb (a ++ b) = lb a ++ lb b := by simp [lb]
theorem size_one (c : UInt8) : (⟨#[c]⟩ : ByteArray).size = 1 := rfl
theorem lb_one (c : UInt8) : lb ⟨#[c]⟩ = [c] := rfl

/-- string([]byte{c}) -/
theorem conv_one {P : Program} {src e dst : TypeId} (hs : P.underlying src = some (.slice e)) (he : P.underlying e = some (.int .u8)) (hd : P.underlying dst = some .string)
    (c : UInt8) (W : World) (n : Nat) (hn : n = W.heap.size) :
    (convert src dst (.slice (some ⟨n, 0, none⟩) 1 1)).run P (W.alloc (.cells #[.int .u8 (c.toNat : Int)] e)) = .ok (.string ⟨#[c]⟩) (W.alloc (.cells #[.int .u8 (c.toNat : Int)] e)) := by
  subst hn
  refine conv_row hs he hd _ _ 1 1 [c] rfl ?_
  intro j hj
  obtain rfl : j = 0 := by simpa using hj
  exact ⟨by rw [World.cell?_alloc_at (hn := rfl)]; rfl, by rw [World.frozen?_alloc_at (hn := rfl)]⟩
theorem u8_of {c : Int} (h : (Lit.int .u8 c).wf = true) : ∃ b : UInt8, c = (b.toNat : Int) := by
  have h1 : IntKind.u8.min = 0 := rfl
  have h2 : IntKind.u8.max = 255 := rfl
  simp only [Lit.wf, Bool.and_eq_true, decide_eq_true_eq] at h
  refine ⟨UInt8.ofNat c.toNat, ?_⟩
  rw [UInt8.toNat_ofNat']
  have : c.toNat % 2 ^ 8 = c.toNat := Nat.mod_eq_of_lt (by omega)
  rw [this]; omega

/-- Letters and digits alone. -/
def plainB (l : List UInt8) : Bool := l.all Pl.ldB
theorem plain_at (s : ByteArray) (k : Nat) (h : k < s.size) (hn : Pl.isLD (s[k].toNat : Int) = false) : plainB (lb s) = false := by
  unfold plainB
  rw [List.all_eq_false]
  exact ⟨s[k], by rw [← data_getElem s k h]; exact List.getElem_mem _, by rw [ldB_of, hn]; simp⟩
theorem isLD_cases (c : Int) : (Pl.isLD c = true ∧ ((97 ≤ c ∧ c ≤ 122) ∨ (65 ≤ c ∧ c ≤ 90) ∨ (48 ≤ c ∧ c ≤ 57))) ∨ (Pl.isLD c = false ∧ (c < 48 ∨ (57 < c ∧ c < 65) ∨ (90 < c ∧ c < 97) ∨ 122 < c)) := by
  rcases h : Pl.isLD c
  · right
    refine ⟨rfl, ?_⟩
    unfold Pl.isLD Pl.isLet Pl.isDig at h
    simp at h; omega
  · left
    refine ⟨rfl, ?_⟩
    unfold Pl.isLD Pl.isLet Pl.isDig at h
    simp at h; omega

set_option maxHeartbeats 2000000 in
theorem plain_any (s : ByteArray) (hs : s.size ≤ 140737488351232) (w : World) :
    Calls Try.prog 24 #[.string s] w fun e w' => e = .returned (.bool (plainB (lb s))) ∧ w = w' := by
  go_enter Try.func24, Try.ntmps24
  go_wp2_with fail
  go_loop [3] (fun i => ∃ k : Nat, k ≤ s.size ∧ i = .int .i64 k ∧ ((lb s).take k).all Pl.ldB = true) (fun i => s.size - (intOf i).toNat)
  case atStart => exact ⟨0, Nat.zero_le _, rfl, rfl⟩
  case round =>
    obtain ⟨k, hk, rfl, hall⟩ := hrel
    have HA := Lib.hid hall
    clear hall
    by_cases hlt : k < s.size
    · have HS := Lib.hid (take_snoc s k hlt)
      have HL := Lib.hid (ldB_of s[k])
      rcases isLD_cases (s[k].toNat : Int) with ⟨h0, h | h | h⟩ | ⟨h0, h | h | h | h⟩
      case inl.inl | inl.inr.inl | inl.inr.inr =>
        have H0 := Lib.hid h0
        obtain ⟨h1, h2⟩ := h
        clear h0
        go_wp2_with fail
        go_round
        case rel => exact ⟨k + 1, by omega, by go_num, by rw [show (lb s).take (k + 1) = _ from HS.out, List.all_append, HA.out]; simp [HL.out, H0.out]⟩
        case measure => simp [intOf]; omega
      all_goals
        have H0 := Lib.hid (plain_at s k hlt h0)
        clear h0
        go_wp2_with fail
        go_ret
        exact ⟨ret_bool (by rw [H0.out]), rfl⟩
    · have : k = s.size := by omega
      subst this
      go_wp2_with fail
      go_ret
      refine ⟨ret_bool ?_, rfl⟩
      have := HA.out
      rw [List.take_of_length_le (by rw [Lib.size_eq]; exact Nat.le_refl _)] at this
      exact this.symm

theorem plain_c {s : ByteArray} {c : Bool} (hs : s.size ≤ 140737488351232) (h : plainB (lb s) = c) (w : World) :
    Calls Try.prog 24 #[.string s] w fun e w' => e = .returned (.bool c) ∧ w = w' := by
  rw [← h]; exact plain_any s hs w
theorem empty_toList {s : ByteArray} (h : lb s = []) : s.toList.isEmpty = true := by rw [Lib.toList_data, show s.data.toList = [] from h]; rfl

/-- What Named comes to, where the text is a name. -/
theorem named_yes {s : ByteArray} {c : UInt8} (hn : Pl.name (lb s) = true) :
    Pl.name (lb (s ++ ⟨#[c]⟩)) = ((Pl.ldB c || decide ((c.toNat : Int) = 45)) && decide (s.size < 60)) ∧ Pl.name (lb (⟨#[45]⟩ ++ s)) = false ∧ Pl.name (lb (⟨#[49]⟩ ++ s)) = false ∧ Pl.name (lb ⟨(Pl.lower (lb s)).toArray⟩) = true := by
  refine ⟨?_, ?_, ?_, ?_⟩
  · rw [lb_append, lb_one, (Pl.name_snoc (lb s) c).1 hn, ← Lib.size_eq]; rfl
  · rw [lb_append]; exact Pl.name_front _ 45 (by decide)
  · rw [lb_append]; exact Pl.name_front _ 49 (by decide)
  · show Pl.name (Pl.lower (lb s)) = true
    rw [Pl.name_lower]; exact hn
theorem named_no {s : ByteArray} {c : UInt8} (hn : Pl.name (lb s) = false) : lb s = [] ∨ Pl.name (lb (s ++ ⟨#[c]⟩)) = false := by
  rw [lb_append, lb_one]; exact (Pl.name_snoc (lb s) c).2 hn
theorem plain_one (c : UInt8) : plainB (lb ⟨#[c]⟩) = Pl.ldB c := by rw [lb_one]; simp [plainB]

set_option maxHeartbeats 1000000 in
theorem named_no_walk (a0 : ByteArray) (c : UInt8) (m p : Bool) (s0 : a0.size ≤ 1048576) (hb : beyond [(a0.size : Int)] = false) (HM : Hid (Pl.name (lb (a0 ++ ⟨#[c]⟩)) = m)) (HP : Hid (plainB (lb ⟨#[c]⟩) = p))
    (HN : Hid (Pl.name (lb a0) = false)) (hm : (a0.toList.isEmpty || !m) = true) (w : World) :
    Calls Try.prog 10 #[.string a0, .int .u8 (c.toNat : Int)] w fun e w' => e = .returned (.bool true) ∧ Below w.heap.size w w' := by
  have hcv := conv_one (P := Try.prog) Try.underlying32 Try.underlying5 Try.underlying9 c
  have HMm := Lib.hid hm
  clear hm
  cases p
  all_goals
    go_enter Try.func10, Try.ntmps10
    go_wp2_with fail
    refine (alive_any _).mono ?_
    rintro e w1 ⟨rfl, b1⟩
    go_wp2_with fail
    refine (beyond1 _ _ (by omega)).mono ?_
    rintro e w' ⟨rfl, rfl⟩
    go_wp2_with fail
    refine (name_c (by rw [ByteArray.size_append, size_one]; omega) HM.out _).mono ?_
    rintro e w' ⟨rfl, rfl⟩
    go_wp2_with fail
    refine (plain_c (by rw [size_one]; omega) HP.out _).mono ?_
    rintro e w' ⟨rfl, rfl⟩
    go_wp2_with fail
    refine (name_c (by omega) HN.out _).mono ?_
    rintro e w' ⟨rfl, rfl⟩
    go_wp2_with fail
    all_goals
      go_ret
      refine ⟨ret_bool (by have := HMm.out; simp_all), ?_⟩
      exact (((b1.alloc b1.size _).alloc (by have := b1.size; simp; omega) _).alloc (by have := b1.size; simp; omega) _)

set_option maxHeartbeats 2000000 in
theorem named_yes_walk (a0 : ByteArray) (c : UInt8) (m p q r : Bool) (s0 : a0.size ≤ 1048576) (hb : beyond [(a0.size : Int)] = false) (HM : Hid (Pl.name (lb (a0 ++ ⟨#[c]⟩)) = m)) (HP : Hid (plainB (lb ⟨#[c]⟩) = p))
    (HN : Hid (Pl.name (lb a0) = true)) (HD : Hid (Pl.name (lb (⟨#[45]⟩ ++ a0)) = false)) (HO : Hid (Pl.name (lb (⟨#[49]⟩ ++ a0)) = false)) (HL : Hid (Pl.name (lb ⟨(Pl.lower (lb a0)).toArray⟩) = true))
    (hq : ((c.toNat : Int) == 45) = q) (hr : decide ((a0.size : Int) < 60) = r) (hm : m = ((p || q) && r)) (w : World) :
    Calls Try.prog 10 #[.string a0, .int .u8 (c.toNat : Int)] w fun e w' => e = .returned (.bool true) ∧ Below w.heap.size w w' := by
  have hcv := conv_one (P := Try.prog) Try.underlying32 Try.underlying5 Try.underlying9 c
  cases p <;> cases q <;> cases r <;> subst hm
  all_goals
    go_enter Try.func10, Try.ntmps10
    go_wp2_with fail
    refine (alive_any _).mono ?_
    rintro e w1 ⟨rfl, b1⟩
    go_wp2_with fail
    refine (beyond1 _ _ (by omega)).mono ?_
    rintro e w' ⟨rfl, rfl⟩
    go_wp2_with fail
    refine (name_c (by rw [ByteArray.size_append, size_one]; omega) HM.out _).mono ?_
    rintro e w' ⟨rfl, rfl⟩
    go_wp2_with fail
    refine (plain_c (by rw [size_one]; omega) HP.out _).mono ?_
    rintro e w' ⟨rfl, rfl⟩
    go_wp2_with fail
    refine (name_c (by omega) HN.out _).mono ?_
    rintro e w' ⟨rfl, rfl⟩
    go_wp2_with fail
    refine (name_c (by rw [ByteArray.size_append, size_one]; omega) HD.out _).mono ?_
    rintro e w' ⟨rfl, rfl⟩
    go_wp2_with fail
    refine (name_c (by rw [ByteArray.size_append, size_one]; omega) HO.out _).mono ?_
    rintro e w' ⟨rfl, rfl⟩
    go_wp2_with fail
    refine (lower_any a0 (by omega) _).mono ?_
    rintro e w2 ⟨rfl, b2⟩
    go_wp2_with fail
    refine (name_c (by rw [lower_size]; omega) HL.out _).mono ?_
    rintro e w' ⟨rfl, rfl⟩
    go_wp2_with fail
    go_ret
    refine ⟨ret_bool (by simp), ?_⟩
    exact (((b1.alloc b1.size _).alloc (by have := b1.size; simp; omega) _).alloc (by have := b1.size; simp; omega) _).trans (b2.mono (by have := b1.size; simp; omega))

set_option maxHeartbeats 400000 in
theorem lettersNamed_walk (a0 : ByteArray) (a1 : Int) (z0 : a0.size ≤ 140737488351232) (w1 : (Lit.int .u8 a1).wf = true) (w : World) :
    Calls Try.prog 10 #[.string a0, .int .u8 a1] w fun e w' => e = .returned (.bool true) ∧ Below w.heap.size w w' := by
  obtain ⟨c, rfl⟩ := u8_of w1
  rcases hb : beyond [(a0.size : Int)]
  · have hsum := beyond_no hb
    simp only [sumI, List.foldr_cons, List.foldr_nil] at hsum
    have s0 : a0.size ≤ 1048576 := by omega
    rcases hn : Pl.name (lb a0)
    · refine named_no_walk a0 c _ _ s0 hb (Lib.hid rfl) (Lib.hid rfl) (Lib.hid hn) ?_ w
      rcases named_no (c := c) hn with h | h
      · rw [empty_toList h]; rfl
      · rw [h]; simp
    · obtain ⟨h1, h2, h3, h4⟩ := named_yes (c := c) hn
      refine named_yes_walk a0 c _ _ _ _ s0 hb (Lib.hid rfl) (Lib.hid rfl) (Lib.hid hn) (Lib.hid h2) (Lib.hid h3) (Lib.hid h4) rfl rfl ?_ w
      rw [h1, plain_one]
      congr 2
      apply propext; omega
  · go_enter Try.func10, Try.ntmps10
    go_wp2_with fail
    refine (alive_any _).mono ?_
    rintro e w1 ⟨rfl, b1⟩
    go_wp2_with fail
    refine (beyond1 _ _ (by omega)).mono ?_
    rintro e w' ⟨rfl, rfl⟩
    go_wp2_with fail
    refine (alive_any _).mono ?_
    rintro e w2 ⟨rfl, b2⟩
    go_wp2_with fail
    go_ret
    exact ⟨rfl, (b1.alloc b1.size _).trans (b2.mono (by have := b1.size; simp; omega))⟩

end Go.Proofs.Ytdjfbhdkfdkjnaa
