/-
  The reference's sign and Signs, by contract (printed by gen_refsgn.py).
-/
import Derived.Test.YtidccanfjcanoaaGreatDoorSigW
import Derived.Test.YtidccanfjcanoaaGreatDoorSgnP
namespace Go.Proofs.YtidccanfjcanoaaGreatDoor
open Go.RowKit
set_option linter.unusedVariables false

/-- The k-th byte (beyond the end: 0). -/
def fB (s : ByteArray) (k : Nat) : Nat := (s.get! k).toNat
theorem fB_lt (s : ByteArray) (k : Nat) : fB s k < 256 := (s.get! k).toNat_lt
theorem fB_at (s : ByteArray) (k : Nat) (h : k < s.size) : s[k].toNat = fB s k := by
  unfold fB
  rw [show s.get! k = s[k] from get_at s k h]
theorem sgw_fB (s : ByteArray) : Fi.sgw (lb s) = Fi.decW s.size (fB s 0) (fB s 1) (fB s 2) (fB s 3) := by
  unfold Fi.sgw fB
  rw [Lib.getD_get!', Lib.getD_get!', Lib.getD_get!', Lib.getD_get!', sg_len]
theorem ok_no1 {n m a ls : Nat} {f : Nat → Nat} (h : n < m) : Fi.SgnOk n m a ls f = false := decide_eq_false (fun h2 => by have := h2.1; omega)
theorem ok_no2 {n m a ls : Nat} {f : Nat → Nat} (j : Nat) (hj : j < m) (h1 : 1 ≤ j) (h : ¬ (128 ≤ f j ∧ f j < 192)) : Fi.SgnOk n m a ls f = false := decide_eq_false (fun h2 => h (h2.2.1 j hj h1))
theorem ok_no3 {n m a ls v : Nat} {f : Nat → Nat} (hv : Fi.sval a f (m - 1) = v) (h : v < ls ∨ 1114111 < v ∨ (55296 ≤ v ∧ v ≤ 57343)) : Fi.SgnOk n m a ls f = false := decide_eq_false (fun h2 => by
  obtain ⟨_, _, h3, h4, h5⟩ := h2
  rw [hv] at h3 h4 h5
  omega)
theorem ok_yes {n m a ls v : Nat} {f : Nat → Nat} (hv : Fi.sval a f (m - 1) = v) (h1 : m ≤ n) (h2 : ∀ j, j < m → 1 ≤ j → 128 ≤ f j ∧ f j < 192) (h3 : ls ≤ v) (h4 : v ≤ 1114111) (h5 : v < 55296 ∨ 57343 < v) : Fi.SgnOk n m a ls f = true :=
  decide_eq_true ⟨h1, h2, by rw [hv]; exact h3, by rw [hv]; exact h4, by rw [hv]; omega⟩

set_option maxHeartbeats 8000000 in
set_option maxRecDepth 100000 in
theorem refSign_low (s : ByteArray) (h0 : 0 < s.size) (hs : s.size ≤ 1099511627776) (w : World) (hx : fB s 0 < 192) :
    Calls Tryz.prog 129 #[.string s] w fun e w' => e = .returned (.int .i64 (Fi.sgw (lb s) : Nat)) ∧ w = w' := by
  have hf := fB_lt s
  have hb0 := fB_at s 0 h0
  have hl0 := hf 0
  obtain ⟨x, hxx⟩ : ∃ x, fB s 0 = x := ⟨_, rfl⟩
  rw [hxx] at hx hb0 hl0
  have p1a : decide ((192 : Int) ≤ (x : Int)) = false := by simp; omega
  have p2a : decide ((224 : Int) ≤ (x : Int)) = false := by simp; omega
  have p3a : decide ((240 : Int) ≤ (x : Int)) = false := by simp; omega
  have HG : Hid (Fi.sgw (lb s) = 1) := Lib.hid (by rw [sgw_fB]; exact Fi.sg1 _ _ _ _ _ (by omega) (hf 0))
  clear hf hxx hx
  go_enter Tryz.func129, Tryz.ntmps129
  go_wp2_with fail
  go_ret
  exact ⟨ret_int (by rw [HG.out]; rfl), rfl⟩

set_option maxHeartbeats 8000000 in
set_option maxRecDepth 100000 in
theorem refSign_high (s : ByteArray) (h0 : 0 < s.size) (hs : s.size ≤ 1099511627776) (w : World) (hx : 248 ≤ fB s 0) :
    Calls Tryz.prog 129 #[.string s] w fun e w' => e = .returned (.int .i64 (Fi.sgw (lb s) : Nat)) ∧ w = w' := by
  have hf := fB_lt s
  have hb0 := fB_at s 0 h0
  have hl0 := hf 0
  obtain ⟨x, hxx⟩ : ∃ x, fB s 0 = x := ⟨_, rfl⟩
  rw [hxx] at hx hb0 hl0
  have p1a : (192 : Int) ≤ (x : Int) := by omega
  have p1b : decide ((x : Int) < (224 : Int)) = false := by simp; omega
  have p2a : (224 : Int) ≤ (x : Int) := by omega
  have p2b : decide ((x : Int) < (240 : Int)) = false := by simp; omega
  have p3a : (240 : Int) ≤ (x : Int) := by omega
  have p3b : decide ((x : Int) < (248 : Int)) = false := by simp; omega
  have HG : Hid (Fi.sgw (lb s) = 1) := Lib.hid (by rw [sgw_fB]; exact Fi.sg1 _ _ _ _ _ (by omega) (hf 0))
  clear hf hxx hx
  go_enter Tryz.func129, Tryz.ntmps129
  go_wp2_with fail
  go_ret
  exact ⟨ret_int (by rw [HG.out]; rfl), rfl⟩

set_option maxHeartbeats 8000000 in
set_option maxRecDepth 100000 in
theorem refSign_s2 (s : ByteArray) (h0 : 0 < s.size) (hs : s.size ≤ 1099511627776) (w : World) (hx : 192 ≤ fB s 0 ∧ fB s 0 < 224) :
    Calls Tryz.prog 129 #[.string s] w fun e w' => e = .returned (.int .i64 (Fi.sgw (lb s) : Nat)) ∧ w = w' := by
  have hf := fB_lt s
  have hb0 := fB_at s 0 h0
  have hl0 := hf 0
  obtain ⟨x, hxx⟩ : ∃ x, fB s 0 = x := ⟨_, rfl⟩
  rw [hxx] at hx hb0 hl0
  have p1a : (192 : Int) ≤ (x : Int) := by omega
  have p1b : (x : Int) < (224 : Int) := by omega
  have hdw := Fi.dw2 s.size (fB s) hf (by omega) (by omega)
  rw [← sgw_fB] at hdw
  have HG := Lib.hid hdw
  have HF := Lib.hid hf
  have HX := Lib.hid hxx
  obtain ⟨a, ha⟩ : ∃ a, a = x - 192 := ⟨_, rfl⟩
  have hxa : (x : Int) - 192 = (a : Int) := by omega
  have ha31 : a ≤ 31 := by omega
  have HA := Lib.hid ha
  clear hdw hf hxx hx ha
  by_cases hn : 2 ≤ s.size
  · have hni : decide ((s.size : Int) < 2) = false := by simp; omega
    go_enter Tryz.func129, Tryz.ntmps129
    go_wp2_with fail
    go_loop [3, 6] (fun xv i => ∃ k : Nat, k + 1 ≤ 2 ∧ i = .int .i64 ((k : Int) + 1) ∧ xv = .int .i64 ((Fi.sval a (fB s) k : Nat) : Int) ∧ ∀ j, 1 ≤ j → j ≤ k → 128 ≤ fB s j ∧ fB s j < 192) (fun _ i => 8 - (intOf i).toNat)
    case atStart => exact ⟨0, by omega, rfl, rfl, fun j h1 h2 => by omega⟩
    case round =>
      obtain ⟨k, hk, rfl, rfl, hc⟩ := hrel
      have hle := Fi.sval_le a (fB s) ha31 k (by omega) (fun j h1 h2 => (hc j h1 h2).2)
      have HC := Lib.hid hc
      clear hc
      by_cases hlt : k + 1 < 2
      · have hki : (k : Int) + 1 < 2 := by omega
        have hkz : k + 1 < s.size := by omega
        have hb := fB_at s (k + 1) hkz
        have hbl := HF.out (k + 1)
        have HS : Hid (Fi.sval a (fB s) (k + 1) = Fi.sval a (fB s) k * 64 + (fB s (k + 1) - 128)) := Lib.hid rfl
        obtain ⟨y, hy⟩ : ∃ y, fB s (k + 1) = y := ⟨_, rfl⟩
        rw [hy] at hb hbl HS
        have HY := Lib.hid hy
        clear hy
        obtain ⟨v, hv⟩ : ∃ v, Fi.sval a (fB s) k = v := ⟨_, rfl⟩
        rw [hv] at hle HS ⊢
        clear hv
        rcases (by omega : y < 128 ∨ 192 ≤ y ∨ (128 ≤ y ∧ y < 192)) with h | h | ⟨h1, h2⟩
        · have q1 : (y : Int) < 128 := by omega
          have HNo : Hid (Fi.sgw (lb s) = 1) := Lib.hid (by rw [HG.out, if_neg]; simp [ok_no2 (k + 1) hlt (by omega) (show ¬ (128 ≤ fB s (k + 1) ∧ fB s (k + 1) < 192) by rw [HY.out]; omega)])
          go_wp2_with fail
          go_ret
          exact ⟨ret_int (by rw [HNo.out]; rfl), rfl⟩
        · have q1 : decide ((y : Int) < 128) = false := by simp; omega
          have q2 : (192 : Int) ≤ (y : Int) := by omega
          have HNo : Hid (Fi.sgw (lb s) = 1) := Lib.hid (by rw [HG.out, if_neg]; simp [ok_no2 (k + 1) hlt (by omega) (show ¬ (128 ≤ fB s (k + 1) ∧ fB s (k + 1) < 192) by rw [HY.out]; omega)])
          go_wp2_with fail
          go_ret
          exact ⟨ret_int (by rw [HNo.out]; rfl), rfl⟩
        · have q1 : decide ((y : Int) < 128) = false := by simp; omega
          have q2 : decide ((192 : Int) ≤ (y : Int)) = false := by simp; omega
          go_wp2_with fail
          go_round
          case rel =>
            refine ⟨k + 1, by omega, by go_num, ?_, fun j g1 g2 => ?_⟩
            · rw [HS.out]; go_num
            · rcases (by omega : j ≤ k ∨ j = k + 1) with g | rfl
              · exact HC.out j g1 g
              · rw [HY.out]; exact ⟨h1, h2⟩
          case measure => simp [intOf]; omega
      · obtain ⟨k1, hk1⟩ : ∃ k1, k1 = k := ⟨_, rfl⟩
        have hkm : k = 2 - 1 := by omega
        have hki : decide ((k : Int) + 1 < 2) = false := by simp; omega
        obtain ⟨v, hv⟩ : ∃ v, Fi.sval a (fB s) k = v := ⟨_, rfl⟩
        have hv2 : Fi.sval (fB s 0 - 192) (fB s) (2 - 1) = v := by rw [← hv, hkm, HX.out, HA.out]
        have HV := Lib.hid hv2
        rw [hv] at hle ⊢
        clear hv hv2 hkm hk1
        rcases (by omega : v < 128 ∨ (128 ≤ v ∧ 1114111 < v) ∨ (128 ≤ v ∧ v ≤ 1114111 ∧ 55296 ≤ v ∧ v ≤ 57343) ∨ (128 ≤ v ∧ v ≤ 1114111 ∧ v < 55296) ∨ (128 ≤ v ∧ v ≤ 1114111 ∧ 57343 < v)) with h | ⟨h1, h2⟩ | ⟨h1, h2, h3, h4⟩ | ⟨h1, h2, h3⟩ | ⟨h1, h2, h3⟩
        · have q1 : (v : Int) < 128 := by omega
          have HNo : Hid (Fi.sgw (lb s) = 1) := Lib.hid (by rw [HG.out, if_neg]; simp [ok_no3 HV.out (.inl h)])
          go_wp2_with fail
          go_ret
          exact ⟨ret_int (by rw [HNo.out]; rfl), rfl⟩
        · have q1 : decide ((v : Int) < 128) = false := by simp; omega
          have q2 : (1114111 : Int) < (v : Int) := by omega
          have HNo : Hid (Fi.sgw (lb s) = 1) := Lib.hid (by rw [HG.out, if_neg]; simp [ok_no3 HV.out (.inr (.inl h2))])
          go_wp2_with fail
          go_ret
          exact ⟨ret_int (by rw [HNo.out]; rfl), rfl⟩
        · have q1 : decide ((v : Int) < 128) = false := by simp; omega
          have q2 : decide ((1114111 : Int) < (v : Int)) = false := by simp; omega
          have q3 : (55296 : Int) ≤ (v : Int) := by omega
          have q4 : (v : Int) ≤ (57343 : Int) := by omega
          have HNo : Hid (Fi.sgw (lb s) = 1) := Lib.hid (by rw [HG.out, if_neg]; simp [ok_no3 HV.out (.inr (.inr ⟨h3, h4⟩))])
          go_wp2_with fail
          go_ret
          exact ⟨ret_int (by rw [HNo.out]; rfl), rfl⟩
        · have q1 : decide ((v : Int) < 128) = false := by simp; omega
          have q2 : decide ((1114111 : Int) < (v : Int)) = false := by simp; omega
          have q3 : decide ((55296 : Int) ≤ (v : Int)) = false := by simp; omega
          have HYes : Hid (Fi.sgw (lb s) = 2) := Lib.hid (by rw [HG.out, if_pos (ok_yes HV.out hn (fun j g1 g2 => HC.out j g2 (by omega)) h1 h2 (.inl h3))])
          go_wp2_with fail
          go_ret
          exact ⟨ret_int (by rw [HYes.out]; rfl), rfl⟩
        · have q1 : decide ((v : Int) < 128) = false := by simp; omega
          have q2 : decide ((1114111 : Int) < (v : Int)) = false := by simp; omega
          have q3 : (55296 : Int) ≤ (v : Int) := by omega
          have q4 : decide ((v : Int) ≤ (57343 : Int)) = false := by simp; omega
          have HYes : Hid (Fi.sgw (lb s) = 2) := Lib.hid (by rw [HG.out, if_pos (ok_yes HV.out hn (fun j g1 g2 => HC.out j g2 (by omega)) h1 h2 (.inr h3))])
          go_wp2_with fail
          go_ret
          exact ⟨ret_int (by rw [HYes.out]; rfl), rfl⟩
  · have hni : (s.size : Int) < 2 := by omega
    have HNo : Hid (Fi.sgw (lb s) = 1) := Lib.hid (by rw [HG.out, if_neg]; simp [ok_no1 (show s.size < 2 by omega)])
    go_enter Tryz.func129, Tryz.ntmps129
    go_wp2_with fail
    go_ret
    exact ⟨ret_int (by rw [HNo.out]; rfl), rfl⟩

set_option maxHeartbeats 8000000 in
set_option maxRecDepth 100000 in
theorem refSign_s3 (s : ByteArray) (h0 : 0 < s.size) (hs : s.size ≤ 1099511627776) (w : World) (hx : 224 ≤ fB s 0 ∧ fB s 0 < 240) :
    Calls Tryz.prog 129 #[.string s] w fun e w' => e = .returned (.int .i64 (Fi.sgw (lb s) : Nat)) ∧ w = w' := by
  have hf := fB_lt s
  have hb0 := fB_at s 0 h0
  have hl0 := hf 0
  obtain ⟨x, hxx⟩ : ∃ x, fB s 0 = x := ⟨_, rfl⟩
  rw [hxx] at hx hb0 hl0
  have p1a : (192 : Int) ≤ (x : Int) := by omega
  have p1b : decide ((x : Int) < (224 : Int)) = false := by simp; omega
  have p2a : (224 : Int) ≤ (x : Int) := by omega
  have p2b : (x : Int) < (240 : Int) := by omega
  have hdw := Fi.dw3 s.size (fB s) hf (by omega) (by omega)
  rw [← sgw_fB] at hdw
  have HG := Lib.hid hdw
  have HF := Lib.hid hf
  have HX := Lib.hid hxx
  obtain ⟨a, ha⟩ : ∃ a, a = x - 224 := ⟨_, rfl⟩
  have hxa : (x : Int) - 224 = (a : Int) := by omega
  have ha31 : a ≤ 31 := by omega
  have HA := Lib.hid ha
  clear hdw hf hxx hx ha
  by_cases hn : 3 ≤ s.size
  · have hni : decide ((s.size : Int) < 3) = false := by simp; omega
    go_enter Tryz.func129, Tryz.ntmps129
    go_wp2_with fail
    go_loop [3, 6] (fun xv i => ∃ k : Nat, k + 1 ≤ 3 ∧ i = .int .i64 ((k : Int) + 1) ∧ xv = .int .i64 ((Fi.sval a (fB s) k : Nat) : Int) ∧ ∀ j, 1 ≤ j → j ≤ k → 128 ≤ fB s j ∧ fB s j < 192) (fun _ i => 8 - (intOf i).toNat)
    case atStart => exact ⟨0, by omega, rfl, rfl, fun j h1 h2 => by omega⟩
    case round =>
      obtain ⟨k, hk, rfl, rfl, hc⟩ := hrel
      have hle := Fi.sval_le a (fB s) ha31 k (by omega) (fun j h1 h2 => (hc j h1 h2).2)
      have HC := Lib.hid hc
      clear hc
      by_cases hlt : k + 1 < 3
      · have hki : (k : Int) + 1 < 3 := by omega
        have hkz : k + 1 < s.size := by omega
        have hb := fB_at s (k + 1) hkz
        have hbl := HF.out (k + 1)
        have HS : Hid (Fi.sval a (fB s) (k + 1) = Fi.sval a (fB s) k * 64 + (fB s (k + 1) - 128)) := Lib.hid rfl
        obtain ⟨y, hy⟩ : ∃ y, fB s (k + 1) = y := ⟨_, rfl⟩
        rw [hy] at hb hbl HS
        have HY := Lib.hid hy
        clear hy
        obtain ⟨v, hv⟩ : ∃ v, Fi.sval a (fB s) k = v := ⟨_, rfl⟩
        rw [hv] at hle HS ⊢
        clear hv
        rcases (by omega : y < 128 ∨ 192 ≤ y ∨ (128 ≤ y ∧ y < 192)) with h | h | ⟨h1, h2⟩
        · have q1 : (y : Int) < 128 := by omega
          have HNo : Hid (Fi.sgw (lb s) = 1) := Lib.hid (by rw [HG.out, if_neg]; simp [ok_no2 (k + 1) hlt (by omega) (show ¬ (128 ≤ fB s (k + 1) ∧ fB s (k + 1) < 192) by rw [HY.out]; omega)])
          go_wp2_with fail
          go_ret
          exact ⟨ret_int (by rw [HNo.out]; rfl), rfl⟩
        · have q1 : decide ((y : Int) < 128) = false := by simp; omega
          have q2 : (192 : Int) ≤ (y : Int) := by omega
          have HNo : Hid (Fi.sgw (lb s) = 1) := Lib.hid (by rw [HG.out, if_neg]; simp [ok_no2 (k + 1) hlt (by omega) (show ¬ (128 ≤ fB s (k + 1) ∧ fB s (k + 1) < 192) by rw [HY.out]; omega)])
          go_wp2_with fail
          go_ret
          exact ⟨ret_int (by rw [HNo.out]; rfl), rfl⟩
        · have q1 : decide ((y : Int) < 128) = false := by simp; omega
          have q2 : decide ((192 : Int) ≤ (y : Int)) = false := by simp; omega
          go_wp2_with fail
          go_round
          case rel =>
            refine ⟨k + 1, by omega, by go_num, ?_, fun j g1 g2 => ?_⟩
            · rw [HS.out]; go_num
            · rcases (by omega : j ≤ k ∨ j = k + 1) with g | rfl
              · exact HC.out j g1 g
              · rw [HY.out]; exact ⟨h1, h2⟩
          case measure => simp [intOf]; omega
      · obtain ⟨k1, hk1⟩ : ∃ k1, k1 = k := ⟨_, rfl⟩
        have hkm : k = 3 - 1 := by omega
        have hki : decide ((k : Int) + 1 < 3) = false := by simp; omega
        obtain ⟨v, hv⟩ : ∃ v, Fi.sval a (fB s) k = v := ⟨_, rfl⟩
        have hv2 : Fi.sval (fB s 0 - 224) (fB s) (3 - 1) = v := by rw [← hv, hkm, HX.out, HA.out]
        have HV := Lib.hid hv2
        rw [hv] at hle ⊢
        clear hv hv2 hkm hk1
        rcases (by omega : v < 2048 ∨ (2048 ≤ v ∧ 1114111 < v) ∨ (2048 ≤ v ∧ v ≤ 1114111 ∧ 55296 ≤ v ∧ v ≤ 57343) ∨ (2048 ≤ v ∧ v ≤ 1114111 ∧ v < 55296) ∨ (2048 ≤ v ∧ v ≤ 1114111 ∧ 57343 < v)) with h | ⟨h1, h2⟩ | ⟨h1, h2, h3, h4⟩ | ⟨h1, h2, h3⟩ | ⟨h1, h2, h3⟩
        · have q1 : (v : Int) < 2048 := by omega
          have HNo : Hid (Fi.sgw (lb s) = 1) := Lib.hid (by rw [HG.out, if_neg]; simp [ok_no3 HV.out (.inl h)])
          go_wp2_with fail
          go_ret
          exact ⟨ret_int (by rw [HNo.out]; rfl), rfl⟩
        · have q1 : decide ((v : Int) < 2048) = false := by simp; omega
          have q2 : (1114111 : Int) < (v : Int) := by omega
          have HNo : Hid (Fi.sgw (lb s) = 1) := Lib.hid (by rw [HG.out, if_neg]; simp [ok_no3 HV.out (.inr (.inl h2))])
          go_wp2_with fail
          go_ret
          exact ⟨ret_int (by rw [HNo.out]; rfl), rfl⟩
        · have q1 : decide ((v : Int) < 2048) = false := by simp; omega
          have q2 : decide ((1114111 : Int) < (v : Int)) = false := by simp; omega
          have q3 : (55296 : Int) ≤ (v : Int) := by omega
          have q4 : (v : Int) ≤ (57343 : Int) := by omega
          have HNo : Hid (Fi.sgw (lb s) = 1) := Lib.hid (by rw [HG.out, if_neg]; simp [ok_no3 HV.out (.inr (.inr ⟨h3, h4⟩))])
          go_wp2_with fail
          go_ret
          exact ⟨ret_int (by rw [HNo.out]; rfl), rfl⟩
        · have q1 : decide ((v : Int) < 2048) = false := by simp; omega
          have q2 : decide ((1114111 : Int) < (v : Int)) = false := by simp; omega
          have q3 : decide ((55296 : Int) ≤ (v : Int)) = false := by simp; omega
          have HYes : Hid (Fi.sgw (lb s) = 3) := Lib.hid (by rw [HG.out, if_pos (ok_yes HV.out hn (fun j g1 g2 => HC.out j g2 (by omega)) h1 h2 (.inl h3))])
          go_wp2_with fail
          go_ret
          exact ⟨ret_int (by rw [HYes.out]; rfl), rfl⟩
        · have q1 : decide ((v : Int) < 2048) = false := by simp; omega
          have q2 : decide ((1114111 : Int) < (v : Int)) = false := by simp; omega
          have q3 : (55296 : Int) ≤ (v : Int) := by omega
          have q4 : decide ((v : Int) ≤ (57343 : Int)) = false := by simp; omega
          have HYes : Hid (Fi.sgw (lb s) = 3) := Lib.hid (by rw [HG.out, if_pos (ok_yes HV.out hn (fun j g1 g2 => HC.out j g2 (by omega)) h1 h2 (.inr h3))])
          go_wp2_with fail
          go_ret
          exact ⟨ret_int (by rw [HYes.out]; rfl), rfl⟩
  · have hni : (s.size : Int) < 3 := by omega
    have HNo : Hid (Fi.sgw (lb s) = 1) := Lib.hid (by rw [HG.out, if_neg]; simp [ok_no1 (show s.size < 3 by omega)])
    go_enter Tryz.func129, Tryz.ntmps129
    go_wp2_with fail
    go_ret
    exact ⟨ret_int (by rw [HNo.out]; rfl), rfl⟩

set_option maxHeartbeats 8000000 in
set_option maxRecDepth 100000 in
theorem refSign_s4 (s : ByteArray) (h0 : 0 < s.size) (hs : s.size ≤ 1099511627776) (w : World) (hx : 240 ≤ fB s 0 ∧ fB s 0 < 248) :
    Calls Tryz.prog 129 #[.string s] w fun e w' => e = .returned (.int .i64 (Fi.sgw (lb s) : Nat)) ∧ w = w' := by
  have hf := fB_lt s
  have hb0 := fB_at s 0 h0
  have hl0 := hf 0
  obtain ⟨x, hxx⟩ : ∃ x, fB s 0 = x := ⟨_, rfl⟩
  rw [hxx] at hx hb0 hl0
  have p1a : (192 : Int) ≤ (x : Int) := by omega
  have p1b : decide ((x : Int) < (224 : Int)) = false := by simp; omega
  have p2a : (224 : Int) ≤ (x : Int) := by omega
  have p2b : decide ((x : Int) < (240 : Int)) = false := by simp; omega
  have p3a : (240 : Int) ≤ (x : Int) := by omega
  have p3b : (x : Int) < (248 : Int) := by omega
  have hdw := Fi.dw4 s.size (fB s) hf (by omega) (by omega)
  rw [← sgw_fB] at hdw
  have HG := Lib.hid hdw
  have HF := Lib.hid hf
  have HX := Lib.hid hxx
  obtain ⟨a, ha⟩ : ∃ a, a = x - 240 := ⟨_, rfl⟩
  have hxa : (x : Int) - 240 = (a : Int) := by omega
  have ha31 : a ≤ 31 := by omega
  have HA := Lib.hid ha
  clear hdw hf hxx hx ha
  by_cases hn : 4 ≤ s.size
  · have hni : decide ((s.size : Int) < 4) = false := by simp; omega
    go_enter Tryz.func129, Tryz.ntmps129
    go_wp2_with fail
    go_loop [3, 6] (fun xv i => ∃ k : Nat, k + 1 ≤ 4 ∧ i = .int .i64 ((k : Int) + 1) ∧ xv = .int .i64 ((Fi.sval a (fB s) k : Nat) : Int) ∧ ∀ j, 1 ≤ j → j ≤ k → 128 ≤ fB s j ∧ fB s j < 192) (fun _ i => 8 - (intOf i).toNat)
    case atStart => exact ⟨0, by omega, rfl, rfl, fun j h1 h2 => by omega⟩
    case round =>
      obtain ⟨k, hk, rfl, rfl, hc⟩ := hrel
      have hle := Fi.sval_le a (fB s) ha31 k (by omega) (fun j h1 h2 => (hc j h1 h2).2)
      have HC := Lib.hid hc
      clear hc
      by_cases hlt : k + 1 < 4
      · have hki : (k : Int) + 1 < 4 := by omega
        have hkz : k + 1 < s.size := by omega
        have hb := fB_at s (k + 1) hkz
        have hbl := HF.out (k + 1)
        have HS : Hid (Fi.sval a (fB s) (k + 1) = Fi.sval a (fB s) k * 64 + (fB s (k + 1) - 128)) := Lib.hid rfl
        obtain ⟨y, hy⟩ : ∃ y, fB s (k + 1) = y := ⟨_, rfl⟩
        rw [hy] at hb hbl HS
        have HY := Lib.hid hy
        clear hy
        obtain ⟨v, hv⟩ : ∃ v, Fi.sval a (fB s) k = v := ⟨_, rfl⟩
        rw [hv] at hle HS ⊢
        clear hv
        rcases (by omega : y < 128 ∨ 192 ≤ y ∨ (128 ≤ y ∧ y < 192)) with h | h | ⟨h1, h2⟩
        · have q1 : (y : Int) < 128 := by omega
          have HNo : Hid (Fi.sgw (lb s) = 1) := Lib.hid (by rw [HG.out, if_neg]; simp [ok_no2 (k + 1) hlt (by omega) (show ¬ (128 ≤ fB s (k + 1) ∧ fB s (k + 1) < 192) by rw [HY.out]; omega)])
          go_wp2_with fail
          go_ret
          exact ⟨ret_int (by rw [HNo.out]; rfl), rfl⟩
        · have q1 : decide ((y : Int) < 128) = false := by simp; omega
          have q2 : (192 : Int) ≤ (y : Int) := by omega
          have HNo : Hid (Fi.sgw (lb s) = 1) := Lib.hid (by rw [HG.out, if_neg]; simp [ok_no2 (k + 1) hlt (by omega) (show ¬ (128 ≤ fB s (k + 1) ∧ fB s (k + 1) < 192) by rw [HY.out]; omega)])
          go_wp2_with fail
          go_ret
          exact ⟨ret_int (by rw [HNo.out]; rfl), rfl⟩
        · have q1 : decide ((y : Int) < 128) = false := by simp; omega
          have q2 : decide ((192 : Int) ≤ (y : Int)) = false := by simp; omega
          go_wp2_with fail
          go_round
          case rel =>
            refine ⟨k + 1, by omega, by go_num, ?_, fun j g1 g2 => ?_⟩
            · rw [HS.out]; go_num
            · rcases (by omega : j ≤ k ∨ j = k + 1) with g | rfl
              · exact HC.out j g1 g
              · rw [HY.out]; exact ⟨h1, h2⟩
          case measure => simp [intOf]; omega
      · obtain ⟨k1, hk1⟩ : ∃ k1, k1 = k := ⟨_, rfl⟩
        have hkm : k = 4 - 1 := by omega
        have hki : decide ((k : Int) + 1 < 4) = false := by simp; omega
        obtain ⟨v, hv⟩ : ∃ v, Fi.sval a (fB s) k = v := ⟨_, rfl⟩
        have hv2 : Fi.sval (fB s 0 - 240) (fB s) (4 - 1) = v := by rw [← hv, hkm, HX.out, HA.out]
        have HV := Lib.hid hv2
        rw [hv] at hle ⊢
        clear hv hv2 hkm hk1
        rcases (by omega : v < 65536 ∨ (65536 ≤ v ∧ 1114111 < v) ∨ (65536 ≤ v ∧ v ≤ 1114111 ∧ 55296 ≤ v ∧ v ≤ 57343) ∨ (65536 ≤ v ∧ v ≤ 1114111 ∧ v < 55296) ∨ (65536 ≤ v ∧ v ≤ 1114111 ∧ 57343 < v)) with h | ⟨h1, h2⟩ | ⟨h1, h2, h3, h4⟩ | ⟨h1, h2, h3⟩ | ⟨h1, h2, h3⟩
        · have q1 : (v : Int) < 65536 := by omega
          have HNo : Hid (Fi.sgw (lb s) = 1) := Lib.hid (by rw [HG.out, if_neg]; simp [ok_no3 HV.out (.inl h)])
          go_wp2_with fail
          go_ret
          exact ⟨ret_int (by rw [HNo.out]; rfl), rfl⟩
        · have q1 : decide ((v : Int) < 65536) = false := by simp; omega
          have q2 : (1114111 : Int) < (v : Int) := by omega
          have HNo : Hid (Fi.sgw (lb s) = 1) := Lib.hid (by rw [HG.out, if_neg]; simp [ok_no3 HV.out (.inr (.inl h2))])
          go_wp2_with fail
          go_ret
          exact ⟨ret_int (by rw [HNo.out]; rfl), rfl⟩
        · have q1 : decide ((v : Int) < 65536) = false := by simp; omega
          have q2 : decide ((1114111 : Int) < (v : Int)) = false := by simp; omega
          have q3 : (55296 : Int) ≤ (v : Int) := by omega
          have q4 : (v : Int) ≤ (57343 : Int) := by omega
          have HNo : Hid (Fi.sgw (lb s) = 1) := Lib.hid (by rw [HG.out, if_neg]; simp [ok_no3 HV.out (.inr (.inr ⟨h3, h4⟩))])
          go_wp2_with fail
          go_ret
          exact ⟨ret_int (by rw [HNo.out]; rfl), rfl⟩
        · have q1 : decide ((v : Int) < 65536) = false := by simp; omega
          have q2 : decide ((1114111 : Int) < (v : Int)) = false := by simp; omega
          have q3 : decide ((55296 : Int) ≤ (v : Int)) = false := by simp; omega
          have HYes : Hid (Fi.sgw (lb s) = 4) := Lib.hid (by rw [HG.out, if_pos (ok_yes HV.out hn (fun j g1 g2 => HC.out j g2 (by omega)) h1 h2 (.inl h3))])
          go_wp2_with fail
          go_ret
          exact ⟨ret_int (by rw [HYes.out]; rfl), rfl⟩
        · have q1 : decide ((v : Int) < 65536) = false := by simp; omega
          have q2 : decide ((1114111 : Int) < (v : Int)) = false := by simp; omega
          have q3 : (55296 : Int) ≤ (v : Int) := by omega
          have q4 : decide ((v : Int) ≤ (57343 : Int)) = false := by simp; omega
          have HYes : Hid (Fi.sgw (lb s) = 4) := Lib.hid (by rw [HG.out, if_pos (ok_yes HV.out hn (fun j g1 g2 => HC.out j g2 (by omega)) h1 h2 (.inr h3))])
          go_wp2_with fail
          go_ret
          exact ⟨ret_int (by rw [HYes.out]; rfl), rfl⟩
  · have hni : (s.size : Int) < 4 := by omega
    have HNo : Hid (Fi.sgw (lb s) = 1) := Lib.hid (by rw [HG.out, if_neg]; simp [ok_no1 (show s.size < 4 by omega)])
    go_enter Tryz.func129, Tryz.ntmps129
    go_wp2_with fail
    go_ret
    exact ⟨ret_int (by rw [HNo.out]; rfl), rfl⟩

theorem refSign_any (s : ByteArray) (h0 : 0 < s.size) (hs : s.size ≤ 1099511627776) (w : World) :
    Calls Tryz.prog 129 #[.string s] w fun e w' => e = .returned (.int .i64 (Fi.sgw (lb s) : Nat)) ∧ w = w' := by
  have h := fB_lt s 0
  rcases (by omega : fB s 0 < 192 ∨ (192 ≤ fB s 0 ∧ fB s 0 < 224) ∨ (224 ≤ fB s 0 ∧ fB s 0 < 240) ∨ (240 ≤ fB s 0 ∧ fB s 0 < 248) ∨ 248 ≤ fB s 0) with h | h | h | h | h
  · exact refSign_low s h0 hs w h
  · exact refSign_s2 s h0 hs w h
  · exact refSign_s3 s h0 hs w h
  · exact refSign_s4 s h0 hs w h
  · exact refSign_high s h0 hs w h

theorem lb_tail (s : ByteArray) (k : Nat) : lb (s.extract k s.size) = (lb s).drop k := by
  have : lb (s.extract k s.size) = ((lb s).drop k).take (s.size - k) := Lib.extract_data s k s.size
  rw [this, List.take_of_length_le (by rw [List.length_drop, sg_len]; exact Nat.le_refl _)]
set_option maxHeartbeats 2000000 in
set_option maxRecDepth 100000 in
theorem refSigns_any (s : ByteArray) (hs : s.size ≤ 1099511627776) (w : World) :
    Calls Tryz.prog 85 #[.string s] w fun e w' => e = .returned (.int .i64 (Fi.sigs (lb s) : Nat)) ∧ w = w' := by
  have hle := Fi.sigs_le (lb s)
  rw [sg_len] at hle
  obtain ⟨T, hT⟩ : ∃ T, Fi.sigs (lb s) = T := ⟨_, rfl⟩
  rw [hT] at hle ⊢
  have HT := Lib.hid hT
  clear hT
  go_enter Tryz.func85, Tryz.ntmps85
  go_wp2_with fail
  go_loop [0, 3] (fun t n => ∃ (u : ByteArray) (k : Nat), t = .string u ∧ n = .int .i64 k ∧ k + Fi.sigs (lb u) = T ∧ u.size ≤ s.size) (fun t _ => match t with | .string u => u.size | _ => 0)
  case atStart => exact ⟨s, 0, rfl, rfl, by rw [HT.out]; omega, Nat.le_refl _⟩
  case round =>
    obtain ⟨u, k, rfl, rfl, hk, hu⟩ := hrel
    have HK := Lib.hid hk
    have hkT : k ≤ T := by omega
    clear hk
    by_cases h0 : 0 < u.size
    · have h0i : (0 : Int) < (u.size : Int) := by omega
      have hne : lb u ≠ [] := fun e => by have := sg_len u; rw [e] at this; simp only [List.length_nil] at this; omega
      have hgp := Fi.sgw_pos (lb u)
      have hgl := Fi.sgw_le (lb u) hne
      rw [sg_len] at hgl
      have HS := Lib.hid (Fi.sigs_step (lb u) hne)
      go_wp2_with fail
      refine (refSign_any u h0 (by omega) w).mono ?_
      rintro e w' ⟨rfl, rfl⟩
      obtain ⟨g, hg⟩ : ∃ g, Fi.sgw (lb u) = g := ⟨_, rfl⟩
      rw [hg] at hgp hgl HS ⊢
      have HTl := Lib.hid (lb_tail u g)
      have hxs : (u.extract g u.size).size = u.size - g := by rw [← sg_len, HTl.out, List.length_drop, sg_len]
      have HXs := Lib.hid hxs
      have hkT2 : k + 1 ≤ T := by have h1 := HK.out; have h2 := HS.out; omega
      clear hxs hg
      go_wp2_with fail
      go_round
      case rel => exact ⟨u.extract g u.size, k + 1, rfl, by go_num, by rw [HTl.out]; have h1 := HK.out; have h2 := HS.out; omega, by rw [HXs.out]; omega⟩
      case measure => first | (rw [HXs.out]; omega) | (simp only [HXs.out]; omega) | (have := HXs.out; simp; omega)
    · have h0i : decide ((0 : Int) < (u.size : Int)) = false := decide_eq_false (by omega)
      have HE : Hid (k = T) := Lib.hid (by
        have h1 := HK.out
        have h2 : lb u = [] := List.eq_nil_of_length_eq_zero (by rw [sg_len]; omega)
        rw [h2, Fi.sigs_nil] at h1
        omega)
      go_wp2_with fail
      go_ret
      exact ⟨ret_int (by rw [HE.out]), rfl⟩
end Go.Proofs.YtidccanfjcanoaaGreatDoor
