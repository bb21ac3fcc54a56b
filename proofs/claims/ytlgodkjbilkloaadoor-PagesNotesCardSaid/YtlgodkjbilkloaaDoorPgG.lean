/-
  PagesPlain: the walk.
-/
import Derived.Test.YtlgodkjbilkloaaDoorPgF
import Derived.Test.YtlgodkjbilkloaaDoorBackE
namespace Go.Proofs.YtlgodkjbilkloaaDoor
open Go.RowKit
set_option linter.unusedVariables false

theorem spans_kind (gp g c : Nat) (kd : Int) (hkd : kd = 0 ∨ kd = 5 ∨ kd = 4) (s : ByteArray) (hs : s.size ≤ 1000000) (f : Int) : SpC (onM g kd s) gp g 1 c f (Es.esc (lb s)) [] := by
  rcases hkd with rfl | rfl | rfl
  · exact spans_one gp g c 0 (.inl rfl) s hs f
  · exact spans_one gp g c 5 (.inr rfl) s hs f
  · exact spans_ref gp g c s hs f
theorem back_e (x : ByteArray) (s : ByteArray) (h : lb x = Es.esc (lb s)) (hs : x.size ≤ 17592186044416) (w : World) :
    Calls Tryd.prog 7 #[.string x] w fun e w' => e = .returned (.tuple #[.string s, .int .i64 0]) ∧ Below w.heap.size w w' := by
  refine (back_any x hs w).mono ?_
  rintro e w' ⟨he, hb⟩
  rw [h, Es.back_esc] at he
  refine ⟨?_, hb⟩
  simp only [BackPost] at he
  rw [he, show (⟨(lb s).toArray⟩ : ByteArray) = s from bytes_ext (lb_toArray _)]
theorem u8_ne (c k : UInt8) (h : ¬ c = k) : ((c.toNat : Int) == (k.toNat : Int)) = false := by
  simp only [beq_eq_false_iff_ne, ne_eq]
  exact fun e => h (UInt8.toNat_inj.1 (by omega))
theorem clean_at (t s : ByteArray) (h : lb t = Es.esc (lb s)) (j : Nat) (hj : j < t.size) : Es.cut t[j] = false := by
  have h1 := Es.esc_clean (lb s)
  rw [← h] at h1
  have h2 := List.all_eq_true.1 h1 t[j] (by rw [show t[j] = (lb t)[j]'(by rw [lb_len]; exact hj) from rfl]; exact List.getElem_mem _)
  simpa using h2
set_option maxHeartbeats 8000000 in
set_option maxRecDepth 100000 in
theorem pagesPlain_walk (s : ByteArray) (k : Int) (hs : s.size ≤ 140737488351232) (hk : (Lit.int .u8 k).wf = true) (w : World) (hP : Pow10 w) (gp : Nat) (hgp : Pow10At gp) :
    Calls Tryd.prog 3 #[.string s, .int .u8 k] w fun e w' => e = .returned (.bool true) ∧ Below w.heap.size w w' := by
  have HP := Lib.hid hP
  have hgl := hP.lt hgp
  obtain ⟨n, rfl, hn⟩ : ∃ n : Nat, k = (n : Int) ∧ n ≤ 255 := by
    simp only [Lit.wf, Bool.and_eq_true, decide_eq_true_eq] at hk
    have h1 : IntKind.u8.min = 0 := rfl
    have h2 : IntKind.u8.max = 255 := rfl
    rw [h1, h2] at hk
    exact ⟨k.toNat, by omega, by omega⟩
  clear hP hk
  by_cases hz : s.size ≤ 3000
  · have hzi : decide ((3000 : Int) < (s.size : Int)) = false := by simp; omega
    have hm : n % 3 < 3 := Nat.mod_lt _ (by decide)
    go_enter Tryd.func3, Tryd.ntmps3
    obtain ⟨kd, hget, hkd⟩ : ∃ kd : Int, ([Value.int .u8 0, Value.int .u8 5, Value.int .u8 4][n % 3]'(by simpa using hm)) = .int .u8 kd ∧ (kd = 0 ∨ kd = 5 ∨ kd = 4) := by
      rcases (by omega : n % 3 = 0 ∨ n % 3 = 1 ∨ n % 3 = 2) with h | h | h
      · exact ⟨0, by simp only [h]; rfl, .inl rfl⟩
      · exact ⟨5, by simp only [h]; rfl, .inr (.inl rfl)⟩
      · exact ⟨4, by simp only [h]; rfl, .inr (.inr rfl)⟩
    obtain ⟨w1, hw1⟩ : ∃ x, x = (w.alloc (.cells #[.int .u8 0, .int .u8 5, .int .u8 4] 23)).alloc (.cells #[.int .u8 kd, .string s, .string ⟨#[]⟩, .string ⟨#[]⟩, .slice none 0 0] 27) := ⟨_, rfl⟩
    have b0 : Below w.heap.size w w1 := by rw [hw1]; exact ((Below.refl _ w).alloc (Nat.le_refl _) _).alloc (by simp) _
    have hs1 : w1.heap.size = w.heap.size + 2 := by rw [hw1]; simp
    have hM : Mem (onM (w.heap.size + 1) kd s) w1 := by
      rw [hw1]
      intro p hp
      simp only [onM, List.mem_cons, List.not_mem_nil, or_false] at hp
      subst hp
      have := heap_alloc_new (w.alloc (.cells #[.int .u8 0, .int .u8 5, .int .u8 4] 23)) (.cells #[.int .u8 kd, .string s, .string ⟨#[]⟩, .string ⟨#[]⟩, .slice none 0 0] 27)
      simpa [spC] using this
    have hlt : ∀ p ∈ onM (w.heap.size + 1) kd s, p.1 < w1.heap.size := by
      intro p hp
      simp only [onM, List.mem_cons, List.not_mem_nil, or_false] at hp
      subst hp
      simp only
      omega
    have H := Lib.hid (spans_gen hgp (spans_kind gp (w.heap.size + 1) 1 kd hkd s (by omega) 1) w1 hlt hM (HP.out.below hgp b0 hgl))
    have B0 := Lib.hid b0
    have hes := esc_small s
    clear hkd hM hlt b0
    go_wp2_with fail
    rw [← hw1]
    clear hget hw1
    refine H.out.mono ?_
    rintro e w2 ⟨a, c', rfl, hO, b2⟩
    rw [show ([] : List ByteArray).length = 0 from rfl]
    obtain ⟨x, hx⟩ : ∃ x : ByteArray, x = ⟨(Es.esc (lb s)).toArray⟩ := ⟨_, rfl⟩
    have hxl : lb x = Es.esc (lb s) := by rw [hx, lb_toArray]
    rw [← hx]
    have hxs : x.size ≤ 18000 := by rw [← lb_sz, hxl]; omega
    have HX := Lib.hid hxl
    have B2 := Lib.hid (B0.out.trans (b2.mono (by omega)))
    clear hx hxl hO b2 H
    go_wp2_with fail
    refine (back_e x s HX.out (by omega) w2).mono ?_
    rintro e w3 ⟨rfl, b3⟩
    have B3 := Lib.hid (B2.out.trans (b3.mono B2.out.size))
    have HP3 := Lib.hid (HP.out.below hgp B3.out hgl)
    clear b3
    go_wp2_with fail
    go_loop [10] (fun i => ∃ j : Nat, j ≤ x.size ∧ i = .int .i64 j) (fun i => x.size - (intOf i).toNat)
    case atStart => exact ⟨0, Nat.zero_le _, rfl⟩
    case round =>
      obtain ⟨j, hj, rfl⟩ := hrel
      by_cases hjt : j < x.size
      · have hcut := clean_at x s HX.out j hjt
        unfold Es.cut at hcut
        simp only [Bool.or_eq_false_iff, beq_eq_false_iff_ne] at hcut
        obtain ⟨⟨⟨q0, q1⟩, q2⟩, q3⟩ := hcut
        have g0 : ((x[j].toNat : Int) == 60) = false := u8_ne x[j] 60 q0
        have g1 : ((x[j].toNat : Int) == 62) = false := u8_ne x[j] 62 q1
        have g2 : ((x[j].toNat : Int) == 34) = false := u8_ne x[j] 34 q2
        clear q0 q1 q2 q3
        go_wp2_with fail
        go_round
        case rel => exact ⟨j + 1, by omega, by go_num⟩
        case measure => simp [intOf]; omega
      · obtain rfl : j = x.size := by omega
        have hss : (s.toList == s.toList) = true := by simp
        go_wp2_with fail
        refine (lives_any gp hgp w3 HP3.out).mono ?_
        rintro e w4 ⟨rfl, b4⟩
        have B4 := Lib.hid (B3.out.trans (b4.mono B3.out.size))
        clear b4
        go_wp2_with fail
        go_ret
        exact ⟨ret_bool (by simp), B4.out⟩
  · have hzi : (3000 : Int) < (s.size : Int) := by omega
    go_enter Tryd.func3, Tryd.ntmps3
    go_wp2_with fail
    refine (lives_any gp hgp w HP.out).mono ?_
    rintro e w1 ⟨rfl, b1⟩
    go_wp2_with fail
    go_ret
    exact ⟨rfl, b1⟩
end Go.Proofs.YtlgodkjbilkloaaDoor
