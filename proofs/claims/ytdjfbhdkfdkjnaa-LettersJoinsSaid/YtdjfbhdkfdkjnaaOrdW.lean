/-
  LETTERS: the order of two texts, of the program and of the reference, by contract.
-/
import Derived.Test.YtdjfbhdkfdkjnaaKeyX
import Derived.Lib.BytesEntry
namespace Go.Proofs.Ytdjfbhdkfdkjnaa
open Go.RowKit

theorem bytesOf_map (l : List UInt8) : Lib.bytesOf (l.map fun c => (c.toNat : Int)) = l := by
  unfold Lib.bytesOf
  rw [List.map_map]
  conv => rhs; rw [← List.map_id l]
  apply List.map_congr_left
  intro x _
  simp
theorem run_bytesOf_own {P : Program} {w : World} {base e n : Nat} {v : Value} {l : List UInt8} (h : w.ownsRow base e 1 v n (l.map bv)) : (Extern.Bytes.bytesOf v).run P w = .ok ⟨l.toArray⟩ w := by
  have hn : l.length = n := by have := h.1; simpa using this
  have h0 := h
  rcases h.2 with ⟨rfl, h1⟩ | ⟨g, cap, cur, rfl, _⟩
  · have hl : l = [] := List.eq_nil_of_length_eq_zero (by omega)
    subst hl
    rfl
  · have hr := BRow.of_own h0
    have hl := Lib.run_loadBytesX (P := P) w (l.map fun c => (c.toNat : Int)) ⟨g, 0, none⟩ .empty (fun j x hj => by
      have hjl : j < l.length := by have := (List.getElem?_eq_some_iff.1 hj).1; simpa using this
      have e : (⟨g, 0, none⟩ : Addr).add j = ⟨g, j, none⟩ := by unfold Addr.add; split <;> simp_all
      rw [e, (hr j hjl).1]
      simp [List.getElem?_map, List.getElem?_eq_getElem hjl] at hj
      simp [bv, List.getD_eq_getElem?_getD, List.getElem?_eq_getElem hjl, hj])
    rw [List.length_map, hn, bytesOf_map] at hl
    have he : (⟨ByteArray.empty.data ++ l.toArray⟩ : ByteArray) = ⟨l.toArray⟩ := by
      apply ByteArray.ext
      show (#[] : Array UInt8) ++ l.toArray = l.toArray
      simp
    rw [he] at hl
    exact hl
theorem run_compareOwn {P : Program} {w : World} {b1 b2 e n m : Nat} {u v : Value} {k l : List UInt8} (h1 : w.ownsRow b1 e 1 u n (k.map bv)) (h2 : w.ownsRow b2 e 1 v m (l.map bv)) :
    (Extern.BytealgCompare.compare #[u, v]).run P w = .ok (.int .i64 (Lib.compareBytes k l)) w := by
  change Sem.run P (do pure (goInt (Extern.BytealgCompare.cmp (← Extern.Bytes.bytesOf u) (← Extern.Bytes.bytesOf v)))) w = _
  simp only [Sem.run_bind, Sem.run_pure, run_bytesOf_own h1, run_bytesOf_own h2, Result.andThen]
  rw [Lib.cmp_eq]
  rfl

set_option maxHeartbeats 400000 in
theorem bytesCompare_any {b1 b2 n m : Nat} {u v : Value} {k l : List UInt8} (w : World) (h1 : w.ownsRow b1 5 1 u n (k.map bv)) (h2 : w.ownsRow b2 5 1 v m (l.map bv)) :
    Calls Try.prog 32 #[u, v] w fun e w' => e = .returned (.int .i64 (Lib.compareBytes k l)) ∧ w = w' := by
  have hr := run_compareOwn (P := Try.prog) h1 h2
  clear h1 h2
  go_enter Try.func32, Try.ntmps32
  go_wp2
  rw [run_callFunc_extern Try.func38 (by kernel_rfl) (by kernel_rfl) (by kernel_rfl) (e := Extern.BytealgCompare.compare) (by kernel_rfl), hr]
  simp only [Result.andThen]
  rw [Oper.upon_value]
  go_wp2
  go_ret
  exact ⟨rfl, rfl⟩
set_option maxHeartbeats 400000 in
theorem compareString_any (a b : ByteArray) (w : World) :
    Calls Try.prog 41 #[.string a, .string b] w fun e w' => e = .returned (.int .i64 (Lib.compareBytes a.data.toList b.data.toList)) ∧ w = w' := by
  go_enter Try.func41, Try.ntmps41
  go_wp2
  rw [run_callFunc_extern Try.func43 (by kernel_rfl) (by kernel_rfl) (by kernel_rfl) (e := Extern.BytealgCompare.compare) (by kernel_rfl), Lib.run_compareString]
  simp only [Result.andThen]
  rw [Oper.upon_value]
  go_wp2
  go_ret
  exact ⟨rfl, rfl⟩
set_option maxHeartbeats 400000 in
theorem stringsCompare_any (a b : ByteArray) (w : World) :
    Calls Try.prog 34 #[.string a, .string b] w fun e w' => e = .returned (.int .i64 (Lib.compareBytes a.data.toList b.data.toList)) ∧ w = w' := by
  go_enter Try.func34, Try.ntmps34
  go_wp2_with (go_at_call 41; refine (compareString_any _ _ _).mono ?_; rintro e w' ⟨rfl, rfl⟩)
  go_ret
  exact ⟨rfl, rfl⟩

theorem bytesLess_cmp : ∀ (a b : List UInt8), Op.bytesLess a b = decide (Lib.compareBytes a b = -1)
  | [], [] => by simp [Op.bytesLess, Lib.compareBytes]
  | [], _ :: _ => by simp [Op.bytesLess, Lib.compareBytes]
  | _ :: _, [] => by simp [Op.bytesLess, Lib.compareBytes]
  | x :: a, y :: b => by
    have ih := bytesLess_cmp a b
    unfold Op.bytesLess Lib.compareBytes
    by_cases h1 : x < y
    · simp [h1]
    · by_cases h2 : y < x
      · have : ¬ x = y := by rintro rfl; exact h1 h2
        simp [h1, h2, this]
      · have : x = y := UInt8.le_antisymm (UInt8.not_lt.1 h2) (UInt8.not_lt.1 h1)
        subst this
        simp [h1, ih]
theorem beq_cmp (a b : List UInt8) : (a == b) = decide (Lib.compareBytes a b = 0) := by
  rw [Bool.eq_iff_iff]; simp [Pl.cmp_zero_iff]

set_option maxHeartbeats 400000 in
theorem sign_any (a b : ByteArray) (w : World) :
    Calls Try.prog 35 #[.string a, .string b] w fun e w' => e = .returned (.int .i64 (Lib.compareBytes a.data.toList b.data.toList)) ∧ w = w' := by
  have hr := Pl.cmp_range a.data.toList b.data.toList
  have e1 := bytesLess_cmp a.data.toList b.data.toList
  have e2 := beq_cmp a.data.toList b.data.toList
  rw [← Lib.toList_data, ← Lib.toList_data] at e1 e2
  rw [← Lib.toList_data, ← Lib.toList_data] at hr ⊢
  generalize Lib.compareBytes a.toList b.toList = c at *
  rcases (show c = -1 ∨ c = 0 ∨ c = 1 from by omega) with rfl | rfl | rfl
  · have l1 : Op.bytesLess a.toList b.toList = true := by rw [e1]; rfl
    clear e1 e2 hr
    go_enter Try.func35, Try.ntmps35
    go_wp2
    go_ret
    exact ⟨rfl, rfl⟩
  · have l1 : Op.bytesLess a.toList b.toList = false := by rw [e1]; rfl
    have l2 : (a.toList == b.toList) = true := by rw [e2]; rfl
    clear e1 e2 hr
    go_enter Try.func35, Try.ntmps35
    go_wp2
    go_ret
    exact ⟨rfl, rfl⟩
  · have l1 : Op.bytesLess a.toList b.toList = false := by rw [e1]; rfl
    have l2 : (a.toList == b.toList) = false := by rw [e2]; rfl
    clear e1 e2 hr
    go_enter Try.func35, Try.ntmps35
    go_wp2
    go_ret
    exact ⟨rfl, rfl⟩

theorem order_key {a b : List UInt8} (h : ¬ Lib.compareBytes (Pl.key a) (Pl.key b) = 0) : Pl.order a b = Lib.compareBytes (Pl.key a) (Pl.key b) := by
  unfold Pl.order; rw [if_neg h]
theorem order_text {a b : List UInt8} (h : Lib.compareBytes (Pl.key a) (Pl.key b) = 0) : Pl.order a b = Lib.compareBytes a b := by
  unfold Pl.order; rw [if_pos h]

set_option maxHeartbeats 1000000 in
theorem order_any (a b : ByteArray) (ha : a.size ≤ 1099511627776) (hb : b.size ≤ 1099511627776) (w : World) :
    Calls Try.prog 21 #[.string a, .string b] w fun e w' => e = .returned (.int .i64 (Pl.order a.data.toList b.data.toList)) ∧ Below w.heap.size w w' := by
  by_cases h : Lib.compareBytes (Pl.key a.data.toList) (Pl.key b.data.toList) = 0
  · have HT := Lib.hid (order_text h)
    have HB : (Lib.compareBytes (Pl.key a.data.toList) (Pl.key b.data.toList) != 0) = false := by simp [h]
    clear h
    go_enter Try.func21, Try.ntmps21
    go_wp2_with fail
    refine (key_any a ha _).mono ?_
    rintro e w1 ⟨v1, rfl, h1, hb1⟩
    go_wp2_with fail
    refine (key_any b hb _).mono ?_
    rintro e w2 ⟨v2, rfl, h2, hb2⟩
    have h1' := ownsRow_below h1 hb2
    go_wp2_with fail
    refine (bytesCompare_any _ h1' h2).mono ?_
    rintro e w' ⟨rfl, rfl⟩
    go_wp2_with (go_at_call 34; refine (stringsCompare_any _ _ _).mono ?_; rintro e w' ⟨rfl, rfl⟩)
    go_ret
    exact ⟨ret_int (by rw [HT.out]), hb1.trans (hb2.mono hb1.size)⟩
  · have HT := Lib.hid (order_key h)
    have HB : (Lib.compareBytes (Pl.key a.data.toList) (Pl.key b.data.toList) != 0) = true := by simp [h]
    clear h
    go_enter Try.func21, Try.ntmps21
    go_wp2_with fail
    refine (key_any a ha _).mono ?_
    rintro e w1 ⟨v1, rfl, h1, hb1⟩
    go_wp2_with fail
    refine (key_any b hb _).mono ?_
    rintro e w2 ⟨v2, rfl, h2, hb2⟩
    have h1' := ownsRow_below h1 hb2
    go_wp2_with fail
    refine (bytesCompare_any _ h1' h2).mono ?_
    rintro e w' ⟨rfl, rfl⟩
    go_wp2_with fail
    go_ret
    exact ⟨ret_int (by rw [HT.out]), hb1.trans (hb2.mono hb1.size)⟩

end Go.Proofs.Ytdjfbhdkfdkjnaa
