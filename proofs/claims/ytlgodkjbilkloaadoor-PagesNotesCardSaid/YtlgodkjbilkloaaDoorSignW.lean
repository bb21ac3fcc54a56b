/-
  ESCAPE: sign, by contract: a range over the table, in whatever order.
-/
import Derived.Test.YtlgodkjbilkloaaDoorEntW
import Derived.Test.YtlgodkjbilkloaaDoorShelf
import Derived.BigQuiet
namespace Go.Proofs.YtlgodkjbilkloaaDoor
open Go.RowKit Go.Maps
set_option linter.unusedVariables false

theorem pre_is : ∀ (p s : List UInt8), Lib.hasPrefix s p = Es.pre p s
  | [], s => by simp [Lib.hasPrefix, Es.pre]
  | a :: p, [] => by simp [Lib.hasPrefix, Es.pre]
  | a :: p, b :: s => by
    have ih := pre_is p s
    simp only [Lib.hasPrefix, Es.pre, List.isPrefixOf] at *
    rw [ih]
theorem ent_key (x : Int) (l : List UInt8) (h : ∀ zd, entD.atKey (.int .i32 x) zd = .lit (.string l)) : ∃ c : UInt8, Es.sg c = true ∧ x = (c.toNat : Int) ∧ l = Es.std c := by
  have h0 := h .nil
  simp only [DataW.atKey, entD, List.find?_cons, List.find?_nil, Lit.sameKey, true_and] at h0
  by_cases c1 : (34 : Int) = x
  · subst c1; simp at h0; exact ⟨34, rfl, rfl, h0.symm⟩
  by_cases c2 : (38 : Int) = x
  · subst c2; simp at h0; exact ⟨38, rfl, rfl, h0.symm⟩
  by_cases c3 : (39 : Int) = x
  · subst c3; simp at h0; exact ⟨39, rfl, rfl, h0.symm⟩
  by_cases c4 : (60 : Int) = x
  · subst c4; simp at h0; exact ⟨60, rfl, rfl, h0.symm⟩
  by_cases c5 : (62 : Int) = x
  · subst c5; simp at h0; exact ⟨62, rfl, rfl, h0.symm⟩
  simp [c1, c2, c3, c4, c5] at h0
theorem hit_zero (s : List UInt8) (h : ∀ c, Es.sg c = true → Es.pre (Es.std c) s = false) : Es.hit s = 0 := by
  by_cases h0 : Es.hit s = 0
  · exact h0
  · obtain ⟨h1, t, ht⟩ := Es.hit_some s h0
    have h2 := h _ h1
    generalize Es.hit s = c at *
    rw [ht, Es.pre_append] at h2
    cases h2
theorem below_drewN' {B : Nat} {a w : World} (h : Below B a w) (n : Nat) : Below B a (w.drewN n) := ⟨h.os, h.tape, h.output, h.size, h.block⟩
/-- What sign answers. -/
def SignPost (h : UInt8) (e : Ending) : Prop := e = .returned (.tuple #[.int .i32 (h.toNat : Int), .string ⟨(Es.std h).toArray⟩, .bool (decide (h ≠ 0))])

set_option maxHeartbeats 2000000 in
set_option maxRecDepth 100000 in
theorem sign_any (b : Nat) (s : ByteArray) (w : World) (hE : Ent b w) :
    Calls Tryd.prog 12 #[.map (some b), .string s] w fun e w' => SignPost (Es.hit (lb s)) e ∧ Below w.heap.size w w' := by
  have hlt := hE.lt
  go_enter Tryd.func12, Tryd.ntmps12
  go_wp2_with (at_range; refine wpList_range_own _ rfl _ 49 rfl 21 56 keyed Tryd.underlying49 entR b 5 entD rfl hE ?_; intro w0 hrg0 hg0 hs0)
  go_frame
  have b0 : Below w.heap.size w w0 := (Below.refl _ _).grown hg0 (Nat.le_refl _) (fun k h => by cases h)
  have HRG := Lib.hid hrg0
  have HG := Lib.hid hg0
  clear hrg0 hg0
  go_loopw [7] (fun _ wr => ∃ left cnt, wr.ranges Tryd.prog 21 entR b w.heap.size 5 entD left cnt ∧ (∀ c : UInt8, Es.sg c = true → left (.int .i32 (c.toNat : Int)) = false → Es.pre (Es.std c) (lb s) = false) ∧ Below w.heap.size w wr) (fun _ wr => wr.rangeLeft b w.heap.size)
  case atStart =>
    refine ⟨_, _, HRG.out, fun c hc h => ?_, b0⟩
    rw [entD_has, sgN_of, hc] at h
    cases h
  case round =>
    obtain ⟨left, cnt, hrg, hno, hb⟩ := hrel
    have HR := Lib.hid hrg
    have HNo := Lib.hid hno
    have hsz := hrg.lt
    clear hno
    go_wp2_with (at_next; refine wpList_next_ranges _ rfl _ rfl 21 keyed entR (Value.int .i32) (fun t : ByteArray => Value.agg #[.string t]) (fun key kl hk => by obtain ⟨x, h, _⟩ := Maps.keyOf_int_inv Tryd.underlying21 hk; exact ⟨x, h⟩) (fun v y h => by obtain ⟨x, h, _⟩ := entR_inv v y h; exact ⟨x, h⟩) b w.heap.size 5 entD left cnt rfl hrg ?_ ?_)
    · intro hc0 hl0
      have HZ := Lib.hid (hit_zero (lb s) (fun c hc => HNo.out c hc (hl0 _)))
      clear hrg hc0 hl0
      go_wp2_with fail
      go_ret3
      exact ⟨by unfold SignPost; rw [HZ.out]; rfl, hb⟩
    · intro x t kl y y2 w1 cnt1 hk hlk hR hat hrg1 hlt1 hg1 hs1 hen
      obtain ⟨x', hx', rfl, _⟩ := Maps.keyOf_int_inv Tryd.underlying21 hk
      obtain rfl : x = x' := by injection hx'
      have hy : y = .lit (.string t.data.toList) := by
        have := Option.some.inj hR
        injection this with h1 h2
        exact h1.symm
      subst hy
      obtain ⟨c, hc, rfl, htc⟩ := ent_key x t.data.toList hat
      obtain rfl : t = ⟨(Es.std c).toArray⟩ := bytes_ext (by rw [htc])
      have hb1 := hb.grown hg1 hb.size (fun k h => by cases h; exact Nat.le_refl _)
      have HR1 := Lib.hid hrg1
      have HC := Lib.hid hc
      have HLT := Lib.hid hlt1
      have s1 := hb1.size
      clear hrg hk hx' hlk hR hat htc hrg1 hlt1 hg1 hc
      rcases hp : Es.pre (Es.std c) (lb s)
      · have HP := Lib.hid hp
        have hpl : Lib.hasPrefix s.data.toList (Es.std c) = false := by rw [pre_is]; exact hp
        clear hp
        go_wp2_with (go_at_call 19; refine (Tryd.strings_HasPrefix _ _ _).mono ?_; rintro e w' ⟨rfl, rfl⟩)
        refine ⟨⟨_, _, HR1.out.alloc _, fun d hd hl => ?_, hb1.alloc s1 _⟩, ?_⟩
        · by_cases hcd : d = c
          · rw [hcd]; exact HP.out
          · refine HNo.out d hd ?_
            have hne : ¬ ((d.toNat : Int) = (c.toNat : Int)) := fun e => hcd (UInt8.toNat_inj.1 (by omega))
            simpa [Lit.sameKey, hne] using hl
        · rw [(HR1.out.alloc _).left_eq, HR.out.left_eq]
          exact HLT.out
      · have HP := Lib.hid (Es.hit_pre (lb s) c HC.out hp)
        have hpl : Lib.hasPrefix s.data.toList (Es.std c) = true := by rw [pre_is]; exact hp
        clear hp
        go_wp2_with (go_at_call 19; refine (Tryd.strings_HasPrefix _ _ _).mono ?_; rintro e w' ⟨rfl, rfl⟩)
        have hcl : (w1.alloc (Obj.cells #[Value.string ⟨(Es.std c).toArray⟩] 56)).cell? ⟨wr.heap.size, 0, none⟩ = some (.string ⟨(Es.std c).toArray⟩) := by
          rw [World.cell?_alloc_at (hn := hs1.symm)]; rfl
        go_quiet (fail)
        go_wp2_with fail
        go_ret3
        refine ⟨?_, below_drewN' (hb1.alloc s1 _) nq⟩
        unfold SignPost
        rw [HP.out]
        have hc0 : c ≠ 0 := by rintro rfl; exact absurd HC.out (by decide)
        rw [decide_eq_true hc0]
        rfl
end Go.Proofs.YtlgodkjbilkloaaDoor
