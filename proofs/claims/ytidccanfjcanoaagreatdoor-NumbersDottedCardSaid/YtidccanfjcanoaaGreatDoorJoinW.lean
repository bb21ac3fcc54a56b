/-
  numbers.join and Dotted: the walks.
-/
import Derived.Test.YtidccanfjcanoaaGreatDoorBld
import Derived.Test.YtidccanfjcanoaaGreatDoorIntW
import Derived.Test.YtidccanfjcanoaaGreatDoorJoinP
namespace Go.Proofs.YtidccanfjcanoaaGreatDoor
open Go.RowKit
set_option linter.unusedVariables false

def Pow10 (w : World) : Prop := Lib.TabIs Tryz.prog w "internal/strconv.uint64pow10" .u64 Lib.pow10Tab
def Pow10At (g : Nat) : Prop := Tryz.prog.globalNamed "internal/strconv.uint64pow10" = some g
theorem Pow10.lt {w : World} {g : Nat} (h : Pow10 w) (hg : Pow10At g) : g < w.heap.size := by
  unfold Pow10 Lib.TabIs World.var? at h
  unfold Pow10At at hg
  rw [hg] at h
  simp only [Option.bind_some] at h
  rcases Nat.lt_or_ge g w.heap.size with h' | h'
  · exact h'
  · simp [Array.getElem?_eq_none h'] at h
theorem Pow10.below {w w' : World} {g B : Nat} (h : Pow10 w) (hg : Pow10At g) (hb : Below B w w') (hB : g < B) : Pow10 w' := tabIs_below hg h hb hB
theorem itoa_c (n : Int) (h : -9223372036854775808 ≤ n ∧ n ≤ 9223372036854775807) (w : World) (hP : Pow10 w) :
    Calls Tryz.prog 123 #[.int .i64 n] w fun e w' => e = .returned (.string ⟨(Lib.itoa n).toArray⟩) ∧ Below w.heap.size w w' := by
  refine (Tryz.strconv_Itoa n h.1 h.2 w hP).mono ?_
  rintro e w' ⟨rfl, k, os, rfl⟩
  exact ⟨rfl, Lib.below_grow _ w (Nat.le_refl _) k os⟩

set_option maxHeartbeats 2000000 in
set_option maxRecDepth 100000 in
theorem join_any (sep : ByteArray) (A : Option Addr) (n c g : Nat) (l : List Int) (hl : l.length = n) (hn : n ≤ 1000000) (hsep : sep.size ≤ 100) (hi : Rm.inI l) (w : World) (hA : IR w A l) (hP : Pow10 w) (hg : Pow10At g) :
    Calls Tryz.prog 81 #[.string sep, .slice A n c] w fun e w' => (∃ x, e = .returned (.string x) ∧ lb x = Rm.jn (lb sep) l n) ∧ Below w.heap.size w w' := by
  have hgl := hP.lt hg
  have hsl : (lb sep).length = sep.size := (Lib.size_eq sep).symm
  have HP := Lib.hid hP
  have HA := Lib.hid hA
  have HL := Lib.hid hl
  have HI := Lib.hid hi
  have HSL := Lib.hid hsl
  clear hP hA hl hi hsl
  go_enter Tryz.func81, Tryz.ntmps81
  go_wp2_with fail
  go_loopw [10] (fun i wr => ∃ k : Nat, k ≤ n ∧ i = .int .i64 k ∧ Bld w.heap.size (Rm.jn (lb sep) l k) wr ∧ Below w.heap.size w wr) (fun i _ => n - (intOf i).toNat)
  case atStart => exact ⟨0, Nat.zero_le _, rfl, Bld.new w, (Below.refl _ _).alloc (Nat.le_refl _) _⟩
  case round =>
    obtain ⟨k, hk, rfl, hB, hb⟩ := hrel
    have hjl := Rm.jn_length (lb sep) l HI.out k
    have hjm : k * ((lb sep).length + 21) ≤ 1000000 * 121 := Nat.mul_le_mul (by omega) (by rw [HSL.out]; omega)
    by_cases hlt : k < n
    · obtain ⟨b, o, rfl, hbl, hc⟩ := HA.out (by intro h0; have := HL.out; rw [h0] at this; simp at this; omega)
      have c1 : wr.cell? ⟨b, o + k, none⟩ = some (.int .i64 (l.getD k 0)) := (hb.cell (p := ⟨b, o + k, none⟩) hbl).trans (hc k (by rw [HL.out]; exact hlt))
      have hx := Rm.inI_getD HI.out k
      have hxl := Lib.itoa_length_le _ hx.1 hx.2
      have HJ : Hid (Rm.jn (lb sep) l (k + 1) = Rm.jn (lb sep) l k ++ (if k = 0 then [] else lb sep) ++ Lib.itoa (l.getD k 0)) := Lib.hid rfl
      have HX := Lib.hid hx
      clear hc hx
      generalize l.getD k 0 = x at *
      have hP1 := HP.out.below hg hb hgl
      have hsz := bld_size (Lib.itoa x)
      rcases Nat.eq_zero_or_pos k with hk0 | hk0
      · subst hk0
        rw [Nat.add_zero] at c1
        go_wp2_with fail
        refine (itoa_c x HX.out wr hP1).mono ?_
        rintro e w1 ⟨rfl, b1⟩
        have hB1 := hB.below b1
        have c2 := hb.trans (b1.mono hb.size)
        go_wp2_with fail
        refine (bld_write _ _ ⟨(Lib.itoa x).toArray⟩ _ hB1 (by omega)).mono ?_
        rintro e w2 ⟨rfl, hB2, b2, _⟩
        have c3 := c2.trans b2
        go_wp2_with fail
        go_roundw
        case rel =>
          refine ⟨1, by omega, by go_num, ?_, c3⟩
          rw [HJ.out]
          simp only [if_true, List.append_nil]
          exact hB2
        case measure => simp [intOf]; omega
      · have hk0i : (0 : Int) < (k : Int) := by omega
        go_wp2_with fail
        refine (bld_write _ _ sep _ hB (by omega)).mono ?_
        rintro e w0 ⟨rfl, hB0, b0, _⟩
        have c0 := hb.trans b0
        have hP2 := HP.out.below hg c0 hgl
        have hls : (Rm.jn (lb sep) l k ++ lb sep).length = (Rm.jn (lb sep) l k).length + (lb sep).length := List.length_append
        rw [HSL.out] at hls
        go_wp2_with fail
        refine (itoa_c x HX.out w0 hP2).mono ?_
        rintro e w1 ⟨rfl, b1⟩
        have hB1 := hB0.below b1
        have c2 := c0.trans (b1.mono c0.size)
        go_wp2_with fail
        refine (bld_write _ _ ⟨(Lib.itoa x).toArray⟩ _ hB1 (by omega)).mono ?_
        rintro e w2 ⟨rfl, hB2, b2, _⟩
        have c3 := c2.trans b2
        go_wp2_with fail
        go_roundw
        case rel =>
          refine ⟨k + 1, by omega, by go_num, ?_, c3⟩
          rw [HJ.out, if_neg (by omega)]
          exact hB2
        case measure => simp [intOf]; omega
    · have hkn : k = n := by omega
      subst hkn
      go_wp2_with fail
      refine (bld_string _ _ _ hB).mono ?_
      rintro e w1 ⟨rfl, _, b1, _⟩
      have c1 := hb.trans b1
      go_wp2_with fail
      go_ret
      exact ⟨⟨_, rfl, rfl⟩, c1⟩

set_option maxHeartbeats 1000000 in
theorem dotted_any (A : Option Addr) (n c g : Nat) (l : List Int) (hl : l.length = n) (hn : n ≤ 1000000) (hi : Rm.inI l) (w : World) (hA : IR w A l) (hP : Pow10 w) (hg : Pow10At g) :
    Calls Tryz.prog 16 #[.slice A n c] w fun e w' => (∃ x, e = .returned (.string x) ∧ lb x = Rm.jn [46] l n) ∧ Below w.heap.size w w' := by
  have H := Lib.hid (join_any ⟨#[46]⟩ A n c g l hl hn (by decide) hi w hA hP hg)
  clear hA hP hi
  go_enter Tryz.func16, Tryz.ntmps16
  go_wp2_with fail
  refine H.out.mono ?_
  rintro e w1 ⟨⟨x, rfl, hx⟩, b1⟩
  have HX := Lib.hid hx
  clear hx
  go_wp2_with fail
  go_ret
  exact ⟨⟨_, rfl, HX.out⟩, b1⟩
end Go.Proofs.YtidccanfjcanoaaGreatDoor
