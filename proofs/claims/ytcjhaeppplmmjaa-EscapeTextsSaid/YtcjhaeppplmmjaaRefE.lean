/-
  ESCAPE: the document's answer: stands, Text, Tag, by contract.
-/
import Derived.Test.YtcjhaeppplmmjaaAttW
import Derived.Test.YtcjhaeppplmmjaaRowB
import Derived.Lib.AppendStr
import Derived.Maps.AppendAt
namespace Go.Proofs.Ytcjhaeppplmmjaa
open Go.RowKit
set_option linter.unusedVariables false

theorem u8_lit (c : UInt8) (k : UInt8) (h : ¬ c = k) : ¬ ((c.toNat : Int) = (k.toNat : Int)) := fun e => h (UInt8.toNat_inj.1 (by omega))
set_option maxHeartbeats 400000 in
set_option maxRecDepth 100000 in
theorem stands_any (c : UInt8) (w : World) :
    Calls Try.prog 23 #[.int .u8 (c.toNat : Int)] w fun e w' => e = .returned (.string ⟨(Es.std c).toArray⟩) ∧ w = w' := by
  by_cases h0 : c = 38
  · subst h0
    go_enter Try.func23, Try.ntmps23
    go_wp2
    go_ret
    exact ⟨rfl, rfl⟩
  by_cases h1 : c = 60
  · subst h1
    go_enter Try.func23, Try.ntmps23
    go_wp2
    go_ret
    exact ⟨rfl, rfl⟩
  by_cases h2 : c = 62
  · subst h2
    go_enter Try.func23, Try.ntmps23
    go_wp2
    go_ret
    exact ⟨rfl, rfl⟩
  by_cases h3 : c = 34
  · subst h3
    go_enter Try.func23, Try.ntmps23
    go_wp2
    go_ret
    exact ⟨rfl, rfl⟩
  by_cases h4 : c = 39
  · subst h4
    go_enter Try.func23, Try.ntmps23
    go_wp2
    go_ret
    exact ⟨rfl, rfl⟩
  have hw : Es.std c = [] := by unfold Es.std; rw [if_neg h0, if_neg h1, if_neg h2, if_neg h3, if_neg h4]
  rw [hw]
  have g0 : ((c.toNat : Int) == 38) = false := by have := u8_lit c 38 h0; simpa using this
  have g1 : ((c.toNat : Int) == 60) = false := by have := u8_lit c 60 h1; simpa using this
  have g2 : ((c.toNat : Int) == 62) = false := by have := u8_lit c 62 h2; simpa using this
  have g3 : ((c.toNat : Int) == 34) = false := by have := u8_lit c 34 h3; simpa using this
  have g4 : ((c.toNat : Int) == 39) = false := by have := u8_lit c 39 h4; simpa using this
  clear h0 h1 h2 h3 h4 hw
  generalize (c.toNat : Int) = z at *
  go_enter Try.func23, Try.ntmps23
  go_wp2
  go_ret
  exact ⟨rfl, rfl⟩

theorem infoByte : (Try.prog.info? 5).map (fun i => (i.zero, i.size, i.bytes)) = some (some (.int .u8 0), 1, 1) := by kernel_rfl
theorem esc_snoc (l : List UInt8) (c : UInt8) : Es.esc (l ++ [c]) = Es.esc l ++ Es.ent c := by rw [Es.esc_append, Es.esc, Es.esc, List.append_nil]
theorem std_nil (c : UInt8) (h : Es.sg c = false) : Es.std c = [] := by
  have h' : ¬ (c = 38 ∨ c = 60 ∨ c = 62 ∨ c = 34 ∨ c = 39) := fun x => by rw [(Es.sg_cases c).2 x] at h; cases h
  simp only [not_or] at h'
  obtain ⟨h1, h2, h3, h4, h5⟩ := h'
  unfold Es.std
  rw [if_neg h1, if_neg h2, if_neg h3, if_neg h4, if_neg h5]
theorem take_snoc' (s : ByteArray) (k : Nat) (h : k < s.size) : (lb s).take (k + 1) = (lb s).take k ++ [s[k]] := by
  rw [List.take_succ_eq_append_getElem (by rw [lb_len]; exact h)]; rfl

set_option maxHeartbeats 2000000 in
set_option maxRecDepth 100000 in
theorem refText_any (s : ByteArray) (hs : s.size ≤ 17592186044416) (w : World) :
    Calls Try.prog 15 #[.string s] w fun e w' => ∃ x : ByteArray, e = .returned (.string x) ∧ lb x = Es.esc (lb s) ∧ x.size ≤ 6 * s.size ∧ Below w.heap.size w w' := by
  obtain ⟨i0, hi, hz0, hz1, hz2⟩ := info_parts infoByte
  go_enter Try.func15, Try.ntmps15
  go_wp2_with fail
  go_loopw [3, 4] (fun v i wr => ∃ k : Nat, k ≤ s.size ∧ i = .int .i64 k ∧ wr.ownsRow w.heap.size 5 1 v (Es.esc ((lb s).take k)).length ((Es.esc ((lb s).take k)).map bv) ∧ Below w.heap.size w wr) (fun _ i _ => s.size - (intOf i).toNat)
  case atStart => exact ⟨0, Nat.zero_le _, rfl, World.ownsRow_nil _ _ _ _, Below.refl _ _⟩
  case round =>
    obtain ⟨k, hk, rfl, hown, hb⟩ := hrel
    have hal := Es.esc_len ((lb s).take k)
    rw [List.length_take, lb_len] at hal
    have hal2 : (Es.esc ((lb s).take k)).length ≤ 6 * s.size := by omega
    have HOwn := Lib.hid hown
    clear hal
    by_cases hlt : k < s.size
    · have HT := Lib.hid (take_snoc' s k hlt)
      clear hown
      rcases hsg : Es.sg s[k]
      · have hstd := std_nil s[k] hsg
        have HE : Hid (Es.esc ((lb s).take (k + 1)) = Es.esc ((lb s).take k) ++ [s[k]]) := Lib.hid (by rw [HT.out, esc_snoc, Es.ent, hsg]; rfl)
        have hst := stands_any s[k]
        rw [hstd] at hst
        have HST := Lib.hid hst
        clear hsg hstd hst
        go_wp2_with (first
          | (go_at_call 23; refine (HST.out _).mono ?_; rintro e w' ⟨rfl, rfl⟩)
          | (at_builtin; refine wpList_append_own _ rfl _ _ 41 rfl w.heap.size 5 i0 (.int .u8 0) 1 1 Try.underlying41 hi hz0 hz1 hz2 rfl (by decide) _ _ _ rfl (HOwn.out.alloc _) ⟨wr.heap.size, 0, none⟩ 1 1 [_] rfl rfl (cell_one_new _ _ _) (by simp [Value.oneCell']) (by unfold maxLen; omega) (by omega) (by have := hb.size; simp; omega) ?_; intro v' w2 hown' hgrow _))
        have hb2 := (hb.alloc hb.size _).grown hgrow (by have := hb.size; simp; omega) (fun i hi => (HOwn.out.lt i hi).1)
        have HO2 := Lib.hid hown'
        clear hown' hgrow
        go_roundw
        case rel =>
          refine ⟨k + 1, by omega, by go_num, ?_, hb2⟩
          rw [HE.out, List.length_append, List.map_append]
          exact HO2.out
        case measure => simp [intOf]; omega
      · have HE : Hid (Es.esc ((lb s).take (k + 1)) = Es.esc ((lb s).take k) ++ Es.std s[k]) := Lib.hid (by rw [HT.out, esc_snoc, Es.ent, hsg]; rfl)
        have hne : (⟨(Es.std s[k]).toArray⟩ : ByteArray).toList.isEmpty = false := isEmptyB_no _ (by rw [lb_toArray]; intro h; have := Es.std_ne_of _ hsg; rw [h] at this; simp at this)
        have h6 : (⟨(Es.std s[k]).toArray⟩ : ByteArray).size ≤ 6 := by
          rw [bld_size]
          have h7 := Es.ent_len s[k]
          unfold Es.ent Es.plus at h7
          rw [if_pos hsg] at h7
          rw [h7]
          repeat' split
          all_goals omega
        have HLB := Lib.hid (lb_toArray (Es.std s[k]))
        have hst := stands_any s[k]
        obtain ⟨x, hx⟩ : ∃ x : ByteArray, x = ⟨(Es.std s[k]).toArray⟩ := ⟨_, rfl⟩
        rw [← hx] at hst hne h6 HLB
        have HST := Lib.hid hst
        clear hsg hst hx
        go_wp2_with (first
          | (go_at_call 23; refine (HST.out _).mono ?_; rintro e w' ⟨rfl, rfl⟩)
          | (at_builtin; refine Lib.wpList_append_own_string _ rfl _ _ 41 9 rfl w.heap.size 5 i0 Try.underlying41 Try.underlying9 hi hz0 hz1 hz2 _ _ _ rfl HOwn.out x rfl (by unfold maxLen; omega) (by omega) hb.size ?_; intro v' w2 hown' hgrow _))
        have hb2 := hb.grown hgrow hb.size (fun i hi => (HOwn.out.lt i hi).1)
        have HO2 := Lib.hid hown'
        clear hown' hgrow
        go_roundw
        case rel =>
          refine ⟨k + 1, by omega, by go_num, ?_, hb2⟩
          rw [HE.out, List.length_append, List.map_append]
          have h8 := HO2.out
          have e1 : Lib.strCells x = (Es.std s[k]).map bv := by rw [← HLB.out]; rfl
          have e2 : x.size = (Es.std s[k]).length := by rw [← HLB.out, lb_len]
          rw [e1, e2] at h8
          exact h8
        case measure => simp [intOf]; omega
    · obtain rfl : k = s.size := by omega
      have hconv := conv_own (P := Try.prog) Try.underlying41 Try.underlying5 Try.underlying9 wr w.heap.size _ _ _ hown
      clear hown
      go_wp2_with fail
      go_ret
      refine ⟨_, rfl, ?_, ?_, hb⟩
      · rw [lb_toArray, List.take_of_length_le (by rw [lb_len]; exact Nat.le_refl _)]
      · rw [bld_size]; exact hal2

set_option maxHeartbeats 2000000 in
set_option maxRecDepth 100000 in
theorem refTag_any (name cls id cont : ByteArray) (w : World) (h0 : name.size ≤ 1048576) (h1 : cls.size ≤ 1048576) (h2 : id.size ≤ 1048576) (h3 : cont.size ≤ 1048576) :
    Calls Try.prog 11 #[.string name, .string cls, .string id, .string cont] w fun e w' => (∃ x : ByteArray, e = .returned (.string x) ∧ lb x = Es.tag (lb name) (lb cls) (lb id) (lb cont)) ∧ Below w.heap.size w w' := by
  by_cases hc : lb cls = []
  · have e1 := isEmptyB_yes cls hc
    have HC := Lib.hid hc
    clear hc
    by_cases hi : lb id = []
    · have e2 := isEmptyB_yes id hi
      have HI := Lib.hid hi
      clear hi
      go_enter Try.func11, Try.ntmps11
      go_wp2_with fail
      go_ret
      refine ⟨⟨_, rfl, ?_⟩, Below.refl _ _⟩
      have hc := HC.out
      have hi := HI.out
      simp only [lb, Es.tag, Es.att] at *
      simp [hc, hi]
    · have e2 := isEmptyB_no id hi
      have HI := Lib.hid hi
      clear hi
      go_enter Try.func11, Try.ntmps11
      go_wp2_with fail
      refine (refText_any id (by omega) _).mono ?_
      rintro e w2 ⟨y, rfl, hy, hys, b2⟩
      have HY := Lib.hid hy
      clear hy
      go_wp2_with fail
      go_ret
      refine ⟨⟨_, rfl, ?_⟩, b2⟩
      have hc := HC.out
      have hi := HI.out
      have hy9 := HY.out
      simp only [lb, Es.tag, Es.att] at *
      simp [hc, hi, hy9]
  · have e1 := isEmptyB_no cls hc
    have HC := Lib.hid hc
    clear hc
    by_cases hi : lb id = []
    · have e2 := isEmptyB_yes id hi
      have HI := Lib.hid hi
      clear hi
      go_enter Try.func11, Try.ntmps11
      go_wp2_with fail
      refine (refText_any cls (by omega) _).mono ?_
      rintro e w1 ⟨x, rfl, hx, hxs, b1⟩
      have HX := Lib.hid hx
      clear hx
      go_wp2_with fail
      go_ret
      refine ⟨⟨_, rfl, ?_⟩, b1⟩
      have hc := HC.out
      have hi := HI.out
      have hx9 := HX.out
      simp only [lb, Es.tag, Es.att] at *
      simp [hc, hi, hx9]
    · have e2 := isEmptyB_no id hi
      have HI := Lib.hid hi
      clear hi
      go_enter Try.func11, Try.ntmps11
      go_wp2_with fail
      refine (refText_any cls (by omega) _).mono ?_
      rintro e w1 ⟨x, rfl, hx, hxs, b1⟩
      have HX := Lib.hid hx
      clear hx
      go_wp2_with fail
      refine (refText_any id (by omega) _).mono ?_
      rintro e w2 ⟨y, rfl, hy, hys, b2⟩
      have HY := Lib.hid hy
      clear hy
      go_wp2_with fail
      go_ret
      refine ⟨⟨_, rfl, ?_⟩, b1.trans (b2.mono b1.size)⟩
      have hc := HC.out
      have hi := HI.out
      have hx9 := HX.out
      have hy9 := HY.out
      simp only [lb, Es.tag, Es.att] at *
      simp [hc, hi, hx9, hy9]
end Go.Proofs.Ytcjhaeppplmmjaa
