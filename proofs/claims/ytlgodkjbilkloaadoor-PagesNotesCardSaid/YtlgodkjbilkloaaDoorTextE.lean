/-
  ESCAPE: Text, by contract.
-/
import Derived.Test.YtlgodkjbilkloaaDoorSignW
import Derived.Test.YtlgodkjbilkloaaDoorBld
namespace Go.Proofs.YtlgodkjbilkloaaDoor
open Go.RowKit Go.Maps
set_option linter.unusedVariables false

/-- From f to p there is no sign that cuts. -/
def Clean (s : ByteArray) (f p : Nat) : Prop := ∀ j, f ≤ j → j < p → Es.sg (s.get! j) = false
theorem get_bang (s : ByteArray) (j : Nat) (h : j < s.size) : s.get! j = s[j] := by
  simp [ByteArray.get!, getElem!_pos, h]; rfl
theorem Clean.nil (s : ByteArray) (f : Nat) : Clean s f f := fun j h1 h2 => by omega
theorem lb_ext (s : ByteArray) (a b : Nat) : lb (s.extract a b) = ((lb s).drop a).take (b - a) := Lib.extract_data s a b
theorem lb_len (s : ByteArray) : (lb s).length = s.size := (Lib.size_eq s).symm
theorem clean_esc (s : ByteArray) (f p : Nat) (hp : p ≤ s.size) (h : Clean s f p) : Es.esc (lb (s.extract f p)) = lb (s.extract f p) := by
  refine Es.esc_plain _ (List.all_eq_true.2 fun c hc => ?_)
  rw [lb_ext] at hc
  obtain ⟨i, hi⟩ := List.getElem?_of_mem hc
  have hlt := (List.getElem?_eq_some_iff.1 hi).1
  rw [List.length_take, List.length_drop, lb_len] at hlt
  rw [List.getElem?_take_of_lt (by omega), List.getElem?_drop] at hi
  have h1 : (lb s)[f + i]? = some s[f + i] := List.getElem?_eq_getElem (by rw [lb_len]; omega)
  have h2 := h (f + i) (by omega) (by omega)
  rw [get_bang s (f + i) (by omega)] at h2
  obtain rfl : s[f + i] = c := Option.some.inj (h1.symm.trans hi)
  rw [h2]; rfl
theorem esc_seg (s : ByteArray) (f p : Nat) (hf : f ≤ p) (hp : p ≤ s.size) (h : Clean s f p) : Es.esc ((lb s).take f) ++ lb (s.extract f p) = Es.esc ((lb s).take p) := by
  have e : (lb s).take p = (lb s).take f ++ lb (s.extract f p) := by
    rw [lb_ext, show p = f + (p - f) by omega, List.take_add, show f + (p - f) - f = p - f by omega]
  rw [e, Es.esc_append, clean_esc s f p hp h]
theorem esc_sign (s : ByteArray) (p : Nat) (hp : p < s.size) (h : Es.sg s[p] = true) : Es.esc ((lb s).take p) ++ Es.std s[p] = Es.esc ((lb s).take (p + 1)) := by
  have : (lb s).take (p + 1) = (lb s).take p ++ [s[p]] := by
    rw [List.take_succ_eq_append_getElem (by rw [lb_len]; exact hp)]; rfl
  rw [this, Es.esc_append, Es.esc, Es.esc, List.append_nil, Es.ent, if_pos h]
/-- One rune on. -/
theorem rune_at (s : ByteArray) (pos : Nat) (hp : pos < s.size) :
    (Es.sg s[pos] = true ∧ Utf8.decode s pos = (s[pos].toNat, 1)) ∨
    (sgN (Utf8.decode s pos).1 = false ∧ 1 ≤ (Utf8.decode s pos).2 ∧ pos + (Utf8.decode s pos).2 ≤ s.size ∧ ∀ f, Clean s f pos → Clean s f (pos + (Utf8.decode s pos).2)) := by
  by_cases ha : s[pos].toNat < 128
  · have hd := decode_ascii s pos hp ha
    cases hs : Es.sg s[pos]
    · refine .inr ⟨by rw [hd]; exact (sgN_of _).trans hs, by rw [hd]; exact Nat.le_refl _, by rw [hd]; omega, fun f h j h1 h2 => ?_⟩
      rw [hd] at h2
      rcases (by omega : j < pos ∨ j = pos) with h3 | rfl
      · exact h j h1 h3
      · rw [get_bang s j hp]; exact hs
    · exact .inl ⟨rfl, hd⟩
  · have hc := Es.decode_cont s pos hp (by omega)
    obtain ⟨hr, hw⟩ := decode_high s pos hp (by omega)
    refine .inr ⟨?_, hw, ?_, fun f h j h1 h2 => ?_⟩
    · cases hq : sgN (Utf8.decode s pos).1
      · rfl
      · have := sgN_cases hq
        omega
    · have := (hc ((Utf8.decode s pos).2 - 1) (by omega)).1
      omega
    · by_cases h3 : j < pos
      · exact h j h1 h3
      · have := (hc (j - pos) (by omega)).2
        rw [show pos + (j - pos) = j by omega] at this
        cases hq : Es.sg (s.get! j)
        · rfl
        · have := Es.sg_low _ hq
          omega

theorem Bld.iterAt {b : Nat} {l : List UInt8} {w : World} (h : Bld b l w) {k : Nat} {s : ByteArray} {pos : Nat} (hk : w.heap[k]? = some (.stringIter s pos)) (pos' : Nat) : Bld b l (w.iterAt k s pos') := Lib.IsBuilderF.iterAt h hk pos'

/-- Where Text's loop stands. -/
structure TextAt (w : World) (s : ByteArray) (bb : Nat) (f pos : Nat) (wr : World) : Prop where
  le1 : f ≤ pos
  le2 : pos ≤ s.size
  clean : Clean s f pos
  bld : Bld bb (Es.esc ((lb s).take f)) wr
  iter : wr.heap[bb + 1]? = some (.stringIter s pos)
  ent : Ent w.heap.size wr
  below : Below w.heap.size w wr

set_option maxHeartbeats 2000000 in
set_option maxRecDepth 100000 in
theorem text_any (s : ByteArray) (hs : s.size ≤ 17592186044416) (w : World) :
    Calls Tryd.prog 31 #[.string s] w fun e w' => (∃ x : ByteArray, e = .returned (.string x) ∧ lb x = Es.esc (lb s)) ∧ Below w.heap.size w w' := by
  go_enter Tryd.func31, Tryd.ntmps31
  go_wp2_with fail
  refine (entities_any w).mono ?_
  rintro e w1 ⟨rfl, hE, b1⟩
  have hlt := hE.lt
  have hB := Bld.new w1
  have hB2 : Bld w1.heap.size [] ((w1.alloc (.cells #[.pointer none, .slice none 0 0] 54)).iter s 0) := hB.alloc _
  have hI := World.iter_heap (w1.alloc (.cells #[.pointer none, .slice none 0 0] 54)) s 0
  have hT : TextAt w s w1.heap.size 0 0 ((w1.alloc (.cells #[.pointer none, .slice none 0 0] 54)).iter s 0) :=
    ⟨Nat.le_refl _, Nat.zero_le _, Clean.nil s 0, hB2, by simpa using hI, (hE.below ((Below.refl w1.heap.size w1).alloc (Nat.le_refl _) _) hlt).below ((Below.refl _ _).alloc (Nat.le_refl _) _) (by simp; omega), (b1.alloc b1.size _).alloc (by have := b1.size; simp; omega) _⟩
  have HT := Lib.hid hT
  clear hT hI hB hB2 hE b1
  go_wp2_with fail
  go_loopw [5] (fun fr wr => ∃ f pos : Nat, fr = .int .i64 f ∧ TextAt w s w1.heap.size f pos wr) (fun _ wr => s.size - wr.iterPos (w1.heap.size + 1))
  case atStart => exact ⟨0, 0, rfl, HT.out⟩
  case round =>
    obtain ⟨f, pos, rfl, h⟩ := hrel
    obtain ⟨hf, hpz, hcl, hB, hit, hE, hb⟩ := h
    have hsz : w1.heap.size + 1 < wr.heap.size := (Array.getElem?_eq_some_iff.1 hit).1
    have hpos : wr.iterPos (w1.heap.size + 1) = pos := by simp only [World.iterPos, hit]
    have HPos := Lib.hid hpos
    have HC := Lib.hid hcl
    have hal := Es.esc_len ((lb s).take f)
    rw [List.length_take, lb_len] at hal
    have hal2 : (Es.esc ((lb s).take f)).length ≤ 6 * s.size := by omega
    clear hcl hpos hal
    by_cases hp : pos < s.size
    · have hnx : ∀ ty, (Instr.next (.pointer (some ⟨w1.heap.size + 1, 0, none⟩)) true ty).run Tryd.prog wr = _ := fun ty => Lib.run_next_any_at wr (w1.heap.size + 1) s pos ty hit hp
      have hdl := decode_le s pos
      have hrune := rune_at s pos hp
      obtain ⟨r, d, hrd⟩ : ∃ r d, Utf8.decode s pos = (r, d) := ⟨_, _, rfl⟩
      rw [hrd] at hnx hdl hrune
      dsimp only at hnx hdl hrune
      have hB2 := hB.iterAt hit (pos + d)
      have hit2 := Lib.iterAt_heap wr (w1.heap.size + 1) s pos (pos + d) hit
      have hE2 : Ent w.heap.size (wr.iterAt (w1.heap.size + 1) s (pos + d)) := hE.block (Lib.iterAt_other wr (w1.heap.size + 1) w.heap.size s (pos + d) (by omega))
      have hb2 := Lib.below_iterAt hb (k := w1.heap.size + 1) (by omega) s (pos + d)
      have hsz2 : (wr.iterAt (w1.heap.size + 1) s (pos + d)).heap.size = wr.heap.size := Lib.iterAt_size _ _ _ _
      generalize wr.iterAt (w1.heap.size + 1) s (pos + d) = wi at *
      have HB2 := Lib.hid hB2
      have HE2 := Lib.hid hE2
      have HI2 := Lib.hid hit2
      clear hB hit hE hb hB2 hE2 hit2 hrd
      rcases hrune with ⟨hsg, hrd⟩ | ⟨hsg, hd1, hd2, hcn⟩
      · obtain ⟨rfl, rfl⟩ : r = s[pos].toNat ∧ d = 1 := by injection hrd; exact ⟨by assumption, by assumption⟩
        have hsN : sgN s[pos].toNat = true := (sgN_of _).trans hsg
        have HS := Lib.hid (esc_sign s pos hp hsg)
        have HG := Lib.hid (esc_seg s f pos hf hpz HC.out)
        have hstd := stdN_of s[pos]
        have h6 : (Es.std s[pos]).length ≤ 6 := by
          have := Es.ent_len s[pos]
          unfold Es.ent Es.plus at this
          rw [if_pos hsg] at this
          rw [this]
          repeat' split
          all_goals omega
        have hex := lb_ext s f pos
        have hxl : (s.extract f pos).size ≤ s.size := by rw [Lib.size_eq]; show (lb _).length ≤ _; rw [hex, List.length_take]; omega
        have hbs := bld_size (Es.std s[pos])
        have hlf : (Es.esc ((lb s).take f) ++ lb (s.extract f pos)).length ≤ 7 * s.size := by rw [List.length_append, lb_len (s.extract f pos)]; omega
        obtain ⟨k, hk⟩ : ∃ k, k = wi.heap.size := ⟨_, rfl⟩
        have hbox := heap_alloc_new wi (.cells #[.string ⟨(Es.std s[pos]).toArray⟩] 56)
        have hb3 := hb2.alloc (B := w.heap.size) (by omega) (.cells #[.string ⟨(Es.std s[pos]).toArray⟩] 56)
        have hE3 := HE2.out.below ((Below.refl wi.heap.size wi).alloc (Nat.le_refl _) (.cells #[.string ⟨(Es.std s[pos]).toArray⟩] 56)) (by omega)
        have hB3 := HB2.out.alloc (.cells #[.string ⟨(Es.std s[pos]).toArray⟩] 56)
        have hI3 : (wi.alloc (.cells #[.string ⟨(Es.std s[pos]).toArray⟩] 56)).heap[w1.heap.size + 1]? = some (.stringIter s (pos + 1)) := (Below.heap_alloc wi _ _ (by omega)).trans HI2.out
        have HBox := Lib.hid hbox
        have HE3 := Lib.hid hE3
        have HB3 := Lib.hid hB3
        have HI3 := Lib.hid hI3
        have hkk : wi.heap.size ≠ w1.heap.size := by omega
        have HSN := Lib.hid hsN
        rw [← hstd] at *
        clear hbox hE3 hB3 hI3 hk hex hsg hrd HB2 HI2 hstd
        go_wp2_with (first | (at_lookup; refine wpList_look_ent _ rfl _ _ rfl w.heap.size rfl HE2.out s[pos].toNat hdl rfl ?_) | fail)
        refine (bld_write _ _ (s.extract f pos) _ HB3.out (by omega)).mono ?_
        rintro e w2 ⟨rfl, hB4, b4, k4⟩
        have hbx4 := k4 wi.heap.size _ HBox.out (by simpa using hkk) (by intro c fz h; cases h)
        have hc4 : w2.cell? ⟨wi.heap.size, 0, none⟩ = some (.string ⟨(stdN s[pos].toNat).toArray⟩) := by rw [Lib.cell_of_heap hbx4]; rfl
        have hi4 := k4.iter HI3.out (by omega)
        have hE4 := HE3.out.below b4 hlt
        have hb4 := hb3.trans (b4.mono (by omega))
        have HB4 := Lib.hid hB4
        have HE4 := Lib.hid hE4
        have HI4 := Lib.hid hi4
        rw [hsz2] at hc4
        clear hB4 hE4 hi4 hbx4 b4 k4
        go_wp2_with fail
        refine (bld_write _ _ ⟨(stdN s[pos].toNat).toArray⟩ _ HB4.out (by omega)).mono ?_
        rintro e w3 ⟨rfl, hB5, b5, k5⟩
        have hi5 := k5.iter HI4.out (by omega)
        have HI5 := Lib.hid hi5
        have HR : TextAt w s w1.heap.size (pos + 1) (pos + 1) w3 := by
          refine ⟨Nat.le_refl _, by omega, Clean.nil _ _, ?_, hi5, HE4.out.below b5 hlt, hb4.trans (b5.mono (by omega))⟩
          rw [← HS.out, ← HG.out, ← stdN_of, ← lb_toArray (stdN s[pos].toNat)]
          exact hB5
        have HRH := Lib.hid HR
        clear HR hi5 hB5
        go_wp2_with fail
        go_roundw
        case rel => exact ⟨pos + 1, pos + 1, by go_num, HRH.out⟩
        case measure =>
          rw [HPos.out]
          simp only [World.iterPos, HI5.out]
          omega
      · have HCN := Lib.hid (hcn f HC.out)
        clear hcn
        go_wp2_with (at_lookup; refine wpList_look_ent _ rfl _ _ rfl w.heap.size rfl HE2.out r hdl rfl ?_)
        go_roundw
        case rel =>
          refine ⟨f, pos + d, rfl, by omega, hd2, HCN.out, HB2.out.alloc _, ?_, HE2.out.below ((Below.refl _ _).alloc (Nat.le_refl _) _) (by omega), hb2.alloc (by omega) _⟩
          have := HI2.out
          exact (Below.heap_alloc wi _ _ (by omega)).trans this
        case measure =>
          have h1 : (wi.alloc (.cells #[.string ⟨(stdN r).toArray⟩] 56)).iterPos (w1.heap.size + 1) = pos + d := by
            simp only [World.iterPos, (Below.heap_alloc wi _ _ (by omega)).trans HI2.out]
          rw [HPos.out, h1]
          omega
    · obtain rfl : pos = s.size := by omega
      have hnx : ∀ ty, (Instr.next (.pointer (some ⟨w1.heap.size + 1, 0, none⟩)) true ty).run Tryd.prog wr = _ := fun ty => Lib.run_next_end_at wr (w1.heap.size + 1) s s.size ty hit hp
      have HG := Lib.hid (esc_seg s f s.size hf hpz HC.out)
      have hex := lb_ext s f s.size
      have hxl : (s.extract f s.size).size ≤ s.size := by rw [Lib.size_eq]; show (lb _).length ≤ _; rw [hex, List.length_take]; omega
      clear hex
      go_wp2_with fail
      refine (bld_write _ _ (s.extract f s.size) _ hB (by omega)).mono ?_
      rintro e w2 ⟨rfl, hB2, b2, _⟩
      have c2 := hb.trans (b2.mono (by omega))
      have HB2 := Lib.hid hB2
      clear hB hB2
      go_wp2_with fail
      refine (bld_string _ _ _ HB2.out).mono ?_
      rintro e w3 ⟨rfl, _, b3, _⟩
      have c3 := c2.trans (b3.mono (by omega))
      go_wp2_with fail
      go_ret
      refine ⟨⟨_, rfl, ?_⟩, c3⟩
      rw [lb_toArray, HG.out, List.take_of_length_le (by rw [lb_len]; exact Nat.le_refl _)]
end Go.Proofs.YtlgodkjbilkloaaDoor
