/-
  ESCAPE: Back, by contract.
-/
import Derived.Test.YtlgodkjbilkloaaDoorTextE
import Derived.Test.YtlgodkjbilkloaaDoorRuneW
namespace Go.Proofs.YtlgodkjbilkloaaDoor
open Go.RowKit Go.Maps
set_option linter.unusedVariables false

theorem drop_cons' (s : ByteArray) (k : Nat) (h : k < s.size) : (lb s).drop k = s[k] :: (lb s).drop (k + 1) := by
  rw [List.drop_eq_getElem_cons (by rw [lb_len]; exact h)]; rfl
theorem un_clean (s : ByteArray) (f : Nat) : ∀ (n p : Nat), p = f + n → p ≤ s.size → Clean s f p → Es.un 0 ((lb s).drop f) = (Es.un 0 ((lb s).drop p)).map (lb (s.extract f p) ++ ·)
  | 0, p, hn, hp, _ => by
    obtain rfl : p = f := by omega
    have : lb (s.extract p p) = [] := by rw [lb_ext]; simp
    rw [this]
    simp
  | n + 1, p, hn, hp, hc => by
    obtain ⟨q, rfl⟩ : ∃ q, p = q + 1 := ⟨f + n, by omega⟩
    have hq := hc q (by omega) (by omega)
    rw [get_bang s q (by omega)] at hq
    rw [un_clean s f n q (by omega) (by omega) (fun j h1 h2 => hc j h1 (by omega)), drop_cons' s q (by omega), Es.un_plain _ _ hq]
    have e : lb (s.extract f (q + 1)) = lb (s.extract f q) ++ [s[q]] := by
      rw [lb_ext, lb_ext, show q + 1 - f = (q - f) + 1 by omega, List.take_succ_eq_append_getElem (by rw [List.length_drop, lb_len]; omega)]
      congr 2
      rw [List.getElem_drop]
      have e2 : f + (q - f) = q := by omega
      simp only [e2]; rfl
    rw [e]
    cases Es.un 0 ((lb s).drop (q + 1)) <;> simp
/-- Where Back's loop stands. -/
structure BackAt (w : World) (s : ByteArray) (bb f pos : Nat) (acc : List UInt8) (wr : World) : Prop where
  le1 : f ≤ s.size
  le2 : pos ≤ s.size
  clean : Clean s f pos
  low : ∀ j, pos ≤ j → j < f → (s.get! j).toNat < 128
  inv : Es.back (lb s) = (Es.un 0 ((lb s).drop f)).map (acc ++ ·)
  len : acc.length ≤ f
  bld : Bld bb acc wr
  iter : wr.heap[bb + 1]? = some (.stringIter s pos)
  ent : Ent w.heap.size wr
  below : Below w.heap.size w wr
/-- What Back answers. -/
def BackPost (r : Option (List UInt8)) (e : Ending) : Prop := match r with
  | none => e = .returned (.tuple #[.string ⟨#[]⟩, .int .i64 4])
  | some l => e = .returned (.tuple #[.string ⟨l.toArray⟩, .int .i64 0])

theorem back_end {s : ByteArray} {f : Nat} {acc : List UInt8} (hf : f ≤ s.size) (hc : Clean s f s.size) (hi : Es.back (lb s) = (Es.un 0 ((lb s).drop f)).map (acc ++ ·)) : Es.back (lb s) = some (acc ++ lb (s.extract f s.size)) := by
  rw [hi, un_clean s f (s.size - f) s.size (by omega) (Nat.le_refl _) hc, List.drop_of_length_le (by rw [lb_len]; exact Nat.le_refl _), Es.un]
  simp
theorem back_stop {s : ByteArray} {f p : Nat} {acc : List UInt8} (hf : f ≤ p) (hp : p < s.size) (hc : Clean s f p) (hi : Es.back (lb s) = (Es.un 0 ((lb s).drop f)).map (acc ++ ·)) (hs : Es.sg s[p] = true) (h0 : Es.hit ((lb s).drop p) = 0) : Es.back (lb s) = none := by
  rw [hi, un_clean s f (p - f) p (by omega) (by omega) hc, drop_cons' s p hp, Es.un_none _ _ hs (by rw [← drop_cons' s p hp]; exact h0)]
  rfl
theorem back_hit {s : ByteArray} {f p : Nat} {acc : List UInt8} (hf : f ≤ p) (hp : p < s.size) (hc : Clean s f p) (hi : Es.back (lb s) = (Es.un 0 ((lb s).drop f)).map (acc ++ ·)) (h0 : Es.hit ((lb s).drop p) ≠ 0) :
    Es.sg (Es.hit ((lb s).drop p)) = true ∧ p + (Es.std (Es.hit ((lb s).drop p))).length ≤ s.size ∧
    (∀ j, p ≤ j → j < p + (Es.std (Es.hit ((lb s).drop p))).length → (s.get! j).toNat < 128) ∧
    Es.back (lb s) = (Es.un 0 ((lb s).drop (p + (Es.std (Es.hit ((lb s).drop p))).length))).map ((acc ++ lb (s.extract f p) ++ [Es.hit ((lb s).drop p)]) ++ ·) := by
  obtain ⟨h1, t, ht⟩ := Es.hit_some _ h0
  generalize Es.hit ((lb s).drop p) = c at *
  have hlen := congrArg List.length ht
  rw [List.length_drop, lb_len, List.length_append] at hlen
  refine ⟨h1, by omega, fun j h2 h3 => ?_, ?_⟩
  · have hj : (lb s)[j]? = some (s.get! j) := by
      rw [get_bang s j (by omega)]
      exact List.getElem?_eq_getElem (by rw [lb_len]; omega)
    have h4 : ((lb s).drop p)[j - p]? = some (s.get! j) := by rw [List.getElem?_drop, show p + (j - p) = j by omega]; exact hj
    rw [ht, List.getElem?_append_left (by omega)] at h4
    have hm := List.mem_of_getElem? h4
    generalize s.get! j = d at *
    have key : ∀ c, Es.sg c = true → ∀ d ∈ Es.std c, d.toNat < 128 := by
      intro c hc
      rcases (Es.sg_cases c).1 hc with rfl | rfl | rfl | rfl | rfl <;> decide
    exact key c h1 d hm
  · rw [hi, un_clean s f (p - f) p (by omega) (by omega) hc, ht, Es.un_hit c h1 t]
    have : (lb s).drop (p + (Es.std c).length) = t := by rw [← List.drop_drop, ht]; simp
    rw [this]
    cases Es.un 0 t <;> simp

theorem sign_none (b : Nat) (s : ByteArray) (w : World) (hE : Ent b w) (h : Es.hit (lb s) = 0) :
    Calls Tryd.prog 12 #[.map (some b), .string s] w fun e w' => e = .returned (.tuple #[.int .i32 0, .string ⟨#[]⟩, .bool false]) ∧ Below w.heap.size w w' := by
  refine (sign_any b s w hE).mono ?_
  rintro e w' ⟨he, hb⟩
  rw [h] at he
  exact ⟨he, hb⟩
theorem sign_some (b : Nat) (s : ByteArray) (w : World) (hE : Ent b w) (c : UInt8) (h : Es.hit (lb s) = c) (hc : c ≠ 0) :
    Calls Tryd.prog 12 #[.map (some b), .string s] w fun e w' => e = .returned (.tuple #[.int .i32 (c.toNat : Int), .string ⟨(Es.std c).toArray⟩, .bool true]) ∧ Below w.heap.size w w' := by
  refine (sign_any b s w hE).mono ?_
  rintro e w' ⟨he, hb⟩
  unfold SignPost at he
  rw [h, decide_eq_true hc] at he
  exact ⟨he, hb⟩
theorem lb_from (s : ByteArray) (p : Nat) : lb (s.extract p s.size) = (lb s).drop p := by
  rw [lb_ext, List.take_of_length_le (by rw [List.length_drop, lb_len]; exact Nat.le_refl _)]

set_option maxHeartbeats 4000000 in
set_option maxRecDepth 100000 in
theorem back_any (s : ByteArray) (hs : s.size ≤ 17592186044416) (w : World) :
    Calls Tryd.prog 7 #[.string s] w fun e w' => BackPost (Es.back (lb s)) e ∧ Below w.heap.size w w' := by
  go_enter Tryd.func7, Tryd.ntmps7
  go_wp2_with fail
  refine (entities_any w).mono ?_
  rintro e w1 ⟨rfl, hE, b1⟩
  have hlt := hE.lt
  have hB := Bld.new w1
  have hB2 : Bld w1.heap.size [] ((w1.alloc (.cells #[.pointer none, .slice none 0 0] 54)).iter s 0) := hB.alloc _
  have hI := World.iter_heap (w1.alloc (.cells #[.pointer none, .slice none 0 0] 54)) s 0
  have hT : BackAt w s w1.heap.size 0 0 [] ((w1.alloc (.cells #[.pointer none, .slice none 0 0] 54)).iter s 0) :=
    ⟨Nat.zero_le _, Nat.zero_le _, Clean.nil s 0, fun j h1 h2 => by omega, by rw [List.drop_zero]; show Es.un 0 (lb s) = _; cases Es.un 0 (lb s) <;> rfl, by simp, hB2, by simpa using hI, (hE.below ((Below.refl w1.heap.size w1).alloc (Nat.le_refl _) _) hlt).below ((Below.refl _ _).alloc (Nat.le_refl _) _) (by simp; omega), (b1.alloc b1.size _).alloc (by have := b1.size; simp; omega) _⟩
  have HT := Lib.hid hT
  clear hT hI hB hB2 hE b1
  go_wp2_with fail
  go_loopw [6] (fun fr wr => ∃ (f pos : Nat) (acc : List UInt8), fr = .int .i64 f ∧ BackAt w s w1.heap.size f pos acc wr) (fun _ wr => s.size - wr.iterPos (w1.heap.size + 1))
  case atStart => exact ⟨0, 0, [], rfl, HT.out⟩
  case round =>
    obtain ⟨f, pos, acc, rfl, h⟩ := hrel
    obtain ⟨hf, hpz, hcl, hlow, hinv, hlen, hB, hit, hE, hb⟩ := h
    have hsz : w1.heap.size + 1 < wr.heap.size := (Array.getElem?_eq_some_iff.1 hit).1
    have hpos : wr.iterPos (w1.heap.size + 1) = pos := by simp only [World.iterPos, hit]
    have HPos := Lib.hid hpos
    have HC := Lib.hid hcl
    have HL := Lib.hid hlow
    have HInv := Lib.hid hinv
    clear hcl hpos hlow hinv
    by_cases hp : pos < s.size
    · have hnx : ∀ ty, (Instr.next (.pointer (some ⟨w1.heap.size + 1, 0, none⟩)) true ty).run Tryd.prog wr = _ := fun ty => Lib.run_next_any_at wr (w1.heap.size + 1) s pos ty hit hp
      have hdl := decode_le s pos
      have hrune := rune_at s pos hp
      have hasc := fun h => decode_ascii s pos hp h
      obtain ⟨r, d, hrd⟩ : ∃ r d, Utf8.decode s pos = (r, d) := ⟨_, _, rfl⟩
      rw [hrd] at hnx hdl hrune hasc
      dsimp only at hnx hdl hrune
      have hB2 := hB.iterAt hit (pos + d)
      have hit2 := Lib.iterAt_heap wr (w1.heap.size + 1) s pos (pos + d) hit
      have hE2 : Ent w.heap.size (wr.iterAt (w1.heap.size + 1) s (pos + d)) := hE.block (Lib.iterAt_other wr (w1.heap.size + 1) w.heap.size s (pos + d) (by omega))
      have hb2 := Lib.below_iterAt hb (k := w1.heap.size + 1) (by omega) s (pos + d)
      have hsz2 : (wr.iterAt (w1.heap.size + 1) s (pos + d)).heap.size = wr.heap.size := Lib.iterAt_size _ _ _ _
      generalize wr.iterAt (w1.heap.size + 1) s (pos + d) = wi at *
      have HB2 := Lib.hid hB2
      have HE2 := Lib.hid hE2
      have HI2 := Lib.hid hit2
      clear hB hit hE hb hB2 hE2 hit2 hrd
      by_cases hfp : pos < f
      · have hfpi : (pos : Int) < (f : Int) := by omega
        have h128 := HL.out pos (Nat.le_refl _) hfp
        rw [get_bang s pos hp] at h128
        have hd := hasc h128
        obtain ⟨rfl, rfl⟩ : r = s[pos].toNat ∧ d = 1 := by injection hd; exact ⟨by assumption, by assumption⟩
        clear hrune hasc hd h128
        go_wp2_with fail
        go_roundw
        case rel => exact ⟨f, pos + 1, acc, rfl, hf, by omega, fun j h1 h2 => by omega, fun j h1 h2 => HL.out j (by omega) h2, HInv.out, hlen, HB2.out, HI2.out, HE2.out, hb2⟩
        case measure =>
          rw [HPos.out]
          simp only [World.iterPos, HI2.out]
          omega
      · have hfp' : f ≤ pos := by omega
        have hfpi : decide ((pos : Int) < (f : Int)) = false := by simp; omega
        clear hasc
        rcases hrune with ⟨hsg, hrd⟩ | ⟨hsg, hd1, hd2, hcn⟩
        · obtain ⟨rfl, rfl⟩ : r = s[pos].toNat ∧ d = 1 := by injection hrd; exact ⟨by assumption, by assumption⟩
          have hsN : sgN s[pos].toNat = true := (sgN_of _).trans hsg
          have hb3 := hb2.alloc (B := w.heap.size) (by omega) (.cells #[.string ⟨(stdN s[pos].toNat).toArray⟩] 56)
          have hE3 := HE2.out.below ((Below.refl wi.heap.size wi).alloc (Nat.le_refl _) (.cells #[.string ⟨(stdN s[pos].toNat).toArray⟩] 56)) (by omega)
          have hB3 := HB2.out.alloc (.cells #[.string ⟨(stdN s[pos].toNat).toArray⟩] 56)
          have hI3 : (wi.alloc (.cells #[.string ⟨(stdN s[pos].toNat).toArray⟩] 56)).heap[w1.heap.size + 1]? = some (.stringIter s (pos + 1)) := (Below.heap_alloc wi _ _ (by omega)).trans HI2.out
          have hs3 : wi.heap.size < (wi.alloc (.cells #[.string ⟨(stdN s[pos].toNat).toArray⟩] 56)).heap.size := by simp
          have HE3 := Lib.hid hE3
          have HB3 := Lib.hid hB3
          have HI3 := Lib.hid hI3
          have HS3 := Lib.hid hs3
          have HSG := Lib.hid hsg
          have hps : pos ≤ s.size := by omega
          clear hE3 hB3 hI3 hs3 hsg hrd HB2 HI2 hfp
          go_wp2_with (at_lookup; refine wpList_look_ent _ rfl _ _ rfl w.heap.size rfl HE2.out s[pos].toNat hdl rfl ?_)
          by_cases h0 : Es.hit ((lb s).drop pos) = 0
          · have HStop := Lib.hid (back_stop hfp' hp HC.out HInv.out HSG.out h0)
            have H0 : Hid (Es.hit (lb (s.extract pos s.size)) = 0) := Lib.hid (by rw [lb_from]; exact h0)
            clear h0
            refine (sign_none w.heap.size (s.extract pos s.size) _ HE3.out H0.out).mono ?_
            rintro e w2 ⟨rfl, b2⟩
            have c2 := hb3.trans (b2.mono (by have := HS3.out; omega))
            go_wp2_with fail
            go_ret2
            exact ⟨by rw [HStop.out]; exact rfl, c2⟩
          · obtain ⟨k1, k2, k3, k4⟩ := back_hit hfp' hp HC.out HInv.out h0
            obtain ⟨c, hcd⟩ : ∃ c, Es.hit ((lb s).drop pos) = c := ⟨_, rfl⟩
            rw [hcd] at k1 k2 k3 k4 h0
            have H0 : Hid (Es.hit (lb (s.extract pos s.size)) = c) := Lib.hid (by rw [lb_from]; exact hcd)
            have H00 := Lib.hid h0
            have K3 := Lib.hid k3
            have K4 := Lib.hid k4
            have hc128 := Es.sg_low c k1
            have hs3 := Es.std_ne_of c k1
            have hbs := bld_size (Es.std c)
            have hex := lb_ext s f pos
            have hxl : (s.extract f pos).size = pos - f := by rw [Lib.size_eq]; show (lb _).length = _; rw [hex, List.length_take, List.length_drop, lb_len]; omega
            have hlf : (acc ++ lb (s.extract f pos)).length ≤ pos := by rw [List.length_append, lb_len (s.extract f pos), hxl]; omega
            have HXL := Lib.hid hxl
            have HBS := Lib.hid hbs
            clear hcd h0 k1 k3 k4 hex hxl hbs
            refine (sign_some w.heap.size (s.extract pos s.size) _ HE3.out c H0.out H00.out).mono ?_
            rintro e w2 ⟨rfl, b2⟩
            have c2 := hb3.trans (b2.mono (by have := HS3.out; omega))
            have HB4 := Lib.hid (HB3.out.below b2)
            have HE4 := Lib.hid (HE3.out.below b2 HE3.out.lt)
            have HI4 := Lib.hid ((b2.block (w1.heap.size + 1) (by have := HS3.out; omega)).trans HI3.out)
            clear b2 hb3
            go_wp2_with fail
            refine (bld_write _ _ (s.extract f pos) _ HB4.out (by rw [HXL.out]; omega)).mono ?_
            rintro e w3 ⟨rfl, hB5, b3, k5⟩
            have c3 := c2.trans (b3.mono (by omega))
            have HB5 := Lib.hid hB5
            have HE5 := Lib.hid (HE4.out.below b3 hlt)
            have HI5 := Lib.hid (k5.iter HI4.out (by omega))
            clear hB5 b3 k5
            go_wp2_with fail
            refine (bld_rune c hc128 _ _ _ HB5.out (by omega)).mono ?_
            rintro e w4 ⟨⟨v, rfl⟩, hB6, b4, k6⟩
            have HI6 := Lib.hid (k6.iter HI5.out (by omega))
            have HR : BackAt w s w1.heap.size (pos + (Es.std c).length) (pos + 1) (acc ++ lb (s.extract f pos) ++ [c]) w4 :=
              ⟨k2, by omega, fun j h1 h2 => by omega, fun j h1 h2 => K3.out j (by omega) h2, K4.out, by rw [List.length_append]; simp; omega, hB6, HI6.out, HE5.out.below b4 hlt, c3.trans (b4.mono (by omega))⟩
            have HRH := Lib.hid HR
            have hbs := HBS.out
            clear HR hB6 b4 k6
            go_wp2_with fail
            go_roundw
            case rel => exact ⟨pos + (Es.std c).length, pos + 1, _, by go_num, HRH.out⟩
            case measure =>
              rw [HPos.out]
              simp only [World.iterPos, HI6.out]
              omega
        · have HCN := Lib.hid (hcn f HC.out)
          clear hcn hfp
          go_wp2_with (at_lookup; refine wpList_look_ent _ rfl _ _ rfl w.heap.size rfl HE2.out r hdl rfl ?_)
          go_roundw
          case rel => exact ⟨f, pos + d, acc, rfl, hf, hd2, HCN.out, fun j h1 h2 => by omega, HInv.out, hlen, HB2.out.alloc _, (Below.heap_alloc wi _ _ (by omega)).trans HI2.out, HE2.out.below ((Below.refl _ _).alloc (Nat.le_refl _) _) (by omega), hb2.alloc (by omega) _⟩
          case measure =>
            have h1 : (wi.alloc (.cells #[.string ⟨(stdN r).toArray⟩] 56)).iterPos (w1.heap.size + 1) = pos + d := by
              simp only [World.iterPos, (Below.heap_alloc wi _ _ (by omega)).trans HI2.out]
            rw [HPos.out, h1]
            omega
    · obtain rfl : pos = s.size := by omega
      have hnx : ∀ ty, (Instr.next (.pointer (some ⟨w1.heap.size + 1, 0, none⟩)) true ty).run Tryd.prog wr = _ := fun ty => Lib.run_next_end_at wr (w1.heap.size + 1) s s.size ty hit hp
      have HG := Lib.hid (back_end hf HC.out HInv.out)
      have hex := lb_ext s f s.size
      have hxl : (s.extract f s.size).size ≤ s.size := by rw [Lib.size_eq]; show (lb _).length ≤ _; rw [hex, List.length_take]; omega
      clear hex
      go_wp2_with fail
      refine (bld_write _ _ (s.extract f s.size) _ hB (by omega)).mono ?_
      rintro e w2 ⟨rfl, hB2, b2, _⟩
      have c2 := hb.trans (b2.mono (by omega))
      have HB2 := Lib.hid hB2
      clear hB hB2
      go_wp2_with fail
      refine (bld_string _ _ _ HB2.out).mono ?_
      rintro e w3 ⟨rfl, _, b3, _⟩
      have c3 := c2.trans (b3.mono (by omega))
      go_wp2_with fail
      go_ret2
      exact ⟨by rw [HG.out]; exact rfl, c3⟩
end Go.Proofs.YtlgodkjbilkloaaDoor
