/-
  FillAgain: the walk.
-/
import Derived.Test.YtlgodkjbilkloaaFWide
namespace Go.Proofs.Ytlgodkjbilkloaa
open Go.RowKit
set_option linter.unusedVariables false

/-! ### plain -/
theorem fl_words (wd : Nat) (W : List (List UInt8)) (h : ∀ w ∈ W, Pl.isWord w) : ∀ L ∈ Fi.fl wd [] W, L ≠ [] ∧ (∀ w ∈ L, Pl.isWord w) ∧ (1 < L.length → Fi.sigs (Fi.glue L) ≤ wd) := fun L hL =>
  ⟨Fi.fl_ne wd W [] L hL, fun w hw => h w (by
    have h2 := Fi.fl_flatten wd W []
    rw [List.nil_append] at h2
    rw [← h2]
    exact List.mem_flatten.2 ⟨L, hL, hw⟩), Fi.fl_fit wd W [] (by simp) L hL⟩
theorem line_at {wd : Nat} {W : List (List UInt8)} {xs : List ByteArray} (hx : xs.map lb = Fi.linesOf wd W) (i : Nat) (hi : i < xs.length) : ∃ L, (Fi.fl wd [] W)[i]? = some L ∧ lb (xs.getD i ByteArray.empty) = Fi.glue L := by
  have h1 : (xs.map lb)[i]? = some (lb (xs.getD i ByteArray.empty)) := by
    rw [List.getElem?_map, List.getElem?_eq_getElem hi, getD_lt xs i hi]; rfl
  rw [hx] at h1
  unfold Fi.linesOf at h1
  rw [List.getElem?_map] at h1
  cases hL : (Fi.fl wd [] W)[i]? with
  | none => rw [hL] at h1; cases h1
  | some L =>
    rw [hL] at h1
    simp only [Option.map_some, Option.some.injEq] at h1
    exact ⟨L, rfl, h1.symm⟩
theorem line_again {wd : Nat} {s : ByteArray} {xs : List ByteArray} (hx : xs.map lb = Fi.linesOf wd (Pl.words (lb s))) (i : Nat) (hi : i < xs.length) :
    Fi.linesOf wd (Pl.words (lb (xs.getD i ByteArray.empty))) = ([xs.getD i ByteArray.empty] : List ByteArray).map lb := by
  obtain ⟨L, h1, h2⟩ := line_at hx i hi
  obtain ⟨h3, h4, h5⟩ := fl_words wd _ (Pl.words_isWord (lb s)) L (List.mem_of_getElem? h1)
  rw [h2, Fi.words_glue L h4]
  unfold Fi.linesOf
  rw [Fi.fl_one wd L [] (by simpa using h3) (by simpa using h5), List.nil_append]
  show [Fi.glue L] = [lb (xs.getD i ByteArray.empty)]
  rw [h2]
def allL (xs : List ByteArray) : Nat → List UInt8
  | 0 => []
  | k + 1 => allL xs k ++ 10 :: lb (xs.getD k ByteArray.empty)
theorem allL_take (xs : List ByteArray) : ∀ k, k ≤ xs.length → allL xs k = ((xs.take k).map (fun x => 10 :: lb x)).flatten
  | 0, _ => by simp [allL]
  | k + 1, h => by
    rw [allL, allL_take xs k (by omega), List.take_succ_eq_append_getElem (by omega), getD_lt xs k (by omega), List.map_append, List.flatten_append]
    simp only [List.map_cons, List.map_nil, List.flatten_cons, List.flatten_nil, List.append_nil]
theorem allL_mono (xs : List ByteArray) : ∀ (d k : Nat), (allL xs k).length ≤ (allL xs (k + d)).length
  | 0, k => Nat.le_refl _
  | d + 1, k => Nat.le_trans (allL_mono xs d k) (by show _ ≤ (allL xs (k + d) ++ _).length; rw [List.length_append]; omega)
theorem lines_size : ∀ (F : List (List (List UInt8))), ((F.map (fun L => 10 :: Fi.glue L)).flatten).length ≤ F.length + wt F.flatten
  | [] => by simp [wt]
  | L :: F => by
    have h1 := lines_size F
    have h2 := glue_wt L
    rw [List.map_cons, List.flatten_cons, List.length_append, List.flatten_cons, wt_append]
    simp only [List.length_cons]
    omega
theorem allL_all {wd : Nat} {s : ByteArray} {xs : List ByteArray} (hx : xs.map lb = Fi.linesOf wd (Pl.words (lb s))) : allL xs xs.length = ((Fi.fl wd [] (Pl.words (lb s))).map (fun L => 10 :: Fi.glue L)).flatten := by
  rw [allL_take xs _ (Nat.le_refl _), List.take_length]
  have : xs.map (fun x => 10 :: lb x) = (xs.map lb).map (fun l => 10 :: l) := by rw [List.map_map]; rfl
  rw [this, hx]
  unfold Fi.linesOf
  rw [List.map_map]; rfl
theorem allL_words {wd : Nat} {s : ByteArray} {xs : List ByteArray} (hx : xs.map lb = Fi.linesOf wd (Pl.words (lb s))) : Pl.words (allL xs xs.length) = Pl.words (lb s) := by
  rw [allL_all hx, Fi.words_lines _ (fun L hL => ⟨(fl_words wd _ (Pl.words_isWord (lb s)) L hL).1, (fl_words wd _ (Pl.words_isWord (lb s)) L hL).2.1⟩)]
  have := Fi.fl_flatten wd (Pl.words (lb s)) []
  simpa using this
theorem allL_size {wd : Nat} {s : ByteArray} {xs : List ByteArray} (hx : xs.map lb = Fi.linesOf wd (Pl.words (lb s))) (k : Nat) (hk : k ≤ xs.length) : (allL xs k).length ≤ 2 * s.size + 3 := by
  have h1 := allL_mono xs (xs.length - k) k
  rw [show k + (xs.length - k) = xs.length by omega, allL_all hx] at h1
  have h2 := lines_size (Fi.fl wd [] (Pl.words (lb s)))
  have h3 := Fi.fl_flatten wd (Pl.words (lb s)) []
  rw [List.nil_append] at h3
  rw [h3] at h2
  have h4 := wt_words (lb s)
  have h5 := fl_len wd (Pl.words (lb s)) []
  have h6 := length_wt (Pl.words (lb s))
  rw [sg_len] at h4
  omega
theorem line_size {wd : Nat} {s : ByteArray} {xs : List ByteArray} (hx : xs.map lb = Fi.linesOf wd (Pl.words (lb s))) (i : Nat) (hi : i < xs.length) : (xs.getD i ByteArray.empty).size ≤ 2 * s.size + 3 := by
  have h1 := allL_size hx (i + 1) (by omega)
  rw [allL, List.length_append, List.length_cons, sg_len] at h1
  omega

theorem own_at {w : World} {B e n : Nat} {a : Option Addr} {c : Nat} {xs : List ByteArray} (h : w.ownsRow B e 1 (.slice a n c) n (xs.map Value.string)) (k : Nat) (hk : k < n) : ∃ g, a = some ⟨g, 0, none⟩ ∧ w.cell? ⟨g, k, none⟩ = some (.string (xs.getD k ByteArray.empty)) := by
  obtain ⟨g, cap, h1, _, _⟩ := h.form (by omega)
  injection h1 with h2 _ h3
  refine ⟨g, h2, ?_⟩
  subst h2
  have hn : xs.length = n := by have := h.1; simpa using this
  rw [h.cellAt k (by omega)]
  simp [List.getD_eq_getElem?_getD, List.getElem?_eq_getElem (show k < xs.length by omega)]

set_option maxHeartbeats 8000000 in
set_option maxRecDepth 100000 in
theorem fillAgain_walk (s : ByteArray) (a : Int) (hs : s.size ≤ 140737488351232) (ha : (Lit.int .u8 a).wf = true) (w : World) :
    Calls Try.prog 4 #[.string s, .int .u8 a] w fun e w' => e = .returned (.bool true) ∧ Below w.heap.size w w' := by
  obtain ⟨n, rfl, hn⟩ := u8_nat ha
  clear ha
  obtain ⟨wd, hwd, hw1, hw2⟩ : ∃ wd : Nat, 1 + (n : Int) % 200 = (wd : Int) ∧ 1 ≤ wd ∧ wd ≤ 200 := ⟨1 + n % 200, by omega, by omega, by omega⟩
  by_cases hz : s.size ≤ 2000
  · have hzi : decide ((2000 : Int) < (s.size : Int)) = false := by simp; omega
    go_enter Try.func4, Try.ntmps4
    go_wp2_with fail
    refine (alive_any w).mono ?_
    rintro e w1 ⟨rfl, b1⟩
    have B1 := Lib.hid b1
    clear b1
    go_wp2_with fail
    refine (fill_ok s (by omega) wd hw1 hw2 w1).mono ?_
    rintro e w2 ⟨xs, a1, c1, rfl, own2, hx, hl1, b2⟩
    have HX := Lib.hid hx
    have B2 := Lib.hid (B1.out.trans (b2.mono B1.out.size))
    have O2 := Lib.hid own2
    clear hx b2 own2 hwd
    go_wp2_with fail
    go_loopw [8, 9] (fun t i wr => ∃ (k : Nat) (y : ByteArray), k ≤ xs.length ∧ i = .int .i64 k ∧ t = .string y ∧ lb y = allL xs k ∧ wr.ownsRow w1.heap.size 9 1 (.slice a1 xs.length c1) xs.length (xs.map Value.string) ∧ Below w.heap.size w wr) (fun _ i _ => xs.length - (intOf i).toNat)
    case atStart => exact ⟨0, _, Nat.zero_le _, rfl, rfl, rfl, O2.out, B2.out⟩
    case round =>
      obtain ⟨k, y, hk, rfl, rfl, hy, hown, hb⟩ := hrel
      have HY := Lib.hid hy
      have HO := Lib.hid hown
      have HB := Lib.hid hb
      have hys : y.size ≤ 2 * s.size + 3 := by
        have := allL_size HX.out k hk
        rw [← hy, sg_len] at this
        exact this
      clear hy hown hb
      by_cases hlt : k < xs.length
      · obtain ⟨g, rfl, hc⟩ := own_at HO.out k hlt
        have hus := line_size HX.out k hlt
        have HA := Lib.hid (line_again HX.out k hlt)
        have HL : Hid (allL xs (k + 1) = allL xs k ++ 10 :: lb (xs.getD k ByteArray.empty)) := Lib.hid rfl
        have hki : (k : Int) < (xs.length : Int) := by omega
        generalize xs.getD k ByteArray.empty = u at *
        go_wp2_with fail
        refine (fill_is u (by omega) wd hw1 hw2 [u] HA.out wr).mono ?_
        rintro e w3 ⟨a3, c3, rfl, own3, b3⟩
        obtain ⟨g3, rfl, hc3⟩ := own_at own3 0 (by simp)
        have hown3 := own_below HO.out b3
        obtain ⟨g', hg', hc'⟩ := own_at hown3 k hlt
        obtain rfl : g = g' := by injection hg' with hg'; injection hg'
        have hcu : w3.cell? ⟨g, k, none⟩ = some (.string u) := by
          rw [b3.cell (p := ⟨g, k, none⟩) (HO.out.lt g rfl).2]; exact hc
        have HO3 := Lib.hid hown3
        have HB3 := Lib.hid (HB.out.trans (b3.mono HB.out.size))
        have hcz : w3.cell? ⟨g3, 0, none⟩ = some (.string u) := hc3
        have hbn' : (u.toList != u.toList) = false := by simp
        clear hown3 hc' hg' b3 own3 hc hc3
        go_wp2_with fail
        go_quiet (fail)
        go_wp2_with fail
        go_roundw
        case rel =>
          refine ⟨k + 1, _, by omega, by go_num, rfl, ?_, ?_, ?_⟩
          · rw [HL.out, ← HY.out]
            simp [lb]
          · exact HO3.out
          · exact below_drewN HB3.out _
        case measure => simp [intOf]; omega
      · obtain rfl : k = xs.length := by omega
        have HW := Lib.hid (allL_words HX.out)
        have HF : Hid (Fi.linesOf wd (Pl.words (lb y)) = xs.map lb) := Lib.hid (by rw [HY.out, HW.out]; exact HX.out.symm)
        go_wp2_with fail
        refine (fill_is y (by omega) wd hw1 hw2 xs HF.out wr).mono ?_
        rintro e w3 ⟨a3, c3, rfl, own3, b3⟩
        have O3 := Lib.hid own3
        have HO3 := Lib.hid (own_below HO.out b3)
        have HB3 := Lib.hid (HB.out.trans (b3.mono HB.out.size))
        clear own3 b3
        go_wp2_with fail
        refine (sameTexts_any a3 a1 xs.length xs.length c3 c1 xs xs w3 rfl rfl (by omega) (by omega) (TR.of_own O3.out).2 (TR.of_own HO3.out).2).mono ?_
        rintro e w4 ⟨rfl, q, hq⟩
        have b4 : Below w.heap.size w w4 := by rw [← hq]; exact below_drewN HB3.out q
        have B4 := Lib.hid b4
        clear hq b4
        go_wp2_with fail
        go_ret
        exact ⟨ret_bool (by simp), B4.out⟩
  · have hzi : (2000 : Int) < (s.size : Int) := by omega
    go_enter Try.func4, Try.ntmps4
    go_wp2_with fail
    refine (alive_any w).mono ?_
    rintro e w1 ⟨rfl, b1⟩
    have B1 := Lib.hid b1
    clear b1
    go_wp2_with fail
    refine (alive_any w1).mono ?_
    rintro e w2 ⟨rfl, b2⟩
    have B2 := Lib.hid (B1.out.trans (b2.mono B1.out.size))
    clear b2
    go_wp2_with fail
    go_ret
    exact ⟨rfl, B2.out⟩
end Go.Proofs.Ytlgodkjbilkloaa
