/-
  fill.Fill, by contract.
-/
import Derived.Test.YtidccanfjcanoaaGreatDoorFilB
import Derived.Test.YtidccanfjcanoaaGreatDoorWordsX
import Derived.Maps.AppendAt
namespace Go.Proofs.YtidccanfjcanoaaGreatDoor
open Go.RowKit Go.Shelf
set_option linter.unusedVariables false
attribute [local go_sem] Oper.semAt_some
attribute [local go_sem ↓] wideAsked
attribute [local go_sem] wideDepth wideRound wideFn

theorem wt_wds : ∀ (l cur : List UInt8), wt (Pl.wds cur l) ≤ cur.length + l.length + 1
  | [], cur => by
    rw [Pl.wds_nil]
    split
    · have : wt [] = 0 := rfl
      omega
    · rw [wt_cons]; have : wt [] = 0 := rfl
      simp; omega
  | c :: l, cur => by
    have h1 := wt_wds l []
    have h2 := wt_wds l (cur ++ [c])
    rw [List.length_append] at h2
    rw [Pl.wds_cons]
    simp only [List.length_cons, List.length_nil] at *
    split
    · split
      · omega
      · rw [wt_cons]; omega
    · omega
theorem wt_words (l : List UInt8) : wt (Pl.words l) ≤ l.length + 1 := by have := wt_wds l []; simpa [Pl.words] using this
theorem fl_len (wd : Nat) : ∀ (ws cur : List (List UInt8)), (Fi.fl wd cur ws).length ≤ ws.length + 1
  | [], cur => by rw [Fi.fl_nil]; split <;> simp
  | w :: ws, cur => by
    have h1 := fl_len wd ws [w]
    have h2 := fl_len wd ws (cur ++ [w])
    rw [Fi.fl_cons]
    split
    · simp only [List.length_cons]; omega
    · simp only [List.length_cons]; omega
theorem lines_len (wd : Nat) (ws : List (List UInt8)) : (Fi.linesOf wd ws).length ≤ ws.length + 1 := by
  unfold Fi.linesOf; rw [List.length_map]; exact fl_len wd ws []

set_option maxHeartbeats 400000 in
theorem filled_any (v : Value) (x : Int) (a : Option Addr) (n c : Nat) (hv : v = .slice a n c) (w : World) :
    Calls Tryz.prog 84 #[v, .int .i64 x] w fun e w' =>
      e = .returned (.func (.func 125) #[] #[.pointer (some ⟨w.heap.size, 0, none⟩), .pointer (some ⟨w.heap.size + 1, 0, none⟩)]) ∧
      w' = (w.alloc (.cells #[v] 23)).alloc (.cells #[.int .i64 x] 3) := by
  subst hv
  go_enter Tryz.func84, Tryz.ntmps84
  go_wp2
  go_ret
  exact ⟨rfl, rfl⟩

theorem filled_tells (n1 Bw Bi wd M N : Nat) (w : World) (hwd : wd ≤ 200) (hM : M ≤ 1099511627776) (ws : List ByteArray) (A : Option Addr) (nw cw : Nat) (hnw : ws.length = nw) (hwt : wt (ws.map lb) ≤ M) (hN : (Fi.linesOf wd (ws.map lb)).length = N)
    (hBw : Boxed w Bw 23 (.slice A nw cw)) (hBi : Boxed w Bi 3 (.int .i64 (wd : Int))) (hn1 : n1 ≤ w.heap.size) (hw1 : n1 ≤ Bw) (hi1 : n1 ≤ Bi)
    (hrow : w.ownsRow n1 9 1 (.slice A nw cw) nw (ws.map Value.string)) :
    SeqTells Tryz.prog 125 #[.pointer (some ⟨Bw, 0, none⟩), .pointer (some ⟨Bi, 0, none⟩)] Value.string n1 (fun xs : List ByteArray => xs.map lb = Fi.linesOf wd (ws.map lb)) N w := by
  intro l J W hW hl1 hl2 hJ hlt hY h0
  refine filled1_any n1 w.heap.size l N wd M Bw Bi J W ⟨by have := hW.size; omega, hl2, hJ, hlt, hY⟩ hl1 hwd hM ws A nw cw hnw hwt hN ((hW.block Bw hBw.lt).trans hBw) ((hW.block Bi hBi.lt).trans hBi) ⟨hw1, hBw.lt⟩ ⟨hi1, hBi.lt⟩ ?_ h0
  intro hne
  have hpos : 0 < nw := by rw [← hnw]; exact List.length_pos_iff.2 hne
  obtain ⟨g, cap, h1, h2, h3⟩ := hrow.form hpos
  injection h1 with h4 _ h5
  refine ⟨g, 0, h4, h2, h3, fun j hj => ?_⟩
  rw [hW.cell (p := ⟨g, 0 + j, none⟩) h3, Nat.zero_add]
  subst h4
  rw [hrow.cellAt j (by omega)]
  simp [List.getD_eq_getElem?_getD, List.getElem?_eq_getElem hj]

/-- What Fill's body gathers. -/
def FillI (w : World) (pre : List ByteArray) (o : Option Nat) (W : World) : Prop :=
  (∃ v, Boxed W w.heap.size 23 v ∧ W.ownsRow w.heap.size 9 1 v pre.length (pre.map Value.string) ∧ o = v.ownBlock) ∧ Below w.heap.size w W
theorem fillI_abides (w : World) (B : Nat) (hB : w.heap.size < B) : AbidesR B (FillI w) := by
  rintro pre o A W row ⟨⟨v, h1, h2, rfl⟩, h3⟩ hg hr
  refine ⟨⟨v, h1.kept hg (fun e => by have := (hr _ e.symm).1; omega), h2.kept hg ?_, rfl⟩, h3.grown hg h3.size (fun k e => by have := (hr k e).1; omega)⟩
  cases row with
  | none =>
    cases hv : v.ownBlock with
    | none => exact .inl rfl
    | some g => exact .inr (by simp)
  | some r => exact .inr (fun e => (hr r rfl).2 e.symm)
theorem fillI_row (w : World) (pre : List ByteArray) (o : Option Nat) (A : World) (h : FillI w pre o A) : ∀ r, o = some r → ∃ c : Obj, A.heap[r]? = some c ∧ c.isCells = true := by
  obtain ⟨⟨v, h1, h2, rfl⟩, h3⟩ := h
  intro r e
  rcases h2.2 with ⟨rfl, _⟩ | ⟨g, cap, cur, rfl, _, hg, _⟩
  · cases e
  · obtain rfl : g = r := by simpa [Value.ownBlock] using e
    exact ⟨_, hg, rfl⟩

theorem fill_round {w W w3 : World} {v : Value} {x : ByteArray} {gg cap : Nat} {pre : List ByteArray} (hv : Boxed W w.heap.size 23 v) (hrow : W.ownsRow w.heap.size 9 1 v pre.length (pre.map Value.string)) (hB : Below w.heap.size w W)
    (hv3 : Boxed w3 w.heap.size 23 v) (hown : w3.ownsRow w.heap.size 9 1 (.slice (some ⟨gg, 0, none⟩) (pre.length + 1) cap) (pre.length + 1) (pre.map Value.string ++ [.string x])) (hgrow : (W.alloc (.cells #[.string x] 9)).grownBy w3 v.ownBlock) (hat : v.ownBlock = some gg ∨ gg = W.heap.size + 1) :
    ∃ o', FillI w (pre ++ [x]) o' (w3.setCell ⟨w.heap.size, 0, none⟩ (.slice (some ⟨gg, 0, none⟩) (pre.length + 1) cap)) ∧ KeepsR (w.heap.size + 1) none v.ownBlock o' W (w3.setCell ⟨w.heap.size, 0, none⟩ (.slice (some ⟨gg, 0, none⟩) (pre.length + 1) cap)) := by
  have g1 := grownBy_setCell' w3 w.heap.size (.slice (some ⟨gg, 0, none⟩) (pre.length + 1) cap)
  have hs : W.heap.size + 1 ≤ w3.heap.size := by have := hgrow.size; simpa using this
  refine ⟨some gg, ⟨⟨_, hv3.set _, ?_, rfl⟩, ?_⟩, ?_, fun k h1 h2 h3 _ => ?_, fun r e => ?_⟩
  · rw [List.map_append, List.length_append]
    exact hown.kept g1 (.inr (hv3.not_row (by decide) hown).symm)
  · exact (((hB.alloc hB.size _).grown hgrow (by have := hB.size; simp; omega) (fun k e => (hrow.lt k e).1)).setCell (p := ⟨w.heap.size, 0, none⟩) (Nat.le_refl _) _)
  · simp [World.setCell]; omega
  · exact (Below.heap_setCell _ _ _ k (by show k ≠ w.heap.size; omega)).trans ((hgrow.block k (by simp; omega) h3).trans (Below.heap_alloc W _ k h2))
  · injection e with e
    subst e
    rcases hat with h | h
    · exact .inl h
    · exact .inr (by omega)

set_option maxRecDepth 100000 in
set_option maxHeartbeats 4000000 in
theorem fill_yes (s : ByteArray) (hs : s.size ≤ 1000000) (wd : Nat) (h1 : 1 ≤ wd) (h2 : wd ≤ 200) (w : World) :
    Calls Tryz.prog 21 #[.string s, .int .i64 (wd : Int)] w fun e w' => ∃ (v : Value) (xs : List ByteArray), e = .returned (.tuple #[v, .int .i64 0]) ∧ w'.ownsRow w.heap.size 9 1 v xs.length (xs.map Value.string) ∧ xs.map lb = Fi.linesOf wd (Pl.words (lb s)) ∧ Below w.heap.size w w' := by
  obtain ⟨i0, hi, hz0, hz1, hz2⟩ := info_parts Tryz.info9
  have d1 : decide ((wd : Int) < 1) = false := by simp; omega
  have d2 : decide ((200 : Int) < (wd : Int)) = false := by simp; omega
  refine (callsIn_wide (n := 3)).1 ?_
  refine callsIn_of_wp_marks Tryz.func21 rfl trivial ?_ rfl
  simp only [Tryz.ntmps21, List.size_toArray, List.length_cons, List.length_nil, Nat.reduceAdd, Nat.reduceSub, Array.replicate_succ, Array.replicate_zero, List.push_toArray, List.append_toArray, List.nil_append, List.cons_append]
  have bO := Boxed.new w 23 (.slice none 0 0)
  have HO := Lib.hid bO
  clear bO
  gi_wp2_with fail
  refine (callsIn_wide.2 (words_any s (by omega) _)).mono ?_
  rintro e w1 ⟨v, ws, rfl, hown, hws, hlen, hb1⟩
  have hc1 : Below w.heap.size w w1 := ((Below.refl _ w).alloc (Nat.le_refl _) _).trans (hb1.mono (by simp))
  have bO1 : Boxed w1 w.heap.size 23 (.slice none 0 0) := (hb1.block _ HO.out.lt).trans HO.out
  have hsz1 : w.heap.size + 1 ≤ w1.heap.size := by have := hb1.size; simpa using this
  obtain ⟨a, c, hv⟩ := lenOf hown
  subst hv
  have hown1 : w1.ownsRow (w.heap.size + 1) 9 1 (.slice a ws.length c) ws.length (ws.map Value.string) := by simpa using hown
  have HOwn := Lib.hid hown1
  have HWs := Lib.hid hws
  have HC1 := Lib.hid hc1
  have HO1 := Lib.hid bO1
  clear hown hown1 hws hc1 bO1 hb1 HO
  gi_wp2_with fail
  refine (callsIn_wide.2 (filled_any _ (wd : Int) a ws.length c rfl w1)).mono ?_
  rintro e w2 ⟨rfl, hw2⟩
  have bW : Boxed w2 w1.heap.size 23 (.slice a ws.length c) := by rw [hw2]; exact (Boxed.new w1 _ _).alloc _
  have bI : Boxed w2 (w1.heap.size + 1) 3 (.int .i64 (wd : Int)) := by
    rw [hw2]
    have := Boxed.new (w1.alloc (.cells #[.slice a ws.length c] 23)) 3 (.int .i64 (wd : Int))
    rwa [World.size_alloc] at this
  have hb2 : Below w1.heap.size w1 w2 := by rw [hw2]; exact ((Below.refl _ w1).alloc (Nat.le_refl _) _).alloc (by simp) _
  have hsz2 : w2.heap.size = w1.heap.size + 2 := by rw [hw2]; simp
  have hown2 : w2.ownsRow (w.heap.size + 1) 9 1 (.slice a ws.length c) ws.length (ws.map Value.string) := own_same HOwn.out (fun g hg => hb2.block g (HOwn.out.lt g hg).2)
  have bO2 : Boxed w2 w.heap.size 23 (.slice none 0 0) := (hb2.block _ (by omega)).trans HO1.out
  have hc2 : Below w.heap.size w w2 := HC1.out.trans (hb2.mono (by omega))
  have hwt : wt (ws.map lb) ≤ 1000001 := by
    rw [HWs.out]
    have := wt_words (lb s)
    rw [sg_len] at this
    omega
  have hT : (Fi.linesOf wd (ws.map lb)).length ≤ 1000002 := by
    have h3 := lines_len wd (ws.map lb)
    have h4 := length_wt (ws.map lb)
    omega
  have HT := Lib.hid hT
  have hseq := filled_tells (w.heap.size + 1) w1.heap.size (w1.heap.size + 1) wd 1000001 _ w2 h2 (by omega) ws a ws.length c rfl hwt rfl bW bI (by omega) (by omega) (by omega) hown2
  have hI0 : FillI w [] none w2 := ⟨⟨_, bO2, World.ownsRow_nil _ _ _ _, rfl⟩, hc2⟩
  clear hw2 hwt hT bW bI hown2 bO2 hc2 hb2
  have HSeq := Lib.hid hseq
  have HI0 := Lib.hid hI0
  clear hseq hI0
  gi_wp2_with fail
  refine wpIn_rangeTells (gf := 125) (lb := #[.pointer (some ⟨w1.heap.size, 0, none⟩), .pointer (some ⟨w1.heap.size + 1, 0, none⟩)]) rfl (enters_of Tryz.func125 (by kernel_rfl) rfl) HSeq.out (by omega) rfl
    (FillI w) (fillI_abides w _ (by omega)) (fillI_row w) HI0.out
    (fun x => { tmps := #[.string s, .int .i64 (wd : Int), undef, undef, .slice none 0 0, .int .i64 0, .pointer (some ⟨w.heap.size, 0, none⟩), .string x, .int .i64 (wd : Int), .bool false, .bool false, .int .i64 (wd : Int), .bool false, .bool false, .string s, .slice a ws.length c, .int .i64 (wd : Int), .func (.func 125) #[] #[.pointer (some ⟨w1.heap.size, 0, none⟩), .pointer (some ⟨w1.heap.size + 1, 0, none⟩)], .string x, undef, undef, undef, undef, undef], defers := [] }) ?assign ?body ?done
  case assign =>
    intro l m x W K hK
    gi_wp2
    exact hK
  case body =>
    rintro l m pre o x W ⟨⟨v, hv, hrow, rfl⟩, hB⟩ hlt hsz
    have hc := hv.cell
    have hpl : pre.length < 1000002 := Nat.lt_of_lt_of_le hlt HT.out
    have HB := Lib.hid hB
    have HV := Lib.hid hv
    have HR := Lib.hid hrow
    have HN := Lib.hid (hv.not_row (by decide) hrow)
    clear hv hrow hB
    gi_wp2_with (gi_at_builtin; refine wpListIn_append_lies _ rfl _ _ 23 rfl w.heap.size 9 i0 (.string ByteArray.empty) 1 16 Tryz.underlying23 hi hz0 hz1 hz2 rfl (by decide) _ _ _ rfl (HR.out.alloc _) ⟨W.heap.size, 0, none⟩ 1 1 [.string x] rfl rfl (cell_one_new _ _ _) (by simp [Value.oneCell']) (by decide) (by unfold maxLen; omega) (by omega) (by have := HB.out.size; simp; omega) (W.heap.size + 1) (by simp) ?_; intro gg cap w3 hown' hgrow hat hlt3; have hv3 := Boxed.kept (HV.out.alloc (.cells #[.string x] 9)) hgrow HN.out; have hc3 := hv3.cell; have hf3 := hv3.frozen; have HV3 := Lib.hid hv3; have HO3 := Lib.hid hown'; have HG3 := Lib.hid hgrow; have HA3 := Lib.hid hat; clear hv3 hown' hgrow hat)
    exact fill_round HV.out HR.out HB.out HV3.out HO3.out HG3.out HA3.out
  case done =>
    rintro D xs o W hD hxs ⟨⟨v, hv, hrow, rfl⟩, hB⟩ hK
    have hc := hv.cell
    gi_wp2
    refine ⟨by simp, .inl ⟨_, _, rfl, run_takeDeferred hK, ?_⟩⟩
    refine ⟨_, results_tmp2 rfl _ _ _, v, xs, rfl, ownsRow_putObj hrow _ hK rfl, by rw [hxs, HWs.out], hB.trans (belowK_b (w := w) (Nat.le_refl _) W D _ _ (by omega) hK rfl rfl)⟩

set_option maxHeartbeats 1000000 in
set_option maxRecDepth 100000 in
theorem fill_no (s : ByteArray) (wd : Int) (h : wd < 1 ∨ 200 < wd) (w : World) :
    Calls Tryz.prog 21 #[.string s, .int .i64 wd] w fun e w' => e = .returned (.tuple #[.slice none 0 0, .int .i64 1]) ∧ Below w.heap.size w w' := by
  rcases h with h | h
  · go_enter Tryz.func21, Tryz.ntmps21
    go_wp2
    go_ret2
    exact ⟨rfl, Below.refl _ _⟩
  · have d1 : decide (wd < 1) = false := by simp; omega
    go_enter Tryz.func21, Tryz.ntmps21
    go_wp2
    go_ret2
    exact ⟨rfl, Below.refl _ _⟩
end Go.Proofs.YtidccanfjcanoaaGreatDoor
