/-
  fill.filled: the iterator over the lines, by contract.
-/
import Derived.Test.YtidccanfjcanoaaGreatDoorFilA
import Derived.RegionTactic
namespace Go.Proofs.YtidccanfjcanoaaGreatDoor
open Go.RowKit Go.Shelf
set_option linter.unusedVariables false

theorem lenOf {w : World} {B e sz n : Nat} {v : Value} {xs : List Value} (h : w.ownsRow B e sz v n xs) : ∃ a c, v = .slice a n c := by
  rcases h.2 with ⟨rfl, rfl⟩ | ⟨g, cap, cur, rfl, _⟩
  · exact ⟨_, _, rfl⟩
  · exact ⟨_, _, rfl⟩
theorem cell_same {A A' : World} {b o : Nat} (h : A'.heap[b]? = A.heap[b]?) : A'.cell? ⟨b, o, none⟩ = A.cell? ⟨b, o, none⟩ := by
  simp only [World.cell?, h]
set_option maxHeartbeats 400000 in
theorem tell_none (b0 b1 b2 : Nat) (a : Option Addr) (c : Nat) (A : World) (h : Boxed A b1 23 (.slice a 0 c)) :
    Calls Tryz.prog 126 #[.pointer (some ⟨b1, 0, none⟩), .pointer (some ⟨b2, 0, none⟩), .pointer (some ⟨b0, 0, none⟩)] A fun e A' => e = .returned (.bool true) ∧ A = A' := by
  have hc := h.cell
  go_enter Tryz.func126, Tryz.ntmps126
  go_wp2
  go_ret
  exact ⟨rfl, rfl⟩

/-- The iterator's memory, whatever 'wide' holds. -/
structure FilX (B l : Nat) (cur : List ByteArray) (lv : Value) (x : Int) (A : World) : Prop where
  yield : Boxed A B 47 (.func (.yield l) #[] #[])
  line : Boxed A (B + 1) 23 lv
  wide : Boxed A (B + 2) 3 (.int .i64 x)
  own : A.ownsRow B 9 1 lv cur.length (cur.map Value.string)
theorem FilS.x {B l : Nat} {cur : List ByteArray} {lv : Value} {A : World} (h : FilS B l cur lv A) : FilX B l cur lv ((Fi.sigs (Fi.glue (cur.map lb)) : Nat) : Int) A := ⟨h.yield, h.line, h.wide, h.own⟩
theorem FilX.setWide {B l : Nat} {cur : List ByteArray} {lv : Value} {x : Int} {A : World} (h : FilX B l cur lv x A) (y : Int) : FilX B l cur lv y (A.setCell ⟨B + 2, 0, none⟩ (.int .i64 y)) := by
  have k := grownBy_setCell' A (B + 2) (.int .i64 y)
  exact ⟨h.yield.kept k (by simp), h.line.kept k (by simp), h.wide.set _, h.own.kept k (.inr (h.wide.not_row (by decide) h.own).symm)⟩

/-- Where the iterator stands when k words have been looked at. -/
structure FilAt (W : World) (B n1 m0 l wd M : Nat) (ws : List ByteArray) (J : List ByteArray → Option Nat → World → Prop) (T : List (List UInt8)) (k : Nat) (pre cur : List ByteArray) (lv : Value) (o : Option Nat) (wr : World) : Prop where
  tot : pre.map lb ++ (Fi.fl wd (cur.map lb) ((ws.drop k).map lb)).map Fi.glue = T
  wt : wt (cur.map lb) + wt ((ws.drop k).map lb) ≤ M
  st : FilS B l cur lv wr
  j : J pre o wr
  sep : SepR B o lv
  size : B + 3 ≤ wr.heap.size
  old : ∀ k, n1 ≤ k → k < m0 → wr.heap[k]? = W.heap[k]?

/-- Behind a word's append and the two stores. -/
theorem line_put {W A A2 : World} {B n1 m0 l wd M N g cap k : Nat} {ws pre cur : List ByteArray} {J : List ByteArray → Option Nat → World → Prop} {T : List (List UInt8)} {lv : Value} {x y : Int} {o : Option Nat} {u : ByteArray}
    (hB : BodyR B n1 l N J) (hm0 : m0 ≤ l) (h : FilX B l cur lv x A) (hj : J pre o A) (hsep : SepR B o lv) (hsz : B + 3 ≤ A.heap.size) (hold : ∀ k, n1 ≤ k → k < m0 → A.heap[k]? = W.heap[k]?)
    (hown : A2.ownsRow B 9 1 (.slice (some ⟨g, 0, none⟩) (cur.length + 1) cap) (cur.length + 1) (cur.map Value.string ++ [.string u])) (hgrow : (A.alloc (.cells #[.string u] 9)).drew.grownBy A2 lv.ownBlock) (hat : lv.ownBlock = some g ∨ g = A.heap.size + 1)
    (hy : y = ((Fi.sigs (Fi.glue ((cur ++ [u]).map lb)) : Nat) : Int)) (htot : pre.map lb ++ (Fi.fl wd ((cur ++ [u]).map lb) ((ws.drop k).map lb)).map Fi.glue = T) (hwt : wt ((cur ++ [u]).map lb) + wt ((ws.drop k).map lb) ≤ M) :
    FilAt W B n1 m0 l wd M ws J T k pre (cur ++ [u]) (.slice (some ⟨g, 0, none⟩) (cur.length + 1) cap) o ((A2.setCell ⟨B + 1, 0, none⟩ (.slice (some ⟨g, 0, none⟩) (cur.length + 1) cap)).setCell ⟨B + 2, 0, none⟩ (.int .i64 y)) := by
  have hlB := hB.lB
  have ny := h.yield.not_row (by decide) h.own
  have nl := h.line.not_row (by decide) h.own
  have nw := h.wide.not_row (by decide) h.own
  have y2 := Boxed.kept (W := (A.alloc (.cells #[.string u] 9)).drew) (h.yield.alloc _) hgrow ny
  have l2 := Boxed.kept (W := (A.alloc (.cells #[.string u] 9)).drew) (h.line.alloc _) hgrow nl
  have w2 := Boxed.kept (W := (A.alloc (.cells #[.string u] 9)).drew) (h.wide.alloc _) hgrow nw
  have g1 := grownBy_setCell' A2 (B + 1) (.slice (some ⟨g, 0, none⟩) (cur.length + 1) cap)
  have g2 := grownBy_setCell' (A2.setCell ⟨B + 1, 0, none⟩ (.slice (some ⟨g, 0, none⟩) (cur.length + 1) cap)) (B + 2) (.int .i64 y)
  have hs2 : A.heap.size + 1 ≤ A2.heap.size := by have := hgrow.size; simp at this; omega
  have hj1 : J pre o (A.alloc (.cells #[.string u] 9)).drew := hB.below hj (((Below.refl _ A).alloc (Nat.le_refl _) _).drew)
  have hj2 : J pre o A2 := hB.ab pre o _ _ lv.ownBlock hj1 hgrow (fun r e => ⟨(h.own.lt r e).1, fun e2 => (hsep r e2.symm).2 e⟩)
  refine ⟨htot, hwt, ⟨(y2.kept g1 (by simp)).kept g2 (by simp), (l2.set _).kept g2 (by simp), ?_, ?_⟩, hB.set (hB.set hj2 (B + 1) (by omega) (hsep.ne _ (by omega)) _) (B + 2) (by omega) (hsep.ne _ (by omega)) _, fun r e => ⟨(hsep r e).1, fun e2 => ?_⟩, ?_, fun k h1 h2 => ?_⟩
  · rw [← hy]; exact (w2.kept g1 (by simp)).set _
  · rw [List.map_append, List.length_append]
    exact (hown.kept g1 (.inr (l2.not_row (by decide) hown).symm)).kept g2 (.inr (w2.not_row (by decide) hown).symm)
  · obtain rfl : g = r := by simpa [Value.ownBlock] using e2
    rcases hat with hat | hat
    · exact (hsep g e).2 hat
    · have := (hB.lt pre o A hj g e).1
      omega
  · simp [World.setCell]; omega
  · have hk : k < A.heap.size := by omega
    refine (Below.heap_setCell _ _ _ k (by show k ≠ B + 2; omega)).trans ((Below.heap_setCell _ _ _ k (by show k ≠ B + 1; omega)).trans ?_)
    refine (hgrow.block k (by simp; omega) (fun e => by have := (h.own.lt k e.symm).1; omega)).trans ?_
    exact (Below.heap_alloc A _ k hk).trans (hold k h1 h2)

theorem fl_new (wd : Nat) (w : List UInt8) (ws : List (List UInt8)) : Fi.fl wd [] (w :: ws) = Fi.fl wd [w] ws := by
  rw [Fi.fl_cons, if_neg (fun h => h.1 rfl)]; rfl
theorem fl_fits (wd : Nat) (cur : List (List UInt8)) (w : List UInt8) (ws : List (List UInt8)) (h : Fi.sigs (Fi.glue cur) + 1 + Fi.sigs w ≤ wd) : Fi.fl wd cur (w :: ws) = Fi.fl wd (cur ++ [w]) ws := by
  rw [Fi.fl_cons, if_neg (fun h2 => by omega)]
theorem fl_full (wd : Nat) (cur : List (List UInt8)) (w : List UInt8) (ws : List (List UInt8)) (hc : cur ≠ []) (h : wd < Fi.sigs (Fi.glue cur) + 1 + Fi.sigs w) : Fi.fl wd cur (w :: ws) = cur :: Fi.fl wd [w] ws := by
  rw [Fi.fl_cons, if_pos ⟨hc, h⟩]
theorem drop_at (ws : List ByteArray) (k : Nat) (h : k < ws.length) : (ws.drop k).map lb = lb (ws.getD k ByteArray.empty) :: (ws.drop (k + 1)).map lb := by
  rw [List.drop_eq_getElem_cons h, getD_lt ws k h]; rfl

theorem Told.at {W : World} {B n1 m0 l N : Nat} {pre : List ByteArray} {J : List ByteArray → Option Nat → World → Prop} {A A' : World} {o o' : Option Nat} {lv' : Value}
    (h : Told B n1 l J pre A A' o lv' o') (hB : BodyR B n1 l N J) (hm0 : m0 ≤ l) (hsz : B + 3 ≤ A.heap.size) (hold : ∀ k, n1 ≤ k → k < m0 → A.heap[k]? = W.heap[k]?) :
    B + 3 ≤ A'.heap.size ∧ ∀ k, n1 ≤ k → k < m0 → A'.heap[k]? = W.heap[k]? :=
  ⟨Nat.le_trans hsz h.size, fun k h1 h2 => (h.old k h1 (by have := hB.lB; omega) (by omega)).trans (hold k h1 h2)⟩

set_option maxRecDepth 100000 in
set_option maxHeartbeats 8000000 in
theorem filled1_any (n1 m0 l N wd M Bw Bi : Nat) (J : List ByteArray → Option Nat → World → Prop) (W : World) (hB : BodyR W.heap.size n1 l N J) (hm0 : m0 ≤ l) (hwd : wd ≤ 200) (hM : M ≤ 1099511627776)
    (ws : List ByteArray) (A : Option Addr) (nw cw : Nat) (hnw : ws.length = nw) (hwt : wt (ws.map lb) ≤ M) (hN : (Fi.linesOf wd (ws.map lb)).length = N)
    (hBw : Boxed W Bw 23 (.slice A nw cw)) (hBi : Boxed W Bi 3 (.int .i64 (wd : Int))) (hw1 : n1 ≤ Bw ∧ Bw < m0) (hi1 : n1 ≤ Bi ∧ Bi < m0)
    (hrow : ws ≠ [] → ∃ b off, A = some ⟨b, off, none⟩ ∧ n1 ≤ b ∧ b < m0 ∧ ∀ j, j < ws.length → W.cell? ⟨b, off + j, none⟩ = some (.string (ws.getD j ByteArray.empty)))
    (h0 : J [] none W) :
    Calls Tryz.prog 125 #[.func (.yield l) #[] #[], .pointer (some ⟨Bw, 0, none⟩), .pointer (some ⟨Bi, 0, none⟩)] W fun e W' => (∃ v, e = .returned v) ∧ ∃ xs o, xs.map lb = Fi.linesOf wd (ws.map lb) ∧ J xs o W' := by
  obtain ⟨i0, hi, hz0, hz1, hz2⟩ := info_parts Tryz.info9
  have hlB := hB.lB
  have bW := ((hBw.alloc (.cells #[.func (.yield l) #[] #[]] 47)).alloc (.cells #[.slice none 0 0] 23)).alloc (.cells #[.int .i64 0] 3)
  have bY := ((Boxed.new W 47 (.func (.yield l) #[] #[])).alloc (.cells #[.slice none 0 0] 23)).alloc (.cells #[.int .i64 0] 3)
  have bL := (Boxed.new (W.alloc (.cells #[.func (.yield l) #[] #[]] 47)) 23 (.slice none 0 0)).alloc (.cells #[.int .i64 0] 3)
  have bX := Boxed.new ((W.alloc (.cells #[.func (.yield l) #[] #[]] 47)).alloc (.cells #[.slice none 0 0] 23)) 3 (.int .i64 0)
  have hb3 : Below W.heap.size W (((W.alloc (.cells #[.func (.yield l) #[] #[]] 47)).alloc (.cells #[.slice none 0 0] 23)).alloc (.cells #[.int .i64 0] 3)) :=
    ((((Below.refl _ W).alloc (Nat.le_refl _) _).alloc (by simp) _).alloc (by simp; omega) _)
  simp only [World.size_alloc] at bL bX
  have hat : FilAt W W.heap.size n1 m0 l wd M ws J (Fi.linesOf wd (ws.map lb)) 0 [] [] (.slice none 0 0) none (((W.alloc (.cells #[.func (.yield l) #[] #[]] 47)).alloc (.cells #[.slice none 0 0] 23)).alloc (.cells #[.int .i64 0] 3)) :=
    ⟨rfl, by simpa [wt] using hwt, ⟨bY, bL, bX, World.ownsRow_nil _ _ _ _⟩, hB.below h0 hb3, (fun r e => by cases e), (by simp), (fun k _ h2 => hb3.block k (by omega))⟩
  have cW := bW.cell
  have HAt := Lib.hid hat
  have HBR := Lib.hid hB
  have HRow := Lib.hid hrow
  have HNw := Lib.hid hnw
  have HN := Lib.hid hN
  have hiB : Bi < W.heap.size := hBi.lt
  have HBi := Lib.hid hBi
  have hnwM : nw ≤ M := by have := length_wt (ws.map lb); rw [List.length_map] at this; omega
  clear hB hrow hnw hN bW bY bL bX hb3 hat h0 hwt hBw hBi
  go_enter Tryz.func125, Tryz.ntmps125
  go_wp2_with fail
  go_loopw [13] (fun i wr => ∃ (k : Nat) (pre cur : List ByteArray) (lv : Value) (o : Option Nat), k ≤ nw ∧ i = .int .i64 k ∧ FilAt W W.heap.size n1 m0 l wd M ws J (Fi.linesOf wd (ws.map lb)) k pre cur lv o wr) (fun i _ => nw - (intOf i).toNat)
  case atStart => exact ⟨0, [], [], _, none, Nat.zero_le _, rfl, HAt.out⟩
  case round =>
    obtain ⟨k, pre, cur, lv, o, hk, rfl, hF⟩ := hrel
    have HF := Lib.hid hF
    have hsz0 := hF.size
    clear hF cW
    by_cases hlt : k < nw
    · obtain ⟨b, off, rfl, hb1, hb2, hcs⟩ := HRow.out (by intro e; have := HNw.out; rw [e] at this; simp at this; omega)
      have hck : wr.cell? ⟨b, off + k, none⟩ = some (.string (ws.getD k ByteArray.empty)) := (cell_same (HF.out.old b hb1 hb2)).trans (hcs k (by rw [HNw.out]; exact hlt))
      have HD := Lib.hid (drop_at ws k (by rw [HNw.out]; exact hlt))
      have hki : (k : Int) < (nw : Int) := by omega
      clear hcs
      generalize ws.getD k ByteArray.empty = u at *
      have hus : u.size + 1 + wt (cur.map lb) + wt ((ws.drop (k + 1)).map lb) ≤ M := by
        have := HF.out.wt
        rw [HD.out, wt_cons, sg_len] at this
        omega
      go_wp2_with fail
      refine (signs_any u (by omega) _).mono ?_
      rintro e w1 ⟨rfl, b1⟩
      have hst := HF.out.st.below b1
      have hj1 := HBR.out.below HF.out.j b1
      have bi1 : Boxed w1 Bi 3 (.int .i64 (wd : Int)) := (b1.block Bi (by omega)).trans ((HF.out.old Bi hi1.1 hi1.2).trans HBi.out)
      have ho1 : ∀ k, n1 ≤ k → k < m0 → w1.heap[k]? = W.heap[k]? := fun k h1 h2 => (b1.block k (by omega)).trans (HF.out.old k h1 h2)
      have ci := bi1.cell
      obtain ⟨a, c, hlv⟩ := lenOf hst.own
      subst hlv
      have cl := hst.line.cell
      have cw : w1.cell? ⟨W.heap.size + 1 + 1, 0, none⟩ = some (.int .i64 ((Fi.sigs (Fi.glue (cur.map lb)) : Nat) : Int)) := hst.wide.cell
      have fw : w1.frozen? ⟨W.heap.size + 1 + 1, 0, none⟩ = false := hst.wide.frozen
      have hsz1 : W.heap.size + 3 ≤ w1.heap.size := Nat.le_trans hsz0 b1.size
      have hn0 := Fi.sigs_le (lb u)
      rw [sg_len] at hn0
      have hs0 : Fi.sigs (Fi.glue (cur.map lb)) ≤ M := by
        have h1 := Fi.sigs_le (Fi.glue (cur.map lb))
        have h2 := glue_wt (cur.map lb)
        omega
      have hcm : cur.length ≤ M := by have := length_wt (cur.map lb); rw [List.length_map] at this; omega
      have HSg : Hid (cur ≠ [] → Fi.sigs (Fi.glue ((cur ++ [u]).map lb)) = Fi.sigs (Fi.glue (cur.map lb)) + 1 + Fi.sigs (lb u)) := Lib.hid (fun h => by rw [List.map_append]; exact Fi.sigs_snoc _ _ (by simpa using h))
      have HS1 : Hid (Fi.sigs (Fi.glue (([u] : List ByteArray).map lb)) = Fi.sigs (lb u)) := Lib.hid (by simp [Fi.glue])
      have HSt := Lib.hid hst
      have HJ1 := Lib.hid hj1
      have HO1 := Lib.hid ho1
      have HSep := Lib.hid HF.out.sep
      have HTot := Lib.hid HF.out.tot
      clear hst hj1 ho1 bi1 b1 hck
      by_cases hc : cur = []
      · subst hc
        simp only [List.length_nil] at cl
        have cw0 : w1.cell? ⟨W.heap.size + 1 + 1, 0, none⟩ = some (.int .i64 0) := cw
        obtain ⟨wx, hwx⟩ : ∃ x, x = w1 := ⟨_, rfl⟩
        have hx : FilX W.heap.size l ([] : List ByteArray) (.slice a 0 c) 0 wx := by rw [hwx]; exact HSt.out.x
        have hjx : J pre o wx := by rw [hwx]; exact HJ1.out
        have hsx : SepR W.heap.size o (.slice a 0 c) := HSep.out
        have hszx : W.heap.size + 3 ≤ wx.heap.size := by rw [hwx]; exact hsz1
        have hox : ∀ k, n1 ≤ k → k < m0 → wx.heap[k]? = W.heap[k]? := by rw [hwx]; exact HO1.out
        have HY : Hid (((Fi.sigs (lb u) : Nat) : Int) = ((Fi.sigs (Fi.glue ((([] : List ByteArray) ++ [u]).map lb)) : Nat) : Int)) := Lib.hid (by rw [List.nil_append, HS1.out])
        have HTX : Hid (pre.map lb ++ (Fi.fl wd ((([] : List ByteArray) ++ [u]).map lb) ((ws.drop (k + 1)).map lb)).map Fi.glue = Fi.linesOf wd (ws.map lb)) := Lib.hid (by
          have h := HTot.out
          rw [HD.out] at h
          simp only [List.map_nil] at h
          rw [fl_new] at h
          exact h)
        have HWX : Hid (wt ((([] : List ByteArray) ++ [u]).map lb) + wt ((ws.drop (k + 1)).map lb) ≤ M) := Lib.hid (by
          rw [List.nil_append, List.map_cons, List.map_nil, wt_cons, sg_len]
          show u.size + 1 + 0 + _ ≤ M
          simp only [List.map_nil] at hus
          have : wt [] = 0 := rfl
          omega)
        clear cw
        go_wp2_with fail
        rw [← hwx]
        clear hwx cl cw0 fw ci
        have cl5 := hx.line.cell
        have fl5 := hx.line.frozen
        have cw5 : wx.cell? ⟨W.heap.size + 1 + 1, 0, none⟩ = _ := hx.wide.cell
        have fw5 : wx.frozen? ⟨W.heap.size + 1 + 1, 0, none⟩ = false := hx.wide.frozen
        have cl7 : (wx.alloc (.cells #[.string u] 9)).cell? ⟨W.heap.size + 1, 0, none⟩ = _ := (hx.line.alloc _).cell
        have cw7 : (wx.alloc (.cells #[.string u] 9)).cell? ⟨W.heap.size + 1 + 1, 0, none⟩ = _ := (hx.wide.alloc _).cell
        have HX := Lib.hid hx
        have HJX := Lib.hid hjx
        have HSX := Lib.hid hsx
        have HOX := Lib.hid hox
        clear hx hjx hsx hox
        go_region_law (refine step_append_lies _ (by rfl) _ _ _ (by rfl) W.heap.size 9 i0 _ 1 16 Tryz.underlying23 hi hz0 hz1 hz2 rfl (by omega) (.slice a 0 c) 0 (([] : List ByteArray).map Value.string) (by rfl) ((HX.out.own.alloc _).drew) ⟨wx.heap.size, 0, none⟩ 1 1 [.string u] (by rfl) (by rfl) (World.news_of_block (cs := #[.string u]) (t := 9) (fr := (0, 0)) (heap_alloc_new wx _)) (by simp [Value.oneCell']) (by omega) (by unfold maxLen; omega) (by omega) (by simp; omega) (wx.heap.size + 1) (by simp) ?_; intro gg cap w2 hown2 hgrow hat hlt2; have hbl := Boxed.kept (W := (wx.alloc (.cells #[.string u] 9)).drew) (HX.out.line.alloc _) hgrow (HX.out.line.not_row (by decide) HX.out.own); have hbw := Boxed.kept (W := (wx.alloc (.cells #[.string u] 9)).drew) (HX.out.wide.alloc _) hgrow (HX.out.wide.not_row (by decide) HX.out.own); have m1 := hbl.cell; have m2 := hbl.frozen; have m3 : w2.cell? ⟨W.heap.size + 1 + 1, 0, none⟩ = _ := hbw.cell; have m4 : w2.frozen? ⟨W.heap.size + 1 + 1, 0, none⟩ = false := hbw.frozen; have HR := Lib.hid (line_put (k := k + 1) (ws := ws) HBR.out hm0 HX.out HJX.out HSX.out hszx HOX.out hown2 hgrow hat HY.out HTX.out HWX.out); clear hown2 hgrow hat hbl hbw)
        all_goals
          go_wp2_with fail
          go_roundw
          case rel => exact ⟨k + 1, pre, ([] : List ByteArray) ++ [u], _, o, by omega, by go_num, HR.out⟩
          case measure => simp [intOf]; omega
      · have hpos : (0 : Int) < (cur.length : Int) := by have := List.length_pos_iff.2 hc; omega
        have HC := Lib.hid hc
        clear hc
        by_cases hfit : wd < Fi.sigs (Fi.glue (cur.map lb)) + 1 + Fi.sigs (lb u)
        · have hfi : (wd : Int) < ((Fi.sigs (Fi.glue (cur.map lb)) : Nat) : Int) + 1 + ((Fi.sigs (lb u) : Nat) : Int) := by omega
          have HFull := Lib.hid (fl_full wd (cur.map lb) (lb u) ((ws.drop (k + 1)).map lb) (by simpa using HC.out) hfit)
          have hpN : pre.length < N := by
            have h := congrArg List.length HTot.out
            rw [HD.out, HFull.out, HN.out] at h
            simp at h
            omega
          clear hfit
          go_wp2_with fail
          refine (tell_any W.heap.size n1 l N J HBR.out cur HC.out (by omega) _ pre hpN o w1 HSt.out HJ1.out HSep.out hsz1).mono ?_
          rintro e w3 ⟨rfl, lv', o', hT⟩
          have hat3 := hT.at HBR.out hm0 hsz1 HO1.out
          obtain ⟨a', c', hlv'⟩ := lenOf hT.st.own
          subst hlv'
          clear cl cw fw ci
          generalize a' = a at *
          generalize c' = c at *
          obtain ⟨wx, hwx⟩ : ∃ x, x = w3 := ⟨_, rfl⟩
          have hx : FilX W.heap.size l ([] : List ByteArray) (.slice a 0 c) 0 wx := by rw [hwx]; exact hT.st.x
          have hjx : J (pre ++ [glueB cur]) o' wx := by rw [hwx]; exact hT.j
          have hsx : SepR W.heap.size o' (.slice a 0 c) := hT.sep
          have hszx : W.heap.size + 3 ≤ wx.heap.size := by rw [hwx]; exact hat3.1
          have hox : ∀ k, n1 ≤ k → k < m0 → wx.heap[k]? = W.heap[k]? := by rw [hwx]; exact hat3.2
          have HY : Hid (((Fi.sigs (lb u) : Nat) : Int) = ((Fi.sigs (Fi.glue ((([] : List ByteArray) ++ [u]).map lb)) : Nat) : Int)) := Lib.hid (by rw [List.nil_append, HS1.out])
          have HTX : Hid ((pre ++ [glueB cur]).map lb ++ (Fi.fl wd ((([] : List ByteArray) ++ [u]).map lb) ((ws.drop (k + 1)).map lb)).map Fi.glue = Fi.linesOf wd (ws.map lb)) := Lib.hid (by
            have h := HTot.out
            rw [HD.out, HFull.out] at h
            rw [← h]
            simp [lb_glueB])
          have HWX : Hid (wt ((([] : List ByteArray) ++ [u]).map lb) + wt ((ws.drop (k + 1)).map lb) ≤ M) := Lib.hid (by
            rw [List.nil_append, List.map_cons, List.map_nil, wt_cons, sg_len]
            have : wt [] = 0 := rfl
            omega)
          have cl6 : w3.cell? ⟨W.heap.size + 1, 0, none⟩ = some (.slice a 0 c) := hT.st.line.cell
          clear hT hat3
          go_wp2_with fail
          rw [← hwx]
          clear hwx cl6
          have cl5 := hx.line.cell
          have fl5 := hx.line.frozen
          have cw5 : wx.cell? ⟨W.heap.size + 1 + 1, 0, none⟩ = _ := hx.wide.cell
          have fw5 : wx.frozen? ⟨W.heap.size + 1 + 1, 0, none⟩ = false := hx.wide.frozen
          have cl7 : (wx.alloc (.cells #[.string u] 9)).cell? ⟨W.heap.size + 1, 0, none⟩ = _ := (hx.line.alloc _).cell
          have cw7 : (wx.alloc (.cells #[.string u] 9)).cell? ⟨W.heap.size + 1 + 1, 0, none⟩ = _ := (hx.wide.alloc _).cell
          have HX := Lib.hid hx
          have HJX := Lib.hid hjx
          have HSX := Lib.hid hsx
          have HOX := Lib.hid hox
          clear hx hjx hsx hox
          go_region_law (refine step_append_lies _ (by rfl) _ _ _ (by rfl) W.heap.size 9 i0 _ 1 16 Tryz.underlying23 hi hz0 hz1 hz2 rfl (by omega) (.slice a 0 c) 0 (([] : List ByteArray).map Value.string) (by rfl) ((HX.out.own.alloc _).drew) ⟨wx.heap.size, 0, none⟩ 1 1 [.string u] (by rfl) (by rfl) (World.news_of_block (cs := #[.string u]) (t := 9) (fr := (0, 0)) (heap_alloc_new wx _)) (by simp [Value.oneCell']) (by omega) (by unfold maxLen; omega) (by omega) (by simp; omega) (wx.heap.size + 1) (by simp) ?_; intro gg cap w2 hown2 hgrow hat hlt2; have hbl := Boxed.kept (W := (wx.alloc (.cells #[.string u] 9)).drew) (HX.out.line.alloc _) hgrow (HX.out.line.not_row (by decide) HX.out.own); have hbw := Boxed.kept (W := (wx.alloc (.cells #[.string u] 9)).drew) (HX.out.wide.alloc _) hgrow (HX.out.wide.not_row (by decide) HX.out.own); have m1 := hbl.cell; have m2 := hbl.frozen; have m3 : w2.cell? ⟨W.heap.size + 1 + 1, 0, none⟩ = _ := hbw.cell; have m4 : w2.frozen? ⟨W.heap.size + 1 + 1, 0, none⟩ = false := hbw.frozen; have HR := Lib.hid (line_put (k := k + 1) (ws := ws) HBR.out hm0 HX.out HJX.out HSX.out hszx HOX.out hown2 hgrow hat HY.out HTX.out HWX.out); clear hown2 hgrow hat hbl hbw)
          all_goals
            go_wp2_with fail
            go_roundw
            case rel => exact ⟨k + 1, (pre ++ [glueB cur]), ([] : List ByteArray) ++ [u], _, o', by omega, by go_num, HR.out⟩
            case measure => simp [intOf]; omega
        · have hfi : decide ((wd : Int) < ((Fi.sigs (Fi.glue (cur.map lb)) : Nat) : Int) + 1 + ((Fi.sigs (lb u) : Nat) : Int)) = false := by simp; omega
          have HFits := Lib.hid (fl_fits wd (cur.map lb) (lb u) ((ws.drop (k + 1)).map lb) (by omega))
          obtain ⟨wx, hwx⟩ : ∃ x, x = w1.setCell ⟨W.heap.size + 1 + 1, 0, none⟩ (.int .i64 (((Fi.sigs (Fi.glue (cur.map lb)) : Nat) : Int) + 1)) := ⟨_, rfl⟩
          have hx : FilX W.heap.size l cur (.slice a cur.length c) (((Fi.sigs (Fi.glue (cur.map lb)) : Nat) : Int) + 1) wx := by rw [hwx]; exact HSt.out.x.setWide _
          have hjx : J pre o wx := by rw [hwx]; exact HBR.out.set HJ1.out (W.heap.size + 2) (by omega) (HSep.out.ne _ (by omega)) _
          have hsx : SepR W.heap.size o (.slice a cur.length c) := HSep.out
          have hszx : W.heap.size + 3 ≤ wx.heap.size := by rw [hwx]; simp [World.setCell]; omega
          have hox : ∀ k, n1 ≤ k → k < m0 → wx.heap[k]? = W.heap[k]? := by
            rw [hwx]
            exact fun k h1 h2 => (Below.heap_setCell _ _ _ k (by show k ≠ W.heap.size + 1 + 1; omega)).trans (HO1.out k h1 h2)
          have HY : Hid (((Fi.sigs (Fi.glue (cur.map lb)) : Nat) : Int) + 1 + ((Fi.sigs (lb u) : Nat) : Int) = ((Fi.sigs (Fi.glue ((cur ++ [u]).map lb)) : Nat) : Int)) := Lib.hid (by rw [HSg.out HC.out]; omega)
          have HTX : Hid (pre.map lb ++ (Fi.fl wd ((cur ++ [u]).map lb) ((ws.drop (k + 1)).map lb)).map Fi.glue = Fi.linesOf wd (ws.map lb)) := Lib.hid (by
            have h := HTot.out
            rw [HD.out, HFits.out] at h
            rw [← h]
            simp)
          have HWX : Hid (wt ((cur ++ [u]).map lb) + wt ((ws.drop (k + 1)).map lb) ≤ M) := Lib.hid (by
            rw [List.map_append, wt_append, List.map_cons, List.map_nil, wt_cons, sg_len]
            have : wt [] = 0 := rfl
            omega)
          clear hfit
          go_wp2_with fail
          rw [← hwx]
          clear hwx cl cw fw ci hfi
          have cl5 := hx.line.cell
          have fl5 := hx.line.frozen
          have cw5 : wx.cell? ⟨W.heap.size + 1 + 1, 0, none⟩ = _ := hx.wide.cell
          have fw5 : wx.frozen? ⟨W.heap.size + 1 + 1, 0, none⟩ = false := hx.wide.frozen
          have cl7 : (wx.alloc (.cells #[.string u] 9)).cell? ⟨W.heap.size + 1, 0, none⟩ = _ := (hx.line.alloc _).cell
          have cw7 : (wx.alloc (.cells #[.string u] 9)).cell? ⟨W.heap.size + 1 + 1, 0, none⟩ = _ := (hx.wide.alloc _).cell
          have HX := Lib.hid hx
          have HJX := Lib.hid hjx
          have HSX := Lib.hid hsx
          have HOX := Lib.hid hox
          clear hx hjx hsx hox
          go_region_law (refine step_append_lies _ (by rfl) _ _ _ (by rfl) W.heap.size 9 i0 _ 1 16 Tryz.underlying23 hi hz0 hz1 hz2 rfl (by omega) (.slice a cur.length c) cur.length (cur.map Value.string) (by rfl) ((HX.out.own.alloc _).drew) ⟨wx.heap.size, 0, none⟩ 1 1 [.string u] (by rfl) (by rfl) (World.news_of_block (cs := #[.string u]) (t := 9) (fr := (0, 0)) (heap_alloc_new wx _)) (by simp [Value.oneCell']) (by omega) (by unfold maxLen; omega) (by omega) (by simp; omega) (wx.heap.size + 1) (by simp) ?_; intro gg cap w2 hown2 hgrow hat hlt2; have hbl := Boxed.kept (W := (wx.alloc (.cells #[.string u] 9)).drew) (HX.out.line.alloc _) hgrow (HX.out.line.not_row (by decide) HX.out.own); have hbw := Boxed.kept (W := (wx.alloc (.cells #[.string u] 9)).drew) (HX.out.wide.alloc _) hgrow (HX.out.wide.not_row (by decide) HX.out.own); have m1 := hbl.cell; have m2 := hbl.frozen; have m3 : w2.cell? ⟨W.heap.size + 1 + 1, 0, none⟩ = _ := hbw.cell; have m4 : w2.frozen? ⟨W.heap.size + 1 + 1, 0, none⟩ = false := hbw.frozen; have HR := Lib.hid (line_put (k := k + 1) (ws := ws) HBR.out hm0 HX.out HJX.out HSX.out hszx HOX.out hown2 hgrow hat HY.out HTX.out HWX.out); clear hown2 hgrow hat hbl hbw)
          all_goals
            go_wp2_with fail
            go_roundw
            case rel => exact ⟨k + 1, pre, cur ++ [u], _, o, by omega, by go_num, HR.out⟩
            case measure => simp [intOf]; omega
    · obtain rfl : k = nw := by omega
      have hst := HF.out.st
      have hj := HF.out.j
      have HTot := HF.out.tot
      rw [List.drop_of_length_le (by rw [HNw.out]; exact Nat.le_refl _), List.map_nil, Fi.fl_nil] at HTot
      have hold := HF.out.old
      have hwtc := HF.out.wt
      have HTT := Lib.hid HTot
      have HJ := Lib.hid hj
      obtain ⟨a, c, hlv⟩ := lenOf hst.own
      subst hlv
      have HSt := Lib.hid hst
      have HSep := Lib.hid HF.out.sep
      clear HTot hst hj hold
      by_cases hc : cur = []
      · subst hc
        go_wp2_with fail
        refine (tell_none _ _ _ a c _ HSt.out.line).mono ?_
        rintro e w3 ⟨rfl, rfl⟩
        go_wp2_with fail
        go_end0
        refine ⟨⟨_, rfl⟩, pre, o, ?_, HJ.out⟩
        have h := HTT.out
        simpa using h
      · have HC := Lib.hid hc
        have hpN : pre.length < N := by
          have h := congrArg List.length HTT.out
          rw [if_neg (by simpa using hc), HN.out] at h
          simp at h
          omega
        clear hc
        go_wp2_with fail
        refine (tell_any W.heap.size n1 l N J HBR.out cur HC.out (by omega) _ pre hpN o wr HSt.out HJ.out HSep.out hsz0).mono ?_
        rintro e w3 ⟨rfl, lv', o', hT⟩
        have HT := Lib.hid hT
        clear hT
        go_wp2_with fail
        go_end0
        refine ⟨⟨_, rfl⟩, pre ++ [glueB cur], o', ?_, HT.out.j⟩
        have h := HTT.out
        rw [if_neg (by simpa using HC.out)] at h
        rw [← h]
        simp [lb_glueB]
end Go.Proofs.YtidccanfjcanoaaGreatDoor
