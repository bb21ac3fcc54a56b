/-
  The reference's Fill, by contract.
-/
import Derived.Test.YtidccanfjcanoaaGreatDoorRefS
import Derived.Test.YtidccanfjcanoaaGreatDoorRefWo
import Derived.Test.YtidccanfjcanoaaGreatDoorFilC
import Derived.Test.YtidccanfjcanoaaGreatDoorAptL
import Derived.RegionTactic
import Derived.ChangeAlike
namespace Go.Proofs.YtidccanfjcanoaaGreatDoor
open Go.RowKit
set_option linter.unusedVariables false

theorem refSigns_q (u : ByteArray) (hu : u.size ≤ 1099511627776) {w : World} {n : Nat} :
    Calls Tryz.prog 85 #[.string u] (w.drewN n) fun e w'' => e = .returned (.int .i64 (Fi.sigs (lb u) : Nat)) ∧ ∃ m, w'' = w.drewN m :=
  (refSigns_any u hu _).mono fun _ _ ⟨he, hm⟩ => ⟨he, n, hm.symm⟩

theorem row_at {w : World} {B e n : Nat} {a : Option Addr} {c : Nat} {xs : List ByteArray} (h : w.ownsRow B e 1 (.slice a n c) n (xs.map Value.string)) (k : Nat) (hk : k < n) : ∃ g, a = some ⟨g, 0, none⟩ ∧ w.cell? ⟨g, k, none⟩ = some (.string (xs.getD k ByteArray.empty)) := by
  obtain ⟨g, cap, h1, _, _⟩ := h.form (by omega)
  injection h1 with h2 _ h3
  refine ⟨g, h2, ?_⟩
  subst h2
  have hn : xs.length = n := by have := h.1; simpa using this
  rw [h.cellAt k (by omega)]
  simp [List.getD_eq_getElem?_getD, List.getElem?_eq_getElem (show k < xs.length by omega)]
/-- Where the reference stands: ls the lines so far, cur the words of the last. -/
structure RefAt (wd M : Nat) (ws : List ByteArray) (T : List (List UInt8)) (k : Nat) (pre : List (List UInt8)) (cur : List (List UInt8)) (ls : List ByteArray) : Prop where
  lines : ls.map lb = pre ++ (if cur = [] then [] else [Fi.glue cur])
  none : cur = [] → pre = []
  tot : pre ++ (Fi.fl wd cur ((ws.drop k).map lb)).map Fi.glue = T
  wt : wt cur + wt ((ws.drop k).map lb) ≤ M
  len : ls.length ≤ k
theorem refAt_new {wd M k : Nat} {ws : List ByteArray} {T pre cur : List (List UInt8)} {ls : List ByteArray} {u : ByteArray} (h : RefAt wd M ws T k pre cur ls) (hd : (ws.drop k).map lb = lb u :: (ws.drop (k + 1)).map lb)
    (hc : cur = [] ∨ wd < Fi.sigs (Fi.glue cur) + 1 + Fi.sigs (lb u)) : RefAt wd M ws T (k + 1) (pre ++ (if cur = [] then [] else [Fi.glue cur])) [lb u] (ls ++ [u]) := by
  have h1 := h.lines
  have h2 := h.tot
  have h3 := h.wt
  have h4 := h.len
  have hw0 : wt [] = 0 := rfl
  rw [hd] at h2 h3
  rw [wt_cons] at h3
  refine ⟨?_, fun e => by simp at e, ?_, ?_, by rw [List.length_append]; simp; omega⟩
  · rw [List.map_append, h1]
    simp [Fi.glue]
  · rcases hc with rfl | hc
    · rw [fl_new] at h2
      simpa using h2
    · by_cases hn : cur = []
      · subst hn
        rw [fl_new] at h2
        simpa using h2
      · rw [fl_full wd cur _ _ hn hc] at h2
        rw [if_neg hn, ← h2]
        simp
  · rw [wt_cons]; omega
theorem refAt_add {wd M k : Nat} {ws : List ByteArray} {T pre cur : List (List UInt8)} {ls : List ByteArray} {u y : ByteArray} (h : RefAt wd M ws T k pre cur ls) (hd : (ws.drop k).map lb = lb u :: (ws.drop (k + 1)).map lb)
    (hc : cur ≠ []) (hf : Fi.sigs (Fi.glue cur) + 1 + Fi.sigs (lb u) ≤ wd) (hy : lb y = Fi.glue (cur ++ [lb u])) : RefAt wd M ws T (k + 1) pre (cur ++ [lb u]) (ls.set (ls.length - 1) y) := by
  have h1 := h.lines
  have h2 := h.tot
  have h3 := h.wt
  have h4 := h.len
  have hw0 : wt [] = 0 := rfl
  rw [hd] at h2 h3
  rw [wt_cons] at h3
  rw [fl_fits wd cur _ _ hf] at h2
  rw [if_neg hc] at h1
  refine ⟨?_, fun e => by simp at e, h2, by rw [wt_append, wt_cons]; omega, by rw [List.length_set]; omega⟩
  have hl : ls.length = pre.length + 1 := by have := congrArg List.length h1; simpa using this
  rw [List.map_set, h1, hl, Nat.add_sub_cancel, List.set_append_right _ _ (Nat.le_refl _), Nat.sub_self, List.set_cons_zero, if_neg (by simp), hy]
theorem refAt_last {wd M k : Nat} {ws : List ByteArray} {T pre cur : List (List UInt8)} {ls : List ByteArray} (h : RefAt wd M ws T k pre cur ls) (hc : cur ≠ []) : 0 < ls.length ∧ lb (ls.getD (ls.length - 1) ByteArray.empty) = Fi.glue cur := by
  have h1 := h.lines
  rw [if_neg hc] at h1
  have hl : ls.length = pre.length + 1 := by have := congrArg List.length h1; simpa using this
  refine ⟨by omega, ?_⟩
  have h2 : (ls.map lb)[ls.length - 1]? = some (Fi.glue cur) := by
    rw [h1, hl, Nat.add_sub_cancel, List.getElem?_append_right (Nat.le_refl _), Nat.sub_self]; rfl
  rw [List.getElem?_map, List.getElem?_eq_getElem (by omega)] at h2
  rw [getD_lt ls _ (by omega)]
  simpa using h2

set_option maxHeartbeats 8000000 in
set_option maxRecDepth 100000 in
theorem refFill_yes (s : ByteArray) (hs : s.size ≤ 1000000) (wd : Nat) (h1 : 1 ≤ wd) (h2 : wd ≤ 200) (w : World) :
    Calls Tryz.prog 22 #[.string s, .int .i64 (wd : Int)] w fun e w' => ∃ (v : Value) (xs : List ByteArray), e = .returned (.tuple #[v, .int .i64 0]) ∧ w'.ownsRow w.heap.size 9 1 v xs.length (xs.map Value.string) ∧ xs.map lb = Fi.linesOf wd (Pl.words (lb s)) ∧ Below w.heap.size w w' := by
  obtain ⟨i0, hi, hz0, hz1, hz2⟩ := info_parts Tryz.info9
  have d1 : decide ((wd : Int) < 1) = false := by simp; omega
  have d2 : decide ((200 : Int) < (wd : Int)) = false := by simp; omega
  go_enter Tryz.func22, Tryz.ntmps22
  go_wp2_with fail
  refine (refWords_any s (by omega) _).mono ?_
  rintro e w1 ⟨v1, ws, rfl, own1, hws, hwl, b1⟩
  obtain ⟨a1, c1, hv1⟩ := lenOf own1
  subst hv1
  have O1 := Lib.hid own1
  have B1 := Lib.hid b1
  have hwt : wt (ws.map lb) ≤ 1000001 := by
    rw [hws]
    have := wt_words (lb s)
    rw [sg_len] at this
    omega
  have H0 : Hid (RefAt wd 1000001 ws (Fi.linesOf wd (Pl.words (lb s))) 0 [] [] []) := Lib.hid ⟨by simp, fun _ => rfl, by rw [← hws]; rfl, by simpa [wt] using hwt, Nat.le_refl _⟩
  have hz1' := b1.size
  clear own1 b1 hws hwt
  go_wp2_with fail
  go_loopw [7, 8] (fun v i wr => ∃ (k : Nat) (pre cur : List (List UInt8)) (ls : List ByteArray), k ≤ ws.length ∧ i = .int .i64 k ∧ wr.ownsRow w.heap.size 9 1 v ls.length (ls.map Value.string) ∧ RefAt wd 1000001 ws (Fi.linesOf wd (Pl.words (lb s))) k pre cur ls ∧ wr.ownsRow w.heap.size 9 1 (.slice a1 ws.length c1) ws.length (ws.map Value.string) ∧ (v.ownBlock = none ∨ v.ownBlock ≠ (Value.slice a1 ws.length c1).ownBlock) ∧ Below w.heap.size w wr) (fun _ i _ => ws.length - (intOf i).toNat)
  case atStart => exact ⟨0, [], [], [], Nat.zero_le _, rfl, World.ownsRow_nil _ _ _ _, H0.out, O1.out, .inl rfl, B1.out⟩
  case round =>
    obtain ⟨k, pre, cur, ls, hk, rfl, hown, hR, hrow, hne, hb⟩ := hrel
    obtain ⟨al, cl, hvl⟩ := lenOf hown
    subst hvl
    have HO := Lib.hid hown
    have HR := Lib.hid hR
    have HW := Lib.hid hrow
    have HNe := Lib.hid hne
    have HB := Lib.hid hb
    have hszr := hb.size
    have hll := hR.len
    clear hown hR hrow hne hb
    by_cases hlt : k < ws.length
    · obtain ⟨gw, rfl, hc⟩ := row_at HW.out k hlt
      have HD := Lib.hid (drop_at ws k hlt)
      have hki : (k : Int) < (ws.length : Int) := by omega
      have hus : (ws.getD k ByteArray.empty).size ≤ 1000001 := by
        have h3 := HR.out.wt
        rw [HD.out, wt_cons, sg_len] at h3
        omega
      generalize ws.getD k ByteArray.empty = u at *
      by_cases hcur : cur = []
      · have hl0 : ls.length = 0 := by
          have h3 := HR.out.lines
          rw [hcur, HR.out.none hcur] at h3
          simpa using h3
        have HN := Lib.hid (refAt_new HR.out HD.out (.inl hcur))
        have p1 : decide (0 < ls.length) = false := decide_eq_false (by omega)
        have p2 : decide ((0 : Int) < (ls.length : Int)) = false := decide_eq_false (by omega)
        clear hl0 hcur
        go_wp2_with fail
        go_quiet ((go_at_call 85; exact refSigns_q _ (by omega)))
        obtain ⟨wq, hwq⟩ : ∃ x, x = wr.drewN nq := ⟨_, rfl⟩
        rw [← hwq]
        have hbq : Below wr.heap.size wr wq := by rw [hwq]; exact below_drewN (Below.refl _ _) nq
        have cq : wq.cell? ⟨gw, k, none⟩ = some (.string u) := (hbq.cell (p := ⟨gw, k, none⟩) (HW.out.lt gw rfl).2).trans hc
        have HOq := Lib.hid (own_same HO.out (fun g hg => hbq.block g (HO.out.lt g hg).2))
        have HWq := Lib.hid (own_same HW.out (fun g hg => hbq.block g (HW.out.lt g hg).2))
        have HBq := Lib.hid (HB.out.trans (hbq.mono hszr))
        have hszq : w.heap.size ≤ wq.heap.size := Nat.le_trans hszr hbq.size
        have hgw : gw < wq.heap.size := (HWq.out.lt gw rfl).2
        clear hbq hwq hc
        go_wp2_with (at_builtin; go_must (refine wpList_append_lies _ rfl _ _ 23 rfl w.heap.size 9 i0 (.string ByteArray.empty) 1 16 Tryz.underlying23 hi hz0 hz1 hz2 rfl (by decide) _ ls.length _ rfl (HOq.out.alloc _) ⟨wq.heap.size, 0, none⟩ 1 1 [.string u] rfl rfl (cell_one_new _ _ _) (by simp [Value.oneCell']) (by decide) (by unfold maxLen; omega) (by omega) (by simp; omega) (wq.heap.size + 1) (by simp) ?_; intro g6 cap6 w6 hown6 hgrow6 hat6 hlt6))
        have hb6 : Below w.heap.size w w6 := (HBq.out.alloc hszq _).grown hgrow6 (by simp; omega) (fun i hi => (HOq.out.lt i hi).1)
        have hne6 : (Value.slice (some ⟨g6, 0, none⟩) (ls.length + 1) cap6).ownBlock ≠ (Value.slice (some ⟨gw, 0, none⟩) ws.length c1).ownBlock := by
          intro e
          obtain rfl : g6 = gw := by simpa [Value.ownBlock] using e
          rcases hat6 with h | h
          · rcases HNe.out with h9 | h9
            · have h8 := h9.symm.trans h
              cases h8
            · exact h9 h
          · omega
        have hr6 := (HWq.out.alloc (.cells #[.string u] 9)).kept hgrow6 (by
          rcases HNe.out with h9 | h9
          · refine .inr (fun e => ?_)
            have h8 := h9.symm.trans e.symm
            cases h8
          · exact .inr (fun e => h9 e.symm))
        go_roundw
        case rel => exact ⟨k + 1, _, _, ls ++ [u], by omega, by go_num, by rw [List.length_append, List.map_append]; exact hown6, HN.out, hr6, .inr hne6, hb6⟩
        case measure => simp [intOf]; omega
      · obtain ⟨hpos, hlast⟩ := refAt_last HR.out hcur
        obtain ⟨gl, rfl, hcl⟩ := row_at HO.out (ls.length - 1) (by omega)
        have hfz := HO.out.frozenAt (ls.length - 1)
        have hls : (ls.getD (ls.length - 1) ByteArray.empty).size ≤ 1000001 := by
          have h3 := HR.out.wt
          have h4 := glue_wt cur
          rw [← hlast, sg_len] at h4
          omega
        obtain ⟨y, hy⟩ : ∃ y, ls.getD (ls.length - 1) ByteArray.empty = y := ⟨_, rfl⟩
        rw [hy] at hcl hls hlast
        clear hy
        have hsy := Fi.sigs_le (lb y)
        have hsu := Fi.sigs_le (lb u)
        rw [sg_len] at hsy hsu
        have r1 : decide (0 < ls.length) = true := decide_eq_true hpos
        have r2 : decide ((0 : Int) < (ls.length : Int)) = true := decide_eq_true (by omega)
        have r3 : IntKind.i64.wrap ((ls.length : Int) - 1) = (ls.length : Int) - 1 := IntWalk.i64_in _ (by omega)
        have r4 : (0 : Int) ≤ (ls.length : Int) - 1 := by omega
        have r5 : (ls.length : Int) - 1 < (ls.length : Int) := by omega
        have r6 : ((ls.length : Int) - 1).toNat = ls.length - 1 := by omega
        have r7 : IntKind.i64.wrap (((Fi.sigs (lb y) : Nat) : Int) + 1) = ((Fi.sigs (lb y) : Nat) : Int) + 1 := IntWalk.i64_in _ (by omega)
        have r8 : IntKind.i64.wrap (((Fi.sigs (lb y) : Nat) : Int) + 1 + ((Fi.sigs (lb u) : Nat) : Int)) = ((Fi.sigs (lb y) : Nat) : Int) + 1 + ((Fi.sigs (lb u) : Nat) : Int) := IntWalk.i64_in _ (by omega)
        by_cases hfit : Fi.sigs (lb y) + 1 + Fi.sigs (lb u) ≤ wd
        · have r9 : decide (((Fi.sigs (lb y) : Nat) : Int) + 1 + ((Fi.sigs (lb u) : Nat) : Int) ≤ (wd : Int)) = true := decide_eq_true (by omega)
          have HN := Lib.hid (refAt_add (y := y ++ ⟨#[32]⟩ ++ u) HR.out HD.out hcur (by rw [← hlast]; exact hfit) (by rw [Fi.glue_snoc _ _ hcur, ← hlast]; simp [lb]))
          clear hfit hlast
          go_wp2_with fail
          go_quiet ((go_at_call 85; exact refSigns_q _ (by omega)))
          clear r7 r8 r9
          obtain ⟨wq, hwq⟩ : ∃ x, x = wr.drewN nq := ⟨_, rfl⟩
          rw [← hwq]
          have hbq : Below wr.heap.size wr wq := by rw [hwq]; exact below_drewN (Below.refl _ _) nq
          have cq : wq.cell? ⟨gw, k, none⟩ = some (.string u) := (hbq.cell (p := ⟨gw, k, none⟩) (HW.out.lt gw rfl).2).trans hc
          have cl5 : wq.cell? ⟨gl, ls.length - 1, none⟩ = some (.string y) := (hbq.cell (p := ⟨gl, ls.length - 1, none⟩) (HO.out.lt gl rfl).2).trans hcl
          have HOq := Lib.hid (own_same HO.out (fun g hg => hbq.block g (HO.out.lt g hg).2))
          have HWq := Lib.hid (own_same HW.out (fun g hg => hbq.block g (HW.out.lt g hg).2))
          have HBq := Lib.hid (HB.out.trans (hbq.mono hszr))
          have hszq : w.heap.size ≤ wq.heap.size := Nat.le_trans hszr hbq.size
          have fl5 := HOq.out.frozenAt (ls.length - 1)
          have i1 : ¬ 9223372036854775807 < y.size + 1 := by omega
          have i2 : ¬ 9223372036854775807 < y.size + 1 + u.size := by omega
          clear hbq hwq hc hcl hfz
          go_wp2_with fail
          go_region
          all_goals
            go_wp2_with fail
            have HW5 := Lib.hid (HWq.out.kept (grown_set wq gl (ls.length - 1) (.string (y ++ ⟨#[32]⟩ ++ u))) (by
              rcases HNe.out with h9 | h9
              · cases h9
              · exact .inr (fun e => h9 e.symm)))
            have HB5 := Lib.hid (HBq.out.grown (grown_set wq gl (ls.length - 1) (.string (y ++ ⟨#[32]⟩ ++ u))) hszq (fun i hi => (HOq.out.lt i hi).1))
            have HO5 := Lib.hid (own_set HOq.out (ls.length - 1) (by omega) (.string (y ++ ⟨#[32]⟩ ++ u)))
            refine ⟨⟨k + 1, pre, cur ++ [lb u], ls.set (ls.length - 1) (y ++ ⟨#[32]⟩ ++ u), by omega, by go_num, ?_, HN.out, HW5.out, HNe.out, HB5.out.drew⟩, by simp [intOf]; omega⟩
            rw [List.length_set, List.map_set]
            exact HO5.out
        · have r9 : decide (((Fi.sigs (lb y) : Nat) : Int) + 1 + ((Fi.sigs (lb u) : Nat) : Int) ≤ (wd : Int)) = false := decide_eq_false (by omega)
          have HN := Lib.hid (refAt_new HR.out HD.out (.inr (by rw [← hlast]; omega)))
          clear hfit hlast
          go_wp2_with fail
          go_quiet ((go_at_call 85; exact refSigns_q _ (by omega)))
          obtain ⟨wq, hwq⟩ : ∃ x, x = wr.drewN nq := ⟨_, rfl⟩
          rw [← hwq]
          have hbq : Below wr.heap.size wr wq := by rw [hwq]; exact below_drewN (Below.refl _ _) nq
          have cq : wq.cell? ⟨gw, k, none⟩ = some (.string u) := (hbq.cell (p := ⟨gw, k, none⟩) (HW.out.lt gw rfl).2).trans hc
          have HOq := Lib.hid (own_same HO.out (fun g hg => hbq.block g (HO.out.lt g hg).2))
          have HWq := Lib.hid (own_same HW.out (fun g hg => hbq.block g (HW.out.lt g hg).2))
          have HBq := Lib.hid (HB.out.trans (hbq.mono hszr))
          have hszq : w.heap.size ≤ wq.heap.size := Nat.le_trans hszr hbq.size
          have hgw : gw < wq.heap.size := (HWq.out.lt gw rfl).2
          clear hbq hwq hc
          go_wp2_with (at_builtin; go_must (refine wpList_append_lies _ rfl _ _ 23 rfl w.heap.size 9 i0 (.string ByteArray.empty) 1 16 Tryz.underlying23 hi hz0 hz1 hz2 rfl (by decide) _ ls.length _ rfl (HOq.out.alloc _) ⟨wq.heap.size, 0, none⟩ 1 1 [.string u] rfl rfl (cell_one_new _ _ _) (by simp [Value.oneCell']) (by decide) (by unfold maxLen; omega) (by omega) (by simp; omega) (wq.heap.size + 1) (by simp) ?_; intro g6 cap6 w6 hown6 hgrow6 hat6 hlt6))
          have hb6 : Below w.heap.size w w6 := (HBq.out.alloc hszq _).grown hgrow6 (by simp; omega) (fun i hi => (HOq.out.lt i hi).1)
          have hne6 : (Value.slice (some ⟨g6, 0, none⟩) (ls.length + 1) cap6).ownBlock ≠ (Value.slice (some ⟨gw, 0, none⟩) ws.length c1).ownBlock := by
            intro e
            obtain rfl : g6 = gw := by simpa [Value.ownBlock] using e
            rcases hat6 with h | h
            · rcases HNe.out with h9 | h9
              · have h8 := h9.symm.trans h
                cases h8
              · exact h9 h
            · omega
          have hr6 := (HWq.out.alloc (.cells #[.string u] 9)).kept hgrow6 (by
            rcases HNe.out with h9 | h9
            · refine .inr (fun e => ?_)
              have h8 := h9.symm.trans e.symm
              cases h8
            · exact .inr (fun e => h9 e.symm))
          go_roundw
          case rel => exact ⟨k + 1, _, _, ls ++ [u], by omega, by go_num, by rw [List.length_append, List.map_append]; exact hown6, HN.out, hr6, .inr hne6, hb6⟩
          case measure => simp [intOf]; omega
    · obtain rfl : k = ws.length := by omega
      have h3 := HR.out.tot
      have h4 := HR.out.lines
      rw [List.drop_of_length_le (Nat.le_refl _), List.map_nil, Fi.fl_nil] at h3
      have HF : Hid (ls.map lb = Fi.linesOf wd (Pl.words (lb s))) := Lib.hid (by
        rw [h4, ← h3]
        split <;> simp)
      clear h3 h4
      go_wp2_with fail
      go_ret2
      exact ⟨_, ls, rfl, HO.out, HF.out, HB.out⟩
set_option maxHeartbeats 1000000 in
set_option maxRecDepth 100000 in
theorem refFill_no (s : ByteArray) (wd : Int) (h : wd < 1 ∨ 200 < wd) (w : World) :
    Calls Tryz.prog 22 #[.string s, .int .i64 wd] w fun e w' => e = .returned (.tuple #[.slice none 0 0, .int .i64 1]) ∧ Below w.heap.size w w' := by
  rcases h with h | h
  · go_enter Tryz.func22, Tryz.ntmps22
    go_wp2
    go_ret2
    exact ⟨rfl, Below.refl _ _⟩
  · have d1 : decide (wd < 1) = false := by simp; omega
    go_enter Tryz.func22, Tryz.ntmps22
    go_wp2
    go_ret2
    exact ⟨rfl, Below.refl _ _⟩
end Go.Proofs.YtidccanfjcanoaaGreatDoor
