/-
  FillWords: the walk.
-/
import Derived.Test.YtlgodkjbilkloaaFBl
import Derived.Lib.QuietBelow
namespace Go.Proofs.Ytlgodkjbilkloaa
open Go.RowKit Go.Sort
set_option linter.unusedVariables false

/-! ### plain -/
theorem glueT_one (ws : List ByteArray) (h : 0 < ws.length) : Fi.glue ((ws.take 1).map lb) = lb (ws.getD 0 ByteArray.empty) := by
  cases ws with
  | nil => simp at h
  | cons x r => simp [Fi.glue]
theorem glueT_succ (ws : List ByteArray) (k : Nat) (hk : 0 < k) (h : k < ws.length) : Fi.glue ((ws.take (k + 1)).map lb) = Fi.glue ((ws.take k).map lb) ++ 32 :: lb (ws.getD k ByteArray.empty) := by
  rw [List.take_succ_eq_append_getElem h, List.map_append, getD_lt ws k h]
  exact Fi.glue_snoc _ _ (by
    intro e
    have := congrArg List.length e
    simp only [List.length_map, List.length_take, List.length_nil] at this
    omega)
theorem wt_take (L : List (List UInt8)) (k : Nat) : wt (L.take k) ≤ wt L := by
  conv => rhs; rw [← List.take_append_drop k L, wt_append]
  omega
theorem flat_len (wd : Nat) (W : List (List UInt8)) (i : Nat) : ((Fi.fl wd [] W).take i).flatten.length ≤ W.length := by
  have h := Fi.fl_flatten wd W []
  rw [List.nil_append] at h
  conv => rhs; rw [← h, ← List.take_append_drop i (Fi.fl wd [] W), List.flatten_append, List.length_append]
  omega
theorem flat_succ (F : List (List (List UInt8))) (i : Nat) (L : List (List UInt8)) (h : F[i]? = some L) : (F.take (i + 1)).flatten = (F.take i).flatten ++ L := by
  rw [List.take_add_one, h]; simp
/-- What the round of a line is told. -/
theorem line_facts {wd : Nat} {s : ByteArray} {xs : List ByteArray} (hx : xs.map lb = Fi.linesOf wd (Pl.words (lb s))) (i : Nat) (hi : i < xs.length) :
    ∃ L, (Fi.fl wd [] (Pl.words (lb s)))[i]? = some L ∧ lb (xs.getD i ByteArray.empty) = Fi.glue L ∧ Pl.words (lb (xs.getD i ByteArray.empty)) = L ∧ L ≠ [] ∧ (1 < L.length → Fi.sigs (lb (xs.getD i ByteArray.empty)) ≤ wd) ∧
      (0 < i → wd < Fi.sigs (lb (xs.getD (i - 1) ByteArray.empty)) + 1 + Fi.sigs (L.headD [])) := by
  obtain ⟨L, h1, h2⟩ := line_at hx i hi
  obtain ⟨h3, h4, h5⟩ := fl_words wd _ (Pl.words_isWord (lb s)) L (List.mem_of_getElem? h1)
  refine ⟨L, h1, h2, by rw [h2, Fi.words_glue L h4], h3, by rw [h2]; exact h5, fun h0 => ?_⟩
  obtain ⟨K, g1, g2⟩ := line_at hx (i - 1) (by omega)
  have := Fi.fl_room wd (Pl.words (lb s)) [] (i - 1) K L g1 (by rw [show i - 1 + 1 = i by omega]; exact h1)
  rw [g2]; exact this

theorem signs_q (u : ByteArray) (hu : u.size ≤ 1099511627776) {w : World} (dd : Nat) (os : Array Obj) :
    Calls Try.prog 11 #[.string u] (grow (redrawn w dd) os) fun e w'' => e = .returned (.int .i64 (Fi.sigs (lb u) : Nat)) ∧ ∃ p : Regrown, w'' = grow (redrawn w p.d) p.os :=
  Calls.regrown_of (signsL_any u hu _)

set_option maxHeartbeats 16000000 in
set_option maxRecDepth 100000 in
theorem fillWords_walk (s : ByteArray) (a : Int) (hs : s.size ≤ 140737488351232) (ha : (Lit.int .u8 a).wf = true) (w : World) :
    Calls Try.prog 3 #[.string s, .int .u8 a] w fun e w' => e = .returned (.bool true) ∧ Below w.heap.size w w' := by
  obtain ⟨i0, hi0, hz0, hz1, hz2⟩ := info_parts Try.info9
  obtain ⟨n, rfl, hn⟩ := u8_nat ha
  clear ha
  obtain ⟨wd, hwd, hw1, hw2⟩ : ∃ wd : Nat, 1 + (n : Int) % 200 = (wd : Int) ∧ 1 ≤ wd ∧ wd ≤ 200 := ⟨1 + n % 200, by omega, by omega, by omega⟩
  have HWd := Lib.hid hwd
  clear hwd
  by_cases hz : s.size ≤ 3000
  · have hzi : decide ((3000 : Int) < (s.size : Int)) = false := by simp; omega
    go_enter Try.func3, Try.ntmps3
    go_wp2_with fail
    refine (alive_any w).mono ?_
    rintro e w1 ⟨rfl, b1⟩
    have B1 := Lib.hid b1
    clear b1
    go_wp2_with fail
    rw [HWd.out]
    refine (fill_ok s (by omega) wd hw1 hw2 w1).mono ?_
    rintro e w2 ⟨xs, a1, c1, rfl, own2, hx, hl1, b2⟩
    have HX := Lib.hid hx
    have B2 := Lib.hid (B1.out.trans (b2.mono B1.out.size))
    have O2 := Lib.hid own2
    have hWl : (Pl.words (lb s)).length ≤ 3001 := by
      have h4 := length_wt (Pl.words (lb s))
      have h5 := wt_words (lb s)
      rw [sg_len] at h5
      omega
    clear hx b2 own2
    go_wp2_with fail
    go_loopw [8, 9] (fun v i wr => ∃ (k : Nat) (al : List ByteArray), k ≤ xs.length ∧ i = .int .i64 k ∧ wr.ownsRow w1.heap.size 9 1 v al.length (al.map Value.string) ∧ al.map lb = ((Fi.fl wd [] (Pl.words (lb s))).take k).flatten ∧ wr.ownsRow w1.heap.size 9 1 (.slice a1 xs.length c1) xs.length (xs.map Value.string) ∧ (v.ownBlock = none ∨ v.ownBlock ≠ (Value.slice a1 xs.length c1).ownBlock) ∧ Below w.heap.size w wr) (fun _ i _ => xs.length - (intOf i).toNat)
    case atStart => exact ⟨0, [], Nat.zero_le _, rfl, World.ownsRow_nil _ _ _ _, by simp, O2.out, .inl rfl, B2.out⟩
    case round =>
      obtain ⟨k, al, hk, rfl, hown, hal, hrow, hne, hb⟩ := hrel
      have HAl := Lib.hid hal
      have HO := Lib.hid hown
      have HR := Lib.hid hrow
      have HNe := Lib.hid hne
      have HB := Lib.hid hb
      clear hal hown hrow hne hb
      by_cases hlt : k < xs.length
      · obtain ⟨g, rfl, hc⟩ := own_at HR.out k hlt
        have hus := line_size HX.out k hlt
        obtain ⟨L, f1, f2, f3, f4, f5, f6⟩ := line_facts HX.out k hlt
        have hki : (k : Int) < (xs.length : Int) := by omega
        obtain ⟨u, hu⟩ : ∃ u, xs.getD k ByteArray.empty = u := ⟨_, rfl⟩
        rw [hu] at hc hus f2 f3 f5
        have F1 := Lib.hid f1
        have F2 := Lib.hid f2
        have F3 := Lib.hid f3
        have F4 := Lib.hid f4
        have F5 := Lib.hid f5
        have F6 := Lib.hid f6
        have HU := Lib.hid hu
        clear f1 f2 f3 f4 f5 f6 hu
        go_wp2_with fail
        refine (words_any u (by omega) _).mono ?_
        rintro e w3 ⟨v3, ws, rfl, own3, hws, hwl, b3⟩
        obtain ⟨a3, c3, hv3⟩ := lenOf own3
        subst hv3
        have HW := Lib.hid (hws.trans F3.out)
        have hpos : 0 < ws.length := by
          rcases Nat.eq_zero_or_pos ws.length with h | h
          · exfalso
            have h2 := HW.out
            rw [List.eq_nil_of_length_eq_zero h] at h2
            exact F4.out h2.symm
          · exact h
        obtain ⟨g3, rfl, hc3⟩ := own_at own3 0 hpos
        have hcu : w3.cell? ⟨g, k, none⟩ = some (.string u) := by
          rw [b3.cell (p := ⟨g, k, none⟩) (HR.out.lt g rfl).2]; exact hc
        have hws1 : wt (ws.map lb) ≤ u.size + 1 := by
          rw [hws]
          have := wt_words (lb u)
          rw [sg_len] at this
          exact this
        have HR3 := Lib.hid (own_below HR.out b3)
        have HO3 := Lib.hid (own_below HO.out b3)
        have HB3 := Lib.hid (HB.out.trans (b3.mono HB.out.size))
        have HN3 := Lib.hid own3
        have HHead : Hid (L.headD [] = lb (ws.getD 0 ByteArray.empty)) := Lib.hid (by
          rw [← HW.out]
          cases ws with
          | nil => simp at hpos
          | cons x r => rfl)
        have h0s : (ws.getD 0 ByteArray.empty).size ≤ u.size + 1 := by
          have h1 : ws.map lb = lb (ws.getD 0 ByteArray.empty) :: (ws.drop 1).map lb := by
            have := drop_at ws 0 hpos
            simpa using this
          rw [h1, wt_cons, sg_len] at hws1
          omega
        have HWs1 := Lib.hid hws1
        have gsz := b3.size
        clear hws own3 b3 hws1 hc
        obtain ⟨u0, hu0⟩ : ∃ u0, ws.getD 0 ByteArray.empty = u0 := ⟨_, rfl⟩
        rw [hu0] at hc3 h0s HHead
        have HU0 := Lib.hid hu0
        clear hu0
        have n0 : decide (ws.length = 0) = false := decide_eq_false (by omega)
        have n0' : ((ws.length : Int) == 0) = false := beq_eq_false_iff_ne.2 (by omega)
        have q1 := cell_regrown hcu
        have q2 := cell_regrown hc3
        have hsu := Fi.sigs_le (lb u)
        have hsu0 := Fi.sigs_le (lb u0)
        rw [sg_len] at hsu hsu0
        have hgL : ∀ j, j < xs.length → w3.cell? ⟨g, j, none⟩ = some (.string (xs.getD j ByteArray.empty)) := fun j hj => by
          obtain ⟨g', e, hc⟩ := own_at HR3.out j hj
          obtain rfl : g = g' := by injection e with e; injection e
          exact hc
        have HGL := Lib.hid hgL
        clear hgL
        have hlen : (ws.length = 1 ∧ decide (1 < ws.length) = false ∧ decide ((1 : Int) < (ws.length : Int)) = false) ∨ (decide (1 < ws.length) = true ∧ decide ((1 : Int) < (ws.length : Int)) = true ∧ decide (wd < Fi.sigs (lb u)) = false ∧ decide ((wd : Int) < ((Fi.sigs (lb u) : Nat) : Int)) = false) := by
          by_cases h : ws.length = 1
          · exact .inl ⟨h, by simp; omega, by simp; omega⟩
          · have h2 := F5.out (by rw [← HW.out, List.length_map]; omega)
            exact .inr ⟨by simp; omega, by simp; omega, by simp; omega, by simp; omega⟩
        have hk0 : (k = 0 ∧ decide (0 < k) = false ∧ decide ((0 : Int) < (k : Int)) = false) ∨ (0 < k) := by
          rcases Nat.eq_zero_or_pos k with h | h
          · exact .inl ⟨h, by simp; omega, by simp; omega⟩
          · exact .inr h
        rcases hk0 with ⟨hk1, hk2, hk3⟩ | hk1
        rotate_left
        have hpc := HGL.out (k - 1) (by omega)
        have hps := line_size HX.out (k - 1) (by omega)
        have hroom := F6.out hk1
        rw [HHead.out] at hroom
        generalize xs.getD (k - 1) ByteArray.empty = p at *
        have hsp := Fi.sigs_le (lb p)
        rw [sg_len] at hsp
        have r1 : decide (0 < k) = true := by simp; omega
        have r2 : decide ((0 : Int) < (k : Int)) = true := by simp; omega
        have r3 : IntKind.i64.wrap ((k : Int) - 1) = (k : Int) - 1 := IntWalk.i64_in _ (by omega)
        have r4 : (0 : Int) ≤ (k : Int) - 1 := by omega
        have r5 : (k : Int) - 1 < (xs.length : Int) := by omega
        have r6 : ((k : Int) - 1).toNat = k - 1 := by omega
        have r7 : IntKind.i64.wrap (((Fi.sigs (lb p) : Nat) : Int) + 1) = ((Fi.sigs (lb p) : Nat) : Int) + 1 := IntWalk.i64_in _ (by omega)
        have r8 : IntKind.i64.wrap (((Fi.sigs (lb p) : Nat) : Int) + 1 + ((Fi.sigs (lb u0) : Nat) : Int)) = ((Fi.sigs (lb p) : Nat) : Int) + 1 + ((Fi.sigs (lb u0) : Nat) : Int) := IntWalk.i64_in _ (by omega)
        have r9 : decide (((Fi.sigs (lb p) : Nat) : Int) + 1 + ((Fi.sigs (lb u0) : Nat) : Int) ≤ (wd : Int)) = false := by simp; omega
        have q3 := cell_regrown hpc
        clear hroom
        all_goals
          rcases hlen with ⟨m1, m2, m3⟩ | ⟨m2, m3, m4, m5⟩
          all_goals
            try clear m1
            clear hk1
            go_wp2_with fail
            refine wp_region_quiet_below (by kernel_rfl) (by kernel_rfl) ?_
            repeat (any_goals (first | go_big_quiet_step ((go_at_call 11; exact signs_q _ (by omega) _ _)) | quiet_step ((go_at_call 11; exact signs_q _ (by omega) _ _))))
            refine wpQuiet_nil ?_
            intro _ hw'
            obtain ⟨⟨dq, osq⟩, rfl⟩ := hw'
            have b5 := below_regrown w3 dq osq
            try clear r1 r2 r3 r4 r5 r6 r7 r8 r9 q3 hsp
            try clear hk2 hk3
            try clear m4 m5
            clear q1 q2 m2 m3 n0 n0'
            obtain ⟨w5, hw5⟩ : ∃ x, x = grow (redrawn w3 dq) osq := ⟨_, rfl⟩
            dsimp only
            rw [← hw5] at b5 ⊢
            have hcu5 : w5.cell? ⟨g, k, none⟩ = some (.string u) := (b5.cell (p := ⟨g, k, none⟩) (HR3.out.lt g rfl).2).trans hcu
            have hc5 : w5.cell? ⟨g3, 0, none⟩ = some (.string u0) := (b5.cell (p := ⟨g3, 0, none⟩) (HN3.out.lt g3 rfl).2).trans hc3
            have HR5 := Lib.hid (own_below HR3.out b5)
            have HO5 := Lib.hid (own_below HO3.out b5)
            have HN5 := Lib.hid (own_below HN3.out b5)
            have HB5 := Lib.hid (HB3.out.trans (b5.mono HB3.out.size))
            have gsz5 := b5.size
            clear b5 hw5 hcu hc3
            go_wp2_with fail
            go_loop [11, 12] (fun t i => ∃ (j : Nat) (y : ByteArray), 1 ≤ j ∧ j ≤ ws.length ∧ i = .int .i64 j ∧ t = .string y ∧ lb y = Fi.glue ((ws.take j).map lb)) (fun _ i => ws.length - (intOf i).toNat)
            case atStart => exact ⟨1, u0, Nat.le_refl _, hpos, rfl, rfl, by rw [glueT_one ws hpos, HU0.out]⟩
            case round =>
              obtain ⟨j, y, hj1, hj2, rfl, rfl, hy⟩ := hrel
              have hys : y.size ≤ u.size + 1 := by
                have h1 := glue_wt ((ws.take j).map lb)
                have h2 := wt_take (ws.map lb) j
                rw [← List.map_take] at h2
                rw [← hy, sg_len] at h1
                have h3 := HWs1.out
                omega
              have HY := Lib.hid hy
              clear hy
              by_cases hjl : j < ws.length
              · have hji : (j : Int) < (ws.length : Int) := by omega
                obtain ⟨g', e', hcj⟩ := own_at HN5.out j hjl
                obtain rfl : g3 = g' := by injection e' with e'; injection e'
                have HG := Lib.hid (glueT_succ ws j (by omega) hjl)
                have hvs : (ws.getD j ByteArray.empty).size ≤ u.size + 1 := by
                  have h1 := drop_at ws j hjl
                  have h2 : wt (ws.map lb) = wt ((ws.take j).map lb) + wt ((ws.drop j).map lb) := by
                    rw [← wt_append, ← List.map_append, List.take_append_drop]
                  rw [h1, wt_cons, sg_len] at h2
                  have h3 := HWs1.out
                  omega
                clear e'
                generalize ws.getD j ByteArray.empty = v at *
                go_wp2_with fail
                go_round
                case rel =>
                  refine ⟨j + 1, _, by omega, by omega, by go_num, rfl, ?_⟩
                  rw [HG.out, ← HY.out]
                  simp [lb]
                case measure => simp [intOf]; omega
              · obtain rfl : j = ws.length := by omega
                have hyu : y = u := bytes_ext (by
                  have h1 := HY.out
                  rw [List.take_length, HW.out, ← F2.out] at h1
                  exact h1)
                have t1 : (y.toList == u.toList) = true := by rw [hyu]; simp
                have t2 : (y.toList != u.toList) = false := by rw [hyu]; simp
                have hfl := flat_len wd (Pl.words (lb s)) (k + 1)
                have hfs := flat_succ _ k L F1.out
                rw [hfs, ← HAl.out, ← HW.out, List.length_append, List.length_map, List.length_map] at hfl
                have HFs := Lib.hid hfs
                have hB1 := HB.out.size
                have hO1 := B1.out.size
                have hww : w1.heap.size ≤ w5.heap.size := Nat.le_trans (Nat.le_of_lt (HR5.out.lt g rfl |> fun h => Nat.lt_of_le_of_lt h.1 h.2)) (Nat.le_refl _)
                have hgg : g < w5.heap.size := (HR5.out.lt g rfl).2
                clear hyu hfs
                go_wp2_with (at_builtin; go_must (refine wpList_append_lies _ rfl _ _ 23 rfl w1.heap.size 9 i0 (.string ByteArray.empty) 1 16 Try.underlying23 hi0 hz0 hz1 hz2 rfl (by decide) _ al.length _ rfl HO5.out ⟨g3, 0, none⟩ ws.length c3 (ws.map Value.string) rfl (by simp) (HN5.out.cells (g := g3) rfl) (by intro x hx; obtain ⟨z, _, rfl⟩ := List.mem_map.1 hx; rfl) hpos (by unfold maxLen; omega) (by omega) hww w5.heap.size rfl ?_; intro g6 cap6 w6 hown6 hgrow6 hat6 hlt6))
                have hb6 : Below w.heap.size w w6 := HB5.out.grown hgrow6 HB5.out.size (fun i hi => Nat.le_trans hO1 (HO5.out.lt i hi).1)
                have hne6 : (Value.slice (some ⟨g6, 0, none⟩) (al.length + ws.length) cap6).ownBlock ≠ (Value.slice (some ⟨g, 0, none⟩) xs.length c1).ownBlock := by
                  intro e
                  obtain rfl : g6 = g := by simpa [Value.ownBlock] using e
                  rcases hat6 with h | h
                  · rcases HNe.out with h2 | h2
                    · have h3 := h2.symm.trans h
                      cases h3
                    · exact h2 h
                  · omega
                have hr6 := HR5.out.kept hgrow6 (by
                  rcases HNe.out with h2 | h2
                  · refine .inr (fun e => ?_)
                    have h3 := h2.symm.trans e.symm
                    cases h3
                  · exact .inr (fun e => h2 e.symm))
                go_roundw
                case rel =>
                  refine ⟨k + 1, al ++ ws, by omega, by go_num, ?_, ?_, hr6, .inr hne6, hb6⟩
                  · rw [List.length_append, List.map_append]; exact hown6
                  · rw [List.map_append, HAl.out, HW.out, HFs.out]
                case measure => simp [intOf]; omega
      · obtain rfl : k = xs.length := by omega
        have hfl : (Fi.fl wd [] (Pl.words (lb s))).length = xs.length := by
          have h1 := congrArg List.length HX.out
          unfold Fi.linesOf at h1
          rw [List.length_map, List.length_map] at h1
          exact h1.symm
        have hal := HAl.out
        rw [List.take_of_length_le (by omega)] at hal
        have hff := Fi.fl_flatten wd (Pl.words (lb s)) []
        rw [List.nil_append] at hff
        rw [hff] at hal
        have HAll := Lib.hid hal
        clear hal hff hfl
        go_wp2_with fail
        refine (words_any s (by omega) _).mono ?_
        rintro e w3 ⟨v3, ws, rfl, own3, hws, hwl, b3⟩
        obtain rfl : al = ws := lbsInj (HAll.out.trans hws.symm)
        obtain ⟨a3, c3, hv3⟩ := lenOf own3
        subst hv3
        have hO3 := own_below HO.out b3
        obtain ⟨a4, c4, hv4⟩ := lenOf hO3
        have HO3 := Lib.hid hO3
        have HN3 := Lib.hid own3
        have HB3 := Lib.hid (HB.out.trans (b3.mono HB.out.size))
        clear hO3 own3 b3 hws
        subst hv4
        go_wp2_with fail
        refine (sameTexts_any a4 a3 al.length al.length c4 c3 al al w3 rfl rfl (by omega) (by omega) (TR.of_own HO3.out).2 (TR.of_own HN3.out).2).mono ?_
        rintro e w4 ⟨rfl, q, hq⟩
        have b4 : Below w.heap.size w w4 := by rw [← hq]; exact below_drewN HB3.out q
        have B4 := Lib.hid b4
        clear hq b4
        go_wp2_with fail
        go_ret
        exact ⟨ret_bool (by simp), B4.out⟩
  · have hzi : (3000 : Int) < (s.size : Int) := by omega
    go_enter Try.func3, Try.ntmps3
    go_wp2_with fail
    refine (alive_any w).mono ?_
    rintro e w1 ⟨rfl, b1⟩
    have B1 := Lib.hid b1
    clear b1
    go_wp2_with fail
    refine (alive_any w1).mono ?_
    rintro e w2 ⟨rfl, b2⟩
    have B2 := Lib.hid (B1.out.trans (b2.mono B1.out.size))
    clear b2
    go_wp2_with fail
    go_ret
    exact ⟨rfl, B2.out⟩
end Go.Proofs.Ytlgodkjbilkloaa
