/-
  PagesNotes: the walk.
-/
import Derived.Test.YtlgodkjbilkloaaDoorPgR
import Derived.Test.YtlgodkjbilkloaaDoorPgG
namespace Go.Proofs.YtlgodkjbilkloaaDoor
open Go.RowKit
set_option linter.unusedVariables false

theorem lb_app (a b : ByteArray) : lb (a ++ b) = lb a ++ lb b := by simp [lb]
theorem sum_in (r : Int) (a s b : Nat) (h : r = (a : Nat)) (hb : b = a + s) (hs : b ≤ 9223372036854775807) : wrap64 (r + (s : Int)) = ((b : Nat) : Int) := by
  subst h hb
  rw [IntWalk.wrap64_in _ (by omega)]
  push_cast
  rfl
theorem below_none {w w' : World} (h : w.grownBy w' (Value.slice none 0 0).ownBlock) : Below w.heap.size w w' := ⟨h.os, h.tape, h.output, h.size, fun k hk => h.block k hk (by simp [Value.ownBlock])⟩
theorem ne_kids {v : Value} {H : Nat} {hs : List Nat} (hat : v.ownBlock = (Value.slice none 0 0).ownBlock ∨ v.ownBlock = some H) (hl : ∀ i (h : i < hs.length), hs[i] < H) : ∀ i (h : i < hs.length), v.ownBlock ≠ some hs[i] := by
  intro i h e
  rcases hat with h1 | h1
  · rw [h1] at e; cases e
  · rw [h1] at e
    have := hl i h
    injection e with e
    omega
set_option maxHeartbeats 8000000 in
set_option maxRecDepth 100000 in
theorem pagesNotes_walk (w : World) (A : Option Addr) (n c : Nat) (xs : List ByteArray) (B : Option Addr) (m d : Nat) (ys : List ByteArray) (f0 : Int) (hx : xs.length = n) (hA : TR w A xs) (hn : n ≤ 8796093022208) (hsx : ∀ i, (xs.getD i ByteArray.empty).size ≤ 140737488351232)
    (hy : ys.length = m) (hB : TR w B ys) (hm : m ≤ 8796093022208) (hsy : ∀ i, (ys.getD i ByteArray.empty).size ≤ 140737488351232) (hf0 : (Lit.int .u8 f0).wf = true) (hP : Pow10 w) (gp : Nat) (hgp : Pow10At gp) :
    Calls Tryd.prog 4 #[.slice A n c, .slice B m d, .int .u8 f0] w fun e w' => e = .returned (.bool true) ∧ Below w.heap.size w w' := by
  have HP := Lib.hid hP
  have hgl := hP.lt hgp
  have HA := Lib.hid hA
  have HB := Lib.hid hB
  have HX := Lib.hid hx
  have HY := Lib.hid hy
  have HSX := Lib.hid hsx
  have HSY := Lib.hid hsy
  obtain ⟨f, rfl, hf⟩ : ∃ f : Nat, f0 = (f : Int) ∧ f ≤ 255 := by
    simp only [Lit.wf, Bool.and_eq_true, decide_eq_true_eq] at hf0
    have h1 : IntKind.u8.min = 0 := rfl
    have h2 : IntKind.u8.max = 255 := rfl
    rw [h1, h2] at hf0
    exact ⟨f0.toNat, by omega, by omega⟩
  clear hP hA hB hx hy hsx hsy hf0
  go_enter Tryd.func4, Tryd.ntmps4
  go_wp2_with fail
  go_loop [7, 8] (fun t i => ∃ k : Nat, k ≤ n ∧ i = .int .i64 k ∧ ∃ r : Int, t = .int .i64 r ∧ Hid (n ≤ 100 → r = (szs xs k : Nat))) (fun _ i => n - (intOf i).toNat)
  case atStart => exact ⟨0, Nat.zero_le _, rfl, 0, rfl, Lib.hid (fun _ => rfl)⟩
  case round =>
    obtain ⟨k, hk, rfl, r, rfl, HR⟩ := hrel
    by_cases hlt : k < n
    · have k2 : k < xs.length := by have := HX.out; omega
      obtain ⟨b, off, rfl, hbl, hc⟩ := HA.out.at k k2
      have hki : (k : Int) < (n : Int) := by omega
      have hus := HSX.out k
      have HT : Hid (szs xs (k + 1) = szs xs k + (xs.getD k ByteArray.empty).size) := Lib.hid rfl
      have HL := Lib.hid (szs_le xs HSX.out k)
      have e1 : xs.getD k ByteArray.empty = xs[k] := by rw [List.getD_eq_getElem?_getD, List.getElem?_eq_getElem k2]; rfl
      rw [e1] at HT hus
      clear e1
      generalize xs[k] = u at *
      go_wp2_with fail
      go_round
      case rel => exact ⟨k + 1, by omega, by go_num, _, rfl, Lib.hid (fun h => by have h1 := HT.out; have h2 := HR.out h; have h3 := HL.out; exact sum_in _ _ _ _ h2 h1 (by omega))⟩
      case measure => simp [intOf]; omega
    · obtain rfl : k = n := by omega
      go_wp2_with fail
      go_loop [7, 9] (fun t i => ∃ j : Nat, j ≤ m ∧ i = .int .i64 j ∧ ∃ r : Int, t = .int .i64 r ∧ Hid (k ≤ 100 → m ≤ 100 → r = (szs xs k : Nat) + (szs ys j : Nat))) (fun _ i => m - (intOf i).toNat)
      case atStart => exact ⟨0, Nat.zero_le _, rfl, _, rfl, Lib.hid (fun h _ => by rw [HR.out h]; simp [szs])⟩
      case round =>
        obtain ⟨j, hj, rfl, r, rfl, HR⟩ := hrel
        by_cases hjt : j < m
        · have k2 : j < ys.length := by have := HY.out; omega
          obtain ⟨b, off, rfl, hbl, hc⟩ := HB.out.at j k2
          have hki : (j : Int) < (m : Int) := by omega
          have hus := HSY.out j
          have HT : Hid (szs ys (j + 1) = szs ys j + (ys.getD j ByteArray.empty).size) := Lib.hid rfl
          have HL := Lib.hid (szs_le ys HSY.out j)
          have HL2 := Lib.hid (szs_le xs HSX.out k)
          have e1 : ys.getD j ByteArray.empty = ys[j] := by rw [List.getD_eq_getElem?_getD, List.getElem?_eq_getElem k2]; rfl
          rw [e1] at HT hus
          clear e1
          generalize ys[j] = u at *
          go_wp2_with fail
          go_round
          case rel => exact ⟨j + 1, by omega, by go_num, _, rfl, Lib.hid (fun h h' => by have h1 := HT.out; have h2 := HR.out h h'; have h3 := HL.out; have h4 := HL2.out; rw [sum_in _ (szs xs k + szs ys j) _ _ (by rw [h2]; simp) (rfl : szs xs k + szs ys j + u.size = _) (by omega), h1]; push_cast; omega)⟩
          case measure => simp [intOf]; omega
        · obtain rfl : j = m := by omega
          by_cases hr : r ≤ 5000
          · have hri : decide ((5000 : Int) < r) = false := by simp; omega
            by_cases hkj : k + j ≤ 100
            · have hkji : decide ((100 : Int) < (k : Int) + (j : Int)) = false := by simp; omega
              have hsum := HR.out (by omega) (by omega)
              have hszx : ∀ i (h : i < xs.length), xs[i].size ≤ 100000 := fun i h => by have h1 := szs_elem xs i h; rw [HX.out] at h1; omega
              have hszy : ∀ i (h : i < ys.length), ys[i].size ≤ 100000 := fun i h => by have h1 := szs_elem ys i h; rw [HY.out] at h1; omega
              have ZX := Lib.hid hszx
              have ZY := Lib.hid hszy
              clear hsum hszx hszy HR
              go_wp2_with fail
              refine (notes_any A k c xs w HX.out (by omega) HA.out).mono ?_
              rintro e w1 ⟨v1, hs1, rfl, hz1, r1, b1⟩
              have Z1 := Lib.hid hz1
              have R1 := Lib.hid r1
              have B1 := Lib.hid b1
              clear hz1 r1 b1
              go_wp2_with fail
              refine (notes_any B j d ys w1 HY.out (by omega) (HB.out.below B1.out)).mono ?_
              rintro e w2 ⟨v2, hs2, rfl, hz2, r2, b2⟩
              have Z2 := Lib.hid hz2
              have R1b := Lib.hid (R1.out.below b2)
              have R2 := Lib.hid (r2.base B1.out.size)
              have B2 := Lib.hid (B1.out.trans (b2.mono B1.out.size))
              clear hz2 r2 b2 R1 B1
              go_wp2_with fail
              refine (spans_row gp hgp w.heap.size k xs v1 hs1 w2 R1b.out HX.out (by omega) ZX.out f ⟨by omega, by omega⟩ (HP.out.below hgp B2.out hgl)).mono ?_
              rintro e w3 ⟨a3, c3, rfl, o3, b3⟩
              have R1 := Lib.hid (R1b.out.below b3)
              have R2' := Lib.hid (R2.out.below b3)
              have B3 := Lib.hid (B2.out.trans (b3.mono B2.out.size))
              obtain ⟨sx, hsx⟩ : ∃ x : ByteArray, x = ⟨(hdsF f k).toArray⟩ := ⟨_, rfl⟩
              rw [← hsx]
              have SX := Lib.hid (show lb sx = hdsF f k by rw [hsx, lb_toArray])
              clear o3 b3 R1b R2 B2 hsx
              go_wp2_with fail
              refine (spans_row gp hgp w.heap.size j ys v2 hs2 w3 R2'.out HY.out (by omega) ZY.out ((f : Int) + (k : Int)) ⟨by omega, by omega⟩ (HP.out.below hgp B3.out hgl)).mono ?_
              rintro e w4 ⟨a4, c4, rfl, o4, b4⟩
              have R1' := Lib.hid (R1.out.below b4)
              have R2 := Lib.hid (R2'.out.below b4)
              have B4 := Lib.hid (B3.out.trans (b4.mono B3.out.size))
              obtain ⟨sy, hsy⟩ : ∃ x : ByteArray, x = ⟨(hdsF ((f : Int) + (k : Int)) j).toArray⟩ := ⟨_, rfl⟩
              rw [← hsy]
              have SY := Lib.hid (show lb sy = hdsF ((f : Int) + (k : Int)) j by rw [hsy, lb_toArray])
              clear o4 b4 R1 R2' B3 hsy
              have hB4 := B4.out.size
              have KL := Lib.hid (fun (i : Nat) (h : i < hs2.length) => R2.out.kid_lt HY.out i h)
              go_wp2_with
                first
                | (at_builtin; refine wpList_append_notes rfl (.const (.slice none 0 0)) (.tmp 81) rfl w.heap.size 0 k (.slice none 0 0) v1 [] hs1 [] xs rfl rfl (NtRow.nil _) rfl R1'.out HX.out Z1.out (fun _ => rfl) (fun j h => by simp [Value.ownBlock]) (by omega) hB4 ?_; intro v5 w5 r5 hat5 hgr5 hz5; simp only [List.nil_append, Nat.zero_add] at r5 hz5; have b5 := below_none hgr5; have R5 := Lib.hid r5; have R25 := Lib.hid (R2.out.below b5); have Z5 := Lib.hid hz5; have NE5 := Lib.hid (ne_kids hat5 KL.out); have B5 := Lib.hid (B4.out.trans (b5.mono hB4)); have hB5 := B5.out.size; clear r5 hat5 hgr5 hz5 b5)
                | (at_builtin; refine wpList_append_notes rfl (.tmp 82) (.tmp 83) rfl w.heap.size k j v5 v2 hs1 hs2 xs ys rfl rfl R5.out HX.out R25.out HY.out Z2.out Z5.out NE5.out (by omega) hB5 ?_; intro v6 w6 r6 hat6 hgr6 hz6; have R6 := Lib.hid r6; have B6 := Lib.hid (B5.out.grown hgr6 hB5 (fun q e => (R5.out.own.lt q e).1)); clear r6 hat6 hgr6 hz6)
              have hxy : (xs ++ ys).length = k + j := by rw [List.length_append, HX.out, HY.out]
              have hzz : ∀ i (h : i < (xs ++ ys).length), (xs ++ ys)[i].size ≤ 100000 := fun i h => by
                rw [List.getElem_append]
                split
                · exact ZX.out _ _
                · exact ZY.out _ _
              refine (spans_row gp hgp w.heap.size (k + j) (xs ++ ys) v6 (hs1 ++ hs2) w6 R6.out hxy (by omega) hzz f ⟨by omega, by omega⟩ (HP.out.below hgp B6.out hgl)).mono ?_
              rintro e w7 ⟨a7, c7, rfl, o7, b7⟩
              have B7 := Lib.hid (B6.out.trans (b7.mono B6.out.size))
              have O7 := Lib.hid o7
              have HXY := Lib.hid hxy
              have ZZ := Lib.hid hzz
              have hss : (⟨(hdsF f (k + j)).toArray⟩ : ByteArray) = sx ++ sy := bytes_ext (by show lb _ = lb _; rw [lb_app, SX.out, SY.out, lb_toArray, hdsF_add])
              rw [hss]
              have lx : sx.size ≤ 10400 := by rw [← lb_sz, SX.out]; have := hdsF_len f (by omega) (by omega) k (by omega); omega
              have ly : sy.size ≤ 10400 := by rw [← lb_sz, SY.out]; have := hdsF_len ((f : Int) + (k : Int)) (by omega) (by omega) j (by omega); omega
              have hcc : ((sx ++ sy).toList == (sx ++ sy).toList) = true := by simp
              clear o7 b7 hxy hzz hss SX SY R6 B6 R1' R2 B4 R5 R25 B5 NE5 KL Z1 Z2 Z5
              go_wp2_with fail
              clear hcc lx ly
              go_loopw [18] (fun i wr => ∃ q : Nat, q ≤ k + j ∧ i = .int .i64 q ∧ Below w7.heap.size w7 wr) (fun i _ => (k + j) - (intOf i).toNat)
              case atStart => exact ⟨0, Nat.zero_le _, rfl, Below.refl _ _⟩
              case round =>
                obtain ⟨q, hq, rfl, bq⟩ := hrel
                have BQ := Lib.hid bq
                have B7Q := Lib.hid (B7.out.trans (bq.mono B7.out.size))
                clear bq
                by_cases hqt : q < k + j
                · obtain ⟨g7, rfl⟩ : ∃ g7, a7 = some ⟨g7, 0, none⟩ := by
                    rcases O7.out.2 with ⟨_, h0⟩ | ⟨g, cap, cur, hv, _⟩
                    · omega
                    · injection hv with h1
                      exact ⟨g, h1⟩
                  have q2 : q < (xs ++ ys).length := by have := HXY.out; omega
                  have c7 : wr.cell? ⟨g7, q, none⟩ = some (.string (escB (xs ++ ys)[q])) := by
                    rw [(O7.out.kept (row := none) (grown_of BQ.out) (none_or' _)).cellAt q (by omega)]
                    rw [List.getElem?_map, List.getElem?_map, List.getElem?_eq_getElem q2]
                    rfl
                  have ux := ZZ.out q q2
                  have hqi : (q : Int) < (k : Int) + (j : Int) := by omega
                  by_cases hqk : q < k
                  · have q3 : q < xs.length := by have := HX.out; omega
                    obtain ⟨b, off, rfl, hbl, hc⟩ := HA.out.at q q3
                    have c1 : wr.cell? ⟨b, off + q, none⟩ = some (.string xs[q]) := (B7Q.out.cell (p := ⟨b, off + q, none⟩) hbl).trans hc
                    have hqki : (q : Int) < (k : Int) := by omega
                    rw [List.getElem_append_left q3] at c7 ux
                    clear hc
                    generalize xs[q] = u at *
                    have hes := esc_small u
                    have huu : (u.toList == u.toList) = true := by simp
                    go_wp2_with fail
                    refine (back_e (escB u) u (by unfold escB; rw [lb_toArray]) (by rw [← lb_sz]; unfold escB; rw [lb_toArray]; omega) wr).mono ?_
                    rintro e w8 ⟨rfl, b8⟩
                    have B8 := Lib.hid (BQ.out.trans (b8.mono BQ.out.size))
                    clear b8
                    go_wp2_with fail
                    go_roundw
                    case rel => exact ⟨q + 1, by omega, by go_num, B8.out⟩
                    case measure => simp [intOf]; omega
                  · have hqki : decide ((q : Int) < (k : Int)) = false := by simp; omega
                    obtain ⟨p, rfl⟩ : ∃ p, q = k + p := ⟨q - k, by omega⟩
                    have q3 : p < ys.length := by have := HY.out; omega
                    obtain ⟨b, off, rfl, hbl, hc⟩ := HB.out.at p q3
                    have c1 : wr.cell? ⟨b, off + p, none⟩ = some (.string ys[p]) := (B7Q.out.cell (p := ⟨b, off + p, none⟩) hbl).trans hc
                    have hpi : (p : Int) < (j : Int) := by omega
                    have hps : ((k + p : Nat) : Int) - (k : Int) = (p : Int) := by omega
                    have hxl := HX.out
                    have e1 : (xs ++ ys)[k + p] = ys[p] := by
                      rw [List.getElem_append_right (by omega)]
                      simp only [hxl, Nat.add_sub_cancel_left]
                    rw [e1] at c7 ux
                    clear hc e1 hxl
                    generalize ys[p] = u at *
                    have hes := esc_small u
                    have huu : (u.toList == u.toList) = true := by simp
                    go_wp2_with fail
                    refine (back_e (escB u) u (by unfold escB; rw [lb_toArray]) (by rw [← lb_sz]; unfold escB; rw [lb_toArray]; omega) wr).mono ?_
                    rintro e w8 ⟨rfl, b8⟩
                    have B8 := Lib.hid (BQ.out.trans (b8.mono BQ.out.size))
                    clear b8
                    go_wp2_with fail
                    go_roundw
                    case rel => exact ⟨k + p + 1, by omega, by go_num, B8.out⟩
                    case measure => simp [intOf]; omega
                · obtain rfl : q = k + j := by omega
                  go_wp2_with fail
                  refine (lives_any gp hgp wr (HP.out.below hgp B7Q.out hgl)).mono ?_
                  rintro e w8 ⟨rfl, b8⟩
                  have B8 := Lib.hid (B7Q.out.trans (b8.mono B7Q.out.size))
                  clear b8
                  go_wp2_with fail
                  go_ret
                  exact ⟨rfl, B8.out⟩
            · have hkji : (100 : Int) < (k : Int) + (j : Int) := by omega
              go_wp2_with fail
              refine (lives_any gp hgp w HP.out).mono ?_
              rintro e w1 ⟨rfl, b1⟩
              go_wp2_with fail
              go_ret
              exact ⟨rfl, b1⟩
          · have hri : (5000 : Int) < r := by omega
            go_wp2_with fail
            refine (lives_any gp hgp w HP.out).mono ?_
            rintro e w1 ⟨rfl, b1⟩
            go_wp2_with fail
            go_ret
            exact ⟨rfl, b1⟩
end Go.Proofs.YtlgodkjbilkloaaDoor
