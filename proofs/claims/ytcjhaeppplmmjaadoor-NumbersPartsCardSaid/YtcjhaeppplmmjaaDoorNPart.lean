/-
  NumbersParts: the walk.
-/
import Derived.Test.YtcjhaeppplmmjaaDoorAliveN
import Derived.Test.YtcjhaeppplmmjaaDoorPartP
import Derived.Laws.AppendOwnNone
namespace Go.Proofs.YtcjhaeppplmmjaaDoor
open Go.RowKit
set_option linter.unusedVariables false

/-- A slice of ints that came in: nil, or at an address. -/
def IA (w : World) (A : Option Addr) (c : Nat) (l : List Int) : Prop := (A = none ∧ c = 0 ∧ l = []) ∨ ∃ ad, A = some ad ∧ (l = [] ∨ ∃ b off, ad = ⟨b, off, none⟩ ∧ b < w.heap.size ∧ ∀ j, j < l.length → w.cell? ⟨b, off + j, none⟩ = some (.int .i64 (l.getD j 0)))
theorem IA.ir {w : World} {A : Option Addr} {c : Nat} {l : List Int} (h : IA w A c l) : IR w A l := by
  intro hn
  rcases h with ⟨_, _, rfl⟩ | ⟨ad, rfl, rfl | ⟨b, off, rfl, h⟩⟩
  · exact absurd rfl hn
  · exact absurd rfl hn
  · exact ⟨b, off, rfl, h⟩
theorem IA.below {w w' : World} {A : Option Addr} {c : Nat} {l : List Int} (h : IA w A c l) (hb : Below w.heap.size w w') : IA w' A c l := by
  rcases h with h | ⟨ad, rfl, h | ⟨b, off, rfl, hlt, hc⟩⟩
  · exact .inl h
  · exact .inr ⟨ad, rfl, .inl h⟩
  · exact .inr ⟨_, rfl, .inr ⟨b, off, rfl, Nat.lt_of_lt_of_le hlt hb.size, fun j hj => (hb.cell (p := ⟨b, off + j, none⟩) hlt).trans (hc j hj)⟩⟩
/-- append(dst, src...): dst of the call's own, src any slice of ints. -/
theorem wpList_append_ia {P : Program} {w : World} {ops : Array Oper} {rest : List Oper} {o : Oper} {a : Act} {Q : Exit → Act → World → Prop} (hgd : o.guard = none) (s x : Operand) (t : TypeId)
    (ho : o.op = .call { callee := .builtin .append, args := #[s, x], argTypes := #[t, t] })
    (base : Nat) (e : TypeId) (i : TypeInfo) (ht : P.underlying t = some (.slice e)) (hi : P.info? e = some i) (hz : i.zero = some (.int .i64 0))
    (hsize : i.size = 1) (hby : i.bytes = 8) (v : Value) (n : Nat) (xs : List Int) (hs : a.eval s = v) (hown : w.ownsRow base e 1 v n (xs.map (Value.int .i64)))
    (A : Option Addr) (m c : Nat) (l : List Int) (hx : a.eval x = .slice A m c) (hl : l.length = m) (hA : IA w A c l)
    (h63 : n + m ≤ maxLen) (hbytes : (n + m) * 8 ≤ 140737488355328) (hbase : base ≤ w.heap.size)
    (h : ∀ v' w', w'.ownsRow base e 1 v' (n + m) ((xs ++ l).map (Value.int .i64)) → w.grownBy w' v.ownBlock → wpList P ops Q rest (a.put o.dst v') w') : wpList P ops Q (o :: rest) a w := by
  rcases hA with ⟨rfl, rfl, rfl⟩ | ⟨ad, rfl, hA⟩
  · simp at hl
    subst hl
    exact wpList_append_own_none hgd s x t ho base e i 1 ht hi v n _ hs hown hx (h v w (by simpa using hown) (World.grownBy.refl w _))
  · refine wpList_append_own w hgd s x t ho base e i _ 1 8 ht hi hz hsize hby rfl (by decide) v n _ hs hown ad m c (l.map (Value.int .i64)) hx (by rw [List.length_map, hl, Nat.mul_one]) (fun j u hu => ?_) (fun u hu => ?_) h63 hbytes hbase fun v' w' h2 h3 _ => h v' w' (by rw [List.map_append]; exact h2) h3
    · rw [List.getElem?_map] at hu
      obtain ⟨y, hy, rfl⟩ := Option.map_eq_some_iff.1 hu
      have hj := (List.getElem?_eq_some_iff.1 hy).1
      rcases hA with rfl | ⟨b, off, rfl, _, hc⟩
      · simp at hj
      · rw [Addr.add_lit, hc j hj, List.getD_eq_getElem?_getD, hy]; rfl
    · obtain ⟨y, _, rfl⟩ := List.mem_map.1 hu
      rfl
theorem u8_lit' (c : UInt8) (k : UInt8) (h : ¬ c = k) : ¬ ((c.toNat : Int) = (k.toNat : Int)) := fun e => h (UInt8.toNat_inj.1 (by omega))
theorem pts_take (x : ByteArray) (j : Nat) (h : j < x.size) : Rm.pts ((lb x).take (j + 1)) = Rm.pts ((lb x).take j) + (if x[j] = 46 then 1 else 0) := by
  have : (lb x).take (j + 1) = (lb x).take j ++ [x[j]] := by
    rw [List.take_succ_eq_append_getElem (by rw [← Lib.size_eq]; exact h)]; rfl
  rw [this, Rm.pts_append, Rm.pts, Rm.pts, Nat.add_zero]
theorem pts_le (l : List UInt8) : Rm.pts l ≤ l.length := by
  induction l with
  | nil => simp [Rm.pts]
  | cons c l ih => rw [Rm.pts, List.length_cons]; split <;> omega

set_option maxHeartbeats 4000000 in
set_option maxRecDepth 100000 in
theorem numbersParts_walk (w : World) (A : Option Addr) (n c : Nat) (la : List Int) (B : Option Addr) (m d : Nat) (lb' : List Int) (hla : la.length = n) (hA : IA w A c la) (hia : Rm.inI la) (hlb : lb'.length = m) (hB : IA w B d lb') (hib : Rm.inI lb') (hN : NumIn w) :
    Calls Tryd.prog 8 #[.slice A n c, .slice B m d] w fun e w' => e = .returned (.bool true) ∧ Below w.heap.size w w' := by
  obtain ⟨i0, hi, hz0, hz1, hz2⟩ := info_parts infoInt
  have HN := Lib.hid hN
  have HA := Lib.hid hA
  have HB := Lib.hid hB
  have HLA := Lib.hid hla
  have HLB := Lib.hid hlb
  have HIA := Lib.hid hia
  have HIB := Lib.hid hib
  clear hN hA hB hla hlb hia hib
  by_cases hbig : 500 < n ∨ 500 < m
  · have hs1 : decide ((500 : Int) < (n : Int)) = decide (500 < n) := by rw [decide_eq_decide]; omega
    rcases (by omega : 500 < n ∨ (n ≤ 500 ∧ 500 < m)) with h1 | ⟨h1, h2⟩
    · have h1i : (500 : Int) < (n : Int) := by omega
      clear hbig hs1
      go_enter Tryd.func8, Tryd.ntmps8
      go_wp2_with fail
      refine (alive_any w HN.out).mono ?_
      rintro e w1 ⟨rfl, b1⟩
      go_wp2_with fail
      refine (alive_any _ (HN.out.below b1)).mono ?_
      rintro e w2 ⟨rfl, b2⟩
      go_wp2_with fail
      go_ret
      exact ⟨rfl, b1.trans (b2.mono b1.size)⟩
    · have h1i : ¬ (500 : Int) < (n : Int) := by omega
      have h2i : (500 : Int) < (m : Int) := by omega
      clear hbig hs1
      go_enter Tryd.func8, Tryd.ntmps8
      go_wp2_with fail
      refine (alive_any w HN.out).mono ?_
      rintro e w1 ⟨rfl, b1⟩
      go_wp2_with fail
      refine (alive_any _ (HN.out.below b1)).mono ?_
      rintro e w2 ⟨rfl, b2⟩
      go_wp2_with fail
      go_ret
      exact ⟨rfl, b1.trans (b2.mono b1.size)⟩
  · have h1 : n ≤ 500 := by omega
    have h2 : m ≤ 500 := by omega
    have h1i : decide ((500 : Int) < (n : Int)) = false := by simp; omega
    have h2i : decide ((500 : Int) < (m : Int)) = false := by simp; omega
    clear hbig
    go_enter Tryd.func8, Tryd.ntmps8
    go_wp2_with fail
    refine (alive_any w HN.out).mono ?_
    rintro e w1 ⟨rfl, b1⟩
    go_wp2_with fail
    have H1 := Lib.hid (HN.out.below b1)
    refine (dotted_any A n c 1 la HLA.out (by omega) HIA.out _ (HA.out.below b1).ir H1.out.2 gPow).mono ?_
    rintro e w2 ⟨⟨x, rfl, hx⟩, b2⟩
    have c2 := b1.trans (b2.mono b1.size)
    have H2 := Lib.hid (HN.out.below c2)
    have HX := Lib.hid hx
    clear b1 b2 hx H1
    go_wp2_with fail
    refine (dotted_any B m d 1 lb' HLB.out (by omega) HIB.out _ (HB.out.below c2).ir H2.out.2 gPow).mono ?_
    rintro e w3 ⟨⟨y, rfl, hy⟩, b3⟩
    have c3 := c2.trans (b3.mono c2.size)
    have H3 := Lib.hid (HN.out.below c3)
    have HY := Lib.hid hy
    have HA3 := Lib.hid (HA.out.below c3)
    have HB3 := Lib.hid (HB.out.below c3)
    clear b3 hy H2 c2
    go_wp2_with (first
      | (at_builtin; refine wpList_append_ia rfl (.const (.slice none 0 0)) (.tmp 27) 36 rfl w3.heap.size 3 i0 Tryd.underlying36 hi hz0 hz1 hz2 (.slice none 0 0) 0 [] rfl (World.ownsRow_nil _ _ _ _) A n c la rfl HLA.out HA3.out (by unfold maxLen; omega) (by omega) (Nat.le_refl _) ?_; intro v1 w4 hown1 hgrow1; have g4 := (Below.refl w3.heap.size w3).grown hgrow1 (Nat.le_refl _) (fun k hk => by cases hk); have HO := Lib.hid hown1; have HB4 := Lib.hid (HB3.out.below g4); have s4 := g4.size; clear hown1 hgrow1)
      | (at_builtin; refine wpList_append_ia rfl (.tmp 28) (.tmp 29) 36 rfl w3.heap.size 3 i0 Tryd.underlying36 hi hz0 hz1 hz2 v1 (0 + n) ([] ++ la) rfl HO.out B m d lb' rfl HLB.out HB4.out (by unfold maxLen; omega) (by omega) s4 ?_; intro v2 w5 hown2 hgrow2; have g5 := g4.grown hgrow2 s4 (fun k hk => (HO.out.lt k hk).1); have HO2 := Lib.hid hown2; clear hown2 hgrow2))
    have c5 := c3.trans (g5.mono c3.size)
    have H5 := Lib.hid (HN.out.below c5)
    obtain ⟨A2, q2, hv⟩ := own_slice HO2.out
    subst hv
    have HI2 : Hid (IR w5 A2 ([] ++ la ++ lb')) := Lib.hid (IR.of_own HO2.out).2
    have HL2 : Hid (([] ++ la ++ lb').length = 0 + n + m) := Lib.hid (IR.of_own HO2.out).1
    clear g4 g5 s4 HO HB4 HO2 HA3 HB3
    refine (dotted_any A2 (0 + n + m) q2 1 ([] ++ la ++ lb') HL2.out (by omega) (by intro v hv; rw [List.nil_append, List.mem_append] at hv; rcases hv with h | h; exact HIA.out v h; exact HIB.out v h) _ HI2.out H5.out.2 gPow).mono ?_
    rintro e w6 ⟨⟨z, rfl, hz⟩, b6⟩
    have c6 := c5.trans (b6.mono c5.size)
    have hzz : lb z = if la = [] ∨ lb' = [] then lb x ++ lb y else lb x ++ [46] ++ lb y := by
      rw [hz, HX.out, HY.out, List.nil_append, Nat.zero_add]
      have := Rm.jn_both la lb'
      rw [HLA.out, HLB.out] at this
      exact this
    have HZ := Lib.hid hzz
    clear hz hzz b6 c5 H5 HI2 HL2
    have hxl : x.size ≤ n * 22 := by
      have := Rm.jn_length [46] la HIA.out n
      rw [← HX.out] at this
      rw [Lib.size_eq]
      exact this
    have hyl : y.size ≤ m * 22 := by
      have := Rm.jn_length [46] lb' HIB.out m
      rw [← HY.out] at this
      rw [Lib.size_eq]
      exact this
    have xb : x.size ≤ 11000 := by omega
    have yb : y.size ≤ 11000 := by omega
    clear hxl hyl
    go_wp2_with fail
    go_loop [8, 9] (fun t i => ∃ j : Nat, j ≤ x.size ∧ i = .int .i64 j ∧ t = .int .i64 (Rm.pts ((lb x).take j) : Nat)) (fun _ i => x.size - (intOf i).toNat)
    case atStart => exact ⟨0, by omega, rfl, rfl⟩
    case round =>
      obtain ⟨j, hj, rfl, rfl⟩ := hrel
      by_cases hlt : j < x.size
      · have HP := Lib.hid (pts_take x j hlt)
        have hle : Rm.pts ((lb x).take j) ≤ j := Nat.le_trans (pts_le _) (List.length_take_le _ _)
        by_cases h46 : x[j] = 46
        · have hb : ((x[j].toNat : Int) == 46) = true := by rw [h46]; rfl
          have HP' : Hid (Rm.pts ((lb x).take (j + 1)) = Rm.pts ((lb x).take j) + 1) := Lib.hid (by rw [HP.out, if_pos h46])
          clear h46
          go_wp2_with fail
          go_round
          case rel => exact ⟨j + 1, by omega, by go_num, by rw [HP'.out]; go_num⟩
          case measure => simp [intOf]; omega
        · have hb : ((x[j].toNat : Int) == 46) = false := by
            have := u8_lit' x[j] 46 h46
            simpa using this
          have HP' : Hid (Rm.pts ((lb x).take (j + 1)) = Rm.pts ((lb x).take j)) := Lib.hid (by rw [HP.out, if_neg h46]; rfl)
          clear h46
          go_wp2_with fail
          go_round
          case rel => exact ⟨j + 1, by omega, by go_num, by rw [HP'.out]⟩
          case measure => simp [intOf]; omega
      · obtain rfl : j = x.size := by omega
        have hpt : Rm.pts ((lb x).take x.size) = n - 1 := by
          rw [List.take_of_length_le (by rw [Lib.size_eq]; exact Nat.le_refl _), HX.out, Rm.jn_pts]
        rw [hpt]
        have hmx : max ((n : Int) - 1) 0 = ((n - 1 : Nat) : Int) := by omega
        obtain ⟨k, hk⟩ : ∃ k, k = n - 1 := ⟨_, rfl⟩
        rw [← hk] at hmx ⊢
        clear hpt hlt hj
        by_cases hn0 : n = 0
        · have hx0 : lb x = [] := by rw [HX.out, hn0]; rfl
          have hxe := isEmpty_yes x hx0
          have hla : la = [] := List.eq_nil_of_length_eq_zero (HLA.out.trans hn0)
          have hzq : (z.toList == (x ++ y).toList) = true := by
            rw [beq_iff_eq, Lib.toList_data, Lib.toList_data, show z.data.toList = lb z from rfl, HZ.out, if_pos (.inl hla)]
            simp [lb]
          have hn0b : ((n : Int) == 0) = true := by simp; omega
          clear hx0 hla hk hn0
          go_wp2_with fail
          go_ret
          exact ⟨ret_bool (by simp), c6⟩
        · have hx0 : x.size ≠ 0 := by
            intro h
            have : lb x = [] := List.eq_nil_of_length_eq_zero (by rw [← Lib.size_eq]; exact h)
            rw [HX.out, Rm.jn_nil] at this
            exact hn0 this
          have hxe := isEmpty_no x hx0
          have hne : la ≠ [] := by intro h; have := HLA.out; rw [h] at this; simp at this; omega
          have n1 : (0 : Int) ≤ (n : Int) - 1 := by omega
          have hn0b : ((n : Int) == 0) = false := by simp; omega
          have hkn : (n : Int) - 1 = (k : Int) := by omega
          clear hk hx0 hmx
          by_cases hm0 : m = 0
          · subst hm0
            have hlb : lb' = [] := List.eq_nil_of_length_eq_zero HLB.out
            have hzq : (z.toList == (x ++ y).toList) = true := by
              rw [beq_iff_eq, Lib.toList_data, Lib.toList_data, show z.data.toList = lb z from rfl, HZ.out, if_pos (.inr hlb)]
              simp [lb]
            clear hlb hne hn0
            go_wp2_with fail
            go_ret
            exact ⟨ret_bool (by simp), c6⟩
          · have hne2 : lb' ≠ [] := by intro h; have := HLB.out; rw [h] at this; simp at this; omega
            have hm0b : ((m : Int) == 0) = false := by simp; omega
            have hzq : (z.toList == (x ++ ⟨#[46]⟩ ++ y).toList) = true := by
              rw [beq_iff_eq, Lib.toList_data, Lib.toList_data, show z.data.toList = lb z from rfl, HZ.out, if_neg (by simp [hne, hne2])]
              simp [lb]
            clear hne hne2 hn0 hm0
            go_wp2_with fail
            go_ret
            exact ⟨ret_bool (by simp), c6⟩
end Go.Proofs.YtcjhaeppplmmjaaDoor
