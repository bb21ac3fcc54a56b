/-
  LettersJoins: the walk.
-/
import Derived.Test.YtdjfbhdkfdkjnaaAliveW
import Derived.Test.YtdjfbhdkfdkjnaaOrders
import Derived.Test.YtdjfbhdkfdkjnaaNamed
import Derived.Deep.DeepMust
import Derived.Laws.AppendOwnNone
namespace Go.Proofs.Ytdjfbhdkfdkjnaa
open Go.RowKit

/-- append(dst, src...): both of the call's own, nil or not. -/
theorem wpList_append_row {P : Program} {w : World} {ops : Array Oper} {rest : List Oper} {o : Oper} {a : Act} {Q : Exit → Act → World → Prop} (hgd : o.guard = none) (s x : Operand) (t : TypeId)
    (ho : o.op = .call { callee := .builtin .append, args := #[s, x], argTypes := #[t, t] })
    (base : Nat) (e : TypeId) (i : TypeInfo) (z : Value) (size bytes : Nat) (ht : P.underlying t = some (.slice e)) (hi : P.info? e = some i) (hz : i.zero = some z)
    (hsize : i.size = size) (hby : i.bytes = bytes) (hzs : z.cells.size = size) (hsz : 0 < size)
    (v : Value) (n : Nat) (xs : List Value) (hs : a.eval s = v) (hown : w.ownsRow base e size v n xs)
    (base' : Nat) (u : Value) (m : Nat) (news : List Value) (hx : a.eval x = u) (hu : w.ownsRow base' e size u m news) (h1 : ∀ u ∈ news, u.oneCell' = true)
    (h63 : n + m ≤ maxLen) (hbytes : (n + m) * bytes ≤ 140737488355328) (hbase : base ≤ w.heap.size)
    (h : ∀ v' w', w'.ownsRow base e size v' (n + m) (xs ++ news) → w.grownBy w' v.ownBlock → wpList P ops Q rest (a.put o.dst v') w') : wpList P ops Q (o :: rest) a w := by
  have hu0 := hu
  rcases hu.2 with ⟨rfl, h0⟩ | ⟨g, cap, cur, rfl, _⟩
  · subst h0
    have hn : news = [] := List.eq_nil_of_length_eq_zero (by simpa using hu0.1)
    subst hn
    refine wpList_append_own_none hgd s x t ho base e i size ht hi v n xs hs hown hx (h v w (by simpa using hown) (World.grownBy.refl w _))
  · exact wpList_append_own w hgd s x t ho base e i z size bytes ht hi hz hsize hby hzs hsz v n xs hs hown ⟨g, 0, none⟩ m cap news hx hu0.1 (hu0.cells (g := g) rfl) h1 h63 hbytes hbase fun v' w' h2 h3 _ => h v' w' h2 h3

theorem strings_one (xs : List ByteArray) : ∀ u ∈ xs.map Value.string, u.oneCell' = true := by
  intro u hu
  obtain ⟨x, _, rfl⟩ := List.mem_map.1 hu
  rfl
theorem own_slice {w : World} {base e size n : Nat} {v : Value} {xs : List Value} (h : w.ownsRow base e size v n xs) : ∃ A c, v = .slice A n c := by
  rcases h.2 with ⟨rfl, h0⟩ | ⟨g, cap, cur, rfl, _⟩
  · exact ⟨none, 0, by rw [h0]⟩
  · exact ⟨_, _, rfl⟩

/-! ### plain: the words again -/
def again (b : List UInt8) (xs : List (List UInt8)) : List UInt8 := (xs.map (fun w => b ++ w)).flatten
theorem again_nil (b : List UInt8) : again b [] = [] := rfl
theorem again_snoc (b : List UInt8) (xs : List (List UInt8)) (x : List UInt8) : again b (xs ++ [x]) = again b xs ++ b ++ x := by simp [again]
def total (xs : List (List UInt8)) : Nat := (xs.map List.length).sum
theorem again_length (b : List UInt8) : ∀ xs : List (List UInt8), (again b xs).length = b.length * xs.length + total xs
  | [] => by simp [again, total]
  | x :: xs => by
    have := again_length b xs
    simp only [again, total, List.map_cons, List.flatten_cons, List.length_append, List.sum_cons, List.length_cons] at this ⊢
    rw [this, Nat.mul_add]; omega
theorem wds_total : ∀ (l cur : List UInt8), total (Pl.wds cur l) ≤ cur.length + l.length
  | [], cur => by
    rw [Pl.wds_nil]; split <;> simp [total]
  | c :: l, cur => by
    rw [Pl.wds_cons]
    have h1 := wds_total l []
    have h2 := wds_total l (cur ++ [c])
    simp only [List.length_nil, List.length_append, List.length_cons] at *
    split
    · split
      · omega
      · simp only [total, List.map_cons, List.sum_cons] at *; omega
    · omega
theorem words_total (l : List UInt8) : total (Pl.words l) ≤ l.length := by have := wds_total l []; simpa [Pl.words] using this
theorem total_take (xs : List (List UInt8)) (k : Nat) : total (xs.take k) ≤ total xs := by
  have : total (xs.take k) + total (xs.drop k) = total xs := by
    unfold total
    rw [← List.sum_append, ← List.map_append, List.take_append_drop]
  omega
theorem words_joins' (a b r : List UInt8) (hb : b.all Pl.blank = true) (hne : b ≠ []) : Pl.words (a ++ b ++ r) = Pl.words a ++ Pl.words r := Pl.words_joins a b r hb hne
theorem words_again' (l b : List UInt8) (hb : b.all Pl.blank = true) (hne : b ≠ []) : Pl.words (again b (Pl.words l) ++ b) = Pl.words l := by
  have := Pl.words_joins (again b (Pl.words l)) b [] hb hne
  rw [List.append_nil] at this
  rw [this]
  have h0 : Pl.words [] = [] := rfl
  rw [h0, List.append_nil]
  exact Pl.words_again b hb hne _ (Pl.words_isWord l)

theorem own_ne {w wa : World} {b b2 e s n m : Nat} {v u : Value} {xs ys : List Value} (h1 : w.ownsRow b e s v n xs) (h2 : wa.ownsRow b2 e s u m ys) (hb : w.heap.size ≤ b2) : v.ownBlock = none ∨ v.ownBlock ≠ u.ownBlock := by
  cases h : v.ownBlock with
  | none => exact .inl rfl
  | some k =>
    refine .inr fun he => ?_
    have := (h1.lt k h).2
    have := (h2.lt k he.symm).1
    omega
theorem sameTexts_c (A B : Option Addr) (n m c d : Nat) (xs ys : List ByteArray) (w : World) (hx : xs.length = n) (hy : ys.length = m) (hn : n ≤ 1099511627776) (hm : m ≤ 1099511627776) (ha : TR w A xs) (hb : TR w B ys) (he : xs = ys) :
    Calls Try.prog 26 #[.slice A n c, .slice B m d] w fun e w' => e = .returned (.bool true) ∧ ∃ q, w.drewN q = w' :=
  (sameTexts_any A B n m c d xs ys w hx hy hn hm ha hb).mono fun _ _ h => ⟨by rw [h.1, decide_eq_true he], h.2⟩
theorem u8_four (h : Int) : h % 4 = 0 ∨ h % 4 = 1 ∨ h % 4 = 2 ∨ h % 4 = 3 := by omega
/-- What holds at the head of a round: 'again' as far as k. -/
def AInv (bl : ByteArray) (xs : List ByteArray) (k : Nat) (r : ByteArray) : Prop := lb r = again (lb bl) ((xs.take k).map lb)
theorem AInv.zero (bl : ByteArray) (xs : List ByteArray) : AInv bl xs 0 ⟨#[]⟩ := rfl
theorem AInv.succ {bl : ByteArray} {xs : List ByteArray} {k : Nat} {r : ByteArray} (h : AInv bl xs k r) (hk : k < xs.length) : AInv bl xs (k + 1) (r ++ bl ++ xs.getD k ByteArray.empty) := by
  unfold AInv at *
  rw [List.take_succ_eq_append_getElem hk, List.map_append, List.map_cons, List.map_nil, again_snoc, lb_append, lb_append, h, getD_lt xs k hk]
theorem map_take_lb (xs : List ByteArray) (k : Nat) : (xs.take k).map lb = (xs.map lb).take k := List.map_take
theorem AInv.size {bl : ByteArray} {xs : List ByteArray} {k : Nat} {r : ByteArray} {l : List UInt8} (h : AInv bl xs k r) (hb : bl.size ≤ 3) (hx : xs.map lb = Pl.words l) (hl : xs.length ≤ l.length + 1) : r.size ≤ 4 * l.length + 3 := by
  have h1 : r.size = (lb r).length := Lib.size_eq r
  rw [h1, h, again_length, map_take_lb, hx]
  have h2 := total_take (Pl.words l) k
  have h3 := words_total l
  have h4 : ((Pl.words l).take k).length ≤ xs.length := by
    rw [← hx, List.length_take, List.length_map]; omega
  have h5 : (lb bl).length ≤ 3 := by rw [show (lb bl).length = bl.size from (Lib.size_eq bl).symm]; exact hb
  have h6 : (lb bl).length * ((Pl.words l).take k).length ≤ 3 * (l.length + 1) := Nat.mul_le_mul h5 (by omega)
  omega
theorem word_ne (xs : List ByteArray) (l : List UInt8) (hx : xs.map lb = Pl.words l) (k : Nat) (hk : k < xs.length) : (xs.getD k ByteArray.empty).toList.isEmpty = false := by
  rw [getD_lt xs k hk]
  have h1 : lb xs[k] ∈ Pl.words l := by rw [← hx]; exact List.mem_map.2 ⟨_, List.getElem_mem hk, rfl⟩
  have h2 := (Pl.words_isWord l _ h1).1
  rw [Lib.toList_data]
  cases h : (xs[k]).data.toList
  · exact absurd h h2
  · rfl
theorem joins_one {a0 a1 bl : ByteArray} {xs ys zs : List ByteArray} (hb : (lb bl).all Pl.blank = true) (hne : lb bl ≠ []) (hx : xs.map lb = Pl.words (lb a0)) (hy : ys.map lb = Pl.words (lb a1)) (hz : zs.map lb = Pl.words (lb (a0 ++ bl ++ a1))) : zs = xs ++ ys := by
  apply map_lb_inj
  rw [hz, lb_append, lb_append, Pl.words_joins _ _ _ hb hne, List.map_append, hx, hy]
theorem joins_two {a0 bl r : ByteArray} {xs zs : List ByteArray} (hb : (lb bl).all Pl.blank = true) (hne : lb bl ≠ []) (hx : xs.map lb = Pl.words (lb a0)) (hr : AInv bl xs xs.length r) (hz : zs.map lb = Pl.words (lb (r ++ bl))) : zs = xs := by
  apply map_lb_inj
  unfold AInv at hr
  rw [List.take_of_length_le (Nat.le_refl _)] at hr
  rw [hz, lb_append, hr, hx, words_again' _ _ hb hne]

set_option maxHeartbeats 8000000 in
set_option maxRecDepth 100000 in
theorem joins_walk (a0 a1 bl : ByteArray) (h : Int) (s0 : a0.size ≤ 1048576) (s1 : a1.size ≤ 1048576) (hb : beyond [(a0.size : Int), a1.size] = false) (h0 : 0 ≤ h) (h1 : h ≤ 255)
    (hm : (h % 4 = 0 ∧ bl = ⟨#[32]⟩) ∨ (h % 4 = 1 ∧ bl = ⟨#[9]⟩) ∨ (h % 4 = 2 ∧ bl = ⟨#[10]⟩) ∨ (h % 4 = 3 ∧ bl = ⟨#[32, 10, 32]⟩))
    (HB1 : Hid ((lb bl).all Pl.blank = true)) (HB2 : Hid (lb bl ≠ [])) (hbs : bl.size ≤ 3) (w : World) :
    Calls Try.prog 11 #[.string a0, .string a1, .int .u8 h] w fun e w' => e = .returned (.bool true) ∧ Below w.heap.size w w' := by
  obtain ⟨i0, hi, hz0, hz1, hz2⟩ := info_parts Try.info9
  rcases hm with ⟨hm, hbl⟩ | ⟨hm, hbl⟩ | ⟨hm, hbl⟩ | ⟨hm, hbl⟩
  all_goals
    have HBl := Lib.hid hbl
    clear hbl
    go_enter Try.func11, Try.ntmps11
    go_wp2_with fail
    refine (alive_any _).mono ?_
    rintro e w1 ⟨rfl, b1⟩
    go_wp2_with fail
    refine (beyond2 _ _ _ (by omega) (by omega)).mono ?_
    rintro e w' ⟨rfl, rfl⟩
    have c1 := b1.alloc b1.size (.cells #[.int .i64 (a0.size : Int), .int .i64 (a1.size : Int)] 3)
    go_wp2_with fail
    refine (words_any a0 (by omega) _).mono ?_
    rintro e w2 ⟨v1, xs, rfl, hx, hxw, hxl, b2⟩
    have c2 := c1.trans (b2.mono c1.size)
    have HXW := Lib.hid hxw
    have hx' := ownsRow_base hx (base' := 0) (Nat.zero_le _)
    clear hxw b1 b2 c1 hx
    go_wp2_with fail
    refine (words_any a1 (by omega) _).mono ?_
    rintro e w3 ⟨v2, ys, rfl, hy, hyw, hyl, b3⟩
    have c3 := c2.trans (b3.mono c2.size)
    have HYW := Lib.hid hyw
    have HX := Lib.hid (ownsRow_below hx' b3)
    have HY := Lib.hid (ownsRow_base hy (base' := 0) (Nat.zero_le _))
    clear hyw b3 c2 hx' hy
    go_wp2_with (first
      | (at_builtin; refine wpList_append_row rfl (.const (.slice none 0 0)) (.tmp 33) 35 rfl (w3.heap.size + 1) 9 i0 (.string ByteArray.empty) 1 16 Try.underlying35 hi hz0 hz1 hz2 rfl (by decide) (.slice none 0 0) 0 [] rfl (World.ownsRow_nil _ _ _ _) 0 v1 xs.length (xs.map Value.string) rfl (HX.out.alloc _) (strings_one xs) (by unfold maxLen; omega) (by omega) (by simp) ?_; intro v3 w4 hown3 hgrow3; simp only [Nat.zero_add, List.nil_append] at hown3; have HO3 := Lib.hid hown3; have g3 := (Below.refl (w3.heap.size + 1) (w3.alloc (.cells #[.string ⟨#[32]⟩, .string ⟨#[9]⟩, .string ⟨#[10]⟩, .string ⟨#[32, 10, 32]⟩] 9))).grown hgrow3 (by simp) (fun k hk => by cases hk); have g3' : Below (w3.alloc (.cells #[.string ⟨#[32]⟩, .string ⟨#[9]⟩, .string ⟨#[10]⟩, .string ⟨#[32, 10, 32]⟩] 9)).heap.size (w3.alloc (.cells #[.string ⟨#[32]⟩, .string ⟨#[9]⟩, .string ⟨#[10]⟩, .string ⟨#[32, 10, 32]⟩] 9)) w4 := g3.mono (by simp); have HX4 := Lib.hid (ownsRow_below (HX.out.alloc _) g3'); have HY4 := Lib.hid (ownsRow_below (HY.out.alloc _) g3'); have c4 : Below w.heap.size w w4 := (c3.alloc c3.size _).trans (g3.mono (by have := c3.size; omega)); have hs4 := g3.size; clear hown3 hgrow3 g3')
      | (at_builtin; refine wpList_append_row rfl (.tmp 34) (.tmp 35) 35 rfl (w3.heap.size + 1) 9 i0 (.string ByteArray.empty) 1 16 Try.underlying35 hi hz0 hz1 hz2 rfl (by decide) v3 xs.length (xs.map Value.string) rfl HO3.out 0 v2 ys.length (ys.map Value.string) rfl HY4.out (strings_one ys) (by unfold maxLen; omega) (by omega) (by simp at hs4; omega) ?_; intro v5 w5 hown5 hgrow5))
    rw [← HBl.out]
    have HX5 := HX4.out.kept hgrow5 (own_ne HX.out HO3.out (by omega))
    have c5 : Below w.heap.size w w5 := c4.grown hgrow5 c4.size (fun k hk => by have := (HO3.out.lt k hk).1; have := c3.size; omega)
    rw [← List.map_append, ← List.length_append] at hown5
    have HLen : Hid ((xs ++ ys).length = xs.length + ys.length) := Lib.hid List.length_append
    have hlen : xs.length + ys.length ≤ 1099511627776 := by omega
    obtain ⟨A1, cp1, rfl⟩ := own_slice HX5
    obtain ⟨A5, cp5, rfl⟩ := own_slice hown5
    have TX := Lib.hid (TR.of_own HX5).2
    have TA := Lib.hid (TR.of_own hown5).2
    have hl0 : (lb a0).length = a0.size := (Lib.size_eq a0).symm
    have HL0 := Lib.hid hl0
    clear HX5 hown5 hgrow5 c3 c4 HX HY HX4 HY4 HO3 hs4 g3 hl0 hm h0 h1 HBl
    go_loop [11, 12] (fun t i => ∃ (k : Nat) (r : ByteArray), k ≤ xs.length ∧ i = .int .i64 k ∧ t = .string r ∧ AInv bl xs k r) (fun _ i => xs.length - (intOf i).toNat)
    case atStart => exact ⟨0, ⟨#[]⟩, Nat.zero_le _, rfl, rfl, AInv.zero bl xs⟩
    case round =>
      obtain ⟨k, r, hk, rfl, rfl, hinv⟩ := hrel
      have hrs := hinv.size hbs HXW.out (by rw [HL0.out]; exact hxl)
      rw [HL0.out] at hrs
      by_cases hlt : k < xs.length
      · have HI1 := hinv.succ hlt
        have hrs1 := HI1.size hbs HXW.out (by rw [HL0.out]; exact hxl)
        rw [HL0.out, ByteArray.size_append, ByteArray.size_append] at hrs1
        have hne := word_ne xs _ HXW.out k hlt
        obtain ⟨b, off, rfl, _, hc⟩ := TX.out (by intro h0; rw [h0] at hlt; simp at hlt)
        have c := hc k hlt
        clear hc
        generalize xs.getD k ByteArray.empty = x at *
        have HI := Lib.hid HI1
        have HInv := Lib.hid hinv
        clear HI1 hinv
        go_wp2_with fail
        go_round
        case rel => exact ⟨k + 1, _, by omega, by go_num, rfl, HI.out⟩
        case measure => simp [intOf]; omega
      · have hkl : k = xs.length := by omega
        subst hkl
        have HInv := Lib.hid hinv
        clear hinv
        go_wp2_with fail
        refine (words_any (a0 ++ bl ++ a1) (by rw [ByteArray.size_append, ByteArray.size_append]; omega) _).mono ?_
        rintro e w6 ⟨v6, zs, rfl, hz, hzw, hzl, b6⟩
        have HZ := Lib.hid (joins_one HB1.out HB2.out HXW.out HYW.out hzw)
        obtain ⟨A6, cp6, rfl⟩ := own_slice hz
        have TZ := Lib.hid (TR.of_own hz).2
        have c6 := c5.trans (b6.mono c5.size)
        have TX6 := Lib.hid (TX.out.below b6)
        have hzl' : zs.length ≤ 1099511627776 := by rw [ByteArray.size_append, ByteArray.size_append] at hzl; omega
        clear hz hzw hzl
        go_wp2_with fail
        refine (sameTexts_c _ _ _ _ _ _ zs (xs ++ ys) _ rfl HLen.out hzl' hlen TZ.out (TA.out.below b6) HZ.out).mono ?_
        rintro e w7 ⟨rfl, q, rfl⟩
        go_wp2_with fail
        refine (words_any (r ++ bl) (by rw [ByteArray.size_append]; omega) _).mono ?_
        rintro e w8 ⟨v8, us, rfl, hu, huw, hul, b8⟩
        have HU := Lib.hid (joins_two HB1.out HB2.out HXW.out HInv.out huw)
        obtain ⟨A8, cp8, rfl⟩ := own_slice hu
        have TU := Lib.hid (TR.of_own hu).2
        have c7 := below_drewN c6 q
        have c8 := c7.trans (b8.mono c7.size)
        have hul' : us.length ≤ 1099511627776 := by rw [ByteArray.size_append] at hul; omega
        clear hu huw hul
        go_wp2_with fail
        refine (sameTexts_c _ _ _ _ _ _ us xs _ rfl rfl hul' (by omega) TU.out ((TX6.out.drewN q).below b8) HU.out).mono ?_
        rintro e w9 ⟨rfl, q9, rfl⟩
        go_wp2_with fail
        go_ret
        exact ⟨ret_bool (by simp), below_drewN c8 q9⟩

set_option maxHeartbeats 1000000 in
theorem lettersJoins_walk (a0 a1 : ByteArray) (a2 : Int) (z0 : a0.size ≤ 140737488351232) (z1 : a1.size ≤ 140737488351232) (w2 : (Lit.int .u8 a2).wf = true) (w : World) :
    Calls Try.prog 11 #[.string a0, .string a1, .int .u8 a2] w fun e w' => e = .returned (.bool true) ∧ Below w.heap.size w w' := by
  obtain ⟨h0, h1⟩ := bounds_u8 w2
  clear w2
  rcases hb : beyond [(a0.size : Int), a1.size]
  · have hsum := beyond_no hb
    simp only [sumI, List.foldr_cons, List.foldr_nil] at hsum
    have s0 : a0.size ≤ 1048576 := by omega
    have s1 : a1.size ≤ 1048576 := by omega
    rcases u8_four a2 with h | h | h | h
    · exact joins_walk a0 a1 ⟨#[32]⟩ a2 s0 s1 hb h0 h1 (.inl ⟨h, rfl⟩) (Lib.hid (by decide)) (Lib.hid (by decide)) (by decide) w
    · exact joins_walk a0 a1 ⟨#[9]⟩ a2 s0 s1 hb h0 h1 (.inr (.inl ⟨h, rfl⟩)) (Lib.hid (by decide)) (Lib.hid (by decide)) (by decide) w
    · exact joins_walk a0 a1 ⟨#[10]⟩ a2 s0 s1 hb h0 h1 (.inr (.inr (.inl ⟨h, rfl⟩))) (Lib.hid (by decide)) (Lib.hid (by decide)) (by decide) w
    · exact joins_walk a0 a1 ⟨#[32, 10, 32]⟩ a2 s0 s1 hb h0 h1 (.inr (.inr (.inr ⟨h, rfl⟩))) (Lib.hid (by decide)) (Lib.hid (by decide)) (by decide) w
  · go_enter Try.func11, Try.ntmps11
    go_wp2_with fail
    refine (alive_any _).mono ?_
    rintro e w1 ⟨rfl, b1⟩
    go_wp2_with fail
    refine (beyond2 _ _ _ (by omega) (by omega)).mono ?_
    rintro e w' ⟨rfl, rfl⟩
    go_wp2_with fail
    refine (alive_any _).mono ?_
    rintro e w2 ⟨rfl, b2⟩
    go_wp2_with fail
    go_ret
    exact ⟨rfl, (b1.alloc b1.size _).trans (b2.mono (by have := b1.size; simp; omega))⟩

end Go.Proofs.Ytdjfbhdkfdkjnaa
