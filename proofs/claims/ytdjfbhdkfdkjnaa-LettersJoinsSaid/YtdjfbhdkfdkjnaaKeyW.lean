/-
  LETTERS: only, key: an iterator over a text's bytes, and what is gathered of it.
-/
import Derived.Test.YtdjfbhdkfdkjnaaLowW
import Derived.RangeFuncBox
import Derived.RangeFuncNested
import Derived.RangeFuncBound
import Derived.RangeFuncCalls
import Derived.RangeFuncLeaves
import Derived.Shelf.Abstract
import Derived.Shelf.RegionOpen
import Derived.OwnWalkIn
import Derived.TacticsInMore
import Derived.LoopNIn
import Derived.LoopIn
import Derived.Maps.AppendAt
namespace Go.Proofs.Ytdjfbhdkfdkjnaa
open Go.RowKit Go.Shelf

set_option maxHeartbeats 400000 in
theorem key1_any (c : Int) (w : World) : Calls Try.prog 40 #[.int .u8 c] w fun e w' => e = .returned (.bool (Pl.isLD c)) ∧ w = w' := by
  have HD : Hid (Pl.isLD c = (Pl.isLet c || Pl.isDig c)) := Lib.hid rfl
  rcases hl : Pl.isLet c
  · go_enter Try.func40, Try.ntmps40
    go_wp2_with (first | (go_at_call 29; refine (letter_any _ _).mono ?_; rintro e w' ⟨rfl, rfl⟩) | (go_at_call 30; refine (digit_any _ _).mono ?_; rintro e w' ⟨rfl, rfl⟩))
    go_ret
    exact ⟨ret_bool (by rw [HD.out, hl]; rfl), rfl⟩
  · go_enter Try.func40, Try.ntmps40
    go_wp2_with (first | (go_at_call 29; refine (letter_any _ _).mono ?_; rintro e w' ⟨rfl, rfl⟩) | (go_at_call 30; refine (digit_any _ _).mono ?_; rintro e w' ⟨rfl, rfl⟩))
    go_ret
    exact ⟨ret_bool (by rw [HD.out, hl]; rfl), rfl⟩

attribute [local go_sem] Oper.semAt_some
theorem wide_asked {P : Program} {o : Oper} {a : Act} {C : World → Prop} : Oper.askedIn Fence.wide P o a C ↔ True := ⟨fun _ => trivial, fun _ _ _ _ _ => trivial⟩
theorem wide_depth : Fence.wide.depth = none := rfl
theorem wide_round : Fence.wide.round = none := rfl
theorem wide_fn (f : FuncId) : Fence.wide.fn f ↔ True := Iff.rfl
attribute [local go_sem ↓] wide_asked
attribute [local go_sem] wide_depth wide_round wide_fn
/-- A round that answers yes or no: as one way. -/
theorem round_bool {F : Fence} {n : Nat} {P : Program} {l : Nat} {f : FuncId} {tmps : Array Value} {assign body : Code} {w : World} {A B : World → Prop}
    (h : RoundIn F n P l f tmps assign body w fun e W' => (e = .returned (.bool true) ∧ A W') ∨ (e = .returned (.bool false) ∧ B W')) :
    RoundIn F n P l f tmps assign body w fun e W' => ∃ b, e = .returned (.bool b) ∧ ((b = true ∧ A W') ∨ (b = false ∧ B W')) :=
  h.mono fun _ _ hh => by
    rcases hh with ⟨he, ha⟩ | ⟨he, hb⟩
    · exact ⟨true, he, .inl ⟨rfl, ha⟩⟩
    · exact ⟨false, he, .inr ⟨rfl, hb⟩⟩

/-- What has come when k bytes have been looked at. -/
def kept (s : ByteArray) (k : Nat) : List UInt8 := (s.data.toList.take k).filter Pl.ldB
theorem kept_hit (s : ByteArray) (k : Nat) (h : k < s.size) (hl : Pl.ldB s[k] = true) : kept s (k + 1) = kept s k ++ [s[k]] := by
  unfold kept; rw [take_snoc s k h]; simp [hl]
theorem kept_miss (s : ByteArray) (k : Nat) (h : k < s.size) (hl : Pl.ldB s[k] = false) : kept s (k + 1) = kept s k := by
  unfold kept; rw [take_snoc s k h]; simp [hl]
theorem kept_all (s : ByteArray) : kept s s.size = s.data.toList.filter Pl.ldB := by
  unfold kept; rw [List.take_of_length_le (by rw [Lib.size_eq]; exact Nat.le_refl _)]
theorem kept_prefix (s : ByteArray) (k : Nat) : kept s k <+: s.data.toList.filter Pl.ldB := by
  unfold kept
  exact ((List.take_prefix k s.data.toList).filter Pl.ldB)
theorem kept_le (s : ByteArray) (k : Nat) : (kept s k).length ≤ (s.data.toList.filter Pl.ldB).length := (kept_prefix s k).length_le
theorem kept_lt (s : ByteArray) (k : Nat) (h : k < s.size) (hl : Pl.ldB s[k] = true) : (kept s k).length < (s.data.toList.filter Pl.ldB).length := by
  have := kept_le s (k + 1)
  rw [kept_hit s k h hl] at this
  simp at this; omega
theorem ldB_of (c : UInt8) : Pl.ldB c = Pl.isLD (c.toNat : Int) := rfl

/-- What a round must keep: the two boxes. -/
def KpB (Bs Bk : Nat) (A B : World) : Prop := B.heap[Bs]? = A.heap[Bs]? ∧ B.heap[Bk]? = A.heap[Bk]?

theorem quietIn_false {F : Fence} {r : Nat} {P : Program} {f : FuncId} {args : Array Value} {w : World} {n : Nat} {b c : Bool}
    (h : CallsIn F r P f args (w.drewN n) fun e w' => e = .returned (.bool b) ∧ w.drewN n = w') (hb : b = c) : CallsIn F r P f args (w.drewN n) fun e w'' => e = .returned (.bool c) ∧ ∃ m, w'' = w.drewN m :=
  h.mono fun _ _ ⟨he, hm⟩ => ⟨by rw [he, hb], n, hm.symm⟩

set_option maxRecDepth 100000 in
set_option maxHeartbeats 1000000 in
theorem only1_in (n : Nat) (hn : 1 ≤ n) (l Bs Bk : Nat) (s : ByteArray) (hs : s.size ≤ 140737488351232) (J Jx : List UInt8 → World → Prop)
    (hJ : ∀ pre A q, J pre A → J pre (World.drewN A q))
    (hY : ∀ pre x W, J pre W → pre.length < (s.data.toList.filter Pl.ldB).length → YieldAt Fence.wide (n - 1) Try.prog l #[bv x] W fun e W' =>
      (e = .returned (.bool true) ∧ J (pre ++ [x]) W' ∧ KpB Bs Bk W W') ∨ (e = .returned (.bool false) ∧ Jx (pre ++ [x]) W'))
    (W : World) (hBs : Boxed W Bs 9 (.string s)) (hBk : Boxed W Bk 42 (.func (.func 40) #[] #[])) (h0 : J [] W) :
    CallsIn Fence.wide n Try.prog 42 #[.func (.yield l) #[] #[], .pointer (some ⟨Bs, 0, none⟩), .pointer (some ⟨Bk, 0, none⟩)] W fun e W' => (∃ v, e = .returned v) ∧
      ((∃ ys, ys = s.data.toList.filter Pl.ldB ∧ J ys W') ∨ (∃ pre, pre <+: s.data.toList.filter Pl.ldB ∧ Jx pre W')) := by
  have hmx : Try.prog.follows .mixedOrders = true := by kernel_rfl
  refine callsIn_of_wp Try.func42 rfl trivial ?_ rfl
  simp only [Try.ntmps42, List.size_toArray, List.length_cons, List.length_nil, Nat.reduceAdd, Nat.reduceSub, Array.replicate_succ, Array.replicate_zero, List.push_toArray, List.append_toArray, List.nil_append, List.cons_append]
  have hcs := hBs.cell
  gi_wp2
  clear hcs
  gi_loopw [7] (fun i wr => ∃ k : Nat, k ≤ s.size ∧ i = .int .i64 k ∧ J (kept s k) wr ∧ Boxed wr Bs 9 (.string s) ∧ Boxed wr Bk 42 (.func (.func 40) #[] #[])) (fun i _ => s.size - (intOf i).toNat)
  case atStart => exact ⟨0, Nat.zero_le _, rfl, by simpa [kept] using h0, hBs, hBk⟩
  case round =>
    obtain ⟨k, hk, rfl, hJs, hbs, hbk⟩ := hrel
    have hcs := hbs.cell
    have hck := hbk.cell
    by_cases hlt : k < s.size
    · rcases hld : Pl.isLD (s[k].toNat : Int)
      · have HM := Lib.hid (kept_miss s k hlt (by rw [ldB_of]; exact hld))
        gi_wp2
        gi_quiet ((gi_at_call 40; exact quietIn_false (callsIn_wide.2 (key1_any _ _)) hld))
        gi_wp2
        go_roundw
        case rel => exact ⟨k + 1, by omega, by go_num, by rw [HM.out]; exact hJ _ _ _ hJs, hbs, hbk⟩
        case measure => simp [intOf]; omega
      · have HH := Lib.hid (kept_hit s k hlt (by rw [ldB_of]; exact hld))
        have HK := Lib.hid (kept_lt s k hlt (by rw [ldB_of]; exact hld))
        obtain ⟨fn, tmps, assign, body, hy, hR⟩ := hY (kept s k) s[k] wr.drew (hJ _ _ 1 hJs) HK.out
        dsimp only [bv] at hy
        gi_wp2
        gi_region_with_o (first
          | (gi_at_call 40; refine (callsIn_wide.2 (key1_any _ _)).mono ?_; rintro e w' ⟨rfl, rfl⟩)
          | (refine (round_bool hR).mono ?_; rintro e W3 ⟨b, rfl, hcase⟩))
        all_goals
          rcases hcase with ⟨rfl, hJ3, hk3⟩ | ⟨rfl, hJx3⟩
          · gi_wp2
            try go_bits
            go_roundw
            case rel => exact ⟨k + 1, by omega, by go_num, by rw [HH.out]; exact hJ3, hk3.1.trans hbs, hk3.2.trans hbk⟩
            case measure => simp [intOf]; omega
          · gi_wp2
            try go_bits
            refine bodyPost_ret (results_none rfl _ _ _) rfl ?_
            exact ⟨⟨_, rfl⟩, .inr ⟨kept s k ++ [s[k]], by rw [← HH.out]; exact kept_prefix s _, hJx3⟩⟩
    · have : k = s.size := by omega
      subst this
      gi_wp2
      go_end0
      exact ⟨⟨_, rfl⟩, .inl ⟨_, kept_all s, hJs⟩⟩

set_option maxHeartbeats 400000 in
theorem only_any (s : ByteArray) (w : World) :
    Calls Try.prog 39 #[.string s, .func (.func 40) #[] #[]] w fun e w' =>
      e = .returned (.func (.func 42) #[] #[.pointer (some ⟨w.heap.size, 0, none⟩), .pointer (some ⟨w.heap.size + 1, 0, none⟩)]) ∧
      w' = (w.alloc (.cells #[.string s] 9)).alloc (.cells #[.func (.func 40) #[] #[]] 42) := by
  go_enter Try.func39, Try.ntmps39
  go_wp2
  go_ret
  exact ⟨rfl, rfl⟩

theorem KpB_t {Bs Bk : Nat} {A B C : World} (h : KpB Bs Bk A B) (k : KpB Bs Bk B C) : KpB Bs Bk A C := ⟨k.1.trans h.1, k.2.trans h.2⟩
theorem KpB_b {Bs Bk : Nat} {w : World} (h1 : Bs < w.heap.size) (h2 : Bk < w.heap.size) (W : World) (l : Nat) (o o' : Obj) (hl : w.heap.size ≤ l) (_ : W.heap[l]? = some o) (_ : o.isCells = false) (_ : o.isWalk = false) : KpB Bs Bk W (W.putObj l o') :=
  ⟨World.putObj_heap_other (by omega), World.putObj_heap_other (by omega)⟩

theorem abides_drewN {β : Type} {B : Nat} {J : β → World → Prop} (h : AbidesFrom B J) (pre : β) (A : World) (q : Nat) (hA : J pre A) : J pre (A.drewN q) :=
  h pre A (A.drewN q) none hA ⟨rfl, rfl, rfl, Nat.le_refl _, fun _ _ _ => rfl⟩ (fun r hr => by cases hr)

theorem only_stops (n : Nat) (hn : 1 ≤ n) (Bs Bk : Nat) (s : ByteArray) (hs : s.size ≤ 140737488351232) (w : World) (hBs : Boxed w Bs 9 (.string s)) (hBk : Boxed w Bk 42 (.func (.func 40) #[] #[])) :
    SeqStopsK Fence.wide n Try.prog 42 #[.pointer (some ⟨Bs, 0, none⟩), .pointer (some ⟨Bk, 0, none⟩)] (fun x : UInt8 => #[bv x]) (KpB Bs Bk) (fun ys => ys = s.data.toList.filter Pl.ldB) (fun pre => pre <+: s.data.toList.filter Pl.ldB) (s.data.toList.filter Pl.ldB).length w := fun l J Jx W hW hJ _ hY h0 =>
  only1_in n hn l Bs Bk s hs J Jx (fun pre A q h => abides_drewN hJ pre A q h) hY W ((hW.block Bs hBs.lt).trans hBs) ((hW.block Bk hBk.lt).trans hBk) h0

end Go.Proofs.Ytdjfbhdkfdkjnaa
