/-
  ROWS OF BYTES that the call itself made: 'BRow w g l': block g begins with the bytes l, none frozen; its conversions.
-/
import Derived.Test.YtidccanfjcanoaaGreatDoorBase0
import Derived.Laws.BytesArg
import Derived.Lib.ConvBytes
namespace Go.Proofs.YtidccanfjcanoaaGreatDoor
open Go.RowKit

def bv (c : UInt8) : Value := .int .u8 (c.toNat : Int)
def BRow (w : World) (g : Nat) (l : List UInt8) : Prop := ∀ j, j < l.length → w.cell? ⟨g, j, none⟩ = some (bv (l.getD j 0)) ∧ w.frozen? ⟨g, j, none⟩ = false

theorem getD_set (l : List UInt8) (k j : Nat) (c : UInt8) : (l.set k c).getD j 0 = if k = j ∧ k < l.length then c else l.getD j 0 := by
  simp only [List.getD_eq_getElem?_getD, List.getElem?_set]
  by_cases h : k = j
  · subst h
    by_cases hk : k < l.length
    · simp [hk]
    · simp [hk]
  · simp [h]
theorem BRow.set {w : World} {g : Nat} {l : List UInt8} (h : BRow w g l) (k : Nat) (hk : k < l.length) (c : UInt8) : BRow (w.setCell ⟨g, k, none⟩ (bv c)) g (l.set k c) := by
  intro j hj
  rw [List.length_set] at hj
  rw [getD_set, World.frozen?_setCell]
  refine ⟨?_, (h j hj).2⟩
  by_cases e : k = j
  · subst e
    rw [if_pos ⟨rfl, hk⟩]
    exact World.cell?_setCell_same _ _ _ (h k hk).1
  · rw [if_neg (fun h => e h.1), World.cell?_setCell_other _ _ _ _ (by intro h; simp only [Addr.mk.injEq] at h; omega)]
    exact (h j hj).1
theorem BRow.below {w w' : World} {B g : Nat} {l : List UInt8} (h : BRow w g l) (hb : Below B w w') (hg : g < B) : BRow w' g l :=
  fun j hj => ⟨(hb.cell (p := ⟨g, j, none⟩) hg).trans (h j hj).1, (hb.frozen (p := ⟨g, j, none⟩) hg).trans (h j hj).2⟩
theorem BRow.of_own {w : World} {base e g n cap : Nat} {l : List UInt8} (h : w.ownsRow base e 1 (.slice (some ⟨g, 0, none⟩) n cap) n (l.map bv)) : BRow w g l := by
  intro j hj
  have hn : l.length = n := by have := h.1; simpa using this
  refine ⟨?_, h.frozenAt j⟩
  rw [h.cellAt j (by omega)]
  simp [List.getD_eq_getElem?_getD, List.getElem?_eq_getElem hj]

/-- What the call owns it owns behind whatever leaves the old blocks alone. -/
theorem ownsRow_below {w w' : World} {base e size n : Nat} {v : Value} {xs : List Value} (h : w.ownsRow base e size v n xs) (hb : Below w.heap.size w w') : w'.ownsRow base e size v n xs := by
  refine h.kept (row := none) ⟨hb.os, hb.tape, hb.output, hb.size, fun k hk _ => hb.block k hk⟩ ?_
  rcases h.2 with ⟨rfl, _⟩ | ⟨g, cap, cur, rfl, _⟩
  · exact .inl rfl
  · exact .inr (by simp [Value.ownBlock])

theorem ownsRow_base {w : World} {base base' e size n : Nat} {v : Value} {xs : List Value} (h : w.ownsRow base e size v n xs) (hb : base' ≤ base) : w.ownsRow base' e size v n xs := by
  refine ⟨h.1, ?_⟩
  rcases h.2 with h2 | ⟨g, cap, cur, hv, hg, r⟩
  · exact .inl h2
  · exact .inr ⟨g, cap, cur, hv, by omega, r⟩

theorem strOf_bytes (l : List UInt8) : strOfNums (l.map fun c => (c.toNat : Int)) = ⟨l.toArray⟩ := by
  apply bytes_ext
  rw [strOfNums_data, List.map_map]
  show l.map _ = l
  conv => rhs; rw [← List.map_id l]
  apply List.map_congr_left
  intro x _
  simp

/-- string(b), b a row of the call's own. -/
theorem conv_row {P : Program} {src e dst : TypeId} (hs : P.underlying src = some (.slice e)) (he : P.underlying e = some (.int .u8)) (hd : P.underlying dst = some .string)
    (w : World) (g n cap : Nat) (l : List UInt8) (hl : l.length = n) (h : BRow w g l) :
    (convert src dst (.slice (some ⟨g, 0, none⟩) n cap)).run P w = .ok (.string ⟨l.toArray⟩) w := by
  have := run_convert_bytes_arg (P := P) w src e hs he g 0 n cap (l.map fun c => (c.toNat : Int)) (by simpa using hl) (fun i hi => by
    rw [Nat.zero_add, (h i (by omega)).1]
    simp [bv, List.getD_eq_getElem?_getD, List.getElem?_eq_getElem (show i < l.length by omega)]) dst hd
  rw [this, strOf_bytes]
/-- string(b), b a slice that the call has built by append, nil or not. -/
theorem conv_own {P : Program} {src e dst : TypeId} (hs : P.underlying src = some (.slice e)) (he : P.underlying e = some (.int .u8)) (hd : P.underlying dst = some .string)
    (w : World) (base n : Nat) (v : Value) (l : List UInt8) (h : w.ownsRow base e 1 v n (l.map bv)) :
    (convert src dst v).run P w = .ok (.string ⟨l.toArray⟩) w := by
  have hn : l.length = n := by have := h.1; simpa using this
  have h0 := h
  rcases h.2 with ⟨rfl, h1⟩ | ⟨g, cap, cur, rfl, _⟩
  · have hl : l = [] := List.eq_nil_of_length_eq_zero (by omega)
    subst hl
    exact run_convert_bytes_nil w src e hs he 0 0 dst hd
  · exact conv_row hs he hd w g n cap l hn (BRow.of_own h0)

/-- []byte(s): a new row with the text's bytes. -/
theorem bytesWorld_row (w : World) (e : TypeId) (s : ByteArray) : BRow (Lib.bytesWorld w e s) w.heap.size s.data.toList := by
  intro j hj
  refine ⟨Lib.bytesWorld_cell w e s j (by rw [Lib.size_eq]; exact hj), ?_⟩
  have hj' : j < (Lib.bytesCells w e s).size := by
    have : s.data.toList.length ≤ (Lib.bytesCells w e s).size := by simp [Lib.bytesCells]
    omega
  simp only [World.frozen?, Lib.bytesWorld_at_new]
  simp
  omega
theorem bytesWorld_below (w : World) (e : TypeId) (s : ByteArray) : Below w.heap.size w (Lib.bytesWorld w e s) :=
  ⟨rfl, rfl, rfl, by rw [Lib.bytesWorld_size]; omega, fun k hk => Lib.bytesWorld_at_old w e s k hk⟩

end Go.Proofs.YtidccanfjcanoaaGreatDoor
