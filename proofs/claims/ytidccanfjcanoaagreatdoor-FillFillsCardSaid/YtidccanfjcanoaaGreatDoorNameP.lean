/-
  Texts as lists of bytes: plain lemmas.
-/
import Derived.Test.YtidccanfjcanoaaGreatDoorBase0
namespace Go.Proofs.YtidccanfjcanoaaGreatDoor
open Go.RowKit

theorem data_getElem (s : ByteArray) (k : Nat) (h : k < s.size) : s.data.toList[k]'(by rw [← Lib.size_eq]; exact h) = s[k] := rfl
theorem take_snoc (s : ByteArray) (k : Nat) (h : k < s.size) : s.data.toList.take (k + 1) = s.data.toList.take k ++ [s[k]] := by
  rw [List.take_succ_eq_append_getElem (by rw [← Lib.size_eq]; exact h)]; rfl
theorem drop_cons (s : ByteArray) (k : Nat) (h : k < s.size) : s.data.toList.drop k = s[k] :: s.data.toList.drop (k + 1) := by
  rw [List.drop_eq_getElem_cons (by rw [← Lib.size_eq]; exact h)]; rfl
end Go.Proofs.YtidccanfjcanoaaGreatDoor
