/- Lemmas behind the laws of the tokens; no conditions. -/
import Derived.Test.YtcnhklcbibpjpaaGreatDoorZCor
set_option linter.unusedVariables false
set_option linter.unusedSimpArgs false

namespace Go.Proofs.YtcnhklcbibpjpaaGreatDoor
open P
def autoL (s : ByteArray) : List Nat → Nat → List UInt8
  | [], fr => s.data.toList.drop fr
  | a :: r, fr => (s.extract fr (a + 1)).data.toList ++ 39 :: autoL s r (a + 1)
theorem extract_list (u : ByteArray) (a b : Nat) : (u.extract a b).data.toList = (u.data.toList.drop a).take (b - a) := by
  simp only [ByteArray.data_extract, Array.toList_extract, List.extract_eq_take_drop]
section
variable {s t : ByteArray} {al : List Nat} {i i' : Nat}
end
end Go.Proofs.YtcnhklcbibpjpaaGreatDoor
