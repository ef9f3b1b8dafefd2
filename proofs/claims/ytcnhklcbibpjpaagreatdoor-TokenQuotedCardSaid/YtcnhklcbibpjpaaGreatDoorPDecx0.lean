-- Written by a program of this work out of the translation.
import Derived.Test.YtcnhklcbibpjpaaGreatDoorProg
import Derived.Test.YtcnhklcbibpjpaaGreatDoorExt
import Derived.Below
import Derived.Deep.Draws
import Derived.Deep.AppendLies
import Derived.Maps.AppendAt
import Derived.OwnWalk
import Derived.Laws.BytesArg
import Derived.Laws.MakeOwn
import Derived.Laws.OwnMore
import Derived.Deep.OwnRows
import Derived.Tactics
import Derived.Lib.ConvBytes
import Derived.Laws.Slices
import Derived.WalkKit
import Derived.KernelRfl
import Derived.RowKit3
import Derived.Deep.LoopGhost
import Derived.Deep.QuietTactic
import Derived.BigQuiet
import Derived.WideLaws
import Derived.Deep.DeepCutAuto
import Derived.Deep.CutBlock
import Derived.Deep.RegionHeld3
import Derived.Laws.Rows
import Derived.Lib.AppendStr
import Derived.ArgAppend
import Derived.Laws.IdiomCopy
import Derived.OrdersHeld
import Derived.Laws.BitsLemmas
import Derived.RowKit
import Derived.Test.YtcnhklcbibpjpaaGreatDoorWWords
import Derived.Test.YtcnhklcbibpjpaaGreatDoorWLast
import Derived.Test.YtcnhklcbibpjpaaGreatDoorWTab
import Derived.Test.YtcnhklcbibpjpaaGreatDoorWFour
import Derived.Test.YtcnhklcbibpjpaaGreatDoorWQPut
import Derived.Test.YtcnhklcbibpjpaaGreatDoorWApart
import Derived.Test.YtcnhklcbibpjpaaGreatDoorWArr
import Derived.Test.YtcnhklcbibpjpaaGreatDoorWZeros
import Derived.Test.YtcnhklcbibpjpaaGreatDoorWFoot
import Derived.Test.YtcnhklcbibpjpaaGreatDoorWKept
import Derived.Test.YtcnhklcbibpjpaaGreatDoorWShare
import Derived.Test.YtcnhklcbibpjpaaGreatDoorWN
import Derived.Test.YtcnhklcbibpjpaaGreatDoorWFootNe
import Derived.Test.YtcnhklcbibpjpaaGreatDoorWAt
import Derived.Test.YtcnhklcbibpjpaaGreatDoorWEqStruct
import Derived.Test.YtcnhklcbibpjpaaGreatDoorWRepsOne
import Derived.Test.YtcnhklcbibpjpaaGreatDoorWInv
import Derived.Test.YtcnhklcbibpjpaaGreatDoorWInvWords
import Derived.Test.YtcnhklcbibpjpaaGreatDoorWGuard
import Derived.Test.YtcnhklcbibpjpaaGreatDoorWNEv
import Derived.Test.YtcnhklcbibpjpaaGreatDoorWMore
namespace Go.Proofs.YtcnhklcbibpjpaaGreatDoor.PDec
open Go.RowKit Go.Proofs.YtcnhklcbibpjpaaGreatDoor.Ext Go.Proofs.YtcnhklcbibpjpaaGreatDoorW.PrintWords Go.Proofs.YtcnhklcbibpjpaaGreatDoorW.PrintLast Go.Proofs.YtcnhklcbibpjpaaGreatDoorW.PrintMore
attribute [local go_sem] max2_int min2_int max_two min_two max_three min_three max_four min_four   -- for this text's walks alone
set_option linter.unusedVariables false
set_option linter.unusedSimpArgs false



def errW : Option Int → Value
  | none => .nilIface
  | some c => .iface 0 (.int .i64 c)
theorem errW_none : errW none = .nilIface := rfl
theorem errW_some (c : Int) : errW (some c) = .iface 0 (.int .i64 c) := rfl

-- the values' own types

end Go.Proofs.YtcnhklcbibpjpaaGreatDoor.PDec
