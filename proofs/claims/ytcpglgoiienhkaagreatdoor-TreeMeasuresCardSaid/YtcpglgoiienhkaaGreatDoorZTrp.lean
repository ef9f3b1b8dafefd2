/- The tree of tokens, in plain Lean: what the reader of tokens comes to. -/
import Derived.Test.YtcpglgoiienhkaaGreatDoorZMD
import Derived.Test.YtcpglgoiienhkaaGreatDoorZPMsgx0
set_option linter.unusedVariables false
set_option linter.unusedSimpArgs false

namespace Go.Proofs.YtcpglgoiienhkaaGreatDoor
open P
abbrev Pt := PMsg.S42
abbrev Ct := PMsg.S47
abbrev Mt := PMsg.S24
inductive TR (α : Type) where
  | ok (i n : Nat) (x : α)
  | er (e at_ : Int)
def TR.bind {α β : Type} (r : TR α) (f : Nat → Nat → α → Option (TR β)) : Option (TR β) :=
  match r with
  | .ok i n x => f i n x
  | .er e a => some (.er e a)
def kdAt (ts : List Tk) (i : Nat) : Int := match ts[i]? with | some t => t.1 | none => 0
def e0 : ByteArray := ⟨#[]⟩
def leafP (t : Tk) : Pt := if t.1 = 2 then ⟨2, e0, e0, 0, e0, e0, []⟩ else ⟨1, t.2.1, e0, 0, e0, e0, []⟩
def wNumber : List UInt8 := [110, 117, 109, 98, 101, 114]
def wDate : List UInt8 := [100, 97, 116, 101]
def wTime : List UInt8 := [116, 105, 109, 101]
def wSpellout : List UInt8 := [115, 112, 101, 108, 108, 111, 117, 116]
def wOrdinalT : List UInt8 := [111, 114, 100, 105, 110, 97, 108]
def wDuration : List UInt8 := [100, 117, 114, 97, 116, 105, 111, 110]
def wList : List UInt8 := [108, 105, 115, 116]
def typeWords : List (List UInt8) := [[], wNumber, wDate, wTime, wSpellout, wOrdinalT, wDuration, wList]
def byTypeGo (w : List UInt8) : List (List UInt8) → Nat → Nat
  | [], _ => 0
  | x :: r, i => if x = w then i else byTypeGo w r (i + 1)
def byType (w : ByteArray) : Nat := byTypeGo w.data.toList typeWords 1
def manyKind (w : ByteArray) : Int :=
  if w.data.toList = wPlural then 4 else if w.data.toList = wOrdinal then 5 else if w.data.toList = wSelect then 6 else if w.data.toList = wChoice then 7 else 0
def caseHead (ts : List Tk) (i : Nat) (t : Tk) : Option (Nat × Int × ByteArray × Bool) :=
  if t.1 = 10 then (ts[i + 1]?).map fun u => (i + 2, u.2.2, t.2.1, false)
  else if t.2.1.size = 0 then none
  else some (i + 1, t.2.2, t.2.1.extract 0 (t.2.1.size - 1), b8 t.2.1 (t.2.1.size - 1) == 60)
def simpleEnd (ts : List Tk) (i : Nat) : Option (Nat × ByteArray) :=
  if kdAt ts i = 6 then (ts[i + 1]?).bind fun u => (ts[i + 2]?).map fun _ => (i + 3, u.2.1)
  else (ts[i]?).map fun _ => (i + 1, e0)
def offTok (ts : List Tk) (i : Nat) : Nat × ByteArray := match ts[i]? with | some t => if t.1 = 9 then (i + 1, t.2.1) else (i, e0) | none => (i, e0)
def caseEnd (ts : List Tk) (key : Bool) (i : Nat) : Option Nat :=
  if key then (ts[i]?).map fun _ => i + 1 else if kdAt ts i = 12 then some (i + 1) else some i
mutual
def msgT (ts : List Tk) : Nat → Nat → Nat → Nat → List Pt → Option (TR (List Pt))
  | 0, _, _, _, _ => none
  | k + 1, i, n, d, acc =>
    match ts[i]? with
    | none => some (.ok i n acc)
    | some t =>
      if t.1 = 1 ∨ t.1 = 2 ∨ t.1 = 3 then
        if n = 4096 then some (.er 5 t.2.2)
        else if t.1 = 3 then (argT ts k (i + 1) (n + 1) d).bind fun r => r.bind fun i2 n2 p => msgT ts k i2 n2 d (acc ++ [p])
        else msgT ts k (i + 1) (n + 1) d (acc ++ [leafP t])
      else some (.ok i n acc)
def argT (ts : List Tk) : Nat → Nat → Nat → Nat → Option (TR Pt)
  | 0, _, _, _ => none
  | k + 1, i, n, d =>
    (ts[i]?).bind fun nm =>
      if kdAt ts (i + 1) = 4 then some (.ok (i + 2) n ⟨3, e0, nm.2.1, 1, e0, e0, []⟩)
      else (ts[i + 1]?).bind fun _ => (ts[i + 2]?).bind fun t =>
        if manyKind t.2.1 = 0 then
          if byType t.2.1 = 0 then some (.er 200 t.2.2)
          else (simpleEnd ts (i + 3)).map fun q => .ok q.1 n ⟨3, e0, nm.2.1, (byType t.2.1 : Nat), q.2, e0, []⟩
        else (ts[i + 3]?).bind fun _ =>
          (casT ts k (offTok ts (i + 4)).1 n d []).bind fun r => r.bind fun i2 n2 cs =>
            if cs = [] then some (.er 200 nm.2.2)
            else (ts[i2]?).map fun _ => .ok (i2 + 1) n2 ⟨manyKind t.2.1, e0, nm.2.1, 0, e0, (offTok ts (i + 4)).2, cs⟩
def casT (ts : List Tk) : Nat → Nat → Nat → Nat → List Ct → Option (TR (List Ct))
  | 0, _, _, _, _ => none
  | k + 1, i, n, d, acc =>
    if kdAt ts i = 10 ∨ kdAt ts i = 11 then
      (oneT ts k i n acc.length d).bind fun r => r.bind fun i2 n2 c => casT ts k i2 n2 d (acc ++ [c])
    else some (.ok i n acc)
def oneT (ts : List Tk) : Nat → Nat → Nat → Nat → Nat → Option (TR Ct)
  | 0, _, _, _, _ => none
  | k + 1, i, n, had, d =>
    (ts[i]?).bind fun t =>
      if had = 64 then some (.er 5 t.2.2)
      else (caseHead ts i t).bind fun h =>
        if d = 32 then some (.er 201 h.2.1)
        else (msgT ts k h.1 n (d + 1) []).bind fun r => r.bind fun i2 n2 ps =>
          (caseEnd ts (decide (t.1 = 10)) i2).map fun i3 => .ok i3 n2 ⟨h.2.2.1, h.2.2.2, ⟨ps⟩⟩
end
def treeT (ts : List Tk) : Option (TR (List Pt)) := msgT ts (4 * ts.length + 4) 0 0 1 []
end Go.Proofs.YtcpglgoiienhkaaGreatDoor
