/- Contracts of library functions in the form that the printed functions use. -/
import Derived.Test.YtcpglgoiienhkaaGreatDoorZMA
import Derived.Test.YtcpglgoiienhkaaGreatDoorZW
set_option linter.unusedVariables false
set_option linter.unusedSimpArgs false

namespace Go.Proofs.YtcpglgoiienhkaaGreatDoor.Ext
open Go.RowKit Go.Proofs.YtcpglgoiienhkaaGreatDoorW.PrintWords
structure GlH (W : World) : Prop where
  gl : Gl W
  sz : 8 ≤ W.heap.size
theorem GlH.bel {w w1 : World} (h : GlH w) (hb : Below w.heap.size w w1) : GlH w1 := ⟨h.gl.below h.sz hb, by have := h.sz; have := hb.size; omega⟩
def strings_CutPrefix.f (a0 a1 : ByteArray) : Option (ByteArray × Bool) := some (⟨(Lib.trimPrefix a0.data.toList a1.data.toList).toArray⟩, Lib.hasPrefix a0.data.toList a1.data.toList)
theorem strings_CutPrefix.calls (a0 a1 : ByteArray) (r1 : ByteArray) (r2 : Bool) (w : World) (hG : GlH w) (h : strings_CutPrefix.f a0 a1 = some (r1, r2)) :
    Calls Tryz.prog 92 #[.string a0, .string a1] w fun e w' => e = .returned (.tuple #[.string r1, .bool r2]) ∧ Drawn0 w w' := by
  simp only [strings_CutPrefix.f, Option.some.injEq, Prod.mk.injEq] at h
  obtain ⟨rfl, rfl⟩ := h
  refine (Tryz.strings_CutPrefix _ _ _).mono ?_
  rintro e w' ⟨rfl, rfl⟩
  exact ⟨rfl, Drawn0.refl _⟩
def strings_Cut.f (a0 a1 : ByteArray) : Option (ByteArray × ByteArray × Bool) :=
  if a0.size < 4294967281 then some (⟨(Lib.cut a0.data.toList a1.data.toList).1.toArray⟩, ⟨(Lib.cut a0.data.toList a1.data.toList).2.1.toArray⟩, (Lib.cut a0.data.toList a1.data.toList).2.2) else none
theorem strings_Cut.calls (a0 a1 : ByteArray) (r1 r2 : ByteArray) (r3 : Bool) (w : World) (hG : GlH w) (h : strings_Cut.f a0 a1 = some (r1, r2, r3)) :
    Calls Tryz.prog 149 #[.string a0, .string a1] w fun e w' => e = .returned (.tuple #[.string r1, .string r2, .bool r3]) ∧ Drawn0 w w' := by
  unfold strings_Cut.f at h
  split at h
  · rename_i hs
    simp only [Option.some.injEq, Prod.mk.injEq] at h
    obtain ⟨rfl, rfl, rfl⟩ := h
    obtain ⟨m, hm⟩ := hG.gl.mlen
    refine (Tryz.strings_Cut _ _ m _ hs hm).mono ?_
    rintro e w' ⟨rfl, n, rfl⟩
    exact ⟨rfl, n, rfl⟩
  · cases h
def strings_Trim.f (a0 a1 : ByteArray) : Option ByteArray :=
  match a1.data.toList with
  | [c] => if c.toNat < 128 ∧ a0.size ≤ 9223372036854775807 then some ⟨(Lib.trimB a0.data.toList c).toArray⟩ else none
  | _ => none
theorem strings_Trim.calls (a0 a1 : ByteArray) (r : ByteArray) (w : World) (hG : GlH w) (h : strings_Trim.f a0 a1 = some r) :
    Calls Tryz.prog 172 #[.string a0, .string a1] w fun e w' => e = .returned (.string r) ∧ Drawn0 w w' := by
  unfold strings_Trim.f at h
  split at h
  · rename_i c hc
    split at h
    · rename_i hs
      simp only [Option.some.injEq] at h
      subst h
      have ha : a1 = ⟨#[c]⟩ := by
        obtain ⟨⟨l⟩⟩ := a1
        simp at hc
        rw [hc]
      subst ha
      refine (Tryz.strings_Trim_one _ c hs.1 _ hs.2).mono ?_
      rintro e w' ⟨rfl, rfl | rfl⟩
      · exact ⟨rfl, Drawn0.refl _⟩
      · exact ⟨rfl, 1, rfl⟩
    · cases h
  · cases h
end Go.Proofs.YtcpglgoiienhkaaGreatDoor.Ext
