/- The law TreeTypes. -/
import Derived.Test.YtcpglgoiienhkaaGreatDoorZTaw
set_option linter.unusedVariables false
set_option linter.unusedSimpArgs false

namespace Go.Proofs.YtcpglgoiienhkaaGreatDoor
open Go.RowKit Go.Shelf P Ext Go.Proofs.YtcpglgoiienhkaaGreatDoorW.PrintWords
set_option maxRecDepth 100000 in
set_option maxHeartbeats 4000000 in
theorem TreeTypes_any (t : Int) (s : ByteArray) (w : World) (hG : GlH w) :
    Calls Tryz.prog 14 #[.int .i64 t, .string s] w fun e w' => e = .returned (.bool true) ∧ Below w.heap.size w w' := by
  have HB := Lib.hid (ByType_any s)
  have HR := Lib.hid (rByType_any s)
  generalize byType s = bt at *
  generalize hbb : decide (bt ≠ 0) = bb at *
  clear hbb
  have HT := Lib.hid (Type_any t w)
  have HU := Lib.hid (rType_any t)
  generalize typeWord t = tw at *
  generalize hdd : decide (1 ≤ t ∧ t ≤ 8) = dd at *
  clear hdd
  go_enter Tryz.func14, Tryz.ntmps14
  go_wp2_with fail
  refine HT.out.mono ?_
  rintro e w1 ⟨rfl, hb1⟩
  go_wp2_with fail
  refine (HU.out w1).mono ?_
  rintro e w2 ⟨rfl, hb2⟩
  have hb3 := hb1.trans (hb2.mono hb1.size)
  have e1 : (tw.toList != tw.toList) = false := by simp
  have e2 : (dd != dd) = false := by simp
  go_wp2_with fail
  refine (awake20_any w2 (hG.bel hb3)).mono ?_
  rintro e w3 ⟨rfl, hb4⟩
  have hb5 := hb3.trans (hb4.mono hb3.size)
  go_wp2_with fail
  refine (HB.out w3).mono ?_
  rintro e w4 ⟨rfl, hb6⟩
  have hb7 := hb5.trans (hb6.mono hb5.size)
  go_wp2_with fail
  refine (HR.out w4).mono ?_
  rintro e w5 ⟨rfl, hb8⟩
  have hb9 := hb7.trans (hb8.mono hb7.size)
  have e3 : ((bt : Int) == (bt : Int)) = true := by simp
  have e4 : (bb == bb) = true := by simp
  go_wp2_with fail
  go_ret
  exact ⟨by simp, hb9⟩
end Go.Proofs.YtcpglgoiienhkaaGreatDoor
