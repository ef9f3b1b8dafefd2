/- The law's own message of chapter 20. -/
import Derived.Test.YtcpglgoiienhkaaGreatDoorZTrs
import Derived.Test.YtcpglgoiienhkaaGreatDoorZPMsgx3
set_option linter.unusedVariables false
set_option linter.unusedSimpArgs false

namespace Go.Proofs.YtcpglgoiienhkaaGreatDoor
open Go.RowKit Go.Shelf P Ext Go.Proofs.YtcpglgoiienhkaaGreatDoorW.PrintWords
def awS : ByteArray := ⟨#[123, 110, 44, 32, 112, 108, 117, 114, 97, 108, 44, 32, 111, 110, 101, 32, 123, 35, 32, 102, 105, 108, 101, 125, 32, 111, 116, 104, 101, 114, 32, 123, 35, 32, 102, 105, 108, 101, 115, 125, 125, 32, 105, 110, 32, 123, 102, 111, 108, 100, 101, 114, 125]⟩
def awT : List Tk := [(3, ⟨#[]⟩, 0), (5, ⟨#[110]⟩, 1), (6, ⟨#[]⟩, 2), (7, ⟨#[112, 108, 117, 114, 97, 108]⟩, 4), (6, ⟨#[]⟩, 10), (10, ⟨#[111, 110, 101]⟩, 12), (3, ⟨#[]⟩, 16), (2, ⟨#[]⟩, 17), (1, ⟨#[32, 102, 105, 108, 101]⟩, 18), (4, ⟨#[]⟩, 23), (10, ⟨#[111, 116, 104, 101, 114]⟩, 25), (3, ⟨#[]⟩, 31), (2, ⟨#[]⟩, 32), (1, ⟨#[32, 102, 105, 108, 101, 115]⟩, 33), (4, ⟨#[]⟩, 39), (4, ⟨#[]⟩, 40), (1, ⟨#[32, 105, 110, 32]⟩, 41), (3, ⟨#[]⟩, 45), (5, ⟨#[102, 111, 108, 100, 101, 114]⟩, 46), (4, ⟨#[]⟩, 52)]
def awP : List Pt := [⟨4, ⟨#[]⟩, ⟨#[110]⟩, 0, ⟨#[]⟩, ⟨#[]⟩, [⟨⟨#[111, 110, 101]⟩, false, ⟨[⟨2, ⟨#[]⟩, ⟨#[]⟩, 0, ⟨#[]⟩, ⟨#[]⟩, []⟩, ⟨1, ⟨#[32, 102, 105, 108, 101]⟩, ⟨#[]⟩, 0, ⟨#[]⟩, ⟨#[]⟩, []⟩]⟩⟩, ⟨⟨#[111, 116, 104, 101, 114]⟩, false, ⟨[⟨2, ⟨#[]⟩, ⟨#[]⟩, 0, ⟨#[]⟩, ⟨#[]⟩, []⟩, ⟨1, ⟨#[32, 102, 105, 108, 101, 115]⟩, ⟨#[]⟩, 0, ⟨#[]⟩, ⟨#[]⟩, []⟩]⟩⟩]⟩, ⟨1, ⟨#[32, 105, 110, 32]⟩, ⟨#[]⟩, 0, ⟨#[]⟩, ⟨#[]⟩, []⟩, ⟨3, ⟨#[]⟩, ⟨#[102, 111, 108, 100, 101, 114]⟩, 1, ⟨#[]⟩, ⟨#[]⟩, []⟩]
def R.toks : R → Option (List Tk)
  | .ok _ ts _ => some ts
  | .er .. => none
theorem R.toks_ok {r : R} {ts : List Tk} (h : r.toks = some ts) : ∃ j al, r = .ok j ts al := by
  cases r with
  | ok j us al => cases h; exact ⟨j, al, rfl⟩
  | er e a => cases h
theorem aw_lex : (lexO awS 1).toks = some awT := by decide +kernel
theorem aw_tree : msgT awT 12 0 0 1 [] = some (.ok 20 7 awP) := by kernel_rfl
theorem aw_parse : parseO awS 1 = .ok 20 7 awP := by
  obtain ⟨j, al, h⟩ := R.toks_ok aw_lex
  rw [parseO, h]
  exact treeR_eq aw_tree
theorem aw_count : PMsg.tree_Count.f 30 awP = some 7 := by decide +kernel
theorem aw_depth : PMsg.tree_Depth.f 30 awP = some 2 := by decide +kernel
set_option maxRecDepth 100000 in
set_option maxHeartbeats 4000000 in
theorem awake20_any (w : World) (hG : GlH w) : Calls Tryz.prog 33 #[] w fun e w' => e = .returned (.bool true) ∧ Below w.heap.size w w' := by
  have HL := Lib.hid (TParse_any awS 1 w hG)
  rw [aw_parse] at HL
  go_enter Tryz.func33, Tryz.ntmps33
  go_wp2_with fail
  refine HL.out.mono ?_
  rintro e w1 ⟨⟨u, rfl, hr⟩, hb⟩
  obtain ⟨g, cu, rfl, hg1, hg2, cells, hgb⟩ := Kd.R_form hr (by decide)
  obtain ⟨_, hc1, hC⟩ := Kd.R_reads' hr
  have h3 : awP.length = 3 := rfl
  rw [h3]
  go_upto_region 2 with (fail)
  have hb2 : Below w1.heap.size w1 (w1.alloc (.cells #[.slice (some ⟨g, 0, none⟩) 3 cu] 24)) := (Below.refl _ w1).alloc (Nat.le_refl _) _
  have mb := World.alloc_heap_new w1 (.cells #[.slice (some ⟨g, 0, none⟩) 3 cu] 24)
  have hC2 := Kd.C_below hC hb2
  have hb3 := hb.trans (hb2.mono hb.size)
  generalize w1.alloc (.cells #[.slice (some ⟨g, 0, none⟩) 3 cu] 24) = w2 at *
  generalize w1.heap.size = MB at *
  obtain ⟨ad, A6, c6, he, x0, x1, x2, x3, x4, x5, x6, l6, i6⟩ := PMsg.at_T42 hC2 0 (by decide) (by decide)
  cases he
  obtain ⟨ad2, A62, c62, he2, w0, w1', w2', w3, w4, w5, w6, l62, i62⟩ := PMsg.at_T42 hC2 2 (by decide) (by decide)
  cases he2
  rw [add_plain] at x0 x6 w2'
  have y0 : w2.cell? ⟨g, 0, none⟩ = some (.int .i64 4) := x0
  have y6 : w2.cell? ⟨g, 6, none⟩ = some (.slice A6 2 c6) := x6
  have y16 : w2.cell? ⟨g, 16, none⟩ = some (.string ⟨#[102, 111, 108, 100, 101, 114]⟩) := w2'
  have z0 : w2.cell? ⟨MB, 0, none⟩ = some (.slice (some ⟨g, 0, none⟩) 3 cu) := blk_cell mb 0
  have HD := Lib.hid (PMsg.tree_Depth.calls 30 _ cu awP 2 w2 hC2 hc1 trivial aw_depth)
  rw [h3] at HD
  clear x0 x1 x2 x3 x4 x5 x6 l6 i6 w0 w1' w2' w3 w4 w5 w6 l62 i62 hr hgb hC
  have HC2 := Lib.hid hC2
  have HB3 := Lib.hid hb3
  have HM := Lib.hid mb
  have H3 := Lib.hid h3
  clear hC2 hb3 mb hb hb2 h3
  go_wp2_with fail
  refine HD.out.mono ?_
  rintro e w3 ⟨rfl, hb4⟩
  have HC := Lib.hid (PMsg.tree_Count.calls 30 _ cu awP 7 w3 (Kd.C_below HC2.out hb4) hc1 trivial aw_count)
  rw [H3.out] at HC
  have z0 : w3.cell? ⟨MB, 0, none⟩ = some (.slice (some ⟨g, 0, none⟩) 3 cu) := blk_cell (blk_below HM.out hb4) 0
  go_wp2_with fail
  refine HC.out.mono ?_
  rintro e w4 ⟨rfl, hb5⟩
  go_wp2_with fail
  go_ret
  have hb6 := HB3.out.trans (hb4.mono HB3.out.size)
  exact ⟨rfl, hb6.trans (hb5.mono hb6.size)⟩
end Go.Proofs.YtcpglgoiienhkaaGreatDoor
