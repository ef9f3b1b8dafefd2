/- The law TreeMeasures. -/
import Derived.Test.YtcpglgoiienhkaaGreatDoorZTcw
import Derived.Test.YtcpglgoiienhkaaGreatDoorZTaw
set_option linter.unusedVariables false
set_option linter.unusedSimpArgs false

namespace Go.Proofs.YtcpglgoiienhkaaGreatDoor
open Go.RowKit Go.Shelf P Ext Go.Proofs.YtcpglgoiienhkaaGreatDoorW.PrintWords
set_option maxRecDepth 100000 in
set_option maxHeartbeats 4000000 in
theorem TreeMeasures_any (ps : List Pt) (A : Option Addr) (c : Nat) (w : World) (hC : Kd.C PMsg.k42 w A ps.length ps) (hc : ps.length ≤ c) (hG : GlH w) :
    Calls Tryz.prog 9 #[.agg #[.slice A ps.length c]] w fun e w' => e = .returned (.bool true) ∧ Below w.heap.size w w' := by
  have hok := okT_of _ ps (Nat.le_refl _) hC
  obtain ⟨k1, hd1⟩ := (depth_f ps hok).rounds
  obtain ⟨k2, hd2⟩ := (rdepth_f ps hok).rounds
  obtain ⟨k3, hd3⟩ := (count_f ps hok).rounds
  obtain ⟨k4, hd4⟩ := (rcount_f ps hok).rounds
  have H1 := Lib.hid (fun W (hb : Below w.heap.size w W) => PMsg.tree_Depth.calls k1 A c ps _ W (Kd.C_below hC hb) hc trivial hd1)
  have H2 := Lib.hid (fun W (hb : Below w.heap.size w W) => PMsg.idiomref20_Depth.calls k2 A c ps _ W (Kd.C_below hC hb) hc trivial hd2)
  have H3 := Lib.hid (fun W (hb : Below w.heap.size w W) => PMsg.tree_Count.calls k3 A c ps _ W (Kd.C_below hC hb) hc trivial hd3)
  have H4 := Lib.hid (fun W (hb : Below w.heap.size w W) => PMsg.idiomref20_Count.calls k4 A c ps _ W (Kd.C_below hC hb) hc trivial hd4)
  clear hd1 hd2 hd3 hd4
  generalize ((depthN ps : Nat) : Int) = d at *
  generalize ((min (tL ps) 4097 : Nat) : Int) = n at *
  clear hok hC hc
  generalize ps.length = m at *
  have e1 : (d == d) = true := by simp
  have e2 : (n == n) = true := by simp
  have hb1 : Below w.heap.size w (w.alloc (.cells #[.slice A m c] 24)) := (Below.refl _ w).alloc (Nat.le_refl _) _
  have mb := World.alloc_heap_new w (.cells #[.slice A m c] 24)
  go_enter Tryz.func9, Tryz.ntmps9
  go_upto_region 1 with (fail)
  generalize w.alloc (.cells #[.slice A m c] 24) = W1 at *
  have z1 : W1.cell? ⟨w.heap.size, 0, none⟩ = some (.slice A m c) := blk_cell mb 0
  have hB1 := Below.drew' hb1
  have mb1 := blk_drew mb
  go_region_held3 (fun w' => w'.cell? ⟨w.heap.size, 0, none⟩ = some (.slice A m c)) (first | go_keep | exact blk_cell mb1 0 | exact blk_cell mb2 0 | exact blk_cell mb3 0 | exact blk_cell mb4 0 | exact blk_cell mb5 0 | exact blk_cell mb6 0)
    (first
      | (go_at_call 34; refine (H1.out _ hB1).mono ?_; rintro e' W2 ⟨rfl, hx2⟩; have hB2 := hB1.trans (hx2.mono hB1.size); have mb2 := blk_below mb1 hx2)
      | (go_at_call 35; refine (H2.out _ hB2).mono ?_; rintro e' W3 ⟨rfl, hx3⟩; have hB3 := hB2.trans (hx3.mono hB2.size); have mb3 := blk_below mb2 hx3)
      | (go_at_call 36; refine (H3.out _ hB3).mono ?_; rintro e' W4 ⟨rfl, hx4⟩; have hB4 := hB3.trans (hx4.mono hB3.size); have mb4 := blk_below mb3 hx4)
      | (go_at_call 37; refine (H4.out _ hB4).mono ?_; rintro e' W5 ⟨rfl, hx5⟩; have hB5 := hB4.trans (hx5.mono hB4.size); have mb5 := blk_below mb4 hx5)
      | (go_at_call 33; refine (awake20_any _ (hG.bel hB5)).mono ?_; rintro e' W6 ⟨rfl, hx6⟩; have hB6 := hB5.trans (hx6.mono hB5.size); have mb6 := blk_below mb5 hx6))
  all_goals
    go_wp2_with fail
    go_ret
    exact ⟨rfl, hB6⟩
end Go.Proofs.YtcpglgoiienhkaaGreatDoor
