/- Lemmas behind the laws of the tokens; no conditions. -/
import Derived.Test.YtcnhklcbibpjpaaGreatDoorZRgw
set_option linter.unusedVariables false
set_option linter.unusedSimpArgs false

namespace Go.Proofs.YtcnhklcbibpjpaaGreatDoor
open Go.RowKit P Ext PRfa
theorem own_cell {W : World} {g j : Nat} {cur : Array Value} {T : TypeId} (h : W.heap[g]? = some (.cells cur T (0, 0))) (hj : j < cur.size) : ∃ u, W.cell? ⟨g, j, none⟩ = some u := by
  rw [Lib.cell_of_heap h]
  exact ⟨_, Array.getElem?_eq_getElem hj⟩
set_option maxRecDepth 100000 in
set_option maxHeartbeats 16000000 in
theorem TokenOwn_any (s : ByteArray) (w : World) (hG : GlH w) :
    Calls Tryz.prog 5 #[.string s] w fun e w' => e = .returned (.bool true) ∧ Below w.heap.size w w' := by
  go_enter Tryz.func5, Tryz.ntmps5
  go_wp2_with fail
  go_loopw [3] (fun v3 wr => ∃ r : Nat, v3 = .int .i64 (r : Int) ∧ r ≤ 2 ∧ Below w.heap.size w wr) (fun v3 _ => 2 - valN v3)
  case atStart => exact ⟨0, rfl, by omega, Below.refl _ _⟩
  case round =>
    obtain ⟨r, rfl, hr2, hb0⟩ := hrel
    by_cases hlt : r < 2
    · have d2 : decide ((r : Int) < 2) = true := by simp; omega
      have HL := Lib.hid (Lex_any s 1 wr (hG.bel hb0))
      have eS : IntKind.i64.wrap ((r : Int) + 1) = (r : Int) + 1 := by rw [IntWalk.i64_in _ (by omega)]
      go_wp2_with fail
      refine HL.out.mono ?_
      rintro e w1 ⟨hp, hb1⟩
      have hb1' := hb0.trans (hb1.mono hb0.size)
      have HR := Lib.hid (rLex_any s 1 w1 (hG.bel hb1'))
      cases hr : lexO s 1 with
      | er k a =>
        rw [hr] at hp HR
        obtain rfl := hp
        clear hr HL
        go_wp2_with fail
        refine HR.out.mono ?_
        rintro e w2 ⟨hp, hb2⟩
        obtain rfl := hp
        have hb3 := hb1'.trans (hb2.mono hb1'.size)
        have e1 : (k != k) = false := by simp
        clear HR
        have HS := Lib.hid (Same_any (.slice none 0 0) (.slice none 0 0) [] [] true 0 0 w2 (World.ownsRow_nil _ _ _ _) (World.ownsRow_nil _ _ _ _))
        go_wp2_with fail
        refine HS.out.mono ?_
        rintro e w3 ⟨rfl, hb4⟩
        have hb5 := hb3.trans (hb4.mono hb3.size)
        have e3 : sameB true [] [] = true := rfl
        clear HS
        go_wp2_with fail
        go_loopw [10] (fun v10 wk => v10 = .int .i64 0 ∧ Below w.heap.size w wk) (fun _ _ => 0)
        case atStart => exact ⟨rfl, hb5⟩
        case round =>
          obtain ⟨rfl, hbk⟩ := hrel
          go_wp2_with fail
          go_roundw
          case rel => exact ⟨r + 1, int_eq (by omega), by omega, hbk⟩
          case measure => simp [valN]; omega
      | ok j ts al =>
        rw [hr] at hp HR
        obtain ⟨v, rfl, ho⟩ := hp
        have hl1 := row_le ho
        have hvs : ∃ g k c, v = .slice g k c := by
          rcases ho.2 with ⟨rfl, _⟩ | ⟨g, cap, cur, rfl, _⟩ <;> exact ⟨_, _, _, rfl⟩
        obtain ⟨gv, kk, cc, rfl⟩ := hvs
        clear hr HL
        go_wp2_with fail
        refine HR.out.mono ?_
        rintro e w2 ⟨⟨v2, rfl, ho2⟩, hb2⟩
        have hb3 := hb1'.trans (hb2.mono hb1'.size)
        have ho3 := ownsRow_laterU ho hb2
        have hvs2 : ∃ g k c, v2 = .slice g k c := by
          rcases ho2.2 with ⟨rfl, _⟩ | ⟨g, cap, cur, rfl, _⟩ <;> exact ⟨_, _, _, rfl⟩
        obtain ⟨g2, kk2, cc2, rfl⟩ := hvs2
        have HS := Lib.hid (Same_any _ _ ts ts true _ _ w2 ho3 ho2)
        rw [sameB_refl] at HS
        clear ho ho2 HR
        have HO := Lib.hid ho3
        clear ho3
        go_wp2_with fail
        refine HS.out.mono ?_
        rintro e w3 ⟨rfl, hb4⟩
        have hb5 := hb3.trans (hb4.mono hb3.size)
        have ho5 := ownsRow_laterU HO.out hb4
        clear HS HO
        rcases ho5.2 with ⟨hv, h0⟩ | ⟨g, cap, cur, hv, hbg, hg, h1, h2, h3, h4⟩
        · cases hv
          clear ho5
          go_wp2_with fail
          go_loopw [10] (fun v10 wk => v10 = .int .i64 0 ∧ Below w.heap.size w wk) (fun _ _ => 0)
          case atStart => exact ⟨rfl, hb5⟩
          case round =>
            obtain ⟨rfl, hbk⟩ := hrel
            go_wp2_with fail
            go_roundw
            case rel => exact ⟨r + 1, int_eq (by omega), by omega, hbk⟩
            case measure => simp [valN]; omega
        · cases hv
          have hsz : ts.length * 3 ≤ cur.size := by
            have := h3
            have := Nat.mul_le_mul_right 3 h1
            omega
          have hgw : w.heap.size ≤ g := Nat.le_trans hb0.size hbg
          clear ho5 h3 h4
          go_wp2_with fail
          go_loopw [10] (fun v10 wk => ∃ (i : Nat) (cu : Array Value), v10 = .int .i64 (i : Int) ∧ i ≤ ts.length ∧ ts.length * 3 ≤ cu.size ∧ wk.heap[g]? = some (.cells cu 30 (0, 0)) ∧ Below w.heap.size w wk) (fun v10 _ => ts.length - valN v10)
          case atStart => exact ⟨0, cur, rfl, Nat.zero_le _, hsz, hg, hb5⟩
          case round =>
            obtain ⟨i, cu, rfl, hi, hcu, hgk, hbk⟩ := hrel
            by_cases hil : i < ts.length
            · have d3 : decide ((i : Int) < (ts.length : Int)) = true := by simp; omega
              have hi0 : (0 : Int) ≤ (i : Int) := by omega
              have hilt : (i : Int) < ts.length := by omega
              obtain ⟨u0, x0⟩ := own_cell (j := i * 3) hgk (by omega)
              obtain ⟨u1, x1⟩ := own_cell (j := i * 3 + 1) hgk (by omega)
              obtain ⟨u2, x2⟩ := own_cell (j := i * 3 + 2) hgk (by omega)
              have xf := fun j : Nat => Lib.frozen_of_heap hgk j
              have eI : IntKind.i64.wrap ((i : Int) + 1) = (i : Int) + 1 := by rw [IntWalk.i64_in _ (by omega)]
              have k1 := heap_setCell hgk (j := i * 3) (.int .i64 77)
              have k2 := heap_setCell k1 (j := i * 3 + 1) (.string ⟨#[]⟩)
              have k3 := heap_setCell k2 (j := i * 3 + 2) (.int .i64 0)
              have hbn := ((hbk.setCell (p := ⟨g, i * 3, none⟩) hgw (.int .i64 77)).setCell (p := ⟨g, i * 3 + 1, none⟩) hgw (.string ⟨#[]⟩)).setCell (p := ⟨g, i * 3 + 2, none⟩) hgw (.int .i64 0)
              have K3 := Lib.hid k3
              have HBN := Lib.hid hbn
              clear k1 k2 k3 hbn
              go_wp2_with fail
              go_roundw
              case rel => exact ⟨i + 1, _, int_eq (by omega), by omega, by simpa using hcu, K3.out, HBN.out⟩
              case measure => simp [valN]; omega
            · have d3 : decide ((i : Int) < (ts.length : Int)) = false := by simp; omega
              go_wp2_with fail
              go_roundw
              case rel => exact ⟨r + 1, int_eq (by omega), by omega, hbk⟩
              case measure => simp [valN]; omega
    · have d2 : decide ((r : Int) < 2) = false := by simp; omega
      go_wp2_with fail
      refine (awake_any wr (hG.bel hb0)).mono ?_
      rintro e w4 ⟨rfl, hb6⟩
      go_wp2_with fail
      go_ret
      exact ⟨rfl, hb0.trans (hb6.mono hb0.size)⟩
end Go.Proofs.YtcnhklcbibpjpaaGreatDoor
