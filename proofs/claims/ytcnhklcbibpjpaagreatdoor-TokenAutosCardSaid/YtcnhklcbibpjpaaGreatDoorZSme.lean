/- Lemmas behind the laws of the tokens; no conditions. -/
import Derived.Test.YtcnhklcbibpjpaaGreatDoorZMG
set_option linter.unusedVariables false
set_option linter.unusedSimpArgs false

namespace Go.Proofs.YtcnhklcbibpjpaaGreatDoor
open Go.RowKit P Ext
theorem tkCells_get (ts : List Tk) : ∀ (i : Nat) (hi : i < ts.length), (tkCells ts)[i * 3]? = some (.int .i64 (ts[i]'hi).1) ∧ (tkCells ts)[i * 3 + 1]? = some (.string (ts[i]'hi).2.1) ∧ (tkCells ts)[i * 3 + 2]? = some (.int .i64 (ts[i]'hi).2.2) := by
  induction ts with
  | nil => intro i hi; simp at hi
  | cons t ts ih =>
    intro i hi
    have e : tkCells (t :: ts) = .int .i64 t.1 :: .string t.2.1 :: .int .i64 t.2.2 :: tkCells ts := rfl
    cases i with
    | zero => rw [e]; exact ⟨rfl, rfl, rfl⟩
    | succ i =>
      have := ih i (by simpa using hi)
      rw [e, show (i + 1) * 3 = i * 3 + 3 from by omega]
      simpa using this
theorem tok_cells {W : World} {b : Nat} {v : Value} {ts : List Tk} (h : W.ownsRow b 30 3 v ts.length (tkCells ts)) :
    ∃ ad cap, v = .slice ad ts.length cap ∧ ∀ (i : Nat) (hi : i < ts.length), ∃ g, ad = some ⟨g, 0, none⟩ ∧ g < W.heap.size ∧ W.cell? ⟨g, i * 3, none⟩ = some (.int .i64 (ts[i]'hi).1) ∧ W.cell? ⟨g, i * 3 + 1, none⟩ = some (.string (ts[i]'hi).2.1) ∧ W.cell? ⟨g, i * 3 + 2, none⟩ = some (.int .i64 (ts[i]'hi).2.2) := by
  rcases h.2 with ⟨rfl, h0⟩ | ⟨g, cap, cur, rfl, hb, hg, h1, h2, h3, h4⟩
  · exact ⟨none, 0, by rw [h0], fun i hi => by omega⟩
  · refine ⟨some ⟨g, 0, none⟩, cap, rfl, fun i hi => ⟨g, rfl, (Array.getElem?_eq_some_iff.1 hg).1, ?_⟩⟩
    have hg' : ∀ j u, j < ts.length * 3 → (tkCells ts)[j]? = some u → W.cell? ⟨g, j, none⟩ = some u := fun j u hj hu => by
      rw [Lib.cell_of_heap hg, ← Array.getElem?_toList, ← List.getElem?_take_of_lt hj, h4]; exact hu
    obtain ⟨a1, a2, a3⟩ := tkCells_get ts i hi
    exact ⟨hg' _ _ (by omega) a1, hg' _ _ (by omega) a2, hg' _ _ (by omega) a3⟩
theorem row_le {W : World} {b : Nat} {e : TypeId} {z : Nat} {v : Value} {n : Nat} {xs : List Value} (h : W.ownsRow b e z v n xs) : n ≤ 9223372036854775807 := by
  rcases h.2 with ⟨_, h0⟩ | ⟨g, cap, cur, _, _, _, h1, h2, _⟩
  · omega
  · unfold maxLen at h2; omega
def sameB (pl : Bool) : List Tk → List Tk → Bool
  | [], [] => true
  | t :: ts, u :: us => t.1 == u.1 && t.2.1.toList == u.2.1.toList && (!pl || t.2.2 == u.2.2) && sameB pl ts us
  | _, _ => false
theorem sameB_len (pl : Bool) : ∀ (ts us : List Tk), ts.length ≠ us.length → sameB pl ts us = false
  | [], [], h => absurd rfl h
  | [], _ :: _, _ => rfl
  | _ :: _, [], _ => rfl
  | t :: ts, u :: us, h => by
    rw [sameB, sameB_len pl ts us (fun e => h (by simp [e]))]; simp
theorem sameB_step (pl : Bool) (ts us : List Tk) (i : Nat) (h1 : i < ts.length) (h2 : i < us.length) : sameB pl (ts.drop i) (us.drop i) =
    ((ts[i]'h1).1 == (us[i]'h2).1 && (ts[i]'h1).2.1.toList == (us[i]'h2).2.1.toList && (!pl || (ts[i]'h1).2.2 == (us[i]'h2).2.2) && sameB pl (ts.drop (i + 1)) (us.drop (i + 1))) := by
  rw [List.drop_eq_getElem_cons h1, List.drop_eq_getElem_cons h2, sameB]
set_option maxRecDepth 100000 in
set_option maxHeartbeats 8000000 in
theorem Same_any (v1 v2 : Value) (ts us : List Tk) (pl : Bool) (b1 b2 : Nat) (w : World) (h1 : w.ownsRow b1 30 3 v1 ts.length (tkCells ts)) (h2 : w.ownsRow b2 30 3 v2 us.length (tkCells us)) :
    Calls Tryz.prog 12 #[v1, v2, .bool pl] w fun e w' => e = .returned (.bool (sameB pl ts us)) ∧ Below w.heap.size w w' := by
  have hl1 := row_le h1
  obtain ⟨ad1, cap1, rfl, hc1⟩ := tok_cells h1
  obtain ⟨ad2, cap2, rfl, hc2⟩ := tok_cells h2
  clear h1 h2
  by_cases hl : ts.length = us.length
  · have e0 : ((ts.length : Int) != (us.length : Int)) = false := by simp; omega
    have HL := Lib.hid hl
    clear hl
    go_enter Tryz.func12, Tryz.ntmps12
    go_wp2_with fail
    go_loopw [7] (fun v4 wr => ∃ i : Nat, v4 = .int .i64 (i : Int) ∧ i ≤ ts.length ∧ Hid (sameB pl ts us = sameB pl (ts.drop i) (us.drop i)) ∧ Below w.heap.size w wr) (fun v4 _ => ts.length - valN v4)
    case atStart => exact ⟨0, rfl, by omega, Lib.hid rfl, Below.refl _ _⟩
    case round =>
      obtain ⟨i, rfl, hi, HS, hbw⟩ := hrel
      by_cases hlt : i < ts.length
      · have hlt2 : i < us.length := by have := HL.out; omega
        have d1 : decide ((i : Int) < (ts.length : Int)) = true := by simp; omega
        obtain ⟨g1, rfl, hg1, x1, x2, x3⟩ := hc1 i hlt
        obtain ⟨g2, rfl, hg2, y1, y2, y3⟩ := hc2 i hlt2
        rw [← World.cell?_of_block (a := ⟨g1, i * 3, none⟩) (hbw.block g1 hg1)] at x1
        rw [← World.cell?_of_block (a := ⟨g1, i * 3 + 1, none⟩) (hbw.block g1 hg1)] at x2
        rw [← World.cell?_of_block (a := ⟨g1, i * 3 + 2, none⟩) (hbw.block g1 hg1)] at x3
        rw [← World.cell?_of_block (a := ⟨g2, i * 3, none⟩) (hbw.block g2 hg2)] at y1
        rw [← World.cell?_of_block (a := ⟨g2, i * 3 + 1, none⟩) (hbw.block g2 hg2)] at y2
        rw [← World.cell?_of_block (a := ⟨g2, i * 3 + 2, none⟩) (hbw.block g2 hg2)] at y3
        have HT := Lib.hid (HS.out.trans (sameB_step pl ts us i hlt hlt2))
        clear HS
        generalize ts[i]'hlt = t at *
        generalize us[i]'hlt2 = u at *
        obtain ⟨t1, t2, t3⟩ := t
        obtain ⟨u1, u2, u3⟩ := u
        cases hk : (t1 == u1) with
        | false =>
          have e1 : (t1 != u1) = true := by simp [bne, hk]
          have HF : Hid (sameB pl ts us = false) := Lib.hid (by rw [HT.out, hk]; rfl)
          clear HT hk
          go_wp2_with fail
          go_quiet (fail)
          have hbq := Below.drewN' hbw nq
          generalize wr.drewN nq = wq at *
          go_wp2_with fail
          go_ret
          rw [HF.out]
          exact ⟨rfl, hbq⟩
        | true =>
          have e1 : (t1 != u1) = false := by simp [bne, hk]
          cases ht : (t2.toList == u2.toList) with
          | false =>
            have e2 : (t2.toList != u2.toList) = true := by simp [bne, ht]
            have HF : Hid (sameB pl ts us = false) := Lib.hid (by rw [HT.out, ht]; simp)
            clear HT hk
            go_wp2_with fail
            go_quiet (fail)
            have hbq := Below.drewN' hbw nq
            generalize wr.drewN nq = wq at *
            go_wp2_with fail
            go_ret
            rw [HF.out]
            exact ⟨rfl, hbq⟩
          | true =>
            have e2 : (t2.toList != u2.toList) = false := by simp [bne, ht]
            cases pl with
            | false =>
              have HG : Hid (sameB false ts us = sameB false (ts.drop (i + 1)) (us.drop (i + 1))) := Lib.hid (by rw [HT.out, hk, ht]; simp)
              clear HT hk
              go_wp2_with fail
              go_quiet (fail)
              have hbq := Below.drewN' hbw nq
              generalize wr.drewN nq = wq at *
              go_wp2_with fail
              go_roundw
              case rel => exact ⟨i + 1, int_eq (by omega), by omega, HG, hbq⟩
              case measure => simp [valN]; omega
            | true =>
              cases hp : (t3 == u3) with
              | false =>
                have e3 : (t3 != u3) = true := by simp [bne, hp]
                have HF : Hid (sameB true ts us = false) := Lib.hid (by rw [HT.out, hp]; simp)
                clear HT hk
                go_wp2_with fail
                go_quiet (fail)
                have hbq := Below.drewN' hbw nq
                generalize wr.drewN nq = wq at *
                go_wp2_with fail
                go_ret
                rw [HF.out]
                exact ⟨rfl, hbq⟩
              | true =>
                have e3 : (t3 != u3) = false := by simp [bne, hp]
                have HG : Hid (sameB true ts us = sameB true (ts.drop (i + 1)) (us.drop (i + 1))) := Lib.hid (by rw [HT.out, hk, ht, hp]; simp)
                clear HT hk
                go_wp2_with fail
                go_quiet (fail)
                have hbq := Below.drewN' hbw nq
                generalize wr.drewN nq = wq at *
                go_wp2_with fail
                go_roundw
                case rel => exact ⟨i + 1, int_eq (by omega), by omega, HG, hbq⟩
                case measure => simp [valN]; omega
      · have d1 : decide ((i : Int) < (ts.length : Int)) = false := by simp; omega
        have HF : Hid (sameB pl ts us = true) := Lib.hid (by have := HL.out; rw [HS.out, List.drop_eq_nil_of_le (by omega), List.drop_eq_nil_of_le (by omega)]; rfl)
        clear HS
        go_wp2_with fail
        go_ret
        rw [HF.out]
        exact ⟨rfl, hbw⟩
  · have e0 : ((ts.length : Int) != (us.length : Int)) = true := by simp; omega
    have HF : Hid (sameB pl ts us = false) := Lib.hid (sameB_len pl ts us hl)
    go_enter Tryz.func12, Tryz.ntmps12
    go_wp2_with fail
    go_ret
    rw [HF.out]
    exact ⟨rfl, Below.refl _ _⟩
theorem sameB_sm : ∀ {ts us : List Tk}, ts.map (fun t => (t.1, t.2.1)) = us.map (fun t => (t.1, t.2.1)) → sameB false ts us = true
  | [], [], _ => rfl
  | [], _ :: _, h => by simp at h
  | _ :: _, [], h => by simp at h
  | t :: ts, u :: us, h => by
    simp only [List.map_cons, List.cons.injEq, Prod.mk.injEq] at h
    rw [sameB, sameB_sm h.2, h.1.1, h.1.2]
    simp
theorem sameB_refl (pl : Bool) : ∀ (ts : List Tk), sameB pl ts ts = true
  | [] => rfl
  | t :: ts => by rw [sameB, sameB_refl pl ts]; simp
end Go.Proofs.YtcnhklcbibpjpaaGreatDoor
