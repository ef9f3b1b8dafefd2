/- Lemmas behind the laws of the tokens; no conditions. -/
import Derived.Test.YtcnhklcbibpjpaaGreatDoorZRfs
set_option linter.unusedVariables false
set_option linter.unusedSimpArgs false

namespace Go.Proofs.YtcnhklcbibpjpaaGreatDoor
open Go.RowKit P Ext
theorem frCells_len (fs : List Fr) : (frCells fs).length = fs.length * 5 := by
  induction fs with
  | nil => rfl
  | cons f fs ih =>
    have : frCells (f :: fs) = [.int .i64 f.1, .bool f.2.1, .int .i64 f.2.2.1, .bool f.2.2.2.1, .int .i64 f.2.2.2.2] ++ frCells fs := rfl
    rw [this, List.length_append, ih]; simp; omega
theorem frCells_app (fs : List Fr) (f : Fr) : frCells (fs ++ [f]) = frCells fs ++ [.int .i64 f.1, .bool f.2.1, .int .i64 f.2.2.1, .bool f.2.2.2.1, .int .i64 f.2.2.2.2] := by simp [frCells]
section
variable {A : World} {s : ByteArray} {m : Int} {ts : List Tk} {fs : List Fr} {al : List Nat} {gl go ga : Option Addr} {cl co ca nl no na : Nat} {w : World}
theorem RO.top {f : Fr} (h : RO A ts (fs ++ [f]) al gl cl go co ga ca w) : ∃ g, go = some ⟨g, 0, none⟩ ∧ g < w.heap.size ∧ A.heap.size ≤ g ∧ (∃ cur, w.heap[g]? = some (.cells cur 65 (0, 0))) ∧
    w.cell? ⟨g, fs.length * 5, none⟩ = some (.int .i64 f.1) ∧ w.cell? ⟨g, fs.length * 5 + 1, none⟩ = some (.bool f.2.1) ∧ w.cell? ⟨g, fs.length * 5 + 2, none⟩ = some (.int .i64 f.2.2.1) ∧ w.cell? ⟨g, fs.length * 5 + 3, none⟩ = some (.bool f.2.2.2.1) ∧ w.cell? ⟨g, fs.length * 5 + 4, none⟩ = some (.int .i64 f.2.2.2.2) := by
  rcases h.fr.2 with ⟨_, h0⟩ | ⟨g, cap, cur, hv, hb, hg, h1, h2, h3, h4⟩
  · simp at h0
  · cases hv
    have hl : (fs ++ [f]).length * 5 = fs.length * 5 + 5 := by rw [List.length_append, List.length_singleton]; omega
    have hg' : ∀ j u, j < 5 → ([.int .i64 f.1, .bool f.2.1, .int .i64 f.2.2.1, .bool f.2.2.2.1, .int .i64 f.2.2.2.2] : List Value)[j]? = some u → w.cell? ⟨g, fs.length * 5 + j, none⟩ = some u := fun j u hj hu => by
      rw [Lib.cell_of_heap hg, ← Array.getElem?_toList, ← (show (cur.toList.take ((fs ++ [f]).length * 5))[fs.length * 5 + j]? = cur.toList[fs.length * 5 + j]? from List.getElem?_take_of_lt (by omega)), h4, frCells_app, List.getElem?_append_right (by rw [frCells_len]; omega), frCells_len, show fs.length * 5 + j - fs.length * 5 = j from by omega]
      exact hu
    exact ⟨g, rfl, (Array.getElem?_eq_some_iff.1 hg).1, hb, ⟨cur, hg⟩, hg' 0 _ (by decide) rfl, hg' 1 _ (by decide) rfl, hg' 2 _ (by decide) rfl, hg' 3 _ (by decide) rfl, hg' 4 _ (by decide) rfl⟩
theorem take_set {α : Type} (l : List α) (n k : Nat) (v : α) : (l.set k v).take n = (l.take n).set k v := by
  apply List.ext_getElem?
  intro i
  simp only [List.getElem?_take, List.getElem?_set, List.length_take]
  by_cases h1 : i < n
  · simp only [h1, if_true]
    by_cases h2 : k = i
    · subst h2
      simp only [if_true]
      by_cases h3 : k < l.length
      · rw [if_pos h3, if_pos (by omega)]
      · rw [if_neg h3, if_neg (by omega)]
    · rw [if_neg h2, if_neg h2]
  · simp only [h1, if_false]
    by_cases h2 : k = i
    · rw [if_pos h2, if_neg (by omega)]
    · rw [if_neg h2]
theorem RO.setTop {f : Fr} (h : RO A ts (fs ++ [f]) al (gl) cl go co ga ca w) {g : Nat} (hgo : go = some ⟨g, 0, none⟩) (b : Bool) (o : Int) :
    RO A ts (fs ++ [(f.1, f.2.1, f.2.2.1, b, o)]) al gl cl go co ga ca ((w.setCell ⟨g, fs.length * 5 + 3, none⟩ (.bool b)).setCell ⟨g, fs.length * 5 + 4, none⟩ (.int .i64 o)) := by
  subst hgo
  rcases h.fr.2 with ⟨_, h0⟩ | ⟨g', cap, cur, hv, hb, hg, h1, h2, h3, h4⟩
  · simp at h0
  · obtain ⟨rfl⟩ : g' = g := by cases hv; rfl
    cases hv
    have e1 := heap_setCell hg (j := fs.length * 5 + 3) (.bool b)
    have e2 := heap_setCell e1 (j := fs.length * 5 + 4) (.int .i64 o)
    have hs : ∀ (k : Nat) (c : Array Value) (T : TypeId) (fz : Nat × Nat), w.heap[k]? = some (.cells c T fz) → T ≠ 65 → ((w.setCell ⟨g, fs.length * 5 + 3, none⟩ (.bool b)).setCell ⟨g, fs.length * 5 + 4, none⟩ (.int .i64 o)).heap[k]? = some (.cells c T fz) := fun k c T fz hk hT => by
      have hne : k ≠ g := fun e' => by subst e'; rw [hg] at hk; cases hk; exact hT rfl
      rw [Below.heap_setCell _ _ _ _ (fun e' => by dsimp only at e'; exact hne e'), Below.heap_setCell _ _ _ _ (fun e' => by dsimp only at e'; exact hne e')]
      exact hk
    have hn : (fs ++ [(f.1, f.2.1, f.2.2.1, b, o)]).length = (fs ++ [f]).length := by simp
    refine ⟨ownsRow_sameN h.tok fun k c fz hk _ => hs _ _ _ _ hk (by decide), ?_, ownsRow_sameN h.ap fun k c fz hk _ => hs _ _ _ _ hk (by decide), (h.bel.setCell (p := ⟨g, _, none⟩) hb _).setCell (p := ⟨g, _, none⟩) hb _⟩
    rw [hn]
    refine ⟨by rw [frCells_len, hn], .inr ⟨g, co, _, rfl, hb, e2, h1, h2, by simpa using h3, ?_⟩⟩
    rw [Array.toList_setIfInBounds, Array.toList_setIfInBounds, take_set, take_set, h4, frCells_app, frCells_app, List.set_append_right _ _ (by rw [frCells_len]; omega), List.set_append_right _ _ (by rw [frCells_len]; omega), frCells_len, show fs.length * 5 + 3 - fs.length * 5 = 3 from by omega, show fs.length * 5 + 4 - fs.length * 5 = 4 from by omega]
    rfl
theorem KR.setFr {W0 W : World} (h : KR true W0 W) {g : Nat} {cur : Array Value} (hg : W.heap[g]? = some (.cells cur 65 (0, 0))) (j : Nat) (v : Value) : KR true W0 (W.setCell ⟨g, j, none⟩ v) := by
  refine ⟨by simpa using h.size, fun k c T fz hk h1 h2 h3 => ?_⟩
  have hk' := h.same k c T fz hk h1 h2 h3
  rw [Below.heap_setCell _ _ _ _ (fun e' => by dsimp only at e'; subst e'; rw [hg] at hk'; cases hk'; exact h2 rfl rfl)]
  exact hk'
theorem Bx.setFr {X : Nat} {s : ByteArray} {m i : Int} {vl vo : Value} {e a : Int} {va : Value} {W : World} (h : Bx X s m i vl vo e a va W) {g : Nat} {cur : Array Value} (hg : W.heap[g]? = some (.cells cur 65 (0, 0))) (j : Nat) (v : Value) : Bx X s m i vl vo e a va (W.setCell ⟨g, j, none⟩ v) :=
  (KR.setFr (KR.refl true W) hg j v).same _ _ _ _ h (by decide) (fun _ => by decide) (by decide)
set_option maxRecDepth 100000 in
set_option maxHeartbeats 1000000 in
theorem rends_any (i : Nat) (e a : Int) : Calls Tryz.prog 32 #[lxV s m (i : Int) (.slice gl nl cl) (.slice go no co) e a (.slice ga na ca)] w fun e' w' =>
      e' = .returned (.bool (decide (s.size ≤ i))) ∧ Below w.heap.size w w' := by
  have e0 : decide ((s.size : Int) ≤ (i : Int)) = decide (s.size ≤ i) := by rw [decide_eq_decide]; omega
  go_enter Tryz.func32, Tryz.ntmps32
  go_wp2_with fail
  go_ret
  exact ⟨rfl, (Below.refl _ w).alloc (Nat.le_refl _) _⟩
set_option maxRecDepth 100000 in
set_option maxHeartbeats 1000000 in
theorem rhere_any (i : Nat) (e a : Int) (c : Nat) (hi : i ≤ 100000) : Calls Tryz.prog 41 #[lxV s m (i : Int) (.slice gl nl cl) (.slice go no co) e a (.slice ga na ca), .int .u8 (c : Int)] w fun e' w' =>
      e' = .returned (.bool (at1 s i c)) ∧ Below w.heap.size w w' := by
  by_cases h : i < s.size
  · have d : decide ((i : Int) < (s.size : Int)) = true := by simp; omega
    have h' : (i : Int) < s.size := by omega
    have HF : Hid (at1 s i c = (((s[i]'h).toNat : Int) == (c : Int))) := Lib.hid (by rw [at1, b8_at s i h, show decide (i < s.size) = true from by simpa using h, Bool.true_and, Bool.eq_iff_iff]; simp; omega)
    go_enter Tryz.func41, Tryz.ntmps41
    go_wp2_with fail
    go_ret
    rw [HF.out]
    exact ⟨rfl, (Below.refl _ w).alloc (Nat.le_refl _) _⟩
  · have d : decide ((i : Int) < (s.size : Int)) = false := by simp; omega
    have HF : Hid (at1 s i c = false) := Lib.hid (by rw [at1, show decide (i < s.size) = false from by simpa using h]; rfl)
    go_enter Tryz.func41, Tryz.ntmps41
    go_wp2_with fail
    go_ret
    rw [HF.out]
    exact ⟨rfl, (Below.refl _ w).alloc (Nat.le_refl _) _⟩
def sortOf : List Fr → Int
  | [] => 0
  | f :: _ => f.1
set_option maxRecDepth 100000 in
set_option maxHeartbeats 1000000 in
theorem rsort0_any (i e a : Int) (h : RO A ts [] al gl cl go co ga ca w) : Calls Tryz.prog 49 #[lxV s m i (.slice gl nl cl) (.slice go 0 co) e a (.slice ga na ca)] w fun e' w' =>
      e' = .returned (.int .i64 0) ∧ Below w.heap.size w w' := by
  go_enter Tryz.func49, Tryz.ntmps49
  go_wp2_with fail
  go_ret
  exact ⟨rfl, (Below.refl _ w).alloc (Nat.le_refl _) _⟩
set_option maxRecDepth 100000 in
set_option maxHeartbeats 1000000 in
theorem rsort_any (i e a : Int) {f : Fr} (h : RO A ts (fs ++ [f]) al gl cl go co ga ca w) (hl : fs.length ≤ 100000) : Calls Tryz.prog 49 #[lxV s m i (.slice gl nl cl) (.slice go (fs.length + 1) co) e a (.slice ga na ca)] w fun e' w' =>
      e' = .returned (.int .i64 f.1) ∧ Below w.heap.size w w' := by
  obtain ⟨g, rfl, hg, hA, ⟨cur, hcur⟩, c0, c1, c2, c3, c4⟩ := h.top
  have e0 : (((fs.length : Int) + 1) == 0) = false := by simp; omega
  have e1 : IntKind.i64.wrap ((fs.length : Int) + 1 - 1) = (fs.length : Int) := by rw [IntWalk.i64_in _ (by omega)]; omega
  have ca0 : ∀ o : Obj, (w.alloc o).cell? ⟨g, fs.length * 5, none⟩ = some (.int .i64 f.1) := fun o => (World.cell?_of_block (Below.heap_alloc w o _ hg)).trans c0
  go_enter Tryz.func49, Tryz.ntmps49
  go_wp2_with fail
  go_ret
  exact ⟨rfl, (Below.refl _ w).alloc (Nat.le_refl _) _⟩
end
end Go.Proofs.YtcnhklcbibpjpaaGreatDoor
