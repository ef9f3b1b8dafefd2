/- Lemmas behind the laws of messages; no conditions. -/
import Derived.Test.YtcpglgoiienhkaaGreatDoorZPD
import Derived.Test.YtcpglgoiienhkaaGreatDoorZExt
import Derived.Test.YtcpglgoiienhkaaGreatDoorZMB
import Derived.Lib.OthersKept
import Derived.IntWalk
import Derived.RangeFuncBox
set_option linter.unusedVariables false
set_option linter.unusedSimpArgs false

namespace Go.Proofs.YtcpglgoiienhkaaGreatDoor
open Go.RowKit P Ext PDec Go.Proofs.YtcpglgoiienhkaaGreatDoorW.PrintWords
theorem bt_nat (s : ByteArray) (i : Nat) (h : i < s.data.toList.length) : bt s (i : Int) = ((s.data.toList[i]'h).toNat : Int) := by
  have h' : i < s.size := by simpa using h
  rw [← bt_at s i (by simpa using h')]
  simp
  rfl
def digB (c : UInt8) : Bool := 48 ≤ c.toNat && c.toNat ≤ 57
def formB (neg : Bool) (i f : List UInt8) : Bool :=
  !i.isEmpty && i.all digB && f.all digB && !(decide (1 < i.length) && i.head? == some 48) && (!neg || !(Lib.trimB i 48).isEmpty || !(Lib.trimB f 48).isEmpty)
def decB (w : List UInt8) : Bool :=
  decide (w.length ≤ 65536) && !((Lib.cut (Lib.trimPrefix w [45]) [46]).2.2 && (Lib.cut (Lib.trimPrefix w [45]) [46]).2.1.isEmpty)
    && formB (Lib.hasPrefix w [45]) (Lib.cut (Lib.trimPrefix w [45]) [46]).1 (Lib.cut (Lib.trimPrefix w [45]) [46]).2.1
    && decide ((Lib.cut (Lib.trimPrefix w [45]) [46]).1.length + (Lib.cut (Lib.trimPrefix w [45]) [46]).2.1.length ≤ 40)
theorem all_l0 (a : ByteArray) (ha : a.size ≤ 9223372036854775806) (d : Nat) : ∀ (k i : Nat), i + d = a.data.toList.length → d < k → decimal_all.l0 k a (a.size : Int) (i : Int) = some ((a.data.toList.drop i).all digB) := by
  have hs : a.size = a.data.toList.length := by simp
  induction d with
  | zero =>
    intro k i hi hk
    obtain ⟨k, rfl⟩ : ∃ m, k = m + 1 := ⟨k - 1, by omega⟩
    simp only [decimal_all.l0]
    rw [if_neg (by omega), List.drop_eq_nil_of_le (by omega)]
    rfl
  | succ d ih =>
    intro k i hi hk
    obtain ⟨k, rfl⟩ : ∃ m, k = m + 1 := ⟨k - 1, by omega⟩
    have hlt : i < a.data.toList.length := by omega
    have hw : wrap64 ((i : Int) + 1) = ((i + 1 : Nat) : Int) := by unfold wrap64; omega
    simp only [decimal_all.l0]
    rw [if_pos (by omega), if_pos (by omega), if_pos (by omega), hw, ih k (i + 1) (by omega) (by omega), bt_nat a i hlt, List.drop_eq_getElem_cons hlt, List.all_cons]
    generalize a.data.toList[i] = c
    unfold digB
    by_cases h1 : c.toNat < 48
    · rw [if_pos (by omega)]; simp; omega
    · by_cases h2 : 57 < c.toNat
      · rw [if_neg (by omega), if_pos (by omega)]; simp; omega
      · rw [if_neg (by omega), if_neg (by omega)]; congr 1; simp; omega
theorem all_ev (a : ByteArray) (ha : a.size ≤ 9223372036854775806) : Ev (fun k => decimal_all.f k a) (a.data.toList.all digB) :=
  ⟨a.size + 1, fun k hk => by
    show decimal_all.f k a = _
    rw [decimal_all.f]
    have := all_l0 a ha a.data.toList.length k 0 (by omega) (by simp at *; omega)
    simpa using this⟩
theorem form_ev (neg : Bool) (a b : ByteArray) (ha : a.size ≤ 65536) (hb : b.size ≤ 65536) : Ev (fun k => decimal_form.f k neg a b) (formB neg a.data.toList b.data.toList) := by
  obtain ⟨K1, h1⟩ := all_ev a (by omega)
  obtain ⟨K2, h2⟩ := all_ev b (by omega)
  replace h1 : ∀ k, K1 ≤ k → decimal_all.f k a = some (a.data.toList.all digB) := h1
  replace h2 : ∀ k, K2 ≤ k → decimal_all.f k b = some (b.data.toList.all digB) := h2
  refine ⟨K1 + K2 + 1, fun k hk => ?_⟩
  obtain ⟨j, rfl⟩ : ∃ j, k = j + 1 := ⟨k - 1, by omega⟩
  have hs : (a.size : Int) = (a.data.toList.length : Int) := by simp
  have e0 : a.toList = a.data.toList := ByteArray.toList_eq a
  show decimal_form.f (j + 1) neg a b = _
  rw [decimal_form.f, h1 (j + 1) (by omega), h2 (j + 1) (by omega), e0]
  simp only [Option.bind_some, formB]
  cases hl : a.data.toList with
  | nil => simp [decimal_form.j0]
  | cons c r =>
    have hb0 : bt a 0 = (c.toNat : Int) := by
      have := bt_nat a 0 (by rw [hl]; simp)
      simp only [hl] at this
      simpa using this
    have ht : ∀ x : ByteArray, x.size ≤ 65536 → strings_Trim.f x (⟨#[48]⟩ : ByteArray) = some ⟨(Lib.trimB x.data.toList 48).toArray⟩ := by
      intro x hx
      simp only [strings_Trim.f]
      rw [if_pos ⟨by decide, by omega⟩]
    have hj : ∀ x, decimal_form.j0 (j + 1) x neg a b = some (!x && (!neg || !(Lib.trimB a.data.toList 48).isEmpty || !(Lib.trimB b.data.toList 48).isEmpty)) := by
      intro x
      simp only [decimal_form.j0]
      rw [ht a ha, ht b hb]
      simp only [Option.bind_some, ByteArray.toList_eq]
      generalize Lib.trimB a.data.toList 48 = u
      generalize Lib.trimB b.data.toList 48 = v
      cases x <;> cases neg <;> cases u <;> cases v <;> simp
    rw [hs, hl]
    simp only [hj, hb0]
    rw [hl]
    generalize (!neg || !(Lib.trimB (c :: r) 48).isEmpty || !(Lib.trimB b.data.toList 48).isEmpty) = T
    rw [if_neg (by simp)]
    cases hA : (c :: r).all digB
    · simp
    · cases hB : b.data.toList.all digB
      · simp
      · by_cases hL : 1 < (c :: r).length
        · have hL' : ((c :: r).length : Int) > 1 := by omega
          have hL2 : 0 < ((c :: r).length : Int) := by omega
          rw [if_pos rfl, if_pos rfl, if_pos hL', if_pos hL2]
          have hc : ((c.toNat : Int) == 48) = (c == 48) := by
            rw [Bool.eq_iff_iff]; simp [← UInt8.toNat_inj]; omega
          have hL3 : 0 < r.length := by simp at hL; exact hL
          simp [hL3, hc]
        · have hL' : ¬ ((c :: r).length : Int) > 1 := by omega
          rw [if_pos rfl, if_pos rfl, if_neg hL']
          have hL3 : ¬ 0 < r.length := by simp at hL ⊢; exact hL
          simp [hL3]
theorem cut_len (s sep : List UInt8) : (Lib.cut s sep).1.length ≤ s.length ∧ (Lib.cut s sep).2.1.length ≤ s.length := by
  unfold Lib.cut
  split
  · simp; omega
  · simp
theorem dec_ev (w : ByteArray) (hw : w.size ≤ 65536) : ∃ r : Bool × ByteArray × ByteArray × Int, Ev (fun k => decimal_Parse.f k w) r ∧ (r.2.2.2 == 0) = decB w.data.toList := by
  have hs : w.size = w.data.toList.length := by simp
  have h1 : (Lib.trimPrefix w.data.toList [45]).length ≤ 65536 := by
    unfold Lib.trimPrefix; split
    · simp; omega
    · omega
  have hc := cut_len (Lib.trimPrefix w.data.toList [45]) [46]
  unfold decB
  have hcp : strings_CutPrefix.f w (⟨#[45]⟩ : ByteArray) = some (⟨(Lib.trimPrefix w.data.toList [45]).toArray⟩, Lib.hasPrefix w.data.toList [45]) := rfl
  have hct : strings_Cut.f (⟨(Lib.trimPrefix w.data.toList [45]).toArray⟩ : ByteArray) (⟨#[46]⟩ : ByteArray) = some (⟨(Lib.cut (Lib.trimPrefix w.data.toList [45]) [46]).1.toArray⟩, ⟨(Lib.cut (Lib.trimPrefix w.data.toList [45]) [46]).2.1.toArray⟩, (Lib.cut (Lib.trimPrefix w.data.toList [45]) [46]).2.2) := by
    unfold strings_Cut.f
    have : (⟨(Lib.trimPrefix w.data.toList [45]).toArray⟩ : ByteArray).size = (Lib.trimPrefix w.data.toList [45]).length := by simp [ByteArray.size]
    rw [if_pos (by omega)]
  generalize Lib.hasPrefix w.data.toList [45] = neg at *
  generalize Lib.trimPrefix w.data.toList [45] = rest at *
  obtain ⟨K, hK⟩ := form_ev neg ⟨(Lib.cut rest [46]).1.toArray⟩ ⟨(Lib.cut rest [46]).2.1.toArray⟩ (by simp [ByteArray.size]; omega) (by simp [ByteArray.size]; omega)
  replace hK : ∀ k, K ≤ k → decimal_form.f k neg ⟨(Lib.cut rest [46]).1.toArray⟩ ⟨(Lib.cut rest [46]).2.1.toArray⟩ = some (formB neg (Lib.cut rest [46]).1 (Lib.cut rest [46]).2.1) := by simpa using hK
  generalize hcc : Lib.cut rest [46] = c at *
  obtain ⟨c1, c2, c3⟩ := c
  have hJ : ∀ j x, decimal_Parse.j0 (j + 1) (⟨c1.toArray⟩ : ByteArray) (⟨c2.toArray⟩ : ByteArray) x neg (⟨c1.toArray⟩ : ByteArray) (⟨c2.toArray⟩ : ByteArray) = some (if x = true then (false, (⟨#[]⟩ : ByteArray), (⟨#[]⟩ : ByteArray), 20) else if 40 < c1.length + c2.length then (false, (⟨#[]⟩ : ByteArray), (⟨#[]⟩ : ByteArray), 3) else (neg, ⟨c1.toArray⟩, ⟨c2.toArray⟩, 0)) := by
    intro j x
    have e1 : (⟨c1.toArray⟩ : ByteArray).size = c1.length := by simp [ByteArray.size]
    have e2 : (⟨c2.toArray⟩ : ByteArray).size = c2.length := by simp [ByteArray.size]
    have e3 : wrap64 ((c1.length : Int) + (c2.length : Int)) = ((c1.length + c2.length : Nat) : Int) := by simp only at hc; unfold wrap64; omega
    simp only [decimal_Parse.j0, e1, e2, e3]
    by_cases hx : x = true
    · rw [if_pos hx, if_pos hx]
    · rw [if_neg hx, if_neg hx]
      by_cases h4 : 40 < c1.length + c2.length
      · rw [if_pos (by omega), if_pos h4]
      · rw [if_neg (by omega), if_neg h4]
  refine ⟨if (c3 && c2.isEmpty || !formB neg c1 c2) = true then (false, (⟨#[]⟩ : ByteArray), (⟨#[]⟩ : ByteArray), 20) else if 40 < c1.length + c2.length then (false, (⟨#[]⟩ : ByteArray), (⟨#[]⟩ : ByteArray), 3) else (neg, ⟨c1.toArray⟩, ⟨c2.toArray⟩, 0), ⟨K + 1, fun k hk => ?_⟩, ?_⟩
  · obtain ⟨j, rfl⟩ : ∃ j, k = j + 1 := ⟨k - 1, by omega⟩
    show decimal_Parse.f (j + 1) w = _
    rw [decimal_Parse.f, if_neg (by omega), hcp]
    simp only [Option.bind_some]
    rw [hct]
    simp only [Option.bind_some, hK (j + 1) (by omega), hJ, ByteArray.toList_eq]
    cases c3 <;> cases c2 <;> simp
  · have hl : decide (w.data.toList.length ≤ 65536) = true := by simp at *; omega
    rw [hl]
    cases c3 && c2.isEmpty <;> cases formB neg c1 c2 <;> by_cases h4 : 40 < c1.length + c2.length <;> simp [h4] <;> omega
theorem Parse_any (w : ByteArray) (hw : w.size ≤ 65536) (W : World) (hG : GlH W) :
    Calls Tryz.prog 113 #[.string w] W fun e W' => (∃ (a : Bool) (b c : ByteArray) (k : Int), e = .returned (.tuple #[.agg #[.bool a, .string b, .string c], .int .i64 k]) ∧ (k == 0) = decB w.data.toList) ∧ Below W.heap.size W W' := by
  obtain ⟨⟨a, b, c, k⟩, hE, hk⟩ := dec_ev w hw
  obtain ⟨K, hr⟩ := hE.rounds
  refine (decimal_Parse.calls K w a b c k W hG hr).mono ?_
  rintro e W' ⟨rfl, hb⟩
  exact ⟨⟨a, b, c, k, rfl, hk⟩, hb⟩
end Go.Proofs.YtcpglgoiienhkaaGreatDoor
namespace Go.Proofs.YtcpglgoiienhkaaGreatDoor
open Go.RowKit P Ext
theorem LK.gl {n0 X : Nat} {s : ByteArray} {m e at_ : Int} {al : List Nat} {yv : Value} {A W : World} {i : Nat} (hn : 8 ≤ n0) (h : LK n0 X s m i e at_ al yv A W) : GlH W := ⟨h.lx.glob, by have := h.lx.le; omega⟩
theorem Parse_at {n0 X : Nat} {s : ByteArray} {m e at_ : Int} {al : List Nat} {yv : Value} {A W : World} {i : Nat} (hn : 8 ≤ n0) (h : LK n0 X s m i e at_ al yv A W) (a b : Nat) :
    Calls Tryz.prog 113 #[.string (s.extract a b)] W fun e' W' => (∃ (x : Bool) (y z : ByteArray) (k : Int), e' = .returned (.tuple #[.agg #[.bool x, .string y, .string z], .int .i64 k]) ∧ (k == 0) = decB (s.extract a b).data.toList) ∧ LK n0 X s m i e at_ al yv A W' ∧ Below W.heap.size W W' := by
  have hz : (s.extract a b).size ≤ 65536 := by have := h.lx.sz; simp [ByteArray.size_extract]; omega
  refine (Parse_any _ hz W (h.gl hn)).mono ?_
  rintro e' W' ⟨hx, hb⟩
  exact ⟨hx, h.later hn hb, hb⟩
theorem LK.s3 {n0 X : Nat} {s : ByteArray} {m e at_ : Int} {al : List Nat} {yv : Value} {A W : World} {i : Nat} (h : LK n0 X s m i e at_ al yv A W) :
    W.cell? ⟨X, 0, none⟩ = some (.string s) ∧ W.cell? ⟨X, 2, none⟩ = some (.int .i64 (i : Int)) ∧ LK n0 X s m i e at_ al yv A W := ⟨h.cells.1, h.cells.2.2.1, h⟩
theorem LK.alloc {n0 X : Nat} {s : ByteArray} {m e at_ : Int} {al : List Nat} {yv : Value} {A W : World} {i : Nat} (hn : 8 ≤ n0) (h : LK n0 X s m i e at_ al yv A W) (o : Obj) : LK n0 X s m i e at_ al yv A (W.alloc o) :=
  h.later hn ((Below.refl _ W).alloc (Nat.le_refl _) o)
theorem LK.setOwn {n0 X : Nat} {s : ByteArray} {m e at_ : Int} {al : List Nat} {yv : Value} {A W : World} {i : Nat} (hn : 8 ≤ n0) (h : LK n0 X s m i e at_ al yv A W) {b : Nat} {c : Array Value} {T : TypeId} {fz : Nat × Nat}
    (hb : W.heap[b]? = some (.cells c T fz)) (hT : T ≠ 88) (hT2 : T ≠ 3) (hA : A.heap.size ≤ b) (hn0 : n0 ≤ A.heap.size) (j : Nat) (v : Value) : LK n0 X s m i e at_ al yv A (W.setCell ⟨b, j, none⟩ v) := by
  have hb1 : Below A.heap.size W (W.setCell ⟨b, j, none⟩ v) := (Below.refl _ W).setCell (p := ⟨b, j, none⟩) hA _
  refine ⟨h.lx.same hn (hb1.mono hn0) fun k c' T' fz' hk ht => ?_, h.kept.step hn0 hb1⟩
  rw [Below.heap_setCell _ _ _ _ (fun e' => by subst e'; rw [hb] at hk; cases hk; rcases ht with ht | ht <;> contradiction)]
  exact hk
theorem LK.setOwn3 {n0 X : Nat} {s : ByteArray} {m e at_ : Int} {al : List Nat} {yv : Value} {A W : World} {i : Nat} (hn : 8 ≤ n0) (h : LK n0 X s m i e at_ al yv A W) {b : Nat} {c : Array Value} {T : TypeId} {fz : Nat × Nat}
    (hb : W.heap[b]? = some (.cells c T fz)) (hT : T ≠ 88) (hT2 : T ≠ 3) (hA : A.heap.size ≤ b) (hn0 : n0 ≤ A.heap.size) (j1 j2 j3 : Nat) (v1 v2 v3 : Value) : LK n0 X s m i e at_ al yv A (((W.setCell ⟨b, j1, none⟩ v1).setCell ⟨b, j2, none⟩ v2).setCell ⟨b, j3, none⟩ v3) :=
  LK.setOwn hn (LK.setOwn hn (LK.setOwn hn h hb hT hT2 hA hn0 j1 v1) (heap_setCell hb v1) hT hT2 hA hn0 j2 v2) (heap_setCell (heap_setCell hb v1) v2) hT hT2 hA hn0 j3 v3
theorem allocNew (w : World) (o : Obj) : (w.alloc o).heap[w.heap.size]? = some o := by
  show (w.heap.push o)[w.heap.size]? = _
  rw [Array.getElem?_push, if_pos rfl]
theorem numB_eq (c : Nat) : numB c = (decide (48 ≤ c) && decide (c ≤ 57) || c == 45 || c == 46) := rfl
set_option maxHeartbeats 8000000 in
theorem number_any {n0 X : Nat} {s : ByteArray} {m e at_ : Int} {al : List Nat} {yv : Value} {A W : World} {i : Nat} (hn : 8 ≤ n0) (hA0 : n0 ≤ A.heap.size) (h : LK n0 X s m i e at_ al yv A W) (hi : i ≤ s.size) :
    Calls Tryz.prog 175 #[.pointer (some ⟨X, 0, none⟩)] W fun e' W' => e' = .returned (.tuple #[.string (s.extract i (numEnd s i)), .bool (decB (s.extract i (numEnd s i)).data.toList)]) ∧ LK n0 X s m (numEnd s i) e at_ al yv A W' := by
  have hz : s.size ≤ 65536 := h.lx.sz
  obtain ⟨c0, c1, c2, c3, c4, c6, f⟩ := h.cells
  clear f
  go_enter Tryz.func175, Tryz.ntmps175
  go_wp2
  clear c0 c1 c2 c3 c4 c6
  go_loopw [11] (fun _ wr => ∃ j : Nat, i ≤ j ∧ j ≤ s.size ∧ Hid (numEnd s i = numEnd s j) ∧ LK n0 X s m j e at_ al yv A wr) (fun _ wr => s.size - posOf X wr)
  case atStart => exact ⟨i, Nat.le_refl _, hi, Lib.hid rfl, h⟩
  case round =>
    obtain ⟨j, hj1, hj2, HB, HL⟩ := hrel
    obtain ⟨c0, c1, c2, c3, c4, c6, f⟩ := HL.cells
    clear c1 c3 c4 c6
    have f2 := f 2
    clear f
    have hj0 : (i : Int) ≤ j := by omega
    have hj' : (j : Int) ≤ s.size := by omega
    by_cases hlt : j < s.size
    · have hlt' : (j : Int) < s.size := by omega
      have d1 : decide ((j : Int) < (s.size : Int)) = true := by simpa using hlt'
      have HB2 : Hid (numEnd s j = if numB (b8 s j) then numEnd s (j + 1) else j) := Lib.hid (by rw [numEnd, dif_pos hlt])
      have HC : Hid (b8 s j = s[j].toNat) := Lib.hid (b8_at s j hlt)
      by_cases h1 : 48 ≤ (s[j]'hlt).toNat
      · have e1 : decide ((48 : Int) ≤ ((s[j]'hlt).toNat : Int)) = true := by simp; omega
        by_cases h2 : (s[j]'hlt).toNat ≤ 57
        · have e2 : decide (((s[j]'hlt).toNat : Int) ≤ (57 : Int)) = true := by simp; omega
          have hb : numB (b8 s j) = true := by rw [HC.out, numB_eq]; simp [h1, h2]
          have HF : Hid (numEnd s i = numEnd s (j + 1)) := Lib.hid (by rw [HB.out, HB2.out, if_pos hb])
          clear h1 h2 hb
          go_wp2_with fail
          go_quiet (fail)
          go_wp2_with fail
          have HN := (HL.drewN nq).setv hn (v := (j : Int) + 1) (j + 1) (by omega) (by omega)
          go_roundw
          case rel => exact ⟨j + 1, by omega, by omega, HF, HN⟩
          case measure =>
            rw [posOf_eq HL.lx, posOf_eq HN.lx]
            omega
        · have e2 : decide (((s[j]'hlt).toNat : Int) ≤ (57 : Int)) = false := by simp; omega
          have e3 : (((s[j]'hlt).toNat : Int) == (45 : Int)) = false := by simp; omega
          have e4 : (((s[j]'hlt).toNat : Int) == (46 : Int)) = false := by simp; omega
          have hb : ¬ numB (b8 s j) = true := by rw [HC.out, numB_eq]; simp; omega
          have HF : Hid (numEnd s i = j) := Lib.hid (by rw [HB.out, HB2.out, if_neg hb])
          clear h1 h2 hb
          go_wp2_with fail
          go_quiet (fail)
          go_wp2_with fail
          have HM := HL.drewN nq
          have hAw : A.heap.size ≤ wr.heap.size := HL.kept.below.size
          have hnA := hA0
          go_region_held3 (fun w' => w'.cell? ⟨X, 0, none⟩ = some (.string s) ∧ w'.cell? ⟨X, 2, none⟩ = some (.int .i64 (j : Int)) ∧ LK n0 X s m j e at_ al yv A w') (first | exact HM.drew.s3 | exact (LK.alloc hn HM.drew _).s3 | exact LK.s3 (by assumption) | exact (LK.alloc hn (by assumption) _).s3 | exact (LK.setOwn3 hn (by assumption) hq (by decide) (by decide) hAw hnA 0 1 2 _ _ _).s3) (first | (go_at_call 113; refine (Parse_at hn (?_ : LK n0 X s m j e at_ al yv A _) i j).mono ?_; (exact HM.drew); rintro e' W' ⟨⟨x, y, z, kk, rfl, hkk⟩, HL2, hb⟩) | (go_at_call 113; refine (Parse_at hn (?_ : LK n0 X s m j e at_ al yv A _) i j).mono ?_; (exact LK.alloc hn HM.drew _); rintro e' W' ⟨⟨x, y, z, kk, rfl, hkk⟩, HL2, hb⟩; have hq : W'.heap[wr.heap.size]? = some (.cells #[.bool false, .string { data := #[] }, .string { data := #[] }] 152 (0, 0)) := (hb.block wr.heap.size (by simp)).trans (allocNew _ _); have q0 := Lib.cell_of_heap hq 0; have q1 := Lib.cell_of_heap hq 1; have q2 := Lib.cell_of_heap hq 2; have r0 := Lib.frozen_of_heap hq 0; have r1 := Lib.frozen_of_heap hq 1; have r2 := Lib.frozen_of_heap hq 2; simp at q0 q1 q2))
          all_goals
            obtain ⟨p0, p2, HE⟩ := ‹_ ∧ _ ∧ LK n0 X s m j e at_ al yv A _›
            have HK := Lib.hid hkk
            clear hkk
            go_wp2_with fail
            go_quiet (fail)
            go_wp2_with fail
            go_ret2
            rw [HF.out]
            refine ⟨?_, HE.drewN _⟩
            rw [← HK.out]
            rfl
      · have e1 : decide ((48 : Int) ≤ ((s[j]'hlt).toNat : Int)) = false := by simp; omega
        by_cases h3 : (s[j]'hlt).toNat = 45
        · have e3 : (((s[j]'hlt).toNat : Int) == (45 : Int)) = true := by simp; omega
          have hb : numB (b8 s j) = true := by rw [HC.out, numB_eq]; simp [h3]
          have HF : Hid (numEnd s i = numEnd s (j + 1)) := Lib.hid (by rw [HB.out, HB2.out, if_pos hb])
          clear h1 h3 hb
          go_wp2_with fail
          go_quiet (fail)
          go_wp2_with fail
          have HN := (HL.drewN nq).setv hn (v := (j : Int) + 1) (j + 1) (by omega) (by omega)
          go_roundw
          case rel => exact ⟨j + 1, by omega, by omega, HF, HN⟩
          case measure =>
            rw [posOf_eq HL.lx, posOf_eq HN.lx]
            omega
        · have e3 : (((s[j]'hlt).toNat : Int) == (45 : Int)) = false := by simp; omega
          by_cases h4 : (s[j]'hlt).toNat = 46
          · have e4 : (((s[j]'hlt).toNat : Int) == (46 : Int)) = true := by simp; omega
            have hb : numB (b8 s j) = true := by rw [HC.out, numB_eq]; simp [h4]
            have HF : Hid (numEnd s i = numEnd s (j + 1)) := Lib.hid (by rw [HB.out, HB2.out, if_pos hb])
            clear h1 h3 h4 hb
            go_wp2_with fail
            go_quiet (fail)
            go_wp2_with fail
            have HN := (HL.drewN nq).setv hn (v := (j : Int) + 1) (j + 1) (by omega) (by omega)
            go_roundw
            case rel => exact ⟨j + 1, by omega, by omega, HF, HN⟩
            case measure =>
              rw [posOf_eq HL.lx, posOf_eq HN.lx]
              omega
          · have e4 : (((s[j]'hlt).toNat : Int) == (46 : Int)) = false := by simp; omega
            have hb : ¬ numB (b8 s j) = true := by rw [HC.out, numB_eq]; simp; omega
            have HF : Hid (numEnd s i = j) := Lib.hid (by rw [HB.out, HB2.out, if_neg hb])
            clear h1 h3 h4 hb
            go_wp2_with fail
            go_quiet (fail)
            go_wp2_with fail
            have HM := HL.drewN nq
            have hAw : A.heap.size ≤ wr.heap.size := HL.kept.below.size
            have hnA := hA0
            go_region_held3 (fun w' => w'.cell? ⟨X, 0, none⟩ = some (.string s) ∧ w'.cell? ⟨X, 2, none⟩ = some (.int .i64 (j : Int)) ∧ LK n0 X s m j e at_ al yv A w') (first | exact HM.drew.s3 | exact (LK.alloc hn HM.drew _).s3 | exact LK.s3 (by assumption) | exact (LK.alloc hn (by assumption) _).s3 | exact (LK.setOwn3 hn (by assumption) hq (by decide) (by decide) hAw hnA 0 1 2 _ _ _).s3) (first | (go_at_call 113; refine (Parse_at hn (?_ : LK n0 X s m j e at_ al yv A _) i j).mono ?_; (exact HM.drew); rintro e' W' ⟨⟨x, y, z, kk, rfl, hkk⟩, HL2, hb⟩) | (go_at_call 113; refine (Parse_at hn (?_ : LK n0 X s m j e at_ al yv A _) i j).mono ?_; (exact LK.alloc hn HM.drew _); rintro e' W' ⟨⟨x, y, z, kk, rfl, hkk⟩, HL2, hb⟩; have hq : W'.heap[wr.heap.size]? = some (.cells #[.bool false, .string { data := #[] }, .string { data := #[] }] 152 (0, 0)) := (hb.block wr.heap.size (by simp)).trans (allocNew _ _); have q0 := Lib.cell_of_heap hq 0; have q1 := Lib.cell_of_heap hq 1; have q2 := Lib.cell_of_heap hq 2; have r0 := Lib.frozen_of_heap hq 0; have r1 := Lib.frozen_of_heap hq 1; have r2 := Lib.frozen_of_heap hq 2; simp at q0 q1 q2))
            all_goals
              obtain ⟨p0, p2, HE⟩ := ‹_ ∧ _ ∧ LK n0 X s m j e at_ al yv A _›
              have HK := Lib.hid hkk
              clear hkk
              go_wp2_with fail
              go_quiet (fail)
              go_wp2_with fail
              go_ret2
              rw [HF.out]
              refine ⟨?_, HE.drewN _⟩
              rw [← HK.out]
              rfl
    · have HF : Hid (numEnd s i = j) := Lib.hid (by rw [HB.out, numEnd, dif_neg hlt])
      have hlt' : ¬ (j : Int) < s.size := by omega
      have d1 : decide ((j : Int) < (s.size : Int)) = false := by simpa using hlt'
      go_wp2_with fail
      go_quiet (fail)
      go_wp2_with fail
      have HM := HL.drewN nq
      have hAw : A.heap.size ≤ wr.heap.size := HL.kept.below.size
      have hnA := hA0
      go_region_held3 (fun w' => w'.cell? ⟨X, 0, none⟩ = some (.string s) ∧ w'.cell? ⟨X, 2, none⟩ = some (.int .i64 (j : Int)) ∧ LK n0 X s m j e at_ al yv A w') (first | exact HM.drew.s3 | exact (LK.alloc hn HM.drew _).s3 | exact LK.s3 (by assumption) | exact (LK.alloc hn (by assumption) _).s3 | exact (LK.setOwn3 hn (by assumption) hq (by decide) (by decide) hAw hnA 0 1 2 _ _ _).s3) (first | (go_at_call 113; refine (Parse_at hn (?_ : LK n0 X s m j e at_ al yv A _) i j).mono ?_; (exact HM.drew); rintro e' W' ⟨⟨x, y, z, kk, rfl, hkk⟩, HL2, hb⟩) | (go_at_call 113; refine (Parse_at hn (?_ : LK n0 X s m j e at_ al yv A _) i j).mono ?_; (exact LK.alloc hn HM.drew _); rintro e' W' ⟨⟨x, y, z, kk, rfl, hkk⟩, HL2, hb⟩; have hq : W'.heap[wr.heap.size]? = some (.cells #[.bool false, .string { data := #[] }, .string { data := #[] }] 152 (0, 0)) := (hb.block wr.heap.size (by simp)).trans (allocNew _ _); have q0 := Lib.cell_of_heap hq 0; have q1 := Lib.cell_of_heap hq 1; have q2 := Lib.cell_of_heap hq 2; have r0 := Lib.frozen_of_heap hq 0; have r1 := Lib.frozen_of_heap hq 1; have r2 := Lib.frozen_of_heap hq 2; simp at q0 q1 q2))
      all_goals
        obtain ⟨p0, p2, HE⟩ := ‹_ ∧ _ ∧ LK n0 X s m j e at_ al yv A _›
        have HK := Lib.hid hkk
        clear hkk
        go_wp2_with fail
        go_quiet (fail)
        go_wp2_with fail
        go_ret2
        rw [HF.out]
        refine ⟨?_, HE.drewN _⟩
        rw [← HK.out]
        rfl
end Go.Proofs.YtcpglgoiienhkaaGreatDoor
namespace Go.Proofs.YtcpglgoiienhkaaGreatDoor
open Go.RowKit P
theorem isB_same {W W' : World} {B b : Nat} {bs : List Value} (h : Lib.IsBuilderF 63 5 B b bs W)
    (hs : ∀ (k : Nat) (c : Array Value) (T : TypeId) (fz : Nat × Nat), W.heap[k]? = some (.cells c T fz) → B ≤ k → T = 63 ∨ T = 5 → W'.heap[k]? = some (.cells c T fz)) : Lib.IsBuilderF 63 5 B b bs W' := by
  have one : ∀ p, Lib.BuilderAtF 63 5 B b p bs W → Lib.BuilderAtF 63 5 B b p bs W' := by
    rintro p ⟨hB, v, hb, ⟨hl, ho⟩, hne⟩
    refine ⟨hB, v, hs _ _ _ _ hb hB (.inl rfl), ⟨hl, ?_⟩, hne⟩
    rcases ho with ho | ⟨g, cap, cur, fz, hv, hBg, hg, rest⟩
    · exact .inl ho
    · exact .inr ⟨g, cap, cur, fz, hv, hBg, hs _ _ _ _ hg hBg (.inr rfl), rest⟩
  exact h.elim (fun x => .inl (one _ x)) (fun x => .inr (one _ x))
theorem isB_blk {W : World} {B b : Nat} {bs : List Value} (h : Lib.IsBuilderF 63 5 B b bs W) : ∃ c, W.heap[b]? = some (.cells c 63 (0, 0)) := by
  rcases h with ⟨_, v, hb, _⟩ | ⟨_, v, hb, _⟩ <;> exact ⟨_, hb⟩
structure QK (n0 X : Nat) (s : ByteArray) (m : Int) (i : Nat) (e at_ : Int) (al : List Nat) (yv : Value) (A : World) (B : Nat) (acc : List UInt8) (W : World) : Prop where
  lk : LK n0 X s m i e at_ al yv A W
  bd : Lib.IsBuilderF 63 5 B B (Lib.byteCells acc) W
  hA : A.heap.size ≤ B
  hn : n0 ≤ A.heap.size
  hX : X < A.heap.size
  lt : B < W.heap.size
section
variable {n0 X : Nat} {s : ByteArray} {m e at_ : Int} {al : List Nat} {yv : Value} {A W : World} {i B : Nat} {acc : List UInt8}
theorem QK.drewN (h : QK n0 X s m i e at_ al yv A B acc W) (k : Nat) : QK n0 X s m i e at_ al yv A B acc (W.drewN k) := ⟨h.lk.drewN k, h.bd, h.hA, h.hn, h.hX, h.lt⟩
theorem QK.drew (h : QK n0 X s m i e at_ al yv A B acc W) : QK n0 X s m i e at_ al yv A B acc W.drew := h.drewN 1
theorem QK.new (h : LK n0 X s m i e at_ al yv A W) (hn : 8 ≤ n0) (hnA : n0 ≤ A.heap.size) (hX : X < A.heap.size) : QK n0 X s m i e at_ al yv A W.heap.size [] (W.alloc (.cells #[.pointer none, .slice none 0 0] 63)) :=
  ⟨h.later hn ((Below.refl _ W).alloc (Nat.le_refl _) _), Lib.IsBuilderF.of (Lib.fresh_isBuilder _ _ W), h.kept.below.size, hnA, hX, by simp⟩
theorem LK.others (hn : 8 ≤ n0) (h : LK n0 X s m i e at_ al yv A W) {W' : World} {c : Array Value} (hB : W.heap[B]? = some (.cells c 63 (0, 0))) (hA : A.heap.size ≤ B) (hn0 : n0 ≤ A.heap.size)
    (hb : Below B W W') (hk : Lib.OthersKept 5 (some B) W W') : LK n0 X s m i e at_ al yv A W' := by
  refine ⟨h.lx.same hn (hb.mono (by omega)) fun k c' T fz hk' ht => hk k _ hk' (fun e' => ?_) (fun c2 f2 e2 => ?_), h.kept.step hn0 (hb.mono hA)⟩
  · obtain rfl := Option.some.inj e'
    rw [hB] at hk'; cases hk'
    rcases ht with ht | ht <;> exact absurd ht (by decide)
  · cases e2
    rcases ht with ht | ht <;> exact absurd ht (by decide)
theorem QK.write (hn : 8 ≤ n0) (h : QK n0 X s m i e at_ al yv A B acc W) (t : ByteArray) (hl : acc.length + t.size ≤ 140737488355328) :
    Calls Tryz.prog 61 #[.pointer (some ⟨B, 0, none⟩), .string t] W fun e' W' => e' = .returned (.tuple #[.int .i64 t.size, .nilIface]) ∧ QK n0 X s m i e at_ al yv A B (acc ++ t.data.toList) W' := by
  refine (WriteString_k B B _ t W h.bd (by rw [Lib.byteCells, List.length_map]; exact hl) (Nat.le_of_lt h.lt)).mono ?_
  rintro e' W' ⟨rfl, hb, hbel, hok⟩
  obtain ⟨c, hc⟩ := isB_blk h.bd
  refine ⟨rfl, h.lk.others hn hc h.hA h.hn hbel hok, ?_, h.hA, h.hn, h.hX, Nat.lt_of_lt_of_le h.lt hbel.size⟩
  rw [Lib.strCells_eq] at hb
  rw [Lib.byteCells, List.map_append]
  exact .inr hb
theorem QK.byte (hn : 8 ≤ n0) (h : QK n0 X s m i e at_ al yv A B acc W) (c : UInt8) (v : Int) (hv : v = c.toNat) (hl : acc.length + 1 ≤ 140737488355328) :
    Calls Tryz.prog 62 #[.pointer (some ⟨B, 0, none⟩), .int .u8 v] W fun e' W' => e' = .returned .nilIface ∧ QK n0 X s m i e at_ al yv A B (acc ++ [c]) W' := by
  subst hv
  refine (WriteByte_k B B _ _ W h.bd (by rw [Lib.byteCells, List.length_map]; exact hl) (Nat.le_of_lt h.lt)).mono ?_
  rintro e' W' ⟨rfl, hb, hbel, hok⟩
  obtain ⟨c', hc⟩ := isB_blk h.bd
  refine ⟨rfl, h.lk.others hn hc h.hA h.hn hbel hok, ?_, h.hA, h.hn, h.hX, Nat.lt_of_lt_of_le h.lt hbel.size⟩
  rw [Lib.byteCells, List.map_append]
  exact .inr hb
theorem QK.str (hn : 8 ≤ n0) (h : QK n0 X s m i e at_ al yv A B acc W) :
    Calls Tryz.prog 48 #[.pointer (some ⟨B, 0, none⟩)] W fun e' W' => e' = .returned (.string ⟨acc.toArray⟩) ∧ QK n0 X s m i e at_ al yv A B acc W' := by
  refine (Tryz.Builder_String_any_k B B acc W h.bd (Nat.le_of_lt h.lt)).mono ?_
  rintro e' W' ⟨rfl, hb, hbel, hok⟩
  obtain ⟨c', hc⟩ := isB_blk h.bd
  exact ⟨rfl, h.lk.others hn hc h.hA h.hn hbel hok, hb, h.hA, h.hn, h.hX, Nat.lt_of_lt_of_le h.lt hbel.size⟩
theorem QK.setv (h : QK n0 X s m i e at_ al yv A B acc W) (hn : 8 ≤ n0) {v : Int} (i' : Nat) (hv : v = i') (hi : i ≤ i') : QK n0 X s m i' e at_ al yv A B acc (W.setCell ⟨X, 2, none⟩ (.int .i64 v)) := by
  refine ⟨h.lk.setv hn i' hv hi, isB_same h.bd fun k c T fz hk hB _ => ?_, h.hA, h.hn, h.hX, by have := h.lt; simpa [World.setCell] using this⟩
  have := h.hX; have := h.hA
  rw [Below.heap_setCell _ _ _ _ (by simp; omega)]
  exact hk
theorem QK.kept (h : QK n0 X s m i e at_ al yv A B acc W) {W' : World} {i' : Nat} {e' a' : Int} {al' : List Nat} (h' : LK n0 X s m i' e' a' al' yv W W') : QK n0 X s m i' e' a' al' yv A B acc W' := by
  refine ⟨⟨h'.lx, h.lk.kept.trans h'.kept⟩, isB_same h.bd fun k c T fz hk hB ht => h'.kept.same k _ hk ?_ ?_, h.hA, h.hn, h.hX, Nat.lt_of_lt_of_le h.lt h'.kept.below.size⟩
  · have := h.hX; have := h.hA; omega
  · intro c2 f2 e2
    cases e2
    rcases ht with ht | ht <;> exact absurd ht (by decide)
end
theorem quote_skip (s : ByteArray) : ∀ (n j : Nat), (∀ k, j ≤ k → k < j + n → k < s.size ∧ b8 s k ≠ 39) →
    quoteE s j = ((s.data.toList.drop j).take n ++ (quoteE s (j + n)).1, (quoteE s (j + n)).2) := by
  intro n
  induction n with
  | zero => intro j _; simp
  | succ n ih =>
    intro j h
    obtain ⟨hl, hb⟩ := h j (Nat.le_refl _) (by omega)
    have := ih (j + 1) (fun k h1 h2 => h k (by omega) (by omega))
    have hl' : j < s.data.toList.length := by simpa using hl
    rw [quoteE, dif_pos hl, if_neg hb, this, List.drop_eq_getElem_cons hl', List.take_succ_cons, show j + 1 + n = j + (n + 1) from by omega]
    rfl
theorem quote_end (s : ByteArray) (j : Nat) (h : ¬ j < s.size) : quoteE s j = ([], j) := by rw [quoteE, dif_neg h]
theorem b8_list (s : ByteArray) (j k : Nat) (c : UInt8) (h : (s.data.toList.drop j)[k]? = some c) : j + k < s.size ∧ b8 s (j + k) = c.toNat := by
  rw [List.getElem?_drop] at h
  obtain ⟨hl, hc⟩ := List.getElem?_eq_some_iff.1 h
  have hl' : j + k < s.size := by simpa using hl
  refine ⟨hl', ?_⟩
  rw [b8_at s _ hl', ← hc]
  rfl
theorem b8_none (s : ByteArray) (j k : Nat) (c : UInt8) (hk : j + k < s.size) (h : (s.data.toList.drop j)[k]? ≠ some c) : b8 s (j + k) ≠ c.toNat := by
  intro e
  apply h
  rw [List.getElem?_drop, List.getElem?_eq_getElem (by simpa using hk)]
  rw [b8_at s _ hk] at e
  congr 1
  have := UInt8.toNat_inj.1 e
  rw [← this]
  rfl
theorem hereB_one (s : ByteArray) (i : Nat) (c : UInt8) : hereB s i [c] = (decide (i < s.size) && b8 s i == c.toNat) := by
  unfold hereB Lib.hasPrefix
  by_cases h : i < s.size
  · have hl : i < s.data.toList.length := by simpa using h
    rw [List.drop_eq_getElem_cons hl, b8_at s i h]
    have : s.data.toList[i] = s[i] := rfl
    rw [this]
    simp only [List.isPrefixOf, h, decide_true, Bool.true_and, Bool.and_true]
    rw [Bool.eq_iff_iff, beq_iff_eq, beq_iff_eq]
    constructor
    · intro e; rw [← e]
    · intro e; exact (UInt8.toNat_inj.1 e).symm
  · rw [List.drop_eq_nil_of_le (by simp; omega)]
    simp [h]
end Go.Proofs.YtcpglgoiienhkaaGreatDoor
namespace Go.Proofs.YtcpglgoiienhkaaGreatDoor
open Go.RowKit P
set_option maxHeartbeats 4000000 in
theorem quote_any {n0 X : Nat} {s : ByteArray} {m e at_ : Int} {al : List Nat} {yv : Value} {A W : World} {i : Nat} (hn : 8 ≤ n0) (hA0 : n0 ≤ A.heap.size) (hX0 : X < A.heap.size) (h : LK n0 X s m i e at_ al yv A W) (hi : i ≤ s.size) :
    Calls Tryz.prog 160 #[.pointer (some ⟨X, 0, none⟩)] W fun e' W' => e' = .returned (.string ⟨(quoteE s i).1.toArray⟩) ∧ LK n0 X s m (quoteE s i).2 e at_ al yv A W' := by
  have hz : s.size ≤ 65536 := h.lx.sz
  have hQ := QK.new h hn hA0 hX0
  generalize hBB : W.heap.size = B at *
  go_enter Tryz.func160, Tryz.ntmps160
  go_wp2
  go_loopw [5] (fun _ wr => ∃ (j : Nat) (acc : List UInt8), i ≤ j ∧ j ≤ s.size ∧ acc.length ≤ j ∧ Hid (quoteE s i = (acc ++ (quoteE s j).1, (quoteE s j).2)) ∧ QK n0 X s m j e at_ al yv A B acc wr) (fun _ wr => s.size - posOf X wr)
  case atStart => exact ⟨i, [], Nat.le_refl _, hi, by simp, Lib.hid rfl, hQ⟩
  case round =>
    obtain ⟨j, acc, hj1, hj2, hac, HB, HQ⟩ := hrel
    obtain ⟨c0, c1, c2, c3, c4, c6, f⟩ := HQ.lk.cells
    clear c1 c3 c4 c6
    have f2 := f 2
    clear f
    have hj' : (j : Int) ≤ s.size := by omega
    by_cases hlt : j < s.size
    · have hlt' : (j : Int) < s.size := by omega
      have d1 : decide ((j : Int) < (s.size : Int)) = true := by simpa using hlt'
      go_wp2_with fail
      go_quiet (fail)
      go_wp2_with fail
      have HQ1 := HQ.drewN nq
      obtain ⟨c0, c1, c2, c3, c4, c6, f⟩ := HQ1.lk.cells
      clear c1 c3 c4 c6
      have f2 := f 2
      clear f
      generalize wr.drewN nq = wq at *
      go_quiet ((go_at_call 174; exact Calls.quiet_of_same (Tryz.strings_IndexByte _ _ _)))
      have HQ2 := HQ1.drewN nq
      clear HQ1
      obtain ⟨c0, c1, c2, c3, c4, c6, f⟩ := HQ2.lk.cells
      clear c1 c3 c4 c6
      have f2 := f 2
      clear f
      generalize wq.drewN nq = wk at *
      have hr : Lib.indexByte (s.extract j s.size).data.toList (Int.toNat 39).toUInt8 = Lib.indexByte (s.data.toList.drop j) 39 := by rw [Lib.extract_to_end]; rfl
      have hge := Lib.indexByte_ge (s.data.toList.drop j) 39
      generalize Lib.indexByte (s.extract j s.size).data.toList (Int.toNat 39).toUInt8 = kk at *
      have hj0 : (0 : Int) ≤ j := by omega
      by_cases hk : kk = -1
      · have hnone := Lib.indexByte_none (hr.symm.trans hk)
        have HE : Hid (quoteE s j = (s.data.toList.drop j, s.size)) := Lib.hid (by
          have := quote_skip s (s.size - j) j (fun k h1 h2 => ⟨by omega, by
            have := b8_none s j (k - j) 39 (by omega) (hnone (k - j))
            rwa [show j + (k - j) = k from by omega] at this⟩)
          rw [this, show j + (s.size - j) = s.size from by omega, quote_end s s.size (by omega), List.take_of_length_le (by simp)]
          simp)
        have HF : Hid (quoteE s i = (acc ++ (s.extract j s.size).data.toList, s.size)) := Lib.hid (by rw [HB.out, HE.out, Lib.extract_to_end])
        have hlen : acc.length + (s.extract j s.size).size ≤ 140737488355328 := by simp [ByteArray.size_extract]; omega
        subst hk
        clear hr hge hnone HE HB
        go_wp2_with fail
        go_region_held3 (fun w' => w'.cell? ⟨X, 0, none⟩ = some (.string s) ∧ w'.cell? ⟨X, 2, none⟩ = some (.int .i64 (j : Int))) (first | exact ⟨c0, c2⟩ | exact ⟨HQ3.lk.cells.1, HQ3.lk.cells.2.2.1⟩) (first | (go_at_call 61; refine (HQ2.drew.write hn _ hlen).mono ?_; rintro e' W' ⟨rfl, HQ3⟩))
        generalize hacc : acc ++ (s.extract j s.size).data.toList = acc2 at HQ3
        have HAC := Lib.hid hacc
        clear hacc
        obtain ⟨c0, c1, c2, c3, c4, c6, f⟩ := HQ3.lk.cells
        clear c1 c3 c4 c6
        have f2 := f 2
        clear f
        have HQe := HQ3.setv hn (v := (s.size : Int)) s.size rfl (by omega)
        go_wp2_with fail
        refine (HQe.str hn).mono ?_
        rintro e' W' ⟨rfl, HQf⟩
        go_wp2_with fail
        go_ret
        rw [HF.out, HAC.out]
        exact ⟨rfl, HQf.lk⟩
      · have hk0 : 0 ≤ kk := by omega
        obtain ⟨n, rfl⟩ := Int.eq_ofNat_of_zero_le hk0
        obtain ⟨hs1, hs2⟩ := Lib.indexByte_some hr.symm
        obtain ⟨hjn, hb39⟩ := b8_list s j n 39 hs1
        have HE : Hid (quoteE s j = ((s.data.toList.drop j).take n ++ (quoteE s (j + n)).1, (quoteE s (j + n)).2)) := Lib.hid (quote_skip s n j (fun k h1 h2 => ⟨by omega, by
          have := b8_none s j (k - j) 39 (by omega) (hs2 (k - j) (by omega))
          rwa [show j + (k - j) = k from by omega] at this⟩))
        have HE2 : Hid (quoteE s (j + n) = if b8 s (j + n + 1) = 39 then (39 :: (quoteE s (j + n + 2)).1, (quoteE s (j + n + 2)).2) else ([], j + n + 1)) := Lib.hid (by rw [quoteE, dif_pos hjn, if_pos (by rw [hb39]; rfl)])
        have hlen : acc.length + (s.extract j (j + n)).size ≤ 140737488355328 := by simp [ByteArray.size_extract]; omega
        have hex : (s.extract j (j + n)).data.toList = (s.data.toList.drop j).take n := by rw [Lib.extract_data, show j + n - j = n from by omega]
        have hln : ((s.data.toList.drop j).take n).length = n := by simp; omega
        have HX : Hid ((s.extract j (j + n)).data.toList = (s.data.toList.drop j).take n) := Lib.hid hex
        have HR2 : Hid (hereB s (j + n + 1) (⟨#[39]⟩ : ByteArray).data.toList = (decide (j + n + 1 < s.size) && b8 s (j + n + 1) == 39)) := Lib.hid (hereB_one s (j + n + 1) 39)
        have hjn' : (j : Int) + n ≤ s.size := by omega
        have hn0 : (0 : Int) ≤ n := by omega
        have dn : decide ((n : Int) < 0) = false := by simp
        have w0 : (0 : Int) ≤ (j : Int) + n := by omega
        have w1 : (j : Int) ≤ (j : Int) + n := by omega
        have w2 : ((j : Int) + n).toNat = j + n := by omega
        have w3 : IntKind.i64.wrap ((j : Int) + n) = (j : Int) + n := IntWalk.i64_in _ (by omega)
        clear hr hge hs1 hs2 hb39 hex hk hk0
        go_wp2_with fail
        go_region_held3 (fun w' => w'.cell? ⟨X, 0, none⟩ = some (.string s) ∧ w'.cell? ⟨X, 2, none⟩ = some (.int .i64 (j : Int))) (first | exact ⟨c0, c2⟩ | exact ⟨HQ3.lk.cells.1, HQ3.lk.cells.2.2.1⟩) (first | (go_at_call 61; refine (HQ2.drew.write hn (s.extract j (j + n)) hlen).mono ?_; rintro e' W' ⟨rfl, HQ3⟩))
        clear w0 w1 w2 w3
        generalize hacc : acc ++ (s.extract j (j + n)).data.toList = acc2 at HQ3
        have HAC := Lib.hid hacc
        clear hacc
        obtain ⟨c0, c1, c2, c3, c4, c6, f⟩ := HQ3.lk.cells
        clear c1 c3 c4 c6
        have f2 := f 2
        clear f
        have HQ4 := HQ3.setv hn (v := (j : Int) + ((n : Int) + 1)) (j + n + 1) (by omega) (by omega)
        go_wp2_with fail
        refine (here_any _ HQ4.lk.lx (by omega)).mono ?_
        rintro e' W2 ⟨rfl, nd, rfl⟩
        have HQ5 := HQ4.drewN nd
        clear HQ4 HQ3 c0 c2 f2
        generalize (W'.setCell { block := X, off := 2 } (Value.int IntKind.i64 ((j : Int) + ((n : Int) + 1)))).drewN nd = wh at *
        generalize hereB s (j + n + 1) (⟨#[39]⟩ : ByteArray).data.toList = hb at *
        obtain ⟨c0, c1, c2, c3, c4, c6, f⟩ := HQ5.lk.cells
        clear c1 c3 c4 c6
        have f2 := f 2
        clear f
        cases hb with
        | false =>
          have HF : Hid (quoteE s i = (acc ++ (s.data.toList.drop j).take n, j + n + 1)) := Lib.hid (by
            rw [HB.out, HE.out, HE2.out, if_neg ?_]
            · simp
            · intro h39
              have hh := HR2.out
              rw [h39] at hh
              have : ¬ j + n + 1 < s.size := by simpa using hh
              rw [b8, dif_neg this] at h39
              omega)
          have HQe := HQ5
          go_wp2_with fail
          refine (HQe.str hn).mono ?_
          rintro e' W' ⟨rfl, HQf⟩
          go_wp2_with fail
          go_ret
          rw [HF.out, ← HX.out, HAC.out]
          exact ⟨rfl, HQf.lk⟩
        | true =>
          have hh := HR2.out
          simp only [Bool.true_eq, Bool.and_eq_true, decide_eq_true_eq, beq_iff_eq] at hh
          obtain ⟨hh1, hh2⟩ := hh
          have HF : Hid (quoteE s i = (acc ++ (s.data.toList.drop j).take n ++ [39] ++ (quoteE s (j + n + 2)).1, (quoteE s (j + n + 2)).2)) := Lib.hid (by
            rw [HB.out, HE.out, HE2.out, if_pos hh2]
            simp)
          have hla : acc2.length ≤ j + n := by rw [← HAC.out, HX.out, List.length_append, hln]; omega
          clear hh2 hln
          go_wp2_with fail
          refine (HQ5.byte hn 39 39 rfl (by omega)).mono ?_
          rintro e' W3 ⟨rfl, HQ6⟩
          obtain ⟨c0, c1, c2, c3, c4, c6, f⟩ := HQ6.lk.cells
          clear c1 c3 c4 c6
          have f2 := f 2
          clear f
          have HQ7 := HQ6.setv hn (v := (j : Int) + (n : Int) + 1 + 1) (j + n + 2) (by omega) (by omega)
          go_wp2_with fail
          go_roundw
          case rel => exact ⟨j + n + 2, acc2 ++ [39], by omega, by omega, by simp; omega, Lib.hid (by rw [HF.out, ← HAC.out, HX.out]), HQ7⟩
          case measure =>
            rw [posOf_eq HQ.lk.lx, posOf_eq HQ7.lk.lx]
            omega
    · have HF : Hid (quoteE s i = (acc, j)) := Lib.hid (by rw [HB.out, quote_end s j hlt]; simp)
      have hlt' : ¬ (j : Int) < s.size := by omega
      have d1 : decide ((j : Int) < (s.size : Int)) = false := by simpa using hlt'
      go_wp2_with fail
      go_quiet (fail)
      have HQe := HQ.drewN nq
      generalize wr.drewN nq = wq at *
      go_wp2_with fail
      refine (HQe.str hn).mono ?_
      rintro e' W' ⟨rfl, HQf⟩
      go_wp2_with fail
      go_ret
      rw [HF.out]
      exact ⟨rfl, HQf.lk⟩
end Go.Proofs.YtcpglgoiienhkaaGreatDoor
namespace Go.Proofs.YtcpglgoiienhkaaGreatDoor
open Go.RowKit P
theorem syntax_any (c : Nat) (sort : Int) (w : World) : Calls Tryz.prog 138 #[.int .u8 (c : Int), .int .i64 sort] w fun e w' => e = .returned (.bool (synB c sort)) ∧ w' = w := by
  go_enter Tryz.func138, Tryz.ntmps138
  go_wp2
  all_goals
    go_ret
    refine ⟨ret_bool ?_, rfl⟩
    rw [Bool.eq_iff_iff]
    simp [synB]
    first | omega | (simp at *; omega) | (go_ways; simp_all; omega)
theorem infoInt : (Tryz.prog.info? 3).map (fun i => (i.zero, i.size, i.bytes)) = some (some (.int .i64 0), 1, 8) := by kernel_rfl
section
variable {n0 X : Nat} {s : ByteArray} {m : Int} {al : List Nat} {yv : Value} {A W : World} {i : Nat}
theorem push_blk {e at_ : Int} {p : Int} {v : Value} {w1 : World} {tmp : Obj} {k : Nat} {xs : List Value} (hc : LxC X s m p e at_ v yv W) (ho : W.ownsRow n0 3 1 v k xs) (hgrow : (W.alloc tmp).grownBy w1 v.ownBlock) : LxC X s m p e at_ v yv w1 := by
  have hXW := hc.lt
  refine hc.of_same ?_
  rw [hgrow.block X (by simp; omega) (fun e1 => ?_), Below.heap_alloc _ _ _ hXW]
  rcases ho.2 with ⟨rfl, _⟩ | ⟨g, cap, cur, rfl, _, hg, _⟩
  · simp [Value.ownBlock] at e1
  · obtain rfl : X = g := by simpa [Value.ownBlock] using e1
    rw [LxC] at hc; rw [hc] at hg; cases hg
theorem LK.push {e at_ : Int} (hn : 8 ≤ n0) (hA0 : n0 ≤ A.heap.size) (h : LK n0 X s m (i + 1 : Nat) e at_ al yv A W) {v v' : Value} {w1 : World} {tmp : Obj} (hal : al.length ≤ i)
    (hc : LxC X s m (i + 1 : Nat) e at_ v yv W) (ho : W.ownsRow n0 3 1 v al.length (al.map fun n : Nat => Value.int .i64 n))
    (hown' : w1.ownsRow n0 3 1 v' (al.length + 1) ((al.map fun n : Nat => Value.int .i64 n) ++ [.int .i64 i])) (hgrow : (W.alloc tmp).grownBy w1 v.ownBlock) :
    LK n0 X s m (i + 1 : Nat) e at_ (al ++ [i]) yv A (w1.setCell ⟨X, 5, none⟩ v') := by
  have low := h.lx.low
  have hXW := hc.lt
  have hnX : v.ownBlock ≠ some X := by
    intro e1
    rcases ho.2 with ⟨rfl, _⟩ | ⟨g, cap, cur, rfl, _, hg, _⟩
    · simp [Value.ownBlock] at e1
    · obtain rfl : g = X := by simpa [Value.ownBlock] using e1
      rw [LxC] at hc; rw [hc] at hg; cases hg
  have hrow : ∀ k, v.ownBlock = some k → n0 ≤ k ∧ ∃ c fz, W.heap[k]? = some (.cells c 3 fz) := by
    intro k hk
    rcases ho.2 with ⟨rfl, _⟩ | ⟨g, cap, cur, rfl, hb, hg, _⟩
    · simp [Value.ownBlock] at hk
    · obtain rfl : g = k := by simpa [Value.ownBlock] using hk
      exact ⟨hb, _, _, hg⟩
  have hX1 : w1.heap[X]? = W.heap[X]? := by
    rw [hgrow.block X (by simp; omega) (fun e1 => hnX e1.symm), Below.heap_alloc _ _ _ hXW]
  have hc1 : LxC X s m (i + 1 : Nat) e at_ v yv w1 := hc.of_same hX1
  have hb1 : Below n0 W w1 := ((Below.refl n0 W).alloc h.lx.le tmp).grown hgrow (by simp; have := h.lx.le; omega) (fun k hk => (hrow k hk).1)
  have hb2 : Below n0 W (w1.setCell ⟨X, 5, none⟩ v') := hb1.setCell (p := ⟨X, 5, none⟩) low _
  refine ⟨⟨low, h.lx.glob.below hn hb2, h.lx.sz, by simp; omega, v', hc1.setl v', ?_⟩, h.kept.trans ⟨hb2, fun k o hk hx ho' => ?_⟩⟩
  · have := ownsRow_same (W' := w1.setCell ⟨X, 5, none⟩ v') hown' (fun k c fz hk _ => by
      rw [Below.heap_setCell _ _ _ _ (fun e1 => by subst e1; rw [LxC] at hc1; rw [hc1] at hk; cases hk)]; exact hk)
    simpa using this
  · rw [Below.heap_setCell _ _ _ _ hx, hgrow.block k (by simp; have := (Array.getElem?_eq_some_iff.1 hk).1; omega) (fun e1 => ?_), Below.heap_alloc _ _ _ (Array.getElem?_eq_some_iff.1 hk).1]
    · exact hk
    · obtain ⟨_, c, fz, hcz⟩ := hrow k e1.symm
      rw [hk] at hcz
      exact ho' c fz (Option.some.inj hcz)
set_option maxHeartbeats 4000000 in
theorem apos_any {e at_ : Int} (sort : Int) (hn : 8 ≤ n0) (hA0 : n0 ≤ A.heap.size) (hX0 : X < A.heap.size) (h : LK n0 X s m i e at_ al yv A W) (hi : i < s.size) :
    Calls Tryz.prog 137 #[.pointer (some ⟨X, 0, none⟩), .int .i64 sort] W fun e' W' => e' = .returned (.string ⟨(aposE s m sort i).1.toArray⟩) ∧ LK n0 X s m (aposE s m sort i).2.1 e at_ (al ++ (aposE s m sort i).2.2) yv A W' := by
  have hz : s.size ≤ 65536 := h.lx.sz
  have hal : al.length ≤ i := by have := h.lx.aln; omega
  obtain ⟨c0, c1, c2, c3, c4, c6, f⟩ := h.cells
  have f2 := f 2
  clear f c3 c4 c6
  have h1 := h.setv hn (v := (i : Int) + 1) (i + 1) (by omega) (by omega)
  have HR : Hid (hereB s (i + 1) (⟨#[39]⟩ : ByteArray).data.toList = (decide (i + 1 < s.size) && b8 s (i + 1) == 39)) := Lib.hid (hereB_one s (i + 1) 39)
  have HA : Hid (aposE s m sort i = if b8 s (i + 1) = 39 then ([39], i + 2, []) else if m == 2 || (decide (i + 1 < s.size) && synB (b8 s (i + 1)) sort) then ((quoteE s (i + 1)).1, (quoteE s (i + 1)).2, []) else ([39], i + 1, [i])) := Lib.hid rfl
  go_enter Tryz.func137, Tryz.ntmps137
  go_wp2_with fail
  refine (here_any _ h1.lx (by omega)).mono ?_
  rintro e' W2 ⟨rfl, nd, rfl⟩
  have h2 := h1.drewN nd
  clear h1 c0 c1 c2 f2
  generalize (W.setCell { block := X, off := 2 } (Value.int IntKind.i64 ((i : Int) + 1))).drewN nd = wh at *
  generalize hereB s (i + 1) (⟨#[39]⟩ : ByteArray).data.toList = hb at *
  obtain ⟨c0, c1, c2, c3, c4, c6, f⟩ := h2.cells
  clear c3 c4 c6
  have f2 := f 2
  have f5 := f 5
  clear f
  have hi1 : ((i + 1 : Nat) : Int) ≤ s.size := by omega
  cases hb with
  | true =>
    have hh := HR.out
    simp only [Bool.true_eq, Bool.and_eq_true, decide_eq_true_eq, beq_iff_eq] at hh
    have HF : Hid (aposE s m sort i = ([39], i + 2, [])) := Lib.hid (by rw [HA.out, if_pos hh.2])
    have h3 := h2.setv hn (v := (i : Int) + 1 + 1) (i + 2) (by omega) (by omega)
    clear hh
    go_wp2_with fail
    go_ret
    rw [HF.out]
    exact ⟨rfl, by simpa using h3⟩
  | false =>
    have hne : ¬ b8 s (i + 1) = 39 := by
      intro h39
      have hh := HR.out
      rw [h39] at hh
      have : ¬ i + 1 < s.size := by simpa using hh
      rw [b8, dif_neg this] at h39
      omega
    have HA2 : Hid (aposE s m sort i = if m == 2 || (decide (i + 1 < s.size) && synB (b8 s (i + 1)) sort) then ((quoteE s (i + 1)).1, (quoteE s (i + 1)).2, []) else ([39], i + 1, [i])) := Lib.hid (by rw [HA.out, if_neg hne])
    clear hne
    have hsy := syntax_any (b8 s (i + 1)) sort
    cases hm : m == 2 with
    | true =>
      have HF : Hid (aposE s m sort i = ((quoteE s (i + 1)).1, (quoteE s (i + 1)).2, [])) := Lib.hid (by rw [HA2.out, if_pos (by rw [hm]; rfl)])
      clear hsy
      go_wp2_with fail
      go_quiet (fail)
      have h3 := h2.drewN nq
      generalize wh.drewN nq = wq at *
      go_wp2_with fail
      refine (quote_any hn hA0 hX0 h3 (by omega)).mono ?_
      rintro e' W' ⟨rfl, h4⟩
      go_wp2_with fail
      go_ret
      rw [HF.out]
      exact ⟨rfl, by simpa using h4⟩
    | false =>
      by_cases hlt : i + 1 < s.size
      · have hlt' : ((i + 1 : Nat) : Int) < s.size := by omega
        have d1 : decide ((i : Int) + 1 < (s.size : Int)) = true := by simp; omega
        have w0 : (0 : Int) ≤ (i : Int) + 1 := by omega
        have w2 : ((i : Int) + 1).toNat = i + 1 := by omega
        have w4 : (i : Int) + 1 < (s.size : Int) := by omega
        have hbs : b8 s (i + 1) = (s[i + 1]'hlt).toNat := b8_at s _ hlt
        rw [hbs] at hsy
        have HS : Hid (synB (b8 s (i + 1)) sort = synB (s[i + 1]'hlt).toNat sort) := Lib.hid (by rw [hbs])
        clear hbs
        cases hs : synB (s[i + 1]'hlt).toNat sort with
        | true =>
          have HF : Hid (aposE s m sort i = ((quoteE s (i + 1)).1, (quoteE s (i + 1)).2, [])) := Lib.hid (by rw [HA2.out, HS.out, if_pos (by rw [hs]; simp [hlt])])
          rw [hs] at hsy
          clear hs
          have HSY := Lib.hid hsy
          clear hsy
          go_wp2_with fail
          go_quiet ((go_at_call 138; go_must (exact Calls.quiet_of_same (HSY.out _))))
          have h3 := h2.drewN nq
          generalize wh.drewN nq = wq at *
          go_wp2_with fail
          refine (quote_any hn hA0 hX0 h3 (by omega)).mono ?_
          rintro e' W' ⟨rfl, h4⟩
          go_wp2_with fail
          go_ret
          rw [HF.out]
          exact ⟨rfl, by simpa using h4⟩
        | false =>
          have HF : Hid (aposE s m sort i = ([39], i + 1, [i])) := Lib.hid (by rw [HA2.out, HS.out, if_neg (by rw [hs, hm]; simp)])
          rw [hs] at hsy
          clear hs
          have HSY := Lib.hid hsy
          clear hsy
          go_wp2_with fail
          go_quiet ((go_at_call 138; go_must (exact Calls.quiet_of_same (HSY.out _))))
          have h3 := h2.drewN nq
          generalize wh.drewN nq = wq at *
          obtain ⟨low, glob, sz, aln, v, hc, ho⟩ := h3.lx
          have g5 := hc.cells.2.2.2.2.2.1
          have k5 := hc.free 5
          obtain ⟨i0, hii, hz0, hz1, hz2⟩ := info_parts infoInt
          have hle := h3.lx.le
          have hlt := hc.lt
          have HC := Lib.hid hc
          clear c0 c1 c2 f2 f5 hc glob
          go_wp2_with (at_builtin; refine wpList_append_own _ rfl _ _ 85 rfl n0 3 i0 (.int .i64 0) 1 8 Tryz.underlying85 hii hz0 hz1 hz2 rfl (by decide) _ _ _ rfl (ho.alloc _) ⟨wq.heap.size, 0, none⟩ 1 1 [.int .i64 (i : Int)] rfl rfl ?c1 ?c2 ?c3 ?c4 ?c5 ?_)
          case c1 =>
            intro j u hj
            match j, hj with
            | 0, hj => simp at hj; subst hj; simp [Addr.add]
          case c2 => intro u hu; simp at hu; subst hu; rfl
          case c3 => unfold maxLen; omega
          case c4 => omega
          case c5 => simp; omega
          intro v' w1 hown' hgrow _
          have hc1 := push_blk HC.out ho hgrow
          have k5' := hc1.cells.2.2.2.2.2.1
          have f5' := hc1.free 5
          have h4 := fun (u : Value) (hu : w1.ownsRow n0 3 1 u (al.length + 1) ((al.map fun n : Nat => Value.int .i64 n) ++ [.int .i64 i])) => LK.push hn hA0 h3 hal HC.out ho hu hgrow
          have H4 := Lib.hid (h4 _ hown')
          obtain ⟨g, cap, rfl⟩ := ownsRow_succ hown'
          clear hc1 h4 g5 k5 ho hown' hgrow
          go_wp2
          go_ret
          rw [HF.out]
          exact ⟨rfl, H4.out⟩
      · have d1 : decide ((i : Int) + 1 < (s.size : Int)) = false := by simp; omega
        have HF : Hid (aposE s m sort i = ([39], i + 1, [i])) := Lib.hid (by rw [HA2.out, if_neg (by rw [hm]; simp [hlt])])
        clear hsy
        go_wp2_with fail
        go_quiet (fail)
        have h3 := h2.drewN nq
        generalize wh.drewN nq = wq at *
        obtain ⟨low, glob, sz, aln, v, hc, ho⟩ := h3.lx
        have g5 := hc.cells.2.2.2.2.2.1
        have k5 := hc.free 5
        obtain ⟨i0, hii, hz0, hz1, hz2⟩ := info_parts infoInt
        have hle := h3.lx.le
        have hlt := hc.lt
        have HC := Lib.hid hc
        clear c0 c1 c2 f2 f5 hc glob
        go_wp2_with (at_builtin; refine wpList_append_own _ rfl _ _ 85 rfl n0 3 i0 (.int .i64 0) 1 8 Tryz.underlying85 hii hz0 hz1 hz2 rfl (by decide) _ _ _ rfl (ho.alloc _) ⟨wq.heap.size, 0, none⟩ 1 1 [.int .i64 (i : Int)] rfl rfl ?c1 ?c2 ?c3 ?c4 ?c5 ?_)
        case c1 =>
          intro j u hj
          match j, hj with
          | 0, hj => simp at hj; subst hj; simp [Addr.add]
        case c2 => intro u hu; simp at hu; subst hu; rfl
        case c3 => unfold maxLen; omega
        case c4 => omega
        case c5 => simp; omega
        intro v' w1 hown' hgrow _
        have hc1 := push_blk HC.out ho hgrow
        have k5' := hc1.cells.2.2.2.2.2.1
        have f5' := hc1.free 5
        have h4 := fun (u : Value) (hu : w1.ownsRow n0 3 1 u (al.length + 1) ((al.map fun n : Nat => Value.int .i64 n) ++ [.int .i64 i])) => LK.push hn hA0 h3 hal HC.out ho hu hgrow
        have H4 := Lib.hid (h4 _ hown')
        obtain ⟨g, cap, rfl⟩ := ownsRow_succ hown'
        clear hc1 h4 g5 k5 ho hown' hgrow
        go_wp2
        go_ret
        rw [HF.out]
        exact ⟨rfl, H4.out⟩
end
end Go.Proofs.YtcpglgoiienhkaaGreatDoor
