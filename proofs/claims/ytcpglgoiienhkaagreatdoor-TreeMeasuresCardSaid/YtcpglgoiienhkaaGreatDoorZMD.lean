/- Lemmas behind the laws of messages; no conditions. -/
import Derived.RangeFuncNested
import Derived.RangeFuncBound
import Derived.RangeFuncCalls
import Derived.RangeFuncLeaves
import Derived.Shelf.Abstract
import Derived.Shelf.RegionOpen
import Derived.WalkKit
import Derived.OwnWalkIn
import Derived.TacticsInMore
import Derived.LoopNIn
import Derived.LoopIn
import Derived.Test.YtcpglgoiienhkaaGreatDoorZMC
import Derived.Test.YtcpglgoiienhkaaGreatDoorZExt
import Derived.WalkSpells
import Derived.WideLaws
import Derived.Lib.SmallJoins
import Derived.Lib.AppendIntMem
import Derived.Lib.ParseIntBTie
import Derived.Test.YtcpglgoiienhkaaGreatDoorZW
set_option linter.unusedVariables false
set_option linter.unusedSimpArgs false

namespace Go.Proofs.YtcpglgoiienhkaaGreatDoor
open Go.RowKit Go.Shelf P
attribute [local go_sem] Oper.semAt_some
abbrev Tk := Int × ByteArray × Int
def tkV (t : Tk) : Value := .agg #[.int .i64 t.1, .string t.2.1, .int .i64 t.2.2]
structure KeptY (n0 : Nat) (W W' : World) : Prop where
  below : Below n0 W W'
  same : ∀ (k : Nat) (c : Array Value) (T : TypeId) (fz : Nat × Nat), W.heap[k]? = some (.cells c T fz) → T = 88 ∨ T = 3 → W'.heap[k]? = some (.cells c T fz)
structure Yld (n0 X l : Nat) (J : List Tk → World → Prop) : Prop where
  abide : ∀ ts W W', J ts W → Kept n0 X W W' → J ts W'
  round : ∀ ts (t : Tk) W, J ts W → ts.length ≤ 65536 → YieldAt Fence.wide 1 Tryz.prog l #[tkV t] W fun e W' => e = .returned (.bool true) ∧ J (ts ++ [t]) W' ∧ KeptY n0 W W'
structure LJ (n0 X : Nat) (s : ByteArray) (m : Int) (i : Nat) (e at_ : Int) (al : List Nat) (l : Nat) (J : List Tk → World → Prop) (ts : List Tk) (A W : World) : Prop where
  lx : Lx n0 X s m i e at_ al (.func (.yield l) #[] #[]) W
  j : J ts W
  bel : Below n0 A W
section
variable {n0 X : Nat} {s : ByteArray} {m : Int} {al : List Nat} {l : Nat} {J : List Tk → World → Prop} {ts : List Tk} {A W : World} {i : Nat} {e at_ : Int}
theorem LJ.lk (h : LJ n0 X s m i e at_ al l J ts A W) : LK n0 X s m i e at_ al (.func (.yield l) #[] #[]) W W := ⟨h.lx, Kept.refl _ _ _⟩
theorem LJ.of (hY : Yld n0 X l J) (h : LJ n0 X s m i e at_ al l J ts A W) {W' : World} {i' : Nat} {e' a' : Int} {al' : List Nat} (h' : LK n0 X s m i' e' a' al' (.func (.yield l) #[] #[]) W W') : LJ n0 X s m i' e' a' al' l J ts A W' :=
  ⟨h'.lx, hY.abide _ _ _ h.j h'.kept, h.bel.trans h'.kept.below⟩
set_option maxHeartbeats 2000000 in
theorem put_any (hn : 8 ≤ n0) (hY : Yld n0 X l J) (k : Int) (t : ByteArray) (p : Int) (h : LJ n0 X s m i e at_ al l J ts A W) (hl : ts.length ≤ 65536) :
    Calls Tryz.prog 106 #[.pointer (some ⟨X, 0, none⟩), .int .i64 k, .string t, .int .i64 p] W fun e' W' => e' = .returned (.bool true) ∧ LJ n0 X s m i e at_ al l J (ts ++ [(k, t, p)]) A W' := by
  obtain ⟨c0, c1, c2, c3, c4, c6, f⟩ := h.lk.cells
  clear f c0 c1 c2 c3 c4
  refine (callsIn_wide (n := 2)).1 ?_
  refine callsIn_of_wp Tryz.func106 rfl trivial ?_ rfl
  simp only [Tryz.ntmps106, List.size_toArray, List.length_cons, List.length_nil, Nat.reduceAdd, Nat.reduceSub, Array.replicate_succ, Array.replicate_zero, List.push_toArray, List.append_toArray, List.nil_append, List.cons_append]
  obtain ⟨fn, tmps, assign, body, hy, hR⟩ := hY.round ts (k, t, p) W h.j hl
  dsimp only [tkV] at hy
  gi_wp2
  refine hR.mono ?_
  rintro e' W' ⟨rfl, hj, hk⟩
  gi_wp2
  refine bodyPost_ret (results_tmp rfl _ _ _) rfl ?_
  exact ⟨rfl, h.lx.same hn hk.below hk.same, hj, h.bel.trans hk.below⟩
end
end Go.Proofs.YtcpglgoiienhkaaGreatDoor
namespace Go.Proofs.YtcpglgoiienhkaaGreatDoor
open Go.RowKit P
def tokL (t : List UInt8) (i : Nat) : List Tk := if t.isEmpty then [] else [(1, ⟨t.toArray⟩, (i : Int))]
theorem quoteE_le (s : ByteArray) (i : Nat) (h : i ≤ s.size) : (quoteE s i).2 ≤ s.size ∧ (quoteE s i).1.length ≤ (quoteE s i).2 - i := by
  induction i using quoteE.induct s with
  | case1 i h0 h1 h2 ih =>
    have h3 : i + 1 < s.size := by
      rcases Nat.lt_or_ge (i + 1) s.size with h3 | h3
      · exact h3
      · rw [b8, dif_neg (by omega)] at h2; omega
    have hg := quoteE_ge s (i + 2)
    obtain ⟨a, b⟩ := ih (by omega)
    rw [quoteE, dif_pos h0, if_pos h1, if_pos h2]; simp only [List.length_cons]; omega
  | case2 i h0 h1 h2 => rw [quoteE, dif_pos h0, if_pos h1, if_neg h2]; simp; omega
  | case3 i h0 h1 ih =>
    have hg := quoteE_ge s (i + 1)
    obtain ⟨a, b⟩ := ih (by omega)
    rw [quoteE, dif_pos h0, if_neg h1]; simp only [List.length_cons]; omega
  | case4 i h0 => rw [quoteE, dif_neg h0]; simp; omega
theorem aposE_le (s : ByteArray) (m sort : Int) (i : Nat) (h : i < s.size) : (aposE s m sort i).2.1 ≤ s.size ∧ (aposE s m sort i).1.length ≤ (aposE s m sort i).2.1 - i := by
  have hq := quoteE_le s (i + 1) (by omega)
  have hg := quoteE_ge s (i + 1)
  unfold aposE
  split
  · rename_i h2
    have h3 : i + 1 < s.size := by
      rcases Nat.lt_or_ge (i + 1) s.size with h3 | h3
      · exact h3
      · rw [b8, dif_neg (by omega)] at h2; omega
    simp; omega
  · split
    · simp only; omega
    · simp; omega
section
variable {n0 X : Nat} {s : ByteArray} {m : Int} {al : List Nat} {l : Nat} {J : List Tk → World → Prop} {ts : List Tk} {A W : World} {i : Nat} {e at_ : Int}
set_option maxHeartbeats 8000000 in
theorem text_any (sort : Int) (outer : Bool) (hn : 8 ≤ n0) (hY : Yld n0 X l J) (h : LJ n0 X s m i e at_ al l J ts A W) (hi : i ≤ s.size) (hl : ts.length ≤ i) :
    Calls Tryz.prog 103 #[.pointer (some ⟨X, 0, none⟩), .int .i64 sort, .bool outer] W fun e' W' => e' = .returned (.bool true) ∧ LJ n0 X s m (textE s m sort outer i).2.1 e at_ (al ++ (textE s m sort outer i).2.2) l J (ts ++ tokL (textE s m sort outer i).1 i) A W' := by
  have hz : s.size ≤ 65536 := h.lx.sz
  have hl6 : ts.length ≤ 65536 := by omega
  have hW0 : n0 ≤ W.heap.size := h.lx.le
  have hWX : X < W.heap.size := h.lx.lt
  obtain ⟨yv, hyv⟩ : ∃ yv : Value, Value.func (.yield l) #[] #[] = yv := ⟨_, rfl⟩
  have hQ := QK.new h.lk hn hW0 hWX
  have hlk := h.lk
  obtain ⟨c0, c1, c2, c3, c4, c6, f⟩ := hlk.cells
  rw [hyv] at hQ c6
  clear c1 c3 c4 f c6 hlk
  generalize hBB : W.heap.size = B at *
  go_enter Tryz.func103, Tryz.ntmps103
  go_wp2
  go_loopw [14] (fun _ wr => ∃ (j : Nat) (acc : List UInt8) (al2 : List Nat), i ≤ j ∧ j ≤ s.size ∧ acc.length ≤ j ∧ Hid (textE s m sort outer i = (acc ++ (textE s m sort outer j).1, (textE s m sort outer j).2.1, al2 ++ (textE s m sort outer j).2.2)) ∧ QK n0 X s m j e at_ (al ++ al2) yv W B acc wr) (fun _ wr => s.size - posOf X wr)
  case atStart => exact ⟨i, [], [], Nat.le_refl _, hi, by simp, Lib.hid rfl, by simpa using hQ⟩
  case round =>
    obtain ⟨j, acc, al2, hj1, hj2, hac, HB, HQ⟩ := hrel
    obtain ⟨c0, c1, c2, c3, c4, c6, f⟩ := HQ.lk.cells
    clear c1 c3 c4 c6
    have f2 := f 2
    clear f
    have hj' : (j : Int) ≤ s.size := by omega
    by_cases hlt : j < s.size
    · have hlt' : (j : Int) < s.size := by omega
      have d1 : decide ((j : Int) < (s.size : Int)) = true := by simpa using hlt'
      have hc8 := b8_at s j hlt
      go_wp2_with fail
      go_quiet (fail)
      have HQ1 := HQ.drewN nq
      generalize wr.drewN nq = wq at *
      clear c0 c2 f2
      obtain ⟨c0, c1, c2, c3, c4, c6, f⟩ := HQ1.lk.cells
      clear c1 c3 c4 c6 f
      go_wp2_with fail
      go_quiet (fail)
      have HQ2 := HQ1.drewN nq
      clear HQ1 c0 c2
      generalize wq.drewN nq = wk at *
      obtain ⟨c0, c1, c2, c3, c4, c6, f⟩ := HQ2.lk.cells
      clear c1 c3 c4 c6
      have f2 := f 2
      clear f
      have HC8 := Lib.hid hc8
      clear hc8
      have hcs : s.data.toList[j]'(by simpa using hlt) = s[j]'hlt := rfl
      by_cases h39 : (s[j]'hlt).toNat = 39
      · have e1 : (((s[j]'hlt).toNat : Int) == 39) = true := by simp; omega
        have hgt := aposE_gt s m sort j
        have HF : Hid (textE s m sort outer j = ((aposE s m sort j).1 ++ (textE s m sort outer (aposE s m sort j).2.1).1, (textE s m sort outer (aposE s m sort j).2.1).2.1, (aposE s m sort j).2.2 ++ (textE s m sort outer (aposE s m sort j).2.1).2.2)) := Lib.hid (by rw [textE, dif_pos hlt, if_pos (HC8.out.trans h39)])
        obtain ⟨hle, hlen⟩ := aposE_le s m sort j hlt
        have HAP := Lib.hid (apos_any (al := al ++ al2) (e := e) (at_ := at_) (yv := yv) (A := wk) (W := wk) sort hn (Nat.le_trans HQ2.hn (Nat.le_trans HQ2.hA (Nat.le_of_lt HQ2.lt))) (Nat.lt_of_lt_of_le HQ2.hX (Nat.le_trans HQ2.hA (Nat.le_of_lt HQ2.lt))) ⟨HQ2.lk.lx, Kept.refl _ _ _⟩ hlt)
        generalize aposE s m sort j = ap at *
        obtain ⟨ap1, ap2, ap3⟩ := ap
        simp only at hgt hle hlen HF HAP
        clear h39 hcs c0 c2 f2
        go_wp2_with fail
        refine HAP.out.mono ?_
        rintro e' w2 ⟨rfl, hk⟩
        have HQ3 := HQ2.kept hk
        go_wp2_with fail
        refine (HQ3.write hn _ (by simp [ByteArray.size]; omega)).mono ?_
        rintro e' w3 ⟨rfl, HQ4⟩
        go_wp2_with fail
        go_roundw
        case rel => exact ⟨ap2, acc ++ ap1, al2 ++ ap3, by omega, by omega, by simp; omega, Lib.hid (by rw [HB.out, HF.out]; simp), by simpa using HQ4⟩
        case measure =>
          rw [posOf_eq HQ.lk.lx, posOf_eq HQ4.lk.lx]
          omega
      · have e1 : (((s[j]'hlt).toNat : Int) == 39) = false := by simp; omega
        have hsy := syntax_any (s[j]'hlt).toNat sort
        cases hs : synB (s[j]'hlt).toNat sort with
        | false =>
          have HF : Hid (textE s m sort outer i = ((acc ++ [s[j]'hlt]) ++ (textE s m sort outer (j + 1)).1, (textE s m sort outer (j + 1)).2.1, al2 ++ (textE s m sort outer (j + 1)).2.2)) := Lib.hid (by rw [HB.out, textE, dif_pos hlt, if_neg (by rw [HC8.out]; exact h39), if_neg (by rw [HC8.out]; rw [hs]; simp)]; simp)
          rw [hs] at hsy
          have HSY := Lib.hid (hsy wk)
          clear hsy hs h39
          clear hcs c0 c2 f2
          go_wp2_with (go_at_call 138; refine HSY.out.mono ?_; rintro e' w2 ⟨rfl, rfl⟩)
          refine (HQ2.byte hn (s[j]'hlt) _ rfl (by omega)).mono ?_
          rintro e' w3 ⟨rfl, HQ4⟩
          obtain ⟨c0, c1, c2, c3, c4, c6, f⟩ := HQ4.lk.cells
          clear c1 c3 c4 c6
          have f2 := f 2
          clear f
          have HQ5 := HQ4.setv hn (v := (j : Int) + 1) (j + 1) (by omega) (by omega)
          go_wp2_with fail
          go_roundw
          case rel => exact ⟨j + 1, acc ++ [s[j]'hlt], al2, by omega, by omega, by simp; omega, HF, HQ5⟩
          case measure =>
            rw [posOf_eq HQ.lk.lx, posOf_eq HQ5.lk.lx]
            omega
        | true =>
          cases hou : outer with
          | false =>
            have HF : Hid (textE s m sort outer i = (acc, j, al2)) := Lib.hid (by rw [HB.out, textE, dif_pos hlt, if_neg (by rw [HC8.out]; exact h39), if_pos (by rw [HC8.out]; rw [hs, hou]; simp)]; simp)
            rw [hs] at hsy
            have HSY := Lib.hid (hsy wk)
            clear hsy hs h39
            rw [hou] at HF
            subst hou
            clear hcs c0 c2 f2
            have HQe := HQ2
            subst hyv
            generalize wk = wq at *
            have hln : (Lib.byteCells acc).length = acc.length := by rw [Lib.byteCells, List.length_map]
            cases hac : acc with
            | nil =>
              subst hac
              have HL := Lib.hid (Tryz.Builder_Len_f B B _ wq HQe.bd)
              go_wp2_with (first | (go_at_call 138; refine HSY.out.mono ?_; rintro e' w2 ⟨rfl, rfl⟩) | (go_at_call 139; refine HL.out.mono ?_; rintro e' w2 ⟨rfl, rfl⟩))
              go_ret
              rw [HF.out]
              exact ⟨rfl, by simpa [tokL] using LJ.of hY h HQe.lk⟩
            | cons a0 r0 =>
              have HL := Lib.hid (Tryz.Builder_Len_f B B _ wq HQe.bd)
              have hz0 : (((Lib.byteCells acc).length : Int) == 0) = false := by rw [hln, hac]; simp; omega
              rw [hac] at HQe hz0
              have HT : Hid (tokL acc i = [(1, ⟨(a0 :: r0).toArray⟩, (i : Int))]) := Lib.hid (by rw [hac]; rfl)
              have HC := Lib.hid hac
              rw [hac] at HL
              clear hac hln
              go_wp2_with (first | (go_at_call 138; refine HSY.out.mono ?_; rintro e' w2 ⟨rfl, rfl⟩) | (go_at_call 139; refine HL.out.mono ?_; rintro e' w2 ⟨rfl, rfl⟩) | (go_at_call 48; refine (HQe.str hn).mono ?_; rintro e' w2 ⟨rfl, HQf⟩) | (go_at_call 106; refine (put_any hn hY _ _ _ (LJ.of hY h HQf.lk) hl6).mono ?_; rintro e' w3 ⟨rfl, HP⟩))
              go_ret
              rw [HF.out, HT.out]
              exact ⟨rfl, HP⟩
          | true =>
            by_cases h125 : (s[j]'hlt).toNat = 125
            · have e2 : (((s[j]'hlt).toNat : Int) == 125) = true := by simp; omega
              have HF : Hid (textE s m sort outer i = ((acc ++ [s[j]'hlt]) ++ (textE s m sort outer (j + 1)).1, (textE s m sort outer (j + 1)).2.1, al2 ++ (textE s m sort outer (j + 1)).2.2)) := Lib.hid (by rw [HB.out, textE, dif_pos hlt, if_neg (by rw [HC8.out]; exact h39), if_neg (by rw [HC8.out]; rw [hs, hou, h125]; simp)]; simp)
              rw [hs] at hsy
              have HSY := Lib.hid (hsy wk)
              clear hsy hs h39 h125
              rw [hou] at HF
              subst hou
              clear hcs c0 c2 f2
              go_wp2_with (go_at_call 138; refine HSY.out.mono ?_; rintro e' w2 ⟨rfl, rfl⟩)
              refine (HQ2.byte hn (s[j]'hlt) _ rfl (by omega)).mono ?_
              rintro e' w3 ⟨rfl, HQ4⟩
              obtain ⟨c0, c1, c2, c3, c4, c6, f⟩ := HQ4.lk.cells
              clear c1 c3 c4 c6
              have f2 := f 2
              clear f
              have HQ5 := HQ4.setv hn (v := (j : Int) + 1) (j + 1) (by omega) (by omega)
              go_wp2_with fail
              go_roundw
              case rel => exact ⟨j + 1, acc ++ [s[j]'hlt], al2, by omega, by omega, by simp; omega, HF, HQ5⟩
              case measure =>
                rw [posOf_eq HQ.lk.lx, posOf_eq HQ5.lk.lx]
                omega
            · have e2 : (((s[j]'hlt).toNat : Int) == 125) = false := by simp; omega
              have HF : Hid (textE s m sort outer i = (acc, j, al2)) := Lib.hid (by rw [HB.out, textE, dif_pos hlt, if_neg (by rw [HC8.out]; exact h39), if_pos (by rw [HC8.out]; rw [hs, hou]; simp [h125])]; simp)
              rw [hs] at hsy
              have HSY := Lib.hid (hsy wk)
              clear hsy hs h39 h125
              rw [hou] at HF
              subst hou
              clear hcs c0 c2 f2
              have HQe := HQ2
              subst hyv
              generalize wk = wq at *
              have hln : (Lib.byteCells acc).length = acc.length := by rw [Lib.byteCells, List.length_map]
              cases hac : acc with
              | nil =>
                subst hac
                have HL := Lib.hid (Tryz.Builder_Len_f B B _ wq HQe.bd)
                go_wp2_with (first | (go_at_call 138; refine HSY.out.mono ?_; rintro e' w2 ⟨rfl, rfl⟩) | (go_at_call 139; refine HL.out.mono ?_; rintro e' w2 ⟨rfl, rfl⟩))
                go_ret
                rw [HF.out]
                exact ⟨rfl, by simpa [tokL] using LJ.of hY h HQe.lk⟩
              | cons a0 r0 =>
                have HL := Lib.hid (Tryz.Builder_Len_f B B _ wq HQe.bd)
                have hz0 : (((Lib.byteCells acc).length : Int) == 0) = false := by rw [hln, hac]; simp; omega
                rw [hac] at HQe hz0
                have HT : Hid (tokL acc i = [(1, ⟨(a0 :: r0).toArray⟩, (i : Int))]) := Lib.hid (by rw [hac]; rfl)
                have HC := Lib.hid hac
                rw [hac] at HL
                clear hac hln
                go_wp2_with (first | (go_at_call 138; refine HSY.out.mono ?_; rintro e' w2 ⟨rfl, rfl⟩) | (go_at_call 139; refine HL.out.mono ?_; rintro e' w2 ⟨rfl, rfl⟩) | (go_at_call 48; refine (HQe.str hn).mono ?_; rintro e' w2 ⟨rfl, HQf⟩) | (go_at_call 106; refine (put_any hn hY _ _ _ (LJ.of hY h HQf.lk) hl6).mono ?_; rintro e' w3 ⟨rfl, HP⟩))
                go_ret
                rw [HF.out, HT.out]
                exact ⟨rfl, HP⟩
    · have HF : Hid (textE s m sort outer i = (acc, j, al2)) := Lib.hid (by rw [HB.out, textE, dif_neg hlt]; simp)
      have hlt' : ¬ (j : Int) < s.size := by omega
      have d1 : decide ((j : Int) < (s.size : Int)) = false := by simpa using hlt'
      go_wp2_with fail
      go_quiet (fail)
      have HQe := HQ.drewN nq
      subst hyv
      generalize wr.drewN nq = wq at *
      have hln : (Lib.byteCells acc).length = acc.length := by rw [Lib.byteCells, List.length_map]
      cases hac : acc with
      | nil =>
        subst hac
        have HL := Lib.hid (Tryz.Builder_Len_f B B _ wq HQe.bd)
        go_wp2_with (go_at_call 139; refine HL.out.mono ?_; rintro e' w2 ⟨rfl, rfl⟩)
        go_ret
        rw [HF.out]
        exact ⟨rfl, by simpa [tokL] using LJ.of hY h HQe.lk⟩
      | cons a0 r0 =>
        have HL := Lib.hid (Tryz.Builder_Len_f B B _ wq HQe.bd)
        have hz0 : (((Lib.byteCells acc).length : Int) == 0) = false := by rw [hln, hac]; simp; omega
        rw [hac] at HQe hz0
        have HT : Hid (tokL acc i = [(1, ⟨(a0 :: r0).toArray⟩, (i : Int))]) := Lib.hid (by rw [hac]; rfl)
        have HC := Lib.hid hac
        rw [hac] at HL
        clear hac hln
        go_wp2_with (first | (go_at_call 139; refine HL.out.mono ?_; rintro e' w2 ⟨rfl, rfl⟩) | (go_at_call 48; refine (HQe.str hn).mono ?_; rintro e' w2 ⟨rfl, HQf⟩) | (go_at_call 106; refine (put_any hn hY _ _ _ (LJ.of hY h HQf.lk) hl6).mono ?_; rintro e' w3 ⟨rfl, HP⟩))
        go_ret
        rw [HF.out, HT.out]
        exact ⟨rfl, HP⟩
end
end Go.Proofs.YtcpglgoiienhkaaGreatDoor
namespace Go.Proofs.YtcpglgoiienhkaaGreatDoor
open P
inductive R where
  | ok (i : Nat) (ts : List Tk) (al : List Nat)
  | er (e at_ : Int)
def R.pre (ts : List Tk) (al : List Nat) : R → R
  | .ok i ts' al' => .ok i (ts ++ ts') (al ++ al')
  | .er e a => .er e a
def R.next (r : R) (f : Nat → Option R) : Option R :=
  match r with
  | .ok i ts al => (f i).map (R.pre ts al)
  | .er e a => some (.er e a)
def failR (s : ByteArray) (pl : Nat) (op : Int) : R := if s.size ≤ pl then .er 190 op else .er 191 (pl : Int)
def at1 (s : ByteArray) (i : Nat) (c : Nat) : Bool := decide (i < s.size) && b8 s i == c
def mustR (s : ByteArray) (c : Nat) (kind : Int) (op : Int) (i : Nat) : R :=
  if at1 s (blanks s i) c then .ok (blanks s i + 1) [(kind, ⟨#[]⟩, (blanks s i : Int))] [] else failR s (blanks s i) op
def wordAt (s : ByteArray) (i : Nat) : ByteArray := s.extract i (wordEnd s i)
def numAt (s : ByteArray) (i : Nat) : ByteArray := s.extract i (numEnd s i)
def numOk (s : ByteArray) (i : Nat) : Bool := decB (numAt s i).data.toList
def nameOk (w : ByteArray) (i : Nat) : Bool :=
  if h : i < w.size then if stopB w i then false else nameOk w (i + (Utf8.decode w i).2) else true
termination_by w.size - i
decreasing_by have := width_pos w i h; omega
def numeralP (w : ByteArray) : Int :=
  match Lib.parseIntB 32 w.data.toList with
  | .ok v => if Lib.itoa v = w.data.toList then 2 else 0
  | _ => 0
def identP (w : ByteArray) : Int :=
  if w.size = 0 ∨ 64 < w.size then 0
  else if 48 ≤ b8 w 0 ∧ b8 w 0 ≤ 57 then numeralP w
  else if nameOk w 0 then 1 else 0
def trimGo (w : ByteArray) (i from_ to_ : Nat) : Nat × Nat :=
  if h : i < w.size then
    if spB (Utf8.decode w i).1 then trimGo w (i + (Utf8.decode w i).2) from_ to_
    else trimGo w (i + (Utf8.decode w i).2) (min from_ i) (i + (Utf8.decode w i).2)
  else (from_, to_)
termination_by w.size - i
decreasing_by all_goals have := width_pos w i h; omega
def trimP (w : ByteArray) : ByteArray := if (trimGo w 0 w.size 0).2 = 0 then ⟨#[]⟩ else w.extract (trimGo w 0 w.size 0).1 (trimGo w 0 w.size 0).2
def wPlural : List UInt8 := [112, 108, 117, 114, 97, 108]
def wOrdinal : List UInt8 := [115, 101, 108, 101, 99, 116, 111, 114, 100, 105, 110, 97, 108]
def wSelect : List UInt8 := [115, 101, 108, 101, 99, 116]
def wChoice : List UInt8 := [99, 104, 111, 105, 99, 101]
def wOffset : List UInt8 := [111, 102, 102, 115, 101, 116, 58]
def offsetR (s : ByteArray) (op : Int) (i : Nat) : R :=
  if hereB s (blanks s i) wOffset then
    if numOk s (blanks s (blanks s i + 7)) then .ok (numEnd s (blanks s (blanks s i + 7))) [(9, numAt s (blanks s (blanks s i + 7)), (blanks s i : Int))] []
    else failR s (blanks s (blanks s i + 7)) op
  else .ok (blanks s i) [] []
def keyR (s : ByteArray) (numbers : Bool) (op : Int) (i : Nat) : R :=
  if numbers && at1 s i 61 then
    if numOk s (i + 1) then .ok (numEnd s (i + 1)) [(10, ⟨#[61]⟩ ++ numAt s (i + 1), (i : Int))] []
    else failR s (if numEnd s (i + 1) = s.size ∧ (numAt s (i + 1)).size = 0 then numEnd s (i + 1) else i) op
  else if (wordAt s i).size = 0 ∨ 64 < (wordAt s i).size then failR s i op
  else .ok (wordEnd s i) [(10, wordAt s i, (i : Int))] []
def styleGo (s : ByteArray) (op : Int) (from_ : Nat) (i opens : Nat) : R :=
  if h : i < s.size then
    if b8 s i = 39 then
      if Lib.indexByte (s.data.toList.drop (i + 1)) 39 < 0 then .er 190 op
      else styleGo s op from_ (i + (Lib.indexByte (s.data.toList.drop (i + 1)) 39).toNat + 2) opens
    else if b8 s i = 123 then styleGo s op from_ (i + 1) (opens + 1)
    else if b8 s i = 125 then
      if opens ≤ 1 then
        if (trimP (s.extract from_ i)).size = 0 then failR s i op
        else R.pre [(8, trimP (s.extract from_ i), (from_ : Int))] [] (mustR s 125 4 op i)
      else styleGo s op from_ (i + 1) (opens - 1)
    else styleGo s op from_ (i + 1) opens
  else .er 190 op
termination_by s.size - i
def styleR (s : ByteArray) (op : Int) (i : Nat) : R := styleGo s op (blanks s i) (blanks s i) 1
mutual
def msgF (s : ByteArray) (m : Int) : Nat → Int → Int → Nat → Option R
  | 0, _, _, _ => none
  | k + 1, sort, op, i =>
    if (textE s m sort (decide (op < 0)) i).2.1 = s.size then
      some (if op < 0 then .ok (textE s m sort (decide (op < 0)) i).2.1 (tokL (textE s m sort (decide (op < 0)) i).1 i) (textE s m sort (decide (op < 0)) i).2.2 else failR s (textE s m sort (decide (op < 0)) i).2.1 op)
    else if b8 s (textE s m sort (decide (op < 0)) i).2.1 = 123 then
      (argF s m k (textE s m sort (decide (op < 0)) i).2.1).bind fun r => (r.next (fun i2 => msgF s m k sort op i2)).map (R.pre (tokL (textE s m sort (decide (op < 0)) i).1 i) (textE s m sort (decide (op < 0)) i).2.2)
    else if b8 s (textE s m sort (decide (op < 0)) i).2.1 = 35 then
      (msgF s m k sort op ((textE s m sort (decide (op < 0)) i).2.1 + 1)).map (R.pre (tokL (textE s m sort (decide (op < 0)) i).1 i ++ [(2, ⟨#[]⟩, ((textE s m sort (decide (op < 0)) i).2.1 : Int))]) (textE s m sort (decide (op < 0)) i).2.2)
    else some (.ok (textE s m sort (decide (op < 0)) i).2.1 (tokL (textE s m sort (decide (op < 0)) i).1 i) (textE s m sort (decide (op < 0)) i).2.2)
def argF (s : ByteArray) (m : Int) : Nat → Nat → Option R
  | 0, _ => none
  | k + 1, i =>
    if identP (wordAt s (blanks s (i + 1))) = 0 then some (failR s (blanks s (i + 1)) i)
    else
      (if at1 s (blanks s (wordEnd s (blanks s (i + 1)))) 125 then some (mustR s 125 4 i (blanks s (wordEnd s (blanks s (i + 1)))))
       else (mustR s 44 6 i (blanks s (wordEnd s (blanks s (i + 1))))).next (fun j =>
         if letEnd s (blanks s j) = blanks s j then some (failR s (blanks s j) i)
         else (typedF s m k (s.extract (blanks s j) (letEnd s (blanks s j))) i (letEnd s (blanks s j))).map (R.pre [(7, s.extract (blanks s j) (letEnd s (blanks s j)), (blanks s j : Int))] []))).map
        (R.pre [(3, ⟨#[]⟩, (i : Int)), (5, wordAt s (blanks s (i + 1)), (blanks s (i + 1) : Int))] [])
def typedF (s : ByteArray) (m : Int) : Nat → ByteArray → Int → Nat → Option R
  | 0, _, _, _ => none
  | k + 1, w, op, i =>
    if w.data.toList = wPlural ∨ w.data.toList = wOrdinal then (mustR s 44 6 op (blanks s i)).next fun j => (offsetR s op j).next fun j2 => casesF s m k true op j2
    else if w.data.toList = wSelect then (mustR s 44 6 op (blanks s i)).next fun j => casesF s m k false op j
    else if w.data.toList = wChoice then (mustR s 44 6 op (blanks s i)).next fun j => choiceF s m k op j
    else if at1 s (blanks s i) 125 then some (mustR s 125 4 op (blanks s i))
    else (mustR s 44 6 op (blanks s i)).next fun j => some (styleR s op j)
def casesF (s : ByteArray) (m : Int) : Nat → Bool → Int → Nat → Option R
  | 0, _, _, _ => none
  | k + 1, numbers, op, i =>
    if at1 s (blanks s i) 125 then some (mustR s 125 4 op (blanks s i))
    else if blanks s i = s.size then some (failR s (blanks s i) op)
    else (keyR s numbers op (blanks s i)).next fun j =>
      (mustR s 123 3 op (blanks s j)).next fun j2 =>
        (msgF s m k (if numbers then 1 else 0) (blanks s j : Nat) j2).bind fun r => r.next fun j3 =>
          (mustR s 125 4 (blanks s j : Nat) j3).next fun j4 => casesF s m k numbers op j4
def choiceF (s : ByteArray) (m : Int) : Nat → Int → Nat → Option R
  | 0, _, _ => none
  | k + 1, op, i =>
    if numOk s (blanks s i) then
      (if at1 s (blanks s (numEnd s (blanks s i))) 35 then R.ok (blanks s (numEnd s (blanks s i)) + 1) [(11, numAt s (blanks s i) ++ ⟨#[35]⟩, (blanks s i : Int))] []
       else if at1 s (blanks s (numEnd s (blanks s i))) 60 then R.ok (blanks s (numEnd s (blanks s i)) + 1) [(11, numAt s (blanks s i) ++ ⟨#[60]⟩, (blanks s i : Int))] []
       else if hereB s (blanks s (numEnd s (blanks s i))) [226, 137, 164] then R.ok (blanks s (numEnd s (blanks s i)) + 3) [(11, numAt s (blanks s i) ++ ⟨#[35]⟩, (blanks s i : Int))] []
       else failR s (blanks s (numEnd s (blanks s i))) op).next fun j =>
        (msgF s m k 2 op j).bind fun r => r.next fun j2 =>
          if at1 s j2 125 then some (mustR s 125 4 op j2)
          else (choiceF s m k op (j2 + 1)).map (R.pre [(12, ⟨#[]⟩, (j2 : Int))] [])
    else some (failR s (blanks s i) op)
end
end Go.Proofs.YtcpglgoiienhkaaGreatDoor
namespace Go.Proofs.YtcpglgoiienhkaaGreatDoor
open Go.RowKit P Ext
theorem int32_lo (l : List UInt8) (v : Int) (h : Lib.parseIntB 32 l = .ok v) : -9223372036854775808 ≤ v ∧ v ≤ 9223372036854775807 := by
  have := Lib.parseIntB_bounds h
  have h2 : (2 ^ (32 - 1) : Nat) = 2147483648 := by decide
  rw [h2] at this
  omega
set_option maxHeartbeats 1000000 in
theorem numeral_any (s : ByteArray) (hs : s.size ≤ 65536) (w : World) (hG : GlH w) :
    Calls Tryz.prog 108 #[.string s] w fun e w' => e = .returned (.int .i64 (numeralP s)) ∧ Below w.heap.size w w' := by
  rcases hp : Lib.parseIntB 32 s.data.toList with v | _ | _
  · obtain ⟨hv1, hv2⟩ := int32_lo _ _ hp
    have HN : Hid (numeralP s = if Lib.itoa v = s.data.toList then 2 else 0) := Lib.hid (by rw [numeralP, hp])
    have HP := Lib.hid (Tryz.strconv_ParseInt_10_at32_ok s (by omega) v hp w)
    clear hp
    go_enter Tryz.func108, Tryz.ntmps108
    go_wp2_with fail
    refine HP.out.mono ?_
    rintro e w1 ⟨rfl, hw1⟩
    have hb1 : Below w.heap.size w w1 := by
      rcases hw1 with rfl | ⟨t, rfl⟩
      · exact Below.refl _ _
      · exact Joins.below_bytesWorld _ _ _ _ (Nat.le_refl _)
    clear hw1
    have HF := Lib.hid (Tryz.strconv_FormatInt_10 v hv1 hv2 w1 (hG.bel hb1).gl.pow)
    go_wp2_with fail
    refine HF.out.mono ?_
    rintro e w2 ⟨rfl, k, os, rfl⟩
    have hb2 : Below w.heap.size w (Sort.grow (w1.drewN k) os) := hb1.trans (Lib.below_grow _ _ hb1.size _ _)
    generalize Sort.grow (w1.drewN k) os = w2 at *
    go_wp2
    · have h1 : (!Lib.itoa v == s.toList) = true := by assumption
      go_ret
      rw [HN.out, if_neg (by rw [← ByteArray.toList_eq]; simpa using h1)]
      exact ⟨rfl, hb2⟩
    · have h1 : (!Lib.itoa v == s.toList) = false := by assumption
      go_ret
      rw [HN.out, if_pos (by rw [← ByteArray.toList_eq]; simpa using h1)]
      exact ⟨rfl, hb2⟩
  · obtain ⟨tp, p, hE⟩ := hG.gl.esyn
    have HN : Hid (numeralP s = 0) := Lib.hid (by rw [numeralP, hp])
    have HP := Lib.hid (Any.strconv_ParseInt_10_at32_syntax_var Tryz.laysC174 s (by omega) hp tp p w hE)
    clear hp
    go_enter Tryz.func108, Tryz.ntmps108
    go_wp2_with fail
    refine HP.out.mono ?_
    rintro e w1 ⟨N, rfl, hN, hq, hb1⟩
    clear hq
    go_wp2
    go_ret
    rw [HN.out]
    exact ⟨rfl, hb1⟩
  · obtain ⟨tp, p, hE⟩ := hG.gl.eran
    have HN : Hid (numeralP s = 0) := Lib.hid (by rw [numeralP, hp])
    have HP := Lib.hid (Tryz.strconv_ParseInt_10_at32_range_var s (by omega) hp tp p w hE)
    clear hp
    go_enter Tryz.func108, Tryz.ntmps108
    go_wp2_with fail
    refine HP.out.mono ?_
    rintro e w1 ⟨N, rfl, hN, hq, hb1⟩
    clear hq
    go_wp2
    go_ret
    rw [HN.out]
    exact ⟨rfl, hb1⟩
theorem decode_len (s : ByteArray) (i : Nat) (h : i < s.size) (hn : ¬ (((Utf8.decode s i).1 : Int) = 65533 ∧ ((Utf8.decode s i).2 : Int) = 1)) : Lib.runeLen ((Utf8.decode s i).1 : Int) = ((Utf8.decode s i).2 : Int) := by
  revert hn
  simp only [Utf8.decode]
  repeat' split
  all_goals intro hn
  all_goals simp [Utf8.runeError, Utf8.valid] at *
  all_goals unfold Lib.runeLen
  all_goals repeat' split
  all_goals first | omega | (exfalso; omega) | simp
theorem stray_any (s : ByteArray) (i : Nat) (h : i < s.size) (hs : s.size ≤ 65536) (w : World) (hG : GlH w) :
    Calls Tryz.prog 111 #[.string s, .int .i64 (i : Int), .int .i32 ((Utf8.decode s i).1 : Int)] w fun e w' => e = .returned (.bool (((Utf8.decode s i).1 : Int) == 65533 && ((Utf8.decode s i).2 : Int) == 1)) ∧ Below w.heap.size w w' := by
  have hD := Tryz.utf8_DecodeRuneInString (s.extract i s.size) w hG.gl.tabs
  rw [decodeGo_at s i h] at hD
  have hi : (i : Int) ≤ s.size := by omega
  generalize (Utf8.decode s i).1 = r at *
  generalize (Utf8.decode s i).2 = wd at *
  have HD := Lib.hid hD
  clear hD
  by_cases hr : (r : Int) = 65533
  · have e1 : ((r : Int) != 65533) = false := by simp [hr]
    have HR : Hid (((r : Int) == 65533) = true) := Lib.hid (by simp [hr])
    clear hr
    go_enter Tryz.func111, Tryz.ntmps111
    go_wp2_with (go_at_call 147; refine HD.out.mono ?_; rintro e w' ⟨rfl, hb⟩)
    go_ret
    rw [HR.out]
    exact ⟨rfl, hb⟩
  · have e1 : ((r : Int) != 65533) = true := by simp [hr]
    have HR : Hid (((r : Int) == 65533) = false) := Lib.hid (by simp [hr])
    clear hr
    go_enter Tryz.func111, Tryz.ntmps111
    go_wp2
    go_ret
    rw [HR.out]
    exact ⟨rfl, Below.refl _ _⟩
theorem nameOk_step (s : ByteArray) (j : Nat) (h : j < s.size) : nameOk s j = if stopB s j then false else nameOk s (j + (Utf8.decode s j).2) := by rw [nameOk, dif_pos h]
set_option maxHeartbeats 4000000 in
theorem Ident_any (s : ByteArray) (hs : s.size ≤ 65536) (w : World) (hG : GlH w) :
    Calls Tryz.prog 88 #[.string s] w fun e w' => e = .returned (.int .i64 (identP s)) ∧ Below w.heap.size w w' := by
  by_cases h0 : s.size = 0
  · have HN : Hid (identP s = 0) := Lib.hid (by rw [identP, if_pos (.inl h0)])
    have e0 : s.toList.isEmpty = true := by rw [ByteArray.toList_eq]; exact List.isEmpty_iff.2 (List.length_eq_zero_iff.1 (by simpa using h0))
    have e1 : s.toList = [] := by simpa using e0
    clear h0
    go_enter Tryz.func88, Tryz.ntmps88
    go_wp2
    go_ret
    rw [HN.out]
    exact ⟨rfl, Below.refl _ _⟩
  · have e0 : s.toList.isEmpty = false := by
      rw [ByteArray.toList_eq]
      cases h : s.data.toList with
      | nil => exact absurd (by simpa using congrArg List.length h) h0
      | cons a b => rfl
    by_cases h64 : 64 < s.size
    · have HN : Hid (identP s = 0) := Lib.hid (by rw [identP, if_pos (.inr h64)])
      have d : decide ((64 : Int) < s.size) = true := by simp; omega
      go_enter Tryz.func88, Tryz.ntmps88
      go_wp2
      go_ret
      rw [HN.out]
      exact ⟨rfl, Below.refl _ _⟩
    · have d : decide ((64 : Int) < s.size) = false := by simp; omega
      have h1 : 0 < s.size := by omega
      have hb := b8_at s 0 h1
      have HI : Hid (identP s = if 48 ≤ b8 s 0 ∧ b8 s 0 ≤ 57 then numeralP s else if nameOk s 0 then 1 else 0) := Lib.hid (by rw [identP, if_neg (by omega)])
      by_cases hd1 : 48 ≤ (s[0]'h1).toNat
      · have e1 : decide ((48 : Int) ≤ ((s[0]'h1).toNat : Int)) = true := by simp; omega
        by_cases hd2 : (s[0]'h1).toNat ≤ 57
        · have e2 : decide (((s[0]'h1).toNat : Int) ≤ (57 : Int)) = true := by simp; omega
          have HF : Hid (identP s = numeralP s) := Lib.hid (by rw [HI.out, if_pos (by omega)])
          clear hb hd1 hd2
          go_enter Tryz.func88, Tryz.ntmps88
          go_wp2_with (go_at_call 108; refine (numeral_any s hs _ hG).mono ?_; rintro e w' ⟨rfl, hb⟩)
          go_ret
          rw [HF.out]
          exact ⟨rfl, hb⟩
        · have e2 : decide (((s[0]'h1).toNat : Int) ≤ (57 : Int)) = false := by simp; omega
          have HF : Hid (identP s = if nameOk s 0 then 1 else 0) := Lib.hid (by rw [HI.out, if_neg (by omega)])
          clear hb hd1 hd2
          go_enter Tryz.func88, Tryz.ntmps88
          go_wp2
          go_loopw [] (fun wr => ∃ pos : Nat, wr.heap[w.heap.size]? = some (.stringIter s pos) ∧ Below w.heap.size w wr ∧ Hid (nameOk s 0 = nameOk s pos)) (fun wr => s.size - wr.iterPos w.heap.size)
          case atStart =>
            refine ⟨0, ?_, (Below.refl _ w).alloc (Nat.le_refl _) _, Lib.hid rfl⟩
            have := World.iter_heap w s 0
            simpa using this
          case round =>
            obtain ⟨pos, hit, hbw, HB⟩ := hrel
            have hsz : w.heap.size < wr.heap.size := (Array.getElem?_eq_some_iff.1 hit).1
            by_cases hp : pos < s.size
            · have hnx : ∀ ty, (Instr.next (.pointer (some ⟨w.heap.size, 0, none⟩)) true ty).run Tryz.prog wr = _ := fun ty => Lib.run_next_any_at wr w.heap.size s pos ty hit hp
              have hwd := width_pos s pos hp
              have hit2 := Lib.iterAt_heap wr w.heap.size s pos (pos + (Utf8.decode s pos).2) hit
              have hbw2 := Lib.below_iterAt hbw (k := w.heap.size) (Nat.le_refl _) s (pos + (Utf8.decode s pos).2)
              have HS := Lib.hid (stray_any s pos hp hs _ (hG.bel hbw2))
              have HST : Hid (stopB s pos = (((Utf8.decode s pos).1 : Int) == 65533 && ((Utf8.decode s pos).2 : Int) == 1 || spB (Utf8.decode s pos).1 || syB (Utf8.decode s pos).1)) := Lib.hid rfl
              have HPS : Hid (wr.iterPos w.heap.size = pos) := Lib.hid (by simp [World.iterPos, hit])
              have HS2 : Hid (nameOk s pos = if stopB s pos then false else nameOk s (pos + (Utf8.decode s pos).2)) := Lib.hid (nameOk_step s pos hp)
              generalize (Utf8.decode s pos).2 = wd at *
              generalize (Utf8.decode s pos).1 = rn at *
              generalize wr.iterAt w.heap.size s (pos + wd) = wi at *
              by_cases hst : stopB s pos = true
              · have HE : Hid (identP s = 0) := Lib.hid (by rw [HF.out, HB.out, HS2.out, if_pos hst]; rfl)
                have HT := Lib.hid hst
                clear hst HS2 HB HF
                go_wp2_with (first | (go_at_call 109; refine (Space_any _ _).mono ?_; rintro e w' ⟨rfl, rfl⟩) | (go_at_call 110; refine (Syntax_any _ _).mono ?_; rintro e w' ⟨rfl, rfl⟩) | (go_at_call 111; refine HS.out.mono ?_; rintro e w3 ⟨rfl, hb3⟩))
                all_goals first
                  | (go_ret
                     rw [HE.out]
                     first
                       | exact ⟨rfl, hbw2⟩
                       | exact ⟨rfl, hbw2.trans (hb3.mono hbw2.size)⟩)
                  | (exfalso
                     have hst := HT.out
                     rw [HST.out] at hst
                     simp_all
                     done)
              · have HE : Hid (nameOk s 0 = nameOk s (pos + wd)) := Lib.hid (by rw [HB.out, HS2.out, if_neg hst])
                have HT := Lib.hid hst
                clear hst HS2 HB
                go_wp2_with (first | (go_at_call 109; refine (Space_any _ _).mono ?_; rintro e w' ⟨rfl, rfl⟩) | (go_at_call 110; refine (Syntax_any _ _).mono ?_; rintro e w' ⟨rfl, rfl⟩) | (go_at_call 111; refine HS.out.mono ?_; rintro e w3 ⟨rfl, hb3⟩))
                all_goals first
                  | (have hit3 := (hb3.block w.heap.size (Array.getElem?_eq_some_iff.1 hit2).1).trans hit2
                     go_roundw
                     case rel => exact ⟨pos + wd, hit3, hbw2.trans (hb3.mono hbw2.size), HE⟩
                     case measure =>
                       rw [HPS.out]
                       simp only [World.iterPos, hit3]
                       omega)
                  | (exfalso
                     have hst := HT.out
                     rw [HST.out] at hst
                     simp_all
                     done)
            · have HE : Hid (identP s = 1) := Lib.hid (by rw [HF.out, HB.out, nameOk, dif_neg hp]; rfl)
              have hnx : ∀ ty, (Instr.next (.pointer (some ⟨w.heap.size, 0, none⟩)) true ty).run Tryz.prog wr = _ := fun ty => Lib.run_next_end_at wr w.heap.size s pos ty hit hp
              clear HB HF
              go_wp2
              go_ret
              rw [HE.out]
              exact ⟨rfl, hbw⟩
      · have e1 : decide ((48 : Int) ≤ ((s[0]'h1).toNat : Int)) = false := by simp; omega
        have HF : Hid (identP s = if nameOk s 0 then 1 else 0) := Lib.hid (by rw [HI.out, if_neg (by omega)])
        clear hb hd1
        go_enter Tryz.func88, Tryz.ntmps88
        go_wp2
        go_loopw [] (fun wr => ∃ pos : Nat, wr.heap[w.heap.size]? = some (.stringIter s pos) ∧ Below w.heap.size w wr ∧ Hid (nameOk s 0 = nameOk s pos)) (fun wr => s.size - wr.iterPos w.heap.size)
        case atStart =>
          refine ⟨0, ?_, (Below.refl _ w).alloc (Nat.le_refl _) _, Lib.hid rfl⟩
          have := World.iter_heap w s 0
          simpa using this
        case round =>
          obtain ⟨pos, hit, hbw, HB⟩ := hrel
          have hsz : w.heap.size < wr.heap.size := (Array.getElem?_eq_some_iff.1 hit).1
          by_cases hp : pos < s.size
          · have hnx : ∀ ty, (Instr.next (.pointer (some ⟨w.heap.size, 0, none⟩)) true ty).run Tryz.prog wr = _ := fun ty => Lib.run_next_any_at wr w.heap.size s pos ty hit hp
            have hwd := width_pos s pos hp
            have hit2 := Lib.iterAt_heap wr w.heap.size s pos (pos + (Utf8.decode s pos).2) hit
            have hbw2 := Lib.below_iterAt hbw (k := w.heap.size) (Nat.le_refl _) s (pos + (Utf8.decode s pos).2)
            have HS := Lib.hid (stray_any s pos hp hs _ (hG.bel hbw2))
            have HST : Hid (stopB s pos = (((Utf8.decode s pos).1 : Int) == 65533 && ((Utf8.decode s pos).2 : Int) == 1 || spB (Utf8.decode s pos).1 || syB (Utf8.decode s pos).1)) := Lib.hid rfl
            have HPS : Hid (wr.iterPos w.heap.size = pos) := Lib.hid (by simp [World.iterPos, hit])
            have HS2 : Hid (nameOk s pos = if stopB s pos then false else nameOk s (pos + (Utf8.decode s pos).2)) := Lib.hid (nameOk_step s pos hp)
            generalize (Utf8.decode s pos).2 = wd at *
            generalize (Utf8.decode s pos).1 = rn at *
            generalize wr.iterAt w.heap.size s (pos + wd) = wi at *
            by_cases hst : stopB s pos = true
            · have HE : Hid (identP s = 0) := Lib.hid (by rw [HF.out, HB.out, HS2.out, if_pos hst]; rfl)
              have HT := Lib.hid hst
              clear hst HS2 HB HF
              go_wp2_with (first | (go_at_call 109; refine (Space_any _ _).mono ?_; rintro e w' ⟨rfl, rfl⟩) | (go_at_call 110; refine (Syntax_any _ _).mono ?_; rintro e w' ⟨rfl, rfl⟩) | (go_at_call 111; refine HS.out.mono ?_; rintro e w3 ⟨rfl, hb3⟩))
              all_goals first
                | (go_ret
                   rw [HE.out]
                   first
                     | exact ⟨rfl, hbw2⟩
                     | exact ⟨rfl, hbw2.trans (hb3.mono hbw2.size)⟩)
                | (exfalso
                   have hst := HT.out
                   rw [HST.out] at hst
                   simp_all
                   done)
            · have HE : Hid (nameOk s 0 = nameOk s (pos + wd)) := Lib.hid (by rw [HB.out, HS2.out, if_neg hst])
              have HT := Lib.hid hst
              clear hst HS2 HB
              go_wp2_with (first | (go_at_call 109; refine (Space_any _ _).mono ?_; rintro e w' ⟨rfl, rfl⟩) | (go_at_call 110; refine (Syntax_any _ _).mono ?_; rintro e w' ⟨rfl, rfl⟩) | (go_at_call 111; refine HS.out.mono ?_; rintro e w3 ⟨rfl, hb3⟩))
              all_goals first
                | (have hit3 := (hb3.block w.heap.size (Array.getElem?_eq_some_iff.1 hit2).1).trans hit2
                   go_roundw
                   case rel => exact ⟨pos + wd, hit3, hbw2.trans (hb3.mono hbw2.size), HE⟩
                   case measure =>
                     rw [HPS.out]
                     simp only [World.iterPos, hit3]
                     omega)
                | (exfalso
                   have hst := HT.out
                   rw [HST.out] at hst
                   simp_all
                   done)
          · have HE : Hid (identP s = 1) := Lib.hid (by rw [HF.out, HB.out, nameOk, dif_neg hp]; rfl)
            have hnx : ∀ ty, (Instr.next (.pointer (some ⟨w.heap.size, 0, none⟩)) true ty).run Tryz.prog wr = _ := fun ty => Lib.run_next_end_at wr w.heap.size s pos ty hit hp
            clear HB HF
            go_wp2
            go_ret
            rw [HE.out]
            exact ⟨rfl, hbw⟩
end Go.Proofs.YtcpglgoiienhkaaGreatDoor
namespace Go.Proofs.YtcpglgoiienhkaaGreatDoor
open Go.RowKit P Ext Go.Proofs.YtcpglgoiienhkaaGreatDoorW.PrintWords Go.Proofs.YtcpglgoiienhkaaGreatDoorW.PrintMore
attribute [local go_sem] min2_int min_two
theorem trimGo_step (s : ByteArray) (j f t : Nat) (h : j < s.size) : trimGo s j f t = if spB (Utf8.decode s j).1 then trimGo s (j + (Utf8.decode s j).2) f t else trimGo s (j + (Utf8.decode s j).2) (min f j) (j + (Utf8.decode s j).2) := by rw [trimGo, dif_pos h]
theorem runeLen_bd (r : Int) : -1 ≤ Lib.runeLen r ∧ Lib.runeLen r ≤ 4 := by
  unfold Lib.runeLen
  repeat' split
  all_goals omega
theorem int_eq {a b : Int} (h : a = b) : Value.int .i64 a = .int .i64 b := by rw [h]
set_option maxHeartbeats 4000000 in
theorem Trim_any (s : ByteArray) (hs : s.size ≤ 65536) (w : World) (hG : GlH w) :
    Calls Tryz.prog 112 #[.string s] w fun e w' => e = .returned (.string (trimP s)) ∧ Below w.heap.size w w' := by
  have HI : Hid (trimP s = if (trimGo s 0 s.size 0).2 = 0 then ⟨#[]⟩ else s.extract (trimGo s 0 s.size 0).1 (trimGo s 0 s.size 0).2) := Lib.hid rfl
  go_enter Tryz.func112, Tryz.ntmps112
  go_wp2
  go_loopw [3, 4] (fun v3 v4 wr => ∃ pos f t : Nat, v3 = .int .i64 (f : Int) ∧ v4 = .int .i64 (t : Int) ∧ pos ≤ s.size ∧ f ≤ s.size ∧ t ≤ pos ∧ (t = 0 ∨ f < t) ∧ wr.heap[w.heap.size]? = some (.stringIter s pos) ∧ Below w.heap.size w wr ∧ Hid (trimGo s 0 s.size 0 = trimGo s pos f t)) (fun _ _ wr => s.size - wr.iterPos w.heap.size)
  case atStart =>
    refine ⟨0, s.size, 0, rfl, rfl, by omega, by omega, by omega, .inl rfl, ?_, (Below.refl _ w).alloc (Nat.le_refl _) _, Lib.hid rfl⟩
    have := World.iter_heap w s 0
    simpa using this
  case round =>
    obtain ⟨pos, f, t, rfl, rfl, hps, hf, ht, htf, hit, hbw, HB⟩ := hrel
    have hsz : w.heap.size < wr.heap.size := (Array.getElem?_eq_some_iff.1 hit).1
    by_cases hp : pos < s.size
    · have hnx : ∀ ty, (Instr.next (.pointer (some ⟨w.heap.size, 0, none⟩)) true ty).run Tryz.prog wr = _ := fun ty => Lib.run_next_any_at wr w.heap.size s pos ty hit hp
      have hwd := width_pos s pos hp
      have hwd4 := width_le s pos hp
      have hit2 := Lib.iterAt_heap wr w.heap.size s pos (pos + (Utf8.decode s pos).2) hit
      have hbw2 := Lib.below_iterAt hbw (k := w.heap.size) (Nat.le_refl _) s (pos + (Utf8.decode s pos).2)
      have HS := Lib.hid (stray_any s pos hp hs _ (hG.bel hbw2))
      have HDL := Lib.hid (decode_len s pos hp)
      have HPS : Hid (wr.iterPos w.heap.size = pos) := Lib.hid (by simp [World.iterPos, hit])
      have HS2 := Lib.hid (trimGo_step s pos f t hp)
      generalize (Utf8.decode s pos).2 = wd at *
      generalize (Utf8.decode s pos).1 = rn at *
      generalize wr.iterAt w.heap.size s (pos + wd) = wi at *
      have hrl := runeLen_bd (rn : Int)
      cases hsp : spB (rn : Int) with
      | true =>
        have HE : Hid (trimGo s 0 s.size 0 = trimGo s (pos + wd) f t) := Lib.hid (by rw [HB.out, HS2.out, hsp]; rfl)
        clear HS2 HB
        go_wp2_with (go_at_call 109; refine (Space_any _ _).mono ?_; rintro e w' ⟨rfl, rfl⟩)
        go_roundw
        case rel => exact ⟨pos + wd, f, t, rfl, rfl, hwd4, hf, by omega, htf, hit2, hbw2, HE⟩
        case measure =>
          rw [HPS.out]
          simp only [World.iterPos, hit2]
          omega
      | false =>
        have HE : Hid (trimGo s 0 s.size 0 = trimGo s (pos + wd) (min f pos) (pos + wd)) := Lib.hid (by rw [HB.out, HS2.out, hsp]; rfl)
        clear HS2 HB
        cases hst : ((rn : Int) == 65533 && (wd : Int) == 1) with
        | true =>
          rw [hst] at HS
          have hw1 : wd = 1 := by simp at hst; omega
          clear hst HDL
          go_wp2_with (first | (go_at_call 109; refine (Space_any _ _).mono ?_; rintro e w' ⟨rfl, rfl⟩) | (go_at_call 148; refine (Tryz.utf8_RuneLen _ _).mono ?_; rintro e w' ⟨rfl, rfl⟩) | (go_at_call 111; refine HS.out.mono ?_; rintro e w3 ⟨rfl, hb3⟩))
          have hit3 := (hb3.block w.heap.size (Array.getElem?_eq_some_iff.1 hit2).1).trans hit2
          go_roundw
          case rel => exact ⟨pos + wd, min f pos, pos + wd, int_eq (by split <;> omega), int_eq (by omega), hwd4, by omega, by omega, .inr (by omega), hit3, hbw2.trans (hb3.mono hbw2.size), HE⟩
          case measure =>
            rw [HPS.out]
            simp only [World.iterPos, hit3]
            omega
        | false =>
          rw [hst] at HS
          have hdl := HDL.out (by simpa using hst)
          clear hst HDL
          have HD := Lib.hid hdl
          clear hdl
          go_wp2_with (first | (go_at_call 109; refine (Space_any _ _).mono ?_; rintro e w' ⟨rfl, rfl⟩) | (go_at_call 148; refine (Tryz.utf8_RuneLen _ _).mono ?_; rintro e w' ⟨rfl, rfl⟩) | (go_at_call 111; refine HS.out.mono ?_; rintro e w3 ⟨rfl, hb3⟩))
          have hit3 := (hb3.block w.heap.size (Array.getElem?_eq_some_iff.1 hit2).1).trans hit2
          have hdl := HD.out
          go_roundw
          case rel => exact ⟨pos + wd, min f pos, pos + wd, int_eq (by split <;> omega), int_eq (by omega), hwd4, by omega, by omega, .inr (by omega), hit3, hbw2.trans (hb3.mono hbw2.size), HE⟩
          case measure =>
            rw [HPS.out]
            simp only [World.iterPos, hit3]
            omega
    · have HE : Hid (trimGo s 0 s.size 0 = (f, t)) := Lib.hid (by rw [HB.out, trimGo, dif_neg hp])
      have hnx : ∀ ty, (Instr.next (.pointer (some ⟨w.heap.size, 0, none⟩)) true ty).run Tryz.prog wr = _ := fun ty => Lib.run_next_end_at wr w.heap.size s pos ty hit hp
      by_cases ht0 : t = 0
      · have HF : Hid (trimP s = ⟨#[]⟩) := Lib.hid (by rw [HI.out, HE.out, if_pos ht0])
        have e1 : ((t : Int) == 0) = true := by simp [ht0]
        clear HB HE ht0
        go_wp2
        go_ret
        rw [HF.out]
        exact ⟨rfl, hbw⟩
      · have HF : Hid (trimP s = s.extract f t) := Lib.hid (by rw [HI.out, HE.out, if_neg ht0])
        have e1 : ((t : Int) == 0) = false := by simp [ht0]
        have b1 : (f : Int) ≤ t := by omega
        have b2 : (t : Int) ≤ s.size := by omega
        clear HB HE ht0 htf
        go_wp2
        go_ret
        rw [HF.out]
        exact ⟨rfl, hbw⟩
end Go.Proofs.YtcpglgoiienhkaaGreatDoor
namespace Go.Proofs.YtcpglgoiienhkaaGreatDoor
open Go.RowKit P Ext
theorem blanks_bd (s : ByteArray) (i : Nat) (h : i ≤ s.size) : i ≤ blanks s i ∧ blanks s i ≤ s.size := by
  induction i using blanks.induct s with
  | case1 i h1 h2 ih =>
    have := width_le s i h1
    rw [blanks, dif_pos h1, if_pos h2]
    have := ih (by omega)
    omega
  | case2 i h1 h2 => rw [blanks, dif_pos h1, if_neg h2]; omega
  | case3 i h1 => rw [blanks, dif_neg h1]; omega
theorem wordEnd_bd (s : ByteArray) (i : Nat) (h : i ≤ s.size) : i ≤ wordEnd s i ∧ wordEnd s i ≤ s.size := by
  induction i using wordEnd.induct s with
  | case1 i h1 h2 => rw [wordEnd, dif_pos h1, if_pos h2]; omega
  | case2 i h1 h2 ih =>
    have := width_le s i h1
    rw [wordEnd, dif_pos h1, if_neg h2]
    have := ih (by omega)
    omega
  | case3 i h1 => rw [wordEnd, dif_neg h1]; omega
theorem numEnd_bd (s : ByteArray) (i : Nat) (h : i ≤ s.size) : i ≤ numEnd s i ∧ numEnd s i ≤ s.size := by
  induction i using numEnd.induct s with
  | case1 i h1 h2 ih =>
    rw [numEnd, dif_pos h1, if_pos h2]
    have := ih (by omega)
    omega
  | case2 i h1 h2 => rw [numEnd, dif_pos h1, if_neg h2]; omega
  | case3 i h1 => rw [numEnd, dif_neg h1]; omega
theorem letEnd_bd (s : ByteArray) (i : Nat) (h : i ≤ s.size) : i ≤ letEnd s i ∧ letEnd s i ≤ s.size := by
  induction i using letEnd.induct s with
  | case1 i h1 h2 ih =>
    rw [letEnd, dif_pos h1, if_pos h2]
    have := ih (by omega)
    omega
  | case2 i h1 h2 => rw [letEnd, dif_pos h1, if_neg h2]; omega
  | case3 i h1 => rw [letEnd, dif_neg h1]; omega
theorem textE_bd (s : ByteArray) (m sort : Int) (outer : Bool) (i : Nat) (h : i ≤ s.size) : i ≤ (textE s m sort outer i).2.1 ∧ (textE s m sort outer i).2.1 ≤ s.size := by
  induction i using textE.induct s m sort outer with
  | case1 i h1 h2 ih =>
    have := aposE_gt s m sort i
    have := (aposE_le s m sort i h1).1
    rw [textE, dif_pos h1, if_pos h2]
    have := ih (by omega)
    simp only; omega
  | case2 i h1 h2 h3 => rw [textE, dif_pos h1, if_neg h2, if_pos h3]; simp only; omega
  | case3 i h1 h2 h3 ih =>
    rw [textE, dif_pos h1, if_neg h2, if_neg h3]
    have := ih (by omega)
    simp only; omega
  | case4 i h1 => rw [textE, dif_neg h1]; simp only; omega
section
variable {n0 X : Nat} {s : ByteArray} {m : Int} {al : List Nat} {l : Nat} {J : List Tk → World → Prop} {ts : List Tk} {A W : World} {i : Nat}
def R.good : R → Bool
  | .ok .. => true
  | .er .. => false
def StR (n0 X : Nat) (s : ByteArray) (m : Int) (l : Nat) (J : List Tk → World → Prop) (A : World) (ts : List Tk) (al : List Nat) : R → World → Prop
  | .ok i2 ts2 al2, W' => LJ n0 X s m i2 0 0 (al ++ al2) l J (ts ++ ts2) A W' ∧ i2 ≤ s.size
  | .er e a, W' => ∃ i2 ts2 al2, LJ n0 X s m i2 e a al2 l J ts2 A W'
def PostR (n0 X : Nat) (s : ByteArray) (m : Int) (l : Nat) (J : List Tk → World → Prop) (A : World) (ts : List Tk) (al : List Nat) (r : R) (e' : Ending) (W' : World) : Prop :=
  e' = .returned (.bool r.good) ∧ StR n0 X s m l J A ts al r W'
theorem LJ.drewN (hY : Yld n0 X l J) {e at_ : Int} (h : LJ n0 X s m i e at_ al l J ts A W) (k : Nat) : LJ n0 X s m i e at_ al l J ts A (W.drewN k) := LJ.of hY h (h.lk.drewN k)
theorem LJ.setv (hY : Yld n0 X l J) {e at_ : Int} (h : LJ n0 X s m i e at_ al l J ts A W) (hn : 8 ≤ n0) {v : Int} (i' : Nat) (hv : v = i') (hi : i ≤ i') : LJ n0 X s m i' e at_ al l J ts A (W.setCell ⟨X, 2, none⟩ (.int .i64 v)) := LJ.of hY h (h.lk.setv hn i' hv hi)
theorem blanks_lj (hn : 8 ≤ n0) (hY : Yld n0 X l J) {e at_ : Int} (h : LJ n0 X s m i e at_ al l J ts A W) (hi : i ≤ s.size) :
    Calls Tryz.prog 140 #[.pointer (some ⟨X, 0, none⟩)] W fun e' W' => e' = .returned (.tuple #[]) ∧ LJ n0 X s m (blanks s i) e at_ al l J ts A W' :=
  (blanks_any hn h.lk hi).mono fun _ _ ⟨he, hk⟩ => ⟨he, LJ.of hY h hk⟩
theorem word_lj (hn : 8 ≤ n0) (hY : Yld n0 X l J) {e at_ : Int} (h : LJ n0 X s m i e at_ al l J ts A W) (hi : i ≤ s.size) :
    Calls Tryz.prog 141 #[.pointer (some ⟨X, 0, none⟩)] W fun e' W' => e' = .returned (.string (wordAt s i)) ∧ LJ n0 X s m (wordEnd s i) e at_ al l J ts A W' :=
  (word_any hn h.lk hi).mono fun _ _ ⟨he, hk⟩ => ⟨he, LJ.of hY h hk⟩
theorem number_lj (hn : 8 ≤ n0) (hY : Yld n0 X l J) {e at_ : Int} (h : LJ n0 X s m i e at_ al l J ts A W) (hi : i ≤ s.size) :
    Calls Tryz.prog 175 #[.pointer (some ⟨X, 0, none⟩)] W fun e' W' => e' = .returned (.tuple #[.string (numAt s i), .bool (numOk s i)]) ∧ LJ n0 X s m (numEnd s i) e at_ al l J ts A W' :=
  (number_any hn h.lx.le h.lk hi).mono fun _ _ ⟨he, hk⟩ => ⟨he, LJ.of hY h hk⟩
theorem here_lj (hY : Yld n0 X l J) {e at_ : Int} (t : ByteArray) (h : LJ n0 X s m i e at_ al l J ts A W) (hi : i ≤ s.size) :
    Calls Tryz.prog 142 #[.pointer (some ⟨X, 0, none⟩), .string t] W fun e' W' => e' = .returned (.bool (hereB s i t.data.toList)) ∧ LJ n0 X s m i e at_ al l J ts A W' :=
  (here_any t h.lx hi).mono fun _ _ ⟨he, n, hw⟩ => ⟨he, by subst hw; exact LJ.drewN hY h n⟩
theorem here1_lj (hY : Yld n0 X l J) {e at_ : Int} (c : UInt8) (h : LJ n0 X s m i e at_ al l J ts A W) (hi : i ≤ s.size) :
    Calls Tryz.prog 142 #[.pointer (some ⟨X, 0, none⟩), .string ⟨#[c]⟩] W fun e' W' => e' = .returned (.bool (at1 s i c.toNat)) ∧ LJ n0 X s m i e at_ al l J ts A W' :=
  (here_lj hY ⟨#[c]⟩ h hi).mono fun _ _ ⟨he, hw⟩ => ⟨by rw [he]; exact congrArg (fun b => Ending.returned (.bool b)) (hereB_one s i c), hw⟩
theorem failR_good (s : ByteArray) (pl : Nat) (op : Int) : (failR s pl op).good = false := by unfold failR; split <;> rfl
theorem fails_lj (hn : 8 ≤ n0) (hY : Yld n0 X l J) (pl : Nat) (op : Int) (h : LJ n0 X s m i 0 0 al l J ts A W) (p : Int) (hp : p = pl) :
    Calls Tryz.prog 104 #[.pointer (some ⟨X, 0, none⟩), .int .i64 p, .int .i64 op] W fun e' W' => e' = .returned (.bool false) ∧ StR n0 X s m l J A ts al (failR s pl op) W' := by
  subst hp
  refine (fails_any (pl : Int) op hn h.lk).mono ?_
  rintro e' W' ⟨rfl, hk⟩
  have h' := LJ.of hY h hk
  unfold failR
  by_cases hs : s.size ≤ pl
  · rw [if_pos hs]
    rw [if_pos (by omega), if_pos (by omega)] at h'
    exact ⟨rfl, _, _, _, h'⟩
  · rw [if_neg hs]
    rw [if_neg (by omega), if_neg (by omega)] at h'
    exact ⟨rfl, _, _, _, h'⟩
set_option maxHeartbeats 1000000 in
theorem must_any (c : UInt8) (kind op : Int) (hn : 8 ≤ n0) (hY : Yld n0 X l J) (h : LJ n0 X s m i 0 0 al l J ts A W) (hi : i ≤ s.size) (hl : ts.length ≤ i) :
    Calls Tryz.prog 143 #[.pointer (some ⟨X, 0, none⟩), .string ⟨#[c]⟩, .int .i64 kind, .int .i64 op] W (PostR n0 X s m l J A ts al (mustR s c.toNat kind op i)) := by
  have hz : s.size ≤ 65536 := h.lx.sz
  have hbd := blanks_bd s i hi
  have HR : Hid (mustR s c.toNat kind op i = if at1 s (blanks s i) c.toNat then .ok (blanks s i + 1) [(kind, ⟨#[]⟩, (blanks s i : Int))] [] else failR s (blanks s i) op) := Lib.hid rfl
  have hat : at1 s (blanks s i) c.toNat = true → blanks s i < s.size := by unfold at1; simp; omega
  go_enter Tryz.func143, Tryz.ntmps143
  go_wp2_with fail
  refine (blanks_lj hn hY h hi).mono ?_
  rintro e' W1 ⟨rfl, h1⟩
  generalize blanks s i = j at *
  go_wp2_with fail
  refine (here1_lj hY c h1 hbd.2).mono ?_
  rintro e' W2 ⟨rfl, h2⟩
  obtain ⟨c0, c1, c2, c3, c4, c6, f⟩ := h2.lk.cells
  have f2 := f 2
  clear c0 c1 c3 c4 c6 f
  cases hb : at1 s j c.toNat with
  | true =>
    have hj := hat hb
    have HF : Hid (mustR s c.toNat kind op i = .ok (j + 1) [(kind, ⟨#[]⟩, (j : Int))] []) := Lib.hid (by rw [HR.out, if_pos hb])
    clear hat HR hb
    have h3 := h2.setv hY hn (v := (j : Int) + 1) (j + 1) (by omega) (by omega)
    obtain ⟨d0, d1, d2, d3, d4, d6, g⟩ := h3.lk.cells
    go_wp2_with fail
    refine (put_any hn hY _ _ _ h3 (by omega)).mono ?_
    rintro e' W3 ⟨rfl, h4⟩
    go_wp2_with fail
    go_ret
    refine ⟨by rw [HF.out]; rfl, ?_⟩
    rw [HF.out]
    exact ⟨by simpa using h4, by omega⟩
  | false =>
    have HF : Hid (mustR s c.toNat kind op i = failR s j op) := Lib.hid (by rw [HR.out, if_neg (by rw [hb]; decide)])
    clear hat HR hb
    go_wp2_with fail
    refine (fails_lj hn hY j op h2 (j : Int) rfl).mono ?_
    rintro e' W3 ⟨rfl, hp⟩
    go_wp2_with fail
    go_ret
    refine ⟨by rw [HF.out, failR_good]; rfl, ?_⟩
    rw [HF.out]
    exact hp
end
end Go.Proofs.YtcpglgoiienhkaaGreatDoor
namespace Go.Proofs.YtcpglgoiienhkaaGreatDoor
open Go.RowKit P Ext
theorem hereB_len (s : ByteArray) (i : Nat) (t : List UInt8) (h : hereB s i t = true) (h0 : t ≠ []) : i + t.length ≤ s.size := by
  unfold hereB Lib.hasPrefix at h
  have := List.IsPrefix.length_le (List.isPrefixOf_iff_prefix.1 h)
  simp at this
  have : 0 < t.length := List.length_pos_iff.2 h0
  omega
theorem at1_lt (s : ByteArray) (i c : Nat) (h : at1 s i c = true) : i < s.size := by unfold at1 at h; simp at h; exact h.1
section
variable {n0 X : Nat} {s : ByteArray} {m : Int} {al : List Nat} {l : Nat} {J : List Tk → World → Prop} {ts : List Tk} {A W : World} {i : Nat}
theorem LJ.facts {e at_ : Int} (h : LJ n0 X s m i e at_ al l J ts A W) : W.cell? ⟨X, 0, none⟩ = some (.string s) ∧ W.cell? ⟨X, 2, none⟩ = some (.int .i64 (i : Int)) ∧ W.frozen? ⟨X, 2, none⟩ = false := by
  obtain ⟨c0, c1, c2, c3, c4, c6, f⟩ := h.lk.cells
  exact ⟨c0, c2, f 2⟩
set_option maxHeartbeats 1000000 in
theorem offset_any (op : Int) (hn : 8 ≤ n0) (hY : Yld n0 X l J) (h : LJ n0 X s m i 0 0 al l J ts A W) (hi : i ≤ s.size) (hl : ts.length ≤ i) :
    Calls Tryz.prog 162 #[.pointer (some ⟨X, 0, none⟩), .int .i64 op] W (PostR n0 X s m l J A ts al (offsetR s op i)) := by
  have hz : s.size ≤ 65536 := h.lx.sz
  have hbd := blanks_bd s i hi
  have HR : Hid (offsetR s op i = _) := Lib.hid (by rw [offsetR])
  go_enter Tryz.func162, Tryz.ntmps162
  go_wp2_with fail
  refine (blanks_lj hn hY h hi).mono ?_
  rintro e' W1 ⟨rfl, h1⟩
  generalize blanks s i = j at *
  obtain ⟨c0, c2, f2⟩ := h1.facts
  go_wp2_with fail
  refine (here_lj hY _ h1 hbd.2).mono ?_
  rintro e' W2 ⟨rfl, h2⟩
  have hho : hereB s j (⟨#[111, 102, 102, 115, 101, 116, 58]⟩ : ByteArray).data.toList = hereB s j wOffset := rfl
  rw [hho]
  obtain ⟨c0', c2', f2'⟩ := h2.facts
  cases hb : hereB s j wOffset with
  | false =>
    have HF : Hid (offsetR s op i = .ok j [] []) := Lib.hid (by rw [HR.out, hb]; rfl)
    clear HR hb hho
    go_wp2_with fail
    go_ret
    refine ⟨by rw [HF.out]; rfl, ?_⟩
    rw [HF.out]
    exact ⟨by simpa using h2, hbd.2⟩
  | true =>
    have hj7 : j + 7 ≤ s.size := hereB_len s j wOffset hb (by decide)
    have HR2 : Hid (offsetR s op i = if numOk s (blanks s (j + 7)) then .ok (numEnd s (blanks s (j + 7))) [(9, numAt s (blanks s (j + 7)), (j : Int))] [] else failR s (blanks s (j + 7)) op) := Lib.hid (by rw [HR.out, hb]; rfl)
    clear HR hb hho
    have h3 := h2.setv hY hn (v := (j : Int) + 7) (j + 7) (by omega) (by omega)
    have hbd2 := blanks_bd s (j + 7) hj7
    go_wp2_with fail
    refine (blanks_lj hn hY h3 hj7).mono ?_
    rintro e' W3 ⟨rfl, h4⟩
    generalize blanks s (j + 7) = j2 at *
    obtain ⟨d0, d2, g2⟩ := h4.facts
    go_wp2_with fail
    refine (number_lj hn hY h4 hbd2.2).mono ?_
    rintro e' W4 ⟨rfl, h5⟩
    have hnb := numEnd_bd s j2 hbd2.2
    cases hk : numOk s j2 with
    | true =>
      have HF : Hid (offsetR s op i = .ok (numEnd s j2) [(9, numAt s j2, (j : Int))] []) := Lib.hid (by rw [HR2.out, hk]; rfl)
      clear HR2 hk
      go_wp2_with fail
      refine (put_any hn hY _ _ _ h5 (by omega)).mono ?_
      rintro e' W5 ⟨rfl, h6⟩
      go_wp2_with fail
      go_ret
      refine ⟨by rw [HF.out]; rfl, ?_⟩
      rw [HF.out]
      exact ⟨by simpa using h6, hnb.2⟩
    | false =>
      have HF : Hid (offsetR s op i = failR s j2 op) := Lib.hid (by rw [HR2.out, hk]; rfl)
      clear HR2 hk
      go_wp2_with fail
      refine (fails_lj hn hY j2 op h5 (j2 : Int) rfl).mono ?_
      rintro e' W5 ⟨rfl, hp⟩
      go_wp2_with fail
      go_ret
      refine ⟨by rw [HF.out, failR_good]; rfl, ?_⟩
      rw [HF.out]
      exact hp
theorem bytes_empty (t : ByteArray) : t.toList.isEmpty = decide (t.size = 0) := by
  rw [ByteArray.toList_eq]
  cases h : t.data.toList with
  | nil => have : t.size = 0 := by simpa using congrArg List.length h
           simp [this]
  | cons a b => have : t.size = b.length + 1 := by simpa using congrArg List.length h
                simp [this]
set_option maxHeartbeats 2000000 in
theorem key_any (numbers : Bool) (op : Int) (hn : 8 ≤ n0) (hY : Yld n0 X l J) (h : LJ n0 X s m i 0 0 al l J ts A W) (hi : i ≤ s.size) (hl : ts.length ≤ i) :
    Calls Tryz.prog 176 #[.pointer (some ⟨X, 0, none⟩), .bool numbers, .int .i64 op] W (PostR n0 X s m l J A ts al (keyR s numbers op i)) := by
  have hz : s.size ≤ 65536 := h.lx.sz
  obtain ⟨c0, c2, f2⟩ := h.facts
  cases hq : numbers && at1 s i 61 with
  | true =>
    have hnum : numbers = true := by cases numbers <;> simp_all
    have hat : at1 s i 61 = true := by cases numbers <;> simp_all
    have hlt := at1_lt s i 61 hat
    have HR : Hid (keyR s numbers op i = if numOk s (i + 1) then .ok (numEnd s (i + 1)) [(10, ⟨#[61]⟩ ++ numAt s (i + 1), (i : Int))] [] else failR s (if numEnd s (i + 1) = s.size ∧ (numAt s (i + 1)).size = 0 then numEnd s (i + 1) else i) op) := Lib.hid (by rw [keyR, hq]; rfl)
    subst hnum
    clear hq
    have hnb := numEnd_bd s (i + 1) (by omega)
    go_enter Tryz.func176, Tryz.ntmps176
    go_wp2_with fail
    refine (here1_lj hY 61 h hi).mono ?_
    rintro e' W1 ⟨rfl, h1⟩
    have hat' : at1 s i (61 : UInt8).toNat = true := hat
    rw [hat']
    clear hat hat'
    obtain ⟨d0, d2, g2⟩ := h1.facts
    have h2 := h1.setv hY hn (v := (i : Int) + 1) (i + 1) (by omega) (by omega)
    go_wp2_with fail
    refine (number_lj hn hY h2 (by omega)).mono ?_
    rintro e' W2 ⟨rfl, h3⟩
    obtain ⟨c0', c2', f2'⟩ := h3.facts
    cases hk : numOk s (i + 1) with
    | true =>
      have HF : Hid (keyR s true op i = .ok (numEnd s (i + 1)) [(10, ⟨#[61]⟩ ++ numAt s (i + 1), (i : Int))] []) := Lib.hid (by rw [HR.out, hk]; rfl)
      clear HR hk
      have hsz : 1 + (numAt s (i + 1)).size ≤ 9223372036854775807 := by simp [numAt, ByteArray.size_extract]; omega
      go_wp2_with fail
      refine (put_any hn hY _ _ _ h3 (by omega)).mono ?_
      rintro e' W3 ⟨rfl, h4⟩
      go_wp2_with fail
      go_ret
      refine ⟨by rw [HF.out]; rfl, ?_⟩
      rw [HF.out]
      exact ⟨by simpa using h4, hnb.2⟩
    | false =>
      have HR3 : Hid (keyR s true op i = failR s (if numEnd s (i + 1) = s.size ∧ (numAt s (i + 1)).size = 0 then numEnd s (i + 1) else i) op) := Lib.hid (by rw [HR.out, hk]; rfl)
      clear HR hk
      have he0 := bytes_empty (numAt s (i + 1))
      generalize numAt s (i + 1) = nw at *
      generalize numEnd s (i + 1) = j at *
      have hnb2 : (j : Int) ≤ s.size := by omega
      by_cases hc : j = s.size ∧ nw.size = 0
      · have HF : Hid (keyR s true op i = failR s j op) := Lib.hid (by rw [HR3.out, if_pos hc])
        obtain ⟨hc1, hc2⟩ := hc
        have e1 : ((j : Int) == (s.size : Int)) = true := by simp; omega
        have e2 : nw.toList.isEmpty = true := by rw [he0]; simpa using hc2
        have e3 : nw.toList = [] := by simpa using e2
        clear he0 HR3 hc2
        have HC1 := Lib.hid hc1
        clear hc1
        go_wp2_with fail
        go_quiet (fail)
        have h4 := h3.drewN hY nq
        generalize W2.drewN nq = wq at *
        obtain ⟨p0, p2, pf⟩ := h4.facts
        go_wp2_with fail
        refine (fails_lj hn hY j op h4 (j : Int) rfl).mono ?_
        rintro e' W5 ⟨rfl, hp⟩
        go_wp2_with fail
        go_ret
        refine ⟨by rw [HF.out, failR_good]; rfl, ?_⟩
        rw [HF.out]
        exact hp
      · have HF : Hid (keyR s true op i = failR s i op) := Lib.hid (by rw [HR3.out, if_neg hc])
        by_cases hc1 : j = s.size
        · have hc2 : ¬ nw.size = 0 := fun h0 => hc ⟨hc1, h0⟩
          have e1 : ((j : Int) == (s.size : Int)) = true := by simp; omega
          have e2 : nw.toList.isEmpty = false := by rw [he0]; simpa using hc2
          clear he0 HR3 hc2 hc
          have HC1 := Lib.hid hc1
          clear hc1
          go_wp2_with fail
          go_quiet (fail)
          have h4 := h3.drewN hY nq
          generalize W2.drewN nq = wq at *
          go_wp2_with fail
          refine (fails_lj hn hY i op h4 (i : Int) rfl).mono ?_
          rintro e' W5 ⟨rfl, hp⟩
          go_wp2_with fail
          go_ret
          refine ⟨by rw [HF.out, failR_good]; rfl, ?_⟩
          rw [HF.out]
          exact hp
        · have e1 : ((j : Int) == (s.size : Int)) = false := by simp; omega
          clear he0 HR3 hc
          have HC1 := Lib.hid hc1
          clear hc1
          go_wp2_with fail
          go_quiet (fail)
          have h4 := h3.drewN hY nq
          generalize W2.drewN nq = wq at *
          go_wp2_with fail
          refine (fails_lj hn hY i op h4 (i : Int) rfl).mono ?_
          rintro e' W5 ⟨rfl, hp⟩
          go_wp2_with fail
          go_ret
          refine ⟨by rw [HF.out, failR_good]; rfl, ?_⟩
          rw [HF.out]
          exact hp
  | false =>
    have hwb := wordEnd_bd s i hi
    have HR : Hid (keyR s numbers op i = if (wordAt s i).size = 0 ∨ 64 < (wordAt s i).size then failR s i op else .ok (wordEnd s i) [(10, wordAt s i, (i : Int))] []) := Lib.hid (by rw [keyR, hq]; rfl)
    have he0 := bytes_empty (wordAt s i)
    have hin : numbers = false ∨ at1 s i 61 = false := by cases numbers <;> simp_all
    clear hq
    go_enter Tryz.func176, Tryz.ntmps176
    rcases hin with rfl | hat
    · go_wp2_with fail
      have hs1 := h
      refine (word_lj hn hY hs1 hi).mono ?_
      rintro e' W2 ⟨rfl, h3⟩
      obtain ⟨c0', c2', f2'⟩ := h3.facts
      generalize wordAt s i = nw at *
      generalize wordEnd s i = j at *
      by_cases hc : nw.size = 0
      · have HF : Hid (keyR s false op i = failR s i op) := Lib.hid (by rw [HR.out, if_pos (.inl hc)])
        have e2 : nw.toList.isEmpty = true := by rw [he0]; simpa using hc
        have e3 : nw.toList = [] := by simpa using e2
        clear he0 HR hc
        go_wp2_with fail
        refine (fails_lj hn hY i op h3 (i : Int) rfl).mono ?_
        rintro e' W5 ⟨rfl, hp⟩
        go_wp2_with fail
        go_ret
        refine ⟨by rw [HF.out, failR_good]; rfl, ?_⟩
        rw [HF.out]
        exact hp
      · have e2 : nw.toList.isEmpty = false := by rw [he0]; simpa using hc
        by_cases hc2 : 64 < nw.size
        · have HF : Hid (keyR s false op i = failR s i op) := Lib.hid (by rw [HR.out, if_pos (.inr hc2)])
          have e3 : decide ((64 : Int) < nw.size) = true := by simp; omega
          clear he0 HR hc
          go_wp2_with fail
          refine (fails_lj hn hY i op h3 (i : Int) rfl).mono ?_
          rintro e' W5 ⟨rfl, hp⟩
          go_wp2_with fail
          go_ret
          refine ⟨by rw [HF.out, failR_good]; rfl, ?_⟩
          rw [HF.out]
          exact hp
        · have HF : Hid (keyR s false op i = .ok j [(10, nw, (i : Int))] []) := Lib.hid (by rw [HR.out, if_neg (by omega)])
          have e3 : decide ((64 : Int) < nw.size) = false := by simp; omega
          clear he0 HR hc
          go_wp2_with fail
          refine (put_any hn hY _ _ _ h3 (by omega)).mono ?_
          rintro e' W3 ⟨rfl, h4⟩
          go_wp2_with fail
          go_ret
          refine ⟨by rw [HF.out]; rfl, ?_⟩
          rw [HF.out]
          exact ⟨by simpa using h4, hwb.2⟩
    · cases hnum : numbers with
      | true =>
        subst hnum
        go_wp2_with fail
        refine (here1_lj hY 61 h hi).mono ?_
        rintro e' W1 ⟨rfl, hs1⟩
        have hat' : at1 s i (61 : UInt8).toNat = false := hat
        rw [hat']
        clear hat hat'
        obtain ⟨d0, d2, g2⟩ := hs1.facts
        go_wp2_with fail
        refine (word_lj hn hY hs1 hi).mono ?_
        rintro e' W2 ⟨rfl, h3⟩
        obtain ⟨c0', c2', f2'⟩ := h3.facts
        generalize wordAt s i = nw at *
        generalize wordEnd s i = j at *
        by_cases hc : nw.size = 0
        · have HF : Hid (keyR s true op i = failR s i op) := Lib.hid (by rw [HR.out, if_pos (.inl hc)])
          have e2 : nw.toList.isEmpty = true := by rw [he0]; simpa using hc
          have e3 : nw.toList = [] := by simpa using e2
          clear he0 HR hc
          go_wp2_with fail
          refine (fails_lj hn hY i op h3 (i : Int) rfl).mono ?_
          rintro e' W5 ⟨rfl, hp⟩
          go_wp2_with fail
          go_ret
          refine ⟨by rw [HF.out, failR_good]; rfl, ?_⟩
          rw [HF.out]
          exact hp
        · have e2 : nw.toList.isEmpty = false := by rw [he0]; simpa using hc
          by_cases hc2 : 64 < nw.size
          · have HF : Hid (keyR s true op i = failR s i op) := Lib.hid (by rw [HR.out, if_pos (.inr hc2)])
            have e3 : decide ((64 : Int) < nw.size) = true := by simp; omega
            clear he0 HR hc
            go_wp2_with fail
            refine (fails_lj hn hY i op h3 (i : Int) rfl).mono ?_
            rintro e' W5 ⟨rfl, hp⟩
            go_wp2_with fail
            go_ret
            refine ⟨by rw [HF.out, failR_good]; rfl, ?_⟩
            rw [HF.out]
            exact hp
          · have HF : Hid (keyR s true op i = .ok j [(10, nw, (i : Int))] []) := Lib.hid (by rw [HR.out, if_neg (by omega)])
            have e3 : decide ((64 : Int) < nw.size) = false := by simp; omega
            clear he0 HR hc
            go_wp2_with fail
            refine (put_any hn hY _ _ _ h3 (by omega)).mono ?_
            rintro e' W3 ⟨rfl, h4⟩
            go_wp2_with fail
            go_ret
            refine ⟨by rw [HF.out]; rfl, ?_⟩
            rw [HF.out]
            exact ⟨by simpa using h4, hwb.2⟩
      | false =>
        subst hnum
        clear hat
        go_wp2_with fail
        have hs1 := h
        refine (word_lj hn hY hs1 hi).mono ?_
        rintro e' W2 ⟨rfl, h3⟩
        obtain ⟨c0', c2', f2'⟩ := h3.facts
        generalize wordAt s i = nw at *
        generalize wordEnd s i = j at *
        by_cases hc : nw.size = 0
        · have HF : Hid (keyR s false op i = failR s i op) := Lib.hid (by rw [HR.out, if_pos (.inl hc)])
          have e2 : nw.toList.isEmpty = true := by rw [he0]; simpa using hc
          have e3 : nw.toList = [] := by simpa using e2
          clear he0 HR hc
          go_wp2_with fail
          refine (fails_lj hn hY i op h3 (i : Int) rfl).mono ?_
          rintro e' W5 ⟨rfl, hp⟩
          go_wp2_with fail
          go_ret
          refine ⟨by rw [HF.out, failR_good]; rfl, ?_⟩
          rw [HF.out]
          exact hp
        · have e2 : nw.toList.isEmpty = false := by rw [he0]; simpa using hc
          by_cases hc2 : 64 < nw.size
          · have HF : Hid (keyR s false op i = failR s i op) := Lib.hid (by rw [HR.out, if_pos (.inr hc2)])
            have e3 : decide ((64 : Int) < nw.size) = true := by simp; omega
            clear he0 HR hc
            go_wp2_with fail
            refine (fails_lj hn hY i op h3 (i : Int) rfl).mono ?_
            rintro e' W5 ⟨rfl, hp⟩
            go_wp2_with fail
            go_ret
            refine ⟨by rw [HF.out, failR_good]; rfl, ?_⟩
            rw [HF.out]
            exact hp
          · have HF : Hid (keyR s false op i = .ok j [(10, nw, (i : Int))] []) := Lib.hid (by rw [HR.out, if_neg (by omega)])
            have e3 : decide ((64 : Int) < nw.size) = false := by simp; omega
            clear he0 HR hc
            go_wp2_with fail
            refine (put_any hn hY _ _ _ h3 (by omega)).mono ?_
            rintro e' W3 ⟨rfl, h4⟩
            go_wp2_with fail
            go_ret
            refine ⟨by rw [HF.out]; rfl, ?_⟩
            rw [HF.out]
            exact ⟨by simpa using h4, hwb.2⟩
end
end Go.Proofs.YtcpglgoiienhkaaGreatDoor
