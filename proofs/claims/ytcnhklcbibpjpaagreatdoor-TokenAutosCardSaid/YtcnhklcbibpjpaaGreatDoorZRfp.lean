/- Lemmas behind the laws of the tokens; no conditions. -/
import Derived.Test.YtcnhklcbibpjpaaGreatDoorZRft
import Derived.Test.YtcnhklcbibpjpaaGreatDoorZPF
import Derived.Lib.DecodeN
set_option linter.unusedVariables false
set_option linter.unusedSimpArgs false

namespace Go.Proofs.YtcnhklcbibpjpaaGreatDoor
open Go.RowKit P Ext Go.Proofs.YtcnhklcbibpjpaaGreatDoorW.PrintWords PRfa
def stepP (s : ByteArray) (i : Nat) : Int × Int := if Utf8.decode s i = (65533, 1) then (-1, 1) else ((Utf8.decode s i).1, (Utf8.decode s i).2)
theorem bt_b8' (s : ByteArray) (k : Nat) (h : k < s.size) : bt s (k : Int) = (b8 s k : Int) := by
  rw [bt_nat s k (by simpa using h), b8_at s k h]
  rfl
theorem gb8 (s : ByteArray) (i : Nat) : (s.get! i).toNat = b8 s i := by
  unfold b8
  split
  · rename_i h
    rw [show s.get! i = s[i]'h from by
      show s.data[i]! = s.data[i]'h
      rw [getElem!_pos]]
  · rename_i h
    show (s.data[i]!).toNat = 0
    rw [getElem!_neg _ _ (by simpa using h)]
    rfl
theorem l0_more (s : ByteArray) (i : Nat) (n low r : Int) (j k : Nat) (hz : s.size ≤ 100000) (hj : (j : Int) < n) (h : i + j < s.size) (hr : 0 ≤ r ∧ r ≤ 16777216) :
    idiomref01_Step.l0 (k + 1) s (i : Int) n low r (j : Int) = if b8 s (i + j) / 64 = 2 then idiomref01_Step.l0 k s (i : Int) n low (r * 64 + (b8 s (i + j) % 64 : Nat)) ((j + 1 : Nat) : Int) else some (-1, 1) := by
  have hb := bt_b8' s (i + j) h
  have hlt := b8_lt s (i + j)
  have e1 : wrap64 ((i : Int) + (j : Int)) = ((i + j : Nat) : Int) := by rw [IntWalk.wrap64_in _ (by omega)]; omega
  have e2 : wrap64 (bt s ((i + j : Nat) : Int)) = (b8 s (i + j) : Int) := by rw [hb, IntWalk.wrap64_in _ (by omega)]
  rw [idiomref01_Step.l0, if_pos hj, e1, if_pos (by omega), if_pos (by omega), e2]
  by_cases h1 : b8 s (i + j) / 64 = 2
  · rw [if_neg (by omega), if_neg (by omega), if_pos h1, IntWalk.wrap64_in (r * 64) (by omega), IntWalk.wrap64_in (r * 64 + _) (by omega), IntWalk.wrap64_in _ (by omega), IntWalk.wrap64_in _ (by omega)]
    congr 1
    · omega
  · rw [if_neg h1]
    by_cases h2 : (b8 s (i + j) : Int) < 128
    · rw [if_pos h2]
    · rw [if_neg h2, if_pos (by omega)]
theorem l0_end (s : ByteArray) (i : Nat) (n low r : Int) (j k : Nat) (hj : ¬ (j : Int) < n) :
    idiomref01_Step.l0 (k + 1) s (i : Int) n low r (j : Int) = if low ≤ r ∧ (r < 55296 ∨ (57344 ≤ r ∧ r ≤ 1114111)) then some (r, n) else some (-1, 1) := by
  rw [idiomref01_Step.l0, if_neg hj]
  repeat' split
  all_goals first | rfl | (exfalso; omega)
theorem step_f (s : ByteArray) (i k : Nat) (hz : s.size ≤ 100000) (h : i < s.size) : idiomref01_Step.f (k + 9) s (i : Int) = some (stepP s i) := by
  have hb := bt_b8' s i h
  have hlt := b8_lt s i
  have e0 : wrap64 ((s.size : Int) - (i : Int)) = ((s.size - i : Nat) : Int) := by rw [IntWalk.wrap64_in _ (by omega)]; omega
  have e2 : wrap64 (bt s (i : Int)) = (b8 s i : Int) := by rw [hb, IntWalk.wrap64_in _ (by omega)]
  have l1 := b8_lt s (i + 1)
  have l2 := b8_lt s (i + 2)
  have l3 := b8_lt s (i + 3)
  have hbad : Utf8.decode s i = (65533, 1) → stepP s i = (-1, 1) := fun h => by rw [stepP, if_pos h]
  have hgood : ∀ c n : Nat, Utf8.decode s i = (c, n) → (n ≠ 1 ∨ c < 128) → stepP s i = ((c : Int), (n : Int)) := fun c n h h2 => by
    rw [stepP, h, if_neg]
    intro e
    simp only [Prod.mk.injEq] at e
    omega
  rw [Lib.decode_at] at hbad hgood
  simp only [gb8] at hbad hgood
  generalize stepP s i = st at *
  unfold idiomref01_Step.f
  rw [e0, e2, if_neg (by omega), if_pos (by omega), if_pos (by omega)]
  unfold Lib.decodeN at hbad hgood
  by_cases h1 : b8 s i < 128
  · rw [if_pos (by omega)]
    rw [if_pos h1] at hgood
    rw [hgood _ _ rfl (.inr h1)]
    rfl
  · rw [if_neg (by omega)]
    rw [if_neg h1] at hbad hgood
    have j0 : ∀ (kk : Nat) (x : Bool), idiomref01_Step.j0 (kk + 1) s (i : Int) ((s.size - i : Nat) : Int) (b8 s i : Int) x = if x = true then idiomref01_Step.j2 kk s i ((s.size - i : Nat) : Int) 2 128 (wrap64 ((b8 s i : Int) - 192)) else (if (b8 s i : Int) ≥ 224 then idiomref01_Step.j1 kk s i ((s.size - i : Nat) : Int) (b8 s i) (decide ((b8 s i : Int) < 240)) else idiomref01_Step.j1 kk s i ((s.size - i : Nat) : Int) (b8 s i) false) := fun kk x => by rw [idiomref01_Step.j0]
    have j1 : ∀ (kk : Nat) (x : Bool), idiomref01_Step.j1 (kk + 1) s (i : Int) ((s.size - i : Nat) : Int) (b8 s i : Int) x = if x = true then idiomref01_Step.j2 kk s i ((s.size - i : Nat) : Int) 3 2048 (wrap64 ((b8 s i : Int) - 224)) else (if (b8 s i : Int) ≥ 240 then (if (b8 s i : Int) < 248 then idiomref01_Step.j2 kk s i ((s.size - i : Nat) : Int) 4 65536 (wrap64 ((b8 s i : Int) - 240)) else some (-1, 1)) else some (-1, 1)) := fun kk x => by rw [idiomref01_Step.j1]
    have j2 : ∀ (kk : Nat) (n low r : Int), idiomref01_Step.j2 (kk + 1) s (i : Int) ((s.size - i : Nat) : Int) n low r = if ((s.size - i : Nat) : Int) < n then some (-1, 1) else idiomref01_Step.l0 kk s i n low r ((1 : Nat) : Int) := fun kk n low r => by rw [idiomref01_Step.j2]; rfl
    by_cases h2 : b8 s i < 192
    · rw [if_neg (by omega), if_neg (by omega), if_neg (by omega)] at hbad
      rw [if_neg (by omega), j0, if_neg (by decide), if_neg (by omega), j1, if_neg (by decide), if_neg (by omega), hbad rfl]
    · by_cases h3 : b8 s i < 224
      · have g2 : ¬ b8 s i / 16 = 14 := by omega
        have g3 : ¬ b8 s i / 8 = 30 := by omega
        have g1 : b8 s i / 32 = 6 := by omega
        simp only [g1, g2, g3, true_and, false_and, if_false] at hbad hgood
        rw [if_pos (by omega), j0, if_pos (decide_eq_true (by omega)), j2, IntWalk.wrap64_in _ (by omega)]
        by_cases h4 : 1 < s.size - i
        · rw [if_neg (by omega), l0_more s i _ _ _ 1 _ hz (by omega) (by omega) (by omega)]
          by_cases h5 : b8 s (i + 1) / 64 = 2
          · simp only [h4, h5, true_and, and_self, if_true] at hbad hgood
            rw [if_pos h5, l0_end _ _ _ _ _ _ _ (by omega)]
            by_cases h6 : b8 s i % 32 * 64 + b8 s (i + 1) % 64 ≥ 128
            · rw [if_pos h6] at hgood
              rw [if_pos (by omega), hgood _ _ rfl (.inl (by decide))]
              simp only [Option.some.injEq, Prod.mk.injEq]
              exact ⟨by omega, rfl⟩
            · rw [if_neg h6] at hbad
              rw [if_neg (by omega), hbad rfl]
          · simp only [h5, and_false, if_false] at hbad
            rw [if_neg h5, hbad trivial]
        · simp only [h4, false_and, if_false] at hbad
          rw [if_pos (by omega), hbad trivial]
      · have g1 : ¬ b8 s i / 32 = 6 := by omega
        simp only [g1, false_and, if_false] at hbad hgood
        rw [if_pos (by omega), j0, if_neg (by simp; omega), if_pos (by omega), j1]
        by_cases h4 : b8 s i < 240
        · have g2 : b8 s i / 16 = 14 := by omega
          have g3 : ¬ b8 s i / 8 = 30 := by omega
          simp only [g2, g3, true_and, false_and, if_false] at hbad hgood
          rw [if_pos (decide_eq_true (by omega)), j2, IntWalk.wrap64_in _ (by omega)]
          by_cases h5 : 2 < s.size - i
          · have h51 : 1 < s.size - i := by omega
            rw [if_neg (by omega), l0_more s i _ _ _ 1 _ hz (by omega) (by omega) (by omega)]
            by_cases h6 : b8 s (i + 1) / 64 = 2
            · rw [if_pos h6, l0_more s i _ _ _ 2 _ hz (by omega) (by omega) (by omega)]
              by_cases h7 : b8 s (i + 2) / 64 = 2
              · simp only [h5, h51, h6, h7, true_and, and_self, if_true] at hbad hgood
                rw [if_pos h7, l0_end _ _ _ _ _ _ _ (by omega)]
                split at hgood
                · rename_i h8
                  rw [if_pos (by omega), hgood _ _ rfl (.inl (by decide))]
                  simp only [Option.some.injEq, Prod.mk.injEq]
                  exact ⟨by omega, rfl⟩
                · rename_i h8
                  rw [if_neg h8] at hbad
                  rw [if_neg (by omega), hbad rfl]
              · simp only [h7, and_false, if_false] at hbad
                rw [if_neg h7, hbad trivial]
            · simp only [h6, and_false, false_and, if_false] at hbad
              rw [if_neg h6, hbad trivial]
          · simp only [h5, and_false, false_and, if_false] at hbad
            rw [if_pos (by omega), hbad trivial]
        · have g2 : ¬ b8 s i / 16 = 14 := by omega
          simp only [g2, false_and, if_false] at hbad hgood
          rw [if_neg (by simp; omega), if_pos (by omega)]
          by_cases h5 : b8 s i < 248
          · have g3 : b8 s i / 8 = 30 := by omega
            simp only [g3, true_and] at hbad hgood
            rw [if_pos (by omega), j2, IntWalk.wrap64_in _ (by omega)]
            by_cases h6 : 3 < s.size - i
            · have h61 : 1 < s.size - i := by omega
              have h62 : 2 < s.size - i := by omega
              rw [if_neg (by omega), l0_more s i _ _ _ 1 _ hz (by omega) (by omega) (by omega)]
              by_cases h7 : b8 s (i + 1) / 64 = 2
              · rw [if_pos h7, l0_more s i _ _ _ 2 _ hz (by omega) (by omega) (by omega)]
                by_cases h8 : b8 s (i + 2) / 64 = 2
                · rw [if_pos h8, l0_more s i _ _ _ 3 _ hz (by omega) (by omega) (by omega)]
                  by_cases h9 : b8 s (i + 3) / 64 = 2
                  · simp only [h6, h61, h62, h7, h8, h9, true_and, and_self, if_true] at hbad hgood
                    rw [if_pos h9, l0_end _ _ _ _ _ _ _ (by omega)]
                    split at hgood
                    · rename_i h8
                      rw [if_pos (by omega), hgood _ _ rfl (.inl (by decide))]
                      simp only [Option.some.injEq, Prod.mk.injEq]
                      exact ⟨by omega, rfl⟩
                    · rename_i h8
                      rw [if_neg h8] at hbad
                      rw [if_neg (by omega), hbad rfl]
                  · simp only [h9, and_false, if_false] at hbad
                    rw [if_neg h9, hbad trivial]
                · simp only [h8, and_false, false_and, if_false] at hbad
                  rw [if_neg h8, hbad trivial]
              · simp only [h7, and_false, false_and, if_false] at hbad
                rw [if_neg h7, hbad trivial]
            · simp only [h6, and_false, false_and, if_false] at hbad
              rw [if_pos (by omega), hbad trivial]
          · have g3 : ¬ b8 s i / 8 = 30 := by omega
            simp only [g3, false_and, if_false] at hbad
            rw [if_neg (by omega), hbad trivial]
theorem space_f (r : Int) : idiomref01_Space.f r = some (spB r) := by
  unfold idiomref01_Space.f spB
  repeat' split
  all_goals (congr 1; first | (simp_all; done) | (rw [Bool.eq_iff_iff]; simp; omega))
def inP (r : Int) : List Int → Bool
  | a :: b :: l => (decide (a ≤ r) && decide (r ≤ b)) || inP r l
  | _ => false
theorem in_l0 (r : Int) (L : List Int) (n : Nat) (hn : L.length = 2 * n) (hl : n ≤ 1000) : ∀ (m j k : Nat), j + m = n → idiomref01_in.l0 (k + m + 1) r L ((2 * j : Nat) : Int) = some (inP r (L.drop (2 * j))) := by
  intro m
  induction m with
  | zero =>
    intro j k hj
    rw [Nat.add_zero, idiomref01_in.l0, IntWalk.wrap64_in _ (by omega), if_neg (by omega), List.drop_eq_nil_of_le (by omega)]
    rfl
  | succ m ih =>
    intro j k hj
    have h1 : 2 * j < L.length := by omega
    have h2 : 2 * j + 1 < L.length := by omega
    have r1 : rd L ((2 * j : Nat) : Int) = L[2 * j]'h1 := by unfold rd; rw [Int.toNat_natCast]; simp [List.getD, h1]
    have r2 : rd L ((2 * j + 1 : Nat) : Int) = L[2 * j + 1]'h2 := by unfold rd; rw [Int.toNat_natCast]; simp [List.getD, h2]
    have e1 : wrap64 (((2 * j : Nat) : Int) + 1) = ((2 * j + 1 : Nat) : Int) := by rw [IntWalk.wrap64_in _ (by omega)]; omega
    have e2 : wrap64 (((2 * j : Nat) : Int) + 2) = ((2 * (j + 1) : Nat) : Int) := by rw [IntWalk.wrap64_in _ (by omega)]; omega
    have hd : L.drop (2 * j) = L[2 * j]'h1 :: L[2 * j + 1]'h2 :: L.drop (2 * (j + 1)) := by
      rw [List.drop_eq_getElem_cons h1, List.drop_eq_getElem_cons h2]; rfl
    have hi := ih (j + 1) k (by omega)
    rw [show k + (m + 1) + 1 = (k + m + 1) + 1 from by omega, idiomref01_in.l0, e1, e2, if_pos (by omega), if_pos (by omega), if_pos (by omega), r1, r2, hi, hd]
    generalize L[2 * j] = a
    generalize L[2 * j + 1] = b
    rw [inP]
    by_cases c1 : a ≤ r
    · rw [if_pos (show r ≥ a from c1)]
      rw [if_pos (show (0 : Int) ≤ ((2 * j + 1 : Nat) : Int) from by omega)]
      by_cases c2 : r ≤ b
      · rw [if_pos c2, decide_eq_true c1, decide_eq_true c2]; rfl
      · rw [if_neg c2, decide_eq_false c2, Bool.and_false, Bool.false_or]
    · rw [if_neg (show ¬ r ≥ a from c1), decide_eq_false c1, Bool.false_and, Bool.false_or]
theorem syntax_f (r : Int) (k : Nat) : idiomref01_Syntax.f (k + 20) r = some (syB r) := by
  have h1 := in_l0 r [33, 47, 58, 64, 91, 94, 96, 96, 123, 126, 161, 167, 169, 169, 171, 172, 174, 174, 176, 177, 182, 182, 187, 187, 191, 191, 215, 215, 247, 247] 15 rfl (by decide) 15 0 (k + 4) rfl
  have h2 := in_l0 r [8208, 8231, 8240, 8254, 8257, 8275, 8277, 8286, 8592, 11263, 11776, 11903, 12289, 12291, 12296, 12320, 12336, 12336, 64830, 64831, 65093, 65094] 11 rfl (by decide) 11 0 (k + 8) rfl
  unfold idiomref01_Syntax.f idiomref01_in.f
  rw [show k + 4 + 15 + 1 = k + 20 from by omega] at h1
  rw [show k + 8 + 11 + 1 = k + 20 from by omega] at h2
  rw [Nat.mul_zero, List.drop_zero] at h1 h2
  have hor : ∀ x y : Bool, ((some x).bind fun t109 => if t109 = true then some true else (some y).bind fun t110 => some t110) = some (x || y) := by decide
  erw [h1, h2]
  refine (hor _ _).trans ?_
  congr 1
  unfold syB
  rw [Bool.eq_iff_iff]
  simp only [inP, Bool.or_eq_true, Bool.and_eq_true, decide_eq_true_eq, Bool.false_eq_true, or_false]
  omega
theorem stepP_sp (s : ByteArray) (i : Nat) : (decide ((stepP s i).1 < 0) = true → spB (Utf8.decode s i).1 = false) ∧ (decide ((stepP s i).1 < 0) = false → stepP s i = (((Utf8.decode s i).1 : Int), ((Utf8.decode s i).2 : Int))) := by
  unfold stepP
  split
  · rename_i h; rw [h]; exact ⟨fun _ => by decide, fun h => by simp at h⟩
  · exact ⟨fun h => by have h := of_decide_eq_true h; simp only at h; omega, fun _ => rfl⟩
theorem stepP_w (s : ByteArray) (i : Nat) : (stepP s i).2 = (Utf8.decode s i).2 := by
  unfold stepP
  split
  · rename_i h; rw [h]; rfl
  · rfl
theorem rune_lt (s : ByteArray) (i : Nat) : (Utf8.decode s i).1 ≤ 1114111 := by
  have l0 := b8_lt s i
  rw [Lib.decode_at]
  simp only [gb8]
  unfold Lib.decodeN
  repeat' split
  all_goals (simp only; omega)
theorem blank_l0 (s : ByteArray) (hz : s.size ≤ 100000) (i0 : Nat) : ∀ (d i : Nat), i0 ≤ i → i ≤ 100000 → s.size - i ≤ d → idiomref01_Blank.l0 (d + 10) s (i : Int) (i0 : Int) = some (((P.blanks s i - i0 : Nat)) : Int) := by
  intro d
  induction d with
  | zero =>
    intro i hi hi2 hd
    have hb : P.blanks s i = i := by rw [P.blanks, dif_neg (by omega)]
    rw [idiomref01_Blank.l0, if_neg (by omega), hb, IntWalk.wrap64_in _ (by omega)]
    congr 1; omega
  | succ d ih =>
    intro i hi hi2 hd
    by_cases h : i < s.size
    · have hs := step_f s i (d + 1) hz h
      have hw := width_pos s i h
      have hwl := width_le s i h
      have hr := rune_lt s i
      obtain ⟨p1, p2⟩ := stepP_sp s i
      have p3 := stepP_w s i
      rw [show d + 1 + 10 = (d + 1 + 9) + 1 from rfl, idiomref01_Blank.l0, if_pos (by omega), hs]
      simp only [Option.bind_some]
      by_cases hneg : (stepP s i).1 < 0
      · have hb : P.blanks s i = i := by rw [P.blanks, dif_pos h, if_neg (by rw [p1 (by simpa using hneg)]; decide)]
        rw [if_pos hneg, hb, IntWalk.wrap64_in _ (by omega)]
        congr 1; omega
      · have p4 := p2 (by simpa using hneg)
        rw [if_neg hneg, p4]
        simp only
        rw [IntWalk.wrap32_in _ (by omega), space_f]
        simp only [Option.bind_some]
        by_cases hsp : spB ((Utf8.decode s i).1 : Int) = true
        · have hb : P.blanks s i = P.blanks s (i + (Utf8.decode s i).2) := by rw [P.blanks, dif_pos h, if_pos hsp]
          rw [if_pos hsp, IntWalk.wrap64_in _ (by omega), hb]
          exact ih (i + (Utf8.decode s i).2) (by omega) (by omega) (by omega)
        · have hb : P.blanks s i = i := by rw [P.blanks, dif_pos h, if_neg hsp]
          rw [if_neg hsp, hb, IntWalk.wrap64_in _ (by omega)]
          congr 1; omega
    · have hb : P.blanks s i = i := by rw [P.blanks, dif_neg (by omega)]
      rw [idiomref01_Blank.l0, if_neg (by omega), hb, IntWalk.wrap64_in _ (by omega)]
      congr 1; omega
theorem blank_f (s : ByteArray) (hz : s.size ≤ 100000) (i : Nat) (hi : i ≤ 100000) : idiomref01_Blank.f (s.size + 10) s (i : Int) = some (((P.blanks s i - i : Nat)) : Int) := by
  unfold idiomref01_Blank.f
  exact blank_l0 s hz i s.size i (Nat.le_refl _) hi (by omega)
end Go.Proofs.YtcnhklcbibpjpaaGreatDoor
