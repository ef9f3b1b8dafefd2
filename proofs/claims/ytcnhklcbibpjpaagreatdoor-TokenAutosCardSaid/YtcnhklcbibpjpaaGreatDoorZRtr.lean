/- Lemmas behind the laws of the tokens; no conditions. -/
import Derived.Test.YtcnhklcbibpjpaaGreatDoorZRgc
set_option linter.unusedVariables false
set_option linter.unusedSimpArgs false

namespace Go.Proofs.YtcnhklcbibpjpaaGreatDoor
open Go.RowKit P PRfa Go.Proofs.YtcnhklcbibpjpaaGreatDoorW.PrintWords
theorem trimGo_blanks (s : ByteArray) (f t i : Nat) : trimGo s i f t = trimGo s (blanks s i) f t := by
  induction i using blanks.induct s with
  | case1 i h hs ih =>
    have e1 : blanks s i = blanks s (i + (Utf8.decode s i).2) := by rw [blanks, dif_pos h, if_pos hs]
    rw [e1, ← ih, trimGo, dif_pos h, if_pos hs]
  | case2 i h hs =>
    have e1 : blanks s i = i := by rw [blanks, dif_pos h, if_neg hs]
    rw [e1]
  | case3 i h =>
    have e1 : blanks s i = i := by rw [blanks, dif_neg h]
    rw [e1]
theorem trim_l0 (s : ByteArray) (hz : s.size ≤ 100000) (fr : Nat) : ∀ (d i t : Nat), fr ≤ i → i ≤ s.size → fr ≤ t → t ≤ s.size → 0 < t → s.size - i ≤ d →
    idiomref01_Trim.l0 (d + 10) s (fr : Int) (t : Int) (i : Int) = some (s.extract fr (trimGo s i fr t).2) ∧ (trimGo s i fr t).1 = fr ∧ 0 < (trimGo s i fr t).2 := by
  intro d
  induction d with
  | zero =>
    intro i t hi hi2 ht ht2 ht0 hd
    rw [trimGo, dif_neg (by omega), idiomref01_Trim.l0, if_neg (by omega), if_pos (by omega), if_pos (by omega), if_pos (by omega)]
    exact ⟨rfl, rfl, ht0⟩
  | succ d ih =>
    intro i t hi hi2 ht ht2 ht0 hd
    by_cases h : i < s.size
    · have hs := step_f s i (d + 1) hz h
      have hw := width_pos s i h
      have hwl := width_le s i h
      have hr := rune_lt s i
      obtain ⟨p1, p2⟩ := stepP_sp s i
      have p3 := stepP_w s i
      rw [show d + 1 + 10 = (d + 1 + 9) + 1 from rfl, idiomref01_Trim.l0, if_pos (by omega), hs]
      simp only [Option.bind_some]
      have e1 : wrap64 ((i : Int) + (stepP s i).2) = ((i + (Utf8.decode s i).2 : Nat) : Int) := by rw [p3, IntWalk.wrap64_in _ (by omega)]; omega
      rw [e1]
      by_cases hneg : (stepP s i).1 < 0
      · have hsp := p1 (by simpa using hneg)
        rw [if_pos hneg, trimGo, dif_pos h, if_neg (by rw [hsp]; decide), Nat.min_eq_left hi]
        exact ih _ _ (by omega) hwl (by omega) hwl (by omega) (by omega)
      · have p4 := p2 (by simpa using hneg)
        rw [if_neg hneg, p4]
        simp only
        rw [IntWalk.wrap32_in _ (by omega), space_f]
        simp only [Option.bind_some]
        by_cases hsp : spB ((Utf8.decode s i).1 : Int) = true
        · rw [if_pos hsp, trimGo, dif_pos h, if_pos hsp]
          exact ih _ _ (by omega) hwl ht ht2 ht0 (by omega)
        · rw [if_neg hsp, trimGo, dif_pos h, if_neg hsp, Nat.min_eq_left hi]
          exact ih _ _ (by omega) hwl (by omega) hwl (by omega) (by omega)
    · rw [trimGo, dif_neg h, show d + 1 + 10 = (d + 10) + 1 from rfl, idiomref01_Trim.l0, if_neg (by omega), if_pos (by omega), if_pos (by omega), if_pos (by omega)]
      exact ⟨rfl, rfl, ht0⟩
theorem trim_f (s : ByteArray) (hz : s.size ≤ 100000) : idiomref01_Trim.f (s.size + 11) s = some (trimP s) := by
  have hb := blanks_bd s 0 (Nat.zero_le _)
  have h0 := blank_l0 s hz 0 (s.size + 1) 0 (Nat.le_refl _) (by omega) (by omega)
  unfold idiomref01_Trim.f idiomref01_Blank.f
  have h0' : idiomref01_Blank.l0 (s.size + 11) s 0 0 = some ((P.blanks s 0 : Nat) : Int) := by simpa using h0
  rw [h0']
  simp only [Option.bind_some]
  have hg := trimGo_blanks s s.size 0 0
  unfold trimP
  generalize hfr : blanks s 0 = fr at *
  by_cases h : fr < s.size
  · have hstop : ¬ spB (Utf8.decode s fr).1 = true := by
      intro hs
      have h1 := blanks_idem s 0
      rw [hfr] at h1
      have h2 : blanks s fr = blanks s (fr + (Utf8.decode s fr).2) := by rw [blanks, dif_pos h, if_pos hs]
      have h3 := blanks_ge s (fr + (Utf8.decode s fr).2)
      have := width_pos s fr h
      omega
    have hs := step_f s fr (s.size + 1) hz h
    have hw := width_pos s fr h
    have hwl := width_le s fr h
    have hr := rune_lt s fr
    obtain ⟨p1, p2⟩ := stepP_sp s fr
    have p3 := stepP_w s fr
    have e1 : wrap64 ((fr : Int) + (stepP s fr).2) = ((fr + (Utf8.decode s fr).2 : Nat) : Int) := by rw [p3, IntWalk.wrap64_in _ (by omega)]; omega
    have hT : trimGo s 0 s.size 0 = trimGo s (fr + (Utf8.decode s fr).2) fr (fr + (Utf8.decode s fr).2) := by
      rw [hg, trimGo, dif_pos h, if_neg hstop, Nat.min_eq_right (by omega)]
    have hl := trim_l0 s hz fr s.size (fr + (Utf8.decode s fr).2) (fr + (Utf8.decode s fr).2) (by omega) hwl (by omega) hwl (by omega) (by omega)
    rw [hT, hl.2.1, if_neg (by omega), ← hl.1]
    rw [show s.size + 11 = (s.size + 1 + 9) + 1 from rfl, idiomref01_Trim.l0, if_pos (by omega), hs]
    simp only [Option.bind_some]
    rw [e1]
    by_cases hneg : (stepP s fr).1 < 0
    · rw [if_pos hneg]
    · have p4 := p2 (by simpa using hneg)
      rw [if_neg hneg, p4]
      simp only
      rw [IntWalk.wrap32_in _ (by omega), space_f]
      simp only [Option.bind_some]
      rw [if_neg hstop]
  · have hT : trimGo s 0 s.size 0 = (s.size, 0) := by rw [hg, trimGo, dif_neg h]
    rw [hT, if_pos rfl, show s.size + 11 = (s.size + 10) + 1 from rfl, idiomref01_Trim.l0, if_neg (by omega), if_pos (by omega), if_pos (by omega), if_pos (by omega)]
    congr 1
    apply ByteArray.ext
    simp
end Go.Proofs.YtcnhklcbibpjpaaGreatDoor
