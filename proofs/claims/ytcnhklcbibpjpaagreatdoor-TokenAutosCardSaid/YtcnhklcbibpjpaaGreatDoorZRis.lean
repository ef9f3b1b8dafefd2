/- Lemmas behind the laws of the tokens; no conditions. -/
import Derived.Test.YtcnhklcbibpjpaaGreatDoorZMF
set_option linter.unusedVariables false
set_option linter.unusedSimpArgs false

namespace Go.Proofs.YtcnhklcbibpjpaaGreatDoor
open Go.RowKit P Ext
def Rise (s : ByteArray) : Nat → Nat → List Nat → Prop
  | lo, hi, [] => lo ≤ hi
  | lo, hi, a :: r => lo ≤ a ∧ b8 s a = 39 ∧ Rise s (a + 1) hi r
theorem Rise.le {s : ByteArray} : ∀ {al : List Nat} {lo hi : Nat}, Rise s lo hi al → lo ≤ hi
  | [], _, _, h => h
  | a :: r, _, _, h => by have := Rise.le h.2.2; have := h.1; omega
theorem Rise.low {s : ByteArray} {lo lo' hi : Nat} (hl : lo' ≤ lo) : ∀ {al : List Nat}, Rise s lo hi al → Rise s lo' hi al
  | [], h => Nat.le_trans hl h
  | a :: r, h => ⟨Nat.le_trans hl h.1, h.2⟩
theorem Rise.append {s : ByteArray} {mid hi : Nat} {b : List Nat} (hb : Rise s mid hi b) : ∀ {a : List Nat} {lo : Nat}, Rise s lo mid a → Rise s lo hi (a ++ b)
  | [], _, h => Rise.low h hb
  | x :: r, _, h => ⟨h.1, h.2.1, Rise.append hb h.2.2⟩
def R.rise (s : ByteArray) (i : Nat) : R → Prop
  | .ok j _ al => Rise s i j al
  | .er .. => True
theorem R.rise_pre {s : ByteArray} {i j : Nat} {ts : List Tk} {al : List Nat} {r : R} (ha : Rise s i j al) (h : r.rise s j) : (R.pre ts al r).rise s i := by
  cases r with
  | ok k a b => exact Rise.append h ha
  | er e a => trivial
theorem R.rise_low {s : ByteArray} {i j : Nat} {r : R} (hl : i ≤ j) (h : r.rise s j) : r.rise s i := by
  cases r with
  | ok k a b => exact Rise.low hl h
  | er e a => trivial
theorem R.rise_pre0 {s : ByteArray} {i : Nat} {ts : List Tk} {r : R} (h : r.rise s i) : (R.pre ts [] r).rise s i := R.rise_pre (j := i) (Nat.le_refl _) h
theorem R.rise_next {s : ByteArray} {i : Nat} {r r2 : R} {f : Nat → Option R} (h : r.rise s i) (hf : ∀ j r', f j = some r' → r'.rise s j) (h2 : r.next f = some r2) : r2.rise s i := by
  cases r with
  | er e a => simp only [R.next, Option.some.injEq] at h2; subst h2; trivial
  | ok j ts al =>
    simp only [R.next, Option.map_eq_some_iff] at h2
    obtain ⟨r', h3, rfl⟩ := h2
    exact R.rise_pre h (hf j r' h3)
theorem failR_rise (s : ByteArray) (pl : Nat) (op : Int) (i : Nat) : (failR s pl op).rise s i := by unfold failR; split <;> trivial
theorem mustR_rise (s : ByteArray) (c : Nat) (kind op : Int) (i : Nat) : (mustR s c kind op i).rise s i := by
  have := blanks_ge s i
  unfold mustR
  split
  · show i ≤ _; omega
  · exact failR_rise _ _ _ _
theorem offsetR_rise (s : ByteArray) (op : Int) (i : Nat) : (offsetR s op i).rise s i := by
  have h1 := blanks_ge s i
  have h2 := blanks_ge s (blanks s i + 7)
  have h3 := numEnd_ge s (blanks s (blanks s i + 7))
  unfold offsetR
  split
  · split
    · show i ≤ _; omega
    · exact failR_rise _ _ _ _
  · show i ≤ _; omega
theorem keyR_rise (s : ByteArray) (b : Bool) (op : Int) (i : Nat) : (keyR s b op i).rise s i := by
  have h1 := numEnd_ge s (i + 1)
  have h2 := wordEnd_ge s i
  unfold keyR
  split
  · split
    · show i ≤ _; omega
    · exact failR_rise _ _ _ _
  · split
    · exact failR_rise _ _ _ _
    · show i ≤ _; omega
theorem styleGo_rise (s : ByteArray) (op : Int) (fr : Nat) (i o : Nat) (hi : fr ≤ i) : (styleGo s op fr i o).rise s fr := by
  induction i, o using styleGo.induct s fr with
  | case1 i o h h1 h2 => rw [styleGo, dif_pos h, if_pos h1, if_pos h2]; trivial
  | case2 i o h h1 h2 ih => rw [styleGo, dif_pos h, if_pos h1, if_neg h2]; exact ih (by omega)
  | case3 i o h h1 h2 ih => rw [styleGo, dif_pos h, if_neg h1, if_pos h2]; exact ih (by omega)
  | case4 i o h h1 h2 h3 h4 h5 => rw [styleGo, dif_pos h, if_neg h1, if_neg h2, if_pos h3, if_pos h4, if_pos h5]; exact failR_rise _ _ _ _
  | case5 i o h h1 h2 h3 h4 h5 =>
    rw [styleGo, dif_pos h, if_neg h1, if_neg h2, if_pos h3, if_pos h4, if_neg h5]
    exact R.rise_pre0 (R.rise_low hi (mustR_rise _ _ _ _ _))
  | case6 i o h h1 h2 h3 h4 ih => rw [styleGo, dif_pos h, if_neg h1, if_neg h2, if_pos h3, if_neg h4]; exact ih (by omega)
  | case7 i o h h1 h2 h3 ih => rw [styleGo, dif_pos h, if_neg h1, if_neg h2, if_neg h3]; exact ih (by omega)
  | case8 i o h => rw [styleGo, dif_neg h]; trivial
theorem styleR_rise (s : ByteArray) (op : Int) (i : Nat) : (styleR s op i).rise s i := R.rise_low (blanks_ge s i) (styleGo_rise s op _ _ 1 (Nat.le_refl _))
theorem limR_rise (s : ByteArray) (op : Int) (i : Nat) : (limR s op i).rise s i := by
  have h1 := numEnd_ge s i
  have h2 := blanks_ge s (numEnd s i)
  unfold limR
  repeat' split
  all_goals first | exact failR_rise _ _ _ _ | (show i ≤ _; omega)
theorem aposE_rise (s : ByteArray) (m sort : Int) (i : Nat) (h : b8 s i = 39) : Rise s i (aposE s m sort i).2.1 (aposE s m sort i).2.2 := by
  have := aposE_gt s m sort i
  unfold aposE at *
  split
  · show i ≤ i + 2; omega
  · split
    · rename_i h1 h2
      rw [if_neg h1, if_pos h2] at this
      exact Nat.le_of_lt this
    · exact ⟨Nat.le_refl _, h, Nat.le_refl _⟩
theorem textE_rise (s : ByteArray) (m sort : Int) (outer : Bool) (i : Nat) : Rise s i (textE s m sort outer i).2.1 (textE s m sort outer i).2.2 := by
  induction i using textE.induct s m sort outer with
  | case1 i h1 h2 ih => rw [textE, dif_pos h1, if_pos h2]; exact Rise.append ih (aposE_rise s m sort i h2)
  | case2 i h1 h2 h3 => rw [textE, dif_pos h1, if_neg h2, if_pos h3]; exact Nat.le_refl _
  | case3 i h1 h2 h3 ih => rw [textE, dif_pos h1, if_neg h2, if_neg h3]; exact Rise.low (Nat.le_succ _) ih
  | case4 i h1 => rw [textE, dif_neg h1]; exact Nat.le_refl _
structure Rises (s : ByteArray) (m : Int) (k : Nat) : Prop where
  msg : ∀ sort op i r, msgF s m k sort op i = some r → r.rise s i
  arg : ∀ i r, argF s m k i = some r → r.rise s i
  typ : ∀ w op i r, typedF s m k w op i = some r → r.rise s i
  cas : ∀ b op i r, casesF s m k b op i = some r → r.rise s i
  cho : ∀ op i r, choiceF s m k op i = some r → r.rise s i
theorem rises (s : ByteArray) (m : Int) : ∀ k, Rises s m k := by
  intro k
  induction k with
  | zero => exact ⟨fun a b c r h => by simp [msgF] at h, fun a r h => by simp [argF] at h, fun a b c r h => by simp [typedF] at h, fun a b c r h => by simp [casesF] at h, fun a b r h => by simp [choiceF] at h⟩
  | succ k ih =>
    refine ⟨?_, ?_, ?_, ?_, ?_⟩
    · intro sort op i r h
      have hb := textE_rise s m sort (decide (op < 0)) i
      rw [msgF] at h
      generalize textE s m sort (decide (op < 0)) i = te at *
      obtain ⟨t1, p, a1⟩ := te
      simp only at hb h
      split at h
      · have h := Option.some.inj h
        subst h
        split
        · exact hb
        · exact failR_rise _ _ _ _
      · split at h
        · rw [Option.bind_eq_some_iff] at h
          obtain ⟨ra, h1, h2⟩ := h
          rw [Option.map_eq_some_iff] at h2
          obtain ⟨rb, h3, rfl⟩ := h2
          exact R.rise_pre hb (R.rise_next (ih.arg _ _ h1) (fun j r' h => ih.msg _ _ _ _ h) h3)
        · split at h
          · rw [Option.map_eq_some_iff] at h
            obtain ⟨rb, h3, rfl⟩ := h
            exact R.rise_pre hb (R.rise_low (Nat.le_succ _) (ih.msg _ _ _ _ h3))
          · have h := Option.some.inj h
            subst h
            exact hb
    · intro i r h
      rw [argF] at h
      have h1 := blanks_ge s (i + 1)
      have h2 := wordEnd_ge s (blanks s (i + 1))
      have h3 := blanks_ge s (wordEnd s (blanks s (i + 1)))
      split at h
      · have h := Option.some.inj h
        subst h
        exact failR_rise _ _ _ _
      ·
        rw [Option.map_eq_some_iff] at h
        obtain ⟨rb, h4, rfl⟩ := h
        refine R.rise_pre0 (R.rise_low (j := blanks s (wordEnd s (blanks s (i + 1)))) (by omega) ?_)
        split at h4
        · have h4 := Option.some.inj h4
          subst h4
          exact mustR_rise _ _ _ _ _
        · refine R.rise_next (mustR_rise _ _ _ _ _) (fun j r' h => ?_) h4
          have h5 := blanks_ge s j
          have h6 := letEnd_ge s (blanks s j)
          split at h
          · have h := Option.some.inj h
            subst h
            exact failR_rise _ _ _ _
          · rw [Option.map_eq_some_iff] at h
            obtain ⟨rc, h7, rfl⟩ := h
            exact R.rise_pre0 (R.rise_low (by omega) (ih.typ _ _ _ _ h7))
    · intro w op i r h
      rw [typedF] at h
      have h1 := blanks_ge s i
      refine R.rise_low (j := blanks s i) h1 ?_
      split at h
      · exact R.rise_next (mustR_rise _ _ _ _ _) (fun j r' h => R.rise_next (offsetR_rise _ _ _) (fun j r' h => ih.cas _ _ _ _ h) h) h
      · split at h
        · exact R.rise_next (mustR_rise _ _ _ _ _) (fun j r' h => ih.cas _ _ _ _ h) h
        · split at h
          · exact R.rise_next (mustR_rise _ _ _ _ _) (fun j r' h => ih.cho _ _ _ h) h
          · split at h
            · have h := Option.some.inj h
              subst h
              exact mustR_rise _ _ _ _ _
            · exact R.rise_next (mustR_rise _ _ _ _ _) (fun j r' h => by have h := Option.some.inj h; subst h; exact styleR_rise _ _ _) h
    · intro b op i r h
      rw [casesF] at h
      have h1 := blanks_ge s i
      refine R.rise_low (j := blanks s i) h1 ?_
      split at h
      · have h := Option.some.inj h
        subst h
        exact mustR_rise _ _ _ _ _
      · split at h
        · have h := Option.some.inj h
          subst h
          exact failR_rise _ _ _ _
        · refine R.rise_next (keyR_rise _ _ _ _) (fun j r' h => ?_) h
          refine R.rise_low (j := blanks s j) (blanks_ge s j) ?_
          refine R.rise_next (mustR_rise _ _ _ _ _) (fun j r' h => ?_) h
          rw [Option.bind_eq_some_iff] at h
          obtain ⟨ra, h2, h3⟩ := h
          exact R.rise_next (ih.msg _ _ _ _ h2) (fun j r' h => R.rise_next (mustR_rise _ _ _ _ _) (fun j r' h => ih.cas _ _ _ _ h) h) h3
    · intro op i r h
      rw [choiceF] at h
      have h1 := blanks_ge s i
      refine R.rise_low (j := blanks s i) h1 ?_
      have hl := limR_rise s op (blanks s i)
      rw [limR] at hl
      split at h
      · refine R.rise_next hl (fun j r' h => ?_) h
        rw [Option.bind_eq_some_iff] at h
        obtain ⟨ra, h2, h3⟩ := h
        refine R.rise_next (ih.msg _ _ _ _ h2) (fun j r' h => ?_) h3
        split at h
        · have h := Option.some.inj h
          subst h
          exact mustR_rise _ _ _ _ _
        · rw [Option.map_eq_some_iff] at h
          obtain ⟨rb, h3, rfl⟩ := h
          exact R.rise_pre0 (R.rise_low (Nat.le_succ _) (ih.cho _ _ _ h3))
      · have h := Option.some.inj h
        subst h
        exact failR_rise _ _ _ _
theorem lexR_rise {s : ByteArray} {m : Int} {j : Nat} {ts : List Tk} {al : List Nat} (h : lexR s m = .ok j ts al) : Rise s 0 j al ∧ j ≤ s.size := by
  have h1 := (rises s m _).msg _ _ _ _ (lexR_some s m)
  rw [h] at h1
  obtain ⟨r, h2, h3⟩ := (enough s m (2 * s.size + 2)).msg 0 (-1) 0 (by omega) (by omega)
  rw [lexR_some, h] at h2
  cases h2
  exact ⟨h1, (h3 _ _ _ rfl).2⟩
end Go.Proofs.YtcnhklcbibpjpaaGreatDoor
