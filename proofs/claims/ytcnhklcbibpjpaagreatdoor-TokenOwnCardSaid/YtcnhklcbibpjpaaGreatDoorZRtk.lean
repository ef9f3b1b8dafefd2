/- Lemmas behind the laws of the tokens; no conditions. -/
import Derived.Test.YtcnhklcbibpjpaaGreatDoorZRgq
set_option linter.unusedVariables false
set_option linter.unusedSimpArgs false

namespace Go.Proofs.YtcnhklcbibpjpaaGreatDoor
open P
structure TkOk (s : ByteArray) (t : Tk) : Prop where
  lo : 0 ≤ t.2.2
  hi : t.2.2 < s.size
  k3 : t.1 = 3 → b8 s t.2.2.toNat = 123 ∧ t.2.1.size = 0
  k4 : t.1 = 4 → b8 s t.2.2.toNat = 125 ∧ t.2.1.size = 0
  k2 : t.1 = 2 → b8 s t.2.2.toNat = 35
  k1 : t.1 = 1 → t.2.1.size ≠ 0
def TkRise (s : ByteArray) : Nat → Nat → List Tk → Prop
  | lo, hi, [] => lo ≤ hi
  | lo, hi, t :: r => (lo : Int) ≤ t.2.2 ∧ TkOk s t ∧ TkRise s (t.2.2.toNat + 1) hi r
section
variable {s : ByteArray} {m : Int}
theorem TkRise.le : ∀ {ts : List Tk} {lo hi : Nat}, TkRise s lo hi ts → lo ≤ hi
  | [], _, _, h => h
  | t :: r, _, _, h => by have := TkRise.le h.2.2; have := h.1; omega
theorem TkRise.low {lo lo' hi : Nat} (hl : lo' ≤ lo) : ∀ {ts : List Tk}, TkRise s lo hi ts → TkRise s lo' hi ts
  | [], h => Nat.le_trans hl h
  | t :: r, h => ⟨by have := h.1; omega, h.2⟩
theorem TkRise.append {mid hi : Nat} {b : List Tk} (hb : TkRise s mid hi b) : ∀ {a : List Tk} {lo : Nat}, TkRise s lo mid a → TkRise s lo hi (a ++ b)
  | [], _, h => TkRise.low h hb
  | x :: r, _, h => ⟨h.1, h.2.1, TkRise.append hb h.2.2⟩
theorem TkRise.one {lo hi : Nat} {k : Int} {t : ByteArray} {p : Nat} (hl : lo ≤ p) (hh : p < hi) (hs : p < s.size) (h3 : k = 3 → b8 s p = 123 ∧ t.size = 0) (h4 : k = 4 → b8 s p = 125 ∧ t.size = 0) (h2 : k = 2 → b8 s p = 35) (h1 : k = 1 → t.size ≠ 0) : TkRise s lo hi [(k, t, (p : Int))] := by
  refine ⟨by simp only; omega, ⟨by simp only; omega, by simp only; omega, ?_, ?_, ?_, ?_⟩, ?_⟩
  · intro e; simpa using h3 e
  · intro e; simpa using h4 e
  · intro e; simpa using h2 e
  · intro e; exact h1 e
  · show ((p : Int)).toNat + 1 ≤ hi
    omega
def R.tk (s : ByteArray) (i : Nat) : R → Prop
  | .ok j ts _ => TkRise s i j ts
  | .er .. => True
theorem R.tk_pre {i j : Nat} {ts : List Tk} {al : List Nat} {r : R} (ha : TkRise s i j ts) (h : r.tk s j) : (R.pre ts al r).tk s i := by
  cases r with
  | ok k a b => exact TkRise.append h ha
  | er e a => trivial
theorem R.tk_low {i j : Nat} {r : R} (hl : i ≤ j) (h : r.tk s j) : r.tk s i := by
  cases r with
  | ok k a b => exact TkRise.low hl h
  | er e a => trivial
theorem R.tk_pre0 {i : Nat} {al : List Nat} {r : R} (h : r.tk s i) : (R.pre [] al r).tk s i := R.tk_pre (j := i) (Nat.le_refl _) h
theorem R.tk_next {i lo n : Nat} {r r2 : R} {f : Nat → Option R} (h : r.tk s i) (hw : r.within lo n) (hf : ∀ j r', lo ≤ j → j ≤ n → f j = some r' → r'.tk s j) (h2 : r.next f = some r2) : r2.tk s i := by
  cases r with
  | er e a => rw [R.next_er h2]; trivial
  | ok j ts al =>
    obtain ⟨r', h3, rfl⟩ := R.next_ok h2
    have := hw _ _ _ rfl
    exact R.tk_pre h (hf j r' this.1 this.2 h3)
theorem failR_tk (pl : Nat) (op : Int) (i : Nat) : (failR s pl op).tk s i := by unfold failR; split <;> trivial
theorem at1_b8 {i c : Nat} (h : at1 s i c = true) : b8 s i = c := by unfold at1 at h; simp at h; exact h.2
theorem mustR_tk (c : Nat) (kind op : Int) (i : Nat) (h3 : kind = 3 → c = 123) (h4 : kind = 4 → c = 125) (h2 : kind ≠ 2) (h1 : kind ≠ 1) : (mustR s c kind op i).tk s i := by
  have := blanks_ge s i
  unfold mustR
  split
  · rename_i h
    have hb := at1_b8 h
    have hl := at1_lt _ _ _ h
    exact TkRise.one this (Nat.lt_succ_self _) hl (fun e => ⟨hb.trans (h3 e), rfl⟩) (fun e => ⟨hb.trans (h4 e), rfl⟩) (fun e => absurd e h2) (fun e => absurd e h1)
  · exact failR_tk _ _ _
theorem must125 (op : Int) (i : Nat) : (mustR s 125 4 op i).tk s i := mustR_tk 125 4 op i (by decide) (by decide) (by decide) (by decide)
theorem must44 (op : Int) (i : Nat) : (mustR s 44 6 op i).tk s i := mustR_tk 44 6 op i (by decide) (by decide) (by decide) (by decide)
theorem must123 (op : Int) (i : Nat) : (mustR s 123 3 op i).tk s i := mustR_tk 123 3 op i (by decide) (by decide) (by decide) (by decide)
theorem TkRise.other {lo hi : Nat} {k : Int} {t : ByteArray} {p : Nat} (hl : lo ≤ p) (hh : p < hi) (hs : p < s.size) (hk : 5 ≤ k) : TkRise s lo hi [(k, t, (p : Int))] :=
  TkRise.one hl hh hs (fun e => by omega) (fun e => by omega) (fun e => by omega) (fun e => by omega)
theorem offsetR_tk (op : Int) (i : Nat) : (offsetR s op i).tk s i := by
  have h1 := blanks_ge s i
  have h2 := blanks_ge s (blanks s i + 7)
  have h3 := numEnd_ge s (blanks s (blanks s i + 7))
  unfold offsetR
  split
  · rename_i h
    have h7 : blanks s i + 7 ≤ s.size := hereB_len _ _ _ h (by decide)
    split
    · exact TkRise.other h1 (by omega) (by omega) (by decide)
    · exact failR_tk _ _ _
  · show i ≤ _; omega
theorem keyR_tk (b : Bool) (op : Int) (i : Nat) (hi : i ≤ s.size) : (keyR s b op i).tk s i := by
  have h1 := numEnd_ge s (i + 1)
  unfold keyR
  split
  · rename_i h
    have hl := at1_lt s i 61 (by cases b <;> simp_all)
    split
    · exact TkRise.other (Nat.le_refl _) (by omega) hl (by decide)
    · exact failR_tk _ _ _
  · split
    · exact failR_tk _ _ _
    · rename_i h
      have h2 := extract_pos s i (wordEnd s i) (fun h0 => h (.inl h0))
      have h3 := wordEnd_bd s i hi
      exact TkRise.other (Nat.le_refl _) h2 (by omega) (by decide)
theorem styleGo_tk (op : Int) (fr : Nat) (i o : Nat) (hi : fr ≤ i) : (styleGo s op fr i o).tk s fr := by
  induction i, o using styleGo.induct s fr with
  | case1 i o h h1 h2 => rw [styleGo, dif_pos h, if_pos h1, if_pos h2]; trivial
  | case2 i o h h1 h2 ih => rw [styleGo, dif_pos h, if_pos h1, if_neg h2]; exact ih (by omega)
  | case3 i o h h1 h2 ih => rw [styleGo, dif_pos h, if_neg h1, if_pos h2]; exact ih (by omega)
  | case4 i o h h1 h2 h3 h4 h5 => rw [styleGo, dif_pos h, if_neg h1, if_neg h2, if_pos h3, if_pos h4, if_pos h5]; exact failR_tk _ _ _
  | case5 i o h h1 h2 h3 h4 h5 =>
    rw [styleGo, dif_pos h, if_neg h1, if_neg h2, if_pos h3, if_pos h4, if_neg h5]
    have h6 := trimP_pos _ _ _ h5
    exact R.tk_pre (j := i) (TkRise.other (Nat.le_refl _) h6 (by omega) (by decide)) (must125 _ _)
  | case6 i o h h1 h2 h3 h4 ih => rw [styleGo, dif_pos h, if_neg h1, if_neg h2, if_pos h3, if_neg h4]; exact ih (by omega)
  | case7 i o h h1 h2 h3 ih => rw [styleGo, dif_pos h, if_neg h1, if_neg h2, if_neg h3]; exact ih (by omega)
  | case8 i o h => rw [styleGo, dif_neg h]; trivial
theorem styleR_tk (op : Int) (i : Nat) : (styleR s op i).tk s i := R.tk_low (blanks_ge s i) (styleGo_tk op _ _ 1 (Nat.le_refl _))
theorem limR_tk (op : Int) (i : Nat) : (limR s op i).tk s i := by
  have h1 := numEnd_ge s i
  have h2 := blanks_ge s (numEnd s i)
  unfold limR
  split
  · rename_i h; have := at1_lt _ _ _ h; exact TkRise.other (Nat.le_refl _) (by omega) (by omega) (by decide)
  · split
    · rename_i h; have := at1_lt _ _ _ h; exact TkRise.other (Nat.le_refl _) (by omega) (by omega) (by decide)
    · split
      · rename_i h
        have h7 : blanks s (numEnd s i) + 3 ≤ s.size := hereB_len _ _ _ h (by decide)
        exact TkRise.other (Nat.le_refl _) (by omega) (by omega) (by decide)
      · exact failR_tk _ _ _
theorem tokL_tk (sort : Int) (outer : Bool) (i : Nat) (hi : i ≤ s.size) : TkRise s i (textE s m sort outer i).2.1 (tokL (textE s m sort outer i).1 i) := by
  have hb := textE_bd s m sort outer i hi
  have hc := textE_cnt s m sort outer i
  unfold tokL at hc ⊢
  split
  · exact hb.1
  · rename_i h
    rw [if_neg h] at hc
    simp only [List.length_singleton] at hc
    have hlt : i < s.size := by
      rcases Nat.lt_or_ge i s.size with h2 | h2
      · exact h2
      · rw [textE, dif_neg (by omega)] at h; simp at h
    refine TkRise.one (Nat.le_refl _) (by omega) hlt (fun e => absurd e (by decide)) (fun e => absurd e (by decide)) (fun e => absurd e (by decide)) (fun _ h2 => h ?_)
    have : (textE s m sort outer i).1.length = 0 := h2
    rw [List.length_eq_zero_iff.1 this]; rfl
structure Toks (s : ByteArray) (m : Int) (k : Nat) : Prop where
  msg : ∀ sort op i r, i ≤ s.size → msgF s m k sort op i = some r → r.tk s i
  arg : ∀ i r, i < s.size → b8 s i = 123 → argF s m k i = some r → r.tk s i
  typ : ∀ w op i r, 0 ≤ op → i ≤ s.size → typedF s m k w op i = some r → r.tk s i
  cas : ∀ b op i r, i ≤ s.size → casesF s m k b op i = some r → r.tk s i
  cho : ∀ op i r, 0 ≤ op → i ≤ s.size → choiceF s m k op i = some r → r.tk s i
theorem toks : ∀ k, Toks s m k := by
  intro k
  induction k with
  | zero => exact ⟨fun a b c r _ h => by simp [msgF] at h, fun a r _ _ h => by simp [argF] at h, fun a b c r _ _ h => by simp [typedF] at h, fun a b c r _ h => by simp [casesF] at h, fun a b r _ _ h => by simp [choiceF] at h⟩
  | succ k ih =>
    refine ⟨?_, ?_, ?_, ?_, ?_⟩
    · intro sort op i r hi h
      have ht := tokL_tk (s := s) (m := m) sort (decide (op < 0)) i hi
      have hb := textE_bd s m sort (decide (op < 0)) i hi
      rw [msgF] at h
      generalize textE s m sort (decide (op < 0)) i = te at *
      obtain ⟨t1, p, a1⟩ := te
      simp only at ht hb h
      split at h
      · cases Option.some.inj h
        split
        · exact ht
        · exact failR_tk _ _ _
      · split at h
        · rename_i h123
          rw [Option.bind_eq_some_iff] at h
          obtain ⟨ra, h1, h2⟩ := h
          rw [Option.map_eq_some_iff] at h2
          obtain ⟨rb, h3, rfl⟩ := h2
          exact R.tk_pre ht (R.tk_next (ih.arg _ _ (by omega) h123 h1) ((withs k).arg _ _ (by omega) h1) (fun j r' _ h5 h => ih.msg _ _ _ _ h5 h) h3)
        · split at h
          · rename_i h35
            rw [Option.map_eq_some_iff] at h
            obtain ⟨rb, h3, rfl⟩ := h
            refine R.tk_pre (j := p + 1) (TkRise.append (mid := p) ?_ ht) (ih.msg _ _ _ _ (by omega) h3)
            exact TkRise.one (Nat.le_refl _) (Nat.lt_succ_self _) (by omega) (fun e => absurd e (by decide)) (fun e => absurd e (by decide)) (fun _ => h35) (fun e => absurd e (by decide))
          · cases Option.some.inj h
            exact ht
    · intro i r hi h123 h
      rw [argF] at h
      have b1 := blanks_bd s (i + 1) (by omega)
      have b2 := wordEnd_bd s (blanks s (i + 1)) b1.2
      have b3 := blanks_bd s (wordEnd s (blanks s (i + 1))) b2.2
      split at h
      · cases Option.some.inj h; exact failR_tk _ _ _
      · rename_i h0
        have hne : blanks s (i + 1) < wordEnd s (blanks s (i + 1)) := by
          refine extract_pos s _ _ (fun h => h0 ?_)
          rw [identP, if_pos (.inl h)]
        rw [Option.map_eq_some_iff] at h
        obtain ⟨rb, h4, rfl⟩ := h
        have hpre : TkRise s i (blanks s (wordEnd s (blanks s (i + 1)))) [(3, (⟨#[]⟩ : ByteArray), (i : Int)), (5, wordAt s (blanks s (i + 1)), (blanks s (i + 1) : Int))] := by
          refine TkRise.append (mid := i + 1) (a := [(3, (⟨#[]⟩ : ByteArray), (i : Int))]) (TkRise.other b1.1 (by omega) (by omega) (by decide)) ?_
          exact TkRise.one (Nat.le_refl _) (Nat.lt_succ_self _) hi (fun _ => ⟨h123, rfl⟩) (fun e => absurd e (by decide)) (fun e => absurd e (by decide)) (fun e => absurd e (by decide))
        refine R.tk_pre hpre ?_
        split at h4
        · cases Option.some.inj h4; exact must125 _ _
        · refine R.tk_next (must44 _ _) (mustR_within _ _ _ _ _ b3.2) (fun j r' h5 h6 h => ?_) h4
          have b4 := blanks_bd s j h6
          have b5 := letEnd_bd s (blanks s j) b4.2
          split at h
          · cases Option.some.inj h; exact failR_tk _ _ _
          · rename_i hle
            rw [Option.map_eq_some_iff] at h
            obtain ⟨rc, h7, rfl⟩ := h
            exact R.tk_pre (j := letEnd s (blanks s j)) (TkRise.other b4.1 (by omega) (by omega) (by decide)) (ih.typ _ _ _ _ (by omega) b5.2 h7)
    · intro w op i r hop hi h
      rw [typedF] at h
      have b1 := blanks_bd s i hi
      have hw := mustR_within s 44 6 op (blanks s i) b1.2
      refine R.tk_low (j := blanks s i) b1.1 ?_
      split at h
      · exact R.tk_next (must44 _ _) hw (fun j r' _ h5 h => R.tk_next (offsetR_tk _ _) (offsetR_within s op j h5) (fun j r' _ h5 h => ih.cas _ _ _ _ h5 h) h) h
      · split at h
        · exact R.tk_next (must44 _ _) hw (fun j r' _ h5 h => ih.cas _ _ _ _ h5 h) h
        · split at h
          · exact R.tk_next (must44 _ _) hw (fun j r' _ h5 h => ih.cho _ _ _ hop h5 h) h
          · split at h
            · cases Option.some.inj h; exact must125 _ _
            · exact R.tk_next (must44 _ _) hw (fun j r' _ h5 h => by cases Option.some.inj h; exact styleR_tk _ _) h
    · intro b op i r hi h
      rw [casesF] at h
      have b1 := blanks_bd s i hi
      refine R.tk_low (j := blanks s i) b1.1 ?_
      split at h
      · cases Option.some.inj h; exact must125 _ _
      · split at h
        · cases Option.some.inj h; exact failR_tk _ _ _
        · refine R.tk_next (keyR_tk _ _ _ b1.2) (keyR_within s b op _ b1.2) (fun j r' _ h5 h => ?_) h
          have b2 := blanks_bd s j h5
          refine R.tk_low (j := blanks s j) b2.1 ?_
          refine R.tk_next (must123 _ _) (mustR_within s 123 3 op _ b2.2) (fun j2 r2 _ h6 h => ?_) h
          rw [Option.bind_eq_some_iff] at h
          obtain ⟨ra, h2, h3⟩ := h
          exact R.tk_next (ih.msg _ _ _ _ h6 h2) ((withs k).msg _ _ _ _ h6 h2) (fun j3 r3 _ h7 h => R.tk_next (must125 _ _) (mustR_within _ _ _ _ _ h7) (fun j4 r4 _ h8 h => ih.cas _ _ _ _ h8 h) h) h3
    · intro op i r hop hi h
      rw [choiceF] at h
      have b1 := blanks_bd s i hi
      refine R.tk_low (j := blanks s i) b1.1 ?_
      have hl := limR_tk (s := s) op (blanks s i)
      have hw := limR_within s op (blanks s i) b1.2
      rw [limR] at hl hw
      split at h
      · refine R.tk_next hl hw (fun j r' _ h5 h => ?_) h
        rw [Option.bind_eq_some_iff] at h
        obtain ⟨ra, h2, h3⟩ := h
        have hm := ih.msg _ _ _ _ h5 h2
        cases ra with
        | er e a => rw [R.next_er h3]; trivial
        | ok j2 t2 a2 =>
          have hst := msg_stop hop h5 h2
          obtain ⟨r2, h6, rfl⟩ := R.next_ok h3
          refine R.tk_pre hm ?_
          split at h6
          · cases Option.some.inj h6; exact must125 _ _
          · rw [Option.map_eq_some_iff] at h6
            obtain ⟨rb, h7, rfl⟩ := h6
            exact R.tk_pre (j := j2 + 1) (TkRise.other (Nat.le_refl _) (Nat.lt_succ_self _) hst.1 (by decide)) (ih.cho _ _ _ hop (by omega) h7)
      · cases Option.some.inj h; exact failR_tk _ _ _
theorem lexR_tk {j : Nat} {ts : List Tk} {al : List Nat} (h : lexR s m = .ok j ts al) : TkRise s 0 j ts := by
  have h1 := (toks (s := s) (m := m) _).msg _ _ _ _ (Nat.zero_le _) (lexR_some s m)
  rw [h] at h1
  exact h1
theorem TkRise.get : ∀ {ts : List Tk} {lo hi : Nat}, TkRise s lo hi ts → ∀ (i : Nat) (h : i < ts.length), TkOk s ts[i] ∧ (lo : Int) ≤ (ts[i]).2.2 ∧ ∀ (h2 : i + 1 < ts.length), (ts[i]).2.2 < (ts[i + 1]).2.2
  | [], _, _, _, i, h => by simp at h
  | t :: r, lo, hi, hr, i, h => by
    cases i with
    | zero =>
      refine ⟨hr.2.1, hr.1, fun h2 => ?_⟩
      have h3 : 0 < r.length := by simpa using h2
      have := (TkRise.get hr.2.2 0 h3).2.1
      have h0 := hr.2.1.lo
      simp only [List.getElem_cons_zero, List.getElem_cons_succ]
      omega
    | succ i =>
      have h3 : i < r.length := by simpa using h
      obtain ⟨a, b, c⟩ := TkRise.get hr.2.2 i h3
      refine ⟨by simpa using a, ?_, fun h2 => ?_⟩
      · have := hr.1; have := hr.2.1.lo; simp only [List.getElem_cons_succ]; omega
      · simpa using c (by simpa using h2)
end
end Go.Proofs.YtcnhklcbibpjpaaGreatDoor
