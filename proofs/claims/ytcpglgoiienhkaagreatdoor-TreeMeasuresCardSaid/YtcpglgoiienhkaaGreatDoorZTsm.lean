/- The lexer's tokens' texts are no longer than the text and one byte. -/
import Derived.Test.YtcpglgoiienhkaaGreatDoorZMF
set_option linter.unusedVariables false
set_option linter.unusedSimpArgs false

namespace Go.Proofs.YtcpglgoiienhkaaGreatDoor
open P
def SmL (s : ByteArray) (ts : List Tk) : Prop := ∀ t, t ∈ ts → t.2.1.size ≤ s.size + 1
section
variable {s : ByteArray} {m : Int}
theorem SmL.nil : SmL s [] := fun t h => by cases h
theorem SmL.cons {t : Tk} {ts : List Tk} (h1 : t.2.1.size ≤ s.size + 1) (h : SmL s ts) : SmL s (t :: ts) := fun u hu => by
  rcases List.mem_cons.1 hu with rfl | hu
  · exact h1
  · exact h u hu
theorem SmL.append {a b : List Tk} (ha : SmL s a) (hb : SmL s b) : SmL s (a ++ b) := fun t h => (List.mem_append.1 h).elim (ha t) (hb t)
theorem SmL.one {k a : Int} {t : ByteArray} (h : t.size ≤ s.size + 1) : SmL s [(k, t, a)] := SmL.cons h SmL.nil
def R.sml (s : ByteArray) : R → Prop
  | .ok _ ts _ => SmL s ts
  | .er .. => True
theorem R.sml_pre {ts : List Tk} {al : List Nat} {r : R} (ha : SmL s ts) (h : r.sml s) : (R.pre ts al r).sml s := by
  cases r with
  | ok k a b => exact SmL.append ha h
  | er e a => trivial
theorem R.sml_map {ts : List Tk} {al : List Nat} {o : Option R} {r : R} (ha : SmL s ts) (ho : ∀ q, o = some q → q.sml s) (h : o.map (R.pre ts al) = some r) : r.sml s := by
  rw [Option.map_eq_some_iff] at h
  obtain ⟨q, h1, rfl⟩ := h
  exact R.sml_pre ha (ho q h1)
theorem R.sml_next {r r2 : R} {f : Nat → Option R} (h : r.sml s) (hf : ∀ j r', f j = some r' → r'.sml s) (h2 : r.next f = some r2) : r2.sml s := by
  cases r with
  | er e a => rw [R.next_er h2]; trivial
  | ok j ts al =>
    obtain ⟨r', h3, rfl⟩ := R.next_ok h2
    exact R.sml_pre h (hf j r' h3)
theorem failR_sml (pl : Nat) (op : Int) : (failR s pl op).sml s := by unfold failR; split <;> trivial
theorem zero_sml : (⟨#[]⟩ : ByteArray).size ≤ s.size + 1 := Nat.zero_le _
theorem ext_sml (i j : Nat) : (s.extract i j).size ≤ s.size + 1 := by rw [ByteArray.size_extract]; omega
theorem mustR_sml (c : Nat) (kind op : Int) (i : Nat) : (mustR s c kind op i).sml s := by
  unfold mustR
  split
  · exact SmL.one zero_sml
  · exact failR_sml _ _
theorem offsetR_sml (op : Int) (i : Nat) : (offsetR s op i).sml s := by
  unfold offsetR
  split
  · split
    · exact SmL.one (ext_sml _ _)
    · exact failR_sml _ _
  · exact SmL.nil
theorem keyR_sml (b : Bool) (op : Int) (i : Nat) : (keyR s b op i).sml s := by
  unfold keyR
  split
  · rename_i h
    have hlt := at1_lt s i 61 (by cases b <;> simp_all)
    split
    · refine SmL.one ?_
      rw [ByteArray.size_append]
      have : (numAt s (i + 1)).size ≤ s.size - (i + 1) := by unfold numAt; rw [ByteArray.size_extract]; omega
      have h1 : (⟨#[61]⟩ : ByteArray).size = 1 := rfl
      omega
    · exact failR_sml _ _
  · split
    · exact failR_sml _ _
    · exact SmL.one (ext_sml _ _)
theorem trimP_sml (w : ByteArray) : (trimP w).size ≤ w.size := by
  unfold trimP
  split
  · exact Nat.zero_le _
  · rw [ByteArray.size_extract]; omega
theorem styleGo_sml (op : Int) (fr : Nat) (i o : Nat) : (styleGo s op fr i o).sml s := by
  induction i, o using styleGo.induct s fr with
  | case1 i o h h1 h2 => rw [styleGo, dif_pos h, if_pos h1, if_pos h2]; trivial
  | case2 i o h h1 h2 ih => rw [styleGo, dif_pos h, if_pos h1, if_neg h2]; exact ih
  | case3 i o h h1 h2 ih => rw [styleGo, dif_pos h, if_neg h1, if_pos h2]; exact ih
  | case4 i o h h1 h2 h3 h4 h5 => rw [styleGo, dif_pos h, if_neg h1, if_neg h2, if_pos h3, if_pos h4, if_pos h5]; exact failR_sml _ _
  | case5 i o h h1 h2 h3 h4 h5 =>
    rw [styleGo, dif_pos h, if_neg h1, if_neg h2, if_pos h3, if_pos h4, if_neg h5]
    exact R.sml_pre (SmL.one (Nat.le_trans (trimP_sml _) (ext_sml _ _))) (mustR_sml _ _ _ _)
  | case6 i o h h1 h2 h3 h4 ih => rw [styleGo, dif_pos h, if_neg h1, if_neg h2, if_pos h3, if_neg h4]; exact ih
  | case7 i o h h1 h2 h3 ih => rw [styleGo, dif_pos h, if_neg h1, if_neg h2, if_neg h3]; exact ih
  | case8 i o h => rw [styleGo, dif_neg h]; trivial
theorem textE_len (sort : Int) (outer : Bool) (i : Nat) (hi : i ≤ s.size) : (textE s m sort outer i).1.length + i ≤ (textE s m sort outer i).2.1 := by
  induction i using textE.induct s m sort outer with
  | case1 i h h1 ih =>
    have hb := aposE_le s m sort i h
    have hg := aposE_gt s m sort i
    have := ih hb.1
    rw [textE, dif_pos h, if_pos h1]
    simp only [List.length_append]
    omega
  | case2 i h h1 h2 =>
    rw [textE, dif_pos h, if_neg h1, if_pos h2]
    simp
  | case3 i h h1 h2 ih =>
    have := ih (by omega)
    rw [textE, dif_pos h, if_neg h1, if_neg h2]
    simp only [List.length_cons]
    omega
  | case4 i h =>
    rw [textE, dif_neg h]
    simp
theorem textE_small (sort : Int) (outer : Bool) (i : Nat) : (textE s m sort outer i).1.length ≤ s.size := by
  rcases Nat.lt_or_ge s.size i with h | h
  · rw [textE, dif_neg (by omega)]; exact Nat.zero_le _
  · have h1 := textE_len (s := s) (m := m) sort outer i h
    have h2 := textE_bd s m sort outer i h
    omega
theorem tokL_sml (sort : Int) (outer : Bool) (i p : Nat) : SmL s (tokL (textE s m sort outer i).1 p) := by
  have := textE_small (s := s) (m := m) sort outer i
  unfold tokL
  split
  · exact SmL.nil
  · refine SmL.one ?_
    have h : (⟨(textE s m sort outer i).1.toArray⟩ : ByteArray).size = (textE s m sort outer i).1.length := by show Array.size _ = _; simp
    omega
structure Smls (s : ByteArray) (m : Int) (k : Nat) : Prop where
  msg : ∀ sort op i r, msgF s m k sort op i = some r → r.sml s
  arg : ∀ i r, argF s m k i = some r → r.sml s
  typ : ∀ w op i r, typedF s m k w op i = some r → r.sml s
  cas : ∀ b op i r, casesF s m k b op i = some r → r.sml s
  cho : ∀ op i r, choiceF s m k op i = some r → r.sml s
theorem smls : ∀ k, Smls s m k := by
  intro k
  induction k with
  | zero => exact ⟨fun a b c r h => by simp [msgF] at h, fun a r h => by simp [argF] at h, fun a b c r h => by simp [typedF] at h, fun a b c r h => by simp [casesF] at h, fun a b r h => by simp [choiceF] at h⟩
  | succ k ih =>
    refine ⟨?_, ?_, ?_, ?_, ?_⟩
    · intro sort op i r h
      have ht := tokL_sml (s := s) (m := m) sort (decide (op < 0)) i i
      rw [msgF] at h
      generalize textE s m sort (decide (op < 0)) i = te at *
      obtain ⟨t1, p, a1⟩ := te
      simp only at h ht
      split at h
      · cases Option.some.inj h
        split
        · exact ht
        · exact failR_sml _ _
      · split at h
        · rw [Option.bind_eq_some_iff] at h
          obtain ⟨ra, h1, h2⟩ := h
          exact R.sml_map ht (fun q h3 => R.sml_next (ih.arg _ _ h1) (fun j r' h => ih.msg _ _ _ _ h) h3) h2
        · split at h
          · exact R.sml_map (SmL.append ht (SmL.one zero_sml)) (fun q h3 => ih.msg _ _ _ _ h3) h
          · cases Option.some.inj h
            exact ht
    · intro i r h
      rw [argF] at h
      split at h
      · cases Option.some.inj h; exact failR_sml _ _
      · refine R.sml_map (SmL.cons zero_sml (SmL.one (ext_sml _ _))) (fun q h => ?_) h
        split at h
        · cases Option.some.inj h; exact mustR_sml _ _ _ _
        · refine R.sml_next (mustR_sml _ _ _ _) (fun j r' h => ?_) h
          split at h
          · cases Option.some.inj h; exact failR_sml _ _
          · exact R.sml_map (SmL.one (ext_sml _ _)) (fun q h => ih.typ _ _ _ _ h) h
    · intro w op i r h
      rw [typedF] at h
      split at h
      · exact R.sml_next (mustR_sml _ _ _ _) (fun j r' h => R.sml_next (offsetR_sml _ _) (fun j r' h => ih.cas _ _ _ _ h) h) h
      · split at h
        · exact R.sml_next (mustR_sml _ _ _ _) (fun j r' h => ih.cas _ _ _ _ h) h
        · split at h
          · exact R.sml_next (mustR_sml _ _ _ _) (fun j r' h => ih.cho _ _ _ h) h
          · split at h
            · cases Option.some.inj h; exact mustR_sml _ _ _ _
            · exact R.sml_next (mustR_sml _ _ _ _) (fun j r' h => by cases Option.some.inj h; exact styleGo_sml _ _ _ _) h
    · intro b op i r h
      rw [casesF] at h
      split at h
      · cases Option.some.inj h; exact mustR_sml _ _ _ _
      · split at h
        · cases Option.some.inj h; exact failR_sml _ _
        · refine R.sml_next (keyR_sml _ _ _) (fun j r' h => R.sml_next (mustR_sml _ _ _ _) (fun j r' h => ?_) h) h
          rw [Option.bind_eq_some_iff] at h
          obtain ⟨rm, h1, h2⟩ := h
          exact R.sml_next (ih.msg _ _ _ _ h1) (fun j r' h => R.sml_next (mustR_sml _ _ _ _) (fun j r' h => ih.cas _ _ _ _ h) h) h2
    · intro op i r h
      rw [choiceF] at h
      split at h
      · have hn : (numAt s (blanks s i)).size ≤ s.size := by unfold numAt; rw [ByteArray.size_extract]; omega
        have hone : ∀ c : UInt8, (numAt s (blanks s i) ++ (⟨#[c]⟩ : ByteArray)).size ≤ s.size + 1 := fun c => by
          rw [ByteArray.size_append]
          have h1 : (⟨#[c]⟩ : ByteArray).size = 1 := rfl
          omega
        refine R.sml_next ?_ (fun j r' h => ?_) h
        · split
          · exact SmL.one (hone _)
          · split
            · exact SmL.one (hone _)
            · split
              · exact SmL.one (hone _)
              · exact failR_sml _ _
        · rw [Option.bind_eq_some_iff] at h
          obtain ⟨rm, h1, h2⟩ := h
          refine R.sml_next (ih.msg _ _ _ _ h1) (fun j r' h => ?_) h2
          split at h
          · cases Option.some.inj h; exact mustR_sml _ _ _ _
          · exact R.sml_map (SmL.one zero_sml) (fun q h => ih.cho _ _ _ h) h
      · cases Option.some.inj h; exact failR_sml _ _
theorem lexR_sml {j : Nat} {ts : List Tk} {al : List Nat} (h : lexR s m = .ok j ts al) : SmL s ts := by
  have h1 := lexR_some s m
  rw [h] at h1
  exact (smls _).msg _ _ _ _ h1
end
end Go.Proofs.YtcpglgoiienhkaaGreatDoor
