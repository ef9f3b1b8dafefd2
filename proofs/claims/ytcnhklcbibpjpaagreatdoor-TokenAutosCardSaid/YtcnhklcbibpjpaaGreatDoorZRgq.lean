/- Lemmas behind the laws of the tokens; no conditions. -/
import Derived.Test.YtcnhklcbibpjpaaGreatDoorZRgo
set_option linter.unusedVariables false
set_option linter.unusedSimpArgs false

namespace Go.Proofs.YtcnhklcbibpjpaaGreatDoor
open P
def MB (s : ByteArray) (r : MR) : Prop := ∀ j ts fs al, r = .ok j ts fs al → j ≤ s.size ∧ ts.length ≤ j ∧ fs.length ≤ j ∧ al.length ≤ j
section
variable {s : ByteArray} {m : Int}
theorem MB_ok {j : Nat} {ts : List Tk} {fs : List Fr} {al : List Nat} (h : j ≤ s.size ∧ ts.length ≤ j ∧ fs.length ≤ j ∧ al.length ≤ j) : MB s (.ok j ts fs al) := fun j2 ts2 fs2 al2 e => by cases e; exact h
theorem MB_er {k a : Int} : MB s (.er k a) := fun j ts fs al e => by cases e
theorem mr_MB {r : R} {i : Nat} {ts : List Tk} {fs : List Fr} {al : List Nat} (h : r.within i s.size) (hc : r.cnt i) (ha : ∀ j ts al, r = .ok j ts al → al = []) (ht : ts.length ≤ i) (hf : fs.length ≤ i) (hal : al.length ≤ i) : MB s (r.mr ts fs al) := by
  cases r with
  | er k a => exact MB_er
  | ok j t1 a1 =>
    have := ha _ _ _ rfl
    subst this
    have h1 := h _ _ _ rfl
    simp only [R.cnt] at hc
    exact MB_ok (by simp only [List.length_append, List.length_nil]; omega)
theorem failR_MB (pl : Nat) (op : Int) (ts : List Tk) (fs : List Fr) (al : List Nat) : MB s ((failR s pl op).mr ts fs al) := by
  obtain ⟨k, a, h⟩ := failR_cases s pl op
  rw [h]; exact MB_er
theorem limR_al {op : Int} {i j : Nat} {ts : List Tk} {al : List Nat} (h : limR s op i = .ok j ts al) : al = [] := by
  unfold limR at h
  split at h
  · cases h; rfl
  · split at h
    · cases h; rfl
    · split at h
      · cases h; rfl
      · exact absurd h (failR_ne _ _ _ _ _ _)
theorem limF_MB (op : Int) (i : Nat) (hi : i ≤ s.size) (ts : List Tk) (fs : List Fr) (al : List Nat) (ht : ts.length ≤ i) (hf : fs.length ≤ i) (hal : al.length ≤ i) : MB s ((limF s op i).mr ts fs al) := by
  have hb := blanks_bd s i hi
  unfold limF
  split
  · exact mr_MB (i := blanks s i) (R.within_le (limR_within s op _ hb.2) (by omega)) (limR_cnt s op _) (fun _ _ _ => limR_al) (by omega) (by omega) (by omega)
  · exact failR_MB _ _ _ _ _
theorem cplxM_MB (many ch : Bool) (op : Int) (i : Nat) (ts : List Tk) (fs : List Fr) (al : List Nat) (ht : ts.length ≤ i) (hf : fs.length ≤ i) (hal : al.length ≤ i) : MB s (cplxM s many ch op i ts fs al) := by
  rw [cplxM]
  split
  · rename_i h44
    have hlt := at1_lt _ _ _ h44
    have hb := blanks_bd s (i + 1) (by omega)
    have key : ∀ (j : Nat) (ts1 : List Tk), i + 1 + ts1.length ≤ j → j ≤ s.size → MB s (if ch = true then (limF s op j).mr (ts ++ [(6, (⟨#[]⟩ : ByteArray), ((i : Nat) : Int))] ++ ts1) (fs ++ [(2, false, op, true, 0)]) al
      else .ok j (ts ++ [(6, (⟨#[]⟩ : ByteArray), ((i : Nat) : Int))] ++ ts1) (fs ++ [(if many then 1 else 0, many, op, false, 0)]) al) := by
      intro j ts1 h1 h2
      split
      · exact limF_MB _ _ h2 _ _ _ (by simp; omega) (by simp; omega) (by omega)
      · exact MB_ok (by simp; omega)
    split
    · exact MB_er
    · rename_i j ts1 al1 hm
      split at hm
      · have h1 := offsetR_within s op (i + 1) (by omega)
        have h2 := offsetR_cnt s op (i + 1)
        rw [hm] at h1 h2
        exact key _ _ h2 (h1 _ _ _ rfl).2
      · cases hm
        exact key _ _ (by simp; omega) hb.2
  · exact failR_MB _ _ _ _ _
theorem argM4_MB (op : Int) (t : ByteArray) (e : Nat) (ts : List Tk) (fs : List Fr) (al : List Nat) (ht : ts.length ≤ e) (hf : fs.length ≤ e) (hal : al.length ≤ e) : MB s (argM4 s op t e ts fs al) := by
  rw [argM4]
  split
  · exact cplxM_MB _ _ _ _ _ _ _ ht hf hal
  · split
    · exact cplxM_MB _ _ _ _ _ _ _ ht hf hal
    · split
      · exact cplxM_MB _ _ _ _ _ _ _ ht hf hal
      · split
        · rename_i h
          have := at1_lt _ _ _ h
          exact MB_ok (by simp; omega)
        · split
          · rename_i h
            have := at1_lt _ _ _ h
            split
            · exact MB_er
            · rename_i j ts2 fs2 al2 hm
              have h2 := styM_er.out' _ _ _ _ hm
              rw [styM] at hm
              split at hm
              · cases hm
              · rename_i j0 hj0
                have h3 := styE_ge _ _ _ hj0
                split at hm
                · cases hm
                · rename_i h5
                  have h6 := trimP_pos _ _ _ h5
                  cases hm
                  simp only [List.length_append, List.length_singleton] at h2
                  exact MB_ok (by simp; omega)
          · exact failR_MB _ _ _ _ _
theorem argM3_MB (op : Int) (b : Nat) (hb : b ≤ s.size) (ts : List Tk) (fs : List Fr) (al : List Nat) (ht : ts.length ≤ b) (hf : fs.length ≤ b) (hal : al.length ≤ b) : MB s (argM3 s op b ts fs al) := by
  have h1 := letEnd_bd s b hb
  have h2 := blanks_ge s (letEnd s b)
  rw [argM3]
  split
  · exact failR_MB _ _ _ _ _
  · exact argM4_MB _ _ _ _ _ _ (by simp; omega) (by omega) (by omega)
theorem argM2_MB (op : Int) (e : Nat) (ts : List Tk) (fs : List Fr) (al : List Nat) (ht : ts.length ≤ e) (hf : fs.length ≤ e) (hal : al.length ≤ e) : MB s (argM2 s op e ts fs al) := by
  rw [argM2]
  split
  · rename_i h
    have := at1_lt _ _ _ h
    exact MB_ok (by simp; omega)
  · split
    · rename_i h
      have := at1_lt _ _ _ h
      have hb := blanks_bd s (e + 1) (by omega)
      exact argM3_MB _ _ hb.2 _ _ _ (by simp; omega) (by omega) (by omega)
    · exact failR_MB _ _ _ _ _
theorem argM_MB (i : Nat) (hi : i < s.size) (ts : List Tk) (fs : List Fr) (al : List Nat) (ht : ts.length ≤ i) (hf : fs.length ≤ i) (hal : al.length ≤ i) : MB s (argM s i ts fs al) := by
  have h1 := blanks_ge s (i + 1)
  have h2 := blanks_ge s (wordEnd s (blanks s (i + 1)))
  rw [argM]
  split
  · exact failR_MB _ _ _ _ _
  · rename_i h0
    have h3 : blanks s (i + 1) < wordEnd s (blanks s (i + 1)) := by
      refine extract_pos s _ _ (fun h => h0 ?_)
      rw [identP, if_pos (.inl h)]
    exact argM2_MB _ _ _ _ _ (by simp; omega) (by omega) (by omega)
theorem textE_al (sort : Int) (outer : Bool) (i : Nat) (hi : i ≤ s.size) : (textE s m sort outer i).2.2.length + i ≤ (textE s m sort outer i).2.1 := by
  induction i using textE.induct s m sort outer with
  | case1 i h h1 ih =>
    have hb := aposE_le s m sort i h
    have hg := aposE_gt s m sort i
    have ha : (aposE s m sort i).2.2.length ≤ 1 := by unfold aposE; repeat' split
                                                      all_goals simp
    have := ih hb.1
    rw [textE, dif_pos h, if_pos h1]
    simp only [List.length_append]
    omega
  | case2 i h h1 h2 =>
    rw [textE, dif_pos h, if_neg h1, if_pos h2]
    simp
  | case3 i h h1 h2 ih =>
    have := ih (by omega)
    rw [textE, dif_pos h, if_neg h1, if_neg h2]
    simp only
    omega
  | case4 i h =>
    rw [textE, dif_neg h]
    simp
theorem msgM_MB (i : Nat) (hi : i ≤ s.size) (ts : List Tk) (fs : List Fr) (al : List Nat) (ht : ts.length ≤ i) (hf : fs.length ≤ i) (hal : al.length ≤ i) : MB s (msgM s m i ts fs al) := by
  have key : ∀ sort outer, MB s (.ok (textE s m sort outer i).2.1 (ts ++ tokL (textE s m sort outer i).1 i) fs (al ++ (textE s m sort outer i).2.2)) := by
    intro sort outer
    have h1 := textE_bd s m sort outer i hi
    have h2 := textE_cnt s m sort outer i
    have h3 := textE_al (s := s) (m := m) sort outer i hi
    exact MB_ok (by simp only [List.length_append]; omega)
  rw [msgM]
  split
  · exact key _ _
  · split
    · exact MB_er
    · exact key _ _
theorem synM_MB (i : Nat) (hi : i < s.size) (ts : List Tk) (fs : List Fr) (al : List Nat) (ht : ts.length ≤ i) (hf : fs.length ≤ i) (hal : al.length ≤ i) : MB s (synM s i ts fs al) := by
  rw [synM]
  split
  · exact argM_MB _ hi _ _ _ ht hf hal
  · split
    · exact MB_ok (by simp; omega)
    · split
      · exact MB_er
      · split
        · exact limF_MB _ _ (by omega) _ _ _ (by simp; omega) (by simp; omega) (by omega)
        · split
          · exact MB_ok (by simp; omega)
          · exact MB_ok (by simp; omega)
theorem keyM_MB (i : Nat) (hi : i ≤ s.size) (ts : List Tk) (fs : List Fr) (f : Fr) (al : List Nat) (ht : ts.length ≤ i) (hf : fs.length + 1 ≤ i) (hal : al.length ≤ i) : MB s (keyM s i ts fs f al) := by
  have hb := blanks_bd s i hi
  rw [keyM]
  split
  · rename_i h
    have := at1_lt _ _ _ h
    exact MB_ok (by simp; omega)
  · have h1 := keyR_within s f.2.1 f.2.2.1 _ hb.2
    have h2 := keyR_cnt s f.2.1 f.2.2.1 (blanks s i)
    split
    · exact MB_er
    · rename_i j ts1 al1 hm
      rw [hm] at h1 h2
      have h3 := h1 _ _ _ rfl
      simp only [R.cnt] at h2
      refine mr_MB (i := j) (R.within_le (mustR_within s 123 3 _ j h3.2) (by omega)) (mustR_cnt _ _ _ _ _) (fun j2 t2 a2 e => ?_) (by simp; omega) (by simp; omega) (by omega)
      unfold mustR at e
      split at e
      · cases e; rfl
      · exact absurd e (failR_ne _ _ _ _ _ _)
end
end Go.Proofs.YtcnhklcbibpjpaaGreatDoor
