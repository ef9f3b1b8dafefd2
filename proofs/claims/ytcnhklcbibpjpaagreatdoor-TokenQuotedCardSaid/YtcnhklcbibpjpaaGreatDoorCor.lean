/- Two texts that agree over a stretch are read alike there. -/
import Derived.Test.YtcnhklcbibpjpaaGreatDoorRis
import Derived.Lib.DecodeN
import Derived.Lib.IndexLaws
set_option linter.unusedVariables false
set_option linter.unusedSimpArgs false
namespace Go.Proofs.YtcnhklcbibpjpaaGreatDoor
open P

/-! ### Two texts that agree over a stretch -/
/-- A byte that ends blanks, words, numbers and letters alike. -/
def endC (c : Nat) : Prop := c = 39 ∨ c = 35 ∨ c = 123

theorem get_b8 (s : ByteArray) (i : Nat) : (s.get! i).toNat = b8 s i := by
  unfold b8
  split
  · rename_i h
    rw [show s.get! i = s[i]'h from by
      show s.data[i]! = s.data[i]'h
      rw [getElem!_pos]]
  · rename_i h
    show (s.data[i]!).toNat = 0
    rw [getElem!_neg _ _ (by simpa using h)]
    rfl

/-- Bytes agree from places on, over a length: it ends both texts, or its last byte is one that ends whatever is read. -/
structure Ag (s t : ByteArray) (i i' L : Nat) : Prop where
  ls : i + L ≤ s.size
  lt : i' + L ≤ t.size
  eq : ∀ k, k < L → b8 s (i + k) = b8 t (i' + k)
  fin : (i + L = s.size ∧ i' + L = t.size) ∨ (0 < L ∧ endC (b8 s (i + (L - 1))))

theorem Ag.move {s t : ByteArray} {i i' L : Nat} (h : Ag s t i i' L) (k : Nat) (hk : k < L ∨ (k = L ∧ i + L = s.size ∧ i' + L = t.size)) : Ag s t (i + k) (i' + k) (L - k) := by
  have := h.ls
  have := h.lt
  refine ⟨by omega, by omega, fun j hj => ?_, ?_⟩
  · rw [Nat.add_assoc, Nat.add_assoc]; exact h.eq _ (by omega)
  · rcases h.fin with h1 | h1
    · left; omega
    · rcases hk with hk | hk
      · right
        refine ⟨by omega, ?_⟩
        rw [show i + k + (L - k - 1) = i + (L - 1) from by omega]
        exact h1.2
      · left; omega

theorem decodeN_ag (n n' L b0 b1 b2 b3 c1 c2 c3 : Nat) (hL : 1 ≤ L) (hn : L ≤ n) (hn' : L ≤ n') (h1 : 1 < L → b1 = c1) (h2 : 2 < L → b2 = c2) (h3 : 3 < L → b3 = c3)
    (f : (n = L ∧ n' = L) ∨ ((L = 1 → b0 < 128) ∧ (L = 2 → b1 < 128) ∧ (L = 3 → b2 < 128) ∧ (L = 4 → b3 < 128))) :
    Lib.decodeN n b0 b1 b2 b3 = Lib.decodeN n' b0 c1 c2 c3 ∧ (Lib.decodeN n b0 b1 b2 b3).2 ≤ L ∧ ((Lib.decodeN n b0 b1 b2 b3).2 = L → (n = L ∧ n' = L) ∨ (L = 1 ∧ Lib.decodeN n b0 b1 b2 b3 = (b0, 1))) := by
  have hl : L = 1 ∨ L = 2 ∨ L = 3 ∨ 4 ≤ L := by omega
  have e1 : (1 < L → b1 = c1) := h1
  rcases hl with rfl | rfl | rfl | hl
  · rcases f with ⟨rfl, rfl⟩ | ⟨f, _⟩
    · unfold Lib.decodeN
      simp only [show ¬ (1 < 1) from by omega, false_and, and_false, if_false]
      split <;> simp
    · have := f rfl
      unfold Lib.decodeN
      rw [if_pos (by omega), if_pos (by omega)]; simp
  · obtain rfl := h1 (by omega)
    rcases f with ⟨rfl, rfl⟩ | ⟨_, f, _⟩
    · unfold Lib.decodeN
      simp only [show ¬ (2 < 2) from by omega, false_and, and_false, if_false]
      repeat' split
      all_goals simp
    · have := f rfl
      have d : ¬ b1 / 64 = 2 := by omega
      unfold Lib.decodeN
      simp only [d, false_and, and_false, if_false]
      split <;> simp
  · obtain rfl := h1 (by omega)
    obtain rfl := h2 (by omega)
    rcases f with ⟨rfl, rfl⟩ | ⟨_, _, f, _⟩
    · unfold Lib.decodeN
      simp only [show ¬ (3 < 3) from by omega, false_and, and_false, if_false]
      repeat' split
      all_goals simp
    · have := f rfl
      have d : ¬ b2 / 64 = 2 := by omega
      have q1 : 1 < n := by omega
      have q2 : 1 < n' := by omega
      unfold Lib.decodeN
      simp only [d, q1, q2, true_and, false_and, and_false, if_false]
      repeat' split
      all_goals simp
  · obtain rfl := h1 (by omega)
    obtain rfl := h2 (by omega)
    obtain rfl := h3 (by omega)
    have q1 : 1 < n := by omega
    have q2 : 1 < n' := by omega
    have q3 : 2 < n := by omega
    have q4 : 2 < n' := by omega
    have q5 : 3 < n := by omega
    have q6 : 3 < n' := by omega
    have e : Lib.decodeN n b0 b1 b2 b3 = Lib.decodeN n' b0 b1 b2 b3 := by
      unfold Lib.decodeN
      simp only [q1, q2, q3, q4, q5, q6, true_and]
    refine ⟨e, ?_, ?_⟩
    · unfold Lib.decodeN
      repeat' split
      all_goals (simp; try omega)
    · intro hw
      have h4 : L = 4 ∧ (b3 / 64 = 2) := by
        unfold Lib.decodeN at hw
        repeat' split at hw
        all_goals (simp only at hw; first | omega | exact ⟨hw.symm, by rename_i h _; exact h.2.2.2.2⟩ | exact ⟨hw.symm, by rename_i h _ ; omega⟩)
      left
      rcases f with f | f
      · exact f
      · have := f.2.2.2 h4.1
        omega

theorem Ag.dec {s t : ByteArray} {i i' L : Nat} (h : Ag s t i i' L) (hL : 0 < L) :
    Utf8.decode s i = Utf8.decode t i' ∧ (Utf8.decode s i).2 ≤ L ∧ 1 ≤ (Utf8.decode s i).2 ∧
    ((Utf8.decode s i).2 = L → (i + L = s.size ∧ i' + L = t.size) ∨ (endC (b8 s i) ∧ Utf8.decode s i = (b8 s i, 1))) := by
  have hls := h.ls
  have hlt := h.lt
  have hw := width_pos s i (by omega)
  have e0 := h.eq 0 hL
  simp only [Nat.add_zero] at e0
  rw [Lib.decode_at, Lib.decode_at] at *
  simp only [get_b8] at *
  rw [← e0]
  have hf : endC (b8 s (i + (L - 1))) → b8 s (i + (L - 1)) < 128 := by rintro (h | h | h) <;> omega
  have := decodeN_ag (s.size - i) (t.size - i') L (b8 s i) (b8 s (i + 1)) (b8 s (i + 2)) (b8 s (i + 3)) (b8 t (i' + 1)) (b8 t (i' + 2)) (b8 t (i' + 3)) hL (by omega) (by omega)
    (h.eq 1) (h.eq 2) (h.eq 3) (by
      rcases h.fin with f | f
      · left; omega
      · right
        have f2 := hf f.2
        refine ⟨fun e => ?_, fun e => ?_, fun e => ?_, fun e => ?_⟩ <;> (subst e; simpa using f2))
  refine ⟨this.1, this.2.1, hw, fun e => ?_⟩
  rcases this.2.2 e with q | ⟨rfl, q⟩
  · left; omega
  · rcases h.fin with f | f
    · left; exact f
    · right
      exact ⟨by simpa using f.2, q⟩

theorem endC_sp {c : Nat} (h : endC c) : spB (c : Int) = false := by rcases h with rfl | rfl | rfl <;> decide
theorem endC_sy {c : Nat} (h : endC c) : syB (c : Int) = true := by rcases h with rfl | rfl | rfl <;> decide
theorem endC_num {c : Nat} (h : endC c) : numB c = false := by rcases h with rfl | rfl | rfl <;> decide
theorem endC_let {c : Nat} (h : endC c) : letB c = false := by rcases h with rfl | rfl | rfl <;> decide

/-- Behind a rune that is no ending byte. -/
theorem Ag.rune {s t : ByteArray} {i i' L : Nat} (h : Ag s t i i' L) (hL : 0 < L) (hne : endC (b8 s i) → Utf8.decode s i ≠ (b8 s i, 1)) : Ag s t (i + (Utf8.decode s i).2) (i' + (Utf8.decode s i).2) (L - (Utf8.decode s i).2) := by
  obtain ⟨h1, h2, h3, h4⟩ := h.dec hL
  refine h.move _ ?_
  by_cases e : (Utf8.decode s i).2 = L
  · right
    rcases h4 e with q | ⟨q1, q2⟩
    · exact ⟨e, q⟩
    · exact absurd q2 (hne q1)
  · left; omega
theorem Ag.byte {s t : ByteArray} {i i' L : Nat} (h : Ag s t i i' L) (hL : 0 < L) (hne : ¬ endC (b8 s i)) : Ag s t (i + 1) (i' + 1) (L - 1) := by
  refine h.move 1 ?_
  rcases h.fin with f | f
  · by_cases e : 1 = L
    · right; subst e; exact ⟨rfl, f⟩
    · left; omega
  · left
    by_cases e : L = 1
    · subst e; exact absurd f.2 hne
    · omega
theorem Ag.ends {s t : ByteArray} {i i' L : Nat} (h : Ag s t i i' L) (hL : ¬ 0 < L) : L = 0 ∧ i = s.size ∧ i' = t.size := by
  rcases h.fin with f | f
  · omega
  · exact absurd f.1 hL
theorem Ag.byte0 {s t : ByteArray} {i i' L : Nat} (h : Ag s t i i' L) (hL : 0 < L) : b8 s i = b8 t i' := by simpa using h.eq 0 hL

theorem blanks_ag {s t : ByteArray} {L : Nat} : ∀ {i i' : Nat}, Ag s t i i' L → ∃ d, d ≤ L ∧ blanks s i = i + d ∧ blanks t i' = i' + d ∧ Ag s t (i + d) (i' + d) (L - d) := by
  induction L using Nat.strongRecOn with
  | _ L ih =>
  intro i i' h
  by_cases hL : 0 < L
  · obtain ⟨h1, h2, h3, h4⟩ := h.dec hL
    have hls := h.ls
    have hlt := h.lt
    rw [show blanks s i = _ from by rw [blanks, dif_pos (show i < s.size by omega)], show blanks t i' = _ from by rw [blanks, dif_pos (show i' < t.size by omega)], ← h1]
    by_cases hs : spB (Utf8.decode s i).1 = true
    · rw [if_pos hs, if_pos hs]
      have h5 := h.rune hL fun e1 e2 => by rw [e2] at hs; rw [show spB ((b8 s i, 1) : Nat × Nat).1 = false from endC_sp e1] at hs; cases hs
      obtain ⟨d, d1, d2, d3, d4⟩ := ih _ (by omega) h5
      refine ⟨(Utf8.decode s i).2 + d, by omega, by omega, by omega, ?_⟩
      have e : L - ((Utf8.decode s i).2 + d) = L - (Utf8.decode s i).2 - d := by omega
      rw [e, ← Nat.add_assoc, ← Nat.add_assoc]
      exact d4
    · rw [if_neg hs, if_neg hs]
      exact ⟨0, by omega, rfl, rfl, by simpa using h⟩
  · obtain ⟨e1, e2, e3⟩ := h.ends hL
    have hls := h.ls
    have hlt := h.lt
    rw [show blanks s i = i from by rw [blanks, dif_neg (show ¬ i < s.size by omega)], show blanks t i' = i' from by rw [blanks, dif_neg (show ¬ i' < t.size by omega)]]
    exact ⟨0, by omega, rfl, rfl, by simpa using h⟩

theorem wordEnd_ag {s t : ByteArray} {L : Nat} : ∀ {i i' : Nat}, Ag s t i i' L → ∃ d, d ≤ L ∧ wordEnd s i = i + d ∧ wordEnd t i' = i' + d ∧ Ag s t (i + d) (i' + d) (L - d) := by
  induction L using Nat.strongRecOn with
  | _ L ih =>
  intro i i' h
  by_cases hL : 0 < L
  · obtain ⟨h1, h2, h3, h4⟩ := h.dec hL
    have hls := h.ls
    have hlt := h.lt
    have hst : stopB s i = stopB t i' := by unfold stopB; rw [h1]
    rw [show wordEnd s i = _ from by rw [wordEnd, dif_pos (show i < s.size by omega)], show wordEnd t i' = _ from by rw [wordEnd, dif_pos (show i' < t.size by omega)], ← h1, ← hst]
    by_cases hs : stopB s i = true
    · rw [if_pos hs, if_pos hs]
      exact ⟨0, by omega, rfl, rfl, by simpa using h⟩
    · rw [if_neg hs, if_neg hs]
      have h5 := h.rune hL fun e1 e2 => by
        apply hs
        unfold stopB
        rw [e2]
        simp [endC_sy e1]
      obtain ⟨d, d1, d2, d3, d4⟩ := ih _ (by omega) h5
      refine ⟨(Utf8.decode s i).2 + d, by omega, by omega, by omega, ?_⟩
      have e : L - ((Utf8.decode s i).2 + d) = L - (Utf8.decode s i).2 - d := by omega
      rw [e, ← Nat.add_assoc, ← Nat.add_assoc]
      exact d4
  · obtain ⟨e1, e2, e3⟩ := h.ends hL
    have hls := h.ls
    have hlt := h.lt
    rw [show wordEnd s i = i from by rw [wordEnd, dif_neg (show ¬ i < s.size by omega)], show wordEnd t i' = i' from by rw [wordEnd, dif_neg (show ¬ i' < t.size by omega)]]
    exact ⟨0, by omega, rfl, rfl, by simpa using h⟩

theorem numEnd_ag {s t : ByteArray} {L : Nat} : ∀ {i i' : Nat}, Ag s t i i' L → ∃ d, d ≤ L ∧ numEnd s i = i + d ∧ numEnd t i' = i' + d ∧ Ag s t (i + d) (i' + d) (L - d) := by
  induction L using Nat.strongRecOn with
  | _ L ih =>
  intro i i' h
  by_cases hL : 0 < L
  · have hls := h.ls
    have hlt := h.lt
    rw [show numEnd s i = _ from by rw [numEnd, dif_pos (show i < s.size by omega)], show numEnd t i' = _ from by rw [numEnd, dif_pos (show i' < t.size by omega)], ← h.byte0 hL]
    by_cases hs : numB (b8 s i) = true
    · rw [if_pos hs, if_pos hs]
      have h5 := h.byte hL fun e => by rw [endC_num e] at hs; cases hs
      obtain ⟨d, d1, d2, d3, d4⟩ := ih _ (by omega) h5
      refine ⟨1 + d, by omega, by omega, by omega, ?_⟩
      have e : L - (1 + d) = L - 1 - d := by omega
      rw [e, ← Nat.add_assoc, ← Nat.add_assoc]
      exact d4
    · rw [if_neg hs, if_neg hs]
      exact ⟨0, by omega, rfl, rfl, by simpa using h⟩
  · obtain ⟨e1, e2, e3⟩ := h.ends hL
    have hls := h.ls
    have hlt := h.lt
    rw [show numEnd s i = i from by rw [numEnd, dif_neg (show ¬ i < s.size by omega)], show numEnd t i' = i' from by rw [numEnd, dif_neg (show ¬ i' < t.size by omega)]]
    exact ⟨0, by omega, rfl, rfl, by simpa using h⟩

theorem letEnd_ag {s t : ByteArray} {L : Nat} : ∀ {i i' : Nat}, Ag s t i i' L → ∃ d, d ≤ L ∧ letEnd s i = i + d ∧ letEnd t i' = i' + d ∧ Ag s t (i + d) (i' + d) (L - d) := by
  induction L using Nat.strongRecOn with
  | _ L ih =>
  intro i i' h
  by_cases hL : 0 < L
  · have hls := h.ls
    have hlt := h.lt
    rw [show letEnd s i = _ from by rw [letEnd, dif_pos (show i < s.size by omega)], show letEnd t i' = _ from by rw [letEnd, dif_pos (show i' < t.size by omega)], ← h.byte0 hL]
    by_cases hs : letB (b8 s i) = true
    · rw [if_pos hs, if_pos hs]
      have h5 := h.byte hL fun e => by rw [endC_let e] at hs; cases hs
      obtain ⟨d, d1, d2, d3, d4⟩ := ih _ (by omega) h5
      refine ⟨1 + d, by omega, by omega, by omega, ?_⟩
      have e : L - (1 + d) = L - 1 - d := by omega
      rw [e, ← Nat.add_assoc, ← Nat.add_assoc]
      exact d4
    · rw [if_neg hs, if_neg hs]
      exact ⟨0, by omega, rfl, rfl, by simpa using h⟩
  · obtain ⟨e1, e2, e3⟩ := h.ends hL
    have hls := h.ls
    have hlt := h.lt
    rw [show letEnd s i = i from by rw [letEnd, dif_neg (show ¬ i < s.size by omega)], show letEnd t i' = i' from by rw [letEnd, dif_neg (show ¬ i' < t.size by omega)]]
    exact ⟨0, by omega, rfl, rfl, by simpa using h⟩

theorem at1_ag {s t : ByteArray} {i i' L : Nat} (h : Ag s t i i' L) (c : Nat) : at1 s i c = at1 t i' c := by
  have hls := h.ls
  have hlt := h.lt
  unfold at1
  by_cases hL : 0 < L
  · rw [h.byte0 hL, show decide (i < s.size) = true from by simp; omega, show decide (i' < t.size) = true from by simp; omega]
  · have := h.ends hL
    rw [show decide (i < s.size) = false from by simp; omega, show decide (i' < t.size) = false from by simp; omega]
    rfl

theorem b8_get (s : ByteArray) (i : Nat) (h : i < s.size) : s.data.toList[i]'(by simpa using h) = UInt8.ofNat (b8 s i) := by
  rw [b8_at s i h]
  show _ = UInt8.ofNat (s[i]'h).toNat
  rw [UInt8.ofNat_toNat, Array.getElem_toList]
  rfl

theorem extract_ag {s t : ByteArray} {i i' L d : Nat} (h : Ag s t i i' L) (hd : d ≤ L) : s.extract i (i + d) = t.extract i' (i' + d) := by
  have hls := h.ls
  have hlt := h.lt
  have e : ∀ (u : ByteArray) (a b : Nat), (u.extract a b).data.toList = (u.data.toList.take b).drop a := fun u a b => by
    simp only [ByteArray.data_extract, Array.toList_extract, List.extract_eq_take_drop, List.drop_take]
  have : (s.extract i (i + d)).data.toList = (t.extract i' (i' + d)).data.toList := by
    rw [e, e]
    apply List.ext_getElem
    · simp; omega
    · intro n h1 h2
      have hn : n < d := by simp at h1; omega
      simp only [List.getElem_drop, List.getElem_take]
      rw [b8_get _ _ (by omega), b8_get _ _ (by omega), h.eq n (by omega)]
  apply ByteArray.ext
  apply Array.ext'
  exact this

theorem wordAt_ag {s t : ByteArray} {i i' L : Nat} (h : Ag s t i i' L) : wordAt s i = wordAt t i' := by
  obtain ⟨d, h1, h2, h3, -⟩ := wordEnd_ag h
  rw [wordAt, wordAt, h2, h3, extract_ag h h1]
theorem numAt_ag {s t : ByteArray} {i i' L : Nat} (h : Ag s t i i' L) : numAt s i = numAt t i' := by
  obtain ⟨d, h1, h2, h3, -⟩ := numEnd_ag h
  rw [numAt, numAt, h2, h3, extract_ag h h1]
theorem numOk_ag {s t : ByteArray} {i i' L : Nat} (h : Ag s t i i' L) : numOk s i = numOk t i' := by rw [numOk, numOk, numAt_ag h]

theorem drop_cons {s : ByteArray} {i : Nat} (h : i < s.size) : s.data.toList.drop i = UInt8.ofNat (b8 s i) :: s.data.toList.drop (i + 1) := by
  rw [List.drop_eq_getElem_cons (by simpa using h), b8_get s i h]
theorem hereB_ag {s t : ByteArray} {i i' L : Nat} (h : Ag s t i i' L) (w : List UInt8) (hw : ∀ c ∈ w, ¬ endC c.toNat) : hereB s i w = hereB t i' w := by
  induction w generalizing i i' L with
  | nil => simp [hereB, Lib.hasPrefix]
  | cons c w ih =>
    have hls := h.ls
    have hlt := h.lt
    unfold hereB at *
    by_cases hL : 0 < L
    · rw [drop_cons (s := s) (by omega), drop_cons (s := t) (by omega), ← h.byte0 hL]
      by_cases hc : UInt8.ofNat (b8 s i) = c
      · have h5 := h.byte hL (by
          have := hw c (by simp)
          rw [← hc, UInt8.toNat_ofNat', Nat.mod_eq_of_lt (b8_lt s i)] at this
          exact this)
        have := ih h5 (fun c hc => hw c (by simp [hc]))
        simp only [Lib.hasPrefix] at this ⊢
        simp [List.isPrefixOf, this]
      · simp only [Lib.hasPrefix]
        simp [List.isPrefixOf, beq_eq_false_iff_ne.2 (Ne.symm hc)]
    · have := h.ends hL
      rw [List.drop_eq_nil_of_le (by simp; omega), List.drop_eq_nil_of_le (by simp; omega)]

theorem index_ag {s t : ByteArray} {L : Nat} : ∀ {i i' : Nat}, Ag s t i i' L → (∀ d, d < L → b8 s (i + d) = 39 → (∀ k, k < d → b8 s (i + k) ≠ 39) → Lib.indexByte (s.data.toList.drop i) 39 = d ∧ Lib.indexByte (t.data.toList.drop i') 39 = d) := by
  induction L with
  | zero => intro i i' h d hd; omega
  | succ L ih =>
    intro i i' h d hd h39 hk
    have hls := h.ls
    have hlt := h.lt
    rw [drop_cons (s := s) (by omega), drop_cons (s := t) (by omega), ← h.byte0 (by omega)]
    cases d with
    | zero =>
      simp only [Nat.add_zero] at h39
      rw [h39]
      simp [Lib.indexByte]
    | succ d =>
      have hne := hk 0 (by omega)
      simp only [Nat.add_zero] at hne
      have h5 : Ag s t (i + 1) (i' + 1) L := h.move 1 (.inl (by omega))
      obtain ⟨e1, e2⟩ := ih h5 d (by omega) (by rw [← h39]; congr 1; omega) (fun k hk' => by have := hk (k + 1) (by omega); rwa [show i + (k + 1) = i + 1 + k from by omega] at this)
      have hb : (UInt8.ofNat (b8 s i) == 39) = false := by
        rw [beq_eq_false_iff_ne]
        intro e
        apply hne
        have := congrArg UInt8.toNat e
        rw [UInt8.toNat_ofNat', Nat.mod_eq_of_lt (b8_lt s i)] at this
        exact this
      simp only [Lib.indexByte, hb, e1, e2]
      have hd : ((d : Int) == -1) = false := beq_eq_false_iff_ne.2 (by omega)
      simp only [hd]
      exact ⟨by simp, by simp⟩
end Go.Proofs.YtcnhklcbibpjpaaGreatDoor
