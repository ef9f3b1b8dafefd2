/- Lemmas behind the laws of the tokens; no conditions. -/
import Derived.Test.YtcnhklcbibpjpaaGreatDoorZRgn
import Derived.Lib.IndexLaws
set_option linter.unusedVariables false
set_option linter.unusedSimpArgs false

namespace Go.Proofs.YtcnhklcbibpjpaaGreatDoor
open P
theorem b8_ext (s : ByteArray) (a e k : Nat) (he : e ≤ s.size) : b8 (s.extract a e) k = if a + k < e then b8 s (a + k) else 0 := by
  have hsz : (s.extract a e).size = e - a := by simp [ByteArray.size_extract]; omega
  unfold b8
  by_cases h : a + k < e
  · rw [dif_pos (by omega), if_pos h, dif_pos (by omega)]
    congr 1
    have : (s.extract a e)[k]'(by omega) = (s.extract a e).data[k]'(by show k < (s.extract a e).size; omega) := rfl
    rw [this]
    simp only [ByteArray.data_extract, Array.getElem_extract]
    rfl
  · rw [dif_neg (by omega), if_neg h]
theorem decodeN_cut (n' L b0 b1 b2 b3 c1 c2 c3 : Nat) (hL : 1 ≤ L) (hn : L < n') (h1 : 1 < L → b1 = c1) (h2 : 2 < L → b2 = c2) (h3 : 3 < L → b3 = c3)
    (f1 : L = 1 → c1 = 125) (f2 : L = 2 → c2 = 125) (f3 : L = 3 → c3 = 125) : Lib.decodeN L b0 b1 b2 b3 = Lib.decodeN n' b0 c1 c2 c3 := by
  have hl : L = 1 ∨ L = 2 ∨ L = 3 ∨ 4 ≤ L := by omega
  rcases hl with rfl | rfl | rfl | hl
  · obtain rfl := f1 rfl
    unfold Lib.decodeN
    simp
  · obtain rfl := f2 rfl
    obtain rfl := h1 (by omega)
    have q1 : 1 < n' := by omega
    unfold Lib.decodeN
    simp [q1]
  · obtain rfl := f3 rfl
    obtain rfl := h1 (by omega)
    obtain rfl := h2 (by omega)
    have q1 : 1 < n' := by omega
    have q2 : 2 < n' := by omega
    unfold Lib.decodeN
    simp [q1, q2]
  · obtain rfl := h1 (by omega)
    obtain rfl := h2 (by omega)
    obtain rfl := h3 (by omega)
    have q1 : 1 < n' := by omega
    have q2 : 2 < n' := by omega
    have q3 : 3 < n' := by omega
    have q4 : 1 < L := by omega
    have q5 : 2 < L := by omega
    have q6 : 3 < L := by omega
    unfold Lib.decodeN
    simp [q1, q2, q3, q4, q5, q6]
theorem dec_cut (s : ByteArray) (a e k : Nat) (he : e < s.size) (hb : b8 s e = 125) (hk : a + k < e) : Utf8.decode (s.extract a e) k = Utf8.decode s (a + k) := by
  have hsz : (s.extract a e).size = e - a := by simp [ByteArray.size_extract]; omega
  rw [Lib.decode_at, Lib.decode_at]
  simp only [gb8']
  rw [hsz, show e - a - k = e - (a + k) from by omega]
  simp only [b8_ext s a e _ (by omega)]
  rw [if_pos hk]
  refine decodeN_cut _ _ _ _ _ _ _ _ _ (by omega) (by omega) (fun h => ?_) (fun h => ?_) (fun h => ?_) (fun h => ?_) (fun h => ?_) (fun h => ?_)
  · rw [if_pos (by omega), Nat.add_assoc]
  · rw [if_pos (by omega), Nat.add_assoc]
  · rw [if_pos (by omega), Nat.add_assoc]
  · rw [show a + k + 1 = e from by omega]; exact hb
  · rw [show a + k + 2 = e from by omega]; exact hb
  · rw [show a + k + 3 = e from by omega]; exact hb
theorem decodeN_bytes (n b0 b1 b2 b3 : Nat) (hn : 1 ≤ n) : (Lib.decodeN n b0 b1 b2 b3).1 = 65533 ∨ (b0 < 128 ∧ Lib.decodeN n b0 b1 b2 b3 = (b0, 1)) ∨
    (128 ≤ b0 ∧ (Lib.decodeN n b0 b1 b2 b3).2 ≤ n ∧ (Lib.decodeN n b0 b1 b2 b3).2 ≤ 4 ∧ (1 < (Lib.decodeN n b0 b1 b2 b3).2 → 128 ≤ b1) ∧ (2 < (Lib.decodeN n b0 b1 b2 b3).2 → 128 ≤ b2) ∧ (3 < (Lib.decodeN n b0 b1 b2 b3).2 → 128 ≤ b3)) := by
  unfold Lib.decodeN
  by_cases h1 : b0 < 128
  · rw [if_pos h1]; exact .inr (.inl ⟨h1, rfl⟩)
  · rw [if_neg h1]
    repeat' split
    all_goals first | exact .inl rfl | (refine .inr (.inr ⟨?_, ?_, ?_, ?_, ?_, ?_⟩) <;> (try simp only) <;> omega)
theorem blank_bytes (s : ByteArray) (i : Nat) (h : i < s.size) (hs : spB (Utf8.decode s i).1 = true) : (Utf8.decode s i).2 ≤ s.size - i ∧ ∀ k, k < (Utf8.decode s i).2 → b8 s (i + k) ≠ 39 ∧ b8 s (i + k) ≠ 123 ∧ b8 s (i + k) ≠ 125 := by
  rw [Lib.decode_at] at hs ⊢
  simp only [gb8'] at hs ⊢
  have e0 : b8 s (i + 0) = b8 s i := rfl
  rcases decodeN_bytes (s.size - i) (b8 s i) (b8 s (i + 1)) (b8 s (i + 2)) (b8 s (i + 3)) (by omega) with h1 | ⟨h1, h2⟩ | ⟨h0, h1, h2, h3, h4, h5⟩
  · rw [h1] at hs; exact absurd hs (by decide)
  · rw [h2] at hs ⊢
    unfold spB at hs
    simp only [Bool.or_eq_true, beq_iff_eq] at hs
    refine ⟨by simp only; omega, fun k hk => ?_⟩
    simp only at hk
    obtain rfl : k = 0 := by omega
    rw [e0]; omega
  · refine ⟨h1, fun k hk => ?_⟩
    generalize (Lib.decodeN (s.size - i) (b8 s i) (b8 s (i + 1)) (b8 s (i + 2)) (b8 s (i + 3))).2 = wd at *
    have hk2 : k = 0 ∨ k = 1 ∨ k = 2 ∨ k = 3 := by omega
    rcases hk2 with rfl | rfl | rfl | rfl
    · rw [e0]; omega
    · have := h3 hk; omega
    · have := h4 hk; omega
    · have := h5 hk; omega
section
variable {s : ByteArray}
theorem styE_plain {i d : Nat} (h : i < s.size) (h1 : b8 s i ≠ 39) (h2 : b8 s i ≠ 123) (h3 : b8 s i ≠ 125) : styE s i d = styE s (i + 1) d := by
  rw [styE, dif_pos h, if_neg h1, if_neg h2, if_neg h3]
theorem styE_skip (d : Nat) : ∀ (w i : Nat), i + w ≤ s.size → (∀ k, k < w → b8 s (i + k) ≠ 39 ∧ b8 s (i + k) ≠ 123 ∧ b8 s (i + k) ≠ 125) → styE s i d = styE s (i + w) d := by
  intro w
  induction w with
  | zero => intro i _ _; rfl
  | succ w ih =>
    intro i hw hk
    have h0 := hk 0 (by omega)
    rw [styE_plain (i := i) (by omega) h0.1 h0.2.1 h0.2.2, ih (i + 1) (by omega) (fun k hk2 => by rw [show i + 1 + k = i + (k + 1) from by omega]; exact hk _ (by omega)), show i + 1 + w = i + (w + 1) from by omega]
theorem styE_blanks (d : Nat) (i : Nat) : styE s i d = styE s (blanks s i) d := by
  induction i using blanks.induct s with
  | case1 i h hs ih =>
    have hb := blank_bytes s i h hs
    have e : blanks s i = blanks s (i + (Utf8.decode s i).2) := by rw [blanks, dif_pos h, if_pos hs]
    rw [e, ← ih]
    exact styE_skip d _ i (by omega) hb.2
  | case2 i h hs =>
    have e : blanks s i = i := by rw [blanks, dif_pos h, if_neg hs]
    rw [e]
  | case3 i h =>
    have e : blanks s i = i := by rw [blanks, dif_neg h]
    rw [e]
theorem styE_ge (i d e : Nat) (h : styE s i d = some e) : i ≤ e ∧ e < s.size ∧ b8 s e = 125 := by
  induction i, d using styE.induct s with
  | case1 i d h0 h1 ih => rw [styE, dif_pos h0, if_pos h1] at h; have := ih h; have := skipQ_ge s (i + 1); omega
  | case2 i d h0 h1 h2 ih => rw [styE, dif_pos h0, if_neg h1, if_pos h2] at h; have := ih h; omega
  | case3 i h0 h1 h2 h3 => rw [styE, dif_pos h0, if_neg h1, if_neg h2, if_pos h3, if_pos rfl] at h; cases h; exact ⟨Nat.le_refl _, h0, h3⟩
  | case4 i d h0 h1 h2 h3 h4 ih => rw [styE, dif_pos h0, if_neg h1, if_neg h2, if_pos h3, if_neg h4] at h; have := ih h; omega
  | case5 i d h0 h1 h2 h3 ih => rw [styE, dif_pos h0, if_neg h1, if_neg h2, if_neg h3] at h; have := ih h; omega
  | case6 i d h0 => rw [styE, dif_neg h0] at h; cases h
theorem skipQ_index (k : Nat) : k ≤ s.size → (Lib.indexByte (s.data.toList.drop k) 39 < 0 ∧ skipQ s k = s.size) ∨ (0 ≤ Lib.indexByte (s.data.toList.drop k) 39 ∧ skipQ s k = k + (Lib.indexByte (s.data.toList.drop k) 39).toNat) := by
  induction k using skipQ.induct s with
  | case1 k h h1 =>
    intro _
    right
    have hd : s.data.toList.drop k = s[k]'h :: s.data.toList.drop (k + 1) := by
      rw [← List.getElem_cons_drop (by simpa using h)]; rfl
    have h2 : (s[k]'h) = 39 := by
      rw [b8_at s k h] at h1
      exact UInt8.toNat_inj.1 h1
    rw [hd, skipQ, if_pos h, if_pos h1, h2]
    simp [Lib.indexByte]
  | case2 k h h1 ih =>
    intro _
    have hd : s.data.toList.drop k = s[k]'h :: s.data.toList.drop (k + 1) := by
      rw [← List.getElem_cons_drop (by simpa using h)]; rfl
    have h2 : (s[k]'h == 39) = false := by
      rw [b8_at s k h] at h1
      simp only [beq_eq_false_iff_ne, ne_eq]
      intro e; rw [e] at h1; exact h1 rfl
    have hs : skipQ s k = skipQ s (k + 1) := by rw [skipQ, if_pos h, if_neg h1]
    have ih := ih (by omega)
    rw [hd, hs]
    simp only [Lib.indexByte, h2]
    have hge := Lib.indexByte_ge (s.data.toList.drop (k + 1)) 39
    rcases ih with ⟨a, b⟩ | ⟨a, b⟩
    · left; simp; split <;> first | omega | exact ⟨by omega, b⟩
    · right; rw [b]; simp; split <;> omega
  | case3 k h =>
    intro hk
    left
    have : s.data.toList.drop k = [] := List.drop_eq_nil_of_le (by simp; omega)
    rw [this, skipQ, if_neg h]
    exact ⟨by simp [Lib.indexByte], by omega⟩
theorem styleGo_eq (op : Int) (fr : Nat) (i d : Nat) : i ≤ s.size → styleGo s op fr i (d + 1) = match styE s i d with
    | none => .er 190 op
    | some e => if (trimP (s.extract fr e)).size = 0 then .er 191 ((e : Nat) : Int) else .ok (e + 1) [(8, trimP (s.extract fr e), (fr : Int)), (4, (⟨#[]⟩ : ByteArray), ((e : Nat) : Int))] [] := by
  induction i, d using styE.induct s with
  | case1 i d h h1 ih =>
    intro _
    have hq := skipQ_index (s := s) (i + 1) (by omega)
    rw [styE, dif_pos h, if_pos h1, styleGo, dif_pos h, if_pos h1]
    rcases hq with ⟨q1, q2⟩ | ⟨q1, q2⟩
    · rw [if_pos q1, q2, styE, dif_neg (by omega)]
    · rw [if_neg (by omega)]
      have hlt : skipQ s (i + 1) < s.size := by
        obtain ⟨k, hk⟩ : ∃ k : Nat, Lib.indexByte (s.data.toList.drop (i + 1)) 39 = k := ⟨_, (Int.toNat_of_nonneg q1).symm⟩
        have := (Lib.indexByte_some hk).1
        obtain ⟨hlt, -⟩ := List.getElem?_eq_some_iff.1 this
        simp at hlt
        rw [hk] at q2
        simp at q2
        omega
      rw [← ih (by omega), q2]
      congr 1
      omega
  | case2 i d h h1 h2 ih =>
    intro _
    rw [styE, dif_pos h, if_neg h1, if_pos h2, styleGo, dif_pos h, if_neg h1, if_pos h2]
    exact ih (by omega)
  | case3 i h h1 h2 h3 =>
    intro _
    rw [styE, dif_pos h, if_neg h1, if_neg h2, if_pos h3, if_pos rfl, styleGo, dif_pos h, if_neg h1, if_neg h2, if_pos h3, if_pos (by omega)]
    simp only
    rw [mustR_125' _ h h3, failR, if_neg (by omega : ¬ s.size ≤ i)]
    split <;> rfl
  | case4 i d h h1 h2 h3 h4 ih =>
    intro _
    rw [styE, dif_pos h, if_neg h1, if_neg h2, if_pos h3, if_neg h4, styleGo, dif_pos h, if_neg h1, if_neg h2, if_pos h3, if_neg (by omega)]
    rw [← ih (by omega)]
    congr 1
    omega
  | case5 i d h h1 h2 h3 ih =>
    intro _
    rw [styE, dif_pos h, if_neg h1, if_neg h2, if_neg h3, styleGo, dif_pos h, if_neg h1, if_neg h2, if_neg h3]
    exact ih (by omega)
  | case6 i d h =>
    intro _
    rw [styE, dif_neg h, styleGo, dif_neg h]
theorem trimGo_at (T : ByteArray) {i f t : Nat} (h : i < T.size) : trimGo T i f t = if spB (Utf8.decode T i).1 = true then trimGo T (i + (Utf8.decode T i).2) f t else trimGo T (i + (Utf8.decode T i).2) (min f i) (i + (Utf8.decode T i).2) := by rw [trimGo, dif_pos h]
theorem trim_skip (j e : Nat) (he : e < s.size) (hb : b8 s e = 125) (f t : Nat) (i : Nat) : j ≤ i → blanks s i ≤ e → trimGo (s.extract j e) (i - j) f t = trimGo (s.extract j e) (blanks s i - j) f t := by
  have hsz : (s.extract j e).size = e - j := by simp [ByteArray.size_extract]; omega
  induction i using blanks.induct s with
  | case1 i h hs ih =>
    intro hj hbe
    have hw := width_pos s i h
    have e1 : blanks s i = blanks s (i + (Utf8.decode s i).2) := by rw [blanks, dif_pos h, if_pos hs]
    rw [e1] at hbe ⊢
    have hge := blanks_ge s (i + (Utf8.decode s i).2)
    rw [← ih (by omega) hbe, trimGo_at _ (by omega), dec_cut s j e (i - j) he hb (by omega), show j + (i - j) = i from by omega, if_pos hs]
    congr 1
    omega
  | case2 i h hs =>
    intro hj hbe
    have e1 : blanks s i = i := by rw [blanks, dif_pos h, if_neg hs]
    rw [e1]
  | case3 i h =>
    intro hj hbe
    have e1 : blanks s i = i := by rw [blanks, dif_neg h]
    rw [e1]
theorem trim_shift (j d e : Nat) (he : e < s.size) (hb : b8 s e = 125) (hd : j + d ≤ e) : ∀ (n k f t : Nat), e - (j + d + k) ≤ n → trimGo (s.extract j e) (d + k) (d + f) (if t = 0 then 0 else d + t) =
    (d + (trimGo (s.extract (j + d) e) k f t).1, if (trimGo (s.extract (j + d) e) k f t).2 = 0 then 0 else d + (trimGo (s.extract (j + d) e) k f t).2) := by
  have hsz : (s.extract j e).size = e - j := by simp [ByteArray.size_extract]; omega
  have hsz2 : (s.extract (j + d) e).size = e - (j + d) := by simp [ByteArray.size_extract]; omega
  intro n
  induction n with
  | zero =>
    intro k f t hk
    rw [trimGo, dif_neg (by omega), trimGo, dif_neg (by omega)]
  | succ n ih =>
    intro k f t hk
    by_cases hlt : j + d + k < e
    · have e1 := dec_cut s j e (d + k) he hb (by omega)
      have e2 := dec_cut s (j + d) e k he hb hlt
      rw [show j + (d + k) = j + d + k from by omega] at e1
      rw [trimGo_at _ (by omega), trimGo_at (s.extract (j + d) e) (by omega), e1, e2]
      have hw := width_pos s (j + d + k) (by omega)
      split
      · rw [Nat.add_assoc]
        exact ih _ _ _ (by omega)
      · rw [Nat.add_assoc, Nat.add_min_add_left]
        have := ih (k + (Utf8.decode s (j + d + k)).2) (min f k) (k + (Utf8.decode s (j + d + k)).2) (by omega)
        rw [if_neg (by omega)] at this
        exact this
    · rw [trimGo, dif_neg (by omega), trimGo, dif_neg (by omega)]
theorem trim_blanks (j e : Nat) (he : e < s.size) (hb : b8 s e = 125) (hj : blanks s j ≤ e) : trimP (s.extract (blanks s j) e) = trimP (s.extract j e) := by
  have hge := blanks_ge s j
  have h1 := trim_skip j e he hb (s.extract j e).size 0 j (Nat.le_refl _) hj
  obtain ⟨d, hd⟩ : ∃ d, blanks s j = j + d := ⟨blanks s j - j, by omega⟩
  rw [hd] at h1 hj ⊢
  have hsz : (s.extract j e).size = e - j := by simp [ByteArray.size_extract]; omega
  have hsz2 : (s.extract (j + d) e).size = e - (j + d) := by simp [ByteArray.size_extract]; omega
  have h2 := trim_shift j d e he hb hj e 0 (s.extract (j + d) e).size 0 (by omega)
  rw [Nat.sub_self, show j + d - j = d from by omega, hsz] at h1
  rw [if_pos rfl, Nat.add_zero, hsz2, show d + (e - (j + d)) = e - j from by omega, ← h1] at h2
  unfold trimP
  rw [hsz, hsz2, h2]
  generalize trimGo (s.extract (j + d) e) 0 (e - (j + d)) 0 = p
  simp only
  by_cases hp : p.2 = 0
  · rw [if_pos hp, if_pos hp, if_pos rfl]
  · rw [if_neg hp, if_neg hp, if_neg (by omega)]
    simp only [ByteArray.extract_extract]
    congr 1 <;> omega
theorem style_eq : StyleEq s := by
  intro op j ts fs al hj
  have hb := blanks_bd s j hj
  rw [styleR, styleGo_eq op (blanks s j) (blanks s j) 0 hb.2, ← styE_blanks, styM]
  cases he : styE s j 0 with
  | none => rfl
  | some e =>
    have h1 := styE_ge _ _ _ (by rw [← styE_blanks]; exact he : styE s (blanks s j) 0 = some e)
    simp only
    rw [trim_blanks j e h1.2.1 h1.2.2 h1.1]
    split
    · rfl
    · simp [R.mr]
end
end Go.Proofs.YtcnhklcbibpjpaaGreatDoor
