/- What is quoted is read as the text that it was: the text's own piece. -/
import Derived.Test.YtcnhklcbibpjpaaGreatDoorCop
import Derived.Test.YtcnhklcbibpjpaaGreatDoorMG
set_option linter.unusedVariables false
set_option linter.unusedSimpArgs false
namespace Go.Proofs.YtcnhklcbibpjpaaGreatDoor
open P

section
variable {T : ByteArray} {m sort : Int} {outer : Bool}

theorem drop_uncons {i : Nat} {x : UInt8} {L : List UInt8} (h : T.data.toList.drop i = x :: L) : ∃ hi : i < T.size, b8 T i = x.toNat ∧ T[i]'hi = x ∧ T.data.toList.drop (i + 1) = L := by
  have hi : i < T.size := by
    have := congrArg List.length h
    simp only [List.length_drop, List.length_cons] at this
    have hs : T.data.toList.length = T.size := by simp
    omega
  rw [List.drop_eq_getElem_cons (by simpa using hi)] at h
  obtain ⟨h1, h2⟩ := List.cons.inj h
  rw [Array.getElem_toList] at h1
  exact ⟨hi, by rw [b8_at T i hi]; exact congrArg UInt8.toNat h1, h1, h2⟩
theorem drop_nil {i : Nat} (h : T.data.toList.drop i = []) : ¬ i < T.size := by
  have := congrArg List.length h
  simp only [List.length_drop, List.length_nil] at this
  have hs : T.data.toList.length = T.size := by simp
  omega
theorem drop_39 {i : Nat} {L : List UInt8} (h : T.data.toList.drop i = 39 :: L) : ∃ hi : i < T.size, b8 T i = 39 ∧ T[i]'hi = 39 ∧ T.data.toList.drop (i + 1) = L := drop_uncons h
/-- What stands behind is no apostrophe. -/
def noApos : List UInt8 → Prop
  | [] => True
  | x :: _ => x ≠ 39
theorem noApos.b8 {i : Nat} {L : List UInt8} (h : T.data.toList.drop i = L) (hn : noApos L) : P.b8 T i ≠ 39 := by
  cases L with
  | nil => rw [P.b8, dif_neg (drop_nil h)]; decide
  | cons x L =>
    obtain ⟨hi, h1, -, -⟩ := drop_uncons h
    rw [h1]
    exact fun e => hn (UInt8.toNat_inj.1 e)

/-- The end of a quote. -/
theorem quoteE_dbl {rest : List UInt8} (hn : noApos rest) : ∀ (R : List UInt8) (i : Nat), T.data.toList.drop i = dbl R ++ 39 :: rest → quoteE T i = (R, i + (dbl R).length + 1) := by
  intro R
  induction R with
  | nil =>
    intro i h
    rw [dbl_nil, List.nil_append] at h
    obtain ⟨hi, h1, -, h3⟩ := drop_39 h
    rw [quoteE, dif_pos hi, if_pos h1, if_neg (noApos.b8 h3 hn)]
    rfl
  | cons c R ih =>
    intro i h
    by_cases hc : c = 39
    · subst hc
      rw [dbl_39] at h ⊢
      obtain ⟨hi, h1, -, h3⟩ := drop_39 h
      obtain ⟨hi2, h4, -, h5⟩ := drop_39 h3
      rw [quoteE, dif_pos hi, if_pos h1, if_pos h4, ih (i + 2) h5]
      simp only [List.length_cons, Prod.mk.injEq, true_and]
      omega
    · rw [dbl_ne hc] at h ⊢
      obtain ⟨hi, h1, h2, h3⟩ := drop_uncons h
      rw [quoteE, dif_pos hi, if_neg (by rw [h1]; exact fun e => hc (UInt8.toNat_inj.1 e)), ih (i + 1) h3, h2]
      simp only [List.length_cons, Prod.mk.injEq, true_and]
      omega

theorem textE_39 {i : Nat} (h : i < T.size) (h1 : b8 T i = 39) : textE T m sort outer i = ((aposE T m sort i).1 ++ (textE T m sort outer (aposE T m sort i).2.1).1, (textE T m sort outer (aposE T m sort i).2.1).2.1, (aposE T m sort i).2.2 ++ (textE T m sort outer (aposE T m sort i).2.1).2.2) := by
  rw [textE, dif_pos h, if_pos h1]

/-- Apostrophes that are doubled. -/
theorem text_pairs {rest : List UInt8} (hn : noApos rest) : ∀ (n i : Nat), T.data.toList.drop i = dbl (List.replicate n 39) ++ rest →
    textE T m sort outer i = (List.replicate n 39 ++ (textE T m sort outer (i + (dbl (List.replicate n 39)).length)).1, (textE T m sort outer (i + (dbl (List.replicate n 39)).length)).2) := by
  intro n
  induction n with
  | zero => intro i h; simp [dbl_nil]
  | succ n ih =>
    intro i h
    rw [List.replicate_succ, dbl_39] at h ⊢
    obtain ⟨hi, h1, -, h3⟩ := drop_39 h
    obtain ⟨hi2, h4, -, h5⟩ := drop_39 h3
    have ha : aposE T m sort i = ([39], i + 2, []) := by rw [aposE, if_pos h4]
    rw [textE_39 hi h1, ha, ih (i + 2) h5]
    simp only [List.length_cons]
    rw [show i + ((dbl (List.replicate n 39)).length + 1 + 1) = i + 2 + (dbl (List.replicate n 39)).length from by omega]
    rfl

/-- A run with syntax, quoted. -/
theorem text_quote (hm : m = 1 ∨ m = 2) {rest : List UInt8} (hn : noApos rest) : ∀ (R : List UInt8) (i : Nat), (∀ x ∈ R, x = 39 ∨ synB x.toNat sort = true) → (R.any fun x => x != 39) = true → T.data.toList.drop i = 39 :: (dbl R ++ [39]) ++ rest →
    textE T m sort outer i = (R ++ (textE T m sort outer (i + (dbl R).length + 2)).1, (textE T m sort outer (i + (dbl R).length + 2)).2) := by
  intro R
  induction R with
  | nil => intro i _ h; simp at h
  | cons c R ih =>
    intro i hall hany h
    obtain ⟨hi, h1, -, h3⟩ := drop_39 h
    by_cases hc : c = 39
    · subst hc
      rw [dbl_39] at h h3 ⊢
      obtain ⟨hi2, h4, -, h5⟩ := drop_39 h3
      have ha : aposE T m sort i = ([39], i + 2, []) := by rw [aposE, if_pos h4]
      rw [textE_39 hi h1, ha, ih (i + 2) (fun x hx => hall x (by simp [hx])) (by simpa using hany) h5]
      simp only [List.length_cons]
      rw [show i + ((dbl R).length + 1 + 1) + 2 = i + 2 + (dbl R).length + 2 from by omega]
      rfl
    · have hsy : synB c.toNat sort = true := by
        rcases hall c (by simp) with h | h
        · exact absurd h hc
        · exact h
      have h6 := h3
      rw [dbl_ne hc] at h6
      obtain ⟨hi2, h4, -, h5⟩ := drop_uncons h6
      have hq := quoteE_dbl hn (c :: R) (i + 1) (by rw [h3]; simp)
      have ha : aposE T m sort i = (c :: R, i + 1 + (dbl (c :: R)).length + 1, []) := by
        rw [aposE, if_neg (by rw [h4]; exact fun e => hc (UInt8.toNat_inj.1 e)), if_pos (by rw [h4, hsy]; rcases hm with rfl | rfl <;> simp [hi2]), hq]
      rw [textE_39 hi h1, ha]
      simp only
      rw [show i + 1 + (dbl (c :: R)).length + 1 = i + (dbl (c :: R)).length + 2 from by omega]
      rfl
end

theorem qRun_spec (s : ByteArray) (sort : Int) (k : Nat) (has : Bool) :
    (∀ x ∈ (s.extract k (qRun s sort k has).1).data.toList, x = 39 ∨ synB x.toNat sort = true) ∧ (qRun s sort k has).2 = (has || (s.extract k (qRun s sort k has).1).data.toList.any fun x => x != 39) ∧
    ∀ h : (qRun s sort k has).1 < s.size, s[(qRun s sort k has).1]'h ≠ 39 ∧ (qRun s sort (qRun s sort k has).1 false).1 = (qRun s sort k has).1 ∧ synB (b8 s (qRun s sort k has).1) sort = false := by
  induction k, has using qRun.induct s sort with
  | case1 k has h1 h2 ih =>
    rw [show qRun s sort k has = qRun s sort (k + 1) (has || b8 s k != 39) from by rw [qRun, dif_pos h1, if_pos h2]]
    have hbd := qRun_bd s sort (k + 1) (has || b8 s k != 39) (by omega)
    obtain ⟨i1, i2, i3⟩ := ih
    generalize qRun s sort (k + 1) (has || b8 s k != 39) = q at *
    have hex : (s.extract k q.1).data.toList = s[k]'h1 :: (s.extract (k + 1) q.1).data.toList := by
      rw [extract_list, extract_list, List.drop_eq_getElem_cons (by simpa using h1), show q.1 - k = (q.1 - (k + 1)) + 1 from by omega, List.take_succ_cons, Array.getElem_toList]
      rfl
    have hb : b8 s k = (s[k]'h1).toNat := b8_at s k h1
    refine ⟨?_, ?_, i3⟩
    · rw [hex]
      intro x hx
      rcases List.mem_cons.1 hx with rfl | hx
      · rw [hb] at h2
        simp only [Bool.or_eq_true, beq_iff_eq] at h2
        rcases h2 with h2 | h2
        · left; exact UInt8.toNat_inj.1 h2
        · right; exact h2
      · exact i1 x hx
    · rw [i2, hex, List.any_cons]
      have : (b8 s k != 39) = (s[k]'h1 != 39) := by
        rw [hb, Bool.eq_iff_iff]
        simp only [bne_iff_ne, ne_eq]
        exact not_congr ⟨fun e => UInt8.toNat_inj.1 e, fun e => by rw [e]; rfl⟩
      rw [this, Bool.or_assoc]
  | case2 k has h1 h2 =>
    rw [show qRun s sort k has = (k, has) from by rw [qRun, dif_pos h1, if_neg h2]]
    refine ⟨by simp, by simp, fun h => ?_⟩
    simp only at h ⊢
    simp only [Bool.or_eq_true, beq_iff_eq, not_or, Bool.not_eq_true] at h2
    refine ⟨fun e => h2.1 ?_, ?_, h2.2⟩
    · rw [b8_at s k h1, e]; rfl
    · rw [qRun, dif_pos h1, if_neg (by simp [h2.1, h2.2])]
  | case3 k has h1 =>
    rw [show qRun s sort k has = (k, has) from by rw [qRun, dif_neg h1]]
    exact ⟨by simp, by simp, fun h => absurd h h1⟩

theorem quoteL_head (s : ByteArray) (sort : Int) (e : Nat) (rest : List UInt8) (hn : noApos rest) (h : ∀ h : e < s.size, s[e]'h ≠ 39 ∧ (qRun s sort e false).1 = e) : noApos (quoteL s sort e ++ rest) := by
  by_cases he : e < s.size
  · rw [quoteL_step s sort e he, if_pos (h he).2]
    exact (h he).1
  · rw [quoteL, dif_neg he]
    exact hn

/-- What is quoted is read as it was. -/
theorem text_quoted {T : ByteArray} {m : Int} {outer : Bool} (hm : m = 1 ∨ m = 2) (s : ByteArray) (sort : Int) (rest : List UInt8) (hrest : rest = [] ∨ (outer = false ∧ ∃ L, rest = 125 :: L)) :
    ∀ (d k i : Nat), k + d = s.size → T.data.toList.drop i = quoteL s sort k ++ rest → textE T m sort outer i = (s.data.toList.drop k, i + (quoteL s sort k).length, []) := by
  have hn : noApos rest := by
    rcases hrest with rfl | ⟨-, L, rfl⟩
    · trivial
    · show (125 : UInt8) ≠ 39; decide
  intro d
  induction d using Nat.strongRecOn with
  | _ d ih =>
  intro k i hk hT
  by_cases hlt : k < s.size
  · have hbd := qRun_bd s sort k false (by omega)
    obtain ⟨q1, q2, q3⟩ := qRun_spec s sort k false
    have hq := quoteL_step s sort k hlt
    by_cases hek : (qRun s sort k false).1 = k
    · rw [hek] at q3
      rw [if_pos hek] at hq
      obtain ⟨c1, c2, c3⟩ := q3 hlt
      rw [hq] at hT ⊢
      obtain ⟨hi, h1, h2, h3⟩ := drop_uncons hT
      have hd : s.data.toList.drop k = s[k]'hlt :: s.data.toList.drop (k + 1) := by
        rw [List.drop_eq_getElem_cons (by simpa using hlt), Array.getElem_toList]; rfl
      rw [textE, dif_pos hi, if_neg (by rw [h1]; exact fun e => c1 (UInt8.toNat_inj.1 e)), if_neg (by rw [h1, ← b8_at s k hlt, c3]; simp), ih (d - 1) (by omega) (k + 1) (i + 1) (by omega) h3, h2, hd]
      simp only [List.length_cons, Prod.mk.injEq, true_and, and_true]
      omega
    · rw [if_neg hek] at hq
      have hno := quoteL_head s sort (qRun s sort k false).1 rest hn (fun h => ⟨(q3 h).1, (q3 h).2.1⟩)
      have hd : s.data.toList.drop k = (s.extract k (qRun s sort k false).1).data.toList ++ s.data.toList.drop (qRun s sort k false).1 := by
        rw [extract_list]
        have h9 := List.take_append_drop ((qRun s sort k false).1 - k) (s.data.toList.drop k)
        rw [List.drop_drop, show k + ((qRun s sort k false).1 - k) = (qRun s sort k false).1 from by omega] at h9
        exact h9.symm
      have hR : (s.extract k (qRun s sort k false).1).data.toList ≠ [] := by
        intro e
        have := congrArg List.length e
        rw [extract_list, List.length_take, List.length_drop] at this
        have hs : s.data.toList.length = s.size := by simp
        simp only [List.length_nil] at this
        omega
      rw [Bool.false_or] at q2
      have IH := ih (s.size - (qRun s sort k false).1) (by omega) (qRun s sort k false).1
      rw [hq, hd]
      rw [hq, List.append_assoc] at hT
      generalize (s.extract k (qRun s sort k false).1).data.toList = R at *
      cases hb : (qRun s sort k false).2 with
      | true =>
        rw [hb] at hT q2
        rw [qText, if_pos rfl] at hT ⊢
        rw [text_quote hm hno R i q1 q2.symm hT, IH (i + (dbl R).length + 2) (by omega) (by
          have := congrArg (List.drop ((dbl R).length + 2)) hT
          rw [List.drop_drop, ← Nat.add_assoc] at this
          rw [this, List.drop_append_of_le_length (by simp), List.drop_eq_nil_of_le (by simp)]
          rfl)]
        simp only [List.length_append, List.length_cons, List.length_nil, Prod.mk.injEq, true_and, and_true]
        omega
      | false =>
        rw [hb] at hT q2
        rw [qText, if_neg (by decide)] at hT ⊢
        have hrep : R = List.replicate R.length 39 := by
          rw [List.eq_replicate_iff]
          refine ⟨rfl, fun x hx => ?_⟩
          have := List.any_eq_false.1 q2.symm x hx
          simpa using this
        rw [hrep] at hT ⊢
        rw [text_pairs hno _ i hT, IH _ (by omega) (by
          have := congrArg (List.drop (dbl (List.replicate R.length 39)).length) hT
          rw [List.drop_drop] at this
          rw [this, List.drop_append_of_le_length (by omega), List.drop_eq_nil_of_le (by omega)]
          rfl)]
        simp only [List.length_append, Prod.mk.injEq, true_and, and_true]
        omega
  · rw [quoteL, dif_neg hlt] at hT ⊢
    rw [List.nil_append] at hT
    rw [List.drop_eq_nil_of_le (by simp; omega)]
    rcases hrest with rfl | ⟨rfl, L, rfl⟩
    · rw [textE, dif_neg (drop_nil hT)]; rfl
    · obtain ⟨hi, h1, h2, h3⟩ := drop_uncons hT
      rw [textE, dif_pos hi, if_neg (by rw [h1]; decide), if_pos (by rw [h1]; simp [synB])]
      rfl

end Go.Proofs.YtcnhklcbibpjpaaGreatDoor
