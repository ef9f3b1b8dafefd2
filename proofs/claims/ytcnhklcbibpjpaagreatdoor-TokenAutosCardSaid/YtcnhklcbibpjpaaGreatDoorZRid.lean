/- Lemmas behind the laws of the tokens; no conditions. -/
import Derived.Test.YtcnhklcbibpjpaaGreatDoorZMG
import GoSem.Op.String
import Derived.Lib.ParseIntBCases
set_option linter.unusedVariables false
set_option linter.unusedSimpArgs false

namespace Go.Proofs.YtcnhklcbibpjpaaGreatDoor
open P
def digU (c : UInt8) : Bool := 48 ≤ c.toNat && c.toNat ≤ 57
def digsR (l : List UInt8) : Bool := !l.isEmpty && !(l.head? == some 48 && decide (1 < l.length)) && l.all digU
def valD (acc : Nat) (l : List UInt8) : Nat := l.foldl (fun a c => a * 10 + (c.toNat - 48)) acc
theorem valD_cons (acc : Nat) (c : UInt8) (r : List UInt8) : valD acc (c :: r) = valD (acc * 10 + (c.toNat - 48)) r := by
  unfold valD
  rw [List.foldl_cons]
theorem valD_snoc (l : List UInt8) (c : UInt8) : ∀ acc, valD acc (l ++ [c]) = valD acc l * 10 + (c.toNat - 48) := by
  induction l with
  | nil => intro acc; rfl
  | cons d l ih => intro acc; rw [List.cons_append, valD_cons, valD_cons]; exact ih _
theorem valD_ge (l : List UInt8) : ∀ acc, acc ≤ valD acc l := by
  induction l with
  | nil => intro acc; exact Nat.le_refl _
  | cons d l ih => intro acc; rw [valD_cons]; exact Nat.le_trans (Nat.le_trans (Nat.le_mul_of_pos_right acc (by decide)) (Nat.le_add_right _ _)) (ih _)
theorem valD_pow (l : List UInt8) : ∀ acc, acc * 10 ^ l.length ≤ valD acc l := by
  induction l with
  | nil => intro acc; simp [valD]
  | cons d l ih =>
    intro acc
    have := ih (acc * 10 + (d.toNat - 48))
    rw [valD_cons, List.length_cons, Nat.pow_succ, Nat.mul_comm (10 ^ l.length) 10, ← Nat.mul_assoc]
    exact Nat.le_trans (Nat.mul_le_mul_right _ (Nat.le_add_right _ _)) this
theorem valD_lt (l : List UInt8) (h : l.all digU = true) : ∀ acc, valD acc l < (acc + 1) * 10 ^ l.length := by
  induction l with
  | nil => intro acc; simp [valD]
  | cons d l ih =>
    intro acc
    rw [List.all_cons, Bool.and_eq_true] at h
    have := ih h.2 (acc * 10 + (d.toNat - 48))
    have hd := h.1
    unfold digU at hd
    simp at hd
    rw [valD_cons, List.length_cons, Nat.pow_succ, Nat.mul_comm (10 ^ l.length) 10, ← Nat.mul_assoc]
    refine Nat.lt_of_lt_of_le this ?_
    exact Nat.mul_le_mul_right _ (by omega)
theorem digU_of (n : Nat) (h : n < 10) : digU (UInt8.ofNat (48 + n)) = true ∧ (UInt8.ofNat (48 + n)).toNat = 48 + n := by
  have e : (UInt8.ofNat (48 + n)).toNat = 48 + n := by simp; omega
  exact ⟨by unfold digU; rw [e]; simp; omega, e⟩
theorem dec_val (l : List UInt8) : digsR l = true → Lib.decDigits (valD 0 l) = l := by
  have key : ∀ (n : Nat) (l : List UInt8), l.length = n → digsR l = true → Lib.decDigits (valD 0 l) = l := by
    intro n
    induction n with
    | zero => intro l hl h; obtain rfl := List.length_eq_zero_iff.1 hl; simp [digsR] at h
    | succ n ih =>
      intro l hl h
      obtain ⟨r, c, rfl⟩ : ∃ r c, l = r ++ [c] := by
        rcases List.eq_nil_or_concat l with h0 | ⟨r, c, h0⟩
        · subst h0; simp at hl
        · exact ⟨r, c, by simpa using h0⟩
      unfold digsR at h
      simp only [Bool.and_eq_true, Bool.not_eq_true', Bool.and_eq_false_iff, List.all_append, List.all_cons, List.all_nil, Bool.and_true] at h
      obtain ⟨⟨-, h2⟩, h3, h4⟩ := h
      have h4' := h4
      unfold digU at h4'
      simp at h4'
      have hc : UInt8.ofNat (48 + (c.toNat - 48)) = c := by
        rw [← UInt8.toNat_inj, (digU_of (c.toNat - 48) (by omega)).2]; omega
      rw [valD_snoc]
      cases r with
      | nil =>
        rw [show valD 0 [] = 0 from rfl, Nat.zero_mul, Nat.zero_add, Lib.decDigits, dif_pos (by omega), hc]
        rfl
      | cons d r =>
        have hd : ¬ d = 48 := by
          intro e
          rcases h2 with h2 | h2
          · simp [e] at h2
          · simp at h2
        have hdig : digU d = true := by rw [List.all_cons, Bool.and_eq_true] at h3; exact h3.1
        have hdn : d.toNat ≠ 48 := fun e => hd (by rw [← UInt8.toNat_inj]; exact e)
        unfold digU at hdig
        simp at hdig
        have hR : digsR (d :: r) = true := by
          unfold digsR
          rw [h3]
          simp [hd]
        have hv : 1 ≤ valD 0 (d :: r) := by
          have := valD_ge r (0 * 10 + (d.toNat - 48))
          rw [valD_cons]
          generalize valD (0 * 10 + (d.toNat - 48)) r = v at *
          omega
        have ih := ih (d :: r) (by simp at hl ⊢; omega) hR
        generalize valD 0 (d :: r) = v at *
        rw [Lib.decDigits, dif_neg (by omega), show (v * 10 + (c.toNat - 48)) / 10 = v from by omega, show (v * 10 + (c.toNat - 48)) % 10 = c.toNat - 48 from by omega, ih, hc]
  exact key _ l rfl
theorem digs_dec (u : Nat) : digsR (Lib.decDigits u) = true := by
  have key : ∀ u, (Lib.decDigits u).all digU = true ∧ Lib.decDigits u ≠ [] ∧ (0 < u → (Lib.decDigits u).head? ≠ some 48) := by
    intro u
    induction u using Nat.strongRecOn with
    | _ u ih =>
      rw [Lib.decDigits]
      by_cases h : u < 10
      · rw [dif_pos h]
        have := digU_of u h
        refine ⟨by rw [List.all_cons, this.1]; rfl, by simp, fun h0 => ?_⟩
        simp only [List.head?_cons, ne_eq, Option.some.injEq]
        intro e
        have h5 := this.2
        rw [e] at h5
        have h6 : (48 : UInt8).toNat = 48 := rfl
        omega
      · rw [dif_neg h]
        obtain ⟨a, b, c⟩ := ih (u / 10) (by omega)
        have := digU_of (u % 10) (by omega)
        refine ⟨by rw [List.all_append, a, List.all_cons, this.1]; rfl, by simp, fun _ => ?_⟩
        have hc := c (by omega)
        cases hl : Lib.decDigits (u / 10) with
        | nil => exact absurd hl b
        | cons x y => rw [hl] at hc; simpa using hc
  obtain ⟨a, b, c⟩ := key u
  unfold digsR
  rw [a]
  by_cases h : u < 10
  · rw [Lib.decDigits, dif_pos h]; simp
  · have := c (by omega)
    cases hl : Lib.decDigits u with
    | nil => exact absurd hl b
    | cons d r => rw [hl] at this; simp at this; simp [this]
theorem parseM (M : Nat) (hM : M < 1844674407370955162) (l : List UInt8) (h : l.all digU = true) : ∀ acc, acc ≤ M → Lib.parseUintM M acc l = if valD acc l ≤ M then .ok (valD acc l) else .range := by
  induction l with
  | nil => intro acc ha; rw [Lib.parseUintM, show valD acc [] = acc from rfl, if_pos ha]
  | cons c l ih =>
    intro acc ha
    rw [List.all_cons, Bool.and_eq_true] at h
    have hc := h.1
    unfold digU at hc
    simp at hc
    rw [Lib.parseUintM, if_pos hc, if_neg (by omega), valD_cons]
    by_cases hm : M < acc * 10 + (c.toNat - 48)
    · have := valD_ge l (acc * 10 + (c.toNat - 48))
      generalize valD (acc * 10 + (c.toNat - 48)) l = v at *
      rw [if_pos hm, if_neg (by omega)]
    · rw [if_neg hm]
      exact ih h.2 _ (by omega)
theorem parseM_ok (M : Nat) (l : List UInt8) : ∀ acc u, Lib.parseUintM M acc l = .ok u → l.all digU = true := by
  induction l with
  | nil => intro acc u _; rfl
  | cons c l ih =>
    intro acc u h
    rw [Lib.parseUintM] at h
    split at h
    · rename_i hc
      split at h
      · cases h
      · split at h
        · cases h
        · rw [List.all_cons, ih _ _ h]
          unfold digU
          simp; exact hc
    · cases h
theorem numeral_digs (w : ByteArray) (c : UInt8) (r : List UInt8) (hw : w.data.toList = c :: r) (hc : digU c = true) : numeralP w = if digsR (c :: r) = true ∧ valD 0 (c :: r) < 2147483648 then 2 else 0 := by
  have hc' := hc
  unfold digU at hc'
  simp at hc'
  have hP : Lib.parseIntB 32 (c :: r) = match Lib.parseUintM 4294967295 0 (c :: r) with
      | .syntax => .syntax
      | .range => .range
      | .ok u => if 2147483648 ≤ u then .range else .ok (u : Int) := by
    rw [Lib.parseIntB]
    simp only [Lib.parseUintB]
    rw [if_neg (by omega : ¬ (c.toNat = 43 ∨ c.toNat = 45)), if_neg (by simp)]
    have e : (2 : Nat) ^ 32 - 1 = 4294967295 := by decide
    have e2 : (2 : Nat) ^ (32 - 1) = 2147483648 := by decide
    rw [e, e2]
    have n45 : ¬ c.toNat = 45 := by omega
    split <;> rename_i hq <;> simp [hq, n45]
  unfold numeralP
  rw [hw, hP]
  cases hA : (c :: r).all digU with
  | true =>
    rw [parseM 4294967295 (by decide) _ hA 0 (by omega)]
    generalize hv : valD 0 (c :: r) = v
    by_cases h1 : v ≤ 4294967295
    · rw [if_pos h1]
      by_cases h2 : 2147483648 ≤ v
      · simp only [if_pos h2]; rw [if_neg (by omega)]
      · simp only [if_neg h2]
        have hi : Lib.itoa (v : Int) = Lib.decDigits v := by unfold Lib.itoa; rw [if_neg (by omega)]; simp
        rw [hi]
        by_cases h3 : digsR (c :: r) = true
        · have := dec_val _ h3
          rw [hv] at this
          rw [if_pos this, if_pos ⟨h3, by omega⟩]
        · rw [if_neg, if_neg (fun h => h3 h.1)]
          intro e
          have := digs_dec v
          rw [e] at this
          exact h3 this
    · rw [if_neg h1, if_neg (by omega)]
  | false =>
    have h3 : ¬ digsR (c :: r) = true := by unfold digsR; rw [hA]; simp
    rw [if_neg (fun h => h3 h.1)]
    split
    · rename_i v hv
      split at hv
      · cases hv
      · cases hv
      · rename_i u hu
        have := parseM_ok _ _ _ _ hu
        rw [hA] at this
        cases this
    · rfl
theorem less_val (b : List UInt8) : ∀ (a : List UInt8), a.length = b.length → a.all digU = true → b.all digU = true → ∀ acc, (Op.bytesLess a b = true ↔ valD acc a < valD acc b) := by
  induction b with
  | nil =>
    intro a hl ha hb acc
    obtain rfl := List.length_eq_zero_iff.1 hl
    simp [Op.bytesLess]
  | cons y b ih =>
    intro a hl ha hb acc
    cases a with
    | nil => simp at hl
    | cons x a =>
      rw [List.all_cons, Bool.and_eq_true] at ha hb
      have hx := ha.1
      have hy := hb.1
      unfold digU at hx hy
      simp at hx hy
      have hl' : a.length = b.length := by simpa using hl
      rw [valD_cons, valD_cons, Op.bytesLess]
      by_cases hxy : x = y
      · subst hxy
        have := ih a hl' ha.2 hb.2 (acc * 10 + (x.toNat - 48))
        simp [this]
      · have hne : x.toNat ≠ y.toNat := fun e => hxy (UInt8.toNat_inj.1 e)
        have p1 := valD_lt a ha.2 (acc * 10 + (x.toNat - 48))
        have p2 := valD_pow a (acc * 10 + (x.toNat - 48))
        have p3 := valD_lt b hb.2 (acc * 10 + (y.toNat - 48))
        have p4 := valD_pow b (acc * 10 + (y.toNat - 48))
        rw [hl'] at p1 p2
        have hb0 : (x == y) = false := by simpa using hxy
        rw [hb0, Bool.false_and, Bool.or_false, decide_eq_true_eq, UInt8.lt_iff_toNat_lt]
        generalize valD (acc * 10 + (x.toNat - 48)) a = va at *
        generalize valD (acc * 10 + (y.toNat - 48)) b = vb at *
        constructor
        · intro hlt
          have : (acc * 10 + (x.toNat - 48) + 1) * 10 ^ b.length ≤ (acc * 10 + (y.toNat - 48)) * 10 ^ b.length := Nat.mul_le_mul_right _ (by omega)
          omega
        · intro hlt
          rcases Nat.lt_or_ge x.toNat y.toNat with h | h
          · exact h
          · exfalso
            have : (acc * 10 + (y.toNat - 48) + 1) * 10 ^ b.length ≤ (acc * 10 + (x.toNat - 48)) * 10 ^ b.length := Nat.mul_le_mul_right _ (by omega)
            omega
def maxI : List UInt8 := [50, 49, 52, 55, 52, 56, 51, 54, 52, 55]
def identR (w : ByteArray) : Int :=
  if digsR w.data.toList = true then if 10 < w.size ∨ w.size = 10 ∧ (!(Op.bytesLess w.data.toList maxI || w.data.toList == maxI)) = true then 0 else 2
  else if w.size = 0 ∨ 64 < w.size ∨ digU (w.data.toList.headD 0) = true then 0
  else if nameOk w 0 then 1 else 0
theorem ident_eq (w : ByteArray) : identR w = identP w := by
  have hsz : w.size = w.data.toList.length := by simp
  unfold identR identP
  cases hl : w.data.toList with
  | nil =>
    rw [hl, List.length_nil] at hsz
    rw [if_neg (by simp [digsR]), if_pos (.inl hsz), if_pos (.inl hsz)]
  | cons c r =>
    rw [hl, List.length_cons] at hsz
    have hb0 : b8 w 0 = c.toNat := by
      rw [b8, dif_pos (by omega)]
      have : w[0]'(by omega) = w.data.toList[0]'(by rw [hl]; simp) := by simp; rfl
      rw [this]
      simp [hl]
    rw [hb0]
    have hdc : digU c = true ↔ 48 ≤ c.toNat ∧ c.toNat ≤ 57 := by unfold digU; simp
    by_cases hc : digU c = true
    · have hN := numeral_digs w c r hl hc
      by_cases hD : digsR (c :: r) = true
      · rw [if_pos hD]
        have hall : (c :: r).all digU = true := by unfold digsR at hD; simp only [Bool.and_eq_true] at hD; exact hD.2
        have h48 : r = [] ∨ c ≠ 48 := by
          unfold digsR at hD
          simp only [Bool.and_eq_true, Bool.not_eq_true', Bool.and_eq_false_iff] at hD
          rcases hD.1.2 with h | h
          · right; intro e; subst e; simp at h
          · left; simp at h; exact h
        rw [hN, if_pos (hdc.1 hc)]
        have p1 := valD_lt (c :: r) hall 0
        have p2 := valD_pow r (0 * 10 + (c.toNat - 48))
        rw [← valD_cons] at p2
        rw [Nat.zero_add, Nat.one_mul, List.length_cons] at p1
        have hlv : r.length + 1 = 10 → ((!(Op.bytesLess (c :: r) maxI || c :: r == maxI)) = true ↔ 2147483648 ≤ valD 0 (c :: r)) := by
          intro h10
          have q1 := less_val maxI (c :: r) (by simp [maxI]; omega) hall (by decide) 0
          have q2 := less_val (c :: r) maxI (by simp [maxI]; omega) (by decide) hall 0
          have q3 : valD 0 maxI = 2147483647 := by decide
          rw [q3] at q1 q2
          simp only [Bool.not_eq_true', Bool.or_eq_false_iff, beq_eq_false_iff_ne, ne_eq]
          constructor
          · rintro ⟨h1, h2⟩
            have h3 : ¬ valD 0 (c :: r) < 2147483647 := fun h => by rw [q1.2 h] at h1; cases h1
            rcases Nat.lt_or_ge 2147483647 (valD 0 (c :: r)) with h | h
            · omega
            · exfalso
              apply h2
              have h4 : valD 0 (c :: r) = 2147483647 := by omega
              have h5 := dec_val _ hD
              rw [h4] at h5
              rw [← h5]
              decide +kernel
          · intro h
            refine ⟨?_, ?_⟩
            · cases hb : Op.bytesLess (c :: r) maxI with
              | false => rfl
              | true => have := q1.1 hb; omega
            · intro e; rw [e, q3] at h; omega
        have hc1 : r = [] ∨ 1 ≤ c.toNat - 48 := by
          rcases h48 with h | h
          · left; exact h
          · right
            have : c.toNat ≠ 48 := fun e => h (by rw [← UInt8.toNat_inj]; exact e)
            have := hdc.1 hc
            omega
        generalize valD 0 (c :: r) = v at *
        by_cases h10 : 10 < w.size
        · rw [if_pos (.inl h10)]
          rw [if_neg (c := digsR (c :: r) = true ∧ v < 2147483648)]
          · split <;> rfl
          · rintro ⟨-, hv⟩
            have hr : 1 ≤ c.toNat - 48 := by
              rcases hc1 with h | h
              · subst h; simp at hsz; omega
              · exact h
            have : 1 * 10 ^ 10 ≤ (0 * 10 + (c.toNat - 48)) * 10 ^ r.length := Nat.mul_le_mul (by omega) (Nat.pow_le_pow_right (by decide) (by omega))
            omega
        · rw [if_neg (by omega : ¬ (w.size = 0 ∨ 64 < w.size))]
          by_cases h9 : w.size = 10
          · have hlv := hlv (by omega)
            by_cases hv : v < 2147483648
            · rw [if_pos (⟨hD, hv⟩ : digsR (c :: r) = true ∧ v < 2147483648), if_neg]
              rintro (h | ⟨-, h⟩)
              · omega
              · have := hlv.1 h; omega
            · rw [if_neg (fun h => hv h.2 : ¬ (digsR (c :: r) = true ∧ v < 2147483648)), if_pos (.inr ⟨h9, hlv.2 (by omega)⟩)]
          · have : v < 2147483648 := by
              have : 10 ^ (r.length + 1) ≤ 10 ^ 9 := Nat.pow_le_pow_right (by decide) (by omega)
              omega
            rw [if_pos (⟨hD, this⟩ : digsR (c :: r) = true ∧ v < 2147483648), if_neg (by rintro (h | h); exact h10 h; exact h9 h.1)]
      · rw [if_neg hD, hN, if_neg (fun h => hD h.1 : ¬ (digsR (c :: r) = true ∧ valD 0 (c :: r) < 2147483648)), if_pos (hdc.1 hc), if_pos (.inr (.inr hc) : w.size = 0 ∨ 64 < w.size ∨ digU ((c :: r).headD 0) = true)]
        split <;> rfl
    · have hD : ¬ digsR (c :: r) = true := by
        intro h
        unfold digsR at h
        simp only [Bool.and_eq_true, List.all_cons] at h
        exact hc h.2.1
      rw [if_neg hD, if_neg (fun h => hc (hdc.2 h))]
      by_cases h1 : w.size = 0 ∨ 64 < w.size
      · rw [if_pos h1, if_pos (by rcases h1 with h | h; exact .inl h; exact .inr (.inl h))]
      · rw [if_neg h1, if_neg (by rintro (h | h | h); exact h1 (.inl h); exact h1 (.inr h); exact hc h)]
end Go.Proofs.YtcnhklcbibpjpaaGreatDoor
