/- Lemmas behind the laws of the tokens; no conditions. -/
import Derived.Test.YtcnhklcbibpjpaaGreatDoorZPP
import Derived.Test.YtcnhklcbibpjpaaGreatDoorZMG
set_option linter.unusedVariables false
set_option linter.unusedSimpArgs false

namespace Go.Proofs.YtcnhklcbibpjpaaGreatDoor
open Go.RowKit PRpa Go.Proofs.YtcnhklcbibpjpaaGreatDoorW.PrintWords
theorem c_iff (c : UInt8) (n : Nat) (hn : n < 256) : ((c.toNat : Int) = (n : Int)) ↔ c = UInt8.ofNat n := by
  rw [← UInt8.toNat_inj]
  have : (UInt8.ofNat n).toNat = n := by simp; omega
  rw [this]; omega
theorem rp_digit (c : UInt8) : idiomref02_Digit.f (c.toNat : Int) = some (digB c) := by
  unfold idiomref02_Digit.f digB
  repeat' split
  all_goals (congr 1; rw [Bool.eq_iff_iff]; simp; omega)
theorem rp_drop (a : ByteArray) (i : Nat) (h : i < a.size) : ∃ c, a.data.toList.drop i = c :: a.data.toList.drop (i + 1) ∧ bt a (i : Int) = (c.toNat : Int) := by
  have h' : i < a.data.toList.length := by simpa using h
  exact ⟨_, List.drop_eq_getElem_cons h', bt_nat a i h'⟩
theorem rp_digits_l0 (a : ByteArray) (ha : a.size ≤ 100000) : ∀ (d k i : Nat), i + d = a.size → d < k → idiomref02_Digits.l0 k a (i : Int) = some ((a.data.toList.drop i).all digB) := by
  intro d
  induction d with
  | zero =>
    intro k i hi hk
    obtain ⟨k, rfl⟩ : ∃ m, k = m + 1 := ⟨k - 1, by omega⟩
    rw [idiomref02_Digits.l0, if_neg (by omega), List.drop_eq_nil_of_le (by simp; omega)]
    rfl
  | succ d ih =>
    intro k i hi hk
    obtain ⟨k, rfl⟩ : ∃ m, k = m + 1 := ⟨k - 1, by omega⟩
    obtain ⟨c, h1, h2⟩ := rp_drop a i (by omega)
    rw [idiomref02_Digits.l0, if_pos (by omega), if_pos (by omega), h2, rp_digit, h1, List.all_cons]
    simp only [Option.bind_some]
    rw [show wrap64 ((i : Int) + 1) = ((i + 1 : Nat) : Int) from by rw [IntWalk.wrap64_in _ (by omega)]; omega]
    cases digB c with
    | true => rw [if_pos rfl, ih k (i + 1) (by omega) (by omega)]; simp
    | false => simp
theorem rp_digits (a : ByteArray) (ha : a.size ≤ 100000) (k : Nat) (hk : a.size < k) : idiomref02_Digits.f k a = some (a.data.toList.all digB) := by
  unfold idiomref02_Digits.f
  have := rp_digits_l0 a ha a.size k 0 (by omega) hk
  simpa using this
theorem rp_noughts_l0 (a : ByteArray) (ha : a.size ≤ 100000) : ∀ (d k i : Nat), i + d = a.size → d < k → idiomref02_noughts.l0 k a (i : Int) = some ((a.data.toList.drop i).all (· == 48)) := by
  intro d
  induction d with
  | zero =>
    intro k i hi hk
    obtain ⟨k, rfl⟩ : ∃ m, k = m + 1 := ⟨k - 1, by omega⟩
    rw [idiomref02_noughts.l0, if_neg (by omega), List.drop_eq_nil_of_le (by simp; omega)]
    rfl
  | succ d ih =>
    intro k i hi hk
    obtain ⟨k, rfl⟩ : ∃ m, k = m + 1 := ⟨k - 1, by omega⟩
    obtain ⟨c, h1, h2⟩ := rp_drop a i (by omega)
    have h3 : ((c.toNat : Int) = 48) ↔ (c == 48) = true := by rw [beq_iff_eq]; exact c_iff c 48 (by decide)
    rw [idiomref02_noughts.l0, if_pos (by omega), if_pos (by omega), h2, h1, List.all_cons]
    rw [show wrap64 ((i : Int) + 1) = ((i + 1 : Nat) : Int) from by rw [IntWalk.wrap64_in _ (by omega)]; omega]
    by_cases h : (c.toNat : Int) = 48
    · rw [if_pos h, ih k (i + 1) (by omega) (by omega), h3.1 h]; simp
    · rw [if_neg h, show (c == 48) = false from by simpa using fun e => h (h3.2 e)]; simp
theorem rp_noughts (a : ByteArray) (ha : a.size ≤ 100000) (k : Nat) (hk : a.size < k) : idiomref02_noughts.f k a = some (a.data.toList.all (· == 48)) := by
  unfold idiomref02_noughts.f
  have := rp_noughts_l0 a ha a.size k 0 (by omega) hk
  simpa using this
theorem trimB_all (l : List UInt8) : (Lib.trimB l 48).isEmpty = l.all (· == 48) := by
  have hL : ∀ l : List UInt8, (Lib.trimLeftB l 48).isEmpty = l.all (· == 48) := by
    intro l
    unfold Lib.trimLeftB
    induction l with
    | nil => rfl
    | cons c l ih =>
      rw [List.dropWhile_cons, List.all_cons]
      split
      · rename_i h; rw [ih, h]; rfl
      · rename_i h; rw [show (c == 48) = false from by simpa using h]; rfl
  unfold Lib.trimB
  rw [hL]
  unfold Lib.trimRightB
  have hR : ∀ l : List UInt8, (l.dropWhile (· == 48)).all (· == 48) = l.all (· == 48) := by
    intro l
    induction l with
    | nil => rfl
    | cons c l ih =>
      rw [List.dropWhile_cons]
      split
      · rename_i h; rw [ih, List.all_cons, h]; rfl
      · rfl
  rw [List.all_reverse, hR, List.all_reverse]
theorem cut_at (a b : List UInt8) (h : (46 : UInt8) ∉ a) : Lib.cut (a ++ 46 :: b) [46] = (a, b, true) := by
  have h1 : Lib.index (a ++ 46 :: b) [46] = (a.length : Int) := by
    rw [Lib.index_one]
    induction a with
    | nil => simp [Lib.indexByte]
    | cons c a ih =>
      have hc : (c == 46) = false := by simp at h; simpa using fun e => h.1 e.symm
      have ih := ih (fun hh => h (by simp [hh]))
      simp only [List.cons_append, Lib.indexByte, hc, ih, List.length_cons]
      simp
  unfold Lib.cut
  rw [h1, if_pos (by omega)]
  simp
theorem cut_no (a : List UInt8) (h : (46 : UInt8) ∉ a) : Lib.cut a [46] = (a, [], false) := by
  have h1 : Lib.index a [46] = -1 := by
    rw [Lib.index_one]
    induction a with
    | nil => simp [Lib.indexByte]
    | cons c a ih =>
      have hc : (c == 46) = false := by simp at h; simpa using fun e => h.1 e.symm
      have ih := ih (fun hh => h (by simp [hh]))
      simp only [Lib.indexByte, hc, ih]
      simp
  unfold Lib.cut
  rw [h1, if_neg (by omega)]
theorem split_46 (l : List UInt8) : (46 : UInt8) ∉ l ∨ ∃ a b, l = a ++ 46 :: b ∧ (46 : UInt8) ∉ a := by
  induction l with
  | nil => left; simp
  | cons c l ih =>
    by_cases hc : c = 46
    · right; exact ⟨[], l, by rw [hc]; rfl, by simp⟩
    · rcases ih with h | ⟨a, b, h1, h2⟩
      · left; simp; exact ⟨fun e => hc e.symm, h⟩
      · right; exact ⟨c :: a, b, by rw [h1]; rfl, by simp; exact ⟨fun e => hc e.symm, h2⟩⟩
theorem dig_46 {a : List UInt8} (h : a.all digB = true) : (46 : UInt8) ∉ a := by
  intro hm
  have := (List.all_eq_true.1 h) _ hm
  exact absurd this (by decide)
def bodyB (neg : Bool) (L : List UInt8) : Bool :=
  !((Lib.cut L [46]).2.2 && (Lib.cut L [46]).2.1.isEmpty) && formB neg (Lib.cut L [46]).1 (Lib.cut L [46]).2.1 && decide ((Lib.cut L [46]).1.length + (Lib.cut L [46]).2.1.length ≤ 40)
theorem rp_j5 (k : Nat) (n : Nat) (hn : n ≤ 100000) (err neg : Bool) (a b : ByteArray) (hb : b.size ≤ 100000) : ∃ x y z e, idiomref02_Parse.j5 (k + 1) (n : Int) err neg a b = some (x, y, z, e) ∧ (e == 0) = (!err && decide (n + b.size ≤ 40)) := by
  have h2 : wrap64 (40 - (n : Int)) = 40 - (n : Int) := IntWalk.wrap64_in _ (by omega)
  simp only [idiomref02_Parse.j5, h2]
  cases err with
  | true => exact ⟨_, _, _, _, rfl, rfl⟩
  | false =>
    simp only [Bool.false_eq_true, if_false, Bool.not_false, Bool.true_and]
    by_cases h1 : (n : Int) > 40
    · rw [if_pos h1]; exact ⟨_, _, _, _, rfl, by simp; omega⟩
    · rw [if_neg h1]
      by_cases h3 : (b.size : Int) > 40 - (n : Int)
      · rw [if_pos h3]; exact ⟨_, _, _, _, rfl, by simp; omega⟩
      · rw [if_neg h3]; exact ⟨_, _, _, _, rfl, by simp; omega⟩
theorem rp_nought (k : Nat) (neg : Bool) (a b : ByteArray) (ha : a.size ≤ 100000) (hb : b.size ≤ 100000) (hk : a.size < k) (hk2 : b.size < k) : idiomref02_Nought.f k neg a b = some (a.data.toList.all (· == 48) && b.data.toList.all (· == 48)) := by
  unfold idiomref02_Nought.f
  rw [rp_noughts a ha k hk, rp_noughts b hb k hk2]
  simp only [Option.bind_some]
  cases a.data.toList.all (· == 48) <;> simp
theorem rp_j4 (k : Nat) (neg : Bool) (a b : ByteArray) (ha : a.size ≤ 100000) (hb : b.size ≤ 100000) (hk : a.size < k + 1) (hk2 : b.size < k + 1) (hd : a.data.toList.all digB = true) :
    ∃ x y z e, idiomref02_Parse.j4 (k + 2) (a.size : Int) neg a b = some (x, y, z, e) ∧ (e == 0) = (formB neg a.data.toList b.data.toList && decide (a.size + b.size ≤ 40)) := by
  have hsz : a.size = a.data.toList.length := by simp
  unfold formB
  simp only [idiomref02_Parse.j4, trimB_all, hd]
  rw [rp_digits b hb (k + 1) hk2, rp_nought (k + 1) neg a b ha hb hk hk2]
  simp only [Option.bind_some]
  have J : ∀ err, ∃ x y z e, idiomref02_Parse.j5 (k + 1) (a.size : Int) err neg a b = some (x, y, z, e) ∧ (e == 0) = (!err && decide (a.size + b.size ≤ 40)) := fun err => rp_j5 k a.size ha err neg a b hb
  generalize idiomref02_Parse.j5 (k + 1) (a.size : Int) = jj at J ⊢
  by_cases h0 : (a.size : Int) = 0
  · rw [if_pos h0]
    have : a.data.toList = [] := List.length_eq_zero_iff.1 (by omega)
    obtain ⟨x, y, z, e, h1, h2⟩ := J true
    exact ⟨x, y, z, e, h1, by rw [h2, this]; rfl⟩
  · rw [if_neg h0, if_pos (by omega)]
    obtain ⟨c, r, hcr⟩ : ∃ c r, a.data.toList = c :: r := by
      cases h : a.data.toList with
      | nil => rw [h, List.length_nil] at hsz; omega
      | cons c r => exact ⟨c, r, rfl⟩
    have hb0 : bt a 0 = (c.toNat : Int) := by
      have := bt_nat a 0 (by rw [hcr]; simp)
      simp only [hcr] at this
      simpa using this
    rw [hb0]
    have hc : ((c.toNat : Int) = 48) ↔ c = 48 := c_iff c 48 (by decide)
    have key : ∀ D : Bool, ∃ x y z e, (if D = true then (if neg = true then jj (a.data.toList.all (· == 48) && b.data.toList.all (· == 48)) neg a b else jj false neg a b) else jj true neg a b) = some (x, y, z, e) ∧ (e == 0) = (D && (!neg || !(a.data.toList.all (· == 48)) || !(b.data.toList.all (· == 48))) && decide (a.size + b.size ≤ 40)) := by
      intro D
      cases D with
      | false => simp only [Bool.false_eq_true, if_false]; obtain ⟨x, y, z, e, h1, h2⟩ := J true; exact ⟨x, y, z, e, h1, by rw [h2]; rfl⟩
      | true =>
        simp only [if_true]
        cases neg with
        | false => simp only [Bool.false_eq_true, if_false]; obtain ⟨x, y, z, e, h1, h2⟩ := J false; exact ⟨x, y, z, e, h1, by rw [h2]; rfl⟩
        | true =>
          simp only [if_true]
          obtain ⟨x, y, z, e, h1, h2⟩ := J (a.data.toList.all (· == 48) && b.data.toList.all (· == 48))
          exact ⟨x, y, z, e, h1, by rw [h2]; simp⟩
    obtain ⟨x, y, z, e, h1, h2⟩ := key (b.data.toList.all digB)
    by_cases h48 : (c.toNat : Int) = 48
    · rw [if_pos h48]
      by_cases hg : (a.size : Int) > 1
      · rw [if_pos hg]
        obtain ⟨x, y, z, e, h1, h2⟩ := J true
        refine ⟨x, y, z, e, h1, ?_⟩
        rw [h2, hcr, hc.1 h48]
        rw [hcr, List.length_cons] at hsz
        have : 0 < r.length := by omega
        simp [this]
      · rw [if_neg hg]
        refine ⟨x, y, z, e, h1, ?_⟩
        rw [h2]
        have h3 : decide (1 < a.data.toList.length) = false := by simp; omega
        rw [h3, hcr]
        simp
    · rw [if_neg h48]
      refine ⟨x, y, z, e, h1, ?_⟩
      rw [h2, hcr]
      have : ¬ c = 48 := fun h => h48 (hc.2 h)
      have hcb : (c == 48) = false := by simpa using this
      simp [hcb, Bool.and_assoc]
theorem rp_j3 (k : Nat) (neg : Bool) (w : ByteArray) (n : Nat) (hw : w.size ≤ 100000) (hk : w.size < k + 1) (hn : n ≤ w.size) (hd : (w.data.toList.take n).all digB = true) (hs : ∀ c, w.data.toList[n]? = some c → digB c = false) :
    ∃ x y z e, idiomref02_Parse.j3 (k + 3) w (n : Int) neg (⟨#[]⟩ : ByteArray) (⟨#[]⟩ : ByteArray) = some (x, y, z, e) ∧ (e == 0) = bodyB neg w.data.toList := by
  have hsz : w.size = w.data.toList.length := by simp
  have hx0 : (w.extract 0 n).data.toList = w.data.toList.take n := by simp [ByteArray.data_extract, List.extract_eq_take_drop]
  have hx0s : (w.extract 0 n).size = n := by simp [ByteArray.size_extract]; omega
  have e1 : wrap64 ((n : Int) + 1) = ((n + 1 : Nat) : Int) := by rw [IntWalk.wrap64_in _ (by omega)]; omega
  simp only [idiomref02_Parse.j3, e1]
  rw [if_pos (by omega), if_pos (by omega)]
  have t0 : ((n : Nat) : Int).toNat = n := by omega
  have t1 : ((n + 1 : Nat) : Int).toNat = n + 1 := by omega
  rw [t0, t1]
  have hno := dig_46 hd
  by_cases hlt : n < w.size
  · rw [if_pos (by omega)]
    obtain ⟨c, h1, h2⟩ := rp_drop w n hlt
    have hcn : w.data.toList[n]? = some c := by rw [← List.head?_drop, h1]; rfl
    have hcd := hs c hcn
    have hL : w.data.toList = w.data.toList.take n ++ c :: w.data.toList.drop (n + 1) := by rw [← h1, List.take_append_drop]
    rw [h2]
    have hc : ((c.toNat : Int) = 46) ↔ c = 46 := c_iff c 46 (by decide)
    by_cases h46 : (c.toNat : Int) = 46
    · rw [if_pos h46]
      have hcut : Lib.cut w.data.toList [46] = (w.data.toList.take n, w.data.toList.drop (n + 1), true) := by
        rw [hc.1 h46] at hL
        exact (congrArg (fun l => Lib.cut l [46]) hL).trans (cut_at _ _ hno)
      unfold bodyB
      rw [hcut]
      by_cases hend : ((n + 1 : Nat) : Int) = (w.size : Int)
      · rw [if_pos hend]
        refine ⟨_, _, _, _, rfl, ?_⟩
        rw [List.drop_eq_nil_of_le (by omega)]
        rfl
      · rw [if_neg hend, if_pos (by omega), if_pos (by omega)]
        have hx1 : (w.extract (n + 1) w.size).data.toList = w.data.toList.drop (n + 1) := by
          simp [ByteArray.data_extract, List.extract_eq_take_drop]
          rw [List.take_of_length_le (by simp)]
        have hx1s : (w.extract (n + 1) w.size).size = w.size - (n + 1) := by simp [ByteArray.size_extract]
        have := rp_j4 k neg (w.extract 0 n) (w.extract (n + 1) w.size) (by omega) (by omega) (by omega) (by omega) (by rw [hx0]; exact hd)
        rw [hx0s, hx0, hx1, hx1s] at this
        obtain ⟨x, y, z, e, h3, h4⟩ := this
        refine ⟨x, y, z, e, h3, ?_⟩
        rw [h4]
        have h5 : (w.data.toList.drop (n + 1)).isEmpty = false := by
          cases h : w.data.toList.drop (n + 1) with
          | nil => have := congrArg List.length h; simp at this; omega
          | cons _ _ => rfl
        have h6 : (w.data.toList.take n).length = n := by simp; omega
        have h7 : (w.data.toList.drop (n + 1)).length = w.size - (n + 1) := by simp
        simp only [h5, h6, h7, Bool.and_false, Bool.not_false, Bool.true_and]
    · rw [if_neg h46]
      refine ⟨_, _, _, _, rfl, ?_⟩
      have hne : ¬ c = 46 := fun h => h46 (hc.2 h)
      have hbad : (Lib.cut w.data.toList [46]).1.all digB = false := by
        rcases split_46 w.data.toList with h | ⟨a, b, h3, h4⟩
        · rw [cut_no _ h, hL]
          simp [hcd]
        · rw [h3, cut_at _ _ h4]
          simp only
          have hm : c ∈ a := by
            rw [h3] at hcn
            have hna : n < a.length := by
              rcases Nat.lt_or_ge n a.length with h5 | h5
              · exact h5
              · exfalso
                rcases Nat.lt_or_ge a.length n with h6 | h6
                · apply hno
                  rw [h3]
                  rw [List.take_append]
                  rw [List.mem_append]
                  right
                  obtain ⟨q, hq⟩ : ∃ q, n - a.length = q + 1 := ⟨n - a.length - 1, by omega⟩
                  rw [hq, List.take_succ_cons]
                  simp
                · obtain rfl : n = a.length := by omega
                  simp at hcn
                  exact hne hcn.symm
            rw [List.getElem?_append_left hna] at hcn
            exact List.mem_of_getElem? hcn
          rw [List.all_eq_false]
          exact ⟨c, hm, by rw [hcd]; decide⟩
      unfold bodyB formB
      rw [hbad]
      simp
  · rw [if_neg (by omega)]
    have hn2 : n = w.size := by omega
    have htk : w.data.toList.take n = w.data.toList := List.take_of_length_le (by omega)
    rw [htk] at hno hx0 hd
    unfold bodyB
    rw [cut_no _ hno]
    have := rp_j4 k neg (w.extract 0 n) (⟨#[]⟩ : ByteArray) (by omega) (by simp [ByteArray.size]) (by omega) (by simp [ByteArray.size]) (by rw [hx0]; exact hd)
    rw [hx0s, hx0] at this
    obtain ⟨x, y, z, e, h3, h4⟩ := this
    refine ⟨x, y, z, e, h3, ?_⟩
    rw [h4, hn2]
    have : (⟨#[]⟩ : ByteArray).size = 0 := rfl
    simp [this]
theorem rp_l0 (neg : Bool) (w : ByteArray) (hw : w.size ≤ 100000) : ∀ (d k n : Nat), n + d = w.size → w.size + d < k + 1 → (w.data.toList.take n).all digB = true →
    ∃ x y z e, idiomref02_Parse.l0 (k + 4) w (n : Int) neg (⟨#[]⟩ : ByteArray) (⟨#[]⟩ : ByteArray) = some (x, y, z, e) ∧ (e == 0) = bodyB neg w.data.toList := by
  have hsz : w.size = w.data.toList.length := by simp
  intro d
  induction d with
  | zero =>
    intro k n hn hk hd
    simp only [idiomref02_Parse.l0]
    rw [if_neg (by omega)]
    exact rp_j3 k neg w n hw (by omega) (by omega) hd (fun c hc => by rw [List.getElem?_eq_none (by omega)] at hc; cases hc)
  | succ d ih =>
    intro k n hn hk hd
    obtain ⟨c, h1, h2⟩ := rp_drop w n (by omega)
    have hcn : w.data.toList[n]? = some c := by rw [← List.head?_drop, h1]; rfl
    simp only [idiomref02_Parse.l0]
    rw [if_pos (by omega), if_pos (by omega), h2, rp_digit]
    simp only [Option.bind_some]
    rw [show wrap64 ((n : Int) + 1) = ((n + 1 : Nat) : Int) from by rw [IntWalk.wrap64_in _ (by omega)]; omega]
    cases hc : digB c with
    | true =>
      rw [if_pos rfl]
      obtain ⟨k, rfl⟩ : ∃ q, k = q + 1 := ⟨k - 1, by omega⟩
      refine ih k (n + 1) (by omega) (by omega) ?_
      rw [List.take_add_one, hcn, List.all_append, hd]
      simp [hc]
    | false =>
      rw [if_neg (by decide)]
      exact rp_j3 k neg w n hw (by omega) (by omega) hd (fun c' hc' => by rw [hcn] at hc'; cases hc'; exact hc)
theorem decB_body (w : ByteArray) (hz : w.size ≤ 65536) : decB w.data.toList = bodyB (Lib.hasPrefix w.data.toList [45]) (Lib.trimPrefix w.data.toList [45]) := by
  unfold decB bodyB
  rw [show decide (w.data.toList.length ≤ 65536) = true from by simp; exact hz]
  simp
theorem rp_parse (w : ByteArray) (hw : w.size ≤ 100000) : ∃ k x y z e, idiomref02_Parse.f k w = some (x, y, z, e) ∧ (e == 0) = decB w.data.toList := by
  have hsz : w.size = w.data.toList.length := by simp
  unfold idiomref02_Parse.f
  by_cases hz : w.size ≤ 65536
  · rw [decB_body w hz]
    refine ⟨2 * w.size + 7, ?_⟩
    rw [if_neg (by omega)]
    have J : ∀ u : ByteArray, u.size ≤ w.size → ∀ neg, ∃ x y z e, idiomref02_Parse.j1 (2 * w.size + 6) u neg (⟨#[]⟩ : ByteArray) (⟨#[]⟩ : ByteArray) = some (x, y, z, e) ∧ (e == 0) = bodyB neg u.data.toList := by
      intro u hu neg
      simp only [idiomref02_Parse.j1]
      exact rp_l0 neg u (by omega) u.size (2 * w.size + 1) 0 (by omega) (by omega) (by simp)
    cases hl : w.data.toList with
    | nil =>
      rw [hl, List.length_nil] at hsz
      rw [if_neg (by omega)]
      simp only [idiomref02_Parse.j0, Bool.false_eq_true, if_false]
      have := J w (Nat.le_refl _) false
      rw [hl] at this
      exact this
    | cons c r =>
      have hpos : 0 < w.size := by rw [hsz, hl]; simp
      have hb0 : bt w 0 = (c.toNat : Int) := by
        have := bt_nat w 0 (by rw [hl]; simp)
        simp only [hl] at this
        simpa using this
      rw [if_pos (by omega), if_pos (by omega), hb0]
      have hc : ((c.toNat : Int) == 45) = (c == 45) := by rw [Bool.eq_iff_iff]; simp [← UInt8.toNat_inj]; omega
      rw [hc]
      by_cases h45 : c = 45
      · subst h45
        simp only [idiomref02_Parse.j0]
        rw [if_pos (by decide), if_pos (by omega)]
        have := J (w.extract 1 w.size) (by simp [ByteArray.size_extract]) true
        have hx : (w.extract 1 w.size).data.toList = r := by
          simp [ByteArray.data_extract, List.extract_eq_take_drop, hl]
          rw [hsz, hl]; simp
        rw [hx] at this
        simpa [Lib.hasPrefix, Lib.trimPrefix] using this
      · simp only [idiomref02_Parse.j0]
        have hcb : (c == 45) = false := by simpa using h45
        rw [hcb, if_neg (by decide)]
        have := J w (Nat.le_refl _) false
        rw [hl] at this
        have h1 : Lib.hasPrefix (c :: r) [45] = false := by
          simp only [Lib.hasPrefix, List.isPrefixOf, Bool.and_true]
          simpa using fun e => h45 (Eq.symm e)
        have h2 : Lib.trimPrefix (c :: r) [45] = c :: r := by unfold Lib.trimPrefix; rw [if_neg (by rw [h1]; decide)]
        rw [h1, h2]
        exact this
  · refine ⟨0, false, ⟨#[]⟩, ⟨#[]⟩, 2, by rw [if_pos (by omega)], ?_⟩
    unfold decB
    rw [show decide (w.data.toList.length ≤ 65536) = false from by simp; omega]
    rfl
end Go.Proofs.YtcnhklcbibpjpaaGreatDoor
