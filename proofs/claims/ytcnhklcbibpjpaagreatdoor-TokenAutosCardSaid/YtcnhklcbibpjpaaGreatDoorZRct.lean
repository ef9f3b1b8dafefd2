/- Lemmas behind the laws of the tokens; no conditions. -/
import Derived.Test.YtcnhklcbibpjpaaGreatDoorZRgl
import Derived.Test.YtcnhklcbibpjpaaGreatDoorZRtr
import Derived.Test.YtcnhklcbibpjpaaGreatDoorZRpb
import Derived.Test.YtcnhklcbibpjpaaGreatDoorZRid
import Derived.WalkLawsBesides
set_option linter.unusedVariables false
set_option linter.unusedSimpArgs false

namespace Go.Proofs.YtcnhklcbibpjpaaGreatDoor
open Go.RowKit P Ext PRfa PRpa Go.Proofs.YtcnhklcbibpjpaaGreatDoorW.PrintWords
theorem trimC : TrimC := fun t w hG hz => (idiomref01_Trim.calls (t.size + 11) t (trimP t) w hG (trim_f t hz)).mono fun e w' ⟨he, hb⟩ => ⟨he, hb.below⟩
theorem parseC : ParseC := by
  intro t w hG hz
  obtain ⟨k, x, y, z, e, h1, h2⟩ := rp_parse t hz
  exact (idiomref02_Parse.calls k t x y z e w hG h1).mono fun e' w' ⟨he, hb⟩ => ⟨⟨x, y, z, e, he, h2⟩, hb⟩
theorem ri_digit (c : UInt8) : idiomref01_Digit.f (c.toNat : Int) = some (digU c) := by
  unfold idiomref01_Digit.f digU
  repeat' split
  all_goals (congr 1; rw [Bool.eq_iff_iff]; simp; omega)
theorem ri_l0 (a : ByteArray) (ha : a.size ≤ 100000) : ∀ (d k i : Nat), i + d = a.size → d < k → idiomref01_Digits.l0 k a (i : Int) = some ((a.data.toList.drop i).all digU) := by
  intro d
  induction d with
  | zero =>
    intro k i hi hk
    obtain ⟨k, rfl⟩ : ∃ m, k = m + 1 := ⟨k - 1, by omega⟩
    rw [idiomref01_Digits.l0, if_neg (by omega), List.drop_eq_nil_of_le (by simp; omega)]
    rfl
  | succ d ih =>
    intro k i hi hk
    obtain ⟨k, rfl⟩ : ∃ m, k = m + 1 := ⟨k - 1, by omega⟩
    obtain ⟨c, h1, h2⟩ := rp_drop a i (by omega)
    rw [idiomref01_Digits.l0, if_pos (by omega), if_pos (by omega), h2, ri_digit, h1, List.all_cons]
    simp only [Option.bind_some]
    rw [show wrap64 ((i : Int) + 1) = ((i + 1 : Nat) : Int) from by rw [IntWalk.wrap64_in _ (by omega)]; omega]
    cases digU c with
    | true => rw [if_pos rfl, ih k (i + 1) (by omega) (by omega)]; simp
    | false => simp
theorem ri_digits (a : ByteArray) (ha : a.size ≤ 100000) : idiomref01_Digits.f (a.size + 2) a = some (digsR a.data.toList) := by
  have h0 := ri_l0 a ha a.size (a.size + 1) 0 (by omega) (by omega)
  have h0' : idiomref01_Digits.l0 (a.size + 1) a 0 = some (a.data.toList.all digU) := by simpa using h0
  have hsz : a.size = a.data.toList.length := by simp
  unfold idiomref01_Digits.f digsR
  rw [ByteArray.toList_eq]
  cases hl : a.data.toList with
  | nil => rw [if_pos rfl]; simp [idiomref01_Digits.j0]
  | cons c r =>
    rw [hl, List.length_cons] at hsz
    have hb0 : bt a 0 = (c.toNat : Int) := by
      have := bt_nat a 0 (by rw [hl]; simp)
      simp only [hl] at this
      simpa using this
    rw [hl] at h0'
    rw [if_neg (by simp), if_pos (by omega), hb0]
    have hj : ∀ b, idiomref01_Digits.j0 (a.size + 2) a b = some (!b && (c :: r).all digU) := by
      intro b
      simp only [idiomref01_Digits.j0]
      rw [h0']
      cases b <;> simp
    have h48 : ((c.toNat : Int) = 48) ↔ c = 48 := c_iff c 48 (by decide)
    by_cases hc : (c.toNat : Int) = 48
    · rw [if_pos hc, hj, h48.1 hc]
      have : decide ((a.size : Int) > 1) = decide (1 < (48 :: r : List UInt8).length) := by rw [decide_eq_decide, List.length_cons]; omega
      rw [this]
      simp
    · rw [if_neg hc, hj]
      have : (c == 48) = false := by simpa using fun h => hc (h48.2 h)
      simp [this]
theorem Digits_any (t : ByteArray) (w : World) (hG : GlH w) (hz : t.size ≤ 100000) : Calls Tryz.prog 95 #[.string t] w fun e w' => e = .returned (.bool (digsR t.data.toList)) ∧ Below w.heap.size w w' :=
  (idiomref01_Digits.calls _ t _ w hG (ri_digits t hz)).mono fun e w' ⟨he, hb⟩ => ⟨he, hb.below⟩
theorem nameOk_at (t : ByteArray) (j : Nat) (h : j < t.size) : nameOk t j = if stopB t j then false else nameOk t (j + (Utf8.decode t j).2) := by rw [nameOk, dif_pos h]
set_option maxRecDepth 100000 in
set_option maxHeartbeats 4000000 in
theorem identC : IdentC := by
  intro t w hG hz
  rw [← ident_eq]
  have HD := Lib.hid (fun (W : World) (hG : GlH W) => Digits_any t W hG hz)
  rcases hD : digsR t.data.toList with _ | _
  · rw [hD] at HD
    have HI : Hid (identR t = if t.size = 0 ∨ 64 < t.size ∨ digU (t.data.toList.headD 0) = true then 0 else if nameOk t 0 then 1 else 0) := Lib.hid (by rw [identR, if_neg (by rw [hD]; decide)])
    clear hD
    by_cases h0 : t.size = 0
    · have HF : Hid (identR t = 0) := Lib.hid (by rw [HI.out, if_pos (.inl h0)])
      have ht0 : t.toList = [] := (tlNil t).2 h0
      clear h0
      go_enter Tryz.func73, Tryz.ntmps73
      go_wp2_with (go_at_call 95; refine (HD.out _ hG).mono ?_; rintro e' W2 ⟨rfl, hb2⟩)
      go_ret
      rw [HF.out]
      exact ⟨rfl, hb2⟩
    · have ht0 : ¬ t.toList = [] := fun h => h0 ((tlNil t).1 h)
      have hbe : t.toList.isEmpty = false := by simpa using ht0
      by_cases h64 : 64 < t.size
      · have HF : Hid (identR t = 0) := Lib.hid (by rw [HI.out, if_pos (.inr (.inl h64))])
        have d64 : decide ((64 : Int) < (t.size : Int)) = true := by simp; omega
        go_enter Tryz.func73, Tryz.ntmps73
        go_wp2_with (go_at_call 95; refine (HD.out _ hG).mono ?_; rintro e' W2 ⟨rfl, hb2⟩)
        go_ret
        rw [HF.out]
        exact ⟨rfl, hb2⟩
      · have d64 : decide ((64 : Int) < (t.size : Int)) = false := by simp; omega
        have hp : 0 < t.size := by omega
        have hp' : (0 : Int) < t.size := by omega
        have hhd : t.data.toList.headD 0 = t[0]'hp := by
          have hqq : 0 < t.data.toList.length := by simpa using hp
          cases hl : t.data.toList with
          | nil => rw [hl] at hqq; simp at hqq
          | cons c r =>
            have : t[0]'hp = t.data.toList[0]'hqq := by simp; rfl
            rw [this]; simp [hl]
        have HG := Lib.hid (fun (W : World) (hG : GlH W) => by have h2 := Digit_any (w := W) ((t[0]'hp).toNat) hG; exact h2)
        rcases hdg : (decide (48 ≤ (t[0]'hp).toNat) && decide ((t[0]'hp).toNat ≤ 57)) with _ | _
        rotate_left
        focus
          rw [hdg] at HG
          have HF : Hid (identR t = 0) := Lib.hid (by rw [HI.out, if_pos (.inr (.inr (by rw [hhd]; exact hdg)))])
          clear hdg hhd
          go_enter Tryz.func73, Tryz.ntmps73
          go_wp2_with (first
            | (go_at_call 95; refine (HD.out _ hG).mono ?_; rintro e' W2 ⟨rfl, hb2⟩)
            | (go_at_call 68; refine (HG.out _ (hG.bel hb2)).mono ?_; rintro e' W3 ⟨rfl, hb3⟩))
          go_ret
          rw [HF.out]
          exact ⟨rfl, hb2.trans (hb3.mono hb2.size)⟩
        rw [hdg] at HG
        have HF : Hid (identR t = if nameOk t 0 then 1 else 0) := Lib.hid (by
          rw [HI.out, if_neg]
          rintro (h | h | h)
          · exact h0 h
          · exact h64 h
          · rw [hhd] at h; unfold digU at h; rw [hdg] at h; cases h)
        clear hdg hhd HI
        go_enter Tryz.func73, Tryz.ntmps73
        go_wp2_with (first
          | (go_at_call 95; refine (HD.out _ hG).mono ?_; rintro e' W2 ⟨rfl, hb2⟩)
          | (go_at_call 68; refine (HG.out _ (hG.bel hb2)).mono ?_; rintro e' W3 ⟨rfl, hb3⟩))
        have hb4 := hb2.trans (hb3.mono hb2.size)
        clear hb2 hb3 HD HG
        go_loopw [3] (fun v3 wr => ∃ j : Nat, v3 = .int .i64 (j : Int) ∧ j ≤ t.size ∧ Hid (nameOk t 0 = nameOk t j) ∧ Below w.heap.size w wr) (fun v3 _ => t.size - valN v3)
        case atStart => exact ⟨0, rfl, Nat.zero_le _, Lib.hid rfl, hb4⟩
        case round =>
          obtain ⟨j, rfl, hjs, HN, hbr⟩ := hrel
          clear hb4
          by_cases hlt : j < t.size
          · have dl : decide ((j : Int) < (t.size : Int)) = true := by simp; omega
            go_wp2_with fail
            refine (Step_any j (hG.bel hbr) hz hlt).mono ?_
            rintro e' W3 ⟨rfl, hb3⟩
            have hb5 := hbr.trans (hb3.mono hbr.size)
            obtain ⟨p1, p2⟩ := stepP_sp t j
            have p3 := stepP_w t j
            have hrl := rune_lt t j
            have hw1 := width_pos t j hlt
            have hw2 := width_le t j hlt
            have HNJ := Lib.hid (nameOk_at t j hlt)
            by_cases hneg : (stepP t j).1 < 0
            · have eN : decide ((stepP t j).1 < 0) = true := by simpa using hneg
              have HR : Hid (identR t = 0) := Lib.hid (by
                have hst : stopB t j = true := by
                  have : Utf8.decode t j = (65533, 1) := by
                    by_cases hd : Utf8.decode t j = (65533, 1)
                    · exact hd
                    · rw [stepP, if_neg hd] at hneg; simp only at hneg; omega
                  unfold stopB; rw [this]; rfl
                rw [HF.out, HN.out, HNJ.out, hst]; rfl)
              clear p1 p2 p3
              go_wp2_with fail
              go_ret
              rw [HR.out]
              exact ⟨rfl, hb5⟩
            · have p4 := p2 (by simpa using hneg)
              have hnb : Utf8.decode t j ≠ (65533, 1) := fun hd => by rw [stepP, if_pos hd] at hneg; exact hneg (by decide)
              have hst : Hid (stopB t j = (spB ((Utf8.decode t j).1 : Int) || syB ((Utf8.decode t j).1 : Int))) := Lib.hid (by
                unfold stopB
                have : ((((Utf8.decode t j).1 : Int) == 65533) && (((Utf8.decode t j).2 : Int) == 1)) = false := by
                  rw [Bool.eq_false_iff]
                  intro e
                  simp only [Bool.and_eq_true, beq_iff_eq] at e
                  exact hnb (Prod.ext (by simp only; omega) (by simp only; omega))
                rw [this, Bool.false_or])
              rw [p4]
              clear p1 p2 p3 p4 hneg hnb
              dsimp only
              generalize (Utf8.decode t j).1 = r at *
              generalize (Utf8.decode t j).2 = wd at *
              have eN : decide ((r : Int) < 0) = false := by simp
              have eW : IntKind.i32.wrap (r : Int) = (r : Int) := IntWalk.i32_in _ (by omega)
              have eS : IntKind.i64.wrap ((j : Int) + (wd : Int)) = ((j + wd : Nat) : Int) := by rw [IntWalk.i64_in _ (by omega)]; omega
              have HSp := Lib.hid (fun (W : World) (hG : GlH W) => Space2_any (w := W) (r : Int) hG)
              have HSy := Lib.hid (fun (W : World) (hG : GlH W) => Syntax2_any (w := W) (r : Int) hG)
              rcases hsp : spB (r : Int) with _ | _
              · rw [hsp] at HSp
                rcases hsy : syB (r : Int) with _ | _
                · rw [hsy] at HSy
                  have HR : Hid (nameOk t 0 = nameOk t (j + wd)) := Lib.hid (by rw [HN.out, HNJ.out, hst.out, hsp, hsy]; rfl)
                  go_wp2_with (first
                    | (go_at_call 71; refine (HSp.out _ (hG.bel hb5)).mono ?_; rintro e' W5 ⟨rfl, hb6⟩; have hb7 := hb5.trans (hb6.mono hb5.size))
                    | (go_at_call 72; refine (HSy.out _ (hG.bel hb7)).mono ?_; rintro e' W6 ⟨rfl, hb8⟩; have hb9 := hb7.trans (hb8.mono hb7.size)))
                  go_roundw
                  case rel => exact ⟨j + wd, by first | rfl | (congr 1; omega), by omega, HR, hb9⟩
                  case measure => simp [valN]; omega
                · rw [hsy] at HSy
                  have HR : Hid (identR t = 0) := Lib.hid (by rw [HF.out, HN.out, HNJ.out, hst.out, hsp, hsy]; rfl)
                  go_wp2_with (first
                    | (go_at_call 71; refine (HSp.out _ (hG.bel hb5)).mono ?_; rintro e' W5 ⟨rfl, hb6⟩; have hb7 := hb5.trans (hb6.mono hb5.size))
                    | (go_at_call 72; refine (HSy.out _ (hG.bel hb7)).mono ?_; rintro e' W6 ⟨rfl, hb8⟩; have hb9 := hb7.trans (hb8.mono hb7.size)))
                  go_ret
                  rw [HR.out]
                  exact ⟨rfl, hb9⟩
              · rw [hsp] at HSp
                have HR : Hid (identR t = 0) := Lib.hid (by rw [HF.out, HN.out, HNJ.out, hst.out, hsp]; rfl)
                go_wp2_with (go_at_call 71; refine (HSp.out _ (hG.bel hb5)).mono ?_; rintro e' W5 ⟨rfl, hb6⟩; have hb7 := hb5.trans (hb6.mono hb5.size))
                go_ret
                rw [HR.out]
                exact ⟨rfl, hb7⟩
          · have dl : decide ((j : Int) < (t.size : Int)) = false := by simp; omega
            have HR : Hid (identR t = 1) := Lib.hid (by rw [HF.out, HN.out, nameOk, dif_neg hlt]; rfl)
            go_wp2_with fail
            go_ret
            rw [HR.out]
            exact ⟨rfl, hbr⟩
  · rw [hD] at HD
    have HI : Hid (identR t = if 10 < t.size ∨ t.size = 10 ∧ (!(Op.bytesLess t.data.toList maxI || t.data.toList == maxI)) = true then 0 else 2) := Lib.hid (by rw [identR, if_pos hD])
    clear hD
    by_cases h10 : 10 < t.size
    · have HF : Hid (identR t = 0) := Lib.hid (by rw [HI.out, if_pos (.inl h10)])
      have d10 : decide ((10 : Int) < (t.size : Int)) = true := by simp; omega
      go_enter Tryz.func73, Tryz.ntmps73
      go_wp2_with (go_at_call 95; refine (HD.out _ hG).mono ?_; rintro e' W2 ⟨rfl, hb2⟩)
      go_ret
      rw [HF.out]
      exact ⟨rfl, hb2⟩
    · have d10 : decide ((10 : Int) < (t.size : Int)) = false := by simp; omega
      by_cases h9 : t.size = 10
      · have d9 : ((t.size : Int) == 10) = true := by simp; omega
        rw [← ByteArray.toList_eq] at HI
        have HM : Hid (identR t = if (!(Op.bytesLess t.toList maxI || t.toList == maxI)) = true then 0 else 2) := Lib.hid (by
          rw [HI.out]
          by_cases hb : (!(Op.bytesLess t.toList maxI || t.toList == maxI)) = true
          · rw [if_pos (.inr ⟨h9, hb⟩), if_pos hb]
          · rw [if_neg (by rintro (h | h); exact h10 h; exact hb h.2), if_neg hb])
        clear h9 HI
        rcases hl : Op.bytesLess t.toList maxI with _ | _ <;> rcases he : (t.toList == maxI) with _ | _
        all_goals
          rw [hl, he] at HM
          unfold maxI at hl he
          go_enter Tryz.func73, Tryz.ntmps73
          go_wp2_with (go_at_call 95; refine (HD.out _ hG).mono ?_; rintro e' W2 ⟨rfl, hb2⟩)
          go_ret
          rw [HM.out]
          exact ⟨rfl, hb2⟩
      · have d9 : ((t.size : Int) == 10) = false := by simp; omega
        have HF : Hid (identR t = 2) := Lib.hid (by rw [HI.out, if_neg (by rintro (h | h); exact h10 h; exact h9 h.1)])
        clear h9
        go_enter Tryz.func73, Tryz.ntmps73
        go_wp2_with (go_at_call 95; refine (HD.out _ hG).mono ?_; rintro e' W2 ⟨rfl, hb2⟩)
        go_ret
        rw [HF.out]
        exact ⟨rfl, hb2⟩
end Go.Proofs.YtcnhklcbibpjpaaGreatDoor
