/- Lemmas behind the laws of messages; no conditions. -/
import Derived.Test.YtcpglgoiienhkaaGreatDoorZME
import Derived.Laws.BitsAllLaws
import Derived.RangeFuncKeeps
import Derived.RangeFuncNested
import Derived.OwnWalkIn
import Derived.TacticsInMore
set_option linter.unusedVariables false
set_option linter.unusedSimpArgs false

namespace Go.Proofs.YtcpglgoiienhkaaGreatDoor
open Go.RowKit P Ext
theorem failR_ne (s : ByteArray) (pl : Nat) (op : Int) (j : Nat) (ts : List Tk) (al : List Nat) : failR s pl op ≠ .ok j ts al := by
  unfold failR; split <;> simp
theorem R.pre_ok {r : R} {ts ts2 : List Tk} {al al2 : List Nat} {j : Nat} (h : R.pre ts al r = .ok j ts2 al2) : ∃ ts3 al3, r = .ok j ts3 al3 := by
  cases r with
  | ok i a b => simp only [R.pre, R.ok.injEq] at h; exact ⟨a, b, by rw [h.1]⟩
  | er e a => simp [R.pre] at h
theorem msg_ne {s : ByteArray} {m op : Int} (hop : 0 ≤ op) : ∀ {k : Nat} {sort : Int} {i j : Nat} {ts : List Tk} {al : List Nat}, msgF s m k sort op i = some (.ok j ts al) → j ≠ s.size := by
  intro k
  induction k with
  | zero => intro sort i j ts al h; simp [msgF] at h
  | succ k ih =>
    intro sort i j ts al h
    rw [msgF] at h
    generalize textE s m sort (decide (op < 0)) i = te at h
    obtain ⟨t1, p, a1⟩ := te
    simp only at h
    split at h
    · rw [if_neg (by omega)] at h
      exact absurd (Option.some.inj h) (failR_ne _ _ _ _ _ _)
    · split at h
      · rw [Option.bind_eq_some_iff] at h
        obtain ⟨ra, hra, hrn⟩ := h
        rw [Option.map_eq_some_iff] at hrn
        obtain ⟨rb, hrb, hrc⟩ := hrn
        obtain ⟨t3, a3, hrd⟩ := R.pre_ok hrc
        subst hrd
        cases ra with
        | er e a => simp [R.next] at hrb
        | ok i3 t4 a4 =>
          obtain ⟨r5, hr5, hr6⟩ := R.next_ok hrb
          obtain ⟨t6, a6, hr7⟩ := R.pre_ok hr6.symm
          subst hr7
          exact ih hr5
      · split at h
        · rw [Option.map_eq_some_iff] at h
          obtain ⟨rb, hrb, hrc⟩ := h
          obtain ⟨t3, a3, hrd⟩ := R.pre_ok hrc
          subst hrd
          exact ih hrb
        · have h := Option.some.inj h
          simp only [R.ok.injEq] at h
          omega
section
variable {n0 X : Nat} {s : ByteArray} {m : Int} {l : Nat} {J : List Tk → World → Prop} {A : World}
set_option maxRecDepth 100000 in
set_option maxHeartbeats 16000000 in
theorem cho_step (hn : 8 ≤ n0) (hY : Yld n0 X l J) (k : Nat) (hM : ∀ j, j ≤ k → MsgC n0 X s m l J A j) : ChoC n0 X s m l J A (k + 1) := by
  intro op i ts al W r hm hop h hi hl
  have hz : s.size ≤ 65536 := h.lx.sz
  have HM0 := Lib.hid hm
  have HMS := Lib.hid hM
  clear hm hM
  go_enter Tryz.func164, Tryz.ntmps164
  go_wp2
  go_loopg [] (k + 1) (fun g wr => ∃ (i2 : Nat) (ts2 : List Tk) (al2 : List Nat) (r2 : R), g ≤ k + 1 ∧ Hid (choiceF s m g op i2 = some r2) ∧ Hid (r = R.pre ts2 al2 r2) ∧ i2 ≤ s.size ∧ ts.length + ts2.length ≤ i2 ∧ LJ n0 X s m i2 0 0 (al ++ al2) l J (ts ++ ts2) A wr)
  case atStart => exact ⟨i, [], [], r, Nat.le_refl _, HM0, Lib.hid (R.pre_nil r).symm, hi, by simpa using hl, by simpa using h⟩
  case round =>
    obtain ⟨i2, ts2, al2, r2, hgk, HM, HR, hi2, hl2, h0⟩ := hrel
    cases gk with
    | zero => exact absurd HM.out (by simp [choiceF])
    | succ g =>
      have HM2 := HM.out
      clear HM
      have hbd := blanks_bd s i2 hi2
      rw [choiceF] at HM2
      have HM : Hid ((if numOk s (blanks s i2) then (limR s op (blanks s i2)).next fun j =>
        (msgF s m g 2 op j).bind fun r => r.next fun j2 =>
          if at1 s j2 125 then some (mustR s 125 4 op j2)
          else (choiceF s m g op (j2 + 1)).map (R.pre [(12, ⟨#[]⟩, (j2 : Int))] [])
        else some (failR s (blanks s i2) op)) = some r2) := Lib.hid HM2
      clear HM2
      go_wp2_with fail
      refine (blanks_lj hn hY h0 hi2).mono ?_
      rintro e' W1 ⟨rfl, h1⟩
      generalize blanks s i2 = j at *
      obtain ⟨hij, hjs⟩ := hbd
      obtain ⟨c0, c2, f2⟩ := h1.facts
      have HNB := Lib.hid (number_lj hn hY h1 hjs)
      go_wp2_with fail
      refine HNB.out.mono ?_
      rintro e' W2 ⟨rfl, h2⟩
      have hnb := numEnd_bd s j hjs
      cases hk : numOk s j with
      | false =>
        have HF : Hid (r = R.pre ts2 al2 (failR s j op)) := Lib.hid (by rw [HR.out, ← Option.some.inj ((if_neg (by rw [hk]; decide)).symm.trans HM.out)])
        clear HM HR hk
        go_wp2_with fail
        refine (fails_lj hn hY j op h2 (j : Int) rfl).mono ?_
        rintro e' W5 ⟨rfl, hp⟩
        go_wp2_with fail
        go_ret
        refine ⟨by rw [HF.out, R.pre_good, failR_good]; rfl, ?_⟩
        rw [HF.out]
        exact StR.pre hp
      | true =>
        have HM2 := Lib.hid ((if_pos hk).symm.trans HM.out)
        clear HM hk
        have HL : Hid (limR s op j = if at1 s (blanks s (numEnd s j)) 35 then R.ok (blanks s (numEnd s j) + 1) [(11, numAt s j ++ ⟨#[35]⟩, (j : Int))] []
          else if at1 s (blanks s (numEnd s j)) 60 then R.ok (blanks s (numEnd s j) + 1) [(11, numAt s j ++ ⟨#[60]⟩, (j : Int))] []
          else if hereB s (blanks s (numEnd s j)) [226, 137, 164] then R.ok (blanks s (numEnd s j) + 3) [(11, numAt s j ++ ⟨#[35]⟩, (j : Int))] []
          else failR s (blanks s (numEnd s j)) op) := Lib.hid rfl
        have hsz : (numAt s j).size + 1 ≤ 9223372036854775807 := by simp [numAt, ByteArray.size_extract]; omega
        have hbd2 := blanks_bd s (numEnd s j) hnb.2
        go_wp2_with fail
        refine (blanks_lj hn hY h2 hnb.2).mono ?_
        rintro e' W3 ⟨rfl, h3⟩
        generalize numAt s j = nw at *
        generalize blanks s (numEnd s j) = p at *
        obtain ⟨hnp, hps⟩ := hbd2
        have hjp : j ≤ p := by omega
        clear hnb hnp
        obtain ⟨c0, c2, f2⟩ := h3.facts
        have HH35 := Lib.hid (here1_lj hY 35 h3 hps)
        cases hb : at1 s p (35 : UInt8).toNat with
        | true =>
          have hlt := at1_lt s p _ hb
          have HLL : Hid (limR s op j = R.ok (p + 1) [(11, nw ++ ⟨#[35]⟩, (j : Int))] []) := Lib.hid (HL.out.trans (if_pos hb))
          rw [hb] at HH35
          clear hb
          go_wp2_with fail
          refine HH35.out.mono ?_
          rintro e' W4 ⟨rfl, h4⟩
          have HM3 := HM2.out
          rw [HLL.out] at HM3
          obtain ⟨r3, hr3, hrr⟩ := R.next_ok HM3
          clear HM3 HM2 HLL HL
          have HF3 : Hid (r = R.pre (ts2 ++ [(11, nw ++ ⟨#[35]⟩, (j : Int))]) al2 r3) := Lib.hid (by rw [HR.out, hrr, R.pre_pre, List.append_nil])
          clear HR
          rw [Option.bind_eq_some_iff] at hr3
          obtain ⟨ra, hra, hrn⟩ := hr3
          have hne := fun j ts al (h : ra = .ok j ts al) => msg_ne hop (h ▸ hra)
          have HMG := Lib.hid (HMS.out g (by omega) 2 op (p + 1) (ts ++ (ts2 ++ [(11, nw ++ ⟨#[35]⟩, (j : Int))])) (al ++ al2) · ra hra · · (by simp only [List.length_append, List.length_singleton]; omega))
          have hcm := (counts s m g).msg _ _ _ _ hra
          have HRN := Lib.hid hrn
          clear hrr hra hrn
          obtain ⟨c0, c2, f2⟩ := h4.facts
          have h5 := h4.setv hY hn (v := (p : Int) + 1) (p + 1) (by omega) (by omega)
          go_wp2_with fail
          refine (put_any hn hY _ _ _ h5 (by simp only [List.length_append]; omega)).mono ?_
          rintro e' W5 ⟨rfl, h6⟩
          rw [List.append_assoc] at h6
          have hl4 : ts.length + (ts2 ++ [((11 : Int), nw ++ ⟨#[35]⟩, (j : Int))]).length ≤ i2 + 1 := by simp only [List.length_append, List.length_singleton]; omega
          generalize ts2 ++ [((11 : Int), nw ++ ⟨#[35]⟩, (j : Int))] = ts4 at *
          go_wp2_with fail
          refine (HMG.out _ h6 (by omega)).mono ?_
          have HM5 := HRN.out
          clear HRN
          cases ra with
          | er e a =>
            clear hne
            have HF : Hid (r = .er e a) := Lib.hid (by rw [HF3.out, R.next_er HM5]; rfl)
            clear HM5 HF3
            rintro e' W6 ⟨rfl, hp⟩
            (go_wp2_with fail; go_ret; refine ⟨by rw [HF.out]; rfl, ?_⟩; rw [HF.out]; exact hp)
          | ok j4 ts6 al6 =>
            simp only [R.cnt] at hcm
            have hl7 : ts.length + (ts4 ++ ts6).length ≤ j4 := by simp only [List.length_append]; omega
            obtain ⟨r5, hr5, hrr⟩ := R.next_ok HM5
            have hne4 := hne _ _ _ rfl
            clear hne
            have HF5 : Hid (r = R.pre (ts4 ++ ts6) (al2 ++ al6) r5) := Lib.hid (by rw [HF3.out, hrr, R.pre_pre])
            clear HM5 HF3 hrr
            rintro e' W6 ⟨rfl, h7, hj4⟩
            rw [List.append_assoc, List.append_assoc] at h7
            generalize ts4 ++ ts6 = ts7 at *
            generalize al2 ++ al6 = al7 at *
            have hat : at1 s j4 125 = at1 s j4 (125 : UInt8).toNat := rfl
            rw [hat] at hr5
            have HR5 := Lib.hid hr5
            clear hat hr5
            have HHE := Lib.hid (here1_lj hY 125 h7 hj4)
            cases hb : at1 s j4 (125 : UInt8).toNat with
            | true =>
              have HF : Hid (r = R.pre ts7 al7 (mustR s (125 : UInt8).toNat 4 op j4)) := Lib.hid (by rw [HF5.out, (Option.some.inj ((if_pos hb).symm.trans HR5.out)).symm]; rfl)
              rw [hb] at HHE
              clear HR5 hb HF5
              go_wp2_with fail
              refine HHE.out.mono ?_
              rintro e' W7 ⟨rfl, h8⟩
              go_wp2_with fail
              refine (must_any 125 4 op hn hY h8 hj4 (by simp only [List.length_append]; omega)).mono ?_
              rintro e' W8 ⟨rfl, hp⟩
              (go_wp2_with fail; go_ret; refine ⟨by rw [HF.out, R.pre_good]; rfl, ?_⟩; rw [HF.out]; exact StR.pre hp)
            | false =>
              have HR6 := (if_neg (by rw [hb]; decide)).symm.trans HR5.out
              rw [Option.map_eq_some_iff] at HR6
              obtain ⟨r6, hr6, hrr⟩ := HR6
              have HF6 : Hid (r = R.pre (ts7 ++ [(12, ⟨#[]⟩, (j4 : Int))]) al7 r6) := Lib.hid (by rw [HF5.out, ← hrr, R.pre_pre, List.append_nil])
              have HR7 := Lib.hid hr6
              have hlt : j4 + 1 ≤ s.size := by omega
              rw [hb] at HHE
              clear HR5 hb HF5 hr6 hrr
              go_wp2_with fail
              refine HHE.out.mono ?_
              rintro e' W7 ⟨rfl, h8⟩
              obtain ⟨c0, c2, f2⟩ := h8.facts
              go_wp2_with fail
              refine (put_any hn hY _ _ _ h8 (by simp only [List.length_append]; omega)).mono ?_
              rintro e' W8 ⟨rfl, h9⟩
              obtain ⟨c0, c2, f2⟩ := h9.facts
              have h10 := h9.setv hY hn (v := (j4 : Int) + 1) (j4 + 1) (by omega) (by omega)
              go_wp2_with fail
              go_roundg g
              case measure => omega
              case rel => exact ⟨j4 + 1, _, _, r6, by omega, HR7, HF6, hlt, by simp only [List.length_append, List.length_singleton]; omega, by simpa using h10⟩
        | false =>
          have HL2 := Lib.hid (HL.out.trans (if_neg (by show ¬ at1 s p (35 : UInt8).toNat = true; rw [hb]; decide)))
          clear HL
          rw [hb] at HH35
          clear hb
          go_wp2_with fail
          refine HH35.out.mono ?_
          rintro e' W4 ⟨rfl, h4⟩
          have HH60 := Lib.hid (here1_lj hY 60 h4 hps)
          cases hb : at1 s p (60 : UInt8).toNat with
          | true =>
            have hlt := at1_lt s p _ hb
            have HLL : Hid (limR s op j = R.ok (p + 1) [(11, nw ++ ⟨#[60]⟩, (j : Int))] []) := Lib.hid (HL2.out.trans (if_pos hb))
            have HL := HL2
            rw [hb] at HH60
            clear hb h4 HL2
            go_wp2_with fail
            refine HH60.out.mono ?_
            rintro e' W5 ⟨rfl, h4⟩
            have HM3 := HM2.out
            rw [HLL.out] at HM3
            obtain ⟨r3, hr3, hrr⟩ := R.next_ok HM3
            clear HM3 HM2 HLL HL
            have HF3 : Hid (r = R.pre (ts2 ++ [(11, nw ++ ⟨#[60]⟩, (j : Int))]) al2 r3) := Lib.hid (by rw [HR.out, hrr, R.pre_pre, List.append_nil])
            clear HR
            rw [Option.bind_eq_some_iff] at hr3
            obtain ⟨ra, hra, hrn⟩ := hr3
            have hne := fun j ts al (h : ra = .ok j ts al) => msg_ne hop (h ▸ hra)
            have HMG := Lib.hid (HMS.out g (by omega) 2 op (p + 1) (ts ++ (ts2 ++ [(11, nw ++ ⟨#[60]⟩, (j : Int))])) (al ++ al2) · ra hra · · (by simp only [List.length_append, List.length_singleton]; omega))
            have hcm := (counts s m g).msg _ _ _ _ hra
            have HRN := Lib.hid hrn
            clear hrr hra hrn
            obtain ⟨c0, c2, f2⟩ := h4.facts
            have h5 := h4.setv hY hn (v := (p : Int) + 1) (p + 1) (by omega) (by omega)
            go_wp2_with fail
            refine (put_any hn hY _ _ _ h5 (by simp only [List.length_append]; omega)).mono ?_
            rintro e' W5 ⟨rfl, h6⟩
            rw [List.append_assoc] at h6
            have hl4 : ts.length + (ts2 ++ [((11 : Int), nw ++ ⟨#[60]⟩, (j : Int))]).length ≤ i2 + 1 := by simp only [List.length_append, List.length_singleton]; omega
            generalize ts2 ++ [((11 : Int), nw ++ ⟨#[60]⟩, (j : Int))] = ts4 at *
            go_wp2_with fail
            refine (HMG.out _ h6 (by omega)).mono ?_
            have HM5 := HRN.out
            clear HRN
            cases ra with
            | er e a =>
              clear hne
              have HF : Hid (r = .er e a) := Lib.hid (by rw [HF3.out, R.next_er HM5]; rfl)
              clear HM5 HF3
              rintro e' W6 ⟨rfl, hp⟩
              (go_wp2_with fail; go_ret; refine ⟨by rw [HF.out]; rfl, ?_⟩; rw [HF.out]; exact hp)
            | ok j4 ts6 al6 =>
              simp only [R.cnt] at hcm
              have hl7 : ts.length + (ts4 ++ ts6).length ≤ j4 := by simp only [List.length_append]; omega
              obtain ⟨r5, hr5, hrr⟩ := R.next_ok HM5
              have hne4 := hne _ _ _ rfl
              clear hne
              have HF5 : Hid (r = R.pre (ts4 ++ ts6) (al2 ++ al6) r5) := Lib.hid (by rw [HF3.out, hrr, R.pre_pre])
              clear HM5 HF3 hrr
              rintro e' W6 ⟨rfl, h7, hj4⟩
              rw [List.append_assoc, List.append_assoc] at h7
              generalize ts4 ++ ts6 = ts7 at *
              generalize al2 ++ al6 = al7 at *
              have hat : at1 s j4 125 = at1 s j4 (125 : UInt8).toNat := rfl
              rw [hat] at hr5
              have HR5 := Lib.hid hr5
              clear hat hr5
              have HHE := Lib.hid (here1_lj hY 125 h7 hj4)
              cases hb : at1 s j4 (125 : UInt8).toNat with
              | true =>
                have HF : Hid (r = R.pre ts7 al7 (mustR s (125 : UInt8).toNat 4 op j4)) := Lib.hid (by rw [HF5.out, (Option.some.inj ((if_pos hb).symm.trans HR5.out)).symm]; rfl)
                rw [hb] at HHE
                clear HR5 hb HF5
                go_wp2_with fail
                refine HHE.out.mono ?_
                rintro e' W7 ⟨rfl, h8⟩
                go_wp2_with fail
                refine (must_any 125 4 op hn hY h8 hj4 (by simp only [List.length_append]; omega)).mono ?_
                rintro e' W8 ⟨rfl, hp⟩
                (go_wp2_with fail; go_ret; refine ⟨by rw [HF.out, R.pre_good]; rfl, ?_⟩; rw [HF.out]; exact StR.pre hp)
              | false =>
                have HR6 := (if_neg (by rw [hb]; decide)).symm.trans HR5.out
                rw [Option.map_eq_some_iff] at HR6
                obtain ⟨r6, hr6, hrr⟩ := HR6
                have HF6 : Hid (r = R.pre (ts7 ++ [(12, ⟨#[]⟩, (j4 : Int))]) al7 r6) := Lib.hid (by rw [HF5.out, ← hrr, R.pre_pre, List.append_nil])
                have HR7 := Lib.hid hr6
                have hlt : j4 + 1 ≤ s.size := by omega
                rw [hb] at HHE
                clear HR5 hb HF5 hr6 hrr
                go_wp2_with fail
                refine HHE.out.mono ?_
                rintro e' W7 ⟨rfl, h8⟩
                obtain ⟨c0, c2, f2⟩ := h8.facts
                go_wp2_with fail
                refine (put_any hn hY _ _ _ h8 (by simp only [List.length_append]; omega)).mono ?_
                rintro e' W8 ⟨rfl, h9⟩
                obtain ⟨c0, c2, f2⟩ := h9.facts
                have h10 := h9.setv hY hn (v := (j4 : Int) + 1) (j4 + 1) (by omega) (by omega)
                go_wp2_with fail
                go_roundg g
                case measure => omega
                case rel => exact ⟨j4 + 1, _, _, r6, by omega, HR7, HF6, hlt, by simp only [List.length_append, List.length_singleton]; omega, by simpa using h10⟩
          | false =>
            have HL3 := Lib.hid (HL2.out.trans (if_neg (by show ¬ at1 s p (60 : UInt8).toNat = true; rw [hb]; decide)))
            clear HL2
            rw [hb] at HH60
            clear hb
            go_wp2_with fail
            refine HH60.out.mono ?_
            rintro e' W5 ⟨rfl, h5⟩
            have HHU := Lib.hid (here_lj hY (⟨#[226, 137, 164]⟩ : ByteArray) h5 hps)
            have hho : hereB s p (⟨#[226, 137, 164]⟩ : ByteArray).data.toList = hereB s p [226, 137, 164] := rfl
            rw [hho] at HHU
            cases hb : hereB s p [226, 137, 164] with
            | true =>
              have hlt := hereB_len s p [226, 137, 164] hb (by decide)
              simp only [List.length_cons, List.length_nil] at hlt
              have HLL : Hid (limR s op j = R.ok (p + 3) [(11, nw ++ ⟨#[35]⟩, (j : Int))] []) := Lib.hid (HL3.out.trans (if_pos hb))
              have HL := HL3
              rw [hb] at HHU
              clear hb h4 HL3 hho
              go_wp2_with fail
              refine HHU.out.mono ?_
              rintro e' W6 ⟨rfl, h4⟩
              have HM3 := HM2.out
              rw [HLL.out] at HM3
              obtain ⟨r3, hr3, hrr⟩ := R.next_ok HM3
              clear HM3 HM2 HLL HL
              have HF3 : Hid (r = R.pre (ts2 ++ [(11, nw ++ ⟨#[35]⟩, (j : Int))]) al2 r3) := Lib.hid (by rw [HR.out, hrr, R.pre_pre, List.append_nil])
              clear HR
              rw [Option.bind_eq_some_iff] at hr3
              obtain ⟨ra, hra, hrn⟩ := hr3
              have hne := fun j ts al (h : ra = .ok j ts al) => msg_ne hop (h ▸ hra)
              have HMG := Lib.hid (HMS.out g (by omega) 2 op (p + 3) (ts ++ (ts2 ++ [(11, nw ++ ⟨#[35]⟩, (j : Int))])) (al ++ al2) · ra hra · · (by simp only [List.length_append, List.length_singleton]; omega))
              have hcm := (counts s m g).msg _ _ _ _ hra
              have HRN := Lib.hid hrn
              clear hrr hra hrn
              obtain ⟨c0, c2, f2⟩ := h4.facts
              have h5 := h4.setv hY hn (v := (p : Int) + 3) (p + 3) (by omega) (by omega)
              go_wp2_with fail
              refine (put_any hn hY _ _ _ h5 (by simp only [List.length_append]; omega)).mono ?_
              rintro e' W5 ⟨rfl, h6⟩
              rw [List.append_assoc] at h6
              have hl4 : ts.length + (ts2 ++ [((11 : Int), nw ++ ⟨#[35]⟩, (j : Int))]).length ≤ i2 + 1 := by simp only [List.length_append, List.length_singleton]; omega
              generalize ts2 ++ [((11 : Int), nw ++ ⟨#[35]⟩, (j : Int))] = ts4 at *
              go_wp2_with fail
              refine (HMG.out _ h6 (by omega)).mono ?_
              have HM5 := HRN.out
              clear HRN
              cases ra with
              | er e a =>
                clear hne
                have HF : Hid (r = .er e a) := Lib.hid (by rw [HF3.out, R.next_er HM5]; rfl)
                clear HM5 HF3
                rintro e' W6 ⟨rfl, hp⟩
                (go_wp2_with fail; go_ret; refine ⟨by rw [HF.out]; rfl, ?_⟩; rw [HF.out]; exact hp)
              | ok j4 ts6 al6 =>
                simp only [R.cnt] at hcm
                have hl7 : ts.length + (ts4 ++ ts6).length ≤ j4 := by simp only [List.length_append]; omega
                obtain ⟨r5, hr5, hrr⟩ := R.next_ok HM5
                have hne4 := hne _ _ _ rfl
                clear hne
                have HF5 : Hid (r = R.pre (ts4 ++ ts6) (al2 ++ al6) r5) := Lib.hid (by rw [HF3.out, hrr, R.pre_pre])
                clear HM5 HF3 hrr
                rintro e' W6 ⟨rfl, h7, hj4⟩
                rw [List.append_assoc, List.append_assoc] at h7
                generalize ts4 ++ ts6 = ts7 at *
                generalize al2 ++ al6 = al7 at *
                have hat : at1 s j4 125 = at1 s j4 (125 : UInt8).toNat := rfl
                rw [hat] at hr5
                have HR5 := Lib.hid hr5
                clear hat hr5
                have HHE := Lib.hid (here1_lj hY 125 h7 hj4)
                cases hb : at1 s j4 (125 : UInt8).toNat with
                | true =>
                  have HF : Hid (r = R.pre ts7 al7 (mustR s (125 : UInt8).toNat 4 op j4)) := Lib.hid (by rw [HF5.out, (Option.some.inj ((if_pos hb).symm.trans HR5.out)).symm]; rfl)
                  rw [hb] at HHE
                  clear HR5 hb HF5
                  go_wp2_with fail
                  refine HHE.out.mono ?_
                  rintro e' W7 ⟨rfl, h8⟩
                  go_wp2_with fail
                  refine (must_any 125 4 op hn hY h8 hj4 (by simp only [List.length_append]; omega)).mono ?_
                  rintro e' W8 ⟨rfl, hp⟩
                  (go_wp2_with fail; go_ret; refine ⟨by rw [HF.out, R.pre_good]; rfl, ?_⟩; rw [HF.out]; exact StR.pre hp)
                | false =>
                  have HR6 := (if_neg (by rw [hb]; decide)).symm.trans HR5.out
                  rw [Option.map_eq_some_iff] at HR6
                  obtain ⟨r6, hr6, hrr⟩ := HR6
                  have HF6 : Hid (r = R.pre (ts7 ++ [(12, ⟨#[]⟩, (j4 : Int))]) al7 r6) := Lib.hid (by rw [HF5.out, ← hrr, R.pre_pre, List.append_nil])
                  have HR7 := Lib.hid hr6
                  have hlt : j4 + 1 ≤ s.size := by omega
                  rw [hb] at HHE
                  clear HR5 hb HF5 hr6 hrr
                  go_wp2_with fail
                  refine HHE.out.mono ?_
                  rintro e' W7 ⟨rfl, h8⟩
                  obtain ⟨c0, c2, f2⟩ := h8.facts
                  go_wp2_with fail
                  refine (put_any hn hY _ _ _ h8 (by simp only [List.length_append]; omega)).mono ?_
                  rintro e' W8 ⟨rfl, h9⟩
                  obtain ⟨c0, c2, f2⟩ := h9.facts
                  have h10 := h9.setv hY hn (v := (j4 : Int) + 1) (j4 + 1) (by omega) (by omega)
                  go_wp2_with fail
                  go_roundg g
                  case measure => omega
                  case rel => exact ⟨j4 + 1, _, _, r6, by omega, HR7, HF6, hlt, by simp only [List.length_append, List.length_singleton]; omega, by simpa using h10⟩
            | false =>
              have HF : Hid (r = R.pre ts2 al2 (failR s p op)) := Lib.hid (by
                have h1 := HM2.out
                rw [HL3.out, if_neg (by rw [hb]; decide)] at h1
                rw [HR.out]
                congr 1
                revert h1
                unfold failR
                split <;> intro h1 <;> exact R.next_er h1)
              rw [hb] at HHU
              clear hb h4 HL3 hho HM2 HR
              go_wp2_with fail
              refine HHU.out.mono ?_
              rintro e' W6 ⟨rfl, h4⟩
              obtain ⟨c0, c2, f2⟩ := h4.facts
              go_wp2_with fail
              refine (fails_lj hn hY p op h4 (p : Int) rfl).mono ?_
              rintro e' W7 ⟨rfl, hp⟩
              go_wp2_with fail
              go_ret
              refine ⟨by rw [HF.out, R.pre_good, failR_good]; rfl, ?_⟩
              rw [HF.out]
              exact StR.pre hp
end
end Go.Proofs.YtcpglgoiienhkaaGreatDoor
namespace Go.Proofs.YtcpglgoiienhkaaGreatDoor
open Go.RowKit P Ext
theorem letB_or : ∀ c : Nat, c < 256 → (letB c = true ↔ 97 ≤ c ||| 32 ∧ c ||| 32 ≤ 122) := by
  intro c hc
  have : ∀ c : Fin 256, (letB c.val = true ↔ 97 ≤ c.val ||| 32 ∧ c.val ||| 32 ≤ 122) := by set_option maxRecDepth 100000 in decide
  exact this ⟨c, hc⟩
section
variable {n0 X : Nat} {s : ByteArray} {m : Int} {l : Nat} {J : List Tk → World → Prop} {A : World}
theorem LJ.posl (hn : 8 ≤ n0) (hY : Yld n0 X l J) {i : Nat} {ts : List Tk} {al : List Nat} {W : World} (h : LJ n0 X s m i 0 0 al l J ts A W) : posOf X W = i := posOf_eq h.lx
theorem Ident_lj (hn : 8 ≤ n0) (hY : Yld n0 X l J) {i : Nat} {ts : List Tk} {al : List Nat} {W : World} (h : LJ n0 X s m i 0 0 al l J ts A W) (a : Nat) :
    Calls Tryz.prog 88 #[.string (wordAt s a)] W fun e' W' => e' = .returned (.int .i64 (identP (wordAt s a))) ∧ LJ n0 X s m i 0 0 al l J ts A W' :=
  (Ident_any _ (by have := h.lx.sz; simp [wordAt, ByteArray.size_extract]; omega) W (h.gl hn)).mono fun _ _ ⟨he, hb⟩ => ⟨he, h.later hn hY hb⟩
set_option maxRecDepth 100000 in
set_option maxHeartbeats 16000000 in
theorem arg_step (hn : 8 ≤ n0) (hY : Yld n0 X l J) (k : Nat) (hT : ∀ j, j ≤ k → TypC n0 X s m l J A j) : ArgC n0 X s m l J A (k + 1) := by
  intro i ts al W r hm h hi hl
  have hz : s.size ≤ 65536 := h.lx.sz
  rw [argF] at hm
  have HM := Lib.hid hm
  have HTS := Lib.hid hT
  clear hm hT
  obtain ⟨c0, c2, f2⟩ := h.facts
  have h0 := h.setv hY hn (v := (i : Int) + 1) (i + 1) (by omega) (by omega)
  have hbd := blanks_bd s (i + 1) (by omega)
  go_enter Tryz.func105, Tryz.ntmps105
  go_wp2_with fail
  refine (put_any hn hY _ _ _ h0 (by omega)).mono ?_
  rintro e' W1 ⟨rfl, h1⟩
  go_wp2_with fail
  refine (blanks_lj hn hY h1 (by omega)).mono ?_
  rintro e' W2 ⟨rfl, h2⟩
  generalize blanks s (i + 1) = a at *
  obtain ⟨hia, has⟩ := hbd
  obtain ⟨c0, c2, f2⟩ := h2.facts
  have hwb := wordEnd_bd s a has
  go_wp2_with fail
  refine (word_lj hn hY h2 has).mono ?_
  rintro e' W3 ⟨rfl, h3⟩
  have hID := Lib.hid (Ident_lj hn hY h3 a)
  have hab : identP (wordAt s a) ≠ 0 → a < wordEnd s a := fun hid => extract_pos s _ _ (fun h0 => hid (by show identP (s.extract _ _) = 0; rw [identP, if_pos (.inl h0)]))
  generalize wordAt s a = nm at *
  generalize wordEnd s a = b at *
  generalize identP nm = idp at *
  go_wp2_with fail
  refine hID.out.mono ?_
  rintro e' W4 ⟨rfl, h4⟩
  by_cases hid0 : idp = 0
  · have HF : Hid (r = failR s a i) := Lib.hid (Option.some.inj ((if_pos hid0).symm.trans HM.out)).symm
    have e1 : (idp == 0) = true := by simp [hid0]
    clear HM hid0
    go_wp2_with fail
    refine (fails_lj hn hY a (i : Int) h4 (a : Int) rfl).mono ?_
    rintro e' W5 ⟨rfl, hp⟩
    go_wp2_with fail
    go_ret
    refine ⟨by rw [HF.out, failR_good]; rfl, ?_⟩
    rw [HF.out]
    exact StR.fail_any hp
  · have e1 : (idp == 0) = false := by simpa using hid0
    have hab := hab hid0
    have HM2 := (if_neg hid0).symm.trans HM.out
    rw [Option.map_eq_some_iff] at HM2
    obtain ⟨r1, hr1, hrr⟩ := HM2
    have HR1 := Lib.hid hr1
    have HF1 := Lib.hid hrr
    have hbd2 := blanks_bd s b hwb.2
    clear HM hid0 hr1 hrr
    go_wp2_with fail
    refine (put_any hn hY _ _ _ h4 (by simp only [List.length_append, List.length_singleton]; omega)).mono ?_
    rintro e' W5 ⟨rfl, h5⟩
    go_wp2_with fail
    refine (blanks_lj hn hY h5 hwb.2).mono ?_
    rintro e' W6 ⟨rfl, h6⟩
    generalize blanks s b = c at *
    obtain ⟨hbc, hcs⟩ := hbd2
    have hl0 : ts.length + [((3 : Int), (⟨#[]⟩ : ByteArray), (i : Int)), (5, nm, (a : Int))].length ≤ c := by simp only [List.length_cons, List.length_nil]; omega
    rw [List.append_assoc] at h6
    have h7 : LJ n0 X s m c 0 0 al l J (ts ++ [(3, ⟨#[]⟩, (i : Int)), (5, nm, (a : Int))]) A W6 := h6
    clear h6 h5 h4 h3 h2 h1 hID
    generalize [((3 : Int), (⟨#[]⟩ : ByteArray), (i : Int)), (5, nm, (a : Int))] = ts0 at *
    have hat : at1 s c 125 = at1 s c (125 : UInt8).toNat := rfl
    rw [hat] at HR1
    clear hat
    have HHE := Lib.hid (here1_lj hY 125 h7 hcs)
    cases hb : at1 s c (125 : UInt8).toNat with
    | true =>
      have HF : Hid (r = R.pre ts0 [] (mustR s (125 : UInt8).toNat 4 (i : Int) c)) := Lib.hid (by rw [← HF1.out, (Option.some.inj ((if_pos hb).symm.trans HR1.out)).symm]; rfl)
      rw [hb] at HHE
      clear HR1 hb HF1
      go_wp2_with fail
      refine HHE.out.mono ?_
      rintro e' W7 ⟨rfl, h8⟩
      go_wp2_with fail
      refine (must_any 125 4 (i : Int) hn hY h8 hcs (by simp only [List.length_append]; omega)).mono ?_
      rintro e' W8 ⟨rfl, hp⟩
      go_wp2_with fail
      go_ret
      refine ⟨by rw [HF.out, R.pre_good]; rfl, ?_⟩
      rw [HF.out]
      exact StR.pre (by rw [List.append_nil]; exact hp)
    | false =>
      have HR2 := (if_neg (by rw [hb]; decide)).symm.trans HR1.out
      rw [hb] at HHE
      clear HR1 hb
      go_wp2_with fail
      refine HHE.out.mono ?_
      rintro e' W7 ⟨rfl, h8⟩
      have HMU := Lib.hid (must_any 44 6 (i : Int) hn hY h8 hcs (by simp only [List.length_append]; omega))
      have hcq := mustR_cnt s (44 : UInt8).toNat 6 (i : Int) c
      have hq0 : mustR s 44 6 (i : Int) c = mustR s (44 : UInt8).toNat 6 (i : Int) c := rfl
      rw [hq0] at HR2
      clear hq0
      generalize mustR s (44 : UInt8).toNat 6 (i : Int) c = q at *
      cases q with
      | er e a =>
        have HF : Hid (r = .er e a) := Lib.hid (by rw [← HF1.out, R.next_er HR2]; rfl)
        clear HR2 HF1
        go_wp2_with fail
        refine HMU.out.mono ?_
        rintro e' W5 ⟨rfl, hp⟩
        (go_wp2_with fail; go_ret; refine ⟨by rw [HF.out]; rfl, ?_⟩; rw [HF.out]; exact hp)
      | ok j ts5 al5 =>
        simp only [R.cnt] at hcq
        have hl6 : ts.length + (ts0 ++ ts5).length ≤ j := by simp only [List.length_append]; omega
        obtain ⟨r4, hr4, hrr⟩ := R.next_ok HR2
        have HF4 : Hid (r = R.pre (ts0 ++ ts5) al5 r4) := Lib.hid (by rw [← HF1.out, hrr, R.pre_pre, List.nil_append])
        have HR4 := Lib.hid hr4
        clear HR2 HF1 hr4 hrr
        go_wp2_with fail
        refine HMU.out.mono ?_
        rintro e' W8 ⟨rfl, h9, hjs⟩
        rw [List.append_assoc] at h9
        generalize ts0 ++ ts5 = ts6 at *
        have hbd3 := blanks_bd s j hjs
        go_wp2_with fail
        refine (blanks_lj hn hY h9 hjs).mono ?_
        rintro e' W9 ⟨rfl, h10⟩
        generalize blanks s j = d at *
        obtain ⟨hjd, hds⟩ := hbd3
        obtain ⟨c0, c2, f2⟩ := h10.facts
        clear h7 h8 h9
        have hlb := letEnd_bd s d hds
        go_wp2_with fail
        clear c0 c2 f2
        go_loopw [] (fun wr => ∃ e : Nat, d ≤ e ∧ e ≤ s.size ∧ Hid (letEnd s d = letEnd s e) ∧ LJ n0 X s m e 0 0 (al ++ al5) l J (ts ++ ts6) A wr) (fun wr => s.size - posOf X wr)
        case atStart => exact ⟨d, Nat.le_refl _, hds, Lib.hid rfl, h10⟩
        case round =>
          obtain ⟨e, hde, hes, HE, h1⟩ := hrel
          obtain ⟨c0, c2, f2⟩ := h1.facts
          have he' : (e : Int) ≤ s.size := by omega
          by_cases hlt : e < s.size
          · have hlt' : (e : Int) < s.size := by omega
            have d1 : decide ((e : Int) < (s.size : Int)) = true := by simpa using hlt'
            have HC8 := Lib.hid (b8_at s e hlt)
            have HEE : Hid (letEnd s e = if letB (b8 s e) then letEnd s (e + 1) else e) := Lib.hid (by rw [letEnd, dif_pos hlt])
            have hc256 : (s[e]'hlt).toNat < 256 := (s[e]'hlt).toNat_lt
            have hv : bits .or .u8 ((s[e]'hlt).toNat : Int) 32 = (((s[e]'hlt).toNat ||| 32 : Nat) : Int) := u8_or_nat _ 32 hc256 (by decide)
            have hlo := letB_or _ hc256
            generalize hvv : (s[e]'hlt).toNat ||| 32 = v at *
            clear hvv
            cases hL : letB (s[e]'hlt).toNat with
            | true =>
              have hvl : 97 ≤ v ∧ v ≤ 122 := hlo.1 hL
              have e1 : decide ((97 : Int) ≤ (v : Int)) = true := by simp; omega
              have e2 : decide ((v : Int) ≤ (122 : Int)) = true := by simp; omega
              have HF : Hid (letEnd s d = letEnd s (e + 1)) := Lib.hid (by rw [HE.out, HEE.out, if_pos (by rw [HC8.out]; exact hL)])
              clear hL hlo HE HEE hvl
              go_wp2_with fail
              go_quiet (fail)
              have h2 := h1.drewN hY nq
              generalize wr.drewN nq = wq at *
              obtain ⟨c0, c2, f2⟩ := h2.facts
              go_wp2_with fail
              have h3 := h2.setv hY hn (v := (e : Int) + 1) (e + 1) (by omega) (by omega)
              go_roundw
              case rel => exact ⟨e + 1, by omega, by omega, HF, h3⟩
              case measure =>
                rw [posOf_eq h1.lx, posOf_eq h3.lx]
                omega
            | false =>
              have HF : Hid (letEnd s d = e) := Lib.hid (by rw [HE.out, HEE.out, if_neg (by rw [HC8.out, hL]; decide)])
              have hvl : ¬ (97 ≤ v ∧ v ≤ 122) := fun h => by have := hlo.2 h; rw [hL] at this; cases this
              clear hL hlo HE HEE
              by_cases hv1 : 97 ≤ v
              · have e1 : decide ((97 : Int) ≤ (v : Int)) = true := by simp; omega
                have e2 : decide ((v : Int) ≤ (122 : Int)) = false := by simp; omega
                clear hv1 hvl
                go_wp2_with fail
                go_quiet (fail)
                have h2 := h1.drewN hY nq
                generalize wr.drewN nq = wq at *
                obtain ⟨c0, c2, f2⟩ := h2.facts
                have HR5 := HR4.out
                rw [HF.out] at HR5
                have HR6 := Lib.hid HR5
                clear HR5 HR4 HF hlb
                by_cases hed : e = d
                · have e3 : ((e : Int) == (d : Int)) = true := by simp; omega
                  have HG : Hid (r = R.pre ts6 al5 (failR s d (i : Int))) := Lib.hid (by rw [HF4.out, (Option.some.inj ((if_pos hed).symm.trans HR6.out)).symm])
                  clear HR6 HF4 hed
                  go_wp2_with fail
                  refine (fails_lj hn hY d (i : Int) h2 (d : Int) rfl).mono ?_
                  rintro e' W5 ⟨rfl, hp⟩
                  go_wp2_with fail
                  go_ret
                  refine ⟨by rw [HG.out, R.pre_good, failR_good]; rfl, ?_⟩
                  rw [HG.out]
                  exact StR.pre hp
                · have e3 : ((e : Int) == (d : Int)) = false := by simp; omega
                  have HR7 := (if_neg hed).symm.trans HR6.out
                  rw [Option.map_eq_some_iff] at HR7
                  obtain ⟨r8, hr8, hrr⟩ := HR7
                  have HG : Hid (r = R.pre (ts6 ++ [(7, s.extract d e, (d : Int))]) al5 r8) := Lib.hid (by rw [HF4.out, ← hrr, R.pre_pre, List.append_nil])
                  have HTY := Lib.hid (HTS.out k (Nat.le_refl _) (s.extract d e) (i : Int) e (ts ++ (ts6 ++ [(7, s.extract d e, (d : Int))])) (al ++ al5) · r8 hr8 (by omega) · · (by simp only [List.length_append, List.length_singleton]; omega))
                  clear HR6 HF4 hed hrr hr8
                  have hde' : (d : Int) ≤ e := by omega
                  go_wp2_with fail
                  go_quiet (fail)
                  have h3 := h2.drewN hY nq
                  generalize wq.drewN nq = wk at *
                  obtain ⟨c0, c2, f2⟩ := h3.facts
                  go_wp2_with fail
                  refine (put_any hn hY _ _ _ h3 (by simp only [List.length_append]; omega)).mono ?_
                  rintro e' W5 ⟨rfl, h5⟩
                  rw [List.append_assoc] at h5
                  go_wp2_with fail
                  refine (HTY.out _ h5 (by omega)).mono ?_
                  rintro e' W6 ⟨rfl, hp⟩
                  go_wp2_with fail
                  go_ret
                  refine ⟨by rw [HG.out, R.pre_good]; rfl, ?_⟩
                  rw [HG.out]
                  exact StR.pre hp
              · have e1 : decide ((97 : Int) ≤ (v : Int)) = false := by simp; omega
                clear hv1 hvl
                go_wp2_with fail
                go_quiet (fail)
                have h2 := h1.drewN hY nq
                generalize wr.drewN nq = wq at *
                obtain ⟨c0, c2, f2⟩ := h2.facts
                have HR5 := HR4.out
                rw [HF.out] at HR5
                have HR6 := Lib.hid HR5
                clear HR5 HR4 HF hlb
                by_cases hed : e = d
                · have e3 : ((e : Int) == (d : Int)) = true := by simp; omega
                  have HG : Hid (r = R.pre ts6 al5 (failR s d (i : Int))) := Lib.hid (by rw [HF4.out, (Option.some.inj ((if_pos hed).symm.trans HR6.out)).symm])
                  clear HR6 HF4 hed
                  go_wp2_with fail
                  refine (fails_lj hn hY d (i : Int) h2 (d : Int) rfl).mono ?_
                  rintro e' W5 ⟨rfl, hp⟩
                  go_wp2_with fail
                  go_ret
                  refine ⟨by rw [HG.out, R.pre_good, failR_good]; rfl, ?_⟩
                  rw [HG.out]
                  exact StR.pre hp
                · have e3 : ((e : Int) == (d : Int)) = false := by simp; omega
                  have HR7 := (if_neg hed).symm.trans HR6.out
                  rw [Option.map_eq_some_iff] at HR7
                  obtain ⟨r8, hr8, hrr⟩ := HR7
                  have HG : Hid (r = R.pre (ts6 ++ [(7, s.extract d e, (d : Int))]) al5 r8) := Lib.hid (by rw [HF4.out, ← hrr, R.pre_pre, List.append_nil])
                  have HTY := Lib.hid (HTS.out k (Nat.le_refl _) (s.extract d e) (i : Int) e (ts ++ (ts6 ++ [(7, s.extract d e, (d : Int))])) (al ++ al5) · r8 hr8 (by omega) · · (by simp only [List.length_append, List.length_singleton]; omega))
                  clear HR6 HF4 hed hrr hr8
                  have hde' : (d : Int) ≤ e := by omega
                  go_wp2_with fail
                  go_quiet (fail)
                  have h3 := h2.drewN hY nq
                  generalize wq.drewN nq = wk at *
                  obtain ⟨c0, c2, f2⟩ := h3.facts
                  go_wp2_with fail
                  refine (put_any hn hY _ _ _ h3 (by simp only [List.length_append]; omega)).mono ?_
                  rintro e' W5 ⟨rfl, h5⟩
                  rw [List.append_assoc] at h5
                  go_wp2_with fail
                  refine (HTY.out _ h5 (by omega)).mono ?_
                  rintro e' W6 ⟨rfl, hp⟩
                  go_wp2_with fail
                  go_ret
                  refine ⟨by rw [HG.out, R.pre_good]; rfl, ?_⟩
                  rw [HG.out]
                  exact StR.pre hp
          · have HF : Hid (letEnd s d = e) := Lib.hid (by rw [HE.out, letEnd, dif_neg hlt])
            have hlt' : ¬ (e : Int) < s.size := by omega
            have d1 : decide ((e : Int) < (s.size : Int)) = false := by simpa using hlt'
            clear HE
            go_wp2_with fail
            go_quiet (fail)
            have h2 := h1.drewN hY nq
            generalize wr.drewN nq = wq at *
            obtain ⟨c0, c2, f2⟩ := h2.facts
            have HR5 := HR4.out
            rw [HF.out] at HR5
            have HR6 := Lib.hid HR5
            clear HR5 HR4 HF hlb
            by_cases hed : e = d
            · have e3 : ((e : Int) == (d : Int)) = true := by simp; omega
              have HG : Hid (r = R.pre ts6 al5 (failR s d (i : Int))) := Lib.hid (by rw [HF4.out, (Option.some.inj ((if_pos hed).symm.trans HR6.out)).symm])
              clear HR6 HF4 hed
              go_wp2_with fail
              refine (fails_lj hn hY d (i : Int) h2 (d : Int) rfl).mono ?_
              rintro e' W5 ⟨rfl, hp⟩
              go_wp2_with fail
              go_ret
              refine ⟨by rw [HG.out, R.pre_good, failR_good]; rfl, ?_⟩
              rw [HG.out]
              exact StR.pre hp
            · have e3 : ((e : Int) == (d : Int)) = false := by simp; omega
              have HR7 := (if_neg hed).symm.trans HR6.out
              rw [Option.map_eq_some_iff] at HR7
              obtain ⟨r8, hr8, hrr⟩ := HR7
              have HG : Hid (r = R.pre (ts6 ++ [(7, s.extract d e, (d : Int))]) al5 r8) := Lib.hid (by rw [HF4.out, ← hrr, R.pre_pre, List.append_nil])
              have HTY := Lib.hid (HTS.out k (Nat.le_refl _) (s.extract d e) (i : Int) e (ts ++ (ts6 ++ [(7, s.extract d e, (d : Int))])) (al ++ al5) · r8 hr8 (by omega) · · (by simp only [List.length_append, List.length_singleton]; omega))
              clear HR6 HF4 hed hrr hr8
              have hde' : (d : Int) ≤ e := by omega
              go_wp2_with fail
              go_quiet (fail)
              have h3 := h2.drewN hY nq
              generalize wq.drewN nq = wk at *
              obtain ⟨c0, c2, f2⟩ := h3.facts
              go_wp2_with fail
              refine (put_any hn hY _ _ _ h3 (by simp only [List.length_append]; omega)).mono ?_
              rintro e' W5 ⟨rfl, h5⟩
              rw [List.append_assoc] at h5
              go_wp2_with fail
              refine (HTY.out _ h5 (by omega)).mono ?_
              rintro e' W6 ⟨rfl, hp⟩
              go_wp2_with fail
              go_ret
              refine ⟨by rw [HG.out, R.pre_good]; rfl, ?_⟩
              rw [HG.out]
              exact StR.pre hp
end
end Go.Proofs.YtcpglgoiienhkaaGreatDoor
namespace Go.Proofs.YtcpglgoiienhkaaGreatDoor
open Go.RowKit P Ext
section
variable {n0 X : Nat} {s : ByteArray} {m : Int} {l : Nat} {J : List Tk → World → Prop} {A : World}
theorem pieces (hn : 8 ≤ n0) (hY : Yld n0 X l J) : ∀ k : Nat, ∀ j, j ≤ k →
    MsgC n0 X s m l J A j ∧ ArgC n0 X s m l J A j ∧ TypC n0 X s m l J A j ∧ CasC n0 X s m l J A j ∧ ChoC n0 X s m l J A j := by
  have hz : MsgC n0 X s m l J A 0 ∧ ArgC n0 X s m l J A 0 ∧ TypC n0 X s m l J A 0 ∧ CasC n0 X s m l J A 0 ∧ ChoC n0 X s m l J A 0 := by
    refine ⟨?_, ?_, ?_, ?_, ?_⟩
    · intro a b c d e f g h; simp [msgF] at h
    · intro c d e f g h; simp [argF] at h
    · intro a b c d e f g h; simp [typedF] at h
    · intro a b c d e f g h; simp [casesF] at h
    · intro b c d e f g h; simp [choiceF] at h
  intro k
  induction k with
  | zero => intro j hj; obtain rfl : j = 0 := by omega
            exact hz
  | succ k ih =>
    intro j hj
    cases j with
    | zero => exact hz
    | succ j =>
      have ih' : ∀ i, i ≤ j → _ := fun i hi => ih i (by omega)
      exact ⟨msg_step hn hY j fun i hi => (ih' i hi).2.1, arg_step hn hY j fun i hi => (ih' i hi).2.2.1,
        typ_step hn hY j (fun i hi => (ih' i hi).2.2.2.1) (fun i hi => (ih' i hi).2.2.2.2), cas_step hn hY j fun i hi => (ih' i hi).1, cho_step hn hY j fun i hi => (ih' i hi).1⟩
theorem message_any (hn : 8 ≤ n0) (hY : Yld n0 X l J) (k : Nat) : MsgC n0 X s m l J A k := (pieces hn hY k k (Nat.le_refl _)).1
end
def R.within (lo n : Nat) (r : R) : Prop := ∀ j ts al, r = .ok j ts al → lo ≤ j ∧ j ≤ n
theorem R.within_er (lo n : Nat) (e a : Int) : (R.er e a).within lo n := by intro j ts al h; cases h
theorem R.within_ok {lo n j : Nat} {ts : List Tk} {al : List Nat} (h : lo ≤ j ∧ j ≤ n) : (R.ok j ts al).within lo n := by intro j' ts' al' e; cases e; exact h
theorem R.within_pre {lo n : Nat} {ts : List Tk} {al : List Nat} {r : R} (h : r.within lo n) : (R.pre ts al r).within lo n := by
  cases r with
  | ok j a b => exact R.within_ok (h _ _ _ rfl)
  | er e a => exact R.within_er _ _ _ _
theorem R.within_le {lo lo' n : Nat} {r : R} (h : r.within lo n) (hl : lo' ≤ lo) : r.within lo' n := fun j ts al e => ⟨Nat.le_trans hl (h j ts al e).1, (h j ts al e).2⟩
theorem failR_within (s : ByteArray) (pl : Nat) (op : Int) (lo n : Nat) : (failR s pl op).within lo n := by unfold failR; split <;> exact R.within_er _ _ _ _
theorem mustR_within (s : ByteArray) (c : Nat) (kind op : Int) (i : Nat) (hi : i ≤ s.size) : (mustR s c kind op i).within (i + 1) s.size := by
  have hb := blanks_bd s i hi
  unfold mustR
  split
  · rename_i h
    have := at1_lt _ _ _ h
    exact R.within_ok (by omega)
  · exact failR_within _ _ _ _ _
theorem offsetR_within (s : ByteArray) (op : Int) (i : Nat) (hi : i ≤ s.size) : (offsetR s op i).within i s.size := by
  have hb := blanks_bd s i hi
  unfold offsetR
  split
  · rename_i h
    have h7 := hereB_len _ _ _ h (by decide)
    have h7' : blanks s i + 7 ≤ s.size := h7
    have hb2 := blanks_bd s (blanks s i + 7) h7'
    have hb3 := numEnd_bd s _ hb2.2
    split
    · exact R.within_ok (by omega)
    · exact failR_within _ _ _ _ _
  · exact R.within_ok hb
theorem keyR_within (s : ByteArray) (b : Bool) (op : Int) (i : Nat) (hi : i ≤ s.size) : (keyR s b op i).within i s.size := by
  unfold keyR
  split
  · rename_i h
    have hlt := at1_lt s i 61 (by cases b <;> simp_all)
    have hb3 := numEnd_bd s (i + 1) (by omega)
    split
    · exact R.within_ok (by omega)
    · exact failR_within _ _ _ _ _
  · split
    · exact failR_within _ _ _ _ _
    · exact R.within_ok (wordEnd_bd s i hi)
theorem styleR_within (s : ByteArray) (op : Int) (fr : Nat) (i o : Nat) (hi : fr ≤ i) : (styleGo s op fr i o).within fr s.size := by
  induction i, o using styleGo.induct s fr with
  | case1 i o h h1 h2 => rw [styleGo, dif_pos h, if_pos h1, if_pos h2]; exact R.within_er _ _ _ _
  | case2 i o h h1 h2 ih => rw [styleGo, dif_pos h, if_pos h1, if_neg h2]; exact ih (by omega)
  | case3 i o h h1 h2 ih => rw [styleGo, dif_pos h, if_neg h1, if_pos h2]; exact ih (by omega)
  | case4 i o h h1 h2 h3 h4 h5 => rw [styleGo, dif_pos h, if_neg h1, if_neg h2, if_pos h3, if_pos h4, if_pos h5]; exact failR_within _ _ _ _ _
  | case5 i o h h1 h2 h3 h4 h5 =>
    rw [styleGo, dif_pos h, if_neg h1, if_neg h2, if_pos h3, if_pos h4, if_neg h5]
    exact R.within_pre (R.within_le (mustR_within _ _ _ _ _ (by omega)) (by omega))
  | case6 i o h h1 h2 h3 h4 ih => rw [styleGo, dif_pos h, if_neg h1, if_neg h2, if_pos h3, if_neg h4]; exact ih (by omega)
  | case7 i o h h1 h2 h3 ih => rw [styleGo, dif_pos h, if_neg h1, if_neg h2, if_neg h3]; exact ih (by omega)
  | case8 i o h => rw [styleGo, dif_neg h]; exact R.within_er _ _ _ _
theorem limR_within (s : ByteArray) (op : Int) (i : Nat) (hi : i ≤ s.size) : (limR s op i).within (i + 1) s.size := by
  have h1 := numEnd_bd s i hi
  have h2 := blanks_bd s _ h1.2
  unfold limR
  split
  · rename_i h
    have := at1_lt _ _ _ h
    exact R.within_ok (by omega)
  · split
    · rename_i h
      have := at1_lt _ _ _ h
      exact R.within_ok (by omega)
    · split
      · rename_i h
        have h7 := hereB_len _ _ _ h (by decide)
        have h7' : blanks s (numEnd s i) + 3 ≤ s.size := h7
        exact R.within_ok (by omega)
      · exact failR_within _ _ _ _ _
theorem R.next_within {lo lo' n n' : Nat} {r : R} (h : r.within lo n) {f : Nat → Option R} (hf : ∀ j, lo ≤ j → j ≤ n → ∃ r', f j = some r' ∧ r'.within lo' n') : ∃ r', r.next f = some r' ∧ r'.within lo' n' := by
  cases r with
  | er e a => exact ⟨_, rfl, R.within_er _ _ _ _⟩
  | ok j ts al =>
    have hj := h j ts al rfl
    obtain ⟨r', h1, h2⟩ := hf j hj.1 hj.2
    exact ⟨R.pre ts al r', by simp [R.next, h1], R.within_pre h2⟩
structure Enough (s : ByteArray) (m : Int) (k : Nat) : Prop where
  msg : ∀ sort op i, i ≤ s.size → 2 * (s.size - i) + 2 ≤ k → ∃ r, msgF s m k sort op i = some r ∧ r.within i s.size
  arg : ∀ i, i < s.size → 2 * (s.size - i) + 1 ≤ k → ∃ r, argF s m k i = some r ∧ r.within (i + 1) s.size
  typ : ∀ w op i, 0 ≤ op → i ≤ s.size → 2 * (s.size - i) + 1 ≤ k → ∃ r, typedF s m k w op i = some r ∧ r.within i s.size
  cas : ∀ b op i, i ≤ s.size → 2 * (s.size - i) + 1 ≤ k → ∃ r, casesF s m k b op i = some r ∧ r.within i s.size
  cho : ∀ op i, 0 ≤ op → i ≤ s.size → 2 * (s.size - i) + 1 ≤ k → ∃ r, choiceF s m k op i = some r ∧ r.within i s.size
theorem enough (s : ByteArray) (m : Int) : ∀ k, Enough s m k := by
  intro k
  induction k with
  | zero => exact ⟨by omega, by omega, by omega, by omega, by omega⟩
  | succ k ih =>
    refine ⟨?_, ?_, ?_, ?_, ?_⟩
    · intro sort op i hi hk
      have hb := textE_bd s m sort (decide (op < 0)) i hi
      rw [msgF]
      generalize textE s m sort (decide (op < 0)) i = te at *
      obtain ⟨t1, p, a1⟩ := te
      simp only at hb ⊢
      split
      · refine ⟨_, rfl, ?_⟩
        split
        · exact R.within_ok hb
        · exact failR_within _ _ _ _ _
      · split
        · obtain ⟨ra, h1, h2⟩ := ih.arg p (by omega) (by omega)
          rw [h1]
          obtain ⟨rb, h3, h4⟩ := R.next_within (lo' := i) (n' := s.size) h2 (f := fun i2 => msgF s m k sort op i2) fun j hj1 hj2 => by
            obtain ⟨r, h5, h6⟩ := ih.msg sort op j hj2 (by omega)
            exact ⟨r, h5, R.within_le h6 (by omega)⟩
          exact ⟨R.pre (tokL t1 i) a1 rb, by simp [h3], R.within_pre h4⟩
        · split
          · obtain ⟨r, h5, h6⟩ := ih.msg sort op (p + 1) (by omega) (by omega)
            exact ⟨_, by rw [h5]; rfl, R.within_pre (R.within_le h6 (by omega))⟩
          · exact ⟨_, rfl, R.within_ok hb⟩
    · intro i hi hk
      have hb := blanks_bd s (i + 1) (by omega)
      have hb2 := wordEnd_bd s _ hb.2
      have hb3 := blanks_bd s _ hb2.2
      rw [argF]
      generalize wordAt s (blanks s (i + 1)) = nm at *
      generalize blanks s (wordEnd s (blanks s (i + 1))) = c at *
      split
      · exact ⟨_, rfl, failR_within _ _ _ _ _⟩
      · split
        · exact ⟨_, rfl, R.within_pre (R.within_le (mustR_within _ _ _ _ _ hb3.2) (by omega))⟩
        · obtain ⟨r, h1, h2⟩ := R.next_within (lo' := i + 1) (n' := s.size) (mustR_within s 44 6 (i : Int) c hb3.2) (f := fun j =>
              if letEnd s (blanks s j) = blanks s j then some (failR s (blanks s j) i)
              else (typedF s m k (s.extract (blanks s j) (letEnd s (blanks s j))) i (letEnd s (blanks s j))).map (R.pre [(7, s.extract (blanks s j) (letEnd s (blanks s j)), (blanks s j : Int))] [])) fun j hj1 hj2 => by
            have hb4 := blanks_bd s j hj2
            have hb5 := letEnd_bd s _ hb4.2
            split
            · exact ⟨_, rfl, failR_within _ _ _ _ _⟩
            · obtain ⟨r, h1, h2⟩ := ih.typ (s.extract (blanks s j) (letEnd s (blanks s j))) (i : Int) (letEnd s (blanks s j)) (by omega) hb5.2 (by omega)
              exact ⟨_, by rw [h1]; rfl, R.within_pre (R.within_le h2 (by omega))⟩
          exact ⟨_, by rw [h1]; rfl, R.within_pre h2⟩
    · intro w op i hop hi hk
      have hb := blanks_bd s i hi
      rw [typedF]
      generalize blanks s i = c at *
      have hcas : ∀ b j, c + 1 ≤ j → j ≤ s.size → ∃ r', casesF s m k b op j = some r' ∧ r'.within i s.size := fun b j h1 h2 => by
        obtain ⟨r, h3, h4⟩ := ih.cas b op j h2 (by omega)
        exact ⟨r, h3, R.within_le h4 (by omega)⟩
      split
      · exact R.next_within (mustR_within s 44 6 op c hb.2) fun j hj1 hj2 => R.next_within (offsetR_within s op j hj2) fun j2 hj3 hj4 => hcas true j2 (by omega) hj4
      · split
        · exact R.next_within (mustR_within s 44 6 op c hb.2) fun j hj1 hj2 => hcas false j hj1 hj2
        · split
          · refine R.next_within (mustR_within s 44 6 op c hb.2) fun j hj1 hj2 => ?_
            obtain ⟨r, h3, h4⟩ := ih.cho op j hop hj2 (by omega)
            exact ⟨r, h3, R.within_le h4 (by omega)⟩
          · split
            · exact ⟨_, rfl, R.within_le (mustR_within _ _ _ _ _ hb.2) (by omega)⟩
            · refine R.next_within (mustR_within s 44 6 op c hb.2) fun j hj1 hj2 => ⟨_, rfl, ?_⟩
              have hb4 := blanks_bd s j hj2
              exact R.within_le (styleR_within s op _ _ 1 (Nat.le_refl _)) (by omega)
    · intro b op i hi hk
      have hb := blanks_bd s i hi
      rw [casesF]
      generalize blanks s i = c at *
      split
      · exact ⟨_, rfl, R.within_le (mustR_within _ _ _ _ _ hb.2) (by omega)⟩
      · split
        · exact ⟨_, rfl, failR_within _ _ _ _ _⟩
        · refine R.next_within (keyR_within s b op c hb.2) fun j hj1 hj2 => ?_
          have hb2 := blanks_bd s j hj2
          refine R.next_within (mustR_within s 123 3 op _ hb2.2) fun j2 hj3 hj4 => ?_
          obtain ⟨r, h3, h4⟩ := ih.msg (if b then 1 else 0) (blanks s j : Nat) j2 hj4 (by omega)
          rw [h3]
          refine R.next_within h4 fun j3 hj5 hj6 => ?_
          refine R.next_within (mustR_within s 125 4 _ j3 hj6) fun j4 hj7 hj8 => ?_
          obtain ⟨r, h5, h6⟩ := ih.cas b op j4 hj8 (by omega)
          exact ⟨r, h5, R.within_le h6 (by omega)⟩
    · intro op i hop hi hk
      have hb := blanks_bd s i hi
      rw [choiceF]
      have hl := limR_within s op (blanks s i) hb.2
      rw [limR] at hl
      generalize blanks s i = c at *
      split
      · refine R.next_within hl fun j hj1 hj2 => ?_
        obtain ⟨r, h3, h4⟩ := ih.msg 2 op j hj2 (by omega)
        rw [h3]
        have h7 : r.within j (s.size - 1) := fun j3 ts al e => by
          subst e
          have := msg_ne hop h3
          have := h4 _ _ _ rfl
          omega
        refine R.next_within h7 fun j2 hj3 hj4 => ?_
        split
        · exact ⟨_, rfl, R.within_le (mustR_within _ _ _ _ _ (by omega)) (by omega)⟩
        · obtain ⟨r, h5, h6⟩ := ih.cho op (j2 + 1) hop (by omega) (by omega)
          exact ⟨_, by rw [h5]; rfl, R.within_pre (R.within_le h6 (by omega))⟩
      · exact ⟨_, rfl, failR_within _ _ _ _ _⟩
def lexR (s : ByteArray) (m : Int) : R := (msgF s m (2 * s.size + 2) 0 (-1) 0).getD (.er 0 0)
theorem lexR_some (s : ByteArray) (m : Int) : msgF s m (2 * s.size + 2) 0 (-1) 0 = some (lexR s m) := by
  obtain ⟨r, h, _⟩ := (enough s m (2 * s.size + 2)).msg 0 (-1) 0 (by omega) (by omega)
  rw [lexR, h]; rfl
theorem lex_message {n0 X : Nat} {s : ByteArray} {m : Int} {l : Nat} {J : List Tk → World → Prop} {A : World} (hn : 8 ≤ n0) (hY : Yld n0 X l J) {W : World} (h : LJ n0 X s m 0 0 0 [] l J [] A W) :
    Calls Tryz.prog 86 #[.pointer (some ⟨X, 0, none⟩), .int .i64 0, .int .i64 (-1)] W (PostR n0 X s m l J A [] [] (lexR s m)) :=
  message_any hn hY _ 0 (-1) 0 [] [] W _ (lexR_some s m) h (by omega) (by simp)
end Go.Proofs.YtcpglgoiienhkaaGreatDoor
namespace Go.Proofs.YtcpglgoiienhkaaGreatDoor
open Go.RowKit Go.Shelf P Ext
theorem run_store_fn {P : Program} {w : World} (a : Addr) (m : Mode) (fn : Fn) (first captured : Array Value) : (store a (.func fn first captured) m).run P w = stored P w a (.func fn first captured) m := run_store P w a _ m rfl
attribute [local go_sem] run_store_fn
set_option maxHeartbeats 1000000 in
theorem tokens_any (X : Nat) (w : World) :
    Calls Tryz.prog 60 #[.pointer (some ⟨X, 0, none⟩)] w fun e w' => e = .returned (.func (.func 85) #[] #[.pointer (some ⟨w.heap.size, 0, none⟩)]) ∧ w' = w.alloc (.cells #[.pointer (some ⟨X, 0, none⟩)] 84) := by
  go_enter Tryz.func60, Tryz.ntmps60
  go_wp2
  go_ret
  exact ⟨rfl, rfl⟩
section
variable {n0 X : Nat} {s : ByteArray} {m : Int} {l : Nat} {J : List Tk → World → Prop} {A : World}
theorem Lx.sety {i e at_ : Int} {al : List Nat} {yv : Value} {W : World} (h : Lx n0 X s m i e at_ al yv W) (hn : 8 ≤ n0) (y' : Value) : Lx n0 X s m i e at_ al y' (W.setCell ⟨X, 6, none⟩ y') := by
  have hb : Below n0 W (W.setCell ⟨X, 6, none⟩ y') := (Below.refl n0 W).setCell (p := ⟨X, 6, none⟩) h.low _
  obtain ⟨low, glob, sz, aln, v, hc, ho⟩ := h
  refine ⟨low, glob.below hn hb, sz, aln, v, hc.sety y', ownsRow_same ho fun k c fz hk _ => ?_⟩
  rw [Below.heap_setCell _ _ _ _ (fun e' => by subst e'; rw [LxC] at hc; rw [hc] at hk; cases hk)]; exact hk
set_option maxHeartbeats 2000000 in
theorem closure_any (hn : 8 ≤ n0) (hY : Yld n0 X l J) {B : Nat} {W : World} (hB : W.cell? ⟨B, 0, none⟩ = some (.pointer (some ⟨X, 0, none⟩))) (hBX : B ≠ X)
    (hx : Lx n0 X s m 0 0 0 [] .nilFunc W) (hj : J [] W) (hbel : Below n0 A W) :
    Calls Tryz.prog 85 #[.func (.yield l) #[] #[], .pointer (some ⟨B, 0, none⟩)] W fun e W' => e = .returned (.tuple #[]) ∧ StR n0 X s m l J A [] [] (lexR s m) W' := by
  have h1 : LJ n0 X s m 0 0 0 [] l J [] A (W.setCell ⟨X, 6, none⟩ (.func (.yield l) #[] #[])) :=
    ⟨hx.sety hn _, hY.abide _ _ _ hj ((Kept.refl n0 X W).setX hx.low _ _), hbel.trans ((Below.refl n0 W).setCell (p := ⟨X, 6, none⟩) hx.low _)⟩
  have hB2 : (W.setCell ⟨X, 6, none⟩ (.func (.yield l) #[] #[])).cell? ⟨B, 0, none⟩ = some (.pointer (some ⟨X, 0, none⟩)) := by
    rw [World.cell?_of_block (Below.heap_setCell _ _ _ _ hBX)]; exact hB
  have HM := Lib.hid (lex_message hn hY h1)
  obtain ⟨low, glob, sz, aln, v, hc, ho⟩ := hx
  have c6 := hc.cells.2.2.2.2.2.2
  have f6 := hc.free 6
  clear hc ho
  go_enter Tryz.func85, Tryz.ntmps85
  go_wp2_with fail
  refine HM.out.mono ?_
  rintro e' W2 ⟨rfl, hp⟩
  go_wp2_with fail
  go_end0
  exact ⟨rfl, hp⟩
def EndR (n0 X : Nat) (s : ByteArray) (m : Int) (I : List Tk → World → Prop) (r : R) (W : World) : Prop :=
  ∃ yv, match r with
    | .ok i ts al => Lx n0 X s m (i : Int) 0 0 al yv W ∧ I ts W
    | .er e a => ∃ (i : Nat) (ts : List Tk) (al : List Nat), Lx n0 X s m (i : Int) e a al yv W ∧ I ts W
theorem KeptY.trans {a b c : World} (h : KeptY n0 a b) (k : KeptY n0 b c) : KeptY n0 a c := ⟨h.below.trans k.below, fun j c' T fz hk ht => k.same j c' T fz (h.same j c' T fz hk ht) ht⟩
theorem KeptY.putObj {W : World} {k : Nat} {o : Obj} (o' : Obj) (hk : W.heap[k]? = some o) (ho : o.isCells = false) (hl : n0 ≤ k) : KeptY n0 W (W.putObj k o') :=
  ⟨(Below.refl n0 W).grown (grownBy_putObj' W k o') (by have := (Array.getElem?_eq_some_iff.1 hk).1; omega) (fun j e => by cases e; omega),
    fun j c T fz hj ht => by
      rw [World.putObj_heap_other (fun e => by subst e; rw [hk] at hj; cases hj; cases ho)]; exact hj⟩
theorem lex_range (hn : 8 ≤ n0) {g : Operand} {ps : Array Tmp} {assign body : Code} {Q : Exit → Act → World → Prop} {a : Act} {w : World} {B : Nat} (I : List Tk → World → Prop)
    (hg : a.eval g = .func (.func 85) #[] #[.pointer (some ⟨B, 0, none⟩)]) (hB : w.heap[B]? = some (.cells #[.pointer (some ⟨X, 0, none⟩)] 84 (0, 0)))
    (hx : Lx n0 X s m 0 0 0 [] .nilFunc w) (hps : ps.size = 1) (h0 : I [] w)
    (hIk : ∀ ts W W', I ts W → Kept n0 X W W' → I ts W')
    (hIo : ∀ ts W k o o', I ts W → W.heap[k]? = some o → o.isCells = false → I ts (W.putObj k o'))
    (Ax : Tk → Act → World → Prop) (hAx : ∀ t a' W k o o', Ax t a' W → W.heap[k]? = some o → o.isCells = false → Ax t a' (W.putObj k o'))
    (hassign : ∀ k ts t W (K : Act → World → Prop), I ts W → ts.length ≤ 65536 → (∀ a' W', KeepsFrom w.heap.size W W' → KeptY n0 W W' → I ts W' → Ax t a' W' → K a' W') →
      assign.wpIn (Fence.wide.inRound k) 1 Tryz.prog (Exit.then K (fun _ _ _ => False)) { tmps := (ps.zip #[tkV t]).foldl (fun t (p, v) => t.setIfInBounds p v) a.tmps, defers := [] } W)
    (hbody : ∀ k ts t a' W, I ts W → ts.length ≤ 65536 → Ax t a' W → body.wpIn (Fence.wide.inRound k) 1 Tryz.prog (ownPostG w.heap.size (KeptY n0) I (fun _ _ _ => False) (ts ++ [t]) W) a' W)
    (hdone : ∀ D W, w.heap.size ≤ D → W.heap[D]? = some (.deferred (some [])) → EndR n0 X s m I (lexR s m) W → Below n0 w W → Q .normal { a with defers := { target := .collected D, args := #[] } :: a.defers } W) :
    (Code.rangeFunc g ps assign body).wp Tryz.prog Q a w := by
  refine (wpIn_wide (n := 2)).1 (wpIn_rangeFunc ?_)
  intro fn hfn
  rw [show Fence.wide.round = none from rfl]
  obtain ⟨rec, hrec⟩ : ∃ rec : LoopState → Option Code → Loop, rec = fun st pe => { state := st, pending := pe, fn, tmps := a.tmps, params := ps, assign, body, defers := w.heap.size } := ⟨_, rfl⟩
  obtain ⟨W1, hW1⟩ : ∃ W1, (w.alloc (.deferred (some []))).alloc (.loop (rec .ready none)) = W1 := ⟨_, rfl⟩
  have hL1 : W1.heap[w.heap.size + 1]? = some (.loop (rec .ready none)) := by
    rw [← hW1]; have := World.alloc_heap_new (w.alloc (.deferred (some []))) (.loop (rec .ready none)); rwa [World.size_alloc] at this
  have hK1 : W1.heap[w.heap.size]? = some (.deferred (some [])) := by
    rw [← hW1]; exact (Below.heap_alloc _ _ _ (by simp)).trans (World.alloc_heap_new w _)
  have hXw : X < w.heap.size := hx.lt
  have hnw : n0 ≤ w.heap.size := hx.le
  have hkept : Kept n0 X w W1 := by rw [← hW1]; exact ((Kept.refl n0 X w).alloc hnw _).alloc hnw _
  have hBw : B < w.heap.size := (Array.getElem?_eq_some_iff.1 hB).1
  have hbel : Below w.heap.size w W1 := by rw [← hW1]; exact ((Below.refl _ w).alloc (Nat.le_refl _) _).alloc (by simp) _
  have hx1 : Lx n0 X s m 0 0 0 [] .nilFunc W1 := hx.later hn hbel
  have hB1 : W1.cell? ⟨B, 0, none⟩ = some (.pointer (some ⟨X, 0, none⟩)) := by
    rw [hbel.cell (p := ⟨B, 0, none⟩) hBw, Lib.cell_of_heap hB]; rfl
  have hBX : B ≠ X := fun e => by
    subst e
    obtain ⟨_, _, _, _, v, hc, _⟩ := hx
    rw [LxC] at hc
    rw [hc] at hB
    cases hB
  have hY : Yld n0 X (w.heap.size + 1) (fun ts W => I ts W ∧ W.heap[w.heap.size + 1]? = some (.loop (rec .ready none)) ∧ W.heap[w.heap.size]? = some (.deferred (some []))) := by
    refine ⟨?_, ?_⟩
    · rintro ts W W' ⟨hi, hl, hk⟩ hkp
      exact ⟨hIk _ _ _ hi hkp, hkp.same _ _ hl (by omega) (fun _ _ => by simp), hkp.same _ _ hk (by omega) (fun _ _ => by simp)⟩
    · rintro ts t W ⟨hi, hl, hk⟩ hts
      have hy := run_yield (P := Tryz.prog) (args := #[tkV t]) hl (by rw [hrec]; simp [hps])
      rw [hrec] at hy
      refine ⟨fn, _, assign, body, hy, roundIn_of_wpIn hfn (hassign _ ts t W _ hi hts ?_)⟩
      clear hy
      intro a' Wa hkfa hkya hia hax
      have hl' := hkfa.same _ _ (by omega) hl rfl
      have hk' := hkfa.same _ _ (Nat.le_refl _) hk rfl
      have hlt : w.heap.size + 1 < Wa.heap.size := (Array.getElem?_eq_some_iff.1 hl').1
      refine ⟨_, run_beginRound hl' (by rw [hrec]), ?_⟩
      have hl2 : (Wa.putObj (w.heap.size + 1) (.loop { rec .ready none with state := .busy })).heap[w.heap.size + 1]? = some (.loop { rec .ready none with state := .busy }) := World.putObj_heap_same hlt
      have hk2 : (Wa.putObj (w.heap.size + 1) (.loop { rec .ready none with state := .busy })).heap[w.heap.size]? = some (.deferred (some [])) := (World.putObj_heap_other (by omega)).trans hk'
      have hy2 : KeptY n0 Wa (Wa.putObj (w.heap.size + 1) (.loop { rec .ready none with state := .busy })) := KeptY.putObj _ hl' rfl (by omega)
      refine wpIn_mono (hbody _ ts t a' _ (hIo _ _ _ _ _ hia hl' rfl) hts (hAx _ _ _ _ _ _ hax hl' rfl)) ?_
      rintro e a3 W3 hp
      cases e with
      | normal =>
        obtain ⟨hk3, hkp3, hi3⟩ := hp
        have hl3 := hk3.same _ _ (by omega) hl2 rfl
        have hk4 := hk3.same _ _ (Nat.le_refl _) hk2 rfl
        have hlt3 : w.heap.size + 1 < W3.heap.size := (Array.getElem?_eq_some_iff.1 hl3).1
        have hr := run_endRound (P := Tryz.prog) none hl3
        refine ⟨_, _, hr, rfl, ⟨hIo _ _ _ _ _ hi3 hl3 rfl, ?_, (World.putObj_heap_other (by omega)).trans hk4⟩, (hkya.trans (hy2.trans hkp3)).trans (KeptY.putObj _ hl3 rfl (by omega))⟩
        rw [World.putObj_heap_same hlt3, hrec]
        rfl
      | ret => exact hp.2.elim
      | exit id => exact hp.2.elim
      | goto t => exact hp.2.elim
      | panic ch => exact hp.elim
      | outgrown => exact hp.elim
  refine ⟨w.heap.size + 1, [{ target := .collected w.heap.size, args := #[] }], W1, { target := .fn (.func 85) #[.pointer (some ⟨B, 0, none⟩)], args := #[.func (.yield (w.heap.size + 1)) #[] #[]] }, W1, 85,
    #[.func (.yield (w.heap.size + 1)) #[] #[]] ++ #[.pointer (some ⟨B, 0, none⟩)], W1, ?_, ?_, ?_, ?_, fun _ => by omega, ?_⟩
  · rw [← hW1, hrec]; exact run_enterLoop_outer _ _ _ _ _
  · simp only [resolve, hg]
    simp [go_sem]
  · intro f' hf'; trivial
  · have eg := enters_of Tryz.func85 (by kernel_rfl) rfl
    simp [invoke, go_sem, eg]
  · refine (callsIn_wide (n := 1)).2 ?_
    refine (closure_any (A := w) hn hY hB1 hBX hx1 ⟨hIk _ _ _ h0 hkept, hL1, hK1⟩ hkept.below).mono ?_
    rintro e W2 ⟨rfl, hp⟩
    have fin : ∀ (i : Nat) (e at_ : Int) (ts : List Tk) (al : List Nat), LJ n0 X s m i e at_ al (w.heap.size + 1) (fun ts W => I ts W ∧ W.heap[w.heap.size + 1]? = some (.loop (rec .ready none)) ∧ W.heap[w.heap.size]? = some (.deferred (some []))) ts w W2 →
        ∃ W4, (Instr.endLoop (w.heap.size + 1)).run Tryz.prog W2 = .ok none W4 ∧ (Lx n0 X s m i e at_ al (.func (.yield (w.heap.size + 1)) #[] #[]) W4 ∧ I ts W4) ∧ W4.heap[w.heap.size]? = some (.deferred (some [])) ∧ Below n0 w W4 := by
      rintro i e at_ ts al ⟨lx, ⟨hi, hl, hk⟩, hb⟩
      have hky : KeptY n0 W2 (W2.putObj (w.heap.size + 1) (.loop { rec .ready none with state := .exhausted })) := KeptY.putObj _ hl rfl (by omega)
      refine ⟨_, ?_, ⟨lx.same hn hky.below hky.same, hIo _ _ _ _ _ hi hl rfl⟩, (World.putObj_heap_other (by omega)).trans hk, hb.trans hky.below⟩
      have := run_endLoop (P := Tryz.prog) hl (by rw [hrec]; simp)
      rw [hrec] at this ⊢
      exact this
    cases hr : lexR s m with
    | ok i ts al =>
      rw [hr] at hp
      obtain ⟨hp, _⟩ := hp
      obtain ⟨W4, h4, h5, h6, h7⟩ := fin _ _ _ _ _ hp
      exact ⟨none, W4, h4, hdone _ W4 (Nat.le_refl _) h6 (by rw [hr]; exact ⟨_, by simpa using h5⟩) h7⟩
    | er e a =>
      rw [hr] at hp
      obtain ⟨i2, ts2, al2, hp⟩ := hp
      obtain ⟨W4, h4, h5, h6, h7⟩ := fin _ _ _ _ _ hp
      exact ⟨none, W4, h4, hdone _ W4 (Nat.le_refl _) h6 (by rw [hr]; exact ⟨_, i2, ts2, al2, h5⟩) h7⟩
end
end Go.Proofs.YtcpglgoiienhkaaGreatDoor
namespace Go.Proofs.YtcpglgoiienhkaaGreatDoor
open Go.RowKit P Ext
def R.bad : R → Prop
  | .ok .. => True
  | .er e _ => e = 190 ∨ e = 191
theorem R.bad_pre {ts : List Tk} {al : List Nat} {r : R} (h : r.bad) : (R.pre ts al r).bad := by cases r <;> exact h
theorem R.bad_next {r r2 : R} {f : Nat → Option R} (h : r.bad) (hf : ∀ j r', f j = some r' → r'.bad) (h2 : r.next f = some r2) : r2.bad := by
  cases r with
  | er e a => simp only [R.next, Option.some.injEq] at h2; subst h2; exact h
  | ok j ts al =>
    simp only [R.next, Option.map_eq_some_iff] at h2
    obtain ⟨r', h3, rfl⟩ := h2
    exact R.bad_pre (hf j r' h3)
theorem failR_bad (s : ByteArray) (pl : Nat) (op : Int) : (failR s pl op).bad := by unfold failR; split <;> simp [R.bad]
theorem mustR_bad (s : ByteArray) (c : Nat) (kind op : Int) (i : Nat) : (mustR s c kind op i).bad := by
  unfold mustR; split <;> first | trivial | exact failR_bad _ _ _
theorem offsetR_bad (s : ByteArray) (op : Int) (i : Nat) : (offsetR s op i).bad := by
  unfold offsetR; repeat' split
  all_goals first | trivial | exact failR_bad _ _ _
theorem keyR_bad (s : ByteArray) (b : Bool) (op : Int) (i : Nat) : (keyR s b op i).bad := by
  unfold keyR
  split
  · split <;> first | trivial | exact failR_bad _ _ _
  · split <;> first | trivial | exact failR_bad _ _ _
theorem styleGo_bad (s : ByteArray) (op : Int) (fr : Nat) (i o : Nat) : (styleGo s op fr i o).bad := by
  induction i, o using styleGo.induct s fr with
  | case1 i o h h1 h2 => rw [styleGo, dif_pos h, if_pos h1, if_pos h2]; exact .inl rfl
  | case2 i o h h1 h2 ih => rw [styleGo, dif_pos h, if_pos h1, if_neg h2]; exact ih
  | case3 i o h h1 h2 ih => rw [styleGo, dif_pos h, if_neg h1, if_pos h2]; exact ih
  | case4 i o h h1 h2 h3 h4 h5 => rw [styleGo, dif_pos h, if_neg h1, if_neg h2, if_pos h3, if_pos h4, if_pos h5]; exact failR_bad _ _ _
  | case5 i o h h1 h2 h3 h4 h5 => rw [styleGo, dif_pos h, if_neg h1, if_neg h2, if_pos h3, if_pos h4, if_neg h5]; exact R.bad_pre (mustR_bad _ _ _ _ _)
  | case6 i o h h1 h2 h3 h4 ih => rw [styleGo, dif_pos h, if_neg h1, if_neg h2, if_pos h3, if_neg h4]; exact ih
  | case7 i o h h1 h2 h3 ih => rw [styleGo, dif_pos h, if_neg h1, if_neg h2, if_neg h3]; exact ih
  | case8 i o h => rw [styleGo, dif_neg h]; exact .inl rfl
theorem limR_bad (s : ByteArray) (op : Int) (i : Nat) : (limR s op i).bad := by
  unfold limR
  repeat' split
  all_goals first | trivial | exact failR_bad _ _ _
structure Bads (s : ByteArray) (m : Int) (k : Nat) : Prop where
  msg : ∀ sort op i r, msgF s m k sort op i = some r → r.bad
  arg : ∀ i r, argF s m k i = some r → r.bad
  typ : ∀ w op i r, typedF s m k w op i = some r → r.bad
  cas : ∀ b op i r, casesF s m k b op i = some r → r.bad
  cho : ∀ op i r, choiceF s m k op i = some r → r.bad
theorem bads (s : ByteArray) (m : Int) : ∀ k, Bads s m k := by
  intro k
  induction k with
  | zero => exact ⟨fun a b c r h => by simp [msgF] at h, fun a r h => by simp [argF] at h, fun a b c r h => by simp [typedF] at h, fun a b c r h => by simp [casesF] at h, fun a b r h => by simp [choiceF] at h⟩
  | succ k ih =>
    refine ⟨?_, ?_, ?_, ?_, ?_⟩
    · intro sort op i r h
      rw [msgF] at h
      generalize textE s m sort (decide (op < 0)) i = te at *
      obtain ⟨t1, p, a1⟩ := te
      simp only at h
      split at h
      · have h := Option.some.inj h
        subst h
        split
        · trivial
        · exact failR_bad _ _ _
      · split at h
        · rw [Option.bind_eq_some_iff] at h
          obtain ⟨ra, h1, h2⟩ := h
          rw [Option.map_eq_some_iff] at h2
          obtain ⟨rb, h3, rfl⟩ := h2
          exact R.bad_pre (R.bad_next (ih.arg _ _ h1) (fun j r' h => ih.msg _ _ _ _ h) h3)
        · split at h
          · rw [Option.map_eq_some_iff] at h
            obtain ⟨rb, h3, rfl⟩ := h
            exact R.bad_pre (ih.msg _ _ _ _ h3)
          · have h := Option.some.inj h
            subst h
            trivial
    · intro i r h
      rw [argF] at h
      split at h
      · have h := Option.some.inj h
        subst h
        exact failR_bad _ _ _
      · rw [Option.map_eq_some_iff] at h
        obtain ⟨rb, h4, rfl⟩ := h
        refine R.bad_pre ?_
        split at h4
        · have h4 := Option.some.inj h4
          subst h4
          exact mustR_bad _ _ _ _ _
        · refine R.bad_next (mustR_bad _ _ _ _ _) (fun j r' h => ?_) h4
          split at h
          · have h := Option.some.inj h
            subst h
            exact failR_bad _ _ _
          · rw [Option.map_eq_some_iff] at h
            obtain ⟨rc, h7, rfl⟩ := h
            exact R.bad_pre (ih.typ _ _ _ _ h7)
    · intro w op i r h
      rw [typedF] at h
      split at h
      · exact R.bad_next (mustR_bad _ _ _ _ _) (fun j r' h => R.bad_next (offsetR_bad _ _ _) (fun j r' h => ih.cas _ _ _ _ h) h) h
      · split at h
        · exact R.bad_next (mustR_bad _ _ _ _ _) (fun j r' h => ih.cas _ _ _ _ h) h
        · split at h
          · exact R.bad_next (mustR_bad _ _ _ _ _) (fun j r' h => ih.cho _ _ _ h) h
          · split at h
            · have h := Option.some.inj h
              subst h
              exact mustR_bad _ _ _ _ _
            · exact R.bad_next (mustR_bad _ _ _ _ _) (fun j r' h => by have h := Option.some.inj h; subst h; exact styleGo_bad _ _ _ _ _) h
    · intro b op i r h
      rw [casesF] at h
      split at h
      · have h := Option.some.inj h
        subst h
        exact mustR_bad _ _ _ _ _
      · split at h
        · have h := Option.some.inj h
          subst h
          exact failR_bad _ _ _
        · refine R.bad_next (keyR_bad _ _ _ _) (fun j r' h => ?_) h
          refine R.bad_next (mustR_bad _ _ _ _ _) (fun j r' h => ?_) h
          rw [Option.bind_eq_some_iff] at h
          obtain ⟨ra, h2, h3⟩ := h
          exact R.bad_next (ih.msg _ _ _ _ h2) (fun j r' h => R.bad_next (mustR_bad _ _ _ _ _) (fun j r' h => ih.cas _ _ _ _ h) h) h3
    · intro op i r h
      rw [choiceF] at h
      have hl := limR_bad s op (blanks s i)
      rw [limR] at hl
      split at h
      · refine R.bad_next hl (fun j r' h => ?_) h
        rw [Option.bind_eq_some_iff] at h
        obtain ⟨ra, h2, h3⟩ := h
        refine R.bad_next (ih.msg _ _ _ _ h2) (fun j r' h => ?_) h3
        split at h
        · have h := Option.some.inj h
          subst h
          exact mustR_bad _ _ _ _ _
        · rw [Option.map_eq_some_iff] at h
          obtain ⟨rb, h3, rfl⟩ := h
          exact R.bad_pre (ih.cho _ _ _ h3)
      · have h := Option.some.inj h
        subst h
        exact failR_bad _ _ _
theorem lexR_bad (s : ByteArray) (m : Int) : (lexR s m).bad := (bads s m _).msg _ _ _ _ (lexR_some s m)
theorem lexR_ne {s : ByteArray} {m e a : Int} (h : lexR s m = .er e a) : e ≠ 0 := by
  have := lexR_bad s m
  rw [h] at this
  simp only [R.bad] at this
  omega
theorem mode_any (m : Int) (w : World) : Calls Tryz.prog 75 #[.int .i64 m] w fun e w' => e = .returned (.bool (m == 1 || m == 2)) ∧ w' = w := by
  cases h1 : m == 1 with
  | true =>
    go_enter Tryz.func75, Tryz.ntmps75
    go_wp2
    go_ret
    exact ⟨rfl, rfl⟩
  | false =>
    cases h2 : m == 2 with
    | true =>
      go_enter Tryz.func75, Tryz.ntmps75
      go_wp2
      go_ret
      exact ⟨rfl, rfl⟩
    | false =>
      go_enter Tryz.func75, Tryz.ntmps75
      go_wp2
      go_ret
      exact ⟨rfl, rfl⟩
end Go.Proofs.YtcpglgoiienhkaaGreatDoor
namespace Go.Proofs.YtcpglgoiienhkaaGreatDoor
open Go.RowKit Go.Shelf P Ext
attribute [local go_sem] Oper.semAt_some
def tkCells (ts : List Tk) : List Value := ts.flatMap fun t => [.int .i64 t.1, .string t.2.1, .int .i64 t.2.2]
def lexO (s : ByteArray) (m : Int) : R :=
  if 65536 < s.size then .er 2 0 else if (m == 1 || m == 2) = true then lexR s m else .er 1 0
def LexPost (n0 : Nat) (r : R) (e : Ending) (w' : World) : Prop :=
  match r with
  | .ok _ ts _ => ∃ v, e = .returned (.tuple #[v, .int .i64 0, .int .i64 0]) ∧ w'.ownsRow n0 111 3 v ts.length (tkCells ts)
  | .er k a => e = .returned (.tuple #[.slice none 0 0, .int .i64 a, .int .i64 k])
def startW (s : ByteArray) (m : Int) (w : World) : World := ((w.alloc (.cells #[.string s, .int .i64 m, .int .i64 0, .int .i64 0, .int .i64 0, .slice none 0 0, .nilFunc] 88)).alloc (.cells #[.slice none 0 0] 69)).alloc (.cells #[.pointer (some ⟨w.heap.size, 0, none⟩)] 84)
theorem startW_facts (s : ByteArray) (m : Int) (w : World) (hG : GlH w) (hz : s.size ≤ 65536) :
    (startW s m w).heap[w.heap.size + 2]? = some (.cells #[.pointer (some ⟨w.heap.size, 0, none⟩)] 84 (0, 0)) ∧
    Lx w.heap.size w.heap.size s m 0 0 0 [] .nilFunc (startW s m w) ∧
    (startW s m w).heap[w.heap.size + 1]? = some (.cells #[.slice none 0 0] 69 (0, 0)) ∧ Below w.heap.size w (startW s m w) := by
  have hb1 : Below w.heap.size w (w.alloc (.cells #[.string s, .int .i64 m, .int .i64 0, .int .i64 0, .int .i64 0, .slice none 0 0, .nilFunc] 88)) := (Below.refl _ w).alloc (Nat.le_refl _) _
  have h1 := World.alloc_heap_new w (.cells #[.string s, .int .i64 m, .int .i64 0, .int .i64 0, .int .i64 0, .slice none 0 0, .nilFunc] 88)
  unfold startW
  generalize hw1 : w.alloc (.cells #[.string s, .int .i64 m, .int .i64 0, .int .i64 0, .int .i64 0, .slice none 0 0, .nilFunc] 88) = w1 at *
  have hs1 : w1.heap.size = w.heap.size + 1 := by rw [← hw1]; simp
  have h2 := World.alloc_heap_new w1 (.cells #[.slice none 0 0] 69)
  have hb2 : Below w1.heap.size w1 (w1.alloc (.cells #[.slice none 0 0] 69)) := (Below.refl _ w1).alloc (Nat.le_refl _) _
  generalize hw2 : w1.alloc (.cells #[.slice none 0 0] 69) = w2 at *
  have hs2 : w2.heap.size = w.heap.size + 2 := by rw [← hw2]; simp [hs1]
  have h3 := World.alloc_heap_new w2 (.cells #[.pointer (some ⟨w.heap.size, 0, none⟩)] 84)
  have hb3 : Below w2.heap.size w2 (w2.alloc (.cells #[.pointer (some ⟨w.heap.size, 0, none⟩)] 84)) := (Below.refl _ w2).alloc (Nat.le_refl _) _
  generalize w2.alloc (.cells #[.pointer (some ⟨w.heap.size, 0, none⟩)] 84) = w3 at *
  rw [hs1] at h2 hb2
  rw [hs2] at h3 hb3
  have hb : Below w.heap.size w w3 := (hb1.trans (hb2.mono (by omega))).trans (hb3.mono (by omega))
  have k2 : w3.heap[w.heap.size + 1]? = some (.cells #[.slice none 0 0] 69 (0, 0)) := (hb3.block _ (by omega)).trans h2
  have k1 : w3.heap[w.heap.size]? = some (.cells #[.string s, .int .i64 m, .int .i64 0, .int .i64 0, .int .i64 0, .slice none 0 0, .nilFunc] 88 (0, 0)) := ((hb3.block _ (by omega)).trans (hb2.block _ (by omega))).trans h1
  exact ⟨h3, ⟨Nat.le_refl _, hG.gl.below hG.sz hb, hz, by simp, .slice none 0 0, k1, World.ownsRow_nil _ _ _ _⟩, k2, hb⟩
def lexT (s : ByteArray) (m : Int) (X tb : Nat) (t : Tk) : Array Value := #[.string s, .int .i64 m, undef, undef, .slice none 0 0, .int .i64 0, .int .i64 0, .pointer (some ⟨X, 0, none⟩), .pointer (some ⟨X + 1, 0, none⟩), .pointer (some ⟨tb, 0, none⟩), .string s, .int .i64 s.size, .bool false, .int .i64 m, .bool true, .bool false, .string s, .int .i64 m, .agg #[.string s, .int .i64 m, .int .i64 0, .int .i64 0, .int .i64 0, .slice none 0 0, .nilFunc], .pointer (some ⟨X, 0, none⟩), .pointer (some ⟨X, 0, none⟩), .func (.func 85) #[] #[.pointer (some ⟨X + 2, 0, none⟩)], tkV t, undef, undef, undef, undef, undef, undef, undef, undef, undef, undef, undef, undef, undef, undef, undef, undef, undef, undef]
theorem ownsRow_sameN {W W' : World} {b : Nat} {e : TypeId} {z : Nat} {v : Value} {n : Nat} {xs : List Value} (h : W.ownsRow b e z v n xs)
    (hs : ∀ (k : Nat) (c : Array Value) (fz : Nat × Nat), W.heap[k]? = some (.cells c e fz) → b ≤ k → W'.heap[k]? = some (.cells c e fz)) : W'.ownsRow b e z v n xs := by
  refine ⟨h.1, ?_⟩
  rcases h.2 with h2 | ⟨g, cap, cur, rfl, hb, hg, rest⟩
  · exact .inl h2
  · exact .inr ⟨g, cap, cur, rfl, hb, hs g _ _ hg hb, rest⟩
theorem infoTok : (Tryz.prog.info? 111).map (fun i => (i.zero, i.size, i.bytes)) = some (some (.agg #[.int .i64 0, .string ⟨#[]⟩, .int .i64 0]), 3, 32) := by kernel_rfl
theorem ownsRow_base {W : World} {base base' : Nat} {e : TypeId} {z : Nat} {v : Value} {k : Nat} {xs : List Value} (h : W.ownsRow base e z v k xs) (hb : base' ≤ base) : W.ownsRow base' e z v k xs := by
  refine ⟨h.1, ?_⟩
  rcases h.2 with h2 | ⟨g, cap, cur, rfl, hb2, rest⟩
  · exact .inl h2
  · exact .inr ⟨g, cap, cur, rfl, by omega, rest⟩
theorem Below.drewN' {n : Nat} {A W : World} (h : Below n A W) (k : Nat) : Below n A (W.drewN k) := ⟨h.os, h.tape, h.output, h.size, h.block⟩
def LexI (w : World) (ts : List Tk) (W : World) : Prop :=
  ∃ v, W.heap[w.heap.size + 1]? = some (.cells #[v] 69 (0, 0)) ∧ W.ownsRow (w.heap.size + 1) 111 3 v ts.length (tkCells ts)
theorem LexI.kept {w : World} {ts : List Tk} {W W' : World} (h : LexI w ts W) (hk : Kept w.heap.size w.heap.size W W') : LexI w ts W' := by
  obtain ⟨v, h1, h2⟩ := h
  exact ⟨v, hk.same _ _ h1 (by omega) (fun c fz e => by cases e), ownsRow_sameN h2 fun k c fz hc hb => hk.same _ _ hc (by omega) (fun c fz e => by cases e)⟩
theorem LexI.putObj {w : World} {ts : List Tk} {W : World} {k : Nat} {o : Obj} (o' : Obj) (h : LexI w ts W) (hk : W.heap[k]? = some o) (ho : o.isCells = false) : LexI w ts (W.putObj k o') := by
  obtain ⟨v, h1, h2⟩ := h
  have hne : ∀ (j : Nat) (c : Array Value) (T : TypeId) (fz : Nat × Nat), W.heap[j]? = some (.cells c T fz) → (W.putObj k o').heap[j]? = some (.cells c T fz) := fun j c T fz hj => by
    rw [World.putObj_heap_other (fun e => by subst e; rw [hk] at hj; cases hj; cases ho)]; exact hj
  exact ⟨v, hne _ _ _ _ h1, ownsRow_sameN h2 fun k c fz hc _ => hne _ _ _ _ hc⟩
theorem LexI.size {w : World} {ts : List Tk} {W : World} (h : LexI w ts W) : w.heap.size + 1 < W.heap.size := by
  obtain ⟨v, h1, h2⟩ := h
  exact (Array.getElem?_eq_some_iff.1 h1).1
theorem KeptY.alloc {n0 : Nat} {W : World} (hl : n0 ≤ W.heap.size) (o : Obj) : KeptY n0 W (W.alloc o) :=
  ⟨(Below.refl n0 W).alloc hl o, fun j c T fz hj ht => (Below.heap_alloc W o j (Array.getElem?_eq_some_iff.1 hj).1).trans hj⟩
theorem LexI.push {w : World} {ts : List Tk} {t : Tk} {W w1 : World} {v v' : Value} {tmp : Obj} (hv : W.heap[w.heap.size + 1]? = some (.cells #[v] 69 (0, 0))) (ho : W.ownsRow (w.heap.size + 1) 111 3 v ts.length (tkCells ts))
    (hgrow : (W.alloc tmp).grownBy w1 v.ownBlock) (hown : w1.ownsRow (w.heap.size + 1) 111 3 v' (ts.length + 1) (tkCells ts ++ [.int .i64 t.1, .string t.2.1, .int .i64 t.2.2])) :
    w1.heap[w.heap.size + 1]? = some (.cells #[v] 69 (0, 0)) ∧ True ∧ KeepsOthers W (w1.setCell ⟨w.heap.size + 1, 0, none⟩ v') ∧ KeptY w.heap.size W (w1.setCell ⟨w.heap.size + 1, 0, none⟩ v') ∧ LexI w (ts ++ [t]) (w1.setCell ⟨w.heap.size + 1, 0, none⟩ v') := by
  have hsz := (Array.getElem?_eq_some_iff.1 hv).1
  have hown0 : ∀ j, v.ownBlock = some j → w.heap.size + 1 ≤ j ∧ ∃ c, W.heap[j]? = some (.cells c 111 (0, 0)) := by
    intro j hj
    rcases ho.2 with ⟨rfl, _⟩ | ⟨g, cap, cur, rfl, hb, hg, _⟩
    · cases hj
    · cases hj; exact ⟨hb, _, hg⟩
  have hother : ∀ (j : Nat) (c : Array Value) (T : TypeId) (fz : Nat × Nat), W.heap[j]? = some (.cells c T fz) → T ≠ 111 → w1.heap[j]? = some (.cells c T fz) := by
    intro j c T fz hj hT
    have hlt := (Array.getElem?_eq_some_iff.1 hj).1
    rw [hgrow.block j (by simp; omega) (fun e => by
      obtain ⟨_, c', hc⟩ := hown0 j e.symm
      rw [hc] at hj; cases hj; exact hT rfl), Below.heap_alloc W tmp j hlt]
    exact hj
  have hv1 := hother _ _ _ _ hv (by decide)
  have hb : Below w.heap.size W (w1.setCell ⟨w.heap.size + 1, 0, none⟩ v') := by
    refine Below.setCell (p := ⟨w.heap.size + 1, 0, none⟩) (((Below.refl _ W).alloc (by omega) tmp).grown hgrow (by simp; omega) (fun k e => by have := (hown0 k e).1; omega)) (by simp) v'
  refine ⟨hv1, trivial, ?_, ⟨hb, ?_⟩, v', ?_, ?_⟩
  · refine ((KeepsOthers.alloc W tmp).trans (KeepsOthers.of_grownBy hgrow ?_)).trans (KeepsOthers.setCell _ _ _)
    intro j o hj hk
    obtain ⟨_, c, hc⟩ := hown0 j hj
    rw [Below.heap_alloc W tmp j (Array.getElem?_eq_some_iff.1 hc).1, hc] at hk
    cases hk
    rfl
  · intro j c T fz hj hT
    have h1 := hother _ _ _ _ hj (by rcases hT with rfl | rfl <;> decide)
    rw [Below.heap_setCell _ _ _ _ (fun e => by
      dsimp only at e
      subst e; rw [hv] at hj; cases hj; rcases hT with h | h <;> exact absurd h (by decide))]
    exact h1
  · exact heap_setCell hv1 v'
  · rw [List.length_append]
    have : tkCells (ts ++ [t]) = tkCells ts ++ [.int .i64 t.1, .string t.2.1, .int .i64 t.2.2] := by simp [tkCells]
    rw [this]
    refine ownsRow_sameN hown fun k c fz hc hk => ?_
    rw [Below.heap_setCell _ _ _ _ (fun e => by dsimp only at e; subst e; rw [hv1] at hc; cases hc)]
    exact hc
set_option maxRecDepth 100000 in
set_option maxHeartbeats 8000000 in
theorem Lex_any (s : ByteArray) (m : Int) (w : World) (hG : GlH w) :
    Calls Tryz.prog 51 #[.string s, .int .i64 m] w fun e w' => LexPost w.heap.size (lexO s m) e w' ∧ Below w.heap.size w w' := by
  by_cases hz : 65536 < s.size
  · have HF : Hid (lexO s m = .er 2 0) := Lib.hid (if_pos hz)
    have d : decide ((65536 : Int) < s.size) = true := by simp; omega
    go_enter Tryz.func51, Tryz.ntmps51
    go_wp2
    go_ret3
    rw [HF.out]
    exact ⟨rfl, Below.refl _ _⟩
  · have d : decide ((65536 : Int) < s.size) = false := by simp; omega
    have hmo := mode_any m w
    cases hm : (m == 1 || m == 2) with
    | false =>
      have HF : Hid (lexO s m = .er 1 0) := Lib.hid (by rw [lexO, if_neg hz, hm]; rfl)
      rw [hm] at hmo
      have HMO := Lib.hid hmo
      clear hm hmo
      go_enter Tryz.func51, Tryz.ntmps51
      go_wp2_with (go_at_call 75; refine HMO.out.mono ?_; rintro e w' ⟨rfl, rfl⟩)
      go_ret3
      rw [HF.out]
      exact ⟨rfl, Below.refl _ _⟩
    | true =>
      have HF : Hid (lexO s m = lexR s m) := Lib.hid (by rw [lexO, if_neg hz, hm]; rfl)
      rw [hm] at hmo
      have HMO := Lib.hid hmo
      clear hm hmo
      have hn : 8 ≤ w.heap.size := hG.2
      refine (callsIn_wide (n := 2)).1 ?_
      refine callsIn_of_wp_marks Tryz.func51 rfl trivial ?_ rfl
      refine wpIn_wide.2 ?_
      simp only [Tryz.ntmps51, List.size_toArray, List.length_cons, List.length_nil, Nat.reduceAdd, Nat.reduceSub, Array.replicate_succ, Array.replicate_zero, List.push_toArray, List.append_toArray, List.nil_append, List.cons_append]
      go_wp2_with (first | (go_at_call 75; refine HMO.out.mono ?_; rintro e w' ⟨rfl, rfl⟩) | (go_at_call 60; refine (tokens_any _ _).mono ?_; rintro e w' ⟨rfl, rfl⟩))
      refine (?_ : Code.wp _ _ _ _ (startW s m w'))
      obtain ⟨hB, hx, hL, hb⟩ := startW_facts s m w' hG (by omega)
      generalize startW s m w' = W0 at *
      refine lex_range (B := w'.heap.size + 2) hn (LexI w') rfl hB hx rfl ⟨_, hL, World.ownsRow_nil _ _ _ _⟩ (fun ts W W' h hk => h.kept hk) (fun ts W k o o' h hk ho => h.putObj o' hk ho)
        (fun t a' W => ∃ tb, a' = { tmps := lexT s m w'.heap.size tb t, defers := [] } ∧ W.heap[tb]? = some (.cells #[.int .i64 t.1, .string t.2.1, .int .i64 t.2.2] 111 (0, 0)))
        ?hAx ?assign ?body ?done
      case hAx =>
        rintro t a' W k o o' ⟨tb, ha, hb⟩ hk ho
        exact ⟨tb, ha, by rw [World.putObj_heap_other (fun e => by subst e; rw [hk] at hb; cases hb; cases ho)]; exact hb⟩
      case assign =>
        intro k ts t W K hi hts hK
        obtain ⟨t1, t2, t3⟩ := t
        dsimp only [tkV]
        gi_wp2
        have hsz := hi.size
        exact hK _ _ ((KeepsOthers.alloc W _).from _) (KeptY.alloc (by omega) _) (hi.kept ((Kept.refl _ _ W).alloc (by omega) _)) ⟨W.heap.size, rfl, World.alloc_heap_new W _⟩
      case body =>
        rintro k ts t a' W hi hts ⟨tb, rfl, htb⟩
        have hsz := hi.size
        obtain ⟨v, hv, ho⟩ := hi
        have hv0 := Lib.cell_of_heap (j := 0) hv
        have hfz := Lib.frozen_of_heap hv 0
        obtain ⟨i0, hii, hz0, hz1, hz2⟩ := info_parts infoTok
        have e0 : W.cell? ⟨tb, 0, none⟩ = some (.int .i64 t.1) := by rw [Lib.cell_of_heap htb]; rfl
        have e1 : W.cell? ⟨tb, 1, none⟩ = some (.string t.2.1) := by rw [Lib.cell_of_heap htb]; rfl
        have e2 : W.cell? ⟨tb, 2, none⟩ = some (.int .i64 t.2.2) := by rw [Lib.cell_of_heap htb]; rfl
        have hv0' : W.cell? ⟨w'.heap.size + 1, 0, none⟩ = some v := by rw [hv0]; rfl
        unfold lexT
        gi_wp2_with (gi_at_builtin; refine wpListIn_append_own _ rfl _ _ 69 rfl (w'.heap.size + 1) 111 i0 (.agg #[.int .i64 0, .string ⟨#[]⟩, .int .i64 0]) 3 32 Tryz.underlying69 hii hz0 hz1 hz2 rfl (by decide) _ _ _ rfl (ho.alloc _) ⟨W.heap.size, 0, none⟩ 1 1 [.int .i64 t.1, .string t.2.1, .int .i64 t.2.2] rfl rfl ?c1 ?c2 ?c3 ?c4 ?c5 ?_)
        case c1 =>
          intro j u hj
          match j, hj with
          | 0, hj => simp at hj; subst hj; simp [Addr.add]
          | 1, hj => simp at hj; subst hj; simp [Addr.add]
          | 2, hj => simp at hj; subst hj; simp [Addr.add]
          | j + 3, hj => simp at hj
        case c2 => intro u hu; simp at hu; rcases hu with rfl | rfl | rfl <;> rfl
        case c3 => unfold maxLen; omega
        case c4 => omega
        case c5 => simp; omega
        intro v' w1 hown' hgrow _
        obtain ⟨p1, p2, p3, p4, p5⟩ := LexI.push (t := t) hv ho hgrow hown'
        have P5 := Lib.hid p5
        clear p5 hgrow ho
        have q0 := Lib.cell_of_heap (j := 0) p1
        have q0' : w1.cell? ⟨w'.heap.size + 1, 0, none⟩ = some v := by rw [q0]; rfl
        have qf := Lib.frozen_of_heap p1 0
        obtain ⟨g, cap, rfl⟩ := ownsRow_succ hown'
        gi_wp2
        exact ⟨p3.from _, p4, P5.out⟩
      case done =>
        intro D W hD hdef hend hbel
        have hbw : Below w'.heap.size w' W := hb.trans hbel
        have hbD : Below w'.heap.size w' (W.putObj D (.deferred none)) := hbw.trans (KeptY.putObj _ hdef rfl (by have := hb.size; omega)).below
        obtain ⟨yv, hend⟩ := hend
        cases hr : lexR s m with
        | er e a =>
          rw [hr] at hend
          obtain ⟨i, ts, al, hx2, hi2⟩ := hend
          obtain ⟨v, hc, ho⟩ := hx2.own
          obtain ⟨d0, d1, d2, d3, d4, d5, d6⟩ := hc.cells
          have hne : (e != 0) = true := by simpa using lexR_ne hr
          have HR := Lib.hid (HF.out.trans hr)
          clear hr hx hB hL hc ho hx2 hi2 d0 d1 d2 d5 d6
          go_wp2_with fail
          go_quiet (fail)
          go_wp2_with fail
          have hbD : Below w'.heap.size w' ((W.drewN nq).putObj D (.deferred none)) := (Below.drewN' hbw nq).trans (KeptY.putObj (W := W.drewN nq) _ hdef rfl (by have := hb.size; omega)).below
          refine ⟨by simp, .inl ⟨_, _, rfl, run_takeDeferred (by exact hdef), ?_⟩⟩
          exact ⟨_, results_tmp3 rfl _ _ _, by rw [HR.out]; rfl, hbD⟩
        | ok i ts al =>
          rw [hr] at hend
          obtain ⟨hx2, hi2⟩ := hend
          have hi3 := hi2.putObj (.deferred none) hdef rfl
          obtain ⟨v2, hl1, hl2⟩ := hi3
          obtain ⟨v, h1, h2⟩ := hi2
          have q0 := Lib.cell_of_heap (j := 0) h1
          have q0' : W.cell? ⟨w'.heap.size + 1, 0, none⟩ = some v := by rw [q0]; rfl
          have hvv : v2 = v := by
            rw [World.putObj_heap_other (fun e => by rw [e, hdef] at h1; cases h1), h1] at hl1
            cases hl1
            rfl
          subst hvv
          have hl3 := ownsRow_base hl2 (Nat.le_succ _)
          obtain ⟨v, hc, ho⟩ := hx2.own
          obtain ⟨d0, d1, d2, d3, d4, d5, d6⟩ := hc.cells
          have HR := Lib.hid (HF.out.trans hr)
          have HL := Lib.hid hl3
          have hvs : ∃ g k c, v2 = .slice g k c := by
            rcases h2.2 with ⟨rfl, _⟩ | ⟨g, cap, cur, rfl, _⟩ <;> exact ⟨_, _, _, rfl⟩
          obtain ⟨g, kk, cc, rfl⟩ := hvs
          clear hr hx hB hL hc ho hx2 h1 h2 hl1 hl2 hl3 q0 d0 d1 d2 d5 d6
          go_wp2_with fail
          refine ⟨by simp, .inl ⟨_, _, rfl, run_takeDeferred (by exact hdef), ?_⟩⟩
          refine ⟨_, results_tmp3 rfl _ _ _, ?_, hbD⟩
          rw [HR.out]
          exact ⟨_, rfl, HL.out⟩
end Go.Proofs.YtcpglgoiienhkaaGreatDoor
