/- Lemmas behind the laws of messages; no conditions. -/
import Derived.Test.YtcpglgoiienhkaaGreatDoorZMD
import Derived.Deep.LoopGhost
set_option linter.unusedVariables false
set_option linter.unusedSimpArgs false

namespace Go.Proofs.YtcpglgoiienhkaaGreatDoor
open Go.RowKit P Ext
section
variable {n0 X : Nat} {s : ByteArray} {m : Int} {al : List Nat} {l : Nat} {J : List Tk → World → Prop} {ts : List Tk} {A W : World} {i : Nat}
theorem R.pre_good (ts : List Tk) (al : List Nat) (r : R) : (R.pre ts al r).good = r.good := by cases r <;> rfl
theorem StR.pre {ts1 : List Tk} {al1 : List Nat} {r : R} (h : StR n0 X s m l J A (ts ++ ts1) (al ++ al1) r W) : StR n0 X s m l J A ts al (R.pre ts1 al1 r) W := by
  cases r with
  | ok i2 ts2 al2 => simpa [StR, R.pre] using h
  | er e a => exact h
theorem LJ.later (hn : 8 ≤ n0) (hY : Yld n0 X l J) {e at_ : Int} (h : LJ n0 X s m i e at_ al l J ts A W) {W' : World} (hb : Below W.heap.size W W') : LJ n0 X s m i e at_ al l J ts A W' := LJ.of hY h (h.lk.later hn hb)
theorem LJ.gl (hn : 8 ≤ n0) {e at_ : Int} (h : LJ n0 X s m i e at_ al l J ts A W) : GlH W := h.lk.gl hn
theorem Trim_lj (hn : 8 ≤ n0) (hY : Yld n0 X l J) {e at_ : Int} (h : LJ n0 X s m i e at_ al l J ts A W) (a b : Nat) :
    Calls Tryz.prog 112 #[.string (s.extract a b)] W fun e' W' => e' = .returned (.string (trimP (s.extract a b))) ∧ LJ n0 X s m i e at_ al l J ts A W' :=
  (Trim_any _ (by have := h.lx.sz; simp [ByteArray.size_extract]; omega) W (h.gl hn)).mono fun _ _ ⟨he, hb⟩ => ⟨he, h.later hn hY hb⟩
theorem trimP_pos (s : ByteArray) (a b : Nat) (h : ¬ (trimP (s.extract a b)).size = 0) : a < b := by
  refine Nat.lt_of_not_le fun hb => h ?_
  have h0 : (s.extract a b).size = 0 := by simp [ByteArray.size_extract]; omega
  generalize s.extract a b = w at h0
  unfold trimP
  split
  · rfl
  · simp [ByteArray.size_extract]; omega
set_option maxRecDepth 100000 in
set_option maxHeartbeats 8000000 in
theorem style_any (op : Int) (hn : 8 ≤ n0) (hY : Yld n0 X l J) (h : LJ n0 X s m i 0 0 al l J ts A W) (hi : i ≤ s.size) (hl : ts.length ≤ i) :
    Calls Tryz.prog 165 #[.pointer (some ⟨X, 0, none⟩), .int .i64 op] W (PostR n0 X s m l J A ts al (styleR s op i)) := by
  have hz : s.size ≤ 65536 := h.lx.sz
  have hbd := blanks_bd s i hi
  have HI : Hid (styleR s op i = styleGo s op (blanks s i) (blanks s i) 1) := Lib.hid rfl
  go_enter Tryz.func165, Tryz.ntmps165
  go_wp2_with fail
  refine (blanks_lj hn hY h hi).mono ?_
  rintro e' W1 ⟨rfl, h0⟩
  generalize blanks s i = fr at *
  obtain ⟨c0, c2, f2⟩ := h0.facts
  go_wp2_with fail
  clear c0 c2 f2
  go_loopw [6] (fun v6 wr => ∃ j o : Nat, v6 = .int .i64 (o : Int) ∧ 1 ≤ o ∧ fr ≤ j ∧ o ≤ j + 1 ∧ j ≤ s.size ∧ Hid (styleGo s op fr fr 1 = styleGo s op fr j o) ∧ LJ n0 X s m j 0 0 al l J ts A wr) (fun _ wr => s.size - posOf X wr)
  case atStart => exact ⟨fr, 1, rfl, by omega, by omega, by omega, hbd.2, Lib.hid rfl, h0⟩
  case round =>
    obtain ⟨j, o, rfl, ho1, hfj, hoj, hjs, HB, h1⟩ := hrel
    obtain ⟨c0, c2, f2⟩ := h1.facts
    have hj' : (j : Int) ≤ s.size := by omega
    by_cases hlt : j < s.size
    · have hlt' : (j : Int) < s.size := by omega
      have d1 : decide ((j : Int) < (s.size : Int)) = true := by simpa using hlt'
      have HC8 := Lib.hid (b8_at s j hlt)
      have HST : Hid (styleGo s op fr j o = if b8 s j = 39 then
          if Lib.indexByte (s.data.toList.drop (j + 1)) 39 < 0 then .er 190 op
          else styleGo s op fr (j + (Lib.indexByte (s.data.toList.drop (j + 1)) 39).toNat + 2) o
        else if b8 s j = 123 then styleGo s op fr (j + 1) (o + 1)
        else if b8 s j = 125 then
          if o ≤ 1 then
            if (trimP (s.extract fr j)).size = 0 then failR s j op
            else R.pre [(8, trimP (s.extract fr j), (fr : Int))] [] (mustR s 125 4 op j)
          else styleGo s op fr (j + 1) (o - 1)
        else styleGo s op fr (j + 1) o) := Lib.hid (by rw [styleGo, dif_pos hlt])
      go_wp2_with fail
      go_quiet (fail)
      have h2 := h1.drewN hY nq
      generalize wr.drewN nq = wq at *
      obtain ⟨c0, c2, f2⟩ := h2.facts
      go_wp2_with fail
      go_quiet (fail)
      have h3 := h2.drewN hY nq
      generalize wq.drewN nq = wk at *
      obtain ⟨c0, c2, f2⟩ := h3.facts
      by_cases h39 : (s[j]'hlt).toNat = 39
      · have e1 : (((s[j]'hlt).toNat : Int) == 39) = true := by simp; omega
        have HS2 := Lib.hid (HST.out.trans (if_pos (HC8.out.trans h39)))
        clear h39 HST
        have w0 : (0 : Int) ≤ (j : Int) + 1 := by omega
        have w2 : ((j : Int) + 1).toNat = j + 1 := by omega
        have w3 : (j : Int) + 1 ≤ s.size := by omega
        go_wp2_with fail
        go_quiet ((go_at_call 174; exact Calls.quiet_of_same (Tryz.strings_IndexByte _ _ _)))
        have h4 := h3.drewN hY nq
        generalize wk.drewN nq = wl at *
        obtain ⟨c0', c2', f2'⟩ := h4.facts
        have hr : Lib.indexByte (s.extract (j + 1) s.size).data.toList (Int.toNat 39).toUInt8 = Lib.indexByte (s.data.toList.drop (j + 1)) 39 := by rw [Lib.extract_to_end]; rfl
        have hge := Lib.indexByte_ge (s.data.toList.drop (j + 1)) 39
        generalize Lib.indexByte (s.extract (j + 1) s.size).data.toList (Int.toNat 39).toUInt8 = kk at *
        clear w0 w2 w3
        by_cases hk : kk < 0
        · have HF : Hid (styleR s op i = .er 190 op) := Lib.hid (by rw [HI.out, HB.out, HS2.out, if_pos (by rw [← hr]; exact hk)])
          have d2 : decide (kk < 0) = true := by simpa using hk
          clear HI HB HS2 hr hge
          go_wp2_with fail
          have hff := fails_lj hn hY s.size op h4 (s.size : Int) rfl
          have hfr : failR s s.size op = .er 190 op := by rw [failR, if_pos (Nat.le_refl _)]
          rw [hfr] at hff
          have HFF := Lib.hid hff
          clear hff hfr
          refine HFF.out.mono ?_
          rintro e' W5 ⟨rfl, hp⟩
          go_wp2_with fail
          go_ret
          refine ⟨by rw [HF.out]; rfl, ?_⟩
          rw [HF.out]
          exact hp
        · obtain ⟨n, rfl⟩ := Int.eq_ofNat_of_zero_le (a := kk) (by omega)
          obtain ⟨hs1, hs2⟩ := Lib.indexByte_some hr.symm
          obtain ⟨hjn, hb39⟩ := b8_list s (j + 1) n 39 hs1
          have HF : Hid (styleGo s op fr fr 1 = styleGo s op fr (j + n + 2) o) := Lib.hid (by rw [HB.out, HS2.out, if_neg (by rw [← hr]; exact hk), ← hr]; rfl)
          have dn : decide ((n : Int) < 0) = false := by simp
          have hn0 : (0 : Int) ≤ n := by omega
          have ho0 : ((o : Int) == 0) = false := by simp; omega
          clear HB HS2 hr hge hs1 hs2 hb39 hk
          have h5 := h4.setv hY hn (v := (j : Int) + ((n : Int) + 1)) (j + n + 1) (by omega) (by omega)
          obtain ⟨p0, p2, pf⟩ := h5.facts
          have h6 := h5.setv hY hn (v := (j : Int) + (n : Int) + 1 + 1) (j + n + 2) (by omega) (by omega)
          go_wp2_with fail
          go_roundw
          case rel => exact ⟨j + n + 2, o, rfl, by omega, by omega, by omega, by omega, HF, h6⟩
          case measure =>
            rw [posOf_eq h1.lx, posOf_eq h6.lx]
            omega
      · have e1 : (((s[j]'hlt).toNat : Int) == 39) = false := by simp; omega
        have HS2 := Lib.hid (HST.out.trans (if_neg (by rw [HC8.out]; exact h39)))
        by_cases h123 : (s[j]'hlt).toNat = 123
        · have e2 : (((s[j]'hlt).toNat : Int) == 123) = true := by simp; omega
          have HF : Hid (styleGo s op fr fr 1 = styleGo s op fr (j + 1) (o + 1)) := Lib.hid (by rw [HB.out, HS2.out, if_pos (by rw [HC8.out]; exact h123)])
          have ho0 : (((o : Int) + 1) == 0) = false := by simp; omega
          clear h39 h123 HST HS2 HB
          go_wp2_with fail
          have h4 := h3.setv hY hn (v := (j : Int) + 1) (j + 1) (by omega) (by omega)
          go_roundw
          case rel => exact ⟨j + 1, o + 1, int_eq (by omega), by omega, by omega, by omega, by omega, HF, h4⟩
          case measure =>
            rw [posOf_eq h1.lx, posOf_eq h4.lx]
            omega
        · have e2 : (((s[j]'hlt).toNat : Int) == 123) = false := by simp; omega
          have HS3 := Lib.hid (HS2.out.trans (if_neg (by rw [HC8.out]; exact h123)))
          by_cases h125 : (s[j]'hlt).toNat = 125
          · have e3 : (((s[j]'hlt).toNat : Int) == 125) = true := by simp; omega
            have HS4 := Lib.hid (HS3.out.trans (if_pos (by rw [HC8.out]; exact h125)))
            clear h39 h123 h125 HST HS2 HS3
            by_cases ho : o ≤ 1
            · obtain rfl : o = 1 := by omega
              have HS5 : Hid (styleR s op i = if (trimP (s.extract fr j)).size = 0 then failR s j op else R.pre [(8, trimP (s.extract fr j), (fr : Int))] [] (mustR s 125 4 op j)) := Lib.hid (by rw [HI.out, HB.out, HS4.out, if_pos (Nat.le_refl _)])
              clear HI HB HS4 ho
              have hfj' : (fr : Int) ≤ j := by omega
              have he0 := bytes_empty (trimP (s.extract fr j))
              have h3d := h3.drewN hY 1
              go_wp2_with fail
              go_region_held3 (fun w' => w'.cell? ⟨X, 0, none⟩ = some (.string s) ∧ w'.cell? ⟨X, 2, none⟩ = some (.int .i64 (j : Int))) (first | exact ⟨c0, c2⟩ | exact ⟨h4.facts.1, h4.facts.2.1⟩) (first | (go_at_call 112; refine (Trim_lj hn hY (?_ : LJ n0 X s m j 0 0 al l J ts A _) fr j).mono ?_; (exact h3d); rintro e' W' ⟨rfl, h4⟩))
              obtain ⟨q0, q2, qf⟩ := h4.facts
              have hnz := trimP_pos s fr j
              generalize trimP (s.extract fr j) = tr at *
              by_cases hc : tr.size = 0
              · have HF : Hid (styleR s op i = failR s j op) := Lib.hid (by rw [HS5.out, if_pos hc])
                have e4 : tr.toList.isEmpty = true := by rw [he0]; simpa using hc
                have e5 : tr.toList = [] := by simpa using e4
                clear he0 HS5 hc
                go_wp2_with fail
                refine (fails_lj hn hY j op h4 (j : Int) rfl).mono ?_
                rintro e' W5 ⟨rfl, hp⟩
                go_wp2_with fail
                go_ret
                refine ⟨by rw [HF.out, failR_good]; rfl, ?_⟩
                rw [HF.out]
                exact hp
              · have HF : Hid (styleR s op i = R.pre [(8, tr, (fr : Int))] [] (mustR s 125 4 op j)) := Lib.hid (by rw [HS5.out, if_neg hc])
                have hjf := hnz hc
                clear hnz
                have e4 : tr.toList.isEmpty = false := by rw [he0]; simpa using hc
                clear he0 HS5 hc
                go_wp2_with fail
                refine (put_any hn hY _ _ _ h4 (by omega)).mono ?_
                rintro e' W5 ⟨rfl, h5⟩
                go_wp2_with fail
                refine (must_any 125 4 op hn hY h5 hjs (by rw [List.length_append]; simp only [List.length_singleton]; omega)).mono ?_
                rintro e' W6 ⟨rfl, hp⟩
                go_wp2_with fail
                go_ret
                refine ⟨by rw [HF.out, R.pre_good]; rfl, ?_⟩
                rw [HF.out]
                exact StR.pre (by simpa using hp)
            · have HF : Hid (styleGo s op fr fr 1 = styleGo s op fr (j + 1) (o - 1)) := Lib.hid (by rw [HB.out, HS4.out, if_neg ho])
              have ho0 : (((o : Int) - 1) == 0) = false := by simp; omega
              have ho2 : 2 ≤ o := by omega
              clear HB HS4 ho
              go_wp2_with fail
              have h4 := h3.setv hY hn (v := (j : Int) + 1) (j + 1) (by omega) (by omega)
              go_roundw
              case rel => exact ⟨j + 1, o - 1, int_eq (by omega), by omega, by omega, by omega, by omega, HF, h4⟩
              case measure =>
                rw [posOf_eq h1.lx, posOf_eq h4.lx]
                omega
          · have e3 : (((s[j]'hlt).toNat : Int) == 125) = false := by simp; omega
            have HF : Hid (styleGo s op fr fr 1 = styleGo s op fr (j + 1) o) := Lib.hid (by rw [HB.out, HS3.out, if_neg (by rw [HC8.out]; exact h125)])
            have ho0 : ((o : Int) == 0) = false := by simp; omega
            clear h39 h123 h125 HST HS2 HS3 HB
            go_wp2_with fail
            have h4 := h3.setv hY hn (v := (j : Int) + 1) (j + 1) (by omega) (by omega)
            go_roundw
            case rel => exact ⟨j + 1, o, rfl, by omega, by omega, by omega, by omega, HF, h4⟩
            case measure =>
              rw [posOf_eq h1.lx, posOf_eq h4.lx]
              omega
    · have HF : Hid (styleR s op i = .er 190 op) := Lib.hid (by rw [HI.out, HB.out, styleGo, dif_neg hlt])
      have hlt' : ¬ (j : Int) < s.size := by omega
      have d1 : decide ((j : Int) < (s.size : Int)) = false := by simpa using hlt'
      clear HB HI
      go_wp2_with fail
      go_quiet (fail)
      have h2 := h1.drewN hY nq
      generalize wr.drewN nq = wq at *
      obtain ⟨c0, c2, f2⟩ := h2.facts
      go_wp2_with fail
      have hff := fails_lj hn hY j op h2 (j : Int) rfl
      have hfr : failR s j op = .er 190 op := by rw [failR, if_pos (by omega)]
      rw [hfr] at hff
      have HFF := Lib.hid hff
      clear hff hfr
      refine HFF.out.mono ?_
      rintro e' W5 ⟨rfl, hp⟩
      go_wp2_with fail
      go_ret
      refine ⟨by rw [HF.out]; rfl, ?_⟩
      rw [HF.out]
      exact hp
end
end Go.Proofs.YtcpglgoiienhkaaGreatDoor
namespace Go.Proofs.YtcpglgoiienhkaaGreatDoor
open Go.RowKit P Ext
def R.cnt (i : Nat) : R → Prop
  | .ok j ts _ => i + ts.length ≤ j
  | .er .. => True
theorem R.cnt_pre {i : Nat} {ts : List Tk} {al : List Nat} {r : R} (h : r.cnt (i + ts.length)) : (R.pre ts al r).cnt i := by
  cases r with
  | ok j a b => simp only [R.cnt, R.pre, List.length_append] at *; omega
  | er e a => trivial
theorem R.cnt_le {i i' : Nat} {r : R} (h : r.cnt i) (hi : i' ≤ i) : r.cnt i' := by
  cases r with
  | ok j a b => simp only [R.cnt] at *; omega
  | er e a => trivial
theorem R.cnt_next {i : Nat} {r r2 : R} {f : Nat → Option R} (h : r.cnt i) (hf : ∀ j r', f j = some r' → r'.cnt j) (h2 : r.next f = some r2) : r2.cnt i := by
  cases r with
  | er e a => simp only [R.next, Option.some.injEq] at h2; subst h2; trivial
  | ok j ts al =>
    simp only [R.next, Option.map_eq_some_iff] at h2
    obtain ⟨r', h3, rfl⟩ := h2
    exact R.cnt_pre (R.cnt_le (hf j r' h3) h)
theorem failR_cnt (s : ByteArray) (pl : Nat) (op : Int) (i : Nat) : (failR s pl op).cnt i := by unfold failR; split <;> trivial
theorem blanks_ge (s : ByteArray) (i : Nat) : i ≤ blanks s i := by
  by_cases h : i ≤ s.size
  · exact (blanks_bd s i h).1
  · rw [blanks, dif_neg (by omega)]; omega
theorem wordEnd_ge (s : ByteArray) (i : Nat) : i ≤ wordEnd s i := by
  by_cases h : i ≤ s.size
  · exact (wordEnd_bd s i h).1
  · rw [wordEnd, dif_neg (by omega)]; omega
theorem numEnd_ge (s : ByteArray) (i : Nat) : i ≤ numEnd s i := by
  by_cases h : i ≤ s.size
  · exact (numEnd_bd s i h).1
  · rw [numEnd, dif_neg (by omega)]; omega
theorem letEnd_ge (s : ByteArray) (i : Nat) : i ≤ letEnd s i := by
  by_cases h : i ≤ s.size
  · exact (letEnd_bd s i h).1
  · rw [letEnd, dif_neg (by omega)]; omega
theorem extract_pos (s : ByteArray) (a b : Nat) (h : (s.extract a b).size ≠ 0) : a < b := by
  simp only [ByteArray.size_extract] at h; omega
theorem mustR_cnt (s : ByteArray) (c : Nat) (kind op : Int) (i : Nat) : (mustR s c kind op i).cnt i := by
  have := blanks_ge s i
  unfold mustR
  split
  · simp only [R.cnt, List.length_singleton]; omega
  · exact failR_cnt _ _ _ _
theorem offsetR_cnt (s : ByteArray) (op : Int) (i : Nat) : (offsetR s op i).cnt i := by
  have h1 := blanks_ge s i
  have h2 := blanks_ge s (blanks s i + 7)
  have h3 := numEnd_ge s (blanks s (blanks s i + 7))
  unfold offsetR
  split
  · split
    · simp only [R.cnt, List.length_singleton]; omega
    · exact failR_cnt _ _ _ _
  · simp only [R.cnt, List.length_nil]; omega
theorem keyR_cnt (s : ByteArray) (b : Bool) (op : Int) (i : Nat) : (keyR s b op i).cnt i := by
  have h1 := numEnd_ge s (i + 1)
  unfold keyR
  split
  · split
    · simp only [R.cnt, List.length_singleton]; omega
    · exact failR_cnt _ _ _ _
  · split
    · exact failR_cnt _ _ _ _
    · rename_i h
      have := extract_pos s i (wordEnd s i) (fun h0 => h (.inl h0))
      simp only [R.cnt, List.length_singleton]; omega
theorem styleGo_cnt (s : ByteArray) (op : Int) (fr : Nat) (i o : Nat) (hi : fr ≤ i) : (styleGo s op fr i o).cnt fr := by
  induction i, o using styleGo.induct s fr with
  | case1 i o h h1 h2 => rw [styleGo, dif_pos h, if_pos h1, if_pos h2]; trivial
  | case2 i o h h1 h2 ih => rw [styleGo, dif_pos h, if_pos h1, if_neg h2]; exact ih (by omega)
  | case3 i o h h1 h2 ih => rw [styleGo, dif_pos h, if_neg h1, if_pos h2]; exact ih (by omega)
  | case4 i o h h1 h2 h3 h4 h5 => rw [styleGo, dif_pos h, if_neg h1, if_neg h2, if_pos h3, if_pos h4, if_pos h5]; exact failR_cnt _ _ _ _
  | case5 i o h h1 h2 h3 h4 h5 =>
    rw [styleGo, dif_pos h, if_neg h1, if_neg h2, if_pos h3, if_pos h4, if_neg h5]
    have := trimP_pos s fr i h5
    exact R.cnt_pre (R.cnt_le (mustR_cnt _ _ _ _ _) (by simp only [List.length_singleton]; omega))
  | case6 i o h h1 h2 h3 h4 ih => rw [styleGo, dif_pos h, if_neg h1, if_neg h2, if_pos h3, if_neg h4]; exact ih (by omega)
  | case7 i o h h1 h2 h3 ih => rw [styleGo, dif_pos h, if_neg h1, if_neg h2, if_neg h3]; exact ih (by omega)
  | case8 i o h => rw [styleGo, dif_neg h]; trivial
theorem styleR_cnt (s : ByteArray) (op : Int) (i : Nat) : (styleR s op i).cnt i := R.cnt_le (styleGo_cnt s op _ _ 1 (Nat.le_refl _)) (blanks_ge s i)
def limR (s : ByteArray) (op : Int) (j : Nat) : R :=
  if at1 s (blanks s (numEnd s j)) 35 then R.ok (blanks s (numEnd s j) + 1) [(11, numAt s j ++ ⟨#[35]⟩, (j : Int))] []
  else if at1 s (blanks s (numEnd s j)) 60 then R.ok (blanks s (numEnd s j) + 1) [(11, numAt s j ++ ⟨#[60]⟩, (j : Int))] []
  else if hereB s (blanks s (numEnd s j)) [226, 137, 164] then R.ok (blanks s (numEnd s j) + 3) [(11, numAt s j ++ ⟨#[35]⟩, (j : Int))] []
  else failR s (blanks s (numEnd s j)) op
theorem limR_cnt (s : ByteArray) (op : Int) (i : Nat) : (limR s op i).cnt i := by
  have h1 := numEnd_ge s i
  have h2 := blanks_ge s (numEnd s i)
  unfold limR
  repeat' split
  all_goals first | exact failR_cnt _ _ _ _ | (simp only [R.cnt, List.length_singleton]; omega)
theorem textE_cnt (s : ByteArray) (m sort : Int) (outer : Bool) (i : Nat) : i + (tokL (textE s m sort outer i).1 i).length ≤ (textE s m sort outer i).2.1 := by
  have hlen : (tokL (textE s m sort outer i).1 i).length ≤ 1 := by unfold tokL; split <;> simp
  rw [textE] at hlen ⊢
  split at hlen
  · rename_i h
    rw [dif_pos h]
    split at hlen
    · rename_i h1
      rw [if_pos h1]
      have := aposE_gt s m sort i
      have h3 : (aposE s m sort i).2.1 ≤ (textE s m sort outer (aposE s m sort i).2.1).2.1 := by
        by_cases hh : (aposE s m sort i).2.1 ≤ s.size
        · exact (textE_bd s m sort outer _ hh).1
        · rw [textE, dif_neg (by omega)]; exact Nat.le_refl _
      simp only at hlen ⊢
      omega
    · rename_i h1
      rw [if_neg h1]
      split at hlen
      · rename_i h2
        rw [if_pos h2]
        simp [tokL]
      · rename_i h2
        rw [if_neg h2]
        have h3 := (textE_bd s m sort outer (i + 1) (by omega)).1
        simp only at hlen ⊢
        omega
  · rename_i h
    rw [dif_neg h]
    simp [tokL]
structure Counts (s : ByteArray) (m : Int) (k : Nat) : Prop where
  msg : ∀ sort op i r, msgF s m k sort op i = some r → r.cnt i
  arg : ∀ i r, argF s m k i = some r → r.cnt i
  typ : ∀ w op i r, typedF s m k w op i = some r → r.cnt i
  cas : ∀ b op i r, casesF s m k b op i = some r → r.cnt i
  cho : ∀ op i r, choiceF s m k op i = some r → r.cnt i
theorem counts (s : ByteArray) (m : Int) : ∀ k, Counts s m k := by
  intro k
  induction k with
  | zero => exact ⟨fun a b c r h => by simp [msgF] at h, fun a r h => by simp [argF] at h, fun a b c r h => by simp [typedF] at h, fun a b c r h => by simp [casesF] at h, fun a b r h => by simp [choiceF] at h⟩
  | succ k ih =>
    refine ⟨?_, ?_, ?_, ?_, ?_⟩
    · intro sort op i r h
      have hb := textE_cnt s m sort (decide (op < 0)) i
      rw [msgF] at h
      generalize textE s m sort (decide (op < 0)) i = te at *
      obtain ⟨t1, p, a1⟩ := te
      simp only at hb h
      split at h
      · have h := Option.some.inj h
        subst h
        split
        · exact hb
        · exact failR_cnt _ _ _ _
      · split at h
        · rw [Option.bind_eq_some_iff] at h
          obtain ⟨ra, h1, h2⟩ := h
          rw [Option.map_eq_some_iff] at h2
          obtain ⟨rb, h3, rfl⟩ := h2
          exact R.cnt_pre (R.cnt_le (R.cnt_next (ih.arg _ _ h1) (fun j r' h => ih.msg _ _ _ _ h) h3) hb)
        · split at h
          · rw [Option.map_eq_some_iff] at h
            obtain ⟨rb, h3, rfl⟩ := h
            exact R.cnt_pre (R.cnt_le (ih.msg _ _ _ _ h3) (by simp only [List.length_append, List.length_singleton]; omega))
          · have h := Option.some.inj h
            subst h
            exact hb
    · intro i r h
      rw [argF] at h
      have h1 := blanks_ge s (i + 1)
      have h2 := wordEnd_ge s (blanks s (i + 1))
      have h3 := blanks_ge s (wordEnd s (blanks s (i + 1)))
      split at h
      · have h := Option.some.inj h
        subst h
        exact failR_cnt _ _ _ _
      · rename_i hid
        have hw : blanks s (i + 1) < wordEnd s (blanks s (i + 1)) := extract_pos s _ _ (fun h0 => hid (by
          show identP (s.extract _ _) = 0
          rw [identP, if_pos (.inl h0)]))
        rw [Option.map_eq_some_iff] at h
        obtain ⟨rb, h4, rfl⟩ := h
        refine R.cnt_pre (R.cnt_le (i := blanks s (wordEnd s (blanks s (i + 1)))) ?_ (by simp only [List.length_cons, List.length_nil]; omega))
        split at h4
        · have h4 := Option.some.inj h4
          subst h4
          exact mustR_cnt _ _ _ _ _
        · refine R.cnt_next (mustR_cnt _ _ _ _ _) (fun j r' h => ?_) h4
          have h5 := blanks_ge s j
          have h6 := letEnd_ge s (blanks s j)
          split at h
          · have h := Option.some.inj h
            subst h
            exact failR_cnt _ _ _ _
          · rw [Option.map_eq_some_iff] at h
            obtain ⟨rc, h7, rfl⟩ := h
            exact R.cnt_pre (R.cnt_le (ih.typ _ _ _ _ h7) (by simp only [List.length_singleton]; omega))
    · intro w op i r h
      rw [typedF] at h
      have h1 := blanks_ge s i
      refine R.cnt_le (i := blanks s i) ?_ h1
      split at h
      · exact R.cnt_next (mustR_cnt _ _ _ _ _) (fun j r' h => R.cnt_next (offsetR_cnt _ _ _) (fun j r' h => ih.cas _ _ _ _ h) h) h
      · split at h
        · exact R.cnt_next (mustR_cnt _ _ _ _ _) (fun j r' h => ih.cas _ _ _ _ h) h
        · split at h
          · exact R.cnt_next (mustR_cnt _ _ _ _ _) (fun j r' h => ih.cho _ _ _ h) h
          · split at h
            · have h := Option.some.inj h
              subst h
              exact mustR_cnt _ _ _ _ _
            · exact R.cnt_next (mustR_cnt _ _ _ _ _) (fun j r' h => by have h := Option.some.inj h; subst h; exact styleR_cnt _ _ _) h
    · intro b op i r h
      rw [casesF] at h
      have h1 := blanks_ge s i
      refine R.cnt_le (i := blanks s i) ?_ h1
      split at h
      · have h := Option.some.inj h
        subst h
        exact mustR_cnt _ _ _ _ _
      · split at h
        · have h := Option.some.inj h
          subst h
          exact failR_cnt _ _ _ _
        · refine R.cnt_next (keyR_cnt _ _ _ _) (fun j r' h => ?_) h
          refine R.cnt_le (i := blanks s j) ?_ (blanks_ge s j)
          refine R.cnt_next (mustR_cnt _ _ _ _ _) (fun j r' h => ?_) h
          rw [Option.bind_eq_some_iff] at h
          obtain ⟨ra, h2, h3⟩ := h
          exact R.cnt_next (ih.msg _ _ _ _ h2) (fun j r' h => R.cnt_next (mustR_cnt _ _ _ _ _) (fun j r' h => ih.cas _ _ _ _ h) h) h3
    · intro op i r h
      rw [choiceF] at h
      have h1 := blanks_ge s i
      refine R.cnt_le (i := blanks s i) ?_ h1
      have hl := limR_cnt s op (blanks s i)
      rw [limR] at hl
      split at h
      · refine R.cnt_next hl (fun j r' h => ?_) h
        rw [Option.bind_eq_some_iff] at h
        obtain ⟨ra, h2, h3⟩ := h
        refine R.cnt_next (ih.msg _ _ _ _ h2) (fun j r' h => ?_) h3
        split at h
        · have h := Option.some.inj h
          subst h
          exact mustR_cnt _ _ _ _ _
        · rw [Option.map_eq_some_iff] at h
          obtain ⟨rb, h3, rfl⟩ := h
          exact R.cnt_pre (ih.cho _ _ _ h3)
      · have h := Option.some.inj h
        subst h
        exact failR_cnt _ _ _ _
end Go.Proofs.YtcpglgoiienhkaaGreatDoor
namespace Go.Proofs.YtcpglgoiienhkaaGreatDoor
open Go.RowKit P Ext
theorem R.pre_nil (r : R) : R.pre [] [] r = r := by cases r <;> rfl
theorem R.pre_pre (a c : List Tk) (b d : List Nat) (r : R) : R.pre a b (R.pre c d r) = R.pre (a ++ c) (b ++ d) r := by cases r <;> simp [R.pre]
theorem R.next_ok {i : Nat} {ts : List Tk} {al : List Nat} {f : Nat → Option R} {r : R} (h : (R.ok i ts al).next f = some r) : ∃ r', f i = some r' ∧ r = R.pre ts al r' := by
  simp only [R.next, Option.map_eq_some_iff] at h
  obtain ⟨r', h1, h2⟩ := h
  exact ⟨r', h1, h2.symm⟩
theorem StR.fail_any {n0 X : Nat} {s : ByteArray} {m : Int} {l : Nat} {J : List Tk → World → Prop} {A : World} {ts ts' : List Tk} {al al' : List Nat} {pl : Nat} {op : Int} {W : World}
    (h : StR n0 X s m l J A ts al (failR s pl op) W) : StR n0 X s m l J A ts' al' (failR s pl op) W := by
  revert h
  unfold failR
  split <;> exact id
section
variable (n0 X : Nat) (s : ByteArray) (m : Int) (l : Nat) (J : List Tk → World → Prop) (A : World)
def MsgC (k : Nat) : Prop := ∀ (sort op : Int) (i : Nat) (ts : List Tk) (al : List Nat) (W : World) (r : R), msgF s m k sort op i = some r → LJ n0 X s m i 0 0 al l J ts A W → i ≤ s.size → ts.length ≤ i →
  Calls Tryz.prog 86 #[.pointer (some ⟨X, 0, none⟩), .int .i64 sort, .int .i64 op] W (PostR n0 X s m l J A ts al r)
def ArgC (k : Nat) : Prop := ∀ (i : Nat) (ts : List Tk) (al : List Nat) (W : World) (r : R), argF s m k i = some r → LJ n0 X s m i 0 0 al l J ts A W → i < s.size → ts.length ≤ i →
  Calls Tryz.prog 105 #[.pointer (some ⟨X, 0, none⟩)] W (PostR n0 X s m l J A ts al r)
def TypC (k : Nat) : Prop := ∀ (w : ByteArray) (op : Int) (i : Nat) (ts : List Tk) (al : List Nat) (W : World) (r : R), typedF s m k w op i = some r → 0 ≤ op → LJ n0 X s m i 0 0 al l J ts A W → i ≤ s.size → ts.length ≤ i →
  Calls Tryz.prog 144 #[.pointer (some ⟨X, 0, none⟩), .string w, .int .i64 op] W (PostR n0 X s m l J A ts al r)
def CasC (k : Nat) : Prop := ∀ (numbers : Bool) (op : Int) (i : Nat) (ts : List Tk) (al : List Nat) (W : World) (r : R), casesF s m k numbers op i = some r → LJ n0 X s m i 0 0 al l J ts A W → i ≤ s.size → ts.length ≤ i →
  Calls Tryz.prog 163 #[.pointer (some ⟨X, 0, none⟩), .bool numbers, .int .i64 op] W (PostR n0 X s m l J A ts al r)
def ChoC (k : Nat) : Prop := ∀ (op : Int) (i : Nat) (ts : List Tk) (al : List Nat) (W : World) (r : R), choiceF s m k op i = some r → 0 ≤ op → LJ n0 X s m i 0 0 al l J ts A W → i ≤ s.size → ts.length ≤ i →
  Calls Tryz.prog 164 #[.pointer (some ⟨X, 0, none⟩), .int .i64 op] W (PostR n0 X s m l J A ts al r)
end
section
variable {n0 X : Nat} {s : ByteArray} {m : Int} {l : Nat} {J : List Tk → World → Prop} {A : World}
set_option maxHeartbeats 8000000 in
theorem msg_step (hn : 8 ≤ n0) (hY : Yld n0 X l J) (k : Nat) (hA : ∀ j, j ≤ k → ArgC n0 X s m l J A j) : MsgC n0 X s m l J A (k + 1) := by
  intro sort op i ts al W r hm h hi hl
  have hz : s.size ≤ 65536 := h.lx.sz
  have HM0 := Lib.hid hm
  have HA := Lib.hid hA
  clear hm hA
  go_enter Tryz.func86, Tryz.ntmps86
  go_wp2
  go_loopg [7] (k + 1) (fun g _ wr => ∃ (i2 : Nat) (ts2 : List Tk) (al2 : List Nat) (r2 : R), g ≤ k + 1 ∧ Hid (msgF s m g sort op i2 = some r2) ∧ Hid (r = R.pre ts2 al2 r2) ∧ i2 ≤ s.size ∧ ts.length + ts2.length ≤ i2 ∧ LJ n0 X s m i2 0 0 (al ++ al2) l J (ts ++ ts2) A wr)
  case atStart => exact ⟨i, [], [], r, Nat.le_refl _, HM0, Lib.hid (R.pre_nil r).symm, hi, by simpa using hl, by simpa using h⟩
  case round =>
    obtain ⟨i2, ts2, al2, r2, hgk, HM, HR, hi2, hl2, h1⟩ := hrel
    cases gk with
    | zero => exact absurd HM.out (by simp [msgF])
    | succ g =>
      have HM2 := HM.out
      clear HM
      have htb := textE_bd s m sort (decide (op < 0)) i2 hi2
      rw [msgF] at HM2
      have HMM := Lib.hid HM2
      clear HM2
      have htc := textE_cnt s m sort (decide (op < 0)) i2
      have HT := Lib.hid (text_any sort (decide (op < 0)) hn hY h1 hi2 (by simp only [List.length_append]; omega))
      generalize textE s m sort (decide (op < 0)) i2 = te at *
      obtain ⟨t1, j, a1⟩ := te
      simp only at htb htc HMM HT
      go_wp2_with fail
      refine HT.out.mono ?_
      rintro e' W1 ⟨rfl, h2⟩
      obtain ⟨c0, c2, f2⟩ := h2.facts
      have hjs : (j : Int) ≤ s.size := by omega
      by_cases hj : j = s.size
      · have e1 : ((j : Int) == (s.size : Int)) = true := by simp; omega
        have HR2 := Lib.hid ((Option.some.inj ((if_pos hj).symm.trans HMM.out)).symm)
        clear HMM hj
        go_wp2_with fail
        go_quiet (fail)
        have h3 := h2.drewN hY nq
        generalize W1.drewN nq = wq at *
        obtain ⟨c0, c2, f2⟩ := h3.facts
        by_cases hop : op < 0
        · have HF : Hid (r = .ok j (ts2 ++ tokL t1 i2) (al2 ++ a1)) := Lib.hid (by rw [HR.out, HR2.out, if_pos hop]; rfl)
          clear HR2 HR
          go_wp2_with fail
          go_ret
          refine ⟨by rw [HF.out]; rfl, ?_⟩
          rw [HF.out]
          exact ⟨by simpa using h3, by omega⟩
        · have HF : Hid (r = failR s j op) := Lib.hid (by rw [HR.out, HR2.out, if_neg hop]; unfold failR; split <;> rfl)
          clear HR2 HR
          go_wp2_with fail
          refine (fails_lj hn hY j op h3 (j : Int) rfl).mono ?_
          rintro e' W5 ⟨rfl, hp⟩
          go_wp2_with fail
          go_ret
          refine ⟨by rw [HF.out, failR_good]; rfl, ?_⟩
          rw [HF.out]
          exact StR.fail_any hp
      · have e1 : ((j : Int) == (s.size : Int)) = false := by simp; omega
        have hjl : j < s.size := by omega
        have HM3 := Lib.hid ((if_neg hj).symm.trans HMM.out)
        clear HMM hj
        have HC8 := Lib.hid (b8_at s j hjl)
        have hjl' : (j : Int) < s.size := by omega
        go_wp2_with fail
        go_quiet (fail)
        have h3 := h2.drewN hY nq
        generalize W1.drewN nq = wq at *
        obtain ⟨c0, c2, f2⟩ := h3.facts
        by_cases h123 : (s[j]'hjl).toNat = 123
        · have e2 : (((s[j]'hjl).toNat : Int) == 123) = true := by simp; omega
          have HM4 := (if_pos (HC8.out.trans h123)).symm.trans HM3.out
          rw [Option.bind_eq_some_iff] at HM4
          obtain ⟨ra, hra, hrn⟩ := HM4
          rw [Option.map_eq_some_iff] at hrn
          obtain ⟨rb, hrb, hrc⟩ := hrn
          have HAR := Lib.hid (HA.out g (by omega) j (ts ++ ts2 ++ tokL t1 i2) (al ++ al2 ++ a1) · ra hra · hjl (by simp only [List.length_append]; omega))
          have hca := (counts s m g).arg _ _ hra
          have HRC := Lib.hid hrc
          have HRB := Lib.hid hrb
          clear h123 HM3 hrb hrc hra
          go_wp2_with fail
          go_quiet (fail)
          have h4 := h3.drewN hY nq
          generalize wq.drewN nq = wk at *
          obtain ⟨c0, c2, f2⟩ := h4.facts
          go_wp2_with fail
          refine (HAR.out _ (by simpa using h4)).mono ?_
          cases ra with
          | er e a =>
            rintro e' W5 ⟨rfl, hp⟩
            have HF : Hid (r = .er e a) := Lib.hid (by
              have := HRB.out
              simp only [R.next, Option.some.injEq] at this
              rw [HR.out, ← HRC.out, ← this]; rfl)
            clear HRB HRC HR
            go_wp2_with fail
            go_ret
            refine ⟨by rw [HF.out]; rfl, ?_⟩
            rw [HF.out]
            exact hp
          | ok i3 ts3 al3 =>
            rintro e' W5 ⟨rfl, hp, hi3⟩
            obtain ⟨r3, hr3, hr4⟩ := R.next_ok HRB.out
            have HF : Hid (r = R.pre (ts2 ++ tokL t1 i2 ++ ts3) (al2 ++ a1 ++ al3) r3) := Lib.hid (by rw [HR.out, ← HRC.out, hr4, R.pre_pre, R.pre_pre])
            have HG := Lib.hid hr3
            clear HRB HRC HR hr3 hr4
            go_wp2_with fail
            go_roundg g
            case measure => omega
            case rel => exact ⟨i3, _, _, r3, by omega, HG, HF, hi3, by simp only [R.cnt] at hca; simp only [List.length_append]; omega, by simpa using hp⟩
        · have e2 : (((s[j]'hjl).toNat : Int) == 123) = false := by simp; omega
          have HM4 := Lib.hid ((if_neg (by rw [HC8.out]; exact h123)).symm.trans HM3.out)
          clear HM3
          go_wp2_with fail
          go_quiet (fail)
          have h4 := h3.drewN hY nq
          generalize wq.drewN nq = wk at *
          obtain ⟨c0, c2, f2⟩ := h4.facts
          by_cases h35 : (s[j]'hjl).toNat = 35
          · have e3 : (((s[j]'hjl).toNat : Int) == 35) = true := by simp; omega
            have HM5 := (if_pos (HC8.out.trans h35)).symm.trans HM4.out
            rw [Option.map_eq_some_iff] at HM5
            obtain ⟨rb, hrb, hrc⟩ := HM5
            have HRC := Lib.hid hrc
            have HRB := Lib.hid hrb
            clear h123 h35 HM4 hrb hrc
            go_wp2_with fail
            go_quiet (fail)
            have h5 := h4.drewN hY nq
            generalize wk.drewN nq = wl at *
            obtain ⟨c0, c2, f2⟩ := h5.facts
            go_wp2_with fail
            refine (put_any hn hY _ _ _ h5 (by simp only [List.length_append]; omega)).mono ?_
            rintro e' W5 ⟨rfl, h6⟩
            obtain ⟨p0, p2, pf⟩ := h6.facts
            have h7 := h6.setv hY hn (v := (j : Int) + 1) (j + 1) (by omega) (by omega)
            have HF : Hid (r = R.pre (ts2 ++ tokL t1 i2 ++ [(2, ⟨#[]⟩, (j : Int))]) (al2 ++ a1) rb) := Lib.hid (by rw [HR.out, ← HRC.out, R.pre_pre]; simp only [List.append_assoc])
            clear HR HRC
            go_wp2_with fail
            go_roundg g
            case measure => omega
            case rel => exact ⟨j + 1, _, _, rb, by omega, HRB, HF, by omega, by simp only [List.length_append, List.length_singleton]; omega, by simpa using h7⟩
          · have e3 : (((s[j]'hjl).toNat : Int) == 35) = false := by simp; omega
            have HM5 := Option.some.inj ((if_neg (by rw [HC8.out]; exact h35)).symm.trans HM4.out)
            have HF : Hid (r = .ok j (ts2 ++ tokL t1 i2) (al2 ++ a1)) := Lib.hid (by rw [HR.out, ← HM5]; rfl)
            clear h123 h35 HM4 HM5 HR
            go_wp2_with fail
            go_quiet (fail)
            have h5 := h4.drewN hY nq
            generalize wk.drewN nq = wl at *
            obtain ⟨c0, c2, f2⟩ := h5.facts
            go_wp2_with fail
            go_ret
            refine ⟨by rw [HF.out]; rfl, ?_⟩
            rw [HF.out]
            exact ⟨by simpa using h5, by omega⟩
end
end Go.Proofs.YtcpglgoiienhkaaGreatDoor
namespace Go.Proofs.YtcpglgoiienhkaaGreatDoor
open Go.RowKit P Ext
theorem R.next_er {e a : Int} {f : Nat → Option R} {r : R} (h : (R.er e a).next f = some r) : r = .er e a := by
  simp only [R.next, Option.some.injEq] at h; exact h.symm
section
variable {n0 X : Nat} {s : ByteArray} {m : Int} {l : Nat} {J : List Tk → World → Prop} {A : World}
set_option maxHeartbeats 8000000 in
theorem typ_step (hn : 8 ≤ n0) (hY : Yld n0 X l J) (k : Nat) (hC : ∀ j, j ≤ k → CasC n0 X s m l J A j) (hH : ∀ j, j ≤ k → ChoC n0 X s m l J A j) : TypC n0 X s m l J A (k + 1) := by
  intro w op i ts al W r hm hop h hi hl
  have hz : s.size ≤ 65536 := h.lx.sz
  have hbd := blanks_bd s i hi
  rw [typedF] at hm
  have HM := Lib.hid hm
  have HC := Lib.hid hC
  have HH := Lib.hid hH
  clear hm hC hH
  have hwl : w.toList = w.data.toList := ByteArray.toList_eq _
  go_enter Tryz.func144, Tryz.ntmps144
  go_wp2_with fail
  refine (blanks_lj hn hY h hi).mono ?_
  rintro e' W1 ⟨rfl, h1⟩
  generalize blanks s i = j at *
  obtain ⟨hij, hjs⟩ := hbd
  have hlj : ts.length ≤ j := by omega
  by_cases hp1 : w.data.toList = wPlural
  · have e1 : (w.toList == [112, 108, 117, 114, 97, 108]) = true := by rw [hwl, hp1]; rfl
    have HM2 := (if_pos (.inl hp1)).symm.trans HM.out
    clear HM hwl hp1
    have hmu := must_any 44 6 op hn hY h1 hjs hlj
    have HMU := Lib.hid hmu
    clear hmu
    have hq0 : mustR s 44 6 op j = mustR s (44 : UInt8).toNat 6 op j := rfl
    rw [hq0] at HM2
    clear hq0
    have hcq := mustR_cnt s (44 : UInt8).toNat 6 op j
    generalize mustR s (44 : UInt8).toNat 6 op j = q at *
    cases q with
    | er e a =>
      have HF : Hid (r = .er e a) := Lib.hid (R.next_er HM2)
      clear HM2
      go_wp2_with fail
      refine HMU.out.mono ?_
      rintro e' W2 ⟨rfl, hp⟩
      (go_wp2_with fail; go_ret; refine ⟨by rw [HF.out]; rfl, ?_⟩; rw [HF.out]; exact hp)
    | ok j2 ts2 al2 =>
      simp only [R.cnt] at hcq
      obtain ⟨r2, hr2, hrr⟩ := R.next_ok HM2
      have HR2 := Lib.hid hr2
      have HRR := Lib.hid hrr
      clear HM2 hr2 hrr
      go_wp2_with fail
      refine HMU.out.mono ?_
      rintro e' W2 ⟨rfl, h2, hj2⟩
      have HOF := Lib.hid (offset_any op hn hY h2 hj2 (by simp only [List.length_append]; omega))
      have hco := offsetR_cnt s op j2
      have HR3 := HR2.out
      clear HR2
      generalize offsetR s op j2 = q at *
      cases q with
      | er e a =>
        have HF : Hid (r = .er e a) := Lib.hid (by rw [HRR.out, R.next_er HR3]; rfl)
        clear HR3 HRR
        go_wp2_with fail
        refine HOF.out.mono ?_
        rintro e' W3 ⟨rfl, hp⟩
        (go_wp2_with fail; go_ret; refine ⟨by rw [HF.out]; rfl, ?_⟩; rw [HF.out]; exact hp)
      | ok j3 ts3 al3 =>
        simp only [R.cnt] at hco
        obtain ⟨r3, hr3, hrr⟩ := R.next_ok HR3
        have HF : Hid (r = R.pre (ts2 ++ ts3) (al2 ++ al3) r3) := Lib.hid (by rw [HRR.out, hrr, R.pre_pre])
        have HCC := Lib.hid (HC.out k (Nat.le_refl _) true op j3 (ts ++ ts2 ++ ts3) (al ++ al2 ++ al3) · r3 hr3 · · (by simp only [List.length_append]; omega))
        clear HR3 HRR hr3 hrr
        go_wp2_with fail
        refine HOF.out.mono ?_
        rintro e' W3 ⟨rfl, h3, hj3⟩
        go_wp2_with fail
        refine (HCC.out _ h3 hj3).mono ?_
        rintro e' W4 ⟨rfl, hp⟩
        rw [List.append_assoc, List.append_assoc] at hp
        (go_wp2_with fail; go_ret; refine ⟨by rw [HF.out, R.pre_good]; rfl, ?_⟩; rw [HF.out]; exact StR.pre hp)

  · have e1 : (w.toList == [112, 108, 117, 114, 97, 108]) = false := by rw [hwl]; exact beq_eq_false_iff_ne.2 hp1
    by_cases hp2 : w.data.toList = wOrdinal
    · have e2 : (w.toList == [115, 101, 108, 101, 99, 116, 111, 114, 100, 105, 110, 97, 108]) = true := by rw [hwl, hp2]; rfl
      have HM2 := (if_pos (.inr hp2)).symm.trans HM.out
      clear HM hwl hp1 hp2
      have hmu := must_any 44 6 op hn hY h1 hjs hlj
      have HMU := Lib.hid hmu
      clear hmu
      have hq0 : mustR s 44 6 op j = mustR s (44 : UInt8).toNat 6 op j := rfl
      rw [hq0] at HM2
      clear hq0
      have hcq := mustR_cnt s (44 : UInt8).toNat 6 op j
      generalize mustR s (44 : UInt8).toNat 6 op j = q at *
      cases q with
      | er e a =>
        have HF : Hid (r = .er e a) := Lib.hid (R.next_er HM2)
        clear HM2
        go_wp2_with fail
        refine HMU.out.mono ?_
        rintro e' W2 ⟨rfl, hp⟩
        (go_wp2_with fail; go_ret; refine ⟨by rw [HF.out]; rfl, ?_⟩; rw [HF.out]; exact hp)
      | ok j2 ts2 al2 =>
        simp only [R.cnt] at hcq
        obtain ⟨r2, hr2, hrr⟩ := R.next_ok HM2
        have HR2 := Lib.hid hr2
        have HRR := Lib.hid hrr
        clear HM2 hr2 hrr
        go_wp2_with fail
        refine HMU.out.mono ?_
        rintro e' W2 ⟨rfl, h2, hj2⟩
        have HOF := Lib.hid (offset_any op hn hY h2 hj2 (by simp only [List.length_append]; omega))
        have hco := offsetR_cnt s op j2
        have HR3 := HR2.out
        clear HR2
        generalize offsetR s op j2 = q at *
        cases q with
        | er e a =>
          have HF : Hid (r = .er e a) := Lib.hid (by rw [HRR.out, R.next_er HR3]; rfl)
          clear HR3 HRR
          go_wp2_with fail
          refine HOF.out.mono ?_
          rintro e' W3 ⟨rfl, hp⟩
          (go_wp2_with fail; go_ret; refine ⟨by rw [HF.out]; rfl, ?_⟩; rw [HF.out]; exact hp)
        | ok j3 ts3 al3 =>
          simp only [R.cnt] at hco
          obtain ⟨r3, hr3, hrr⟩ := R.next_ok HR3
          have HF : Hid (r = R.pre (ts2 ++ ts3) (al2 ++ al3) r3) := Lib.hid (by rw [HRR.out, hrr, R.pre_pre])
          have HCC := Lib.hid (HC.out k (Nat.le_refl _) true op j3 (ts ++ ts2 ++ ts3) (al ++ al2 ++ al3) · r3 hr3 · · (by simp only [List.length_append]; omega))
          clear HR3 HRR hr3 hrr
          go_wp2_with fail
          refine HOF.out.mono ?_
          rintro e' W3 ⟨rfl, h3, hj3⟩
          go_wp2_with fail
          refine (HCC.out _ h3 hj3).mono ?_
          rintro e' W4 ⟨rfl, hp⟩
          rw [List.append_assoc, List.append_assoc] at hp
          (go_wp2_with fail; go_ret; refine ⟨by rw [HF.out, R.pre_good]; rfl, ?_⟩; rw [HF.out]; exact StR.pre hp)

    · have e2 : (w.toList == [115, 101, 108, 101, 99, 116, 111, 114, 100, 105, 110, 97, 108]) = false := by rw [hwl]; exact beq_eq_false_iff_ne.2 hp2
      have HM3 := Lib.hid ((if_neg (not_or.2 ⟨hp1, hp2⟩)).symm.trans HM.out)
      clear HM hp1 hp2
      by_cases hp3 : w.data.toList = wSelect
      · have e3 : (w.toList == [115, 101, 108, 101, 99, 116]) = true := by rw [hwl, hp3]; rfl
        have HM2 := (if_pos hp3).symm.trans HM3.out
        clear HM3 hwl hp3
        have hmu := must_any 44 6 op hn hY h1 hjs hlj
        have HMU := Lib.hid hmu
        clear hmu
        have hq0 : mustR s 44 6 op j = mustR s (44 : UInt8).toNat 6 op j := rfl
        rw [hq0] at HM2
        clear hq0
        have hcq := mustR_cnt s (44 : UInt8).toNat 6 op j
        generalize mustR s (44 : UInt8).toNat 6 op j = q at *
        cases q with
        | er e a =>
          have HF : Hid (r = .er e a) := Lib.hid (R.next_er HM2)
          clear HM2
          go_wp2_with fail
          refine HMU.out.mono ?_
          rintro e' W2 ⟨rfl, hp⟩
          (go_wp2_with fail; go_ret; refine ⟨by rw [HF.out]; rfl, ?_⟩; rw [HF.out]; exact hp)
        | ok j2 ts2 al2 =>
          simp only [R.cnt] at hcq
          obtain ⟨r2, hr2, hrr⟩ := R.next_ok HM2
          have HR2 := Lib.hid hr2
          have HRR := Lib.hid hrr
          clear HM2 hr2 hrr
          go_wp2_with fail
          refine HMU.out.mono ?_
          rintro e' W2 ⟨rfl, h2, hj2⟩
          have HF : Hid (r = R.pre ts2 al2 r2) := HRR
          have HCC := Lib.hid (HC.out k (Nat.le_refl _) false op j2 (ts ++ ts2) (al ++ al2) · r2 HR2.out · · (by simp only [List.length_append]; omega))
          clear HR2
          go_wp2_with fail
          refine (HCC.out _ h2 hj2).mono ?_
          rintro e' W4 ⟨rfl, hp⟩
          (go_wp2_with fail; go_ret; refine ⟨by rw [HF.out, R.pre_good]; rfl, ?_⟩; rw [HF.out]; exact StR.pre hp)

      · have e3 : (w.toList == [115, 101, 108, 101, 99, 116]) = false := by rw [hwl]; exact beq_eq_false_iff_ne.2 hp3
        have HM4 := Lib.hid ((if_neg hp3).symm.trans HM3.out)
        clear HM3 hp3
        by_cases hp4 : w.data.toList = wChoice
        · have e4 : (w.toList == [99, 104, 111, 105, 99, 101]) = true := by rw [hwl, hp4]; rfl
          have HM2 := (if_pos hp4).symm.trans HM4.out
          clear HM4 hwl hp4
          have hmu := must_any 44 6 op hn hY h1 hjs hlj
          have HMU := Lib.hid hmu
          clear hmu
          have hq0 : mustR s 44 6 op j = mustR s (44 : UInt8).toNat 6 op j := rfl
          rw [hq0] at HM2
          clear hq0
          have hcq := mustR_cnt s (44 : UInt8).toNat 6 op j
          generalize mustR s (44 : UInt8).toNat 6 op j = q at *
          cases q with
          | er e a =>
            have HF : Hid (r = .er e a) := Lib.hid (R.next_er HM2)
            clear HM2
            go_wp2_with fail
            refine HMU.out.mono ?_
            rintro e' W2 ⟨rfl, hp⟩
            (go_wp2_with fail; go_ret; refine ⟨by rw [HF.out]; rfl, ?_⟩; rw [HF.out]; exact hp)
          | ok j2 ts2 al2 =>
            simp only [R.cnt] at hcq
            obtain ⟨r2, hr2, hrr⟩ := R.next_ok HM2
            have HR2 := Lib.hid hr2
            have HRR := Lib.hid hrr
            clear HM2 hr2 hrr
            go_wp2_with fail
            refine HMU.out.mono ?_
            rintro e' W2 ⟨rfl, h2, hj2⟩
            have HF : Hid (r = R.pre ts2 al2 r2) := HRR
            have HCC := Lib.hid (HH.out k (Nat.le_refl _) op j2 (ts ++ ts2) (al ++ al2) · r2 HR2.out hop · · (by simp only [List.length_append]; omega))
            clear HR2
            go_wp2_with fail
            refine (HCC.out _ h2 hj2).mono ?_
            rintro e' W4 ⟨rfl, hp⟩
            (go_wp2_with fail; go_ret; refine ⟨by rw [HF.out, R.pre_good]; rfl, ?_⟩; rw [HF.out]; exact StR.pre hp)

        · have e4 : (w.toList == [99, 104, 111, 105, 99, 101]) = false := by rw [hwl]; exact beq_eq_false_iff_ne.2 hp4
          have HM5 := Lib.hid ((if_neg hp4).symm.trans HM4.out)
          clear HM4 hp4 hwl
          have hhe := here1_lj hY 125 h1 hjs
          have HHE := Lib.hid hhe
          clear hhe
          have hat : at1 s j 125 = at1 s j (125 : UInt8).toNat := rfl
          rw [hat] at HM5
          clear hat
          cases hb : at1 s j (125 : UInt8).toNat with
          | true =>
            have HF : Hid (r = mustR s (125 : UInt8).toNat 4 op j) := Lib.hid (Option.some.inj ((if_pos hb).symm.trans HM5.out)).symm
            rw [hb] at HHE
            clear HM5 hb
            go_wp2_with fail
            refine HHE.out.mono ?_
            rintro e' W2 ⟨rfl, h2⟩
            go_wp2_with fail
            refine (must_any 125 4 op hn hY h2 hjs hlj).mono ?_
            rintro e' W3 ⟨rfl, hp⟩
            go_wp2_with fail
            go_ret
            refine ⟨by rw [HF.out]; rfl, ?_⟩
            rw [HF.out]
            exact hp
          | false =>
            have HM2 := (if_neg (by rw [hb]; decide)).symm.trans HM5.out
            rw [hb] at HHE
            clear HM5 hb
            go_wp2_with fail
            refine HHE.out.mono ?_
            rintro e' W2 ⟨rfl, h2⟩
            have h1 := h2
            clear h2
            have hmu := must_any 44 6 op hn hY h1 hjs hlj
            have HMU := Lib.hid hmu
            clear hmu
            have hq0 : mustR s 44 6 op j = mustR s (44 : UInt8).toNat 6 op j := rfl
            rw [hq0] at HM2
            clear hq0
            have hcq := mustR_cnt s (44 : UInt8).toNat 6 op j
            generalize mustR s (44 : UInt8).toNat 6 op j = q at *
            cases q with
            | er e a =>
              have HF : Hid (r = .er e a) := Lib.hid (R.next_er HM2)
              clear HM2
              go_wp2_with fail
              refine HMU.out.mono ?_
              rintro e' W2 ⟨rfl, hp⟩
              (go_wp2_with fail; go_ret; refine ⟨by rw [HF.out]; rfl, ?_⟩; rw [HF.out]; exact hp)
            | ok j2 ts2 al2 =>
              simp only [R.cnt] at hcq
              obtain ⟨r2, hr2, hrr⟩ := R.next_ok HM2
              have HR2 := Lib.hid hr2
              have HRR := Lib.hid hrr
              clear HM2 hr2 hrr
              go_wp2_with fail
              refine HMU.out.mono ?_
              rintro e' W2 ⟨rfl, h2, hj2⟩
              have HF : Hid (r = R.pre ts2 al2 (styleR s op j2)) := Lib.hid (by rw [HRR.out, Option.some.inj HR2.out])
              clear HR2 HRR
              go_wp2_with fail
              refine (style_any op hn hY h2 hj2 (by simp only [List.length_append]; omega)).mono ?_
              rintro e' W4 ⟨rfl, hp⟩
              (go_wp2_with fail; go_ret; refine ⟨by rw [HF.out, R.pre_good]; rfl, ?_⟩; rw [HF.out]; exact StR.pre hp)
end
end Go.Proofs.YtcpglgoiienhkaaGreatDoor
namespace Go.Proofs.YtcpglgoiienhkaaGreatDoor
open Go.RowKit P Ext
section
variable {n0 X : Nat} {s : ByteArray} {m : Int} {l : Nat} {J : List Tk → World → Prop} {A : World}
set_option maxHeartbeats 16000000 in
theorem cas_step (hn : 8 ≤ n0) (hY : Yld n0 X l J) (k : Nat) (hM : ∀ j, j ≤ k → MsgC n0 X s m l J A j) : CasC n0 X s m l J A (k + 1) := by
  intro numbers op i ts al W r hm h hi hl
  have hz : s.size ≤ 65536 := h.lx.sz
  have HM0 := Lib.hid hm
  have HMS := Lib.hid hM
  clear hm hM
  go_enter Tryz.func163, Tryz.ntmps163
  go_wp2
  go_loopg [] (k + 1) (fun g wr => ∃ (i2 : Nat) (ts2 : List Tk) (al2 : List Nat) (r2 : R), g ≤ k + 1 ∧ Hid (casesF s m g numbers op i2 = some r2) ∧ Hid (r = R.pre ts2 al2 r2) ∧ i2 ≤ s.size ∧ ts.length + ts2.length ≤ i2 ∧ LJ n0 X s m i2 0 0 (al ++ al2) l J (ts ++ ts2) A wr)
  case atStart => exact ⟨i, [], [], r, Nat.le_refl _, HM0, Lib.hid (R.pre_nil r).symm, hi, by simpa using hl, by simpa using h⟩
  case round =>
    obtain ⟨i2, ts2, al2, r2, hgk, HM, HR, hi2, hl2, h0⟩ := hrel
    cases gk with
    | zero => exact absurd HM.out (by simp [casesF])
    | succ g =>
      have HM2 := HM.out
      clear HM
      have hbd := blanks_bd s i2 hi2
      rw [casesF] at HM2
      have HM := Lib.hid HM2
      clear HM2
      go_wp2_with fail
      refine (blanks_lj hn hY h0 hi2).mono ?_
      rintro e' W1 ⟨rfl, h1⟩
      generalize blanks s i2 = j at *
      obtain ⟨hij, hjs⟩ := hbd
      have hlj : (ts ++ ts2).length ≤ j := by simp only [List.length_append]; omega
      have hhe := here1_lj hY 125 h1 hjs
      have HHE := Lib.hid hhe
      clear hhe
      have HM1 := HM.out
      clear HM
      have hat : at1 s j 125 = at1 s j (125 : UInt8).toNat := rfl
      rw [hat] at HM1
      have HM := Lib.hid HM1
      clear hat HM1
      cases hb : at1 s j (125 : UInt8).toNat with
      | true =>
        have HF : Hid (r = R.pre ts2 al2 (mustR s (125 : UInt8).toNat 4 op j)) := Lib.hid (by rw [HR.out, (Option.some.inj ((if_pos hb).symm.trans HM.out)).symm]; rfl)
        rw [hb] at HHE
        clear HM hb HR
        go_wp2_with fail
        refine HHE.out.mono ?_
        rintro e' W2 ⟨rfl, h2⟩
        go_wp2_with fail
        refine (must_any 125 4 op hn hY h2 hjs hlj).mono ?_
        rintro e' W3 ⟨rfl, hp⟩
        (go_wp2_with fail; go_ret; refine ⟨by rw [HF.out, R.pre_good]; rfl, ?_⟩; rw [HF.out]; exact StR.pre hp)
      | false =>
        have HM2 := Lib.hid ((if_neg (by rw [hb]; decide)).symm.trans HM.out)
        rw [hb] at HHE
        clear HM hb
        obtain ⟨c0, c2, f2⟩ := h1.facts
        go_wp2_with fail
        refine HHE.out.mono ?_
        rintro e' W2 ⟨rfl, h2⟩
        obtain ⟨c0, c2, f2⟩ := h2.facts
        by_cases hjz : j = s.size
        · have e1 : ((j : Int) == (s.size : Int)) = true := by simp; omega
          have HF : Hid (r = R.pre ts2 al2 (failR s j op)) := Lib.hid (by rw [HR.out, (Option.some.inj ((if_pos hjz).symm.trans HM2.out)).symm])
          clear HM2 HR hjz
          go_wp2_with fail
          go_quiet (fail)
          have h3 := h2.drewN hY nq
          generalize W2.drewN nq = wq at *
          obtain ⟨c0, c2, f2⟩ := h3.facts
          go_wp2_with fail
          refine (fails_lj hn hY j op h3 (j : Int) rfl).mono ?_
          rintro e' W5 ⟨rfl, hp⟩
          go_wp2_with fail
          go_ret
          refine ⟨by rw [HF.out, R.pre_good, failR_good]; rfl, ?_⟩
          rw [HF.out]
          exact StR.pre hp
        · have e1 : ((j : Int) == (s.size : Int)) = false := by simp; omega
          have HM3 := (if_neg hjz).symm.trans HM2.out
          clear HM2 hjz
          go_wp2_with fail
          go_quiet (fail)
          have h3 := h2.drewN hY nq
          generalize W2.drewN nq = wq at *
          obtain ⟨c0, c2, f2⟩ := h3.facts
          have HK := Lib.hid (key_any numbers op hn hY h3 hjs hlj)
          have hck := keyR_cnt s numbers op j
          generalize keyR s numbers op j = q at *
          cases q with
          | er e a =>
            have HF : Hid (r = .er e a) := Lib.hid (by rw [HR.out, R.next_er HM3]; rfl)
            clear HM3 HR
            go_wp2_with fail
            refine HK.out.mono ?_
            rintro e' W3 ⟨rfl, hp⟩
            (go_wp2_with fail; go_ret; refine ⟨by rw [HF.out]; rfl, ?_⟩; rw [HF.out]; exact hp)
          | ok j2 ts3 al3 =>
            simp only [R.cnt] at hck
            have hl4 : ts.length + (ts2 ++ ts3).length ≤ j2 := by simp only [List.length_append] at *; omega
            obtain ⟨r3, hr3, hrr⟩ := R.next_ok HM3
            have HF3 : Hid (r = R.pre (ts2 ++ ts3) (al2 ++ al3) r3) := Lib.hid (by rw [HR.out, hrr, R.pre_pre])
            have HR3 := Lib.hid hr3
            clear HM3 HR hr3 hrr
            go_wp2_with fail
            refine HK.out.mono ?_
            rintro e' W3 ⟨rfl, h4, hj2⟩
            rw [List.append_assoc, List.append_assoc] at h4
            generalize ts2 ++ ts3 = ts4 at *
            generalize al2 ++ al3 = al4 at *
            have hbd2 := blanks_bd s j2 hj2
            go_wp2_with fail
            refine (blanks_lj hn hY h4 hj2).mono ?_
            rintro e' W4 ⟨rfl, h5⟩
            generalize blanks s j2 = inr at *
            obtain ⟨c0, c2, f2⟩ := h5.facts
            obtain ⟨hji, hin⟩ := hbd2
            have hli : ts.length + ts4.length ≤ inr := by omega
            cases numbers with
            | true =>
              have HM4 := HR3.out
              clear HR3
              have hq0 : mustR s 123 3 op inr = mustR s (123 : UInt8).toNat 3 op inr := rfl
              rw [hq0] at HM4
              clear hq0
              have HMU := Lib.hid (must_any 123 3 op hn hY h5 hin (by simp only [List.length_append]; omega))
              have hcq := mustR_cnt s (123 : UInt8).toNat 3 op inr
              generalize mustR s (123 : UInt8).toNat 3 op inr = q at *
              cases q with
              | er e a =>
                have HF : Hid (r = .er e a) := Lib.hid (by rw [HF3.out, R.next_er HM4]; rfl)
                clear HM4 HF3
                go_wp2_with fail
                refine HMU.out.mono ?_
                rintro e' W5 ⟨rfl, hp⟩
                (go_wp2_with fail; go_ret; refine ⟨by rw [HF.out]; rfl, ?_⟩; rw [HF.out]; exact hp)
              | ok j3 ts5 al5 =>
                simp only [R.cnt] at hcq
                obtain ⟨r4, hr4, hrr⟩ := R.next_ok HM4
                have HF4 : Hid (r = R.pre (ts4 ++ ts5) (al4 ++ al5) r4) := Lib.hid (by rw [HF3.out, hrr, R.pre_pre])
                clear HM4 HF3
                rw [Option.bind_eq_some_iff] at hr4
                obtain ⟨ra, hra, hrn⟩ := hr4
                have HMG := Lib.hid (HMS.out g (by omega) 1 (inr : Int) j3 (ts ++ ts4 ++ ts5) (al ++ al4 ++ al5) · ra hra · · (by simp only [List.length_append]; omega))
                have hcm := (counts s m g).msg _ _ _ _ hra
                have HRN := Lib.hid hrn
                clear hrr hra hrn
                go_wp2_with fail
                refine HMU.out.mono ?_
                rintro e' W5 ⟨rfl, h6, hj3⟩
                go_wp2_with fail
                refine (HMG.out _ h6 hj3).mono ?_
                have HM5 := HRN.out
                clear HRN
                cases ra with
                | er e a =>
                  have HF : Hid (r = .er e a) := Lib.hid (by rw [HF4.out, R.next_er HM5]; rfl)
                  clear HM5 HF4
                  rintro e' W6 ⟨rfl, hp⟩
                  (go_wp2_with fail; go_ret; refine ⟨by rw [HF.out]; rfl, ?_⟩; rw [HF.out]; exact hp)
                | ok j4 ts6 al6 =>
                  simp only [R.cnt] at hcm
                  obtain ⟨r5, hr5, hrr⟩ := R.next_ok HM5
                  have HF5 : Hid (r = R.pre (ts4 ++ ts5 ++ ts6) (al4 ++ al5 ++ al6) r5) := Lib.hid (by rw [HF4.out, hrr, R.pre_pre])
                  clear HM5 HF4 hrr
                  rintro e' W6 ⟨rfl, h7, hj4⟩
                  have hq0 : mustR s 125 4 (inr : Int) j4 = mustR s (125 : UInt8).toNat 4 (inr : Int) j4 := rfl
                  rw [hq0] at hr5
                  clear hq0
                  have HMV := Lib.hid (must_any 125 4 (inr : Int) hn hY h7 hj4 (by simp only [List.length_append]; omega))
                  have hcv := mustR_cnt s (125 : UInt8).toNat 4 (inr : Int) j4
                  generalize mustR s (125 : UInt8).toNat 4 (inr : Int) j4 = q at *
                  cases q with
                  | er e a =>
                    have HF : Hid (r = .er e a) := Lib.hid (by rw [HF5.out, R.next_er hr5]; rfl)
                    clear hr5 HF5
                    go_wp2_with fail
                    refine HMV.out.mono ?_
                    rintro e' W7 ⟨rfl, hp⟩
                    (go_wp2_with fail; go_ret; refine ⟨by rw [HF.out]; rfl, ?_⟩; rw [HF.out]; exact hp)
                  | ok j5 ts7 al7 =>
                    simp only [R.cnt] at hcv
                    obtain ⟨r6, hr6, hrr⟩ := R.next_ok hr5
                    have HF6 : Hid (r = R.pre (ts4 ++ ts5 ++ ts6 ++ ts7) (al4 ++ al5 ++ al6 ++ al7) r6) := Lib.hid (by rw [HF5.out, hrr, R.pre_pre])
                    have HR6 := Lib.hid hr6
                    clear hr5 HF5 hrr hr6
                    go_wp2_with fail
                    refine HMV.out.mono ?_
                    rintro e' W7 ⟨rfl, h8, hj5⟩
                    go_wp2_with fail
                    go_roundg g
                    case measure => omega
                    case rel => exact ⟨j5, _, _, r6, by omega, HR6, HF6, hj5, by simp only [List.length_append]; omega, by simpa using h8⟩
            | false =>
              have HM4 := HR3.out
              clear HR3
              have hq0 : mustR s 123 3 op inr = mustR s (123 : UInt8).toNat 3 op inr := rfl
              rw [hq0] at HM4
              clear hq0
              have HMU := Lib.hid (must_any 123 3 op hn hY h5 hin (by simp only [List.length_append]; omega))
              have hcq := mustR_cnt s (123 : UInt8).toNat 3 op inr
              generalize mustR s (123 : UInt8).toNat 3 op inr = q at *
              cases q with
              | er e a =>
                have HF : Hid (r = .er e a) := Lib.hid (by rw [HF3.out, R.next_er HM4]; rfl)
                clear HM4 HF3
                go_wp2_with fail
                refine HMU.out.mono ?_
                rintro e' W5 ⟨rfl, hp⟩
                (go_wp2_with fail; go_ret; refine ⟨by rw [HF.out]; rfl, ?_⟩; rw [HF.out]; exact hp)
              | ok j3 ts5 al5 =>
                simp only [R.cnt] at hcq
                obtain ⟨r4, hr4, hrr⟩ := R.next_ok HM4
                have HF4 : Hid (r = R.pre (ts4 ++ ts5) (al4 ++ al5) r4) := Lib.hid (by rw [HF3.out, hrr, R.pre_pre])
                clear HM4 HF3
                rw [Option.bind_eq_some_iff] at hr4
                obtain ⟨ra, hra, hrn⟩ := hr4
                have HMG := Lib.hid (HMS.out g (by omega) 0 (inr : Int) j3 (ts ++ ts4 ++ ts5) (al ++ al4 ++ al5) · ra hra · · (by simp only [List.length_append]; omega))
                have hcm := (counts s m g).msg _ _ _ _ hra
                have HRN := Lib.hid hrn
                clear hrr hra hrn
                go_wp2_with fail
                refine HMU.out.mono ?_
                rintro e' W5 ⟨rfl, h6, hj3⟩
                go_wp2_with fail
                refine (HMG.out _ h6 hj3).mono ?_
                have HM5 := HRN.out
                clear HRN
                cases ra with
                | er e a =>
                  have HF : Hid (r = .er e a) := Lib.hid (by rw [HF4.out, R.next_er HM5]; rfl)
                  clear HM5 HF4
                  rintro e' W6 ⟨rfl, hp⟩
                  (go_wp2_with fail; go_ret; refine ⟨by rw [HF.out]; rfl, ?_⟩; rw [HF.out]; exact hp)
                | ok j4 ts6 al6 =>
                  simp only [R.cnt] at hcm
                  obtain ⟨r5, hr5, hrr⟩ := R.next_ok HM5
                  have HF5 : Hid (r = R.pre (ts4 ++ ts5 ++ ts6) (al4 ++ al5 ++ al6) r5) := Lib.hid (by rw [HF4.out, hrr, R.pre_pre])
                  clear HM5 HF4 hrr
                  rintro e' W6 ⟨rfl, h7, hj4⟩
                  have hq0 : mustR s 125 4 (inr : Int) j4 = mustR s (125 : UInt8).toNat 4 (inr : Int) j4 := rfl
                  rw [hq0] at hr5
                  clear hq0
                  have HMV := Lib.hid (must_any 125 4 (inr : Int) hn hY h7 hj4 (by simp only [List.length_append]; omega))
                  have hcv := mustR_cnt s (125 : UInt8).toNat 4 (inr : Int) j4
                  generalize mustR s (125 : UInt8).toNat 4 (inr : Int) j4 = q at *
                  cases q with
                  | er e a =>
                    have HF : Hid (r = .er e a) := Lib.hid (by rw [HF5.out, R.next_er hr5]; rfl)
                    clear hr5 HF5
                    go_wp2_with fail
                    refine HMV.out.mono ?_
                    rintro e' W7 ⟨rfl, hp⟩
                    (go_wp2_with fail; go_ret; refine ⟨by rw [HF.out]; rfl, ?_⟩; rw [HF.out]; exact hp)
                  | ok j5 ts7 al7 =>
                    simp only [R.cnt] at hcv
                    obtain ⟨r6, hr6, hrr⟩ := R.next_ok hr5
                    have HF6 : Hid (r = R.pre (ts4 ++ ts5 ++ ts6 ++ ts7) (al4 ++ al5 ++ al6 ++ al7) r6) := Lib.hid (by rw [HF5.out, hrr, R.pre_pre])
                    have HR6 := Lib.hid hr6
                    clear hr5 HF5 hrr hr6
                    go_wp2_with fail
                    refine HMV.out.mono ?_
                    rintro e' W7 ⟨rfl, h8, hj5⟩
                    go_wp2_with fail
                    go_roundg g
                    case measure => omega
                    case rel => exact ⟨j5, _, _, r6, by omega, HR6, HF6, hj5, by simp only [List.length_append]; omega, by simpa using h8⟩
end
end Go.Proofs.YtcpglgoiienhkaaGreatDoor
