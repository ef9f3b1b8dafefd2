/- Lemmas behind the laws of the tokens; no conditions. -/
import Derived.Test.YtcnhklcbibpjpaaGreatDoorZRgu
import Derived.Test.YtcnhklcbibpjpaaGreatDoorZRtk
set_option linter.unusedVariables false
set_option linter.unusedSimpArgs false

namespace Go.Proofs.YtcnhklcbibpjpaaGreatDoor
open Go.RowKit P Ext PRfa
theorem lexO_ne {s : ByteArray} {m k a : Int} (h : lexO s m = .er k a) : k ≠ 0 := by
  unfold lexO at h
  split at h
  · cases h; decide
  · split at h
    · exact lexR_ne h
    · cases h; decide
theorem lexO_tk {s : ByteArray} {m : Int} {j : Nat} {ts : List Tk} {al : List Nat} (h : lexO s m = .ok j ts al) : TkRise s 0 j ts := by
  unfold lexO at h
  split at h
  · cases h
  · split at h
    · exact lexR_tk h
    · cases h
theorem ba_nil {t : ByteArray} (h : t.size = 0) : t = ⟨#[]⟩ := by
  apply ByteArray.ext
  exact Array.eq_empty_of_size_eq_zero h
set_option maxRecDepth 100000 in
set_option maxHeartbeats 8000000 in
theorem TokenRises_any (s : ByteArray) (m : Int) (w : World) (hG : GlH w) :
    Calls Tryz.prog 4 #[.string s, .int .i64 m] w fun e w' => e = .returned (.bool true) ∧ Below w.heap.size w w' := by
  have HL := Lib.hid (Lex_any s m w hG)
  go_enter Tryz.func4, Tryz.ntmps4
  go_wp2_with fail
  refine HL.out.mono ?_
  rintro e w1 ⟨hp, hb1⟩
  have HR := Lib.hid (rLex_any s m w1 (hG.bel hb1))
  cases hr : lexO s m with
  | er k a =>
    have hk := lexO_ne hr
    have ek : (k != 0) = true := by simpa using hk
    rw [hr] at hp HR
    obtain rfl := hp
    clear hr HL hk
    go_wp2_with fail
    refine HR.out.mono ?_
    rintro e w2 ⟨hp, hb2⟩
    obtain rfl := hp
    have hb3 := hb1.trans (hb2.mono hb1.size)
    have e1 : (k == k) = true := by simp
    have e2 : (a == a) = true := by simp
    go_wp2_with fail
    refine (awake_any w2 (hG.bel hb3)).mono ?_
    rintro e w4 ⟨rfl, hb6⟩
    go_wp2_with fail
    go_ret
    exact ⟨rfl, hb3.trans (hb6.mono hb3.size)⟩
  | ok j ts al =>
    have HT := Lib.hid (lexO_tk hr).get
    rw [hr] at hp
    obtain ⟨v, rfl, ho⟩ := hp
    have hl1 := row_le ho
    obtain ⟨ad1, cap1, rfl, hc1⟩ := tok_cells ho
    clear hr HL HR ho
    go_wp2_with fail
    go_loopw [11] (fun v11 wr => ∃ i : Nat, v11 = .int .i64 (i : Int) ∧ i ≤ ts.length ∧ Below w1.heap.size w1 wr) (fun v11 _ => ts.length - valN v11)
    case atStart => exact ⟨0, rfl, Nat.zero_le _, Below.refl _ _⟩
    case round =>
      obtain ⟨i, rfl, hi, hbw⟩ := hrel
      by_cases hlt : i < ts.length
      · have d1 : decide ((i : Int) < (ts.length : Int)) = true := by simp; omega
        have hi0 : (0 : Int) ≤ (i : Int) := by omega
        have hilt : (i : Int) < ts.length := by omega
        obtain ⟨hok, -, -⟩ := HT.out i hlt
        have HPREV : Hid (∀ (i0 : Nat) (hqq : i0 < ts.length), i0 + 1 = i → (ts[i0]'hqq).2.2 < (ts[i]'hlt).2.2) := Lib.hid (fun i0 hqq e => by
          subst e
          exact (HT.out i0 hqq).2.2 hlt)
        obtain ⟨g1, rfl, hg1, x1, x2, x3⟩ := hc1 i hlt
        have HPC : Hid (∀ (i0 : Nat) (hqq : i0 < ts.length), w1.cell? ⟨g1, i0 * 3 + 2, none⟩ = some (.int .i64 (ts[i0]'hqq).2.2)) := Lib.hid (fun i0 hqq => by
          obtain ⟨g2, e2, _, _, _, y3⟩ := hc1 i0 hqq
          cases e2; exact y3)
        rw [← World.cell?_of_block (a := ⟨g1, i * 3, none⟩) (hbw.block g1 hg1)] at x1
        rw [← World.cell?_of_block (a := ⟨g1, i * 3 + 1, none⟩) (hbw.block g1 hg1)] at x2
        rw [← World.cell?_of_block (a := ⟨g1, i * 3 + 2, none⟩) (hbw.block g1 hg1)] at x3
        generalize hti : ts[i]'hlt = t at *
        clear hti
        obtain ⟨k, tx, p⟩ := t
        obtain ⟨q, rfl⟩ : ∃ q : Nat, p = q := ⟨p.toNat, by have := hok.lo; simp only at this; omega⟩
        have hq : q < s.size := by have := hok.hi; simp only at this; omega
        have hq' : (q : Int) < s.size := by omega
        have hq0 : (0 : Int) ≤ (q : Int) := by omega
        have e1 : decide ((q : Int) < 0) = false := by simp
        have e2 : decide ((s.size : Int) ≤ (q : Int)) = false := by simp; omega
        have e2' : decide (s.size ≤ q) = false := by simp; omega
        have HB8 := Lib.hid (b8_at s q hq)
        have HOK := Lib.hid hok
        clear hok
        have ei : (i : Int) + 1 = ((i + 1 : Nat) : Int) := by omega
        have EI := Lib.hid ei
        clear ei
        have main : ∀ wq : World, Below w1.heap.size w1 wq → Hid (∀ (P : World → Prop), P wq → P wq) := fun wq _ => Lib.hid (fun _ h => h)
        clear main
        rcases hi1 : decide ((0 : Int) < (i : Int)) with _ | _
        rotate_left
        focus
          have hip : 0 < i := by simpa using hi1
          have hip2 : decide (0 < i) = true := decide_eq_true hip
          obtain ⟨i', hi'⟩ : ∃ i', i' + 1 = i := ⟨i - 1, by omega⟩
          have hi'2 : i' < ts.length := by omega
          have hlt3 := HPREV.out i' hi'2 hi'
          have y3 := HPC.out i' hi'2
          rw [← World.cell?_of_block (a := ⟨g1, i' * 3 + 2, none⟩) (hbw.block g1 hg1)] at y3
          have w1' : IntKind.i64.wrap ((i : Int) - 1) = (i' : Int) := by rw [IntWalk.i64_in _ (by omega)]; omega
          have hi'3 : (i' : Int) < ts.length := by omega
          generalize (ts[i']'hi'2).2.2 = p' at *
          simp only at hlt3
          have e3 : decide ((q : Int) ≤ p') = false := by simp; omega
          have HI' := Lib.hid hi'
          clear hi' hlt3
          go_wp2_with fail
          go_quiet (fail)
          have hbq := Below.drewN' hbw nq
        rotate_right
        focus
          have hip : ¬ 0 < i := by simpa using hi1
          have hip2 : decide (0 < i) = false := decide_eq_false hip
          go_wp2_with fail
          go_quiet (fail)
          have hbq := Below.drewN' hbw nq
        all_goals
          generalize wr.drewN nq = wq at *
          have z1 : wq.cell? ⟨g1, i * 3, none⟩ = some (.int .i64 k) := by rw [World.cell?_of_block (a := ⟨g1, i * 3, none⟩) (hbq.block g1 hg1), ← World.cell?_of_block (a := ⟨g1, i * 3, none⟩) (hbw.block g1 hg1)]; exact x1
          have z2 : wq.cell? ⟨g1, i * 3 + 1, none⟩ = some (.string tx) := by rw [World.cell?_of_block (a := ⟨g1, i * 3 + 1, none⟩) (hbq.block g1 hg1), ← World.cell?_of_block (a := ⟨g1, i * 3 + 1, none⟩) (hbw.block g1 hg1)]; exact x2
          have z3 : wq.cell? ⟨g1, i * 3 + 2, none⟩ = some (.int .i64 (q : Int)) := by rw [World.cell?_of_block (a := ⟨g1, i * 3 + 2, none⟩) (hbq.block g1 hg1), ← World.cell?_of_block (a := ⟨g1, i * 3 + 2, none⟩) (hbw.block g1 hg1)]; exact x3
          clear x1 x2 x3
          by_cases k3 : k = 3
          · subst k3
            obtain ⟨c3, t3⟩ := HOK.out.k3 rfl
            have htx := ba_nil t3
            simp only at htx
            subst htx
            have c3' : (s[q]'hq).toNat = 123 := by rw [← HB8.out]; simpa using c3
            have f1 : (((s[q]'hq).toNat : Int) != 123) = false := by simp; omega
            clear c3 c3' t3
            go_wp2_with fail
            go_roundw
            case rel => exact ⟨i + 1, int_eq (by omega), by omega, hbq⟩
            case measure => simp [valN]; omega
          by_cases k4 : k = 4
          · subst k4
            obtain ⟨c3, t3⟩ := HOK.out.k4 rfl
            have htx := ba_nil t3
            simp only at htx
            subst htx
            have c3' : (s[q]'hq).toNat = 125 := by rw [← HB8.out]; simpa using c3
            have f1 : (((s[q]'hq).toNat : Int) != 125) = false := by simp; omega
            clear c3 c3' t3 k3
            go_wp2_with fail
            go_roundw
            case rel => exact ⟨i + 1, int_eq (by omega), by omega, hbq⟩
            case measure => simp [valN]; omega
          by_cases k2 : k = 2
          · subst k2
            have c3 := HOK.out.k2 rfl
            have c3' : (s[q]'hq).toNat = 35 := by rw [← HB8.out]; simpa using c3
            have f1 : (((s[q]'hq).toNat : Int) != 35) = false := by simp; omega
            clear c3 c3' k3 k4
            go_wp2_with fail
            go_roundw
            case rel => exact ⟨i + 1, int_eq (by omega), by omega, hbq⟩
            case measure => simp [valN]; omega
          by_cases k1 : k = 1
          · subst k1
            have t3 := HOK.out.k1 rfl
            simp only at t3
            have ht0 : ¬ tx.toList = [] := fun h => t3 ((tlNil tx).1 h)
            have hbe : tx.toList.isEmpty = false := by simpa using ht0
            clear t3 k2 k3 k4
            go_wp2_with fail
            go_roundw
            case rel => exact ⟨i + 1, int_eq (by omega), by omega, hbq⟩
            case measure => simp [valN]; omega
          have f1 : (k == 3) = false := by simpa using k3
          have f2 : (k == 4) = false := by simpa using k4
          have f3 : (k == 2) = false := by simpa using k2
          have f4 : (k == 1) = false := by simpa using k1
          clear k1 k2 k3 k4
          go_wp2_with fail
          go_roundw
          case rel => exact ⟨i + 1, int_eq (by omega), by omega, hbq⟩
          case measure => simp [valN]; omega
      · have d1 : decide ((i : Int) < (ts.length : Int)) = false := by simp; omega
        have hb3 := hb1.trans (hbw.mono hb1.size)
        go_wp2_with fail
        refine (awake_any wr (hG.bel hb3)).mono ?_
        rintro e w4 ⟨rfl, hb6⟩
        go_wp2_with fail
        go_ret
        exact ⟨rfl, hb3.trans (hb6.mono hb3.size)⟩
end Go.Proofs.YtcnhklcbibpjpaaGreatDoor
