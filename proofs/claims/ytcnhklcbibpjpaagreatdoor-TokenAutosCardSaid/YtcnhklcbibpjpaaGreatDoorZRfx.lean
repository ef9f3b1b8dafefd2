/- Lemmas behind the laws of the tokens; no conditions. -/
import Derived.Test.YtcnhklcbibpjpaaGreatDoorZRfw
set_option linter.unusedVariables false
set_option linter.unusedSimpArgs false

namespace Go.Proofs.YtcnhklcbibpjpaaGreatDoor
open Go.RowKit P Ext PRfa
section
variable {A : World} {s : ByteArray} {m : Int} {ts : List Tk} {fs : List Fr} {al : List Nat} {gl go ga : Option Addr} {cl co ca nl no na : Nat} {w : World}
def ParseC : Prop := ∀ (t : ByteArray) (w : World), GlH w → t.size ≤ 100000 → Calls Tryz.prog 69 #[.string t] w fun e w' => (∃ (a : Bool) (b c : ByteArray) (k : Int), e = .returned (.tuple #[.agg #[.bool a, .string b, .string c], .int .i64 k]) ∧ (k == 0) = decB t.data.toList) ∧ Below w.heap.size w w'
theorem Digit_any (c : Nat) (hG : GlH w) : Calls Tryz.prog 68 #[.int .u8 (c : Int)] w fun e w' => e = .returned (.bool (decide (48 ≤ c) && decide (c ≤ 57))) ∧ Below w.heap.size w w' := by
  refine (idiomref01_Digit.calls c (decide (48 ≤ c) && decide (c ≤ 57)) w hG ?_).mono fun e w' ⟨he, hb⟩ => ⟨he, hb.below⟩
  unfold idiomref01_Digit.f
  repeat' split
  all_goals (congr 1; rw [Bool.eq_iff_iff]; simp; omega)
theorem bx_ret3 {fn : Func} {p u v : Tmp} (hf : fn.results = #[.cell p 49, .tmp u, .tmp v]) {tmps : Array Value} {W : World} {R : Nat} (hp : tmps.getD p undef = .pointer (some ⟨R, 0, none⟩)) {s : ByteArray} {m i : Int} {vl vo : Value} {e a : Int} {va : Value} (h : Bx R s m i vl vo e a va W) :
    (results fn tmps).run Tryz.prog W = .ok (.tuple #[.agg #[.string s, .int .i64 m, .int .i64 i, vl, vo, .int .i64 e, .int .i64 a, va], tmps.getD u undef, tmps.getD v undef]) W :=
  Go.Proofs.YtcnhklcbibpjpaaGreatDoorW.PrintWords.results_ctt hf _ _ R 49 _ (0, 0) _ hp h Tryz.underlying49 rfl (by kernel_rfl)
set_option maxRecDepth 100000 in
set_option maxHeartbeats 1000000 in
theorem rnumber_any (HP : ParseC) (i : Nat) (hG : GlH A) (hz : s.size ≤ 100000) (hi : i ≤ s.size) (h : RO A ts fs al gl cl go co ga ca w) :
    Calls Tryz.prog 43 #[lxV s m (i : Int) (.slice gl ts.length cl) (.slice go fs.length co) 0 0 (.slice ga al.length ca)] w fun e w' =>
      ∃ v, e = .returned (.tuple #[v, .string (numAt s i), .bool (numOk s i)]) ∧ RP false A s m w (P.numEnd s i : Nat) ts fs al 0 0 v w' := by
  obtain ⟨HS, hA⟩ := boxes_sb (s := s) (m := m) false i h
  go_enter Tryz.func43, Tryz.ntmps43
  go_wp2_with fail
  refine (?_ : Code.wp _ _ _ _ (boxes s m i (.slice gl ts.length cl) (.slice go fs.length co) 0 0 (.slice ga al.length ca) w))
  generalize boxes s m i (.slice gl ts.length cl) (.slice go fs.length co) 0 0 (.slice ga al.length ca) w = W1 at *
  have hne : w.heap.size ≠ w.heap.size + 1 := by omega
  go_loopw [] (fun wr => ∃ j : Nat, i ≤ j ∧ j ≤ s.size ∧ Hid (P.numEnd s i = P.numEnd s j) ∧ SB false A w w.heap.size s m (j : Int) ts fs al gl cl go co ga ca wr) (fun wr => s.size - posOf w.heap.size wr)
  case atStart => exact ⟨i, Nat.le_refl _, hi, Lib.hid rfl, HS⟩
  case round =>
    obtain ⟨j, hij, hjs, HW, HS1⟩ := hrel
    clear HS
    obtain ⟨d0, d1, d2, d3, d4, d5, d6, d7⟩ := HS1.bx.cells
    have HE := Lib.hid (fun (W : World) => rends_any (s := s) (m := m) (gl := gl) (nl := ts.length) (cl := cl) (go := go) (no := fs.length) (co := co) (ga := ga) (na := al.length) (ca := ca) (w := W) j 0 0)
    have HH := Lib.hid (fun (c : Nat) (W : World) => rhere_any (s := s) (m := m) (gl := gl) (nl := ts.length) (cl := cl) (go := go) (no := fs.length) (co := co) (ga := ga) (na := al.length) (ca := ca) (w := W) j 0 0 c (by omega))
    by_cases hlt : j < s.size
    rotate_left
    focus
      have eE : decide (s.size ≤ j) = true := by simp; omega
      have HF : Hid (P.numEnd s i = j) := Lib.hid (by rw [HW.out, P.numEnd, dif_neg hlt])
      go_wp2_with (go_at_call 32; refine (HE.out _).mono ?_; rintro e' W3 ⟨rfl, hb3⟩; have HS3 := HS1.later hb3; clear d0 d1 d2 d3 d4 d5 d6 d7; obtain ⟨d0, d1, d2, d3, d4, d5, d6, d7⟩ := HS3.bx.cells)
    rotate_right
    have eE : decide (s.size ≤ j) = false := by simp; omega
    have hlt' : (j : Int) < s.size := by omega
    have hb8 := b8_at s j hlt
    have hsz := hlt
    have HN : Hid (P.numEnd s j = if numB (P.b8 s j) = true then P.numEnd s (j + 1) else j) := Lib.hid (by rw [P.numEnd, dif_pos hlt])
    have hat : ∀ c, at1 s j c = (P.b8 s j == c) := fun c => by rw [at1, show decide (j < s.size) = true from by simpa using hlt]; rfl
    have HAT := Lib.hid hat
    clear hat
    have eS : IntKind.i64.wrap ((j : Int) + 1) = ((j + 1 : Nat) : Int) := by rw [IntWalk.i64_in _ (by omega)]; omega
    rcases h45 : at1 s j 45 with _ | _
    rotate_left
    focus
      have HG : Hid (P.numEnd s i = P.numEnd s (j + 1)) := Lib.hid (by
        have : P.b8 s j = 45 := by have := HAT.out 45; rw [h45] at this; simpa using this.symm
        rw [HW.out, HN.out, this]; rfl)
      go_wp2_with (first
        | (go_at_call 32; refine (HE.out _).mono ?_; rintro e' W2 ⟨rfl, hb2⟩; have HS2 := HS1.later hb2; clear d0 d1 d2 d3 d4 d5 d6 d7; obtain ⟨d0, d1, d2, d3, d4, d5, d6, d7⟩ := HS2.bx.cells)
        | (go_at_call_of 41 (Value.int IntKind.u8 45); refine (HH.out 45 _).mono ?_; rw [h45]; rintro e' W4 ⟨rfl, hb4⟩; have HS4 := HS2.later hb4; clear d0 d1 d2 d3 d4 d5 d6 d7; obtain ⟨d0, d1, d2, d3, d4, d5, d6, d7⟩ := HS4.bx.cells; have df := HS4.bx.free 2))
      have HM : SB false A w w.heap.size s m ((j + 1 : Nat) : Int) ts fs al gl cl go co ga ca (W4.setCell ⟨w.heap.size, 2, none⟩ (.int .i64 ((j : Int) + 1))) := (HS4.set2 hA (Nat.le_refl _) ((j : Int) + 1)).cast (by omega)
      go_roundw
      case rel => exact ⟨j + 1, by omega, by omega, HG, HM⟩
      case measure => rw [HS1.pos, HM.pos]; omega
    rotate_right
    rcases h46 : at1 s j 46 with _ | _
    rotate_left
    focus
      have HG : Hid (P.numEnd s i = P.numEnd s (j + 1)) := Lib.hid (by
        have : P.b8 s j = 46 := by have := HAT.out 46; rw [h46] at this; simpa using this.symm
        rw [HW.out, HN.out, this]; rfl)
      go_wp2_with (first
        | (go_at_call 32; refine (HE.out _).mono ?_; rintro e' W2 ⟨rfl, hb2⟩; have HS2 := HS1.later hb2; clear d0 d1 d2 d3 d4 d5 d6 d7; obtain ⟨d0, d1, d2, d3, d4, d5, d6, d7⟩ := HS2.bx.cells)
        | (go_at_call_of 41 (Value.int IntKind.u8 45); refine (HH.out 45 _).mono ?_; rw [h45]; rintro e' W4 ⟨rfl, hb4⟩; have HS4 := HS2.later hb4; clear d0 d1 d2 d3 d4 d5 d6 d7; obtain ⟨d0, d1, d2, d3, d4, d5, d6, d7⟩ := HS4.bx.cells)
        | (go_at_call_of 41 (Value.int IntKind.u8 46); refine (HH.out 46 _).mono ?_; rw [h46]; rintro e' W5 ⟨rfl, hb5⟩; have HS5 := HS4.later hb5; clear d0 d1 d2 d3 d4 d5 d6 d7; obtain ⟨d0, d1, d2, d3, d4, d5, d6, d7⟩ := HS5.bx.cells; have df := HS5.bx.free 2))
      have HM : SB false A w w.heap.size s m ((j + 1 : Nat) : Int) ts fs al gl cl go co ga ca (W5.setCell ⟨w.heap.size, 2, none⟩ (.int .i64 ((j : Int) + 1))) := (HS5.set2 hA (Nat.le_refl _) ((j : Int) + 1)).cast (by omega)
      go_roundw
      case rel => exact ⟨j + 1, by omega, by omega, HG, HM⟩
      case measure => rw [HS1.pos, HM.pos]; omega
    rotate_right
    have HNB : Hid (numB (P.b8 s j) = (decide (48 ≤ (s[j]'hlt).toNat) && decide ((s[j]'hlt).toNat ≤ 57))) := Lib.hid (by
      have q5 := HAT.out 45
      have q6 := HAT.out 46
      rw [h45] at q5
      rw [h46] at q6
      rw [hb8] at q5 q6 ⊢
      rw [numB, ← q5, ← q6, Bool.or_false, Bool.or_false])
    have HD := Lib.hid (fun (W : World) (hG : GlH W) => Digit_any (w := W) (s[j]'hlt).toNat hG)
    clear hb8
    rcases hdg : (decide (48 ≤ (s[j]'hlt).toNat) && decide ((s[j]'hlt).toNat ≤ 57)) with _ | _
    rotate_left
    focus
      have HG : Hid (P.numEnd s i = P.numEnd s (j + 1)) := Lib.hid (by rw [HW.out, HN.out, HNB.out, hdg]; rfl)
      have HDG := Lib.hid hdg
      clear hdg
      have HD2 : Hid (∀ (W : World), GlH W → Calls Tryz.prog 68 #[.int .u8 (((s[j]'hlt).toNat : Nat) : Int)] W fun e w' => e = .returned (.bool true) ∧ Below W.heap.size W w') := Lib.hid (fun W hG => by have := HD.out W hG; rw [HDG.out] at this; exact this)
      go_wp2_with (first
        | (go_at_call 32; refine (HE.out _).mono ?_; rintro e' W2 ⟨rfl, hb2⟩; have HS2 := HS1.later hb2; clear d0 d1 d2 d3 d4 d5 d6 d7; obtain ⟨d0, d1, d2, d3, d4, d5, d6, d7⟩ := HS2.bx.cells)
        | (go_at_call_of 41 (Value.int IntKind.u8 45); refine (HH.out 45 _).mono ?_; rw [h45]; rintro e' W4 ⟨rfl, hb4⟩; have HS4 := HS2.later hb4; clear d0 d1 d2 d3 d4 d5 d6 d7; obtain ⟨d0, d1, d2, d3, d4, d5, d6, d7⟩ := HS4.bx.cells)
        | (go_at_call_of 41 (Value.int IntKind.u8 46); refine (HH.out 46 _).mono ?_; rw [h46]; rintro e' W5 ⟨rfl, hb5⟩; have HS5 := HS4.later hb5; clear d0 d1 d2 d3 d4 d5 d6 d7; obtain ⟨d0, d1, d2, d3, d4, d5, d6, d7⟩ := HS5.bx.cells; have df := HS5.bx.free 2)
        | (go_at_call 68; refine (HD2.out _ (HS5.ro.glh hG)).mono ?_; rintro e' W6 ⟨rfl, hb6⟩; have HS6 := HS5.later hb6; clear df; clear d0 d1 d2 d3 d4 d5 d6 d7; obtain ⟨d0, d1, d2, d3, d4, d5, d6, d7⟩ := HS6.bx.cells; have df := HS6.bx.free 2))
      have HM : SB false A w w.heap.size s m ((j + 1 : Nat) : Int) ts fs al gl cl go co ga ca (W6.setCell ⟨w.heap.size, 2, none⟩ (.int .i64 ((j : Int) + 1))) := (HS6.set2 hA (Nat.le_refl _) ((j : Int) + 1)).cast (by omega)
      go_roundw
      case rel => exact ⟨j + 1, by omega, by omega, HG, HM⟩
      case measure => rw [HS1.pos, HM.pos]; omega
    rotate_right
    focus
      have HF : Hid (P.numEnd s i = j) := Lib.hid (by rw [HW.out, HN.out, HNB.out, hdg]; rfl)
      have HDG := Lib.hid hdg
      clear hdg
      have hij' : (i : Int) ≤ j := by omega
      have hjs' : (j : Int) ≤ s.size := by omega
      have HD2 : Hid (∀ (W : World), GlH W → Calls Tryz.prog 68 #[.int .u8 (((s[j]'hlt).toNat : Nat) : Int)] W fun e w' => e = .returned (.bool false) ∧ Below W.heap.size W w') := Lib.hid (fun W hG => by have := HD.out W hG; rw [HDG.out] at this; exact this)
      go_wp2_with (first
        | (go_at_call 32; refine (HE.out _).mono ?_; rintro e' W2 ⟨rfl, hb2⟩; have HS2 := HS1.later hb2; clear d0 d1 d2 d3 d4 d5 d6 d7; obtain ⟨d0, d1, d2, d3, d4, d5, d6, d7⟩ := HS2.bx.cells)
        | (go_at_call_of 41 (Value.int IntKind.u8 45); refine (HH.out 45 _).mono ?_; rw [h45]; rintro e' W4 ⟨rfl, hb4⟩; have HS4 := HS2.later hb4; clear d0 d1 d2 d3 d4 d5 d6 d7; obtain ⟨d0, d1, d2, d3, d4, d5, d6, d7⟩ := HS4.bx.cells)
        | (go_at_call_of 41 (Value.int IntKind.u8 46); refine (HH.out 46 _).mono ?_; rw [h46]; rintro e' W5 ⟨rfl, hb5⟩; have HS5 := HS4.later hb5; clear d0 d1 d2 d3 d4 d5 d6 d7; obtain ⟨d0, d1, d2, d3, d4, d5, d6, d7⟩ := HS5.bx.cells; have df := HS5.bx.free 2)
        | (go_at_call 68; refine (HD2.out _ (HS5.ro.glh hG)).mono ?_; rintro e' W6 ⟨rfl, hb6⟩; have HS3 := HS5.later hb6; clear df; clear d0 d1 d2 d3 d4 d5 d6 d7; obtain ⟨d0, d1, d2, d3, d4, d5, d6, d7⟩ := HS3.bx.cells))
    all_goals
      rename World => W3
      clear HS1 HW d0 d1 d2 d3 d4 d5 d6 d7
      have hwa : Hid (numAt s i = s.extract i j) := Lib.hid (by rw [numAt, HF.out])
      have hzz : (s.extract i j).size ≤ 100000 := by simp [ByteArray.size_extract]; omega
      refine (HP (s.extract i j) _ (HS3.ro.glh hG) hzz).mono ?_
      rintro e' W7 ⟨⟨x, y, z, kk, rfl, hkk⟩, hb7⟩
      have HS7 := HS3.later hb7
      have HKK : Hid (numOk s i = (kk == 0)) := Lib.hid (by rw [numOk, hwa.out, hkk])
      clear hkk
      have HS8 := HS7.later ((Below.refl _ W7).alloc (Nat.le_refl _) (.cells #[.bool x, .string y, .string z] 94))
      obtain ⟨d0, d1, d2, d3, d4, d5, d6, d7⟩ := HS8.bx.cells
      go_wp2_with (with_reducible refine gate_lx rfl ?_; refine wp_fill HS8.rb rfl rfl rfl rfl rfl ?_; intro W8 f8 hr8)
      refine bodyPost_ret (bx_ret3 rfl rfl hr8) rfl ?_
      refine ⟨_, by rw [hwa.out, HKK.out]; rfl, gl, cl, go, co, ga, ca, by rw [HF.out], HS8.ro.fl HS8.rb f8 (by omega), HS8.kr.fl f8 (by omega)⟩
end
end Go.Proofs.YtcnhklcbibpjpaaGreatDoor
