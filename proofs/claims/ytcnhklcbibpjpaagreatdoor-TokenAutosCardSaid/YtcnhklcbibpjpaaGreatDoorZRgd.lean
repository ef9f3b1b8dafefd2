/- Lemmas behind the laws of the tokens; no conditions. -/
import Derived.Test.YtcnhklcbibpjpaaGreatDoorZRgc
set_option linter.unusedVariables false
set_option linter.unusedSimpArgs false

namespace Go.Proofs.YtcnhklcbibpjpaaGreatDoor
open Go.RowKit P Ext PRfa
def skipQ (s : ByteArray) (k : Nat) : Nat := if k < s.size then if P.b8 s k = 39 then k else skipQ s (k + 1) else k
termination_by s.size - k
theorem skipQ_ge (s : ByteArray) (k : Nat) : k ≤ skipQ s k := by
  induction k using skipQ.induct s with
  | case1 k h h1 => rw [skipQ, if_pos h, if_pos h1]; exact Nat.le_refl _
  | case2 k h h1 ih => rw [skipQ, if_pos h, if_neg h1]; omega
  | case3 k h => rw [skipQ, if_neg h]; exact Nat.le_refl _
theorem skipQ_le (s : ByteArray) (k : Nat) (hk : k ≤ s.size) : skipQ s k ≤ s.size := by
  induction k using skipQ.induct s with
  | case1 k h h1 => rw [skipQ, if_pos h, if_pos h1]; omega
  | case2 k h h1 ih => rw [skipQ, if_pos h, if_neg h1]; exact ih (by omega)
  | case3 k h => rw [skipQ, if_neg h]; omega
def styE (s : ByteArray) (i deep : Nat) : Option Nat :=
  if h : i < s.size then
    if P.b8 s i = 39 then styE s (skipQ s (i + 1) + 1) deep
    else if P.b8 s i = 123 then styE s (i + 1) (deep + 1)
    else if P.b8 s i = 125 then if deep = 0 then some i else styE s (i + 1) (deep - 1)
    else styE s (i + 1) deep
  else none
termination_by s.size - i
decreasing_by
  all_goals first | (have := skipQ_ge s (i + 1); omega) | omega
def styM (s : ByteArray) (op : Int) (i : Nat) (ts : List Tk) (fs : List Fr) (al : List Nat) : MR :=
  match styE s i 0 with
  | none => .er 190 op
  | some j => if (trimP (s.extract i j)).size = 0 then .er 191 ((j : Nat) : Int) else .ok j (ts ++ [(8, trimP (s.extract i j), ((P.blanks s i : Nat) : Int))]) fs al
def TrimC : Prop := ∀ (t : ByteArray) (w : World), GlH w → t.size ≤ 100000 → Calls Tryz.prog 96 #[.string t] w fun e w' => e = .returned (.string (trimP t)) ∧ Below w.heap.size w w'
section
variable {A : World} {s : ByteArray} {m : Int} {ts : List Tk} {fs : List Fr} {al : List Nat} {gl go ga : Option Addr} {cl co ca nl no na : Nat} {w : World}
set_option maxRecDepth 100000 in
set_option maxHeartbeats 1000000 in
theorem rstyle_any (HT : TrimC) (i : Nat) (hG : GlH A) (hz : s.size ≤ 90000) (hi : i ≤ s.size) (op : Int) (hl : ts.length ≤ 80100) (hf : fs.length ≤ 80000) (h : RO A ts fs al gl cl go co ga ca w) :
    Calls Tryz.prog 75 #[lxV s m (i : Int) (.slice gl ts.length cl) (.slice go fs.length co) 0 0 (.slice ga al.length ca), .int .i64 op] w fun e w' =>
      ∃ v, e = .returned v ∧ RM A s m w (styM s op i ts fs al) v w' := by
  obtain ⟨HS0, hA⟩ := boxes_sb (s := s) (m := m) true i h
  go_enter Tryz.func75, Tryz.ntmps75
  go_wp2_with fail
  refine (?_ : Code.wp _ _ _ _ (boxes s m (i : Int) (.slice gl ts.length cl) (.slice go fs.length co) 0 0 (.slice ga al.length ca) w))
  generalize (boxes s m (i : Int) (.slice gl ts.length cl) (.slice go fs.length co) 0 0 (.slice ga al.length ca) w) = W1 at *
  go_loopw [6] (fun v6 wr => ∃ j dp : Nat, v6 = .int .i64 (dp : Int) ∧ i ≤ j ∧ j ≤ s.size ∧ dp ≤ j ∧ Hid (styE s i 0 = styE s j dp) ∧ SB true A w w.heap.size s m (j : Int) ts fs al gl cl go co ga ca wr) (fun _ wr => s.size - posOf w.heap.size wr)
  case atStart => exact ⟨i, 0, rfl, Nat.le_refl _, hi, by omega, Lib.hid rfl, HS0⟩
  case round =>
    obtain ⟨j, dp, rfl, hij, hjs, hdj, HW, HS1⟩ := hrel
    clear HS0
    obtain ⟨d0, d1, d2, d3, d4, d5, d6, d7⟩ := HS1.bx.cells
    have df := HS1.bx.free
    have HEG := Lib.hid (fun (j : Nat) (W : World) => rends_any (s := s) (m := m) (gl := gl) (nl := ts.length) (cl := cl) (go := go) (no := fs.length) (co := co) (ga := ga) (na := al.length) (ca := ca) (w := W) j 0 0)
    have HE := Lib.hid (HEG.out j)
    by_cases hlt : j < s.size
    rotate_left
    focus
      have eE : decide (s.size ≤ j) = true := by simp; omega
      have HR : Hid (styM s op i ts fs al = .er 190 op) := Lib.hid (by rw [styM, HW.out, styE, dif_neg hlt])
      go_wp2_with (go_at_call 32; refine (HE.out _).mono ?_; rintro e' W2 ⟨rfl, hb2⟩; have HS2 := HS1.later hb2; clear d0 d1 d2 d3 d4 d5 d6 d7 df; obtain ⟨d0, d1, d2, d3, d4, d5, d6, d7⟩ := HS2.bx.cells; have df := HS2.bx.free)
      refine (rfails_any (j : Nat) 190 op HS2.ro).mono ?_
      rintro e' W30 ⟨v, rfl, gl30, cl30, go30, co30, ga30, ca30, rfl, hro30, hk30⟩
      go_wp2_with (with_reducible refine gate_lx (p := 4) rfl ?_; refine wp_fill (HS2.rb.kr hk30) rfl rfl rfl rfl rfl ?_; intro W31 f31 hr31)
      refine bodyPost_ret (bx_ret rfl rfl hr31) rfl ?_
      refine ⟨_, rfl, ?_⟩
      rw [HR.out]
      exact ⟨_, _, _, _, gl30, cl30, go30, co30, ga30, ca30, rfl, hro30.fl (HS2.rb.kr hk30) f31 (by omega), (HS2.kr.trans hk30.mono).fl f31 (by omega)⟩
    rotate_right
    have eE : decide (s.size ≤ j) = false := by simp; omega
    have hlt' : (j : Int) < s.size := by omega
    have HB8 := Lib.hid (b8_at s j hlt)
    have HSE : Hid (styE s j dp = if P.b8 s j = 39 then styE s (skipQ s (j + 1) + 1) dp
      else if P.b8 s j = 123 then styE s (j + 1) (dp + 1)
      else if P.b8 s j = 125 then if dp = 0 then some j else styE s (j + 1) (dp - 1)
      else styE s (j + 1) dp) := Lib.hid (by rw [styE, dif_pos hlt])
    have eS : IntKind.i64.wrap ((j : Int) + 1) = ((j + 1 : Nat) : Int) := by rw [IntWalk.i64_in _ (by omega)]; omega
    by_cases h39 : (s[j]'hlt).toNat = 39
    · have e39 : (((s[j]'hlt).toNat : Int) == 39) = true := by simp; omega
      have HG : Hid (styE s i 0 = styE s (skipQ s (j + 1) + 1) dp) := Lib.hid (by rw [HW.out, HSE.out, if_pos (by rw [HB8.out]; exact h39)])
      go_wp2_with (go_at_call 32; refine (HE.out _).mono ?_; rintro e' W2 ⟨rfl, hb2⟩; have HS2 := HS1.later hb2; clear d0 d1 d2 d3 d4 d5 d6 d7 df; obtain ⟨d0, d1, d2, d3, d4, d5, d6, d7⟩ := HS2.bx.cells; have df := HS2.bx.free)
      obtain ⟨wo, hwo⟩ : ∃ wo : World, wo = wr := ⟨_, rfl⟩
      subst hwo
      go_loopw [7] (fun v7 wk => ∃ k : Nat, v7 = .int .i64 (k : Int) ∧ j + 1 ≤ k ∧ k ≤ s.size ∧ Hid (skipQ s (j + 1) = skipQ s k) ∧ SB true A w w.heap.size s m (j : Int) ts fs al gl cl go co ga ca wk) (fun v7 _ => s.size - valN v7)
      case atStart => exact ⟨j + 1, by rfl, Nat.le_refl _, by omega, Lib.hid rfl, HS2⟩
      case round =>
        obtain ⟨k, rfl, hjk, hks, HK, HS3⟩ := hrel
        clear d0 d1 d2 d3 d4 d5 d6 d7 df
        obtain ⟨d0, d1, d2, d3, d4, d5, d6, d7⟩ := HS3.bx.cells; have df := HS3.bx.free
        have HS4 := HS3.set2 hA (Nat.le_refl _) (k : Int)
        have HE2 := Lib.hid (HEG.out k)
        by_cases hlk : k < s.size
        · have hlk' : (k : Int) < s.size := by omega
          have dk : decide ((k : Int) < (s.size : Int)) = true := by simpa using hlk'
          have HK8 := Lib.hid (b8_at s k hlk)
          by_cases hk39 : (s[k]'hlk).toNat = 39
          · have ek : (((s[k]'hlk).toNat : Int) != 39) = false := by simp; omega
            have eEk : decide (s.size ≤ k) = false := by simp; omega
            have HG2 : Hid (styE s i 0 = styE s (k + 1) dp) := Lib.hid (by rw [HG.out, HK.out, skipQ, if_pos hlk, if_pos (by rw [HK8.out]; exact hk39)])
            have eSk : IntKind.i64.wrap ((k : Int) + 1) = ((k + 1 : Nat) : Int) := by rw [IntWalk.i64_in _ (by omega)]; omega
            go_wp2_with (go_at_call 32; refine (HE2.out _).mono ?_; rintro e' W5 ⟨rfl, hb5⟩; have HS5 := HS4.later hb5; clear d0 d1 d2 d3 d4 d5 d6 d7 df; obtain ⟨d0, d1, d2, d3, d4, d5, d6, d7⟩ := HS5.bx.cells; have df := HS5.bx.free)
            have HN : SB true A w w.heap.size s m ((k + 1 : Nat) : Int) ts fs al gl cl go co ga ca (W5.setCell ⟨w.heap.size, 2, none⟩ (.int .i64 (((k : Nat) : Int) + 1))) := (HS5.set2 hA (Nat.le_refl _) (((k : Nat) : Int) + 1)).cast (by omega)
            go_roundw
            case rel => exact ⟨k + 1, dp, rfl, by omega, by omega, by omega, HG2, HN⟩
            case measure => rw [HS1.pos, HN.pos]; omega
          · have ek : (((s[k]'hlk).toNat : Int) != 39) = true := by simp; omega
            have HK2 : Hid (skipQ s (j + 1) = skipQ s (k + 1)) := Lib.hid (by rw [HK.out, skipQ, if_pos hlk, if_neg (by rw [HK8.out]; exact hk39)])
            have eSk : IntKind.i64.wrap ((k : Int) + 1) = ((k + 1 : Nat) : Int) := by rw [IntWalk.i64_in _ (by omega)]; omega
            go_wp2_with fail
            go_roundw
            case rel => exact ⟨k + 1, by rfl, by omega, by omega, HK2, HS3⟩
            case measure => simp [valN]; omega
        · have dk : decide ((k : Int) < (s.size : Int)) = false := by simp; omega
          have eEk : decide (s.size ≤ k) = true := by simp; omega
          have HG2 : Hid (styE s i 0 = styE s k dp) := Lib.hid (by rw [HG.out, HK.out, skipQ, if_neg hlk, styE, dif_neg (by omega), styE, dif_neg hlk])
          go_wp2_with (go_at_call 32; refine (HE2.out _).mono ?_; rintro e' W5 ⟨rfl, hb5⟩; have HS5 := HS4.later hb5; clear d0 d1 d2 d3 d4 d5 d6 d7 df; obtain ⟨d0, d1, d2, d3, d4, d5, d6, d7⟩ := HS5.bx.cells; have df := HS5.bx.free)
          go_roundw
          case rel => exact ⟨k, dp, rfl, by omega, by omega, by omega, HG2, HS5⟩
          case measure => rw [HS1.pos, HS5.pos]; omega
    have e39 : (((s[j]'hlt).toNat : Int) == 39) = false := by simp; omega
    by_cases h123 : (s[j]'hlt).toNat = 123
    · have e123 : (((s[j]'hlt).toNat : Int) == 123) = true := by simp; omega
      have eD : IntKind.i64.wrap ((dp : Int) + 1) = ((dp + 1 : Nat) : Int) := by rw [IntWalk.i64_in _ (by omega)]; omega
      have HG : Hid (styE s i 0 = styE s (j + 1) (dp + 1)) := Lib.hid (by rw [HW.out, HSE.out, if_neg (by rw [HB8.out]; exact h39), if_pos (by rw [HB8.out]; exact h123)])
      go_wp2_with (first
        | (go_at_call 32; refine (HE.out _).mono ?_; rintro e' W2 ⟨rfl, hb2⟩; have HS2 := HS1.later hb2; clear d0 d1 d2 d3 d4 d5 d6 d7 df; obtain ⟨d0, d1, d2, d3, d4, d5, d6, d7⟩ := HS2.bx.cells; have df := HS2.bx.free)
        | (go_at_call 32; refine (HE.out _).mono ?_; rintro e' W3 ⟨rfl, hb3⟩; have HS3 := HS2.later hb3; clear d0 d1 d2 d3 d4 d5 d6 d7 df; obtain ⟨d0, d1, d2, d3, d4, d5, d6, d7⟩ := HS3.bx.cells; have df := HS3.bx.free))
      have HN : SB true A w w.heap.size s m ((j + 1 : Nat) : Int) ts fs al gl cl go co ga ca (W3.setCell ⟨w.heap.size, 2, none⟩ (.int .i64 (((j : Nat) : Int) + 1))) := (HS3.set2 hA (Nat.le_refl _) (((j : Nat) : Int) + 1)).cast (by omega)
      go_roundw
      case rel => exact ⟨j + 1, dp + 1, by rfl, by omega, by omega, by omega, HG, HN⟩
      case measure => rw [HS1.pos, HN.pos]; omega
    have e123 : (((s[j]'hlt).toNat : Int) == 123) = false := by simp; omega
    by_cases h125 : (s[j]'hlt).toNat = 125
    · have e125 : (((s[j]'hlt).toNat : Int) == 125) = true := by simp; omega
      by_cases hd : dp = 0
      · subst hd
        have HG : Hid (styE s i 0 = some j) := Lib.hid (by rw [HW.out, HSE.out, if_neg (by rw [HB8.out]; exact h39), if_neg (by rw [HB8.out]; exact h123), if_pos (by rw [HB8.out]; exact h125), if_pos rfl])
        have hij' : (i : Int) ≤ j := by omega
        have hjs' : (j : Int) ≤ s.size := by omega
        go_wp2_with (go_at_call 32; refine (HE.out _).mono ?_; rintro e' W2 ⟨rfl, hb2⟩; have HS2 := HS1.later hb2; clear d0 d1 d2 d3 d4 d5 d6 d7 df; obtain ⟨d0, d1, d2, d3, d4, d5, d6, d7⟩ := HS2.bx.cells; have df := HS2.bx.free)
        have hzz : (s.extract i j).size ≤ 100000 := by simp [ByteArray.size_extract]; omega
        refine (HT (s.extract i j) _ (HS2.ro.glh hG) hzz).mono ?_
        rintro e' W3 ⟨rfl, hb3⟩
        have HS3 := HS2.later hb3
        clear d0 d1 d2 d3 d4 d5 d6 d7 df
        obtain ⟨d0, d1, d2, d3, d4, d5, d6, d7⟩ := HS3.bx.cells; have df := HS3.bx.free
        by_cases ht0 : (trimP (s.extract i j)).toList = []
        · have HR : Hid (styM s op i ts fs al = .er 191 ((j : Nat) : Int)) := Lib.hid (by rw [styM, HG.out]; exact if_pos ((tlNil _).1 ht0))
          go_wp2_with fail
          refine (rfails_any (j : Nat) 191 (j : Nat) HS3.ro).mono ?_
          rintro e' W30 ⟨v, rfl, gl30, cl30, go30, co30, ga30, ca30, rfl, hro30, hk30⟩
          go_wp2_with (with_reducible refine gate_lx (p := 4) rfl ?_; refine wp_fill (HS3.rb.kr hk30) rfl rfl rfl rfl rfl ?_; intro W31 f31 hr31)
          refine bodyPost_ret (bx_ret rfl rfl hr31) rfl ?_
          refine ⟨_, rfl, ?_⟩
          rw [HR.out]
          exact ⟨_, _, _, _, gl30, cl30, go30, co30, ga30, ca30, rfl, hro30.fl (HS3.rb.kr hk30) f31 (by omega), (HS3.kr.trans hk30.mono).fl f31 (by omega)⟩
        · have hbb := blanks_bd s i hi
          have HR : Hid (styM s op i ts fs al = .ok j (ts ++ [(8, trimP (s.extract i j), ((P.blanks s i : Nat) : Int))]) fs al) := Lib.hid (by rw [styM, HG.out]; exact if_neg (fun h => ht0 ((tlNil _).2 h)))
          have HB := Lib.hid (fun (W : World) (hG : GlH W) => Blank_any (s := s) i hG (by omega) (by omega))
          have eB : IntKind.i64.wrap ((i : Int) + ((P.blanks s i - i : Nat) : Int)) = ((P.blanks s i : Nat) : Int) := by rw [IntWalk.i64_in _ (by omega)]; omega
          have hwb : 0 ≤ ((P.blanks s i - i : Nat) : Int) := by omega
          have hbe : (trimP (s.extract i j)).toList.isEmpty = false := by simpa using ht0
          obtain ⟨ts2, hts2⟩ : ∃ ts2, ts2 = ts ++ [(8, trimP (s.extract i j), ((P.blanks s i : Nat) : Int))] := ⟨_, rfl⟩
          have HPUT : Hid (∀ W, RO A ts fs al gl cl go co ga ca W → Calls Tryz.prog 47 #[lxV s m ((j : Nat) : Int) (.slice gl ts.length cl) (.slice go fs.length co) 0 0 (.slice ga al.length ca), .int .i64 8, .string (trimP (s.extract i j)), .int .i64 ((P.blanks s i : Nat) : Int)] W fun e w' => ∃ v, e = .returned v ∧ RP false A s m W ((j : Nat) : Int) ts2 fs al 0 0 v w') := Lib.hid (fun W h => by rw [hts2]; exact rput_any (s := s) (m := m) (j : Nat) 8 (trimP (s.extract i j)) ((P.blanks s i : Nat) : Int) h (by omega))
          rw [← hts2] at HR
          have HTS := Lib.hid hts2
          clear hts2
          go_wp2_with fail
          go_region_with (first
            | (go_at_call 67; refine (HB.out _ (HS3.drew.ro.glh hG)).mono ?_; rintro e' W4 ⟨rfl, hb4⟩; have HS4 := HS3.drew.later hb4; clear d0 d1 d2 d3 d4 d5 d6 d7 df; obtain ⟨d0, d1, d2, d3, d4, d5, d6, d7⟩ := HS4.bx.cells; have df := HS4.bx.free)
            | (go_at_call 47; refine (HPUT.out _ HS4.ro).mono ?_; rintro e' W5 ⟨v, rfl, gl5, cl5, go5, co5, ga5, ca5, rfl, hro5, hk5⟩; have hrb5 := HS4.rb.kr hk5; obtain ⟨q0, q1, q2, q3, q4, q5, q6, q7⟩ := hrb5.cells; have qf := hrb5.free))
          all_goals
            go_wp2_with fail
            refine (?_ : bodyPost _ _ _ _ _ (fill8 (w.heap.size + 1) s m ((j : Nat) : Int) (.slice gl5 ts2.length cl5) (.slice go5 fs.length co5) 0 0 (.slice ga5 al.length ca5) W5))
            obtain ⟨f1, f2, f3⟩ := fin8 (fb := true) s m ((j : Nat) : Int) (.slice gl5 ts2.length cl5) (.slice go5 fs.length co5) 0 0 (.slice ga5 al.length ca5) hro5 hrb5 (HS4.kr.trans hk5.mono) (by omega) (by omega)
            refine bodyPost_ret (bx_ret rfl rfl f1) rfl ?_
            refine ⟨_, rfl, ?_⟩
            rw [HR.out]
            exact ⟨gl5, cl5, go5, co5, ga5, ca5, rfl, f2, f3⟩
      · have eD0 : ((dp : Int) == 0) = false := by simp; omega
        have eD : IntKind.i64.wrap ((dp : Int) - 1) = ((dp - 1 : Nat) : Int) := by rw [IntWalk.i64_in _ (by omega)]; omega
        have HG : Hid (styE s i 0 = styE s (j + 1) (dp - 1)) := Lib.hid (by rw [HW.out, HSE.out, if_neg (by rw [HB8.out]; exact h39), if_neg (by rw [HB8.out]; exact h123), if_pos (by rw [HB8.out]; exact h125), if_neg hd])
        go_wp2_with (first
        | (go_at_call 32; refine (HE.out _).mono ?_; rintro e' W2 ⟨rfl, hb2⟩; have HS2 := HS1.later hb2; clear d0 d1 d2 d3 d4 d5 d6 d7 df; obtain ⟨d0, d1, d2, d3, d4, d5, d6, d7⟩ := HS2.bx.cells; have df := HS2.bx.free)
        | (go_at_call 32; refine (HE.out _).mono ?_; rintro e' W3 ⟨rfl, hb3⟩; have HS3 := HS2.later hb3; clear d0 d1 d2 d3 d4 d5 d6 d7 df; obtain ⟨d0, d1, d2, d3, d4, d5, d6, d7⟩ := HS3.bx.cells; have df := HS3.bx.free))
        have HN : SB true A w w.heap.size s m ((j + 1 : Nat) : Int) ts fs al gl cl go co ga ca (W3.setCell ⟨w.heap.size, 2, none⟩ (.int .i64 (((j : Nat) : Int) + 1))) := (HS3.set2 hA (Nat.le_refl _) (((j : Nat) : Int) + 1)).cast (by omega)
        go_roundw
        case rel => exact ⟨j + 1, dp - 1, by rfl, by omega, by omega, by omega, HG, HN⟩
        case measure => rw [HS1.pos, HN.pos]; omega
    have e125 : (((s[j]'hlt).toNat : Int) == 125) = false := by simp; omega
    have HG : Hid (styE s i 0 = styE s (j + 1) dp) := Lib.hid (by rw [HW.out, HSE.out, if_neg (by rw [HB8.out]; exact h39), if_neg (by rw [HB8.out]; exact h123), if_neg (by rw [HB8.out]; exact h125)])
    go_wp2_with (first
        | (go_at_call 32; refine (HE.out _).mono ?_; rintro e' W2 ⟨rfl, hb2⟩; have HS2 := HS1.later hb2; clear d0 d1 d2 d3 d4 d5 d6 d7 df; obtain ⟨d0, d1, d2, d3, d4, d5, d6, d7⟩ := HS2.bx.cells; have df := HS2.bx.free)
        | (go_at_call 32; refine (HE.out _).mono ?_; rintro e' W3 ⟨rfl, hb3⟩; have HS3 := HS2.later hb3; clear d0 d1 d2 d3 d4 d5 d6 d7 df; obtain ⟨d0, d1, d2, d3, d4, d5, d6, d7⟩ := HS3.bx.cells; have df := HS3.bx.free))
    have HN : SB true A w w.heap.size s m ((j + 1 : Nat) : Int) ts fs al gl cl go co ga ca (W3.setCell ⟨w.heap.size, 2, none⟩ (.int .i64 (((j : Nat) : Int) + 1))) := (HS3.set2 hA (Nat.le_refl _) (((j : Nat) : Int) + 1)).cast (by omega)
    go_roundw
    case rel => exact ⟨j + 1, dp, rfl, by omega, by omega, by omega, HG, HN⟩
    case measure => rw [HS1.pos, HN.pos]; omega
end
end Go.Proofs.YtcnhklcbibpjpaaGreatDoor
