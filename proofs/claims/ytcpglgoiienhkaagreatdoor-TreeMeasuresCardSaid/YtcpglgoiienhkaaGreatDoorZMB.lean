/- Lemmas behind the laws of messages; no conditions. -/
import Derived.Test.YtcpglgoiienhkaaGreatDoorProg
import Derived.Test.YtcpglgoiienhkaaGreatDoorZMA
import Derived.WalkKit
import Derived.Deep.DeepMust
import Derived.Outline
import Derived.BigQuiet
import Derived.Deep.QuietTactic
import Derived.Deep.RegionHeld3
import Derived.Deep.LoopGhost
import Derived.Lib.Hide
set_option linter.unusedVariables false
set_option linter.unusedSimpArgs false

namespace Go.Proofs.YtcpglgoiienhkaaGreatDoor
open Go.RowKit P
theorem ret_bool {a b : Bool} (h : a = b) : Ending.returned (.bool a) = .returned (.bool b) := by rw [h]
theorem Space_any (r : Int) (w : World) : Calls Tryz.prog 109 #[.int .i32 r] w fun e w' => e = .returned (.bool (spB r)) ∧ w' = w := by
  go_enter Tryz.func109, Tryz.ntmps109
  go_wp2
  all_goals
    go_ret
    refine ⟨ret_bool ?_, rfl⟩
    simp_all [spB]
end Go.Proofs.YtcpglgoiienhkaaGreatDoor
namespace Go.Proofs.YtcpglgoiienhkaaGreatDoor
open Go.RowKit P
set_option maxRecDepth 100000 in
set_option maxHeartbeats 4000000 in
theorem Syntax_any1 (r : Int) (w : World) (h : r < 128) : Calls Tryz.prog 110 #[.int .i32 r] w fun e w' => e = .returned (.bool (syB r)) ∧ w' = w := by
  go_enter Tryz.func110, Tryz.ntmps110
  go_wp2
  all_goals
    go_ret
    refine ⟨congrArg (fun b => Ending.returned (.bool b)) ?_, rfl⟩
    rw [Bool.eq_iff_iff]
    simp only [syB, Bool.or_eq_true, Bool.and_eq_true, decide_eq_true_eq, beq_iff_eq, bne_iff_ne, ne_eq, reduceCtorEq, Bool.false_eq_true, true_iff, false_iff]
    first | omega | (rename_i hq; simp only [beq_iff_eq] at hq; omega) | (simp_all; done) | (simp; omega) | (rename_i hp hq; simp only [beq_iff_eq] at hp; omega) | (rename_i ho hp hq; simp only [beq_iff_eq] at ho; omega) | (go_ways; simp at *; omega)
set_option maxRecDepth 100000 in
set_option maxHeartbeats 4000000 in
theorem Syntax_any2 (r : Int) (w : World) (h : ¬ r < 128) (h2 : r < 256) : Calls Tryz.prog 110 #[.int .i32 r] w fun e w' => e = .returned (.bool (syB r)) ∧ w' = w := by
  go_enter Tryz.func110, Tryz.ntmps110
  go_wp2
  all_goals
    go_ret
    refine ⟨congrArg (fun b => Ending.returned (.bool b)) ?_, rfl⟩
    rw [Bool.eq_iff_iff]
    simp only [syB, Bool.or_eq_true, Bool.and_eq_true, decide_eq_true_eq, beq_iff_eq, bne_iff_ne, ne_eq, reduceCtorEq, Bool.false_eq_true, true_iff, false_iff]
    first | omega | (rename_i hq; simp only [beq_iff_eq] at hq; omega) | (simp_all; done) | (simp; omega) | (rename_i hp hq; simp only [beq_iff_eq] at hp; omega) | (rename_i ho hp hq; simp only [beq_iff_eq] at ho; omega) | (go_ways; simp at *; omega)
set_option maxRecDepth 100000 in
set_option maxHeartbeats 4000000 in
theorem Syntax_any3 (r : Int) (w : World) (h : ¬ r < 128) (h2 : ¬ r < 256) (h3 : r < 11904) : Calls Tryz.prog 110 #[.int .i32 r] w fun e w' => e = .returned (.bool (syB r)) ∧ w' = w := by
  go_enter Tryz.func110, Tryz.ntmps110
  go_wp2
  all_goals
    go_ret
    refine ⟨congrArg (fun b => Ending.returned (.bool b)) ?_, rfl⟩
    rw [Bool.eq_iff_iff]
    simp only [syB, Bool.or_eq_true, Bool.and_eq_true, decide_eq_true_eq, beq_iff_eq, bne_iff_ne, ne_eq, reduceCtorEq, Bool.false_eq_true, true_iff, false_iff]
    first | omega | (rename_i hq; simp only [beq_iff_eq] at hq; omega) | (simp_all; done) | (simp; omega) | (rename_i hp hq; simp only [beq_iff_eq] at hp; omega) | (rename_i ho hp hq; simp only [beq_iff_eq] at ho; omega) | (go_ways; simp at *; omega)
set_option maxRecDepth 100000 in
set_option maxHeartbeats 4000000 in
theorem Syntax_any4 (r : Int) (w : World) (h : ¬ r < 128) (h2 : ¬ r < 256) (h3 : ¬ r < 11904) : Calls Tryz.prog 110 #[.int .i32 r] w fun e w' => e = .returned (.bool (syB r)) ∧ w' = w := by
  go_enter Tryz.func110, Tryz.ntmps110
  go_wp2
  all_goals
    go_ret
    refine ⟨congrArg (fun b => Ending.returned (.bool b)) ?_, rfl⟩
    rw [Bool.eq_iff_iff]
    simp only [syB, Bool.or_eq_true, Bool.and_eq_true, decide_eq_true_eq, beq_iff_eq, bne_iff_ne, ne_eq, reduceCtorEq, Bool.false_eq_true, true_iff, false_iff]
    first | omega | (rename_i hq; simp only [beq_iff_eq] at hq; omega) | (simp_all; done) | (simp; omega) | (rename_i hp hq; simp only [beq_iff_eq] at hp; omega) | (rename_i ho hp hq; simp only [beq_iff_eq] at ho; omega) | (go_ways; simp at *; omega)
theorem Syntax_any (r : Int) (w : World) : Calls Tryz.prog 110 #[.int .i32 r] w fun e w' => e = .returned (.bool (syB r)) ∧ w' = w := by
  by_cases h : r < 128
  · exact Syntax_any1 r w h
  · by_cases h2 : r < 256
    · exact Syntax_any2 r w h h2
    · by_cases h3 : r < 11904
      · exact Syntax_any3 r w h h2 h3
      · exact Syntax_any4 r w h h2 h3
end Go.Proofs.YtcpglgoiienhkaaGreatDoor
namespace Go.Proofs.YtcpglgoiienhkaaGreatDoor
open Go.RowKit P
def hereB (s : ByteArray) (i : Nat) (t : List UInt8) : Bool := Lib.hasPrefix (s.data.toList.drop i) t
theorem here_any {n0 X : Nat} {s : ByteArray} {m e at_ : Int} {al : List Nat} {yv : Value} {W : World} {i : Nat} (t : ByteArray) (h : Lx n0 X s m i e at_ al yv W) (hi : i ≤ s.size) :
    Calls Tryz.prog 142 #[.pointer (some ⟨X, 0, none⟩), .string t] W fun e W' => e = .returned (.bool (hereB s i t.data.toList)) ∧ ∃ n, W' = W.drewN n := by
  obtain ⟨low, glob, sz, aln, v, hc, ho⟩ := h
  obtain ⟨c0, c1, c2, c3, c4, c5, c6⟩ := hc.cells
  clear hc ho glob
  have hz : s.size ≤ 9223372036854775807 := by omega
  have hi' : (i : Int) ≤ s.size := by omega
  go_enter Tryz.func142, Tryz.ntmps142
  go_wp2
  go_quiet ((go_at_call 161; exact Calls.quiet_of_same (Tryz.strings_HasPrefix _ _ _)))
  go_wp2
  go_ret
  refine ⟨?_, _, rfl⟩
  rw [hereB, Lib.extract_to_end]
  rfl
def posOf (X : Nat) (W : World) : Nat := match W.cell? ⟨X, 2, none⟩ with | some v => (intOf v).toNat | none => 0
theorem posOf_eq {n0 X : Nat} {s : ByteArray} {m e at_ : Int} {al : List Nat} {yv : Value} {W : World} {i : Nat} (h : Lx n0 X s m i e at_ al yv W) : posOf X W = i := by
  obtain ⟨low, glob, sz, aln, v, hc, ho⟩ := h
  rw [posOf, hc.cells.2.2.1]; simp [intOf]
theorem decodeGo_at (s : ByteArray) (i : Nat) (h : i < s.size) : Lib.decodeGo (s.extract i s.size) = Utf8.decode s i := by
  have hs : (s.extract i s.size).size = s.size - i := by simp [ByteArray.size_extract]
  rw [Lib.decodeGo, if_neg (by omega), Lib.tail_decode, Nat.add_zero]
structure LK (n0 X : Nat) (s : ByteArray) (m : Int) (i : Nat) (e at_ : Int) (al : List Nat) (yv : Value) (A W : World) : Prop where
  lx : Lx n0 X s m i e at_ al yv W
  kept : Kept n0 X A W
theorem LK.drew {n0 X : Nat} {s : ByteArray} {m e at_ : Int} {al : List Nat} {yv : Value} {A W : World} {i : Nat} (h : LK n0 X s m i e at_ al yv A W) : LK n0 X s m i e at_ al yv A W.drew := ⟨h.1.drew, h.2.drew⟩
theorem LK.drewN {n0 X : Nat} {s : ByteArray} {m e at_ : Int} {al : List Nat} {yv : Value} {A W : World} {i : Nat} (h : LK n0 X s m i e at_ al yv A W) (k : Nat) : LK n0 X s m i e at_ al yv A (W.drewN k) := ⟨h.1.drewN k, h.2.drewN k⟩
def LS (n0 X : Nat) (s : ByteArray) (m : Int) (i : Nat) (e at_ : Int) (al : List Nat) (yv : Value) (A W : World) : Prop :=
  W.cell? ⟨X, 0, none⟩ = some (.string s) ∧ W.cell? ⟨X, 2, none⟩ = some (.int .i64 i) ∧ W.frozen? ⟨X, 2, none⟩ = false ∧ LK n0 X s m i e at_ al yv A W
theorem LK.cells {n0 X : Nat} {s : ByteArray} {m e at_ : Int} {al : List Nat} {yv : Value} {A W : World} {i : Nat} (h : LK n0 X s m i e at_ al yv A W) :
    W.cell? ⟨X, 0, none⟩ = some (.string s) ∧ W.cell? ⟨X, 1, none⟩ = some (.int .i64 m) ∧ W.cell? ⟨X, 2, none⟩ = some (.int .i64 i) ∧ W.cell? ⟨X, 3, none⟩ = some (.int .i64 e) ∧ W.cell? ⟨X, 4, none⟩ = some (.int .i64 at_) ∧ W.cell? ⟨X, 6, none⟩ = some yv ∧ ∀ j, W.frozen? ⟨X, j, none⟩ = false := by
  obtain ⟨⟨low, glob, sz, aln, v, hc, ho⟩, _⟩ := h
  obtain ⟨c0, c1, c2, c3, c4, c5, c6⟩ := hc.cells
  exact ⟨c0, c1, c2, c3, c4, c6, hc.free⟩
theorem LK.later {n0 X : Nat} {s : ByteArray} {m e at_ : Int} {al : List Nat} {yv : Value} {A W W' : World} {i : Nat} (h : LK n0 X s m i e at_ al yv A W) (hn : 8 ≤ n0) (hb : Below W.heap.size W W') : LK n0 X s m i e at_ al yv A W' :=
  ⟨h.1.later hn hb, h.2.trans (Kept.ofBelow h.1.le hb)⟩
theorem LK.seti {n0 X : Nat} {s : ByteArray} {m e at_ : Int} {al : List Nat} {yv : Value} {A W : World} {i : Nat} (h : LK n0 X s m i e at_ al yv A W) (hn : 8 ≤ n0) (i' : Nat) (hi : i ≤ i') : LK n0 X s m i' e at_ al yv A (W.setCell ⟨X, 2, none⟩ (.int .i64 i')) :=
  ⟨h.1.seti hn i' (by omega), h.2.setX h.1.low _ _⟩
theorem LK.setv {n0 X : Nat} {s : ByteArray} {m e at_ : Int} {al : List Nat} {yv : Value} {A W : World} {i : Nat} (h : LK n0 X s m i e at_ al yv A W) (hn : 8 ≤ n0) {v : Int} (i' : Nat) (hv : v = i') (hi : i ≤ i') : LK n0 X s m i' e at_ al yv A (W.setCell ⟨X, 2, none⟩ (.int .i64 v)) := by
  subst hv; exact h.seti hn i' hi
theorem decode_at {n0 X : Nat} {s : ByteArray} {m e at_ : Int} {al : List Nat} {yv : Value} {A W : World} {i : Nat} (hn : 8 ≤ n0) (h : LK n0 X s m i e at_ al yv A W) (hi : i < s.size) :
    Calls Tryz.prog 147 #[.string (s.extract i s.size)] W fun e' W' => e' = .returned (.tuple #[.int .i32 (Utf8.decode s i).1, .int .i64 (Utf8.decode s i).2]) ∧ LS n0 X s m i e at_ al yv A W' := by
  refine (Tryz.utf8_DecodeRuneInString _ _ h.lx.glob.tabs).mono ?_
  rintro e' W' ⟨rfl, hb⟩
  rw [decodeGo_at s i hi]
  have h' := h.later hn hb
  obtain ⟨c0, c1, c2, c3, c4, c6, f⟩ := h'.cells
  exact ⟨rfl, c0, c2, f 2, h'⟩
theorem width_le (s : ByteArray) (i : Nat) (h : i < s.size) : i + (Utf8.decode s i).2 ≤ s.size := by
  simp only [Utf8.decode]
  repeat' split
  all_goals simp_all
  all_goals omega
set_option maxHeartbeats 400000 in
theorem blanks_any {n0 X : Nat} {s : ByteArray} {m e at_ : Int} {al : List Nat} {yv : Value} {A W : World} {i : Nat} (hn : 8 ≤ n0) (h : LK n0 X s m i e at_ al yv A W) (hi : i ≤ s.size) :
    Calls Tryz.prog 140 #[.pointer (some ⟨X, 0, none⟩)] W fun e' W' => e' = .returned (.tuple #[]) ∧ LK n0 X s m (blanks s i) e at_ al yv A W' := by
  have hz : s.size ≤ 65536 := h.1.sz
  go_enter Tryz.func140, Tryz.ntmps140
  go_wp2
  go_loopw [2] (fun _ wr => ∃ j : Nat, i ≤ j ∧ j ≤ s.size ∧ Hid (blanks s i = blanks s j) ∧ LK n0 X s m j e at_ al yv A wr) (fun _ wr => s.size - posOf X wr)
  case atStart => exact ⟨i, Nat.le_refl _, hi, Lib.hid rfl, h⟩
  case round =>
    obtain ⟨j, hj1, hj2, HB, HL⟩ := hrel
    obtain ⟨c0, c1, c2, c3, c4, c6, f⟩ := HL.cells
    have f2 := f 2
    clear f
    by_cases hlt : j < s.size
    · have hlt' : (j : Int) < s.size := by omega
      have d1 : decide ((j : Int) < (s.size : Int)) = true := by simpa using hlt'
      have hj' : (j : Int) ≤ s.size := by omega
      go_wp2_with fail
      go_quiet (fail)
      go_wp2_with fail
      go_region_held3 (fun w' => w'.cell? ⟨X, 0, none⟩ = some (.string s) ∧ w'.cell? ⟨X, 2, none⟩ = some (.int .i64 (j : Int)) ∧ LK n0 X s m j e at_ al yv A w') (first | exact ⟨c0, c2, HL⟩ | exact ⟨c0, c2, HL.drew⟩ | exact ⟨c0, c2, (HL.drewN _).drew⟩ | exact ⟨by assumption, by assumption, by assumption⟩) (first | (go_at_call 147; refine (decode_at hn (?_ : LK n0 X s m j e at_ al yv A _) hlt).mono ?_; (first | exact (HL.drewN _).drew | exact HL.drew | assumption); rintro e' W' ⟨rfl, g0, g2, gf, HL2⟩))
      have hw1 := width_pos s j hlt
      have hw4 := width_le s j hlt
      have hsp0 : spB (Utf8.decode s j).1 = true ∨ spB (Utf8.decode s j).1 = false := by cases spB (Utf8.decode s j).1 <;> simp
      rcases hsp0 with hsp | hsp
      · have HB2 : Hid (blanks s j = blanks s (j + (Utf8.decode s j).2)) := Lib.hid (by rw [blanks, dif_pos hlt, if_pos hsp])
        generalize (Utf8.decode s j).2 = wd at *
        go_wp2_with (go_at_call 109; refine (Space_any _ _).mono ?_; rintro e w' ⟨rfl, rfl⟩)
        have HN := HL2.setv hn (v := (j : Int) + (wd : Int)) (j + wd) (by omega) (by omega)
        go_roundw
        case rel => exact ⟨j + wd, by omega, by omega, Lib.hid (HB.out.trans HB2.out), HN⟩
        case measure =>
          rw [posOf_eq HL.lx, posOf_eq HN.lx]
          omega
      · have HB2 : Hid (blanks s j = j) := Lib.hid (by rw [blanks, dif_pos hlt, if_neg (by rw [hsp]; decide)])
        go_wp2_with (go_at_call 109; refine (Space_any _ _).mono ?_; rintro e w' ⟨rfl, rfl⟩)
        refine bodyPost_ret (results_none rfl _ _ _) rfl ⟨rfl, ?_⟩
        rw [HB.out, HB2.out]; exact HL2
    · have HB2 : Hid (blanks s j = j) := Lib.hid (by rw [blanks, dif_neg hlt])
      have hlt' : ¬ (j : Int) < s.size := by omega
      have d1 : decide ((j : Int) < (s.size : Int)) = false := by simpa using hlt'
      go_wp2_with fail
      go_quiet (fail)
      go_wp2_with fail
      go_end0
      refine ⟨rfl, ?_⟩
      rw [HB.out, HB2.out]; exact HL.drewN _
end Go.Proofs.YtcpglgoiienhkaaGreatDoor
namespace Go.Proofs.YtcpglgoiienhkaaGreatDoor
open Go.RowKit P
theorem LK.setE {n0 X : Nat} {s : ByteArray} {m e at_ : Int} {al : List Nat} {yv : Value} {A W : World} {i : Nat} (h : LK n0 X s m i e at_ al yv A W) (hn : 8 ≤ n0) (e' : Int) : LK n0 X s m i e' at_ al yv A (W.setCell ⟨X, 3, none⟩ (.int .i64 e')) :=
  ⟨h.lx.setE hn e', h.kept.setX h.lx.low _ _⟩
theorem LK.setA {n0 X : Nat} {s : ByteArray} {m e at_ : Int} {al : List Nat} {yv : Value} {A W : World} {i : Nat} (h : LK n0 X s m i e at_ al yv A W) (hn : 8 ≤ n0) (a' : Int) : LK n0 X s m i e a' al yv A (W.setCell ⟨X, 4, none⟩ (.int .i64 a')) :=
  ⟨h.lx.setA hn a', h.kept.setX h.lx.low _ _⟩
set_option maxHeartbeats 400000 in
theorem fails_any {n0 X : Nat} {s : ByteArray} {m : Int} {al : List Nat} {yv : Value} {A W : World} {i : Nat} (pl op : Int) (hn : 8 ≤ n0) (h : LK n0 X s m i 0 0 al yv A W) :
    Calls Tryz.prog 104 #[.pointer (some ⟨X, 0, none⟩), .int .i64 pl, .int .i64 op] W fun e' W' => e' = .returned (.bool false) ∧ LK n0 X s m i (if (s.size : Int) ≤ pl then 190 else 191) (if (s.size : Int) ≤ pl then op else pl) al yv A W' := by
  obtain ⟨c0, c1, c2, c3, c4, c6, f⟩ := h.cells
  have f3 := f 3
  have f4 := f 4
  clear f
  have h1 := (h.setE hn 191).setA hn pl
  obtain ⟨d0, d1, d2, d3, d4, d6, g⟩ := h1.cells
  clear d1 d2 d3 d4 d6
  have g3 := g 3
  have g4 := g 4
  clear g
  by_cases hp : (s.size : Int) ≤ pl
  · rw [if_pos hp, if_pos hp]
    have d : decide ((s.size : Int) ≤ pl) = true := by simpa using hp
    go_enter Tryz.func104, Tryz.ntmps104
    go_wp2
    go_ret
    exact ⟨rfl, (h1.setE hn 190).setA hn op⟩
  · rw [if_neg hp, if_neg hp]
    have d : decide ((s.size : Int) ≤ pl) = false := by simpa using hp
    go_enter Tryz.func104, Tryz.ntmps104
    go_wp2
    go_ret
    exact ⟨rfl, h1⟩
set_option maxHeartbeats 400000 in
theorem word_any {n0 X : Nat} {s : ByteArray} {m e at_ : Int} {al : List Nat} {yv : Value} {A W : World} {i : Nat} (hn : 8 ≤ n0) (h : LK n0 X s m i e at_ al yv A W) (hi : i ≤ s.size) :
    Calls Tryz.prog 141 #[.pointer (some ⟨X, 0, none⟩)] W fun e' W' => e' = .returned (.string (s.extract i (wordEnd s i))) ∧ LK n0 X s m (wordEnd s i) e at_ al yv A W' := by
  have hz : s.size ≤ 65536 := h.lx.sz
  obtain ⟨c0, c1, c2, c3, c4, c6, f⟩ := h.cells
  clear f
  go_enter Tryz.func141, Tryz.ntmps141
  go_wp2
  clear c0 c1 c2 c3 c4 c6
  go_loopw [4] (fun _ wr => ∃ j : Nat, i ≤ j ∧ j ≤ s.size ∧ Hid (wordEnd s i = wordEnd s j) ∧ LK n0 X s m j e at_ al yv A wr) (fun _ wr => s.size - posOf X wr)
  case atStart => exact ⟨i, Nat.le_refl _, hi, Lib.hid rfl, h⟩
  case round =>
    obtain ⟨j, hj1, hj2, HB, HL⟩ := hrel
    obtain ⟨c0, c1, c2, c3, c4, c6, f⟩ := HL.cells
    clear c1 c3 c4 c6
    have f2 := f 2
    clear f
    by_cases hlt : j < s.size
    · have hlt' : (j : Int) < s.size := by omega
      have d1 : decide ((j : Int) < (s.size : Int)) = true := by simpa using hlt'
      have hj' : (j : Int) ≤ s.size := by omega
      go_wp2_with fail
      go_quiet (fail)
      go_wp2_with fail
      go_region_held3 (fun w' => w'.cell? ⟨X, 0, none⟩ = some (.string s) ∧ w'.cell? ⟨X, 2, none⟩ = some (.int .i64 (j : Int)) ∧ LK n0 X s m j e at_ al yv A w') (first | exact ⟨c0, c2, HL⟩ | exact ⟨c0, c2, HL.drew⟩ | exact ⟨c0, c2, (HL.drewN _).drew⟩ | exact ⟨by assumption, by assumption, by assumption⟩) (first | (go_at_call 147; refine (decode_at hn (?_ : LK n0 X s m j e at_ al yv A _) hlt).mono ?_; (first | exact (HL.drewN _).drew | exact HL.drew | assumption); rintro e' W' ⟨rfl, g0, g2, gf, HL2⟩))
      have hw1 := width_pos s j hlt
      have hw4 := width_le s j hlt
      have HS : Hid (stopB s j = (((Utf8.decode s j).1 : Int) == 65533 && ((Utf8.decode s j).2 : Int) == 1 || spB (Utf8.decode s j).1 || syB (Utf8.decode s j).1)) := Lib.hid rfl
      have HB2 : Hid (wordEnd s j = if stopB s j then j else wordEnd s (j + (Utf8.decode s j).2)) := Lib.hid (by rw [wordEnd, dif_pos hlt])
      generalize (Utf8.decode s j).2 = wd at *
      generalize (Utf8.decode s j).1 = rn at *
      by_cases hst : stopB s j = true
      · have hj0 : (i : Int) ≤ j := by omega
        have hj3 : (j : Int) ≤ s.size := by omega
        have HF : Hid (wordEnd s i = j) := Lib.hid (by rw [HB.out, HB2.out, if_pos hst])
        have HT : Hid (stopB s j = true) := Lib.hid hst
        clear hst HB HB2
        go_wp2_with (first | (go_at_call 109; refine (Space_any _ _).mono ?_; rintro e w' ⟨rfl, rfl⟩) | (go_at_call 110; refine (Syntax_any _ _).mono ?_; rintro e w' ⟨rfl, rfl⟩))
        all_goals first
          | (go_quiet (fail)
             go_wp2_with fail
             go_ret
             rw [HF.out]
             exact ⟨rfl, HL2.drewN _⟩)
          | (exfalso
             have hst := HT.out
             rw [HS.out] at hst
             simp_all
             done)
      · have HF : Hid (wordEnd s i = wordEnd s (j + wd)) := Lib.hid (by rw [HB.out, HB2.out, if_neg hst])
        have HT : Hid (¬ stopB s j = true) := Lib.hid hst
        have HN := HL2.setv hn (v := (j : Int) + (wd : Int)) (j + wd) (by omega) (by omega)
        clear hst HB HB2
        go_wp2_with (first | (go_at_call 109; refine (Space_any _ _).mono ?_; rintro e w' ⟨rfl, rfl⟩) | (go_at_call 110; refine (Syntax_any _ _).mono ?_; rintro e w' ⟨rfl, rfl⟩))
        all_goals first
          | (go_roundw
             case rel => exact ⟨j + wd, by omega, by omega, HF, HN⟩
             case measure =>
               rw [posOf_eq HL.lx, posOf_eq HN.lx]
               omega)
          | (exfalso
             have hst := HT.out
             rw [HS.out] at hst
             simp_all
             done)
    · have HB2 : Hid (wordEnd s j = j) := Lib.hid (by rw [wordEnd, dif_neg hlt])
      have hlt' : ¬ (j : Int) < s.size := by omega
      have d1 : decide ((j : Int) < (s.size : Int)) = false := by simpa using hlt'
      have hj' : (i : Int) ≤ j := by omega
      have hj3 : (j : Int) ≤ s.size := by omega
      go_wp2_with fail
      go_quiet (fail)
      go_wp2_with fail
      go_quiet (fail)
      go_wp2_with fail
      go_ret
      rw [HB.out, HB2.out]
      exact ⟨rfl, (HL.drewN _).drewN _⟩
end Go.Proofs.YtcpglgoiienhkaaGreatDoor
