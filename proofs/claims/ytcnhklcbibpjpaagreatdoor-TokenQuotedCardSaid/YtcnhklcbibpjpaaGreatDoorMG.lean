/- A text as a message has it, in plain Lean. -/
import Derived.Test.YtcnhklcbibpjpaaGreatDoorMF
import Derived.Lib.Replace
import Derived.Lib.IndexBytes
import Derived.Test.YtcnhklcbibpjpaaGreatDoorMC
import Derived.Test.YtcnhklcbibpjpaaGreatDoorPRqux2
set_option linter.unusedVariables false
set_option linter.unusedSimpArgs false

namespace Go.Proofs.YtcnhklcbibpjpaaGreatDoor
open Go.RowKit P Ext

/-- Apostrophes are doubled. -/
def dbl (l : List UInt8) : List UInt8 := l.flatMap fun c => if c = 39 then [39, 39] else [c]
theorem dbl_nil : dbl [] = [] := rfl
theorem dbl_39 (l : List UInt8) : dbl (39 :: l) = 39 :: 39 :: dbl l := by simp [dbl]
theorem dbl_ne {b : UInt8} (h : b ≠ 39) (l : List UInt8) : dbl (b :: l) = b :: dbl l := by simp [dbl, h]
theorem dbl_length (l : List UInt8) : (dbl l).length ≤ 2 * l.length := by
  induction l with
  | nil => simp [dbl]
  | cons b l ih =>
    by_cases h : b = 39
    · subst h; rw [dbl_39]; simp only [List.length_cons]; omega
    · rw [dbl_ne h]; simp only [List.length_cons]; omega

theorem index_cons_ne (b : UInt8) (h : b ≠ 39) (l : List UInt8) (i : Nat) (hi : Lib.index l [39] = i) : Lib.index (b :: l) [39] = ((i + 1 : Nat) : Int) := by
  rw [Lib.index_one] at hi ⊢
  obtain ⟨h1, h2⟩ := Lib.indexByte_some hi
  simp only [Lib.indexByte] at hi ⊢
  rw [if_neg (by simpa using h)]
  rw [hi, if_neg (by rw [beq_iff_eq]; omega)]
  omega

theorem repl_dbl (l : List UInt8) : Lib.replaceAll l [39] [39, 39] = dbl l := by
  have e : Lib.replaceAll l [39] [39, 39] = Lib.replaceK [39] [39, 39] (Lib.count l [39]) l := by
    simp [Lib.replaceAll, Lib.replace, Lib.replaceNum]
  rw [e]
  clear e
  induction l with
  | nil => rw [Lib.count_one]; rfl
  | cons b l ih =>
    by_cases h : b = 39
    · subst h
      rw [Lib.count_cons_eq, Nat.add_comm, Lib.replaceK_hit _ _ _ _ 0 (by rw [Lib.index_one]; simp [Lib.indexByte]), dbl_39]
      simp only [List.take_zero, List.nil_append, List.length_singleton, Nat.zero_add, List.drop_succ_cons, List.drop_zero, List.cons_append]
      rw [ih]
    · rw [Lib.count_cons_ne _ _ _ h, dbl_ne h]
      cases hc : Lib.count l [39] with
      | zero => rw [hc] at ih; rw [← ih]; rfl
      | succ k =>
        rw [hc] at ih
        obtain ⟨i, hi⟩ := Lib.index_of_count (s := l) (old := [39]) (by omega)
        rw [Lib.replaceK_hit _ _ _ _ (i + 1) (index_cons_ne b h l i hi)]
        rw [Lib.replaceK_hit _ _ _ _ i hi] at ih
        rw [← ih]
        simp [Nat.add_right_comm]

/-- The run of apostrophes and syntax from a place on: its end; is there syntax? -/
def qRun (s : ByteArray) (sort : Int) (k : Nat) (has : Bool) : Nat × Bool :=
  if h : k < s.size then
    if (b8 s k == 39 || synB (b8 s k) sort) = true then qRun s sort (k + 1) (has || b8 s k != 39) else (k, has)
  else (k, has)
termination_by s.size - k
theorem qRun_bd (s : ByteArray) (sort : Int) (k : Nat) (has : Bool) (h : k ≤ s.size) : k ≤ (qRun s sort k has).1 ∧ (qRun s sort k has).1 ≤ s.size := by
  induction k, has using qRun.induct s sort with
  | case1 k has h1 h2 ih => rw [qRun, dif_pos h1, if_pos h2]; have := ih (by omega); omega
  | case2 k has h1 h2 => rw [qRun, dif_pos h1, if_neg h2]; exact ⟨Nat.le_refl _, h⟩
  | case3 k has h1 => rw [qRun, dif_neg h1]; exact ⟨Nat.le_refl _, h⟩

/-- The text of a run. -/
def qText (t : List UInt8) (has : Bool) : List UInt8 := if has then 39 :: (dbl t ++ [39]) else dbl t

/-- A text as a message has it, from a place on. -/
def quoteL (s : ByteArray) (sort : Int) (i : Nat) : List UInt8 :=
  if h : i < s.size then
    if hk : (qRun s sort i false).1 = i then s[i]'h :: quoteL s sort (i + 1)
    else qText (s.extract i (qRun s sort i false).1).data.toList (qRun s sort i false).2 ++ quoteL s sort (qRun s sort i false).1
  else []
termination_by s.size - i
decreasing_by
  · omega
  · have := qRun_bd s sort i false (by omega); omega

theorem quoteL_step (s : ByteArray) (sort : Int) (i : Nat) (h : i < s.size) : quoteL s sort i = if (qRun s sort i false).1 = i then s[i]'h :: quoteL s sort (i + 1)
    else qText (s.extract i (qRun s sort i false).1).data.toList (qRun s sort i false).2 ++ quoteL s sort (qRun s sort i false).1 := by
  rw [quoteL, dif_pos h]
  split <;> rfl
theorem qText_length (t : List UInt8) (has : Bool) : (qText t has).length ≤ 2 * t.length + 2 := by
  have := dbl_length t
  unfold qText
  split
  · simp only [List.length_cons, List.length_append, List.length_nil]; omega
  · omega

end Go.Proofs.YtcnhklcbibpjpaaGreatDoor

/- Quote. -/
namespace Go.Proofs.YtcnhklcbibpjpaaGreatDoor
open Go.RowKit P Ext

/-- A builder that is newer than world A and holds so many bytes. -/
structure BK (A : World) (acc : List UInt8) (W : World) : Prop where
  bd : Lib.IsBuilderF 54 5 A.heap.size A.heap.size (Lib.byteCells acc) W
  bel : Below A.heap.size A W
  lt : A.heap.size < W.heap.size

section
variable {A W : World} {acc : List UInt8}
theorem BK.drewN (h : BK A acc W) (k : Nat) : BK A acc (W.drewN k) := ⟨h.bd, Below.drewN' h.bel k, h.lt⟩
theorem BK.new (A : World) : BK A [] (A.alloc (.cells #[.pointer none, .slice none 0 0] 54)) :=
  ⟨Lib.IsBuilderF.of (Lib.fresh_isBuilder _ _ A), (Below.refl _ A).alloc (Nat.le_refl _) _, by simp⟩
theorem BK.newAt (h : Below A.heap.size A W) (hs : W.heap.size = A.heap.size) : BK A [] (W.alloc (.cells #[.pointer none, .slice none 0 0] 54)) := by
  have := Lib.IsBuilderF.of (Lib.fresh_isBuilder 54 5 W)
  rw [hs] at this
  exact ⟨this, h.alloc (by omega) _, by simp [hs]⟩
theorem BK.write (h : BK A acc W) (t : ByteArray) (hl : acc.length + t.size ≤ 140737488355328) :
    Calls Tryz.prog 22 #[.pointer (some ⟨A.heap.size, 0, none⟩), .string t] W fun e' W' => e' = .returned (.tuple #[.int .i64 t.size, .nilIface]) ∧ BK A (acc ++ t.data.toList) W' := by
  refine (WriteString_k _ _ _ t W h.bd (by rw [Lib.byteCells, List.length_map]; exact hl) (Nat.le_of_lt h.lt)).mono ?_
  rintro e' W' ⟨rfl, hb, hbel, hok⟩
  refine ⟨rfl, ?_, h.bel.trans hbel, Nat.lt_of_lt_of_le h.lt hbel.size⟩
  rw [Lib.strCells_eq] at hb
  rw [Lib.byteCells, List.map_append]
  exact .inr hb
theorem BK.byte (h : BK A acc W) (c : UInt8) (v : Int) (hv : v = c.toNat) (hl : acc.length + 1 ≤ 140737488355328) :
    Calls Tryz.prog 23 #[.pointer (some ⟨A.heap.size, 0, none⟩), .int .u8 v] W fun e' W' => e' = .returned .nilIface ∧ BK A (acc ++ [c]) W' := by
  subst hv
  refine (WriteByte_k _ _ _ _ W h.bd (by rw [Lib.byteCells, List.length_map]; exact hl) (Nat.le_of_lt h.lt)).mono ?_
  rintro e' W' ⟨rfl, hb, hbel, hok⟩
  refine ⟨rfl, ?_, h.bel.trans hbel, Nat.lt_of_lt_of_le h.lt hbel.size⟩
  rw [Lib.byteCells, List.map_append]
  exact .inr hb
theorem BK.str (h : BK A acc W) :
    Calls Tryz.prog 24 #[.pointer (some ⟨A.heap.size, 0, none⟩)] W fun e' W' => e' = .returned (.string ⟨acc.toArray⟩) ∧ BK A acc W' := by
  refine (Tryz.Builder_String_any_k _ _ acc W h.bd (Nat.le_of_lt h.lt)).mono ?_
  rintro e' W' ⟨rfl, hb, hbel, hok⟩
  exact ⟨rfl, hb, h.bel.trans hbel, Nat.lt_of_lt_of_le h.lt hbel.size⟩
/-- What keeps all that lay. -/
theorem BK.later (h : BK A acc W) {W' : World} (hb : Below W.heap.size W W') : BK A acc W' :=
  ⟨isB_same h.bd fun k c T fz hk _ _ => (hb.block k (Array.getElem?_eq_some_iff.1 hk).1).trans hk, h.bel.trans (hb.mono (Nat.le_of_lt h.lt)), Nat.lt_of_lt_of_le h.lt hb.size⟩
end

theorem Repl_any (t : ByteArray) (hs : t.size ≤ 65536) (w : World) (hG : GlH w) :
    Calls Tryz.prog 26 #[.string t, .string ⟨#[39]⟩, .string ⟨#[39, 39]⟩] w fun e w' => e = .returned (.string ⟨(dbl t.data.toList).toArray⟩) ∧ Below w.heap.size w w' := by
  obtain ⟨m, hm⟩ := hG.gl.mlen
  have hc : Lib.countB t ⟨#[39]⟩ ≤ t.size := by
    show Lib.count t.data.toList [39] ≤ _
    rw [Lib.count_one]
    have := List.count_le_length (a := (39 : UInt8)) (l := t.data.toList)
    simpa using this
  have h := Tryz.strings_ReplaceAll t ⟨#[39]⟩ ⟨#[39, 39]⟩ m w (by omega) hm (by decide) (by
    have : (⟨#[39, 39]⟩ : ByteArray).size = 2 := rfl
    rw [this]; omega)
  have e : Lib.replaceAll t.data.toList (⟨#[39]⟩ : ByteArray).data.toList (⟨#[39, 39]⟩ : ByteArray).data.toList = dbl t.data.toList := repl_dbl _
  rw [e] at h
  exact h

def valN : Value → Nat
  | .int _ n => n.toNat
  | _ => 0

set_option maxRecDepth 100000 in
set_option maxHeartbeats 8000000 in
theorem Quote_any (s : ByteArray) (m sort : Int) (w : World) (hG : GlH w) :
    Calls Tryz.prog 16 #[.string s, .int .i64 m, .int .i64 sort] w fun e w' =>
      e = .returned (.tuple (if 65536 < s.size then #[.string ⟨#[]⟩, .int .i64 2] else if (m == 1 || m == 2) && decide (0 ≤ sort) && decide (sort ≤ 2) then #[.string ⟨(quoteL s sort 0).toArray⟩, .int .i64 0] else #[.string ⟨#[]⟩, .int .i64 1])) ∧ Below w.heap.size w w' := by
  by_cases hz : 65536 < s.size
  · have d : decide ((65536 : Int) < s.size) = true := by simp; omega
    rw [if_pos hz]
    go_enter Tryz.func16, Tryz.ntmps16
    go_wp2
    go_ret2
    exact ⟨rfl, Below.refl _ _⟩
  · have d : decide ((65536 : Int) < s.size) = false := by simp; omega
    rw [if_neg hz]
    have hmo := mode_any m w
    cases hm : (m == 1 || m == 2) with
    | false =>
      rw [hm] at hmo
      have HMO := Lib.hid hmo
      clear hm hmo
      go_enter Tryz.func16, Tryz.ntmps16
      go_wp2_with (go_at_call 19; refine HMO.out.mono ?_; rintro e w' ⟨rfl, rfl⟩)
      go_ret2
      exact ⟨rfl, Below.refl _ _⟩
    | true =>
      rw [hm] at hmo
      have HMO := Lib.hid hmo
      clear hm hmo
      by_cases h0 : 0 ≤ sort
      · have d0 : decide (sort < 0) = false := by simp; omega
        by_cases h2 : sort ≤ 2
        · have d2 : decide ((2 : Int) < sort) = false := by simp; omega
          rw [if_pos (by simp [h0, h2])]
          go_enter Tryz.func16, Tryz.ntmps16
          go_wp2_with (go_at_call 19; refine HMO.out.mono ?_; rintro e w' ⟨rfl, rfl⟩)
          have hB0 := BK.new w'
          generalize w'.alloc (.cells #[.pointer none, .slice none 0 0] 54) = W0 at *
          go_loopw [9] (fun v9 wr => ∃ (i : Nat) (acc : List UInt8), v9 = .int .i64 (i : Int) ∧ i ≤ s.size ∧ acc.length ≤ 4 * i ∧ Hid (quoteL s sort 0 = acc ++ quoteL s sort i) ∧ BK w' acc wr) (fun v9 _ => s.size - valN v9)
          case atStart => exact ⟨0, [], rfl, by omega, by simp, Lib.hid rfl, hB0⟩
          case round =>
            obtain ⟨i, acc, rfl, hi, hac, HQ, HB⟩ := hrel
            by_cases hlt : i < s.size
            · have hlt' : (i : Int) < s.size := by omega
              have d1 : decide ((i : Int) < (s.size : Int)) = true := by simpa using hlt'
              have HQI := Lib.hid (quoteL_step s sort i hlt)
              have hbd := qRun_bd s sort i false hi
              go_wp2_with fail
              clear d1
              go_loopw [10, 11] (fun v10 v11 wq => ∃ (k : Nat) (b : Bool), v10 = .int .i64 (k : Int) ∧ v11 = .bool b ∧ i ≤ k ∧ k ≤ s.size ∧ Hid (qRun s sort i false = qRun s sort k b) ∧ BK w' acc wq) (fun v10 _ _ => s.size - valN v10)
              case atStart => exact ⟨i, false, rfl, rfl, Nat.le_refl _, hi, Lib.hid rfl, HB⟩
              case round =>
                obtain ⟨k, b, rfl, rfl, hik, hks, HR, HB2⟩ := hrel
                by_cases hlk : k < s.size
                · have hlk' : (k : Int) < s.size := by omega
                  have d1 : decide ((k : Int) < (s.size : Int)) = true := by simpa using hlk'
                  have HC8 := Lib.hid (b8_at s k hlk)
                  have HRK : Hid (qRun s sort k b = if (b8 s k == 39 || synB (b8 s k) sort) = true then qRun s sort (k + 1) (b || b8 s k != 39) else (k, b)) := Lib.hid (by rw [qRun, dif_pos hlk])
                  by_cases h39 : (s[k]'hlk).toNat = 39
                  · have e1 : (((s[k]'hlk).toNat : Int) == 39) = true := by simp; omega
                    have e2 : (((s[k]'hlk).toNat : Int) != 39) = false := by simp; omega
                    have HF : Hid (qRun s sort i false = qRun s sort (k + 1) b) := Lib.hid (by rw [HR.out, HRK.out, HC8.out, h39]; simp)
                    clear h39 HR HRK HC8
                    cases b with
                    | false =>
                      go_wp2_with fail
                      go_roundw
                      case rel => exact ⟨k + 1, false, int_eq (by omega), rfl, by omega, by omega, HF, HB2⟩
                      case measure => simp [valN]; omega
                    | true =>
                      go_wp2_with fail
                      go_roundw
                      case rel => exact ⟨k + 1, true, int_eq (by omega), rfl, by omega, by omega, HF, HB2⟩
                      case measure => simp [valN]; omega
                  · have e1 : (((s[k]'hlk).toNat : Int) == 39) = false := by simp; omega
                    have e2 : (((s[k]'hlk).toNat : Int) != 39) = true := by simp; omega
                    have hsy := syntax_any (s[k]'hlk).toNat sort wr
                    cases hs : synB (s[k]'hlk).toNat sort with
                    | true =>
                      have HF : Hid (qRun s sort i false = qRun s sort (k + 1) true) := Lib.hid (by rw [HR.out, HRK.out, HC8.out, hs, show ((s[k]'hlk).toNat != 39) = true from by simpa using h39]; simp)
                      rw [hs] at hsy
                      have HSY := Lib.hid hsy
                      clear h39 HR HRK HC8 hs hsy
                      cases b with
                      | false =>
                        go_wp2_with (go_at_call 25; refine HSY.out.mono ?_; rintro e' w2 ⟨rfl, rfl⟩)
                        go_roundw
                        case rel => exact ⟨k + 1, true, int_eq (by omega), rfl, by omega, by omega, HF, HB2⟩
                        case measure => simp [valN]; omega
                      | true =>
                        go_wp2_with (go_at_call 25; refine HSY.out.mono ?_; rintro e' w2 ⟨rfl, rfl⟩)
                        go_roundw
                        case rel => exact ⟨k + 1, true, int_eq (by omega), rfl, by omega, by omega, HF, HB2⟩
                        case measure => simp [valN]; omega
                    | false =>
                      have HF : Hid (qRun s sort i false = (k, b)) := Lib.hid (by rw [HR.out, HRK.out, HC8.out, hs]; simp [h39])
                      rw [hs] at hsy
                      have HSY := Lib.hid hsy
                      clear h39 HRK HC8 hs hsy
                      have HQ2 : Hid (quoteL s sort i = if k = i then s[i]'hlt :: quoteL s sort (i + 1) else qText (s.extract i k).data.toList b ++ quoteL s sort k) := Lib.hid (by rw [HQI.out, HF.out])
                      clear HR HQI HF hbd
                      have hik' : (i : Int) ≤ k := by omega
                      have hks' : (k : Int) ≤ s.size := by omega
                      by_cases hki : k = i
                      · have e3 : ((k : Int) == (i : Int)) = true := by simp; omega
                        have HG : Hid (quoteL s sort 0 = (acc ++ [s[i]'hlt]) ++ quoteL s sort (i + 1)) := Lib.hid (by rw [HQ.out, HQ2.out, if_pos hki]; simp)
                        clear HQ HQ2 hki
                        go_wp2_with (go_at_call 25; refine HSY.out.mono ?_; rintro e' w2 ⟨rfl, rfl⟩)
                        refine (HB2.byte (s[i]'hlt) _ rfl (by omega)).mono ?_
                        rintro e' W3 ⟨rfl, HB3⟩
                        go_wp2_with fail
                        go_roundw
                        case rel => exact ⟨i + 1, acc ++ [s[i]'hlt], int_eq (by omega), by omega, by simp; omega, HG, HB3⟩
                        case measure => simp [valN]; omega
                      · have e3 : ((k : Int) == (i : Int)) = false := by simp; omega
                        have hne : i < k := by omega
                        have hlx : (s.extract i k).size = k - i := by simp [ByteArray.size_extract]; omega
                        have HRP := Lib.hid (Repl_any (s.extract i k) (by omega) wr (hG.bel HB2.bel))
                        have hdl := dbl_length (s.extract i k).data.toList
                        have hll : (s.extract i k).data.toList.length = k - i := by rw [Array.length_toList]; exact hlx
                        rw [hll] at hdl
                        generalize (s.extract i k).data.toList = tt at *
                        cases b with
                        | false =>
                          have HG : Hid (quoteL s sort 0 = (acc ++ dbl tt) ++ quoteL s sort k) := Lib.hid (by rw [HQ.out, HQ2.out, if_neg hki]; simp [qText])
                          clear HQ HQ2 hki
                          go_wp2_with (go_at_call 25; refine HSY.out.mono ?_; rintro e' w2 ⟨rfl, rfl⟩)
                          refine HRP.out.mono ?_
                          rintro e' W3 ⟨rfl, hb3⟩
                          have HB3 := HB2.later hb3
                          go_wp2_with fail
                          refine (HB3.write _ (by simp [ByteArray.size]; omega)).mono ?_
                          rintro e' W4 ⟨rfl, HB4⟩
                          go_wp2_with fail
                          go_roundw
                          case rel => exact ⟨k, acc ++ dbl tt, rfl, by omega, by simp; omega, HG, by simpa using HB4⟩
                          case measure => simp [valN]; omega
                        | true =>
                          have HG : Hid (quoteL s sort 0 = (acc ++ (39 :: (dbl tt ++ [39]))) ++ quoteL s sort k) := Lib.hid (by rw [HQ.out, HQ2.out, if_neg hki]; simp [qText])
                          clear HQ HQ2 hki
                          go_wp2_with (go_at_call 25; refine HSY.out.mono ?_; rintro e' w2 ⟨rfl, rfl⟩)
                          refine HRP.out.mono ?_
                          rintro e' W3 ⟨rfl, hb3⟩
                          have HB3 := HB2.later hb3
                          have hs1 : 1 + (⟨(dbl tt).toArray⟩ : ByteArray).size ≤ 9223372036854775807 := by simp [ByteArray.size]; omega
                          have hs2 : 1 + (⟨(dbl tt).toArray⟩ : ByteArray).size + 1 ≤ 9223372036854775807 := by simp [ByteArray.size]; omega
                          go_wp2_with fail
                          refine (HB3.write _ (by rw [ByteArray.size_append, ByteArray.size_append]; simp [ByteArray.size]; omega)).mono ?_
                          rintro e' W4 ⟨rfl, HB4⟩
                          go_wp2_with fail
                          go_roundw
                          case rel => exact ⟨k, acc ++ (39 :: (dbl tt ++ [39])), rfl, by omega, by simp; omega, HG, by simpa using HB4⟩
                          case measure => simp [valN]; omega
                · have hlk' : ¬ (k : Int) < s.size := by omega
                  have d1 : decide ((k : Int) < (s.size : Int)) = false := by simpa using hlk'
                  have HF : Hid (qRun s sort i false = (k, b)) := Lib.hid (by rw [HR.out, qRun, dif_neg hlk])
                  clear hlk
                  have HQ2 : Hid (quoteL s sort i = if k = i then s[i]'hlt :: quoteL s sort (i + 1) else qText (s.extract i k).data.toList b ++ quoteL s sort k) := Lib.hid (by rw [HQI.out, HF.out])
                  clear HR HQI HF hbd
                  have hik' : (i : Int) ≤ k := by omega
                  have hks' : (k : Int) ≤ s.size := by omega
                  by_cases hki : k = i
                  · have e3 : ((k : Int) == (i : Int)) = true := by simp; omega
                    have HG : Hid (quoteL s sort 0 = (acc ++ [s[i]'hlt]) ++ quoteL s sort (i + 1)) := Lib.hid (by rw [HQ.out, HQ2.out, if_pos hki]; simp)
                    clear HQ HQ2 hki
                    go_wp2_with fail
                    refine (HB2.byte (s[i]'hlt) _ rfl (by omega)).mono ?_
                    rintro e' W3 ⟨rfl, HB3⟩
                    go_wp2_with fail
                    go_roundw
                    case rel => exact ⟨i + 1, acc ++ [s[i]'hlt], int_eq (by omega), by omega, by simp; omega, HG, HB3⟩
                    case measure => simp [valN]; omega
                  · have e3 : ((k : Int) == (i : Int)) = false := by simp; omega
                    have hne : i < k := by omega
                    have hlx : (s.extract i k).size = k - i := by simp [ByteArray.size_extract]; omega
                    have HRP := Lib.hid (Repl_any (s.extract i k) (by omega) wr (hG.bel HB2.bel))
                    have hdl := dbl_length (s.extract i k).data.toList
                    have hll : (s.extract i k).data.toList.length = k - i := by rw [Array.length_toList]; exact hlx
                    rw [hll] at hdl
                    generalize (s.extract i k).data.toList = tt at *
                    cases b with
                    | false =>
                      have HG : Hid (quoteL s sort 0 = (acc ++ dbl tt) ++ quoteL s sort k) := Lib.hid (by rw [HQ.out, HQ2.out, if_neg hki]; simp [qText])
                      clear HQ HQ2 hki
                      go_wp2_with fail
                      refine HRP.out.mono ?_
                      rintro e' W3 ⟨rfl, hb3⟩
                      have HB3 := HB2.later hb3
                      go_wp2_with fail
                      refine (HB3.write _ (by simp [ByteArray.size]; omega)).mono ?_
                      rintro e' W4 ⟨rfl, HB4⟩
                      go_wp2_with fail
                      go_roundw
                      case rel => exact ⟨k, acc ++ dbl tt, rfl, by omega, by simp; omega, HG, by simpa using HB4⟩
                      case measure => simp [valN]; omega
                    | true =>
                      have HG : Hid (quoteL s sort 0 = (acc ++ (39 :: (dbl tt ++ [39]))) ++ quoteL s sort k) := Lib.hid (by rw [HQ.out, HQ2.out, if_neg hki]; simp [qText])
                      clear HQ HQ2 hki
                      go_wp2_with fail
                      refine HRP.out.mono ?_
                      rintro e' W3 ⟨rfl, hb3⟩
                      have HB3 := HB2.later hb3
                      have hs1 : 1 + (⟨(dbl tt).toArray⟩ : ByteArray).size ≤ 9223372036854775807 := by simp [ByteArray.size]; omega
                      have hs2 : 1 + (⟨(dbl tt).toArray⟩ : ByteArray).size + 1 ≤ 9223372036854775807 := by simp [ByteArray.size]; omega
                      go_wp2_with fail
                      refine (HB3.write _ (by rw [ByteArray.size_append, ByteArray.size_append]; simp [ByteArray.size]; omega)).mono ?_
                      rintro e' W4 ⟨rfl, HB4⟩
                      go_wp2_with fail
                      go_roundw
                      case rel => exact ⟨k, acc ++ (39 :: (dbl tt ++ [39])), rfl, by omega, by simp; omega, HG, by simpa using HB4⟩
                      case measure => simp [valN]; omega
            · have hlt' : ¬ (i : Int) < s.size := by omega
              have d1 : decide ((i : Int) < (s.size : Int)) = false := by simpa using hlt'
              have HG : Hid (quoteL s sort 0 = acc) := Lib.hid (by rw [HQ.out, quoteL, dif_neg hlt]; simp)
              clear HQ
              go_wp2_with fail
              refine HB.str.mono ?_
              rintro e' W3 ⟨rfl, HB3⟩
              go_wp2_with fail
              go_ret2
              rw [HG.out]
              exact ⟨rfl, HB3.bel⟩
        · have d2 : decide ((2 : Int) < sort) = true := by simp; omega
          rw [if_neg (by simp [h0, h2])]
          go_enter Tryz.func16, Tryz.ntmps16
          go_wp2_with (go_at_call 19; refine HMO.out.mono ?_; rintro e w' ⟨rfl, rfl⟩)
          go_ret2
          exact ⟨rfl, Below.refl _ _⟩
      · have d0 : decide (sort < 0) = true := by simp; omega
        rw [if_neg (by simp [h0])]
        go_enter Tryz.func16, Tryz.ntmps16
        go_wp2_with (go_at_call 19; refine HMO.out.mono ?_; rintro e w' ⟨rfl, rfl⟩)
        go_ret2
        exact ⟨rfl, Below.refl _ _⟩

end Go.Proofs.YtcnhklcbibpjpaaGreatDoor

/- The law's own cut of a text. -/
namespace Go.Proofs.YtcnhklcbibpjpaaGreatDoor
open Go.RowKit P Ext

/-- The text that awake cuts. -/
abbrev awkS : ByteArray := ⟨#[97, 123, 110, 125]⟩

theorem awk_t0 : textE awkS 1 0 true 0 = ([97], 1, []) := by
  rw [textE, dif_pos (by decide), if_neg (by decide), if_neg (by decide), textE, dif_pos (by decide), if_neg (by decide), if_pos (by decide)]
  rfl
theorem awk_t4 : textE awkS 1 0 true 4 = ([], 4, []) := by rw [textE, dif_neg (by decide)]
theorem awk_b2 : blanks awkS 2 = 2 := by rw [blanks, dif_pos (by decide), if_neg (by decide)]
theorem awk_b3 : blanks awkS 3 = 3 := by rw [blanks, dif_pos (by decide), if_neg (by decide)]
theorem awk_w3 : wordEnd awkS 3 = 3 := by rw [wordEnd, dif_pos (by decide), if_pos (by decide)]
theorem awk_w2 : wordEnd awkS 2 = 3 := by
  rw [wordEnd, dif_pos (by decide), if_neg (by decide)]
  exact awk_w3
theorem awk_at : wordAt awkS 2 = ⟨#[110]⟩ := by
  rw [wordAt, awk_w2]
  rfl
theorem awk_id : identP ⟨#[110]⟩ = 1 := by
  rw [identP, if_neg (by decide), if_neg (by decide), if_pos]
  rw [nameOk, dif_pos (by decide), if_neg (by decide)]
  show nameOk ⟨#[110]⟩ 1 = true
  rw [nameOk, dif_neg (by decide)]
theorem awk_must : mustR awkS 125 4 (1 : Int) 3 = .ok 4 [(4, ⟨#[]⟩, 3)] [] := by
  rw [mustR, awk_b3, if_pos (by decide)]
  rfl
theorem awk_arg (k : Nat) : argF awkS 1 (k + 1) 1 = some (.ok 4 [(3, ⟨#[]⟩, 1), (5, ⟨#[110]⟩, 2), (4, ⟨#[]⟩, 3)] []) := by
  rw [argF]
  have h2 : (1 : Nat) + 1 = 2 := rfl
  rw [h2, awk_b2, awk_at, awk_id, awk_w2, awk_b3, if_neg (by decide), if_pos (by decide)]
  show (some (mustR awkS 125 4 (1 : Int) 3)).map _ = _
  rw [awk_must]
  rfl
theorem awk_m4 (k : Nat) : msgF awkS 1 (k + 1) 0 (-1) 4 = some (.ok 4 [] []) := by
  rw [msgF, show decide ((-1 : Int) < 0) = true from rfl, awk_t4]
  rfl
theorem awk_m0 (k : Nat) : msgF awkS 1 (k + 2) 0 (-1) 0 = some (.ok 4 [(1, ⟨#[97]⟩, 0), (3, ⟨#[]⟩, 1), (5, ⟨#[110]⟩, 2), (4, ⟨#[]⟩, 3)] []) := by
  rw [msgF, show decide ((-1 : Int) < 0) = true from rfl, awk_t0]
  rw [if_neg (by decide), if_pos (by decide), awk_arg, Option.bind_some, R.next, awk_m4]
  rfl
theorem awk_lex : lexR awkS 1 = .ok 4 [(1, ⟨#[97]⟩, 0), (3, ⟨#[]⟩, 1), (5, ⟨#[110]⟩, 2), (4, ⟨#[]⟩, 3)] [] := by
  have h := lexR_some awkS 1
  rw [show 2 * awkS.size + 2 = 8 + 2 from rfl, awk_m0] at h
  exact (Option.some.inj h).symm
theorem awk_lexO : lexO awkS 1 = .ok 4 [(1, ⟨#[97]⟩, 0), (3, ⟨#[]⟩, 1), (5, ⟨#[110]⟩, 2), (4, ⟨#[]⟩, 3)] [] := by
  rw [lexO, if_neg (by decide), if_pos (by decide), awk_lex]

set_option maxRecDepth 100000 in
set_option maxHeartbeats 4000000 in
theorem awake_any (w : World) (hG : GlH w) : Calls Tryz.prog 13 #[] w fun e w' => e = .returned (.bool true) ∧ Below w.heap.size w w' := by
  have HL := Lib.hid (Lex_any awkS 1 w hG)
  go_enter Tryz.func13, Tryz.ntmps13
  go_wp2_with fail
  refine HL.out.mono ?_
  rw [awk_lexO]
  rintro e w' ⟨⟨v, rfl, ho⟩, hb⟩
  have hn0 : 8 ≤ w.heap.size := hG.sz
  obtain ⟨g, cap, rfl⟩ := ownsRow_succ ho
  obtain ⟨hxs, h0 | ⟨g', cap', cur, hv, hg, hh, h1, h2, h3, h4⟩⟩ := ho
  · exact absurd h0.2 (by decide)
  · cases hv
    have hc : ∀ (j : Nat) (v : Value), cur[j]? = some v → w'.cell? ⟨g, j, none⟩ = some v := fun j v hj => by rw [Lib.cell_of_heap hh]; exact hj
    have hj : ∀ (j : Nat), j < 12 → cur[j]? = (tkCells [(1, ⟨#[97]⟩, 0), (3, ⟨#[]⟩, 1), (5, ⟨#[110]⟩, 2), (4, ⟨#[]⟩, 3)])[j]? := fun j hj => by
      rw [← h4, List.getElem?_take_of_lt (by simpa using hj), Array.getElem?_toList]
    have q1 := hc 1 (.string ⟨#[97]⟩) (by rw [hj 1 (by decide)]; rfl)
    have q7 := hc 7 (.string ⟨#[110]⟩) (by rw [hj 7 (by decide)]; rfl)
    clear hc hj h4 hxs
    go_wp2_with fail
    go_ret
    exact ⟨rfl, hb⟩

end Go.Proofs.YtcnhklcbibpjpaaGreatDoor

/- The reference's Quote is the program's. -/
namespace Go.Proofs.YtcnhklcbibpjpaaGreatDoor
open Go.RowKit P Ext Go.Proofs.YtcnhklcbibpjpaaGreatDoorW.PrintWords

/-- Bytes as numbers. -/
def numsB (l : List UInt8) : List Int := l.map fun c => (c.toNat : Int)
theorem numsB_append (a b : List UInt8) : numsB (a ++ b) = numsB a ++ numsB b := List.map_append
theorem strOf_numsB (l : List UInt8) : strOfNums (numsB l) = ⟨l.toArray⟩ := by
  have h : ((numsB l).map fun n => UInt8.ofNat n.toNat) = l := by
    induction l with
    | nil => rfl
    | cons a l ih => simp only [numsB, List.map_cons] at *; rw [ih]; simp
  rw [strOfNums, h]

theorem bt_b8 (s : ByteArray) (k : Nat) (h : k < s.size) : bt s (k : Int) = (b8 s k : Int) := by
  rw [bt_nat s k (by simpa using h), b8_at s k h]
  rfl
theorem bt_byte (s : ByteArray) (k : Nat) (h : k < s.size) : bt s (k : Int) = ((s[k]'h).toNat : Int) := by
  rw [bt_b8 s k h, b8_at s k h]

theorem special_f (c : Nat) (sort : Int) : PRqu.idiomref19_Special.f (c : Int) sort = some (synB c sort) := by
  unfold PRqu.idiomref19_Special.f synB
  repeat' split
  all_goals (congr 1; first | (simp_all; done) | (rw [Bool.eq_iff_iff]; simp; omega))

abbrev QR := PRqu.idiomref19_Quote.l0

theorem ref_l2 (s : ByteArray) (sort : Int) (hz : s.size ≤ 65536) (kk : Nat) (hkk : kk ≤ s.size) (has : Bool) (R : ByteArray × Int) : ∀ (d i : Nat) (acc : List UInt8), i + d = kk → acc.length ≤ 1000000 - 8 * d →  d ≤ 65536 →
    (∃ n, PRqu.idiomref19_Quote.l0 n s sort (numsB (acc ++ dbl (s.extract i kk).data.toList ++ (if has then [39] else []))) (kk : Int) = some R) →
    ∃ n, PRqu.idiomref19_Quote.l2 n s sort (numsB acc) (i : Int) (kk : Int) has = some R := by
  intro d
  induction d with
  | zero =>
    intro i acc hd ha hdd ⟨n, h⟩
    obtain rfl : i = kk := by omega
    have he : (s.extract i i).data.toList = [] := by simp
    rw [he, dbl_nil, List.append_nil] at h
    refine ⟨n + 1, ?_⟩
    rw [PRqu.idiomref19_Quote.l2, if_neg (by omega)]
    cases has with
    | true =>
      rw [if_pos rfl, if_pos (by simp [numsB]; omega)]
      rw [if_pos rfl, numsB_append] at h
      exact h
    | false =>
      rw [if_neg (by decide)]
      simpa using h
  | succ d ih =>
    intro i acc hd ha hdd h
    have hlt : i < s.size := by omega
    have hb := bt_byte s i hlt
    have hex : (s.extract i kk).data.toList = (s[i]'hlt) :: (s.extract (i + 1) kk).data.toList := by
      have h0 : ∀ a b, (s.extract a b).data.toList = (s.data.toList.take b).drop a := fun a b => by
        simp only [ByteArray.data_extract, Array.toList_extract, List.extract_eq_take_drop, List.drop_take]
      rw [h0, h0, List.drop_eq_getElem_cons (by simp; omega)]
      simp
      rfl
    by_cases h39 : s[i]'hlt = 39
    · have hn : (s[i]'hlt).toNat = 39 := by rw [h39]; rfl
      obtain ⟨n, h2⟩ := ih (i + 1) (acc ++ [39, 39]) (by omega) (by simp; omega) (by omega) (by
        rw [hex, h39, dbl_39] at h
        simpa using h)
      refine ⟨n + 1, ?_⟩
      rw [PRqu.idiomref19_Quote.l2, if_pos (by omega), if_pos (by omega), if_pos (by omega), if_pos (by simp [numsB]; omega)]
      simp only [Option.bind_some]
      rw [hb, hn, if_pos (by rfl), if_pos (by simp [numsB]; omega), IntWalk.wrap64_in _ (by omega)]
      have e : numsB acc ++ [((39 : Nat) : Int)] ++ [39] = numsB (acc ++ [39, 39]) := by simp [numsB]
      rw [e]
      exact h2
    · have hn : (s[i]'hlt).toNat ≠ 39 := fun e => h39 (UInt8.toNat_inj.1 e)
      obtain ⟨n, h2⟩ := ih (i + 1) (acc ++ [s[i]'hlt]) (by omega) (by simp; omega) (by omega) (by
        rw [hex, dbl_ne h39] at h
        simpa using h)
      refine ⟨n + 1, ?_⟩
      rw [PRqu.idiomref19_Quote.l2, if_pos (by omega), if_pos (by omega), if_pos (by omega), if_pos (by simp [numsB]; omega)]
      simp only [Option.bind_some]
      rw [hb, if_neg (by omega), IntWalk.wrap64_in _ (by omega)]
      have e : numsB acc ++ [((s[i]'hlt).toNat : Int)] = numsB (acc ++ [s[i]'hlt]) := by simp [numsB]
      rw [e]
      exact h2

theorem ref_l1 (s : ByteArray) (sort : Int) (hz : s.size ≤ 65536) (i : Nat) (acc : List UInt8) (R : ByteArray × Int) : ∀ (d k : Nat) (has : Bool), k + d = s.size →
    (∃ n, PRqu.idiomref19_Quote.j3 n s sort (numsB acc) (i : Int) ((qRun s sort k has).1 : Int) (qRun s sort k has).2 = some R) →
    ∃ n, PRqu.idiomref19_Quote.l1 n s sort (numsB acc) (i : Int) (k : Int) has = some R := by
  intro d
  induction d with
  | zero =>
    intro k has hd ⟨n, h⟩
    rw [qRun, dif_neg (by omega)] at h
    exact ⟨n + 1, by rw [PRqu.idiomref19_Quote.l1, if_neg (by omega)]; exact h⟩
  | succ d ih =>
    intro k has hd ⟨n, h⟩
    have hlt : k < s.size := by omega
    have hb := bt_b8 s k hlt
    rw [qRun, dif_pos hlt] at h
    by_cases h39 : b8 s k = 39
    · rw [if_pos (by simp [h39])] at h
      obtain ⟨n2, h2⟩ := ih (k + 1) _ (by omega) ⟨n, h⟩
      refine ⟨n2 + 1, ?_⟩
      rw [PRqu.idiomref19_Quote.l1, if_pos (by omega), if_pos (by omega), hb, h39, if_pos (by rfl), IntWalk.wrap64_in _ (by omega)]
      rw [h39] at h2
      cases has with
      | true => rw [if_pos rfl]; exact h2
      | false => rw [if_neg (by decide)]; exact h2
    · have hne : ¬ ((b8 s k : Int) = 39) := by omega
      cases hs : synB (b8 s k) sort with
      | true =>
        rw [if_pos (by simp [hs])] at h
        have hx : (has || b8 s k != 39) = true := by simp [h39]
        rw [hx] at h
        obtain ⟨n2, h2⟩ := ih (k + 1) _ (by omega) ⟨n, h⟩
        refine ⟨n2 + 1, ?_⟩
        have hx2 : ((b8 s k : Int) != 39) = true := by simpa using hne
        rw [PRqu.idiomref19_Quote.l1, if_pos (by omega), if_pos (by omega), hb, if_neg hne, special_f, IntWalk.wrap64_in _ (by omega), hs]
        simp only [Option.bind_some]
        rw [if_pos trivial, hx2]
        cases has with
        | true => rw [if_pos rfl]; exact h2
        | false => rw [if_neg (by decide)]; exact h2
      | false =>
        rw [if_neg (by simp [hs, h39])] at h
        refine ⟨n + 1, ?_⟩
        rw [PRqu.idiomref19_Quote.l1, if_pos (by omega), if_pos (by omega), hb, if_neg hne, special_f, hs]
        simp only [Option.bind_some]
        rw [if_neg (by decide)]
        exact h

theorem ref_l0 (s : ByteArray) (sort : Int) (hz : s.size ≤ 65536) : ∀ (d i : Nat) (acc : List UInt8), i + d = s.size → acc.length ≤ 4 * i →
    ∃ n, PRqu.idiomref19_Quote.l0 n s sort (numsB acc) (i : Int) = some (⟨(acc ++ quoteL s sort i).toArray⟩, 0) := by
  intro d
  induction d using Nat.strongRecOn with
  | _ d ih =>
    intro i acc hd ha
    by_cases hlt : i < s.size
    · have hbd := qRun_bd s sort i false (by omega)
      have hq := quoteL_step s sort i hlt
      obtain ⟨n, h⟩ : ∃ n, PRqu.idiomref19_Quote.j3 n s sort (numsB acc) (i : Int) ((qRun s sort i false).1 : Int) (qRun s sort i false).2 = some (⟨(acc ++ quoteL s sort i).toArray⟩, 0) := by
        rw [hq]
        generalize (qRun s sort i false).2 = has at *
        generalize (qRun s sort i false).1 = k at *
        by_cases hk : k = i
        · subst hk
          obtain ⟨n, h⟩ := ih (d - 1) (by omega) (k + 1) (acc ++ [s[k]'hlt]) (by omega) (by simp; omega)
          refine ⟨n + 1, ?_⟩
          rw [PRqu.idiomref19_Quote.j3, if_pos rfl, if_pos (by omega), if_pos (by omega), if_pos (by simp [numsB]; omega), if_pos rfl, bt_byte s k hlt, IntWalk.wrap64_in _ (by omega)]
          have e : numsB acc ++ [((s[k]'hlt).toNat : Int)] = numsB (acc ++ [s[k]'hlt]) := by simp [numsB]
          rw [e]
          simpa using h
        · rw [if_neg hk]
          have hlen : (s.extract i k).data.toList.length = k - i := by rw [Array.length_toList]; simp [ByteArray.size_extract]; omega
          have hdl := dbl_length (s.extract i k).data.toList
          rw [hlen] at hdl
          obtain ⟨n, h⟩ := ih (s.size - k) (by omega) k (acc ++ qText (s.extract i k).data.toList has) (by omega) (by
            have := qText_length (s.extract i k).data.toList has
            rw [hlen] at this
            simp only [List.length_append]; omega)
          cases has with
          | true =>
            obtain ⟨n2, h2⟩ := ref_l2 s sort hz k hbd.2 true (⟨(acc ++ (qText (s.extract i k).data.toList true ++ quoteL s sort k)).toArray⟩, 0) (k - i) i (acc ++ [39]) (by omega) (by simp; omega) (by omega) ⟨n, by
              have e : acc ++ [39] ++ dbl (s.extract i k).data.toList ++ (if true = true then [39] else []) = acc ++ qText (s.extract i k).data.toList true := by simp [qText]
              rw [e, ← List.append_assoc]; exact h⟩
            refine ⟨n2 + 2, ?_⟩
            rw [PRqu.idiomref19_Quote.j3, if_neg (by omega), if_pos rfl, if_pos (by simp [numsB]; omega), PRqu.idiomref19_Quote.j4]
            have e : numsB acc ++ [39] = numsB (acc ++ [39]) := by simp [numsB]
            rw [e]
            exact h2
          | false =>
            obtain ⟨n2, h2⟩ := ref_l2 s sort hz k hbd.2 false (⟨(acc ++ (qText (s.extract i k).data.toList false ++ quoteL s sort k)).toArray⟩, 0) (k - i) i acc (by omega) (by omega) (by omega) ⟨n, by
              have e : acc ++ dbl (s.extract i k).data.toList ++ (if false = true then [39] else []) = acc ++ qText (s.extract i k).data.toList false := by simp [qText]
              rw [e, ← List.append_assoc]; exact h⟩
            refine ⟨n2 + 2, ?_⟩
            rw [PRqu.idiomref19_Quote.j3, if_neg (by omega), if_neg (by decide), PRqu.idiomref19_Quote.j4]
            exact h2
      obtain ⟨n3, h3⟩ := ref_l1 s sort hz i acc _ d i false hd ⟨n, h⟩
      exact ⟨n3 + 1, by rw [PRqu.idiomref19_Quote.l0, if_pos (by omega)]; exact h3⟩
    · refine ⟨1, ?_⟩
      rw [PRqu.idiomref19_Quote.l0, if_neg (by omega), strOf_numsB, quoteL, dif_neg hlt, List.append_nil]

/-- What Quote comes to, the program's and the reference's. -/
def quoteO (s : ByteArray) (m sort : Int) : ByteArray × Int :=
  if 65536 < s.size then (⟨#[]⟩, 2) else if (m == 1 || m == 2) && decide (0 ≤ sort) && decide (sort ≤ 2) then (⟨(quoteL s sort 0).toArray⟩, 0) else (⟨#[]⟩, 1)

theorem ref_quote (s : ByteArray) (m sort : Int) : ∃ n, PRqu.idiomref19_Quote.f n s m sort = some (quoteO s m sort) := by
  unfold quoteO
  by_cases hz : 65536 < s.size
  · exact ⟨0, by rw [PRqu.idiomref19_Quote.f, if_pos (by omega), if_pos hz]⟩
  · obtain ⟨n, h⟩ := ref_l0 s sort (by omega) s.size 0 [] (by omega) (by simp)
    have hj : PRqu.idiomref19_Quote.j0 (n + 1) s sort false = some (⟨(quoteL s sort 0).toArray⟩, 0) := by
      rw [PRqu.idiomref19_Quote.j0, if_neg (by decide)]
      simpa [numsB] using h
    have hj1 : PRqu.idiomref19_Quote.j0 (n + 1) s sort true = some (⟨#[]⟩, 1) := by rw [PRqu.idiomref19_Quote.j0, if_pos rfl]
    have hok : ∀ (b : Bool), (if sort < 0 then PRqu.idiomref19_Quote.j0 (n + 1) s sort true else PRqu.idiomref19_Quote.j0 (n + 1) s sort (decide (sort > 2))) =
        some (if decide (0 ≤ sort) && decide (sort ≤ 2) then (⟨(quoteL s sort 0).toArray⟩, 0) else (⟨#[]⟩, 1)) := by
      intro _
      by_cases h0 : sort < 0
      · rw [if_pos h0, hj1, if_neg (by simp; omega)]
      · rw [if_neg h0]
        by_cases h2 : sort > 2
        · rw [decide_eq_true h2, hj1, if_neg (by simp; omega)]
        · rw [decide_eq_false h2, hj, if_pos (by simp; omega)]
    refine ⟨n + 1, ?_⟩
    rw [PRqu.idiomref19_Quote.f, if_neg (by omega), if_neg hz]
    by_cases h1 : m = 1
    · subst h1
      rw [if_pos rfl, hok true]
      simp
    · rw [if_neg h1]
      by_cases h2 : m = 2
      · subst h2
        rw [if_pos rfl, hok true]
        simp
      · rw [if_neg h2, hj1, if_neg (by simp [h1, h2])]

end Go.Proofs.YtcnhklcbibpjpaaGreatDoor

/- The law TokenQuotes. -/
namespace Go.Proofs.YtcnhklcbibpjpaaGreatDoor
open Go.RowKit P Ext

theorem Quote_o (s : ByteArray) (m sort : Int) (w : World) (hG : GlH w) :
    Calls Tryz.prog 16 #[.string s, .int .i64 m, .int .i64 sort] w fun e w' => e = .returned (.tuple #[.string (quoteO s m sort).1, .int .i64 (quoteO s m sort).2]) ∧ Below w.heap.size w w' := by
  refine (Quote_any s m sort w hG).mono ?_
  rintro e w' ⟨rfl, hb⟩
  refine ⟨?_, hb⟩
  unfold quoteO
  split
  · rfl
  · split <;> rfl

set_option maxHeartbeats 4000000 in
theorem TokenQuotes_any (s : ByteArray) (m sort : Int) (w : World) (hG : GlH w) :
    Calls Tryz.prog 8 #[.string s, .int .i64 m, .int .i64 sort] w fun e w' => e = .returned (.bool true) ∧ Below w.heap.size w w' := by
  obtain ⟨n, hr⟩ := ref_quote s m sort
  have HQ := Lib.hid (Quote_o s m sort w hG)
  have HR := Lib.hid (fun w hG => PRqu.idiomref19_Quote.calls n s m sort (quoteO s m sort).1 (quoteO s m sort).2 w hG hr)
  clear hr
  generalize (quoteO s m sort).1 = t at *
  generalize (quoteO s m sort).2 = k at *
  go_enter Tryz.func8, Tryz.ntmps8
  go_wp2_with fail
  refine HQ.out.mono ?_
  rintro e w1 ⟨rfl, hb1⟩
  go_wp2_with fail
  refine (HR.out w1 (hG.bel hb1)).mono ?_
  rintro e w2 ⟨rfl, hb2⟩
  have hb3 := hb1.trans (hb2.mono hb1.size)
  have e1 : (t.toList == t.toList) = true := by simp
  go_wp2_with fail
  refine (awake_any w2 (hG.bel hb3)).mono ?_
  rintro e w4 ⟨rfl, hb4⟩
  go_wp2_with fail
  go_ret
  exact ⟨rfl, hb3.trans (hb4.mono hb3.size)⟩

end Go.Proofs.YtcnhklcbibpjpaaGreatDoor
