/- What is quoted, in a message of each sort: what the law looks at. -/
import Derived.Test.YtcnhklcbibpjpaaGreatDoorQtl
import Derived.Test.YtcnhklcbibpjpaaGreatDoorSme
set_option linter.unusedVariables false
set_option linter.unusedSimpArgs false
namespace Go.Proofs.YtcnhklcbibpjpaaGreatDoor
open Go.RowKit P Ext

def aheadB (sort : Int) : ByteArray := if sort = 1 then ⟨#[123, 110, 44, 112, 108, 117, 114, 97, 108, 44, 111, 116, 104, 101, 114, 123]⟩ else if sort = 2 then ⟨#[123, 110, 44, 99, 104, 111, 105, 99, 101, 44, 48, 35]⟩ else ⟨#[]⟩
def behindB (sort : Int) : ByteArray := if sort = 1 then ⟨#[125, 125]⟩ else if sort = 2 then ⟨#[125]⟩ else ⟨#[]⟩
def numB7 (sort : Int) : Nat := if sort = 1 then 7 else if sort = 2 then 6 else 0

theorem around_any (sort : Int) (w : World) : Calls Tryz.prog 18 #[.int .i64 sort] w fun e w' =>
    e = .returned (.tuple #[.string (aheadB sort), .string (behindB sort), .int .i64 ((numB7 sort : Nat) : Int)]) ∧ w' = w := by
  by_cases h1 : sort = 1
  · subst h1
    go_enter Tryz.func18, Tryz.ntmps18
    go_wp2
    go_ret3
    exact ⟨rfl, rfl⟩
  · have e1 : (sort == 1) = false := by simpa using h1
    by_cases h2 : sort = 2
    · subst h2
      go_enter Tryz.func18, Tryz.ntmps18
      go_wp2
      go_ret3
      exact ⟨rfl, rfl⟩
    · have e2 : (sort == 2) = false := by simpa using h2
      have a1 : Hid (aheadB sort = ⟨#[]⟩) := Lib.hid (by rw [aheadB, if_neg h1, if_neg h2])
      have a2 : Hid (behindB sort = ⟨#[]⟩) := Lib.hid (by rw [behindB, if_neg h1, if_neg h2])
      have a3 : Hid (numB7 sort = 0) := Lib.hid (by rw [numB7, if_neg h1, if_neg h2])
      clear h1 h2
      go_enter Tryz.func18, Tryz.ntmps18
      go_wp2
      go_ret3
      rw [a1.out, a2.out, a3.out]
      exact ⟨rfl, rfl⟩

theorem quoteL_length (s : ByteArray) (sort : Int) : ∀ (d i : Nat), i + d = s.size → (quoteL s sort i).length ≤ 4 * d := by
  intro d
  induction d using Nat.strongRecOn with
  | _ d ih =>
  intro i hi
  by_cases hlt : i < s.size
  · have hbd := qRun_bd s sort i false (by omega)
    rw [quoteL_step s sort i hlt]
    split
    · have := ih (d - 1) (by omega) (i + 1) (by omega)
      rw [List.length_cons]; omega
    · have := ih (s.size - (qRun s sort i false).1) (by omega) (qRun s sort i false).1 (by omega)
      have h2 := qText_length (s.extract i (qRun s sort i false).1).data.toList (qRun s sort i false).2
      have h3 : (s.extract i (qRun s sort i false).1).data.toList.length = (qRun s sort i false).1 - i := by
        rw [extract_list, List.length_take, List.length_drop]
        have hs : s.data.toList.length = s.size := by simp
        omega
      rw [List.length_append]; omega
  · rw [quoteL, dif_neg hlt]; simp

/-- The text that is cut. -/
def quoT (s : ByteArray) (sort : Int) : ByteArray := aheadB sort ++ ⟨(quoteL s sort 0).toArray⟩ ++ behindB sort

theorem dec_0 : decB [48] = true := by decide +kernel

theorem quoT_lex (s : ByteArray) (m sort : Int) (hm : m = 1 ∨ m = 2) (hs : sort = 0 ∨ sort = 1 ∨ sort = 2) (hz : s.size ≤ 8000) :
    (quoT s sort).size ≤ 65536 ∧ ∃ j L, lexO (quoT s sort) m = .ok j L [] ∧ L.length = numB7 sort + (if s.size = 0 then 0 else 1) + (behindB sort).size ∧
      (s.size ≠ 0 → ∃ (h : numB7 sort < L.length), (L[numB7 sort]'h).1 = 1 ∧ (L[numB7 sort]'h).2.1 = s) := by
  have hq := quoteL_length s sort s.size 0 (by omega)
  have hq2 : (⟨(quoteL s sort 0).toArray⟩ : ByteArray).size = (quoteL s sort 0).length := by simp [ByteArray.size]
  have ha : (aheadB sort).size ≤ 16 := by rcases hs with rfl | rfl | rfl <;> decide
  have hb : (behindB sort).size ≤ 2 := by rcases hs with rfl | rfl | rfl <;> decide
  have hsz : (quoT s sort).size ≤ 65536 := by rw [quoT, ByteArray.size_append, ByteArray.size_append, hq2]; omega
  have hlex : lexO (quoT s sort) m = lexR (quoT s sort) m := by
    rw [lexO, if_neg (by omega)]
    rcases hm with rfl | rfl <;> rfl
  have htok : ∀ p : Nat, (tokL s.data.toList p).length = (if s.size = 0 then 0 else 1) ∧ (s.size ≠ 0 → tokL s.data.toList p = [(1, s, (p : Int))]) := fun p => by
    unfold tokL
    have h1 : s.data.toList.length = s.size := by simp
    by_cases h0 : s.size = 0
    · rw [if_pos h0, if_pos (by rw [List.isEmpty_iff]; exact List.length_eq_zero_iff.1 (h1.trans h0))]
      exact ⟨rfl, fun h => absurd h0 h⟩
    · rw [if_neg h0, if_neg (by rw [List.isEmpty_iff]; intro e; rw [e] at h1; exact h0 h1.symm)]
      refine ⟨rfl, fun _ => ?_⟩
      simp
  have fin : ∀ (pre post : List Tk) (p j : Nat), pre.length = numB7 sort → post.length = (behindB sort).size → lexR (quoT s sort) m = .ok j (pre ++ tokL s.data.toList p ++ post) [] →
      ∃ j L, lexO (quoT s sort) m = .ok j L [] ∧ L.length = numB7 sort + (if s.size = 0 then 0 else 1) + (behindB sort).size ∧
        (s.size ≠ 0 → ∃ (h : numB7 sort < L.length), (L[numB7 sort]'h).1 = 1 ∧ (L[numB7 sort]'h).2.1 = s) := by
    intro pre post p j h1 h2 h3
    refine ⟨j, _, hlex.trans h3, by rw [List.length_append, List.length_append, h1, h2, (htok p).1], fun hne => ?_⟩
    rw [(htok p).2 hne, ← h1]
    refine ⟨by simp, ?_, ?_⟩ <;> simp
  refine ⟨hsz, ?_⟩
  rcases hs with rfl | rfl | rfl
  · exact fin [] [] 0 (quoT s 0).size rfl rfl (by
      rw [List.nil_append, List.append_nil]
      exact lex_quoted0 s (quoT s 0) m hm (by simp [quoT, aheadB, behindB]))
  · obtain ⟨pre, post, h1, h2, h3⟩ := lex_quoted1 (T := quoT s 1) s hm (by simp [quoT, aheadB, behindB, tP])
    exact fin pre post 16 _ h1 h2 h3
  · obtain ⟨pre, post, h1, h2, h3⟩ := lex_quoted2 (T := quoT s 2) s hm dec_0 (by simp [quoT, aheadB, behindB, tC])
    exact fin pre post 12 _ h1 h2 h3

end Go.Proofs.YtcnhklcbibpjpaaGreatDoor
