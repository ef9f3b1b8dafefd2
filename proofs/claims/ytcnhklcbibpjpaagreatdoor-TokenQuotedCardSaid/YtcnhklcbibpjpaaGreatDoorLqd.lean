/- The law TokenQuoted. -/
import Derived.Test.YtcnhklcbibpjpaaGreatDoorQta
set_option linter.unusedVariables false
set_option linter.unusedSimpArgs false
namespace Go.Proofs.YtcnhklcbibpjpaaGreatDoor
open Go.RowKit P Ext

theorem Quote_good (s : ByteArray) (m sort : Int) (w : World) (hG : GlH w) (hm : m = 1 ∨ m = 2) (hs : sort = 0 ∨ sort = 1 ∨ sort = 2) (hz : s.size ≤ 8000) :
    Calls Tryz.prog 16 #[.string s, .int .i64 m, .int .i64 sort] w fun e w' => e = .returned (.tuple #[.string ⟨(quoteL s sort 0).toArray⟩, .int .i64 0]) ∧ Below w.heap.size w w' := by
  refine (Quote_any s m sort w hG).mono ?_
  rintro e w' ⟨rfl, hb⟩
  refine ⟨?_, hb⟩
  rw [if_neg (by omega), if_pos (by rcases hm with rfl | rfl <;> rcases hs with rfl | rfl | rfl <;> decide)]

theorem toList_ne (s : ByteArray) (h : s.size ≠ 0) : s.toList ≠ [] := by
  intro e
  apply h
  have : s.toList = s.data.toList := ByteArray.toList_eq s
  rw [this] at e
  have h1 : s.data.toList.length = s.size := by simp
  rw [e] at h1
  exact h1.symm

set_option maxRecDepth 100000 in
set_option maxHeartbeats 16000000 in
theorem TokenQuoted_any (s : ByteArray) (mode sort : Int) (w : World) (hG : GlH w) :
    Calls Tryz.prog 9 #[.string s, .int .i64 mode, .int .i64 sort] w fun e w' => e = .returned (.bool true) ∧ Below w.heap.size w w' := by
  obtain ⟨m', hm', hme⟩ : ∃ m' : Int, (m' = 1 ∨ m' = 2) ∧ ((mode != 2) = false ∧ mode = m' ∨ (mode != 2) = true ∧ 1 = m') := by
    by_cases h : mode = 2
    · exact ⟨2, .inr rfl, .inl ⟨by simp [h], h⟩⟩
    · exact ⟨1, .inl rfl, .inr ⟨by simpa using h, rfl⟩⟩
  obtain ⟨sort', hs', hse⟩ : ∃ sort' : Int, (sort' = 0 ∨ sort' = 1 ∨ sort' = 2) ∧ ((decide (sort < 0) = false ∧ decide (2 < sort) = false) ∧ sort = sort' ∨ (decide (sort < 0) = false ∧ decide (2 < sort) = true) ∧ 0 = sort' ∨ (decide (sort < 0) = true ∧ True) ∧ 0 = sort') := by
    by_cases h : sort < 0
    · exact ⟨0, .inl rfl, .inr (.inr ⟨⟨by simpa using h, trivial⟩, rfl⟩)⟩
    · by_cases h2 : 2 < sort
      · exact ⟨0, .inl rfl, .inr (.inl ⟨⟨by simpa using h, by simpa using h2⟩, rfl⟩)⟩
      · exact ⟨sort, by omega, .inl ⟨⟨by simpa using h, by simpa using h2⟩, rfl⟩⟩
  obtain ⟨s', hz', hze⟩ : ∃ s' : ByteArray, s'.size ≤ 8000 ∧ (decide ((8000 : Int) < s.size) = false ∧ s' = s ∨ (decide ((8000 : Int) < s.size) = true ∧ (8000 : Int) ≤ s.size) ∧ s.extract 0 8000 = s') := by
    by_cases h : 8000 < s.size
    · exact ⟨s.extract 0 8000, by simp [ByteArray.size_extract]; omega, .inr ⟨⟨by simp; omega, by omega⟩, rfl⟩⟩
    · exact ⟨s, by omega, .inl ⟨by simp; omega, rfl⟩⟩
  obtain ⟨hT, j, L, hL1, hL2, hL3⟩ := quoT_lex s' m' sort' hm' hs' hz'
  have HQ := Lib.hid (Quote_good s' m' sort' w hG hm' hs' hz')
  have HL := Lib.hid (fun w hG => Lex_any (quoT s' sort') m' w hG)
  have HLO := Lib.hid hL1
  have hq := quoteL_length s' sort' s'.size 0 (by omega)
  have ha : (aheadB sort').size ≤ 16 := by rcases hs' with rfl | rfl | rfl <;> decide
  have hb : (behindB sort').size ≤ 2 := by rcases hs' with rfl | rfl | rfl <;> decide
  have hq2 : (⟨(quoteL s' sort' 0).toArray⟩ : ByteArray).size = (quoteL s' sort' 0).length := by simp [ByteArray.size]
  have HA := Lib.hid (fun w => around_any sort' w)
  have hT2 : Hid (quoT s' sort' = aheadB sort' ++ ⟨(quoteL s' sort' 0).toArray⟩ ++ behindB sort') := Lib.hid rfl
  have hn7 : numB7 sort' ≤ 7 := by rcases hs' with rfl | rfl | rfl <;> decide
  generalize quoT s' sort' = T at *
  generalize aheadB sort' = A at *
  generalize behindB sort' = B at *
  generalize numB7 sort' = n7 at *
  generalize (quoteL s' sort' 0).length = ql at *
  generalize (⟨(quoteL s' sort' 0).toArray⟩ : ByteArray) = q at *
  have HS := Lib.hid hs'
  have HM := Lib.hid hm'
  have z1 : A.size + q.size ≤ 9223372036854775807 := by omega
  have z2 : A.size + q.size + B.size ≤ 9223372036854775807 := by omega
  have z3 : (A ++ q).size + B.size ≤ 9223372036854775807 := by rw [ByteArray.size_append]; omega
  have HL2 := Lib.hid hL2
  have HL3 := Lib.hid hL3
  clear hs' hm' hq2 hL1 hL2 hL3
  rcases hme with ⟨e1, rfl⟩ | ⟨e1, rfl⟩ <;> rcases hse with ⟨⟨e2, e3⟩, rfl⟩ | ⟨⟨e2, e3⟩, rfl⟩ | ⟨⟨e2, e3⟩, rfl⟩ <;> rcases hze with ⟨e4, rfl⟩ | ⟨⟨e4, e5⟩, hs⟩
  all_goals
    go_enter Tryz.func9, Tryz.ntmps9
    go_wp2_with fail
    refine HQ.out.mono ?_
    rintro e w1 ⟨rfl, hb1⟩
    go_wp2_with (go_at_call 18; refine (HA.out _).mono ?_; rintro e w' ⟨rfl, rfl⟩)
    rw [← hT2.out]
    refine (HL.out w' (hG.bel hb1)).mono ?_
    rw [HLO.out]
    rintro e w2 ⟨⟨v, rfl, ho⟩, hb2⟩
    have hb3 := hb1.trans (hb2.mono hb1.size)
    have hlen := row_le ho
    obtain ⟨ad, cap, rfl, hc⟩ := tok_cells ho
    clear ho
    by_cases hne : s'.size = 0
    · have hs0 : s' = ⟨#[]⟩ := by
        apply ByteArray.ext; exact Array.eq_empty_of_size_eq_zero hne
      have hln : L.length = n7 + B.size := by have := HL2.out; rw [if_pos hne] at this; omega
      have c1 : ((L.length : Int) != (n7 : Int) + 0 + (B.size : Int)) = false := by simp; omega
      have c2 : (s'.toList == []) = true := by rw [hs0, ByteArray.toList_eq]; rfl
      have c3 : (s'.toList != []) = false := by rw [hs0, ByteArray.toList_eq]; rfl
      have HN := Lib.hid hln
      clear hln hs0 hc
      go_wp2_with fail
      refine (awake_any w2 (hG.bel hb3)).mono ?_
      rintro e w4 ⟨rfl, hb4⟩
      go_wp2_with fail
      go_ret
      exact ⟨rfl, hb3.trans (hb4.mono hb3.size)⟩
    · have hln : L.length = n7 + 1 + B.size := by have := HL2.out; rw [if_neg hne] at this; omega
      obtain ⟨h7, t1, t2⟩ := HL3.out hne
      obtain ⟨g, rfl, hg, x1, x2, x3⟩ := hc n7 h7
      rw [t1] at x1
      rw [t2] at x2
      have c1 : ((L.length : Int) != (n7 : Int) + 1 + (B.size : Int)) = false := by simp; omega
      have c2 : (s'.toList == []) = false := by simpa using toList_ne s' hne
      have c3 : (s'.toList != []) = true := by simpa using toList_ne s' hne
      have HN := Lib.hid hln
      clear hln hc t1 t2 x3
      go_wp2_with fail
      refine (awake_any w2 (hG.bel hb3)).mono ?_
      rintro e w4 ⟨rfl, hb4⟩
      go_wp2_with fail
      go_ret
      exact ⟨rfl, hb3.trans (hb4.mono hb3.size)⟩

end Go.Proofs.YtcnhklcbibpjpaaGreatDoor
