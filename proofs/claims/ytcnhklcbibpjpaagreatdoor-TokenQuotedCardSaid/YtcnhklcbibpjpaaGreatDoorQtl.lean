/- What is quoted is read as the text that it was: in a message of each sort. -/
import Derived.Test.YtcnhklcbibpjpaaGreatDoorQtd
set_option linter.unusedVariables false
set_option linter.unusedSimpArgs false
namespace Go.Proofs.YtcnhklcbibpjpaaGreatDoor
open P

theorem Ag.bl {s t : ByteArray} {i L : Nat} (h : Ag s t i i L) : blanks t i = blanks s i := by obtain ⟨d, -, h2, h3, -⟩ := blanks_ag h; omega
theorem Ag.wo {s t : ByteArray} {i L : Nat} (h : Ag s t i i L) : wordEnd t i = wordEnd s i := by obtain ⟨d, -, h2, h3, -⟩ := wordEnd_ag h; omega
theorem Ag.nu {s t : ByteArray} {i L : Nat} (h : Ag s t i i L) : numEnd t i = numEnd s i := by obtain ⟨d, -, h2, h3, -⟩ := numEnd_ag h; omega
theorem Ag.le {s t : ByteArray} {i L : Nat} (h : Ag s t i i L) : letEnd t i = letEnd s i := by obtain ⟨d, -, h2, h3, -⟩ := letEnd_ag h; omega

/-- Texts that begin alike. -/
theorem ag_of (A T : ByteArray) (rest : List UInt8) (h : T.data.toList = A.data.toList ++ rest) (h0 : 0 < A.size) (he : endC (b8 A (A.size - 1))) : Ag A T 0 0 A.size := by
  have hl := congrArg List.length h
  have h1 : T.data.toList.length = T.size := by simp
  have h2 : A.data.toList.length = A.size := by simp
  simp only [List.length_append] at hl
  refine ⟨by omega, by omega, fun k hk => ?_, .inr ⟨h0, by simpa using he⟩⟩
  rw [b8_drop, b8_drop, List.drop_zero, List.drop_zero, h, List.getElem?_append_left (by omega)]

def tP : ByteArray := ⟨#[123, 110, 44, 112, 108, 117, 114, 97, 108, 44, 111, 116, 104, 101, 114, 123]⟩
def tC : ByteArray := ⟨#[123, 110, 44, 99, 104, 111, 105, 99, 101, 44, 48, 35]⟩

theorem blanks_125 {T : ByteArray} {i : Nat} (h : i < T.size) (hb : b8 T i = 125) : blanks T i = i := by
  have hd : Utf8.decode T i = (125, 1) := by
    rw [Lib.decode_at, get_b8, hb]
    unfold Lib.decodeN
    rw [if_pos (by omega)]
  rw [blanks, dif_pos h, hd, if_neg (by decide)]

theorem tokL_eq (l : List UInt8) (i : Nat) : tokL l i = if l.isEmpty then [] else [(1, ⟨l.toArray⟩, (i : Int))] := rfl

theorem lex_quoted0 (s T : ByteArray) (m : Int) (hm : m = 1 ∨ m = 2) (h : T.data.toList = quoteL s 0 0) : lexR T m = .ok T.size (tokL s.data.toList 0) [] := by
  have ht := text_quoted (T := T) (outer := true) hm s 0 [] (.inl rfl) s.size 0 0 (by omega) (by simpa using h)
  have hl : (quoteL s 0 0).length = T.size := by rw [← h]; simp
  rw [hl, List.drop_zero, Nat.zero_add] at ht
  have := lexR_some T m
  rw [msgF, show decide ((-1 : Int) < 0) = true from rfl, ht, if_pos rfl, if_pos (by decide)] at this
  exact (Option.some.inj this).symm

section
variable {T : ByteArray} {m : Int}
theorem msg_end (k : Nat) : msgF T m (k + 1) 0 (-1) T.size = some (.ok T.size [] []) := by
  have ht : textE T m 0 true T.size = ([], T.size, []) := by rw [textE, dif_neg (Nat.lt_irrefl _)]
  rw [msgF, show decide ((-1 : Int) < 0) = true from rfl, ht, if_pos rfl, if_pos (by decide)]
  rfl
theorem mustR_125 (op : Int) {i : Nat} (h : i < T.size) (hb : b8 T i = 125) : mustR T 125 4 op i = .ok (i + 1) [(4, ⟨#[]⟩, (i : Int))] [] := by
  rw [mustR, blanks_125 h hb, if_pos (by simp [at1, h, hb])]
theorem at1_is {i c : Nat} (h : i < T.size) (hb : b8 T i = c) : at1 T i c = true := by simp [at1, h, hb]

theorem lex_quoted1 (s : ByteArray) (hm : m = 1 ∨ m = 2) (h : T.data.toList = tP.data.toList ++ (quoteL s 1 0 ++ [125, 125])) :
    ∃ pre post, pre.length = 7 ∧ post.length = 2 ∧ lexR T m = .ok T.size (pre ++ tokL s.data.toList 16 ++ post) [] := by
  have hag : Ag tP T 0 0 16 := ag_of tP T _ h (by decide) (by right; right; decide +kernel)
  have g : ∀ k, k < 16 → Ag tP T k k (16 - k) := fun k hk => by have := hag.move k (.inl hk); simpa using this
  have hl := congrArg List.length h
  have h1 : T.data.toList.length = T.size := by simp
  simp only [List.length_append, List.length_cons, List.length_nil] at hl
  rw [h1, show tP.data.toList.length = 16 from rfl] at hl
  have hd : T.data.toList.drop 16 = quoteL s 1 0 ++ [125, 125] := by rw [h, List.drop_append_of_le_length (by decide), List.drop_eq_nil_of_le (by decide)]; rfl
  have ht := text_quoted (T := T) (outer := false) hm s 1 [125, 125] (.inr ⟨rfl, _, rfl⟩) s.size 0 16 (by omega) hd
  rw [List.drop_zero] at ht
  have hd2 : T.data.toList.drop (16 + (quoteL s 1 0).length) = [125, 125] := by
    rw [← List.drop_drop, hd, List.drop_append_of_le_length (by omega), List.drop_eq_nil_of_le (by omega)]; rfl
  generalize hp : 16 + (quoteL s 1 0).length = p at *
  obtain ⟨p1, p2, -, p3⟩ := drop_uncons hd2
  obtain ⟨p4, p5, -, -⟩ := drop_uncons p3
  replace p2 : b8 T p = 125 := p2
  replace p5 : b8 T (p + 1) = 125 := p5
  have hsz : T.size = p + 2 := by omega
  have e0 : b8 T 0 = 123 := by have := (g 0 (by decide)).byte0 (by decide); rw [← this]; decide +kernel
  have b1 : blanks T 1 = 1 := (g 1 (by decide)).bl.trans (by decide +kernel)
  have w1 : wordEnd T 1 = 2 := (g 1 (by decide)).wo.trans (by decide +kernel)
  have n1 : wordAt T 1 = ⟨#[110]⟩ := (wordAt_ag (g 1 (by decide))).symm.trans (by decide +kernel)
  have b2 : blanks T 2 = 2 := (g 2 (by decide)).bl.trans (by decide +kernel)
  have a2 : at1 T 2 125 = false := (at1_ag (g 2 (by decide)) 125).symm.trans (by decide +kernel)
  have a2' : at1 T 2 44 = true := (at1_ag (g 2 (by decide)) 44).symm.trans (by decide +kernel)
  have b3 : blanks T 3 = 3 := (g 3 (by decide)).bl.trans (by decide +kernel)
  have l3 : letEnd T 3 = 9 := (g 3 (by decide)).le.trans (by decide +kernel)
  have x3 : T.extract 3 9 = ⟨#[112, 108, 117, 114, 97, 108]⟩ := (extract_ag (d := 6) (g 3 (by decide)) (by decide)).symm.trans (by decide +kernel)
  have b9 : blanks T 9 = 9 := (g 9 (by decide)).bl.trans (by decide +kernel)
  have a9 : at1 T 9 44 = true := (at1_ag (g 9 (by decide)) 44).symm.trans (by decide +kernel)
  have b10 : blanks T 10 = 10 := (g 10 (by decide)).bl.trans (by decide +kernel)
  have o10 : hereB T 10 wOffset = false := (hereB_ag (g 10 (by decide)) wOffset (by unfold endC; decide)).symm.trans (by decide +kernel)
  have a10 : at1 T 10 125 = false := (at1_ag (g 10 (by decide)) 125).symm.trans (by decide +kernel)
  have a10' : at1 T 10 61 = false := (at1_ag (g 10 (by decide)) 61).symm.trans (by decide +kernel)
  have n10 : wordAt T 10 = ⟨#[111, 116, 104, 101, 114]⟩ := (wordAt_ag (g 10 (by decide))).symm.trans (by decide +kernel)
  have w10 : wordEnd T 10 = 15 := (g 10 (by decide)).wo.trans (by decide +kernel)
  have b15 : blanks T 15 = 15 := (g 15 (by decide)).bl.trans (by decide +kernel)
  have a15 : at1 T 15 123 = true := (at1_ag (g 15 (by decide)) 123).symm.trans (by decide +kernel)
  obtain ⟨k, hk⟩ : ∃ k, 2 * T.size + 2 = k + 6 := ⟨2 * T.size - 4, by omega⟩
  have m1 : ∀ k, msgF T m (k + 1) 1 15 16 = some (.ok p (tokL s.data.toList 16) []) := fun k => by
    rw [msgF, show decide ((15 : Int) < 0) = false from rfl, ht]
    simp only
    rw [if_neg (by omega), if_neg (by omega), if_neg (by omega)]
  have c2 : ∀ k, casesF T m (k + 1) true 0 (p + 1) = some (.ok (p + 2) [(4, ⟨#[]⟩, ((p + 1 : Nat) : Int))] []) := fun k => by
    rw [casesF, blanks_125 p4 p5, if_pos (at1_is p4 p5), mustR_125 _ p4 p5]
  have c1 : ∀ k, casesF T m (k + 2) true 0 10 = some (.ok (p + 2) ([(10, ⟨#[111, 116, 104, 101, 114]⟩, 10), (3, ⟨#[]⟩, 15)] ++ tokL s.data.toList 16 ++ [(4, ⟨#[]⟩, (p : Int)), (4, ⟨#[]⟩, ((p + 1 : Nat) : Int))]) []) := fun k => by
    have key : keyR T true 0 10 = .ok 15 [(10, ⟨#[111, 116, 104, 101, 114]⟩, 10)] [] := by
      rw [keyR, a10', n10, w10, if_neg (by decide), if_neg (by decide)]; rfl
    have mu : mustR T 123 3 0 15 = .ok 16 [(3, ⟨#[]⟩, 15)] [] := by rw [mustR, b15, if_pos a15]; rfl
    rw [casesF, b10, if_neg (by rw [a10]; decide), if_neg (by omega), key]
    simp only [R.next, b15, mu, if_true]
    rw [show ((15 : Nat) : Int) = 15 from rfl, m1]
    simp only [Option.bind_some, R.next, mustR_125 _ p1 p2, c2, Option.map_some, R.pre, List.append_nil]
    simp
  have ty : ∀ k, typedF T m (k + 3) ⟨#[112, 108, 117, 114, 97, 108]⟩ 0 9 = some (.ok (p + 2) ((6, ⟨#[]⟩, 9) :: ([(10, ⟨#[111, 116, 104, 101, 114]⟩, 10), (3, ⟨#[]⟩, 15)] ++ tokL s.data.toList 16 ++ [(4, ⟨#[]⟩, (p : Int)), (4, ⟨#[]⟩, ((p + 1 : Nat) : Int))])) []) := fun k => by
    have mu : mustR T 44 6 0 9 = .ok 10 [(6, ⟨#[]⟩, 9)] [] := by rw [mustR, b9, if_pos a9]; rfl
    have of : offsetR T 0 10 = .ok 10 [] [] := by rw [offsetR, b10, if_neg (by rw [o10]; decide)]
    rw [typedF, if_pos (.inl rfl), b9, mu]
    simp only [R.next, of, c1, Option.map_some, R.pre]
    simp
  have ar : ∀ k, argF T m (k + 4) 0 = some (.ok (p + 2) ([(3, ⟨#[]⟩, 0), (5, ⟨#[110]⟩, 1), (6, ⟨#[]⟩, 2), (7, ⟨#[112, 108, 117, 114, 97, 108]⟩, 3), (6, ⟨#[]⟩, 9), (10, ⟨#[111, 116, 104, 101, 114]⟩, 10), (3, ⟨#[]⟩, 15)] ++ tokL s.data.toList 16 ++ [(4, ⟨#[]⟩, (p : Int)), (4, ⟨#[]⟩, ((p + 1 : Nat) : Int))]) []) := fun k => by
    have mu : mustR T 44 6 ((0 : Nat) : Int) 2 = .ok 3 [(6, ⟨#[]⟩, 2)] [] := by rw [mustR, b2, if_pos a2']; rfl
    rw [argF, Nat.zero_add, b1, n1, w1, b2, if_neg (by decide +kernel), if_neg (by rw [a2]; decide), mu]
    simp only [R.next, b3, l3, x3]
    rw [if_neg (by decide)]
    simp only [show ((0 : Nat) : Int) = 0 from rfl, ty, Option.map_some, R.pre]
    simp
  refine ⟨[(3, ⟨#[]⟩, 0), (5, ⟨#[110]⟩, 1), (6, ⟨#[]⟩, 2), (7, ⟨#[112, 108, 117, 114, 97, 108]⟩, 3), (6, ⟨#[]⟩, 9), (10, ⟨#[111, 116, 104, 101, 114]⟩, 10), (3, ⟨#[]⟩, 15)], [(4, ⟨#[]⟩, (p : Int)), (4, ⟨#[]⟩, ((p + 1 : Nat) : Int))], rfl, rfl, ?_⟩
  have hx := lexR_some T m
  have t0 : textE T m 0 true 0 = ([], 0, []) := by rw [textE, dif_pos (by omega), if_neg (by omega), if_pos (by rw [e0]; rfl)]
  rw [hk, msgF, show decide ((-1 : Int) < 0) = true from rfl, t0] at hx
  simp only at hx
  rw [if_neg (by omega), if_pos e0, ar] at hx
  simp only [Option.bind_some, R.next] at hx
  rw [← hsz, msg_end] at hx
  have hx := Option.some.inj hx
  rw [← hx]
  simp [R.pre, tokL]

theorem lex_quoted2 (s : ByteArray) (hm : m = 1 ∨ m = 2) (h0 : decB [48] = true) (h : T.data.toList = tC.data.toList ++ (quoteL s 2 0 ++ [125])) :
    ∃ pre post, pre.length = 6 ∧ post.length = 1 ∧ lexR T m = .ok T.size (pre ++ tokL s.data.toList 12 ++ post) [] := by
  have hag : Ag tC T 0 0 12 := ag_of tC T _ h (by decide) (by right; left; decide +kernel)
  have g : ∀ k, k < 12 → Ag tC T k k (12 - k) := fun k hk => by have := hag.move k (.inl hk); simpa using this
  have hl := congrArg List.length h
  have h1 : T.data.toList.length = T.size := by simp
  simp only [List.length_append, List.length_cons, List.length_nil] at hl
  rw [h1, show tC.data.toList.length = 12 from rfl] at hl
  have hd : T.data.toList.drop 12 = quoteL s 2 0 ++ [125] := by rw [h, List.drop_append_of_le_length (by decide), List.drop_eq_nil_of_le (by decide)]; rfl
  have ht := text_quoted (T := T) (outer := false) hm s 2 [125] (.inr ⟨rfl, _, rfl⟩) s.size 0 12 (by omega) hd
  rw [List.drop_zero] at ht
  have hd2 : T.data.toList.drop (12 + (quoteL s 2 0).length) = [125] := by
    rw [← List.drop_drop, hd, List.drop_append_of_le_length (by omega), List.drop_eq_nil_of_le (by omega)]; rfl
  generalize hp : 12 + (quoteL s 2 0).length = p at *
  obtain ⟨p1, p2, -, p3⟩ := drop_uncons hd2
  replace p2 : b8 T p = 125 := p2
  have hsz : T.size = p + 1 := by omega
  have e0 : b8 T 0 = 123 := by have := (g 0 (by decide)).byte0 (by decide); rw [← this]; decide +kernel
  have b1 : blanks T 1 = 1 := (g 1 (by decide)).bl.trans (by decide +kernel)
  have w1 : wordEnd T 1 = 2 := (g 1 (by decide)).wo.trans (by decide +kernel)
  have n1 : wordAt T 1 = ⟨#[110]⟩ := (wordAt_ag (g 1 (by decide))).symm.trans (by decide +kernel)
  have b2 : blanks T 2 = 2 := (g 2 (by decide)).bl.trans (by decide +kernel)
  have a2 : at1 T 2 125 = false := (at1_ag (g 2 (by decide)) 125).symm.trans (by decide +kernel)
  have a2' : at1 T 2 44 = true := (at1_ag (g 2 (by decide)) 44).symm.trans (by decide +kernel)
  have b3 : blanks T 3 = 3 := (g 3 (by decide)).bl.trans (by decide +kernel)
  have l3 : letEnd T 3 = 9 := (g 3 (by decide)).le.trans (by decide +kernel)
  have x3 : T.extract 3 9 = ⟨#[99, 104, 111, 105, 99, 101]⟩ := (extract_ag (d := 6) (g 3 (by decide)) (by decide)).symm.trans (by decide +kernel)
  have b9 : blanks T 9 = 9 := (g 9 (by decide)).bl.trans (by decide +kernel)
  have a9 : at1 T 9 44 = true := (at1_ag (g 9 (by decide)) 44).symm.trans (by decide +kernel)
  have b10 : blanks T 10 = 10 := (g 10 (by decide)).bl.trans (by decide +kernel)
  have n10 : numAt T 10 = ⟨#[48]⟩ := (numAt_ag (g 10 (by decide))).symm.trans (by decide +kernel)
  have w10 : numEnd T 10 = 11 := (g 10 (by decide)).nu.trans (by decide +kernel)
  have b11 : blanks T 11 = 11 := (g 11 (by decide)).bl.trans (by decide +kernel)
  have a11 : at1 T 11 35 = true := (at1_ag (g 11 (by decide)) 35).symm.trans (by decide +kernel)
  obtain ⟨k, hk⟩ : ∃ k, 2 * T.size + 2 = k + 6 := ⟨2 * T.size - 4, by omega⟩
  have m1 : ∀ k, msgF T m (k + 1) 2 0 12 = some (.ok p (tokL s.data.toList 12) []) := fun k => by
    rw [msgF, show decide ((0 : Int) < 0) = false from rfl, ht]
    simp only
    rw [if_neg (by omega), if_neg (by omega), if_neg (by omega)]
  have c1 : ∀ k, choiceF T m (k + 2) 0 10 = some (.ok (p + 1) ([(11, ⟨#[48, 35]⟩, 10)] ++ tokL s.data.toList 12 ++ [(4, ⟨#[]⟩, (p : Int))]) []) := fun k => by
    rw [choiceF, b10, if_pos (by rw [numOk, n10]; exact h0), n10, w10, b11, if_pos a11]
    simp only [R.next, m1, Option.bind_some]
    rw [if_pos (at1_is p1 p2), mustR_125 _ p1 p2]
    simp only [Option.map_some, R.pre, List.append_nil]
    simp
    rfl
  have ty : ∀ k, typedF T m (k + 3) ⟨#[99, 104, 111, 105, 99, 101]⟩ 0 9 = some (.ok (p + 1) ((6, ⟨#[]⟩, 9) :: ([(11, ⟨#[48, 35]⟩, 10)] ++ tokL s.data.toList 12 ++ [(4, ⟨#[]⟩, (p : Int))])) []) := fun k => by
    have mu : mustR T 44 6 0 9 = .ok 10 [(6, ⟨#[]⟩, 9)] [] := by rw [mustR, b9, if_pos a9]; rfl
    rw [typedF, if_neg (by decide), if_neg (by decide), if_pos (show ((⟨#[99, 104, 111, 105, 99, 101]⟩ : ByteArray).data.toList = wChoice) from rfl), b9, mu]
    simp only [R.next, c1, Option.map_some, R.pre]
    simp
  have ar : ∀ k, argF T m (k + 4) 0 = some (.ok (p + 1) ([(3, ⟨#[]⟩, 0), (5, ⟨#[110]⟩, 1), (6, ⟨#[]⟩, 2), (7, ⟨#[99, 104, 111, 105, 99, 101]⟩, 3), (6, ⟨#[]⟩, 9), (11, ⟨#[48, 35]⟩, 10)] ++ tokL s.data.toList 12 ++ [(4, ⟨#[]⟩, (p : Int))]) []) := fun k => by
    have mu : mustR T 44 6 ((0 : Nat) : Int) 2 = .ok 3 [(6, ⟨#[]⟩, 2)] [] := by rw [mustR, b2, if_pos a2']; rfl
    rw [argF, Nat.zero_add, b1, n1, w1, b2, if_neg (by decide +kernel), if_neg (by rw [a2]; decide), mu]
    simp only [R.next, b3, l3, x3]
    rw [if_neg (by decide)]
    simp only [show ((0 : Nat) : Int) = 0 from rfl, ty, Option.map_some, R.pre]
    simp
  refine ⟨[(3, ⟨#[]⟩, 0), (5, ⟨#[110]⟩, 1), (6, ⟨#[]⟩, 2), (7, ⟨#[99, 104, 111, 105, 99, 101]⟩, 3), (6, ⟨#[]⟩, 9), (11, ⟨#[48, 35]⟩, 10)], [(4, ⟨#[]⟩, (p : Int))], rfl, rfl, ?_⟩
  have hx := lexR_some T m
  have t0 : textE T m 0 true 0 = ([], 0, []) := by rw [textE, dif_pos (by omega), if_neg (by omega), if_pos (by rw [e0]; rfl)]
  rw [hk, msgF, show decide ((-1 : Int) < 0) = true from rfl, t0] at hx
  simp only at hx
  rw [if_neg (by omega), if_pos e0, ar] at hx
  simp only [Option.bind_some, R.next] at hx
  rw [← hsz, msg_end] at hx
  have hx := Option.some.inj hx
  rw [← hx]
  simp [R.pre, tokL]
end
end Go.Proofs.YtcnhklcbibpjpaaGreatDoor
