/- Lemmas behind the laws of the tokens; no conditions. -/
import Derived.Test.YtcnhklcbibpjpaaGreatDoorZRgd
set_option linter.unusedVariables false
set_option linter.unusedSimpArgs false

namespace Go.Proofs.YtcnhklcbibpjpaaGreatDoor
open Go.RowKit P Ext
def argM4 (s : ByteArray) (op : Int) (t : ByteArray) (e : Nat) (ts : List Tk) (fs : List Fr) (al : List Nat) : MR :=
  if t.data.toList = wPlural ∨ t.data.toList = wOrdinal then cplxM s true false op e ts fs al
  else if t.data.toList = wSelect then cplxM s false false op e ts fs al
  else if t.data.toList = wChoice then cplxM s false true op e ts fs al
  else if at1 s e 125 then .ok (e + 1) (ts ++ [(4, (⟨#[]⟩ : ByteArray), ((e : Nat) : Int))]) fs al
  else if at1 s e 44 then
    match styM s op (e + 1) (ts ++ [(6, (⟨#[]⟩ : ByteArray), ((e : Nat) : Int))]) fs al with
    | .er k a => .er k a
    | .ok j ts2 fs2 al2 => .ok (j + 1) (ts2 ++ [(4, (⟨#[]⟩ : ByteArray), ((j : Nat) : Int))]) fs2 al2
  else (failR s e op).mr ts fs al
def argM3 (s : ByteArray) (op : Int) (b : Nat) (ts : List Tk) (fs : List Fr) (al : List Nat) : MR :=
  if letEnd s b = b then (failR s b op).mr ts fs al
  else argM4 s op (s.extract b (letEnd s b)) (P.blanks s (letEnd s b)) (ts ++ [(7, s.extract b (letEnd s b), ((b : Nat) : Int))]) fs al
def argM2 (s : ByteArray) (op : Int) (e : Nat) (ts : List Tk) (fs : List Fr) (al : List Nat) : MR :=
  if at1 s e 125 then .ok (e + 1) (ts ++ [(4, (⟨#[]⟩ : ByteArray), ((e : Nat) : Int))]) fs al
  else if at1 s e 44 then argM3 s op (P.blanks s (e + 1)) (ts ++ [(6, (⟨#[]⟩ : ByteArray), ((e : Nat) : Int))]) fs al
  else (failR s e op).mr ts fs al
def argM (s : ByteArray) (i : Nat) (ts : List Tk) (fs : List Fr) (al : List Nat) : MR :=
  if identP (wordAt s (P.blanks s (i + 1))) = 0 then (failR s (P.blanks s (i + 1)) i).mr ts fs al
  else argM2 s i (P.blanks s (P.wordEnd s (P.blanks s (i + 1)))) (ts ++ [(3, (⟨#[]⟩ : ByteArray), ((i : Nat) : Int))] ++ [(5, wordAt s (P.blanks s (i + 1)), ((P.blanks s (i + 1) : Nat) : Int))]) fs al
structure StyF (r : MR) (s : ByteArray) (ts : List Tk) : Prop where
  out : ∀ k a, r = .er k a → k = 190 ∨ k = 191
  out' : ∀ j ts2 fs2 al2, r = .ok j ts2 fs2 al2 → j < s.size ∧ ts2.length = ts.length + 1
theorem styE_lt (s : ByteArray) (i d j : Nat) (h : styE s i d = some j) : j < s.size := by
  induction i, d using styE.induct s with
  | case1 i d h0 h1 ih => rw [styE, dif_pos h0, if_pos h1] at h; exact ih h
  | case2 i d h0 h1 h2 ih => rw [styE, dif_pos h0, if_neg h1, if_pos h2] at h; exact ih h
  | case3 i h0 h1 h2 h3 => rw [styE, dif_pos h0, if_neg h1, if_neg h2, if_pos h3, if_pos rfl] at h; cases h; exact h0
  | case4 i d h0 h1 h2 h3 h4 ih => rw [styE, dif_pos h0, if_neg h1, if_neg h2, if_pos h3, if_neg h4] at h; exact ih h
  | case5 i d h0 h1 h2 h3 ih => rw [styE, dif_pos h0, if_neg h1, if_neg h2, if_neg h3] at h; exact ih h
  | case6 i d h0 => rw [styE, dif_neg h0] at h; cases h
theorem styM_er {s : ByteArray} {op : Int} {i : Nat} {ts : List Tk} {fs : List Fr} {al : List Nat} : StyF (styM s op i ts fs al) s ts := by
  constructor
  · intro k a h
    rw [styM] at h
    split at h
    · cases h; exact .inl rfl
    · split at h
      · cases h; exact .inr rfl
      · cases h
  · intro j ts2 fs2 al2 h
    rw [styM] at h
    split at h
    · cases h
    · rename_i j0 hj0
      split at h
      · cases h
      · cases h; exact ⟨styE_lt _ _ _ _ hj0, by simp⟩
def IdentC : Prop := ∀ (t : ByteArray) (w : World), GlH w → t.size ≤ 100000 → Calls Tryz.prog 73 #[.string t] w fun e w' => e = .returned (.int .i64 (identP t)) ∧ Below w.heap.size w w'
end Go.Proofs.YtcnhklcbibpjpaaGreatDoor
