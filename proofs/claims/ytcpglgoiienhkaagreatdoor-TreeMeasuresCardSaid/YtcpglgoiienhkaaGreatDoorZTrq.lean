/- The tree of tokens: more rounds change nothing; on the lexer's tokens so many rounds are enough. -/
import Derived.Test.YtcpglgoiienhkaaGreatDoorZTrp
import Derived.Test.YtcpglgoiienhkaaGreatDoorZMF
set_option linter.unusedVariables false
set_option linter.unusedSimpArgs false

namespace Go.Proofs.YtcpglgoiienhkaaGreatDoor
open P
theorem TR.bind_up {α β : Type} {a b : Option (TR α)} {f g : Nat → Nat → α → Option (TR β)} (hab : ∀ r, a = some r → b = some r) (hfg : ∀ i n x r, f i n x = some r → g i n x = some r) {r : TR β}
    (h : (a.bind fun q => q.bind f) = some r) : (b.bind fun q => q.bind g) = some r := by
  rw [Option.bind_eq_some_iff] at h ⊢
  obtain ⟨q, h1, h2⟩ := h
  refine ⟨q, hab q h1, ?_⟩
  cases q with
  | ok i n x => exact hfg _ _ _ _ h2
  | er e a => exact h2
structure UpT (ts : List Tk) (k : Nat) : Prop where
  msg : ∀ i n d acc r, msgT ts k i n d acc = some r → msgT ts (k + 1) i n d acc = some r
  arg : ∀ i n d r, argT ts k i n d = some r → argT ts (k + 1) i n d = some r
  cas : ∀ i n d acc r, casT ts k i n d acc = some r → casT ts (k + 1) i n d acc = some r
  one : ∀ i n had d r, oneT ts k i n had d = some r → oneT ts (k + 1) i n had d = some r
theorem upT (ts : List Tk) : ∀ k, UpT ts k := by
  intro k
  induction k with
  | zero => exact ⟨fun _ _ _ _ _ h => by simp [msgT] at h, fun _ _ _ _ h => by simp [argT] at h, fun _ _ _ _ _ h => by simp [casT] at h, fun _ _ _ _ _ h => by simp [oneT] at h⟩
  | succ k ih =>
    refine ⟨?_, ?_, ?_, ?_⟩
    · intro i n d acc r h
      rw [msgT] at h ⊢
      cases he : ts[i]? with
      | none => rw [he] at h; exact h
      | some t =>
        rw [he] at h
        simp only at h ⊢
        split at h
        · rename_i h1
          rw [if_pos h1]
          split at h
          · rename_i h2; rw [if_pos h2]; exact h
          · rename_i h2
            rw [if_neg h2]
            split at h
            · rename_i h3
              rw [if_pos h3]
              exact TR.bind_up (fun r => ih.arg _ _ _ r) (fun i n x r => ih.msg _ _ _ _ r) h
            · rename_i h3
              rw [if_neg h3]
              exact ih.msg _ _ _ _ _ h
        · rename_i h1
          rw [if_neg h1]
          exact h
    · intro i n d r h
      rw [argT] at h ⊢
      rw [Option.bind_eq_some_iff] at h ⊢
      obtain ⟨nm, h0, h⟩ := h
      refine ⟨nm, h0, ?_⟩
      split at h
      · rename_i h1; rw [if_pos h1]; exact h
      · rename_i h1
        rw [if_neg h1]
        rw [Option.bind_eq_some_iff] at h ⊢
        obtain ⟨u, h2, h⟩ := h
        refine ⟨u, h2, ?_⟩
        rw [Option.bind_eq_some_iff] at h ⊢
        obtain ⟨t, h3, h⟩ := h
        refine ⟨t, h3, ?_⟩
        split at h
        · rename_i h4; rw [if_pos h4]; exact h
        · rename_i h4
          rw [if_neg h4]
          rw [Option.bind_eq_some_iff] at h ⊢
          obtain ⟨t, h5, h⟩ := h
          refine ⟨t, h5, ?_⟩
          exact TR.bind_up (fun r => ih.cas _ _ _ _ r) (fun i n x r h => h) h
    · intro i n d acc r h
      rw [casT] at h ⊢
      split at h
      · rename_i h1
        rw [if_pos h1]
        exact TR.bind_up (fun r => ih.one _ _ _ _ r) (fun i n x r => ih.cas _ _ _ _ r) h
      · rename_i h1
        rw [if_neg h1]
        exact h
    · intro i n had d r h
      rw [oneT] at h ⊢
      rw [Option.bind_eq_some_iff] at h ⊢
      obtain ⟨t, h0, h⟩ := h
      refine ⟨t, h0, ?_⟩
      split at h
      · rename_i h1; rw [if_pos h1]; exact h
      · rename_i h1
        rw [if_neg h1]
        rw [Option.bind_eq_some_iff] at h ⊢
        obtain ⟨u, h2, h⟩ := h
        refine ⟨u, h2, ?_⟩
        split at h
        · rename_i h4; rw [if_pos h4]; exact h
        · rename_i h4
          rw [if_neg h4]
          exact TR.bind_up (fun r => ih.msg _ _ _ _ r) (fun i n x r h => h) h
theorem msgT_le {ts : List Tk} {k k' : Nat} (hk : k ≤ k') {i n d : Nat} {acc : List Pt} {r : TR (List Pt)} (h : msgT ts k i n d acc = some r) : msgT ts k' i n d acc = some r := by
  induction hk with
  | refl => exact h
  | step _ ih => exact (upT ts _).msg _ _ _ _ _ ih
theorem argT_le {ts : List Tk} {k k' : Nat} (hk : k ≤ k') {i n d : Nat} {r : TR Pt} (h : argT ts k i n d = some r) : argT ts k' i n d = some r := by
  induction hk with
  | refl => exact h
  | step _ ih => exact (upT ts _).arg _ _ _ _ ih
theorem casT_le {ts : List Tk} {k k' : Nat} (hk : k ≤ k') {i n d : Nat} {acc : List Ct} {r : TR (List Ct)} (h : casT ts k i n d acc = some r) : casT ts k' i n d acc = some r := by
  induction hk with
  | refl => exact h
  | step _ ih => exact (upT ts _).cas _ _ _ _ _ ih
theorem oneT_le {ts : List Tk} {k k' : Nat} (hk : k ≤ k') {i n had d : Nat} {r : TR Ct} (h : oneT ts k i n had d = some r) : oneT ts k' i n had d = some r := by
  induction hk with
  | refl => exact h
  | step _ ih => exact (upT ts _).one _ _ _ _ _ ih
def Seg (ts : List Tk) (p : Nat) (us : List Tk) : Prop := ∀ j t, us[j]? = some t → ts[p + j]? = some t
theorem Seg.left {ts us vs : List Tk} {p : Nat} (h : Seg ts p (us ++ vs)) : Seg ts p us := fun j t hj => h j t (by
  rw [List.getElem?_append_left (List.getElem?_eq_some_iff.1 hj).1]; exact hj)
theorem Seg.right {ts us vs : List Tk} {p : Nat} (h : Seg ts p (us ++ vs)) : Seg ts (p + us.length) vs := fun j t hj => by
  have := h (us.length + j) t (by rw [List.getElem?_append_right (by omega)]; simpa using hj)
  rw [Nat.add_assoc]; exact this
theorem Seg.head {ts us : List Tk} {p : Nat} {t : Tk} (h : Seg ts p (t :: us)) : ts[p]? = some t := h 0 t rfl
theorem Seg.tail {ts us : List Tk} {p : Nat} {t : Tk} (h : Seg ts p (t :: us)) : Seg ts (p + 1) us := fun j u hj => by
  have := h (j + 1) u (by simpa using hj)
  rw [show p + 1 + j = p + (j + 1) by omega]; exact this
theorem kdAt_of {ts : List Tk} {i : Nat} {t : Tk} (h : ts[i]? = some t) : kdAt ts i = t.1 := by rw [kdAt, h]
def StopAt (ts : List Tk) (i : Nat) : Prop := kdAt ts i ≠ 1 ∧ kdAt ts i ≠ 2 ∧ kdAt ts i ≠ 3
theorem StopAt.of {ts : List Tk} {i : Nat} {k : Int} {x : ByteArray × Int} (h : ts[i]? = some (k, x)) (h1 : k = 4 ∨ k = 12) : StopAt ts i := by
  unfold StopAt
  rw [kdAt_of h]
  show k ≠ 1 ∧ k ≠ 2 ∧ k ≠ 3
  omega
def MsgG (ts : List Tk) (p q : Nat) : Prop := ∀ n d acc, ∃ k r, msgT ts k p n d acc = some r ∧ ∀ i n' x, r = .ok i n' x → i = q
def ArgG (ts : List Tk) (p q : Nat) : Prop := ∀ n d, ∃ k r, argT ts k p n d = some r ∧ ∀ i n' x, r = .ok i n' x → i = q
def CasG (ts : List Tk) (p q : Nat) : Prop := ∀ n d acc, ∃ k r, casT ts k p n d acc = some r ∧ ∀ i n' x, r = .ok i n' x → i = q
theorem msgG_stop {ts : List Tk} {p : Nat} (h : StopAt ts p) : MsgG ts p p := by
  intro n d acc
  refine ⟨1, .ok p n acc, ?_, fun i n' x e => by cases e; rfl⟩
  rw [msgT]
  cases ht : ts[p]? with
  | none => rfl
  | some t =>
    simp only
    have hk := kdAt_of ht
    obtain ⟨h1, h2, h3⟩ := h
    rw [hk] at h1 h2 h3
    rw [if_neg (by rintro (h | h | h) <;> contradiction)]
theorem msgG_leaf {ts : List Tk} {p q : Nat} {t : Tk} (ht : ts[p]? = some t) (hk : t.1 = 1 ∨ t.1 = 2) (h : MsgG ts (p + 1) q) : MsgG ts p q := by
  intro n d acc
  by_cases hn : n = 4096
  · refine ⟨1, .er 5 t.2.2, ?_, fun i n' x e => by cases e⟩
    rw [msgT, ht]
    simp only
    rw [if_pos (by rcases hk with h | h <;> simp [h]), if_pos hn]
  · obtain ⟨k, r, h1, h2⟩ := h (n + 1) d (acc ++ [leafP t])
    refine ⟨k + 1, r, ?_, h2⟩
    rw [msgT, ht]
    simp only
    rw [if_pos (by rcases hk with h | h <;> simp [h]), if_neg hn, if_neg (by rcases hk with h | h <;> (rw [h]; decide)), h1]
theorem msgG_arg {ts : List Tk} {p m q : Nat} {t : Tk} (ht : ts[p]? = some t) (hk : t.1 = 3) (ha : ArgG ts (p + 1) m) (h : MsgG ts m q) : MsgG ts p q := by
  intro n d acc
  by_cases hn : n = 4096
  · refine ⟨1, .er 5 t.2.2, ?_, fun i n' x e => by cases e⟩
    rw [msgT, ht]
    simp only
    rw [if_pos (by simp [hk]), if_pos hn]
  · obtain ⟨k, r, h1, h2⟩ := ha (n + 1) d
    cases r with
    | er e a =>
      refine ⟨k + 1, .er e a, ?_, fun i n' x e => by cases e⟩
      rw [msgT, ht]
      simp only
      rw [if_pos (by simp [hk]), if_neg hn, if_pos hk, h1]
      rfl
    | ok i n' x =>
      obtain rfl := h2 _ _ _ rfl
      obtain ⟨k2, r2, h3, h4⟩ := h n' d (acc ++ [x])
      refine ⟨max k k2 + 1, r2, ?_, h4⟩
      rw [msgT, ht]
      simp only
      rw [if_pos (by simp [hk]), if_neg hn, if_pos hk, argT_le (Nat.le_max_left k k2) h1]
      exact msgT_le (Nat.le_max_right k k2) h3
theorem casG_stop {ts : List Tk} {p : Nat} (h1 : kdAt ts p ≠ 10) (h2 : kdAt ts p ≠ 11) : CasG ts p p := by
  intro n d acc
  refine ⟨1, .ok p n acc, ?_, fun i n' x e => by cases e; rfl⟩
  rw [casT, if_neg (by rintro (h | h) <;> contradiction)]
theorem casG_one {ts : List Tk} {p m m2 q : Nat} {t : Tk} {hd : Nat × Int × ByteArray × Bool} (ht : ts[p]? = some t) (hk : t.1 = 10 ∨ t.1 = 11) (hh : caseHead ts p t = some hd) (hm : MsgG ts hd.1 m) (he : caseEnd ts (decide (t.1 = 10)) m = some m2) (h : CasG ts m2 q) : CasG ts p q := by
  intro n d acc
  have one : ∃ k r, oneT ts k p n acc.length d = some r ∧ ∀ i n' x, r = .ok i n' x → i = m2 := by
    by_cases hn : acc.length = 64
    · refine ⟨1, .er 5 t.2.2, ?_, fun i n' x e => by cases e⟩
      rw [oneT, ht, Option.bind_some, if_pos hn]
    · by_cases hd32 : d = 32
      · refine ⟨1, .er 201 hd.2.1, ?_, fun i n' x e => by cases e⟩
        rw [oneT, ht, Option.bind_some, if_neg hn, hh, Option.bind_some, if_pos hd32]
      · obtain ⟨k, r, h1, h2⟩ := hm n (d + 1) []
        cases r with
        | er e a =>
          refine ⟨k + 1, .er e a, ?_, fun i n' x e => by cases e⟩
          rw [oneT, ht, Option.bind_some, if_neg hn, hh, Option.bind_some, if_neg hd32, h1]
          rfl
        | ok i n' x =>
          obtain rfl := h2 _ _ _ rfl
          refine ⟨k + 1, .ok m2 n' ⟨hd.2.2.1, hd.2.2.2, ⟨x⟩⟩, ?_, fun i n' x e => by cases e; rfl⟩
          rw [oneT, ht, Option.bind_some, if_neg hn, hh, Option.bind_some, if_neg hd32, h1, Option.bind_some]
          show (caseEnd ts (decide (t.1 = 10)) i).map _ = _
          rw [he]
          rfl
  have hc : kdAt ts p = 10 ∨ kdAt ts p = 11 := by rw [kdAt_of ht]; exact hk
  obtain ⟨k, r, h1, h2⟩ := one
  cases r with
  | er e a =>
    refine ⟨k + 1, .er e a, ?_, fun i n' x e => by cases e⟩
    rw [casT, if_pos hc, h1]
    rfl
  | ok i n' x =>
    obtain rfl := h2 _ _ _ rfl
    obtain ⟨k2, r2, h3, h4⟩ := h n' d (acc ++ [x])
    refine ⟨max k k2 + 1, r2, ?_, h4⟩
    rw [casT, if_pos hc, oneT_le (Nat.le_max_left k k2) h1]
    exact casT_le (Nat.le_max_right k k2) h3
theorem argG_bare {ts : List Tk} {p : Nat} {nm : Tk} (h0 : ts[p]? = some nm) (h1 : kdAt ts (p + 1) = 4) : ArgG ts p (p + 2) := by
  intro n d
  refine ⟨1, .ok (p + 2) n ⟨3, e0, nm.2.1, 1, e0, e0, []⟩, ?_, fun i n' x e => by cases e; rfl⟩
  rw [argT, h0, Option.bind_some, if_pos h1]
theorem argG_simple {ts : List Tk} {p : Nat} {nm cm t : Tk} (h0 : ts[p]? = some nm) (h1 : ts[p + 1]? = some cm) (hc : cm.1 ≠ 4) (h2 : ts[p + 2]? = some t) (hm : manyKind t.2.1 = 0) {q : Nat} {st : ByteArray} (hs : simpleEnd ts (p + 3) = some (q, st)) : ArgG ts p q := by
  intro n d
  by_cases hb : byType t.2.1 = 0
  · refine ⟨1, .er 200 t.2.2, ?_, fun i n' x e => by cases e⟩
    rw [argT, h0, Option.bind_some, if_neg (by rw [kdAt_of h1]; exact hc), h1, Option.bind_some, h2, Option.bind_some, if_pos hm, if_pos hb]
  · refine ⟨1, .ok q n ⟨3, e0, nm.2.1, (byType t.2.1 : Nat), st, e0, []⟩, ?_, fun i n' x e => by cases e; rfl⟩
    rw [argT, h0, Option.bind_some, if_neg (by rw [kdAt_of h1]; exact hc), h1, Option.bind_some, h2, Option.bind_some, if_pos hm, if_neg hb, hs]
    rfl
theorem argG_many {ts : List Tk} {p : Nat} {nm cm t cm2 cl : Tk} {q : Nat} (h0 : ts[p]? = some nm) (h1 : ts[p + 1]? = some cm) (hc : cm.1 ≠ 4) (h2 : ts[p + 2]? = some t) (hm : manyKind t.2.1 ≠ 0) (h3 : ts[p + 3]? = some cm2)
    (hs : CasG ts (offTok ts (p + 4)).1 q) (hq : ts[q]? = some cl) : ArgG ts p (q + 1) := by
  intro n d
  obtain ⟨k, r, h4, h5⟩ := hs n d []
  have hh : argT ts (k + 1) p n d = (r.bind fun i2 n2 cs => if cs = [] then some (.er 200 nm.2.2) else (ts[i2]?).map fun _ => .ok (i2 + 1) n2 ⟨manyKind t.2.1, e0, nm.2.1, 0, e0, (offTok ts (p + 4)).2, cs⟩) := by
    rw [argT, h0, Option.bind_some, if_neg (by rw [kdAt_of h1]; exact hc), h1, Option.bind_some, h2, Option.bind_some, if_neg hm, h3, Option.bind_some, h4, Option.bind_some]
  cases r with
  | er e a => exact ⟨k + 1, .er e a, hh, fun i n' x e => by cases e⟩
  | ok i n' x =>
    obtain rfl := h5 _ _ _ rfl
    by_cases hx : x = []
    · exact ⟨k + 1, .er 200 nm.2.2, by rw [hh, TR.bind, if_pos hx], fun i n' x e => by cases e⟩
    · exact ⟨k + 1, .ok (i + 1) n' ⟨manyKind t.2.1, e0, nm.2.1, 0, e0, (offTok ts (p + 4)).2, x⟩, by rw [hh, TR.bind, if_neg hx, hq]; rfl, fun i n' x e => by cases e; rfl⟩
section
variable {s : ByteArray} {m : Int}
theorem mustR_ok {c : Nat} {kind op : Int} {i j : Nat} {us : List Tk} {al : List Nat} (h : mustR s c kind op i = .ok j us al) : us = [(kind, ⟨#[]⟩, (blanks s i : Int))] := by
  unfold mustR at h
  split at h
  · cases h; rfl
  · unfold failR at h; split at h <;> cases h
theorem R.next_inv {r : R} {f : Nat → Option R} {j : Nat} {us : List Tk} {al : List Nat} (h : r.next f = some (.ok j us al)) :
    ∃ j1 u1 a1 u2 a2, r = .ok j1 u1 a1 ∧ f j1 = some (.ok j u2 a2) ∧ us = u1 ++ u2 := by
  cases r with
  | er e a => simp [R.next] at h
  | ok j1 u1 a1 =>
    obtain ⟨r', h1, h2⟩ := R.next_ok h
    cases r' with
    | er e a => simp [R.pre] at h2
    | ok j2 u2 a2 =>
      simp only [R.pre, R.ok.injEq] at h2
      obtain ⟨rfl, rfl, rfl⟩ := h2
      exact ⟨j1, u1, a1, u2, a2, rfl, h1, rfl⟩
theorem pre_inv {o : Option R} {ts0 : List Tk} {al0 : List Nat} {j : Nat} {us : List Tk} {al : List Nat} (h : o.map (R.pre ts0 al0) = some (.ok j us al)) : ∃ u2 a2, o = some (.ok j u2 a2) ∧ us = ts0 ++ u2 := by
  rw [Option.map_eq_some_iff] at h
  obtain ⟨r, h1, h2⟩ := h
  cases r with
  | er e a => simp [R.pre] at h2
  | ok j2 u2 a2 =>
    simp only [R.pre, R.ok.injEq] at h2
    obtain ⟨rfl, rfl, rfl⟩ := h2
    exact ⟨u2, a2, h1, rfl⟩
theorem failR_not {pl : Nat} {op : Int} {j : Nat} {us : List Tk} {al : List Nat} (h : failR s pl op = .ok j us al) : False := by unfold failR at h; split at h <;> cases h
def CasL (ts : List Tk) (p : Nat) (us : List Tk) : Prop := ∃ (us' : List Tk) (cl : Tk), us = us' ++ [cl] ∧ (∀ t, us[0]? = some t → t.1 ≠ 9) ∧ (Seg ts p us → CasG ts p (p + us'.length))
theorem CasL.close {ts : List Tk} {p : Nat} {cl : Tk} (h : cl.1 = 4) : CasL ts p [cl] :=
  ⟨[], cl, rfl, fun t e => by cases e; rw [h]; decide, fun hs => casG_stop (by rw [kdAt_of hs.head, h]; decide) (by rw [kdAt_of hs.head, h]; decide)⟩
theorem keyR_ok {b : Bool} {op : Int} {i j : Nat} {us : List Tk} {al : List Nat} (h : keyR s b op i = .ok j us al) : ∃ x a, us = [(10, x, a)] := by
  unfold keyR at h
  split at h
  · split at h
    · cases h; exact ⟨_, _, rfl⟩
    · exact (failR_not h).elim
  · split at h
    · exact (failR_not h).elim
    · cases h; exact ⟨_, _, rfl⟩
theorem offsetR_ok {op : Int} {i j : Nat} {us : List Tk} {al : List Nat} (h : offsetR s op i = .ok j us al) : us = [] ∨ ∃ x a, us = [(9, x, a)] := by
  unfold offsetR at h
  split at h
  · split at h
    · cases h; exact .inr ⟨_, _, rfl⟩
    · exact (failR_not h).elim
  · cases h; exact .inl rfl
theorem styleR_ok {op : Int} {i j : Nat} {us : List Tk} {al : List Nat} (h : styleR s op i = .ok j us al) : ∃ x a y b, us = [(8, x, a), (4, y, b)] := by
  unfold styleR at h
  generalize blanks s i = fr at h
  generalize hi : fr = i0 at h
  have : ∀ i1 o, styleGo s op fr i1 o = .ok j us al → ∃ x a y b, us = [(8, x, a), (4, y, b)] := by
    intro i1 o h
    induction i1, o using styleGo.induct s fr with
    | case1 i o h' h1 h2 => rw [styleGo, dif_pos h', if_pos h1, if_pos h2] at h; cases h
    | case2 i o h' h1 h2 ih => rw [styleGo, dif_pos h', if_pos h1, if_neg h2] at h; exact ih h
    | case3 i o h' h1 h2 ih => rw [styleGo, dif_pos h', if_neg h1, if_pos h2] at h; exact ih h
    | case4 i o h' h1 h2 h3 h4 h5 => rw [styleGo, dif_pos h', if_neg h1, if_neg h2, if_pos h3, if_pos h4, if_pos h5] at h; exact (failR_not h).elim
    | case5 i o h' h1 h2 h3 h4 h5 =>
      rw [styleGo, dif_pos h', if_neg h1, if_neg h2, if_pos h3, if_pos h4, if_neg h5] at h
      cases hm : mustR s 125 4 op i with
      | er e a => rw [hm] at h; simp [R.pre] at h
      | ok j2 u2 a2 =>
        rw [hm] at h
        simp only [R.pre, R.ok.injEq] at h
        obtain ⟨rfl, rfl, rfl⟩ := h
        rw [mustR_ok hm]
        exact ⟨_, _, _, _, rfl⟩
    | case6 i o h' h1 h2 h3 h4 ih => rw [styleGo, dif_pos h', if_neg h1, if_neg h2, if_pos h3, if_neg h4] at h; exact ih h
    | case7 i o h' h1 h2 h3 ih => rw [styleGo, dif_pos h', if_neg h1, if_neg h2, if_neg h3] at h; exact ih h
    | case8 i o h' => rw [styleGo, dif_neg h'] at h; cases h
  subst hi
  exact this _ _ h
theorem CasL.cons {ts : List Tk} {p : Nat} {t : Tk} {um ue uc : List Tk} {hl : List Tk} (hk : t.1 = 10 ∨ t.1 = 11) (hc : CasL ts (p + (t :: (hl ++ (um ++ ue))).length) uc)
    (h : Seg ts p (t :: (hl ++ (um ++ (ue ++ uc)))) → ∃ hd m2, caseHead ts p t = some hd ∧ MsgG ts hd.1 m2 ∧ caseEnd ts (decide (t.1 = 10)) m2 = some (p + (t :: (hl ++ (um ++ ue))).length)) : CasL ts p (t :: (hl ++ (um ++ (ue ++ uc)))) := by
  obtain ⟨us', cl, rfl, h1, h2⟩ := hc
  refine ⟨t :: (hl ++ (um ++ (ue ++ us'))), cl, by simp, fun u e => by cases e; rcases hk with h | h <;> (rw [h]; decide), fun hs => ?_⟩
  obtain ⟨hd, m2, h3, h4, h5⟩ := h hs
  have hs2 : Seg ts (p + (t :: (hl ++ (um ++ ue))).length) (us' ++ [cl]) := by
    have : t :: (hl ++ (um ++ (ue ++ (us' ++ [cl])))) = (t :: (hl ++ (um ++ ue))) ++ (us' ++ [cl]) := by simp
    rw [this] at hs
    exact hs.right
  have := casG_one hs.head hk h3 h4 h5 (h2 hs2)
  have hlen : p + (t :: (hl ++ (um ++ (ue ++ us')))).length = p + (t :: (hl ++ (um ++ ue))).length + us'.length := by simp only [List.length_append, List.length_cons]; omega
  rw [hlen]
  exact this
structure Tot (s : ByteArray) (m : Int) (ts : List Tk) (k : Nat) : Prop where
  msg : ∀ sort op i j us al p, msgF s m k sort op i = some (.ok j us al) → Seg ts p us → StopAt ts (p + us.length) → MsgG ts p (p + us.length)
  arg : ∀ i j us al p, argF s m k i = some (.ok j us al) → Seg ts p us → ∃ us', us = (3, ⟨#[]⟩, (i : Int)) :: us' ∧ ArgG ts (p + 1) (p + us.length)
  typ : ∀ (w : ByteArray) op i j us al p, typedF s m k w op i = some (.ok j us al) → Seg ts (p + 3) us → ∀ nm cm t : Tk, ts[p]? = some nm → ts[p + 1]? = some cm → cm.1 ≠ 4 → ts[p + 2]? = some t → t.2.1 = w → ArgG ts p (p + 3 + us.length)
  cas : ∀ b op i j us al p, casesF s m k b op i = some (.ok j us al) → CasL ts p us
  cho : ∀ op i j us al p, choiceF s m k op i = some (.ok j us al) → CasL ts p us
theorem tokL_leaf (t : List UInt8) (i : Nat) : tokL t i = [] ∨ ∃ x, tokL t i = [x] ∧ x.1 = 1 := by
  unfold tokL; split
  · exact .inl rfl
  · exact .inr ⟨_, rfl, rfl⟩
theorem msgG_tokL {ts : List Tk} {p q : Nat} {t : List UInt8} {i : Nat} (h : Seg ts p (tokL t i)) (hm : MsgG ts (p + (tokL t i).length) q) : MsgG ts p q := by
  rcases tokL_leaf t i with he | ⟨x, he, hx⟩
  · rw [he] at hm; simpa using hm
  · rw [he] at h hm
    exact msgG_leaf h.head (.inl hx) hm
theorem tot (ts : List Tk) : ∀ k, Tot s m ts k := by
  intro k
  induction k with
  | zero => exact ⟨fun _ _ _ _ _ _ _ h => by simp [msgF] at h, fun _ _ _ _ _ h => by simp [argF] at h, fun _ _ _ _ _ _ _ h => by simp [typedF] at h, fun _ _ _ _ _ _ _ h => by simp [casesF] at h, fun _ _ _ _ _ _ h => by simp [choiceF] at h⟩
  | succ k ih =>
    refine ⟨?_, ?_, ?_, ?_, ?_⟩
    · intro sort op i j us al p h hs hst
      rw [msgF] at h
      generalize textE s m sort (decide (op < 0)) i = te at h
      obtain ⟨t1, pp, a1⟩ := te
      simp only at h
      split at h
      · split at h
        · cases h
          exact msgG_tokL hs (msgG_stop hst)
        · exact (failR_not (Option.some.inj h)).elim
      · split at h
        · rw [Option.bind_eq_some_iff] at h
          obtain ⟨ra, h1, h2⟩ := h
          obtain ⟨u2, a2, h3, rfl⟩ := pre_inv h2
          obtain ⟨j1, u1, a1, u3, a3, rfl, h4, rfl⟩ := R.next_inv h3
          have hs1 := hs.right.left
          have hs2 := hs.right.right
          obtain ⟨us', he, ha⟩ := ih.arg _ _ _ _ _ h1 hs1
          have hlen : p + (tokL t1 i ++ (u1 ++ u3)).length = p + (tokL t1 i).length + u1.length + u3.length := by simp only [List.length_append]; omega
          rw [hlen] at hst ⊢
          refine msgG_tokL hs.left ?_
          refine msgG_arg (t := (3, ⟨#[]⟩, (pp : Int))) (by rw [he] at hs1; exact hs1.head) rfl ha ?_
          exact ih.msg _ _ _ _ _ _ _ h4 hs2 hst
        · split at h
          · obtain ⟨u2, a2, h3, rfl⟩ := pre_inv h
            have hlen : p + (tokL t1 i ++ [(2, (⟨#[]⟩ : ByteArray), (pp : Int))] ++ u2).length = p + (tokL t1 i).length + 1 + u2.length := by simp only [List.length_append, List.length_singleton]; omega
            rw [hlen] at hst ⊢
            refine msgG_tokL hs.left.left ?_
            refine msgG_leaf hs.left.right.head (.inr rfl) ?_
            have hs2 := hs.right
            simp only [List.length_append, List.length_singleton, ← Nat.add_assoc] at hs2
            exact ih.msg _ _ _ _ _ _ _ h3 hs2 hst
          · cases h
            exact msgG_tokL hs (msgG_stop hst)
    · intro i j us al p h hs
      rw [argF] at h
      split at h
      · exact (failR_not (Option.some.inj h)).elim
      · obtain ⟨u2, a2, h3, rfl⟩ := pre_inv h
        refine ⟨_, rfl, ?_⟩
        have hnm := hs.tail.head
        have hs2 := hs.tail.tail
        split at h3
        · have hm := mustR_ok (Option.some.inj h3)
          subst hm
          exact argG_bare hnm (by rw [kdAt_of hs2.head])
        · obtain ⟨j1, u1, a1, u3, a3, hmu, h4, rfl⟩ := R.next_inv h3
          have hm := mustR_ok hmu
          subst hm
          split at h4
          · exact (failR_not (Option.some.inj h4)).elim
          · obtain ⟨u5, a5, h5, rfl⟩ := pre_inv h4
            have := ih.typ _ _ _ _ _ _ (p + 1) h5 hs2.tail.tail _ _ _ hnm hs2.head (show (6 : Int) ≠ 4 by decide) hs2.tail.head rfl
            simp only [List.length_append, List.length_cons, List.length_nil] at this ⊢
            rw [show p + (0 + 1 + 1 + (0 + 1 + (0 + 1 + u5.length))) = p + 1 + 3 + u5.length by omega]
            exact this
    · intro w op i j us al p h hs nm cm t h0 h1 hc h2 ht
      rw [typedF] at h
      have many : ∀ {cl cm2 : Tk} {u1 : List Tk} {b : Nat}, manyKind w ≠ 0 → us = cm2 :: (u1 ++ [cl]) → (offTok ts (p + 4)).1 = p + 4 + b → CasG ts (p + 4 + b) (p + 4 + u1.length) → ArgG ts p (p + 3 + us.length) := by
        intro cl cm2 u1 b hk he ho hg
        subst he
        have hq := hs.tail.right.head
        have := argG_many (q := p + 4 + u1.length) h0 h1 hc h2 (by rw [ht]; exact hk) hs.head (by rw [ho]; exact hg) (by rw [show p + 4 + u1.length = p + 3 + 1 + u1.length by omega]; exact hq)
        simp only [List.length_append, List.length_cons, List.length_nil]
        rw [show p + 3 + (u1.length + (0 + 1) + 1) = p + 4 + u1.length + 1 by omega]
        exact this
      have nine : ∀ {uc : List Tk} {cm2 : Tk}, us = cm2 :: uc → (∀ t, uc[0]? = some t → t.1 ≠ 9) → (offTok ts (p + 4)).1 = p + 4 ∨ uc = [] := by
        intro uc cm2 he h9
        subst he
        cases uc with
        | nil => exact .inr rfl
        | cons u uc =>
          left
          have := hs.tail.head
          unfold offTok
          rw [show p + 4 = p + 3 + 1 by omega, this]
          simp only
          rw [if_neg (h9 u rfl)]
      have cases_ : ∀ {cm2 : Tk} {uc : List Tk}, manyKind w ≠ 0 → us = cm2 :: uc → CasL ts (p + 4) uc → ArgG ts p (p + 3 + us.length) := by
        intro cm2 uc hk he hcl
        have hcl' := hcl
        obtain ⟨us', cl, rfl, h9, hg⟩ := hcl
        refine many (b := 0) hk he ?_ ?_
        · rcases nine he h9 with h | h
          · exact h
          · simp at h
        · refine hg ?_
          subst he
          exact hs.tail
      split at h
      · rename_i hw
        have hk : manyKind w ≠ 0 := by
          unfold manyKind
          rcases hw with hw | hw <;> (repeat' split) <;> first | decide | (exfalso; contradiction)
        obtain ⟨j1, u1, a1, u2, a2, hmu, h3, rfl⟩ := R.next_inv h
        obtain ⟨j2, uo, a3, uc, a4, hof, h4, rfl⟩ := R.next_inv h3
        have hm := mustR_ok hmu
        subst hm
        rcases offsetR_ok hof with rfl | ⟨x, a, rfl⟩
        · exact cases_ hk rfl (ih.cas _ _ _ _ _ _ _ h4)
        · obtain ⟨us', cl, rfl, h9, hg⟩ := ih.cas _ _ _ _ _ _ (p + 5) h4
          refine many (u1 := (9, x, a) :: us') (b := 1) hk rfl ?_ ?_
          · have := hs.tail.head
            unfold offTok
            rw [show p + 4 = p + 3 + 1 by omega, this]
            rfl
          · have := hg hs.tail.tail
            rw [show p + 4 + ((9, x, a) :: us').length = p + 5 + us'.length by simp only [List.length_cons]; omega]
            exact this
      · split at h
        · rename_i hw
          have hk : manyKind w ≠ 0 := by
            unfold manyKind
            (repeat' split) <;> first | decide | (exfalso; contradiction)
          obtain ⟨j1, u1, a1, u2, a2, hmu, h3, rfl⟩ := R.next_inv h
          have hm := mustR_ok hmu
          subst hm
          exact cases_ hk rfl (ih.cas _ _ _ _ _ _ _ h3)
        · split at h
          · rename_i hw
            have hk : manyKind w ≠ 0 := by
              unfold manyKind
              (repeat' split) <;> first | decide | (exfalso; contradiction)
            obtain ⟨j1, u1, a1, u2, a2, hmu, h3, rfl⟩ := R.next_inv h
            have hm := mustR_ok hmu
            subst hm
            exact cases_ hk rfl (ih.cho _ _ _ _ _ _ h3)
          · rename_i hn1 hn2 hn3
            have hk : manyKind t.2.1 = 0 := by
              rw [ht]
              unfold manyKind
              rw [if_neg (fun e => hn1 (.inl e)), if_neg (fun e => hn1 (.inr e)), if_neg hn2, if_neg hn3]
            split at h
            · have hm := mustR_ok (Option.some.inj h)
              subst hm
              refine argG_simple h0 h1 hc h2 hk (st := e0) ?_
              unfold simpleEnd
              rw [if_neg (by rw [kdAt_of hs.head]; exact (show ¬ (4 : Int) = 6 by decide)), hs.head]
              rfl
            · obtain ⟨j1, u1, a1, u2, a2, hmu, h3, rfl⟩ := R.next_inv h
              have hm := mustR_ok hmu
              subst hm
              obtain ⟨x, a, y, b, rfl⟩ := styleR_ok (Option.some.inj h3)
              refine argG_simple h0 h1 hc h2 hk (st := x) ?_
              unfold simpleEnd
              have e1 := hs.head
              have e2 := hs.tail.head
              have e3 := hs.tail.tail.head
              rw [if_pos (by rw [kdAt_of e1])]
              rw [show p + 3 + 2 = p + 3 + 1 + 1 by omega, e2, e3]
              rfl
    · intro b op i j us al p h
      rw [casesF] at h
      split at h
      · have hm := mustR_ok (Option.some.inj h)
        subst hm
        exact CasL.close rfl
      · split at h
        · exact (failR_not (Option.some.inj h)).elim
        · obtain ⟨j1, u1, a1, u2, a2, hky, h3, rfl⟩ := R.next_inv h
          obtain ⟨j2, uo, a3, u3, a4, hmu, h4, rfl⟩ := R.next_inv h3
          rw [Option.bind_eq_some_iff] at h4
          obtain ⟨r, hmsg, h5⟩ := h4
          obtain ⟨j3, um, a5, u4, a6, rfl, h6, rfl⟩ := R.next_inv h5
          obtain ⟨j4, ue, a7, uc, a8, hmu2, h7, rfl⟩ := R.next_inv h6
          obtain ⟨x, a, rfl⟩ := keyR_ok hky
          have hm := mustR_ok hmu
          subst hm
          have hm2 := mustR_ok hmu2
          subst hm2
          have hcons := CasL.cons (ts := ts) (p := p) (t := (10, x, a)) (hl := [(3, ⟨#[]⟩, (blanks s (blanks s j1) : Int))]) (um := um) (ue := [(4, ⟨#[]⟩, (blanks s j3 : Int))]) (uc := uc) (.inl rfl) (ih.cas _ _ _ _ _ _ _ h7)
          refine hcons ?_
          intro hs
          simp only [List.cons_append, List.nil_append] at hs
          have hop := hs.tail.head
          have hum := hs.tail.tail.left
          have hcl := hs.tail.tail.right.head
          refine ⟨_, p + 2 + um.length, by unfold caseHead; rw [if_pos rfl, hop]; rfl, ?_, ?_⟩
          · exact ih.msg _ _ _ _ _ _ (p + 2) hmsg hum (StopAt.of hcl (.inl rfl))
          · unfold caseEnd
            rw [if_pos (show decide ((10 : Int) = 10) = true from rfl)]
            rw [show p + 2 + um.length = p + 1 + 1 + um.length by omega, hcl]
            simp only [Option.map_some, List.length_append, List.length_cons, List.length_nil, Option.some.injEq]
            omega
    · intro op i j us al p h
      rw [choiceF] at h
      split at h
      · obtain ⟨j1, u1, a1, u2, a2, hlm, h3, rfl⟩ := R.next_inv h
        rw [Option.bind_eq_some_iff] at h3
        obtain ⟨r, hmsg, h4⟩ := h3
        obtain ⟨j2, um, a3, u3, a4, rfl, h5, rfl⟩ := R.next_inv h4
        have hlim : ∃ (w : ByteArray) (c : UInt8) (a : Int), u1 = [(11, w ++ ⟨#[c]⟩, a)] := by
          split at hlm
          · cases hlm; exact ⟨_, _, _, rfl⟩
          · split at hlm
            · cases hlm; exact ⟨_, _, _, rfl⟩
            · split at hlm
              · cases hlm; exact ⟨_, _, _, rfl⟩
              · exact (failR_not hlm).elim
        obtain ⟨w, c, a, rfl⟩ := hlim
        have hsz : (w ++ (⟨#[c]⟩ : ByteArray)).size ≠ 0 := by rw [ByteArray.size_append]; exact Nat.succ_ne_zero _
        have hhead : ∀ p, caseHead ts p (11, w ++ (⟨#[c]⟩ : ByteArray), a) = some (p + 1, a, (w ++ (⟨#[c]⟩ : ByteArray)).extract 0 ((w ++ (⟨#[c]⟩ : ByteArray)).size - 1), b8 (w ++ (⟨#[c]⟩ : ByteArray)) ((w ++ (⟨#[c]⟩ : ByteArray)).size - 1) == 60) := by
          intro p
          unfold caseHead
          rw [if_neg (show ¬ (11 : Int) = 10 by decide), if_neg hsz]
        split at h5
        · have hm := mustR_ok (Option.some.inj h5)
          subst hm
          have := CasL.cons (ts := ts) (p := p) (t := (11, w ++ (⟨#[c]⟩ : ByteArray), a)) (hl := []) (um := um) (ue := []) (uc := [(4, ⟨#[]⟩, (blanks s j2 : Int))]) (.inr rfl) (CasL.close rfl) ?_
          · exact this
          · intro hs
            simp only [List.nil_append] at hs
            have hum := hs.tail.left
            have hcl := hs.tail.right.head
            refine ⟨_, p + 1 + um.length, hhead p, ?_, ?_⟩
            · exact ih.msg _ _ _ _ _ _ (p + 1) hmsg hum (StopAt.of hcl (.inl rfl))
            · unfold caseEnd
              rw [if_neg (show ¬ decide ((11 : Int) = 10) = true by decide), if_neg (by rw [kdAt_of hcl]; exact (show ¬ (4 : Int) = 12 by decide))]
              simp only [List.length_append, List.length_cons, List.length_nil, Option.some.injEq]
              omega
        · obtain ⟨u4, a5, h6, rfl⟩ := pre_inv h5
          have := CasL.cons (ts := ts) (p := p) (t := (11, w ++ (⟨#[c]⟩ : ByteArray), a)) (hl := []) (um := um) (ue := [(12, ⟨#[]⟩, (j2 : Int))]) (uc := u4) (.inr rfl) (ih.cho _ _ _ _ _ _ h6) ?_
          · exact this
          · intro hs
            simp only [List.nil_append] at hs
            have hum := hs.tail.left
            have hcl := hs.tail.right.head
            refine ⟨_, p + 1 + um.length, hhead p, ?_, ?_⟩
            · exact ih.msg _ _ _ _ _ _ (p + 1) hmsg hum (StopAt.of hcl (.inr rfl))
            · unfold caseEnd
              rw [if_neg (show ¬ decide ((11 : Int) = 10) = true by decide), if_pos (by rw [kdAt_of hcl])]
              simp only [List.length_append, List.length_cons, List.length_nil, Option.some.injEq]
              omega
      · exact (failR_not (Option.some.inj h)).elim
theorem tree_total {j : Nat} {us : List Tk} {al : List Nat} (h : lexR s m = .ok j us al) : ∃ k r, msgT us k 0 0 1 [] = some r := by
  have h1 := lexR_some s m
  rw [h] at h1
  have := (tot (s := s) (m := m) us _).msg _ _ _ _ _ _ 0 h1 (fun j t hj => by rw [Nat.zero_add]; exact hj) (by
    have hk : kdAt us (0 + us.length) = 0 := by rw [kdAt, List.getElem?_eq_none (by omega)]
    unfold StopAt
    rw [hk]
    decide)
  obtain ⟨k, r, h2, _⟩ := this 0 1 []
  exact ⟨k, r, h2⟩
end
end Go.Proofs.YtcpglgoiienhkaaGreatDoor
