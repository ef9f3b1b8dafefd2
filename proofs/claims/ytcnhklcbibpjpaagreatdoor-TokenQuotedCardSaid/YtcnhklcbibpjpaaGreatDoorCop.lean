/- A text and the one with an apostrophe more behind some places, piece by piece. -/
import Derived.Test.YtcnhklcbibpjpaaGreatDoorCor
set_option linter.unusedVariables false
set_option linter.unusedSimpArgs false
namespace Go.Proofs.YtcnhklcbibpjpaaGreatDoor
open P

/-! ### A text and the one with an apostrophe more behind some places -/
/-- A text with an apostrophe more behind each of these places, from a place on. -/
def autoL (s : ByteArray) : List Nat → Nat → List UInt8
  | [], fr => s.data.toList.drop fr
  | a :: r, fr => (s.extract fr (a + 1)).data.toList ++ 39 :: autoL s r (a + 1)

/-- Place i' of one text is where place i of the other one is; these apostrophes are still ahead. -/
structure Corr (s t : ByteArray) (al : List Nat) (i i' : Nat) : Prop where
  le' : i' ≤ t.size
  eq : t.data.toList.drop i' = autoL s al i
  ri : Rise s i s.size al

theorem extract_list (u : ByteArray) (a b : Nat) : (u.extract a b).data.toList = (u.data.toList.drop a).take (b - a) := by
  simp only [ByteArray.data_extract, Array.toList_extract, List.extract_eq_take_drop]
theorem b8_drop (u : ByteArray) (i k : Nat) : b8 u (i + k) = (((u.data.toList.drop i)[k]?).map UInt8.toNat).getD 0 := by
  rw [List.getElem?_drop]
  by_cases h : i + k < u.size
  · rw [List.getElem?_eq_getElem (by simpa using h), b8_at u _ h, Array.getElem_toList]
    rfl
  · rw [List.getElem?_eq_none (by simp; omega), b8, dif_neg h]
    rfl

/-- How far the two texts go on alike. -/
def alike (s : ByteArray) : List Nat → Nat → Nat
  | [], i => s.size - i
  | a :: _, i => a + 1 - i

theorem Rise.lt {s : ByteArray} {lo a : Nat} {r : List Nat} (h : Rise s lo s.size (a :: r)) : a < s.size := by have := Rise.le h.2.2; omega

theorem Corr.ag {s t : ByteArray} {al : List Nat} {i i' : Nat} (h : Corr s t al i i') : Ag s t i i' (alike s al i) := by
  obtain ⟨hle', heq, hri⟩ := h
  have hle := Rise.le hri
  have hl := congrArg List.length heq
  rw [List.length_drop] at hl
  have hts : t.data.toList.length = t.size := by simp
  have hss : s.data.toList.length = s.size := by simp
  cases al with
  | nil =>
    simp only [autoL, List.length_drop] at hl
    refine ⟨by simp only [alike]; omega, by simp only [alike]; omega, fun k hk => ?_, .inl (by simp only [alike]; omega)⟩
    rw [b8_drop, b8_drop, heq]; rfl
  | cons a r =>
    have ha := Rise.lt hri
    have hia := hri.1
    have hx : (s.extract i (a + 1)).data.toList.length = a + 1 - i := by rw [extract_list, List.length_take, List.length_drop]; omega
    simp only [autoL, List.length_append, List.length_cons, hx] at hl
    refine ⟨by simp only [alike]; omega, by simp only [alike]; omega, fun k hk => ?_, .inr ⟨by simp only [alike]; omega, ?_⟩⟩
    · simp only [alike] at hk
      rw [b8_drop, b8_drop, heq, autoL, List.getElem?_append_left (by omega), extract_list, List.getElem?_take_of_lt hk]
    · simp only [alike]
      rw [show i + (a + 1 - i - 1) = a from by omega]
      exact .inl hri.2.1

theorem Rise.alike {s : ByteArray} {al : List Nat} {i j : Nat} (hr : Rise s j s.size al) (hij : i ≤ j) : j - i < alike s al i ∨ (al = [] ∧ j - i ≤ alike s al i) := by
  cases al with
  | nil => right; exact ⟨rfl, by have := Rise.le hr; simp only [Go.Proofs.YtcnhklcbibpjpaaGreatDoor.alike] ; omega⟩
  | cons a r => left; have := hr.1; simp only [Go.Proofs.YtcnhklcbibpjpaaGreatDoor.alike]; omega

theorem Corr.move {s t : ByteArray} {al : List Nat} {i i' j : Nat} (h : Corr s t al i i') (hij : i ≤ j) (hr : Rise s j s.size al) : Corr s t al j (i' + (j - i)) := by
  have hag := h.ag
  obtain ⟨hle', heq, hri⟩ := h
  have hlt := hag.lt
  refine ⟨?_, ?_, hr⟩
  · rcases Rise.alike hr hij with h1 | h1 <;> omega
  · rw [← List.drop_drop, heq]
    cases al with
    | nil => simp only [autoL]; rw [List.drop_drop]; congr 1; omega
    | cons a r =>
      have ha := Rise.lt hri
      have hia := hr.1
      have hx : (s.extract i (a + 1)).data.toList.length = a + 1 - i := by rw [extract_list, List.length_take, List.length_drop]; simp; omega
      simp only [autoL]
      rw [List.drop_append_of_le_length (by omega), extract_list, extract_list, List.drop_take, List.drop_drop]
      rw [show a + 1 - i - (j - i) = a + 1 - j from by omega, show i + (j - i) = j from by omega]

theorem Corr.alone {s t : ByteArray} {r : List Nat} {i i' : Nat} (h : Corr s t (i :: r) i i') : i' + 1 < t.size ∧ b8 t i' = 39 ∧ b8 t (i' + 1) = 39 ∧ Corr s t r (i + 1) (i' + 2) := by
  obtain ⟨hle', heq, hri⟩ := h
  have ha := Rise.lt hri
  have hx : (s.extract i (i + 1)).data.toList = [UInt8.ofNat (b8 s i)] := by
    rw [extract_list, drop_cons ha, show i + 1 - i = 1 from by omega]; simp
  rw [autoL, hx, hri.2.1] at heq
  have hl := congrArg List.length heq
  rw [List.length_drop] at hl
  have hts : t.data.toList.length = t.size := by simp
  simp only [List.length_append, List.length_cons, List.length_nil] at hl
  have h0 := b8_drop t i' 0
  have h1 := b8_drop t i' 1
  rw [heq] at h0 h1
  refine ⟨by omega, by simpa using h0, by simpa using h1, by omega, ?_, hri.2.2⟩
  rw [← List.drop_drop, heq]
  rfl

section
variable {s t : ByteArray} {al : List Nat} {i i' : Nat}
theorem Corr.eos (h : Corr s t al i i') : i = s.size ↔ i' = t.size := by
  have hag := h.ag
  cases al with
  | nil =>
    have := hag.fin
    have hl := congrArg List.length h.eq
    rw [List.length_drop] at hl
    have hts : t.data.toList.length = t.size := by simp
    have hss : s.data.toList.length = s.size := by simp
    have := h.le'
    have := Rise.le h.ri
    simp only [autoL, List.length_drop] at hl
    omega
  | cons a r =>
    have := hag.ls
    have := hag.lt
    have := h.ri.1
    simp only [Go.Proofs.YtcnhklcbibpjpaaGreatDoor.alike] at *
    omega
theorem Corr.lt (h : Corr s t al i i') : i < s.size ↔ i' < t.size := by
  have := h.eos
  have := h.le'
  have := Rise.le h.ri
  omega
theorem Corr.b8 (h : Corr s t al i i') : P.b8 s i = P.b8 t i' := by
  by_cases hL : 0 < Go.Proofs.YtcnhklcbibpjpaaGreatDoor.alike s al i
  · exact h.ag.byte0 hL
  · have := h.ag.ends hL
    rw [P.b8, dif_neg (by omega), P.b8, dif_neg (by omega)]
theorem Corr.at1 (h : Corr s t al i i') (c : Nat) : Go.Proofs.YtcnhklcbibpjpaaGreatDoor.at1 s i c = Go.Proofs.YtcnhklcbibpjpaaGreatDoor.at1 t i' c := at1_ag h.ag c
theorem Corr.blanks (h : Corr s t al i i') (hr : Rise s (P.blanks s i) s.size al) : Corr s t al (P.blanks s i) (P.blanks t i') := by
  obtain ⟨d, h1, h2, h3, -⟩ := blanks_ag h.ag
  have := h.move (blanks_ge s i) hr
  rw [h3]
  rwa [h2, show i + d - i = d from by omega, ← h2] at this
theorem Corr.wordEnd (h : Corr s t al i i') (hr : Rise s (P.wordEnd s i) s.size al) : Corr s t al (P.wordEnd s i) (P.wordEnd t i') := by
  obtain ⟨d, h1, h2, h3, -⟩ := wordEnd_ag h.ag
  have := h.move (wordEnd_ge s i) hr
  rw [h3]
  rwa [h2, show i + d - i = d from by omega, ← h2] at this
theorem Corr.numEnd (h : Corr s t al i i') (hr : Rise s (P.numEnd s i) s.size al) : Corr s t al (P.numEnd s i) (P.numEnd t i') := by
  obtain ⟨d, h1, h2, h3, -⟩ := numEnd_ag h.ag
  have := h.move (numEnd_ge s i) hr
  rw [h3]
  rwa [h2, show i + d - i = d from by omega, ← h2] at this
theorem Corr.letEnd (h : Corr s t al i i') (hr : Rise s (P.letEnd s i) s.size al) : Corr s t al (P.letEnd s i) (P.letEnd t i') := by
  obtain ⟨d, h1, h2, h3, -⟩ := letEnd_ag h.ag
  have := h.move (letEnd_ge s i) hr
  rw [h3]
  rwa [h2, show i + d - i = d from by omega, ← h2] at this
theorem Corr.letters (h : Corr s t al i i') : s.extract i (P.letEnd s i) = t.extract i' (P.letEnd t i') ∧ (P.letEnd s i = i ↔ P.letEnd t i' = i') := by
  obtain ⟨d, h1, h2, h3, -⟩ := letEnd_ag h.ag
  rw [h2, h3]
  exact ⟨extract_ag h.ag h1, by omega⟩
theorem Corr.text (h : Corr s t al i i') {j : Nat} (hij : i ≤ j) (hr : Rise s j s.size al) : s.extract i j = t.extract i' (i' + (j - i)) := by
  have := extract_ag (d := j - i) h.ag (by rcases Rise.alike hr hij with h1 | h1 <;> omega)
  rwa [show i + (j - i) = j from by omega] at this
end

/-- The same tokens, whatever their places. -/
def Sm (a b : List Tk) : Prop := a.map (fun t => (t.1, t.2.1)) = b.map (fun t => (t.1, t.2.1))
theorem Sm.nil : Sm [] [] := rfl
theorem Sm.app {a b c d : List Tk} (h : Sm a b) (k : Sm c d) : Sm (a ++ c) (b ++ d) := by
  show List.map _ _ = List.map _ _
  rw [List.map_append, List.map_append]
  exact congr (congrArg _ h) k
theorem Sm.one {k : Int} {w : ByteArray} {a b : Int} : Sm [(k, w, a)] [(k, w, b)] := rfl

/-- What goes through in one text goes through in the other one. -/
def SimR (s t : ByteArray) (i i' : Nat) (r r' : R) : Prop :=
  ∀ j ts al al2, r = .ok j ts al → Rise s j s.size al2 → Corr s t (al ++ al2) i i' → ∃ j' ts', r' = .ok j' ts' [] ∧ Corr s t al2 j j' ∧ Sm ts ts'
def SimO (s t : ByteArray) (i i' : Nat) (o o' : Option R) : Prop :=
  ∀ j ts al al2, o = some (.ok j ts al) → Rise s j s.size al2 → Corr s t (al ++ al2) i i' → ∃ j' ts', o' = some (.ok j' ts' []) ∧ Corr s t al2 j j' ∧ Sm ts ts'

theorem SimO.of {s t : ByteArray} {i i' : Nat} {r r' : R} (h : SimR s t i i' r r') : SimO s t i i' (some r) (some r') := fun j ts al al2 e hr hc => by
  obtain ⟨j', ts', h1, h2⟩ := h j ts al al2 (Option.some.inj e) hr hc
  exact ⟨j', ts', by rw [h1], h2⟩
theorem failR_nok (s : ByteArray) (pl : Nat) (op : Int) (j : Nat) (ts : List Tk) (al : List Nat) : failR s pl op ≠ .ok j ts al := by unfold failR; split <;> simp
theorem SimR.fail {s t : ByteArray} {i i' : Nat} {pl : Nat} {op : Int} {r' : R} : SimR s t i i' (failR s pl op) r' := fun j ts al al2 e hr hc => absurd e (failR_nok _ _ _ _ _ _)
theorem SimR.er {s t : ByteArray} {i i' : Nat} {e a : Int} {r' : R} : SimR s t i i' (.er e a) r' := fun j ts al al2 e hr hc => by cases e

theorem next_sim {s t : ByteArray} {i i' : Nat} {r r' : R} {f f' : Nat → Option R} (h : SimR s t i i' r r') (hf : ∀ j j', SimO s t j j' (f j) (f' j')) (hri : ∀ j r2, f j = some r2 → r2.rise s j) :
    SimO s t i i' (r.next f) (r'.next f') := by
  intro j ts al al2 e hr hc
  cases r with
  | er a b => simp [R.next] at e
  | ok j1 ts1 al1 =>
    simp only [R.next, Option.map_eq_some_iff] at e
    obtain ⟨r2, e1, e2⟩ := e
    cases r2 with
    | er a b => simp [R.pre] at e2
    | ok j2 ts2 al3 =>
      simp only [R.pre, R.ok.injEq] at e2
      obtain ⟨rfl, rfl, rfl⟩ := e2
      have hri2 : Rise s j1 j2 al3 := hri _ _ e1
      obtain ⟨j', ts', k1, k2, k3⟩ := h j1 ts1 al1 (al3 ++ al2) rfl (Rise.append hr hri2) (by rw [← List.append_assoc]; exact hc)
      obtain ⟨j'', ts'', m1, m2, m3⟩ := hf j1 j' j2 ts2 al3 al2 e1 hr k2
      exact ⟨j'', ts' ++ ts'', by rw [k1]; simp [R.next, m1, R.pre], m2, k3.app m3⟩

/-- Behind tokens. -/
theorem pre_sim {s t : ByteArray} {i i' : Nat} {o o' : Option R} {ts0 ts0' : List Tk} (h : SimO s t i i' o o')
    (hs : ∀ j ts al al2, o = some (.ok j ts al) → Rise s j s.size al2 → Corr s t (al ++ al2) i i' → Sm ts0 ts0') : SimO s t i i' (o.map (R.pre ts0 [])) (o'.map (R.pre ts0' [])) := by
  intro j ts al al2 e hr hc
  rw [Option.map_eq_some_iff] at e
  obtain ⟨r, e1, e2⟩ := e
  cases r with
  | er a b => simp [R.pre] at e2
  | ok j2 ts2 al3 =>
    simp only [R.pre, R.ok.injEq, List.nil_append] at e2
    obtain ⟨rfl, rfl, rfl⟩ := e2
    obtain ⟨j', ts', k1, k2, k3⟩ := h _ _ _ _ e1 hr hc
    exact ⟨j', ts0' ++ ts', by rw [k1]; rfl, k2, (hs _ _ _ _ e1 hr hc).app k3⟩

/-- From another place on. -/
theorem SimO.from {s t : ByteArray} {i i' k k' : Nat} {o o' : Option R} (hm : ∀ r, o = some r → r.rise s k) (hk : ∀ al, Rise s k s.size al → Corr s t al i i' → Corr s t al k k') (h : SimO s t k k' o o') : SimO s t i i' o o' := by
  intro j ts al al2 e hr hc
  have h1 : Rise s k j al := hm _ e
  exact h j ts al al2 e hr (hk _ (Rise.append hr h1) hc)
theorem SimR.from {s t : ByteArray} {i i' k k' : Nat} {o o' : R} (hm : o.rise s k) (hk : ∀ al, Rise s k s.size al → Corr s t al i i' → Corr s t al k k') (h : SimR s t k k' o o') : SimR s t i i' o o' := by
  intro j ts al al2 e hr hc
  rw [e] at hm
  exact h j ts al al2 e hr (hk _ (Rise.append hr hm) hc)

theorem mustR_sim {s t : ByteArray} (c : Nat) (kind op op' : Int) (i i' : Nat) : SimR s t i i' (mustR s c kind op i) (mustR t c kind op' i') := by
  intro j ts al al2 e hr hc
  unfold mustR at e
  split at e
  · rename_i h1
    simp only [R.ok.injEq] at e
    obtain ⟨rfl, rfl, rfl⟩ := e
    have hb := hc.blanks (Rise.low (Nat.le_succ _) hr)
    have hm := hb.move (Nat.le_succ _) hr
    rw [hb.at1] at h1
    rw [mustR, if_pos h1]
    refine ⟨_, _, rfl, ?_, Sm.one⟩
    have : P.blanks s i + 1 - P.blanks s i = 1 := by omega
    rw [Nat.succ_eq_add_one, this] at hm
    exact hm
  · exact absurd e (failR_nok _ _ _ _ _ _)

theorem hereB_sim {s t : ByteArray} {al : List Nat} {i i' : Nat} (h : Corr s t al i i') (w : List UInt8) (hw : ∀ c ∈ w, ¬ endC c.toNat) : hereB s i w = hereB t i' w := hereB_ag h.ag w hw

theorem offsetR_sim {s t : ByteArray} (op op' : Int) (i i' : Nat) : SimR s t i i' (offsetR s op i) (offsetR t op' i') := by
  intro j ts al al2 e hr hc
  unfold offsetR at e
  have g2 := blanks_ge s (P.blanks s i + 7)
  have g3 := numEnd_ge s (P.blanks s (P.blanks s i + 7))
  split at e
  · rename_i h1
    split at e
    · rename_i h2
      simp only [R.ok.injEq] at e
      obtain ⟨rfl, rfl, rfl⟩ := e
      have hb := hc.blanks (Rise.low (by omega) hr)
      rw [hereB_sim hb _ (by unfold endC; decide)] at h1
      have hm := hb.move (j := P.blanks s i + 7) (by omega) (Rise.low (by omega) hr)
      rw [show P.blanks s i + 7 - P.blanks s i = 7 from by omega] at hm
      have hb2 := hm.blanks (Rise.low (by omega) hr)
      have hn := hb2.numEnd hr
      rw [numOk_ag hb2.ag] at h2
      rw [offsetR, if_pos h1, if_pos h2]
      refine ⟨_, _, rfl, hn, ?_⟩
      rw [numAt_ag hb2.ag]
      exact Sm.one
    · exact absurd e (failR_nok _ _ _ _ _ _)
  · rename_i h1
    simp only [R.ok.injEq] at e
    obtain ⟨rfl, rfl, rfl⟩ := e
    have hb := hc.blanks hr
    rw [hereB_sim hb _ (by unfold endC; decide)] at h1
    rw [offsetR, if_neg h1]
    exact ⟨_, _, rfl, hb, Sm.nil⟩

theorem keyR_sim {s t : ByteArray} (b : Bool) (op op' : Int) (i i' : Nat) : SimR s t i i' (keyR s b op i) (keyR t b op' i') := by
  intro j ts al al2 e hr hc
  unfold keyR at e
  have g1 := numEnd_ge s (i + 1)
  split at e
  · rename_i h1
    split at e
    · rename_i h2
      simp only [R.ok.injEq] at e
      obtain ⟨rfl, rfl, rfl⟩ := e
      rw [hc.at1] at h1
      have hm := hc.move (j := i + 1) (by omega) (Rise.low (by omega) hr)
      rw [show i + 1 - i = 1 from by omega] at hm
      have hn := Corr.numEnd (al := [] ++ al2) hm hr
      rw [numOk_ag hm.ag] at h2
      rw [keyR, if_pos h1, if_pos h2]
      refine ⟨_, _, rfl, hn, ?_⟩
      rw [numAt_ag hm.ag]
      exact Sm.one
    · exact absurd e (failR_nok _ _ _ _ _ _)
  · rename_i h1
    split at e
    · exact absurd e (failR_nok _ _ _ _ _ _)
    · rename_i h2
      simp only [R.ok.injEq] at e
      obtain ⟨rfl, rfl, rfl⟩ := e
      rw [hc.at1] at h1
      have hn := Corr.wordEnd (al := [] ++ al2) hc hr
      rw [wordAt_ag hc.ag] at h2
      rw [keyR, if_neg h1, if_neg h2]
      refine ⟨_, _, rfl, hn, ?_⟩
      rw [wordAt_ag hc.ag]
      exact Sm.one

theorem limR_sim {s t : ByteArray} (op op' : Int) (i i' : Nat) : SimR s t i i' (limR s op i) (limR t op' i') := by
  intro j ts al al2 e hr hc
  unfold limR at e
  have g1 := numEnd_ge s i
  have g2 := blanks_ge s (P.numEnd s i)
  have key : ∀ (n : Nat) (sg : ByteArray), (j = P.blanks s (P.numEnd s i) + n ∧ ts = [(11, numAt s i ++ sg, (i : Int))] ∧ al = []) →
      Corr s t al2 (P.blanks s (P.numEnd s i)) (P.blanks t (P.numEnd t i')) ∧ Corr s t al2 j (P.blanks t (P.numEnd t i') + n) ∧ Sm ts [(11, numAt t i' ++ sg, (i' : Int))] := by
    rintro n sg ⟨rfl, rfl, rfl⟩
    have hn := Corr.numEnd (al := [] ++ al2) hc (Rise.low (by omega) hr)
    have hb := hn.blanks (Rise.low (by omega) hr)
    have hm := hb.move (j := P.blanks s (P.numEnd s i) + n) (by omega) hr
    rw [show P.blanks s (P.numEnd s i) + n - P.blanks s (P.numEnd s i) = n from by omega] at hm
    refine ⟨hb, hm, ?_⟩
    rw [numAt_ag hc.ag]
    exact Sm.one
  split at e
  · rename_i h1
    simp only [R.ok.injEq] at e
    obtain ⟨hb, hm, hs⟩ := key 1 _ ⟨e.1.symm, e.2.1.symm, e.2.2.symm⟩
    rw [hb.at1] at h1
    rw [limR, if_pos h1]
    exact ⟨_, _, rfl, hm, hs⟩
  · rename_i h1
    split at e
    · rename_i h2
      simp only [R.ok.injEq] at e
      obtain ⟨hb, hm, hs⟩ := key 1 _ ⟨e.1.symm, e.2.1.symm, e.2.2.symm⟩
      rw [hb.at1] at h1 h2
      rw [limR, if_neg h1, if_pos h2]
      exact ⟨_, _, rfl, hm, hs⟩
    · rename_i h2
      split at e
      · rename_i h3
        simp only [R.ok.injEq] at e
        obtain ⟨hb, hm, hs⟩ := key 3 _ ⟨e.1.symm, e.2.1.symm, e.2.2.symm⟩
        rw [hb.at1] at h1 h2
        rw [hereB_sim hb _ (by unfold endC; decide)] at h3
        rw [limR, if_neg h1, if_neg h2, if_pos h3]
        exact ⟨_, _, rfl, hm, hs⟩
      · exact absurd e (failR_nok _ _ _ _ _ _)

end Go.Proofs.YtcnhklcbibpjpaaGreatDoor
