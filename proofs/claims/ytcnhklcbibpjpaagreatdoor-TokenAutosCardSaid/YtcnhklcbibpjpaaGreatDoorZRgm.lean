/- Lemmas behind the laws of the tokens; no conditions. -/
import Derived.Test.YtcnhklcbibpjpaaGreatDoorZRgl
set_option linter.unusedVariables false
set_option linter.unusedSimpArgs false

namespace Go.Proofs.YtcnhklcbibpjpaaGreatDoor
open P
def innerF (f : Fr) : Int := if f.2.2.2.1 && f.1 != 2 then f.2.2.2.2 else f.2.2.1
def msgM (s : ByteArray) (m : Int) (i : Nat) (ts : List Tk) (fs : List Fr) (al : List Nat) : MR :=
  match fs.getLast? with
  | none => .ok (textE s m 0 true i).2.1 (ts ++ tokL (textE s m 0 true i).1 i) fs (al ++ (textE s m 0 true i).2.2)
  | some f =>
    if (textE s m f.1 false i).2.1 = s.size then .er 190 (innerF f)
    else .ok (textE s m f.1 false i).2.1 (ts ++ tokL (textE s m f.1 false i).1 i) fs (al ++ (textE s m f.1 false i).2.2)
def synM (s : ByteArray) (i : Nat) (ts : List Tk) (fs : List Fr) (al : List Nat) : MR :=
  if b8 s i = 123 then argM s i ts fs al
  else if b8 s i = 35 then .ok (i + 1) (ts ++ [(2, (⟨#[]⟩ : ByteArray), ((i : Nat) : Int))]) fs al
  else match fs.getLast? with
  | none => .er 0 0
  | some f =>
    if b8 s i = 124 then (limF s f.2.2.1 (i + 1)).mr (ts ++ [(12, (⟨#[]⟩ : ByteArray), ((i : Nat) : Int))]) (fs.dropLast ++ [(f.1, f.2.1, f.2.2.1, true, 0)]) al
    else if f.1 = 2 then .ok (i + 1) (ts ++ [(4, (⟨#[]⟩ : ByteArray), ((i : Nat) : Int))]) fs.dropLast al
    else .ok (i + 1) (ts ++ [(4, (⟨#[]⟩ : ByteArray), ((i : Nat) : Int))]) (fs.dropLast ++ [(f.1, f.2.1, f.2.2.1, false, -1)]) al
def keyM (s : ByteArray) (i : Nat) (ts : List Tk) (fs : List Fr) (f : Fr) (al : List Nat) : MR :=
  if at1 s (P.blanks s i) 125 then .ok (P.blanks s i + 1) (ts ++ [(4, (⟨#[]⟩ : ByteArray), ((P.blanks s i : Nat) : Int))]) fs al
  else match keyR s f.2.1 f.2.2.1 (P.blanks s i) with
    | .er k a => .er k a
    | .ok j ts1 _ => (mustR s 123 3 f.2.2.1 j).mr (ts ++ ts1) (fs ++ [(f.1, f.2.1, f.2.2.1, true, ((P.blanks s j : Nat) : Int))]) al
def contM (r : MR) (f : Nat → List Tk → List Fr → List Nat → Option MR) : Option MR :=
  match r with
  | .er k a => some (.er k a)
  | .ok i ts fs al => f i ts fs al
def runM (s : ByteArray) (m : Int) : Nat → Nat → List Tk → List Fr → List Nat → Option MR
  | 0, _, _, _, _ => none
  | k + 1, i, ts, fs, al =>
    match fs.getLast? with
    | none => contM (msgM s m i ts fs al) fun j ts2 fs2 al2 => if s.size ≤ j then some (.ok j ts2 fs2 al2) else contM (synM s j ts2 fs2 al2) (runM s m k)
    | some f =>
      if f.2.2.2.1 then contM (msgM s m i ts fs al) fun j ts2 fs2 al2 => if s.size ≤ j then some (.ok j ts2 fs2 al2) else contM (synM s j ts2 fs2 al2) (runM s m k)
      else contM (keyM s i ts fs.dropLast f al) (runM s m k)
def Runs (s : ByteArray) (m : Int) (i : Nat) (ts : List Tk) (fs : List Fr) (al : List Nat) (x : MR) : Prop := ∃ k, runM s m k i ts fs al = some x
def RunsM (s : ByteArray) (m : Int) (r : MR) (x : MR) : Prop :=
  match r with
  | .er k a => x = .er k a
  | .ok i ts fs al => Runs s m i ts fs al x
section
variable {s : ByteArray} {m : Int} {x : MR}
theorem contM_runs {r : MR} (h : RunsM s m r x) : ∃ k, contM r (runM s m k) = some x := by
  cases r with
  | er k a => exact ⟨0, by rw [show x = .er k a from h]; rfl⟩
  | ok i ts fs al => obtain ⟨k, hk⟩ := h; exact ⟨k, hk⟩
theorem runs_key {i : Nat} {ts : List Tk} {fs : List Fr} {f : Fr} {al : List Nat} (hf : f.2.2.2.1 = false) (h : RunsM s m (keyM s i ts fs f al) x) : Runs s m i ts (fs ++ [f]) al x := by
  obtain ⟨k, hk⟩ := contM_runs h
  exact ⟨k + 1, by rw [runM]; simp only [List.getLast?_append, List.getLast?_singleton, Option.some_or, List.dropLast_concat]; rw [if_neg (by rw [hf]; decide)]; exact hk⟩
theorem runs_top {i j : Nat} {ts ts2 : List Tk} {al al2 : List Nat} (h1 : msgM s m i ts [] al = .ok j ts2 [] al2) (h2 : if s.size ≤ j then x = .ok j ts2 [] al2 else RunsM s m (synM s j ts2 [] al2) x) : Runs s m i ts [] al x := by
  by_cases hj : s.size ≤ j
  · rw [if_pos hj] at h2
    exact ⟨1, by rw [runM]; simp only [List.getLast?_nil]; rw [h1]; simp only [contM]; rw [if_pos hj, h2]⟩
  · rw [if_neg hj] at h2
    obtain ⟨k, hk⟩ := contM_runs h2
    exact ⟨k + 1, by rw [runM]; simp only [List.getLast?_nil]; rw [h1]; simp only [contM]; rw [if_neg hj]; exact hk⟩
theorem runs_msg {i : Nat} {ts : List Tk} {fs : List Fr} {f : Fr} {al : List Nat} (hf : f.2.2.2.1 = true) (h : match msgM s m i ts (fs ++ [f]) al with | .er k a => x = .er k a | .ok j ts2 fs2 al2 => ¬ s.size ≤ j ∧ RunsM s m (synM s j ts2 fs2 al2) x) : Runs s m i ts (fs ++ [f]) al x := by
  cases hm : msgM s m i ts (fs ++ [f]) al with
  | er k a =>
    rw [hm] at h
    exact ⟨1, by rw [runM]; simp only [List.getLast?_append, List.getLast?_singleton, Option.some_or]; rw [if_pos hf, hm]; simp only [contM]; rw [show x = .er k a from h]⟩
  | ok j ts2 fs2 al2 =>
    rw [hm] at h
    obtain ⟨k, hk⟩ := contM_runs h.2
    exact ⟨k + 1, by rw [runM]; simp only [List.getLast?_append, List.getLast?_singleton, Option.some_or]; rw [if_pos hf, hm]; simp only [contM]; rw [if_neg h.1]; exact hk⟩
theorem mr_pre (r : R) (ts ts1 : List Tk) (fs : List Fr) (al al1 : List Nat) : (R.pre ts1 al1 r).mr ts fs al = r.mr (ts ++ ts1) fs (al ++ al1) := by
  cases r with
  | ok j a b => simp [R.pre, R.mr]
  | er k a => rfl
theorem failR_cases (s : ByteArray) (pl : Nat) (op : Int) : ∃ k a, failR s pl op = .er k a := by
  unfold failR; split <;> exact ⟨_, _, rfl⟩
theorem failR_mr (s : ByteArray) (pl : Nat) (op : Int) (ts ts' : List Tk) (fs fs' : List Fr) (al al' : List Nat) : (failR s pl op).mr ts fs al = (failR s pl op).mr ts' fs' al' := by
  obtain ⟨k, a, h⟩ := failR_cases s pl op
  rw [h]; rfl
theorem failR_next (s : ByteArray) (pl : Nat) (op : Int) (f : Nat → Option R) : (failR s pl op).next f = some (failR s pl op) := by
  obtain ⟨k, a, h⟩ := failR_cases s pl op
  rw [h]; rfl
theorem mustR_idem (c : Nat) (kind op : Int) (i : Nat) : mustR s c kind op (blanks s i) = mustR s c kind op i := by
  unfold mustR; rw [blanks_idem]
theorem limF_idem (op : Int) (i : Nat) : limF s op (blanks s i) = limF s op i := by
  unfold limF; rw [blanks_idem]
theorem keyR_end (b : Bool) (op : Int) (i : Nat) (h : s.size ≤ i) : keyR s b op i = failR s i op := by
  have h0 : (wordAt s i).size = 0 := by
    have : wordEnd s i = i := by rw [wordEnd, dif_neg (by omega)]
    rw [wordAt, this]; simp [ByteArray.size_extract]
  unfold keyR
  rw [show at1 s i 61 = false from by simp [at1]; omega]
  simp [h0]
theorem offsetR_al {op : Int} {i j : Nat} {ts : List Tk} {al : List Nat} (h : offsetR s op i = .ok j ts al) : al = [] := by
  unfold offsetR at h
  split at h
  · split at h
    · cases h; rfl
    · exact absurd h (failR_ne _ _ _ _ _ _)
  · cases h; rfl
theorem keyR_al {b : Bool} {op : Int} {i j : Nat} {ts : List Tk} {al : List Nat} (h : keyR s b op i = .ok j ts al) : al = [] := by
  unfold keyR at h
  split at h
  · split at h
    · cases h; rfl
    · exact absurd h (failR_ne _ _ _ _ _ _)
  · split at h
    · exact absurd h (failR_ne _ _ _ _ _ _)
    · cases h; rfl
theorem textE_stop (sort : Int) (outer : Bool) (i : Nat) (hi : i ≤ s.size) : (textE s m sort outer i).2.1 = s.size ∨ (textE s m sort outer i).2.1 < s.size ∧ synB (b8 s (textE s m sort outer i).2.1) sort = true ∧ ¬ (outer = true ∧ b8 s (textE s m sort outer i).2.1 = 125) := by
  induction i using textE.induct s m sort outer with
  | case1 i h h1 ih =>
    have hb := aposE_le s m sort i h
    rw [textE, dif_pos h, if_pos h1]
    exact ih hb.1
  | case2 i h h1 h2 =>
    rw [textE, dif_pos h, if_neg h1, if_pos h2]
    simp only [Bool.and_eq_true, Bool.not_eq_true', Bool.and_eq_false_iff] at h2
    exact .inr ⟨h, h2.1, fun ⟨e1, e2⟩ => by rcases h2.2 with h3 | h3 <;> simp_all⟩
  | case3 i h h1 h2 ih =>
    rw [textE, dif_pos h, if_neg h1, if_neg h2]
    exact ih (by omega)
  | case4 i h =>
    rw [textE, dif_neg h]
    exact .inl (by simp only; omega)
theorem within_next {lo lo' n n' : Nat} {r r2 : R} {f : Nat → Option R} (h : r.within lo n) (hf : ∀ j r', lo ≤ j → j ≤ n → f j = some r' → r'.within lo' n') (h2 : r.next f = some r2) : r2.within lo' n' := by
  cases r with
  | er e a => rw [R.next_er h2]; exact R.within_er _ _ _ _
  | ok j ts al =>
    have hj := h j ts al rfl
    obtain ⟨r', h1, rfl⟩ := R.next_ok h2
    exact R.within_pre (hf j r' hj.1 hj.2 h1)
structure Withs (s : ByteArray) (m : Int) (k : Nat) : Prop where
  msg : ∀ sort op i r, i ≤ s.size → msgF s m k sort op i = some r → r.within i s.size
  arg : ∀ i r, i < s.size → argF s m k i = some r → r.within (i + 1) s.size
  typ : ∀ w op i r, 0 ≤ op → i ≤ s.size → typedF s m k w op i = some r → r.within i s.size
  cas : ∀ b op i r, i ≤ s.size → casesF s m k b op i = some r → r.within i s.size
  cho : ∀ op i r, 0 ≤ op → i ≤ s.size → choiceF s m k op i = some r → r.within i s.size
theorem withs : ∀ k, Withs s m k := by
  intro k
  induction k with
  | zero => exact ⟨fun a b c r _ h => by simp [msgF] at h, fun a r _ h => by simp [argF] at h, fun a b c r _ _ h => by simp [typedF] at h, fun a b c r _ h => by simp [casesF] at h, fun a b r _ _ h => by simp [choiceF] at h⟩
  | succ k ih =>
    refine ⟨?_, ?_, ?_, ?_, ?_⟩
    · intro sort op i r hi h
      have hb := textE_bd s m sort (decide (op < 0)) i hi
      rw [msgF] at h
      generalize textE s m sort (decide (op < 0)) i = te at h hb
      obtain ⟨t1, p, a1⟩ := te
      simp only at h hb
      split at h
      · cases Option.some.inj h
        split
        · exact R.within_ok hb
        · exact failR_within _ _ _ _ _
      · split at h
        · rw [Option.bind_eq_some_iff] at h
          obtain ⟨ra, hra, hrn⟩ := h
          rw [Option.map_eq_some_iff] at hrn
          obtain ⟨rb, hrb, rfl⟩ := hrn
          exact R.within_pre (within_next (R.within_le (lo' := i) (ih.arg _ _ (by omega) hra) (by omega)) (fun j r' h1 h2 h3 => R.within_le (ih.msg _ _ _ _ h2 h3) h1) hrb)
        · split at h
          · rw [Option.map_eq_some_iff] at h
            obtain ⟨rb, hrb, rfl⟩ := h
            exact R.within_pre (R.within_le (ih.msg _ _ _ _ (by omega) hrb) (by omega))
          · cases Option.some.inj h
            exact R.within_ok hb
    · intro i r hi h
      have hb := blanks_bd s (i + 1) (by omega)
      have hb2 := wordEnd_bd s _ hb.2
      have hb3 := blanks_bd s _ hb2.2
      rw [argF] at h
      generalize wordAt s (blanks s (i + 1)) = nm at *
      generalize blanks s (wordEnd s (blanks s (i + 1))) = c at *
      split at h
      · cases Option.some.inj h; exact failR_within _ _ _ _ _
      · rw [Option.map_eq_some_iff] at h
        obtain ⟨rb, h4, rfl⟩ := h
        refine R.within_pre ?_
        split at h4
        · cases Option.some.inj h4; exact R.within_le (mustR_within _ _ _ _ _ hb3.2) (by omega)
        · refine within_next (R.within_le (lo' := i + 1) (mustR_within _ _ _ _ _ hb3.2) (by omega)) (fun j r' h1 h2 h3 => ?_) h4
          have hb4 := blanks_bd s j h2
          have hb5 := letEnd_bd s _ hb4.2
          split at h3
          · cases Option.some.inj h3; exact failR_within _ _ _ _ _
          · rw [Option.map_eq_some_iff] at h3
            obtain ⟨rc, h5, rfl⟩ := h3
            exact R.within_pre (R.within_le (ih.typ _ _ _ _ (by omega) hb5.2 h5) (by omega))
    · intro w op i r hop hi h
      have hb := blanks_bd s i hi
      have hm : ∀ c kd, (mustR s c kd op (blanks s i)).within i s.size := fun c kd => R.within_le (mustR_within s c kd op _ hb.2) (by omega)
      rw [typedF] at h
      split at h
      · exact within_next (hm 44 6) (fun j r' h1 h2 h3 => within_next (R.within_le (lo' := i) (offsetR_within s op j h2) h1) (fun j2 r2 h4 h5 h6 => R.within_le (ih.cas _ _ _ _ h5 h6) h4) h3) h
      · split at h
        · exact within_next (hm 44 6) (fun j r' h1 h2 h3 => R.within_le (ih.cas _ _ _ _ h2 h3) h1) h
        · split at h
          · refine within_next (hm 44 6) (fun j r' h1 h2 h3 => ?_) h
            exact R.within_le (ih.cho _ _ _ hop h2 h3) h1
          · split at h
            · cases Option.some.inj h; exact hm _ _
            · refine within_next (hm 44 6) (fun j r' h1 h2 h3 => ?_) h
              cases Option.some.inj h3
              have := blanks_bd s j h2
              exact R.within_le (styleR_within s op _ _ 1 (Nat.le_refl _)) (by omega)
    · intro b op i r hi h
      have hb := blanks_bd s i hi
      rw [casesF] at h
      split at h
      · cases Option.some.inj h; exact R.within_le (mustR_within _ _ _ _ _ hb.2) (by omega)
      · split at h
        · cases Option.some.inj h; exact failR_within _ _ _ _ _
        · refine within_next (R.within_le (lo' := i) (keyR_within s b op _ hb.2) (by omega)) (fun j r' h1 h2 h3 => ?_) h
          have hb2 := blanks_bd s j h2
          refine within_next (R.within_le (lo' := i) (mustR_within s 123 3 op _ hb2.2) (by omega)) (fun j2 r2 h4 h5 h6 => ?_) h3
          rw [Option.bind_eq_some_iff] at h6
          obtain ⟨ra, h7, h8⟩ := h6
          refine within_next (R.within_le (lo' := i) (ih.msg _ _ _ _ h5 h7) h4) (fun j3 r3 h9 h10 h11 => ?_) h8
          refine within_next (R.within_le (lo' := i) (mustR_within s 125 4 _ _ h10) (by omega)) (fun j4 r4 h12 h13 h14 => ?_) h11
          exact R.within_le (ih.cas _ _ _ _ h13 h14) h12
    · intro op i r hop hi h
      have hb := blanks_bd s i hi
      have hl := limR_within s op (blanks s i) hb.2
      rw [choiceF] at h
      rw [limR] at hl
      split at h
      · refine within_next (R.within_le (lo' := i) hl (by omega)) (fun j r' h1 h2 h3 => ?_) h
        rw [Option.bind_eq_some_iff] at h3
        obtain ⟨ra, h4, h5⟩ := h3
        have h6 := ih.msg _ _ _ _ h2 h4
        cases ra with
        | er e a => rw [R.next_er h5]; exact R.within_er _ _ _ _
        | ok j2 t2 a2 =>
        have h7 := msg_ne hop h4
        have h8 := h6 _ _ _ rfl
        obtain ⟨r2, h10, rfl⟩ := R.next_ok h5
        refine R.within_pre ?_
        split at h10
        · cases Option.some.inj h10; exact R.within_le (mustR_within _ _ _ _ _ (by omega)) (by omega)
        · rw [Option.map_eq_some_iff] at h10
          obtain ⟨rb, h11, rfl⟩ := h10
          exact R.within_pre (R.within_le (ih.cho _ _ _ hop (by omega) h11) (by omega))
      · cases Option.some.inj h; exact failR_within _ _ _ _ _
theorem msg_stop {op : Int} (hop : 0 ≤ op) : ∀ {k : Nat} {sort : Int} {i j : Nat} {ts : List Tk} {al : List Nat}, i ≤ s.size → msgF s m k sort op i = some (.ok j ts al) → j < s.size ∧ b8 s j ≠ 123 ∧ b8 s j ≠ 35 ∧ synB (b8 s j) sort = true := by
  intro k
  induction k with
  | zero => intro sort i j ts al _ h; simp [msgF] at h
  | succ k ih =>
    intro sort i j ts al hi h
    have hs := textE_stop (s := s) (m := m) sort (decide (op < 0)) i hi
    rw [msgF] at h
    generalize textE s m sort (decide (op < 0)) i = te at h hs
    obtain ⟨t1, p, a1⟩ := te
    simp only at h hs
    split at h
    · rw [if_neg (by omega)] at h
      exact absurd (Option.some.inj h) (failR_ne _ _ _ _ _ _)
    · rename_i hne
      rcases hs with hs | hs
      · exact absurd hs hne
      split at h
      · rw [Option.bind_eq_some_iff] at h
        obtain ⟨ra, hra, hrn⟩ := h
        rw [Option.map_eq_some_iff] at hrn
        obtain ⟨rb, hrb, hrc⟩ := hrn
        obtain ⟨t3, a3, hrd⟩ := R.pre_ok hrc
        subst hrd
        cases ra with
        | er e a => simp [R.next] at hrb
        | ok i3 t4 a4 =>
          obtain ⟨r5, hr5, hr6⟩ := R.next_ok hrb
          obtain ⟨t6, a6, hr7⟩ := R.pre_ok hr6.symm
          subst hr7
          have hi3 : i3 ≤ s.size := ((withs k).arg _ _ (by omega) hra _ _ _ rfl).2
          exact ih hi3 hr5
      · split at h
        · rw [Option.map_eq_some_iff] at h
          obtain ⟨rb, hrb, hrc⟩ := h
          obtain ⟨t3, a3, hrd⟩ := R.pre_ok hrc
          subst hrd
          exact ih (by omega) hrb
        · rename_i h1 h2
          cases Option.some.inj h
          exact ⟨hs.1, h1, h2, hs.2.1⟩
end
end Go.Proofs.YtcnhklcbibpjpaaGreatDoor
