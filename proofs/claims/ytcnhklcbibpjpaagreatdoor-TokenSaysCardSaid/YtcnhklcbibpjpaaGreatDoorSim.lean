/- What goes through in the first way goes through in the second one, with the same tokens. -/
import Derived.Test.YtcnhklcbibpjpaaGreatDoorCos
set_option linter.unusedVariables false
set_option linter.unusedSimpArgs false
namespace Go.Proofs.YtcnhklcbibpjpaaGreatDoor
open P

section
variable {s t : ByteArray}
/-- Each piece of the grammar, so many rounds. -/
structure Sims (s t : ByteArray) (k : Nat) : Prop where
  msg : ∀ sort op op' i i', (decide (op < 0) = decide (op' < 0)) → SimO s t i i' (msgF s 1 k sort op i) (msgF t 2 k sort op' i')
  arg : ∀ i i', SimO s t i i' (argF s 1 k i) (argF t 2 k i')
  typ : ∀ w op op' i i', 0 ≤ op → 0 ≤ op' → SimO s t i i' (typedF s 1 k w op i) (typedF t 2 k w op' i')
  cas : ∀ b op op' i i', SimO s t i i' (casesF s 1 k b op i) (casesF t 2 k b op' i')
  cho : ∀ op op' i i', 0 ≤ op → 0 ≤ op' → SimO s t i i' (choiceF s 1 k op i) (choiceF t 2 k op' i')

theorem bind_sim {i i' : Nat} {o o' : Option R} {f f' : Nat → Option R} (h : SimO s t i i' o o') (hf : ∀ j j', SimO s t j j' (f j) (f' j')) (hri : ∀ j r2, f j = some r2 → r2.rise s j) :
    SimO s t i i' (o.bind fun r => r.next f) (o'.bind fun r => r.next f') := by
  intro j ts al al2 e hr hc
  obtain ⟨r, e0, e⟩ := Option.bind_eq_some_iff.1 e
  cases r with
  | er a b => simp [R.next] at e
  | ok j1 ts1 al1 =>
    simp only [R.next, Option.map_eq_some_iff] at e
    obtain ⟨r2, e1, e2⟩ := e
    cases r2 with
    | er a b => simp [R.pre] at e2
    | ok j2 ts2 al3 =>
      simp only [R.pre, R.ok.injEq] at e2
      obtain ⟨rfl, rfl, rfl⟩ := e2
      have hri2 : Rise s j1 j2 al3 := hri _ _ e1
      obtain ⟨j', ts', k1, k2, k3⟩ := h j1 ts1 al1 (al3 ++ al2) e0 (Rise.append hr hri2) (by rw [← List.append_assoc]; exact hc)
      obtain ⟨j'', ts'', m1, m2, m3⟩ := hf j1 j' j2 ts2 al3 al2 e1 hr k2
      exact ⟨j'', ts' ++ ts'', by rw [k1]; simp [R.next, m1, R.pre], m2, k3.app m3⟩

theorem pre_ok {ts0 : List Tk} {a0 : List Nat} {r : R} {j : Nat} {ts : List Tk} {al : List Nat} (h : R.pre ts0 a0 r = .ok j ts al) : ∃ ts1 al1, r = .ok j ts1 al1 ∧ ts = ts0 ++ ts1 ∧ al = a0 ++ al1 := by
  cases r with
  | er a b => simp [R.pre] at h
  | ok j2 ts2 al2 =>
    simp only [R.pre, R.ok.injEq] at h
    obtain ⟨rfl, rfl, rfl⟩ := h
    exact ⟨_, _, rfl, rfl, rfl⟩

theorem pre_ok0 {ts0 : List Tk} {r : R} {j : Nat} {ts : List Tk} {al : List Nat} (h : R.pre ts0 [] r = .ok j ts al) : ∃ ts1, r = .ok j ts1 al ∧ ts = ts0 ++ ts1 := by
  obtain ⟨ts1, al1, h1, h2, h3⟩ := pre_ok h
  rw [List.nil_append] at h3
  subst h3
  exact ⟨ts1, h1, h2⟩

theorem sims_msg (k : Nat) (ih : Sims s t k) (sort op op' : Int) (i i' : Nat) (hop : decide (op < 0) = decide (op' < 0)) : SimO s t i i' (msgF s 1 (k + 1) sort op i) (msgF t 2 (k + 1) sort op' i') := by
  intro j ts al al2 e hr hc
  have hb := textE_rise s 1 sort (decide (op < 0)) i
  have hX : ∀ al3, al = (textE s 1 sort (decide (op < 0)) i).2.2 ++ al3 → Rise s (textE s 1 sort (decide (op < 0)) i).2.1 s.size (al3 ++ al2) →
      (textE t 2 sort (decide (op < 0)) i').1 = (textE s 1 sort (decide (op < 0)) i).1 ∧ (textE t 2 sort (decide (op < 0)) i').2.2 = [] ∧ Corr s t (al3 ++ al2) (textE s 1 sort (decide (op < 0)) i).2.1 (textE t 2 sort (decide (op < 0)) i').2.1 := by
    intro al3 e1 h1
    exact textE_sim sort (decide (op < 0)) (by rw [← List.append_assoc, ← e1]; exact hc) h1
  have hn' : (op' < 0) ↔ (op < 0) := by
    have := hop
    rw [decide_eq_decide] at this
    exact this.symm
  rw [msgF] at e
  rw [msgF, ← hop]
  generalize textE s 1 sort (decide (op < 0)) i = te at *
  generalize textE t 2 sort (decide (op < 0)) i' = te' at *
  obtain ⟨t1, p, a1⟩ := te
  obtain ⟨t1', p', a1'⟩ := te'
  simp only at hb hX e ⊢
  have htk : t1' = t1 → Sm (tokL t1 i) (tokL t1' i') := by rintro rfl; unfold tokL; split <;> rfl
  split at e
  · rename_i hp
    have e := Option.some.inj e
    split at e
    · rename_i hlt
      simp only [R.ok.injEq] at e
      obtain ⟨rfl, rfl, rfl⟩ := e
      obtain ⟨x1, x2, x3⟩ := hX [] (by simp) hr
      rw [if_pos (x3.eos.1 hp), if_pos (hn'.2 hlt), x2]
      exact ⟨_, _, rfl, x3, htk x1⟩
    · exact absurd e (failR_nok _ _ _ _ _ _)
  · rename_i hp
    split at e
    · rename_i h123
      obtain ⟨ra, h1, h2⟩ := Option.bind_eq_some_iff.1 e
      obtain ⟨rb, h3, h4⟩ := Option.map_eq_some_iff.1 h2
      obtain ⟨ts1, al3, rfl, rfl, rfl⟩ := pre_ok h4
      have hri : Rise s p j al3 := R.rise_next ((rises s 1 k).arg _ _ h1) (fun j r' h => (rises s 1 k).msg _ _ _ _ h) h3
      obtain ⟨x1, x2, x3⟩ := hX al3 rfl (Rise.append hr hri)
      obtain ⟨j', ts', m1, m2, m3⟩ := bind_sim (f := fun i2 => msgF s 1 k sort op i2) (f' := fun i2 => msgF t 2 k sort op' i2) (ih.arg p p') (fun j j' => ih.msg sort op op' j j' hop) (fun j r' h => (rises s 1 k).msg _ _ _ _ h) j ts1 al3 al2 (by rw [h1]; exact h3) hr x3
      rw [if_neg (fun h => hp (x3.eos.2 h)), if_pos (by rw [← x3.b8]; exact h123)]
      obtain ⟨r', n1, n2⟩ := Option.bind_eq_some_iff.1 m1
      refine ⟨j', tokL t1' i' ++ ts', ?_, m2, (htk x1).app m3⟩
      rw [n1, x2]
      simp [n2, R.pre]
    · rename_i h123
      split at e
      · rename_i h35
        obtain ⟨rb, h3, h4⟩ := Option.map_eq_some_iff.1 e
        obtain ⟨ts1, al3, rfl, rfl, rfl⟩ := pre_ok h4
        have hri : Rise s (p + 1) j al3 := (rises s 1 k).msg _ _ _ _ h3
        obtain ⟨x1, x2, x3⟩ := hX al3 rfl (Rise.append hr (Rise.low (Nat.le_succ _) hri))
        have c1 := x3.move (j := p + 1) (by omega) (Rise.append hr hri)
        rw [show p + 1 - p = 1 from by omega] at c1
        obtain ⟨j', ts', m1, m2, m3⟩ := ih.msg sort op op' (p + 1) (p' + 1) hop j ts1 al3 al2 h3 hr c1
        rw [if_neg (fun h => hp (x3.eos.2 h)), if_neg (by rw [← x3.b8]; exact h123), if_pos (by rw [← x3.b8]; exact h35)]
        refine ⟨j', (tokL t1' i' ++ [(2, ⟨#[]⟩, (p' : Int))]) ++ ts', ?_, m2, ((htk x1).app Sm.one).app m3⟩
        rw [m1, x2]
        rfl
      · rename_i h35
        have e := Option.some.inj e
        simp only [R.ok.injEq] at e
        obtain ⟨rfl, rfl, rfl⟩ := e
        obtain ⟨x1, x2, x3⟩ := hX [] (by simp) hr
        rw [if_neg (fun h => hp (x3.eos.2 h)), if_neg (by rw [← x3.b8]; exact h123), if_neg (by rw [← x3.b8]; exact h35), x2]
        exact ⟨_, _, rfl, x3, htk x1⟩

theorem sims_arg (k : Nat) (ih : Sims s t k) (i i' : Nat) : SimO s t i i' (argF s 1 (k + 1) i) (argF t 2 (k + 1) i') := by
  intro j ts al al2 e hr hc
  rw [argF] at e
  have g1 := blanks_ge s (i + 1)
  have g2 := wordEnd_ge s (P.blanks s (i + 1))
  have g3 := blanks_ge s (P.wordEnd s (P.blanks s (i + 1)))
  split at e
  · exact absurd (Option.some.inj e) (failR_nok _ _ _ _ _ _)
  rename_i hid
  obtain ⟨rb, h4, h5⟩ := Option.map_eq_some_iff.1 e
  obtain ⟨ts1, rfl, rfl⟩ := pre_ok0 h5
  have hfr : ∀ j r', (if P.letEnd s (P.blanks s j) = P.blanks s j then some (failR s (P.blanks s j) i)
         else (typedF s 1 k (s.extract (P.blanks s j) (P.letEnd s (P.blanks s j))) i (P.letEnd s (P.blanks s j))).map (R.pre [(7, s.extract (P.blanks s j) (P.letEnd s (P.blanks s j)), (P.blanks s j : Int))] [])) = some r' → r'.rise s (P.blanks s j) := by
    intro j r' h
    have h6 := letEnd_ge s (P.blanks s j)
    split at h
    · have h := Option.some.inj h
      subst h
      exact failR_rise _ _ _ _
    · obtain ⟨rc, h7, rfl⟩ := Option.map_eq_some_iff.1 h
      exact R.rise_pre0 (R.rise_low h6 ((rises s 1 k).typ _ _ _ _ h7))
  have hri : Rise s (P.blanks s (P.wordEnd s (P.blanks s (i + 1)))) j al := by
    split at h4
    · have h4 := Option.some.inj h4
      have := mustR_rise s 125 4 i (P.blanks s (P.wordEnd s (P.blanks s (i + 1))))
      rw [h4] at this
      exact this
    · exact R.rise_next (mustR_rise _ _ _ _ _) (fun j r' h => R.rise_low (blanks_ge s j) (hfr j r' h)) h4
  have hR := Rise.append hr hri
  have c1 := hc.move (j := i + 1) (by omega) (Rise.low (by omega) hR)
  rw [show i + 1 - i = 1 from by omega] at c1
  have c2 := c1.blanks (Rise.low (by omega) hR)
  have c3 := c2.wordEnd (Rise.low (by omega) hR)
  have c4 := c3.blanks hR
  rw [argF, if_neg (by rw [← wordAt_ag c2.ag]; exact hid), ← wordAt_ag c2.ag]
  have hsm : Sm [(3, ⟨#[]⟩, (i : Int)), (5, wordAt s (P.blanks s (i + 1)), (P.blanks s (i + 1) : Int))] [(3, ⟨#[]⟩, (i' : Int)), (5, wordAt s (P.blanks s (i + 1)), (P.blanks t (i' + 1) : Int))] := rfl
  generalize wordAt s (P.blanks s (i + 1)) = nm at *
  generalize P.blanks s (P.wordEnd s (P.blanks s (i + 1))) = u at *
  generalize P.blanks t (P.wordEnd t (P.blanks t (i' + 1))) = u' at *
  split at h4
  · rename_i h125
    obtain ⟨j', ts', m1, m2, m3⟩ := mustR_sim 125 4 (i : Int) (i' : Int) u u' j ts1 al al2 (Option.some.inj h4) hr c4
    rw [if_pos (by rw [← c4.at1]; exact h125)]
    exact ⟨j', _ ++ ts', by rw [m1]; rfl, m2, hsm.app m3⟩
  · rename_i h125
    rw [if_neg (by rw [← c4.at1]; exact h125)]
    obtain ⟨j', ts', m1, m2, m3⟩ := next_sim (f := fun j => if P.letEnd s (P.blanks s j) = P.blanks s j then some (failR s (P.blanks s j) i)
         else (typedF s 1 k (s.extract (P.blanks s j) (P.letEnd s (P.blanks s j))) i (P.letEnd s (P.blanks s j))).map (R.pre [(7, s.extract (P.blanks s j) (P.letEnd s (P.blanks s j)), (P.blanks s j : Int))] []))
       (f' := fun j => if P.letEnd t (P.blanks t j) = P.blanks t j then some (failR t (P.blanks t j) i')
         else (typedF t 2 k (t.extract (P.blanks t j) (P.letEnd t (P.blanks t j))) i' (P.letEnd t (P.blanks t j))).map (R.pre [(7, t.extract (P.blanks t j) (P.letEnd t (P.blanks t j)), (P.blanks t j : Int))] []))
       (mustR_sim 44 6 (i : Int) (i' : Int) u u') (fun b b' => by
        refine SimO.from (k := P.blanks s b) (k' := P.blanks t b') (hfr b) (fun al hr hc => hc.blanks hr) ?_
        intro j ts al al2 e hr hc
        split at e
        · exact absurd (Option.some.inj e) (failR_nok _ _ _ _ _ _)
        · rename_i hne
          obtain ⟨rc, h7, h8⟩ := Option.map_eq_some_iff.1 e
          obtain ⟨ts1, rfl, rfl⟩ := pre_ok0 h8
          have hl := hc.letters
          rw [if_neg (fun h => hne (hl.2.2 h)), ← hl.1]
          have hrt : Rise s (P.letEnd s (P.blanks s b)) j al := (rises s 1 k).typ _ _ _ _ h7
          have hc2 := Corr.letEnd (al := al ++ al2) hc (Rise.append hr hrt)
          obtain ⟨j', ts', m1, m2, m3⟩ := ih.typ _ (i : Int) (i' : Int) _ _ (by omega) (by omega) _ _ _ _ h7 hr hc2
          exact ⟨j', _ ++ ts', by rw [m1]; rfl, m2, Sm.app Sm.one m3⟩)
       (fun b r2 h => R.rise_low (blanks_ge s b) (hfr b r2 h)) j ts1 al al2 h4 hr c4
    exact ⟨j', _ ++ ts', by rw [m1]; rfl, m2, hsm.app m3⟩

theorem sims_typ (k : Nat) (ih : Sims s t k) (w : ByteArray) (op op' : Int) (i i' : Nat) (ho : 0 ≤ op) (ho' : 0 ≤ op') : SimO s t i i' (typedF s 1 (k + 1) w op i) (typedF t 2 (k + 1) w op' i') := by
  rw [typedF, typedF]
  have R0 := rises s 1 k
  refine SimO.from (k := P.blanks s i) (k' := P.blanks t i') ?_ (fun al hr hc => hc.blanks hr) ?_
  · intro r h
    split at h
    · exact R.rise_next (mustR_rise _ _ _ _ _) (fun j r' h => R.rise_next (offsetR_rise _ _ _) (fun j r' h => R0.cas _ _ _ _ h) h) h
    · split at h
      · exact R.rise_next (mustR_rise _ _ _ _ _) (fun j r' h => R0.cas _ _ _ _ h) h
      · split at h
        · exact R.rise_next (mustR_rise _ _ _ _ _) (fun j r' h => R0.cho _ _ _ h) h
        · split at h
          · have h := Option.some.inj h
            subst h
            exact mustR_rise _ _ _ _ _
          · exact R.rise_next (mustR_rise _ _ _ _ _) (fun j r' h => by have h := Option.some.inj h; subst h; exact styleR_rise _ _ _) h
  split
  · exact next_sim (mustR_sim _ _ _ _ _ _) (fun j j' => next_sim (offsetR_sim _ _ _ _) (fun j j' => ih.cas _ _ _ _ _) (fun j r' h => R0.cas _ _ _ _ h)) (fun j r' h => R.rise_next (offsetR_rise _ _ _) (fun j r' h => R0.cas _ _ _ _ h) h)
  · split
    · exact next_sim (mustR_sim _ _ _ _ _ _) (fun j j' => ih.cas _ _ _ _ _) (fun j r' h => R0.cas _ _ _ _ h)
    · split
      · exact next_sim (mustR_sim _ _ _ _ _ _) (fun j j' => ih.cho _ _ _ _ ho ho') (fun j r' h => R0.cho _ _ _ h)
      · intro j ts al al2 e hr hc
        split at e
        · rename_i h125
          rw [if_pos (by rw [← hc.at1]; exact h125)]
          exact SimO.of (mustR_sim 125 4 op op' _ _) j ts al al2 e hr hc
        · rename_i h125
          rw [if_neg (by rw [← hc.at1]; exact h125)]
          exact next_sim (mustR_sim _ _ _ _ _ _) (fun j j' => SimO.of (styleR_sim op op' j j')) (fun j r' h => by have h := Option.some.inj h; subst h; exact styleR_rise _ _ _) j ts al al2 e hr hc

theorem sims_cas (k : Nat) (ih : Sims s t k) (b : Bool) (op op' : Int) (i i' : Nat) : SimO s t i i' (casesF s 1 (k + 1) b op i) (casesF t 2 (k + 1) b op' i') := by
  rw [casesF, casesF]
  have R0 := rises s 1 k
  have r4 : ∀ (p : Int) j r', ((mustR s 125 4 p j).next fun j4 => casesF s 1 k b op j4) = some r' → r'.rise s j := fun p j r' h => R.rise_next (mustR_rise _ _ _ _ _) (fun j r' h => R0.cas _ _ _ _ h) h
  have r3 : ∀ (p : Int) j r', ((msgF s 1 k (if b = true then 1 else 0) p j).bind fun r => r.next fun j3 => (mustR s 125 4 p j3).next fun j4 => casesF s 1 k b op j4) = some r' → r'.rise s j := fun p j r' h => by
    obtain ⟨ra, h1, h2⟩ := Option.bind_eq_some_iff.1 h
    exact R.rise_next (R0.msg _ _ _ _ h1) (fun j r' h => r4 p j r' h) h2
  have r2 : ∀ j r', ((mustR s 123 3 op (P.blanks s j)).next fun j2 => (msgF s 1 k (if b = true then 1 else 0) (P.blanks s j : Nat) j2).bind fun r => r.next fun j3 => (mustR s 125 4 (P.blanks s j : Nat) j3).next fun j4 => casesF s 1 k b op j4) = some r' → r'.rise s (P.blanks s j) := fun j r' h =>
    R.rise_next (mustR_rise _ _ _ _ _) (fun j2 r' h => r3 _ j2 r' h) h
  refine SimO.from (k := P.blanks s i) (k' := P.blanks t i') ?_ (fun al hr hc => hc.blanks hr) ?_
  · intro r h
    split at h
    · have h := Option.some.inj h
      subst h
      exact mustR_rise _ _ _ _ _
    · split at h
      · have h := Option.some.inj h
        subst h
        exact failR_rise _ _ _ _
      · exact R.rise_next (keyR_rise _ _ _ _) (fun j r' h => R.rise_low (blanks_ge s j) (r2 j r' h)) h
  intro j ts al al2 e hr hc
  split at e
  · rename_i h125
    rw [if_pos (by rw [← hc.at1]; exact h125)]
    exact SimO.of (mustR_sim 125 4 op op' _ _) j ts al al2 e hr hc
  · rename_i h125
    split at e
    · exact absurd (Option.some.inj e) (failR_nok _ _ _ _ _ _)
    · rename_i hsz
      rw [if_neg (by rw [← hc.at1]; exact h125), if_neg (fun h => hsz (hc.eos.2 h))]
      refine next_sim (keyR_sim b op op' _ _) (fun b1 b1' => ?_) (fun j r' h => R.rise_low (blanks_ge s j) (r2 j r' h)) j ts al al2 e hr hc
      refine SimO.from (k := P.blanks s b1) (k' := P.blanks t b1') (r2 b1) (fun al hr hc => hc.blanks hr) ?_
      refine next_sim (mustR_sim _ _ _ _ _ _) (fun b2 b2' => ?_) (fun j r' h => r3 _ j r' h)
      refine bind_sim (ih.msg _ _ _ _ _ (by rw [decide_eq_decide]; omega)) (fun b3 b3' => ?_) (fun j r' h => r4 _ j r' h)
      exact next_sim (mustR_sim _ _ _ _ _ _) (fun b4 b4' => ih.cas _ _ _ _ _) (fun j r' h => R0.cas _ _ _ _ h)

theorem sims_cho (k : Nat) (ih : Sims s t k) (op op' : Int) (i i' : Nat) (ho : 0 ≤ op) (ho' : 0 ≤ op') : SimO s t i i' (choiceF s 1 (k + 1) op i) (choiceF t 2 (k + 1) op' i') := by
  rw [choiceF, choiceF]
  have R0 := rises s 1 k
  have hle : ∀ (u : ByteArray) (p : Int) (a : Nat), (if at1 u (P.blanks u (P.numEnd u a)) 35 then R.ok (P.blanks u (P.numEnd u a) + 1) [(11, numAt u a ++ ⟨#[35]⟩, (a : Int))] []
       else if at1 u (P.blanks u (P.numEnd u a)) 60 then R.ok (P.blanks u (P.numEnd u a) + 1) [(11, numAt u a ++ ⟨#[60]⟩, (a : Int))] []
       else if hereB u (P.blanks u (P.numEnd u a)) [226, 137, 164] then R.ok (P.blanks u (P.numEnd u a) + 3) [(11, numAt u a ++ ⟨#[35]⟩, (a : Int))] []
       else failR u (P.blanks u (P.numEnd u a)) p) = limR u p a := fun u p a => rfl
  rw [hle, hle]
  have r3 : ∀ j r', (if at1 s j 125 then some (mustR s 125 4 op j) else (choiceF s 1 k op (j + 1)).map (R.pre [(12, ⟨#[]⟩, (j : Int))] [])) = some r' → r'.rise s j := fun j r' h => by
    split at h
    · have h := Option.some.inj h
      subst h
      exact mustR_rise _ _ _ _ _
    · obtain ⟨rc, h7, rfl⟩ := Option.map_eq_some_iff.1 h
      exact R.rise_pre0 (R.rise_low (Nat.le_succ _) (R0.cho _ _ _ h7))
  have r2 : ∀ j r', ((msgF s 1 k 2 op j).bind fun r => r.next fun j2 => if at1 s j2 125 then some (mustR s 125 4 op j2) else (choiceF s 1 k op (j2 + 1)).map (R.pre [(12, ⟨#[]⟩, (j2 : Int))] [])) = some r' → r'.rise s j := fun j r' h => by
    obtain ⟨ra, h1, h2⟩ := Option.bind_eq_some_iff.1 h
    exact R.rise_next (R0.msg _ _ _ _ h1) (fun j r' h => r3 j r' h) h2
  refine SimO.from (k := P.blanks s i) (k' := P.blanks t i') ?_ (fun al hr hc => hc.blanks hr) ?_
  · intro r h
    split at h
    · exact R.rise_next (limR_rise _ _ _) (fun j r' h => r2 j r' h) h
    · have h := Option.some.inj h
      subst h
      exact failR_rise _ _ _ _
  intro j ts al al2 e hr hc
  split at e
  · rename_i hn
    rw [if_pos (by rw [← numOk_ag hc.ag]; exact hn)]
    refine next_sim (limR_sim op op' _ _) (fun b1 b1' => ?_) (fun j r' h => r2 j r' h) j ts al al2 e hr hc
    refine bind_sim (ih.msg _ _ _ _ _ (by rw [decide_eq_decide]; omega)) (fun b2 b2' => ?_) (fun j r' h => r3 j r' h)
    intro j ts al al2 e hr hc
    split at e
    · rename_i h125
      rw [if_pos (by rw [← hc.at1]; exact h125)]
      exact SimO.of (mustR_sim 125 4 op op' _ _) j ts al al2 e hr hc
    · rename_i h125
      rw [if_neg (by rw [← hc.at1]; exact h125)]
      obtain ⟨rc, h7, h8⟩ := Option.map_eq_some_iff.1 e
      obtain ⟨ts1, rfl, rfl⟩ := pre_ok0 h8
      have hrc : Rise s (b2 + 1) j al := R0.cho _ _ _ h7
      have c1 := hc.move (j := b2 + 1) (by omega) (Rise.append hr hrc)
      rw [show b2 + 1 - b2 = 1 from by omega] at c1
      obtain ⟨j', ts', m1, m2, m3⟩ := ih.cho op op' _ _ ho ho' _ _ _ _ h7 hr c1
      exact ⟨j', _ ++ ts', by rw [m1]; rfl, m2, Sm.app Sm.one m3⟩
  · exact absurd (Option.some.inj e) (failR_nok _ _ _ _ _ _)

theorem sims : ∀ k, Sims s t k := by
  intro k
  induction k with
  | zero => exact ⟨fun a b c d e f => by intro j ts al al2 h; simp [msgF] at h, fun a b => by intro j ts al al2 h; simp [argF] at h, fun a b c d e f g => by intro j ts al al2 h; simp [typedF] at h, fun a b c d e => by intro j ts al al2 h; simp [casesF] at h, fun a b c d e f => by intro j ts al al2 h; simp [choiceF] at h⟩
  | succ k ih => exact ⟨sims_msg k ih, sims_arg k ih, sims_typ k ih, sims_cas k ih, sims_cho k ih⟩
end

theorem next_mono {r r2 : R} {f f' : Nat → Option R} (hf : ∀ j r, f j = some r → f' j = some r) (h : r.next f = some r2) : r.next f' = some r2 := by
  cases r with
  | er a b => exact h
  | ok j ts al =>
    simp only [R.next, Option.map_eq_some_iff] at h ⊢
    obtain ⟨r3, h1, h2⟩ := h
    exact ⟨r3, hf _ _ h1, h2⟩

/-- More rounds tell no other thing. -/
structure Monos (s : ByteArray) (m : Int) (k : Nat) : Prop where
  msg : ∀ sort op i r, msgF s m k sort op i = some r → msgF s m (k + 1) sort op i = some r
  arg : ∀ i r, argF s m k i = some r → argF s m (k + 1) i = some r
  typ : ∀ w op i r, typedF s m k w op i = some r → typedF s m (k + 1) w op i = some r
  cas : ∀ b op i r, casesF s m k b op i = some r → casesF s m (k + 1) b op i = some r
  cho : ∀ op i r, choiceF s m k op i = some r → choiceF s m (k + 1) op i = some r
theorem bind_mono {o o' : Option R} {r2 : R} {f f' : R → Option R} (ho : ∀ r, o = some r → o' = some r) (hf : ∀ r r', f r = some r' → f' r = some r') (h : o.bind f = some r2) : o'.bind f' = some r2 := by
  obtain ⟨r, h1, h2⟩ := Option.bind_eq_some_iff.1 h
  rw [ho r h1]
  exact hf _ _ h2
theorem map_mono {o o' : Option R} {r2 : R} {f : R → R} (ho : ∀ r, o = some r → o' = some r) (h : o.map f = some r2) : o'.map f = some r2 := by
  obtain ⟨r, h1, h2⟩ := Option.map_eq_some_iff.1 h
  rw [ho r h1, ← h2]; rfl

theorem monos (s : ByteArray) (m : Int) : ∀ k, Monos s m k := by
  intro k
  induction k with
  | zero => exact ⟨fun a b c r h => by simp [msgF] at h, fun a r h => by simp [argF] at h, fun a b c r h => by simp [typedF] at h, fun a b c r h => by simp [casesF] at h, fun a b r h => by simp [choiceF] at h⟩
  | succ k ih =>
    refine ⟨fun sort op i r h => ?_, fun i r h => ?_, fun w op i r h => ?_, fun b op i r h => ?_, fun op i r h => ?_⟩
    · rw [msgF] at h ⊢
      split at h
      · rename_i c; rw [if_pos c]; exact h
      · rename_i c; rw [if_neg c]
        split at h
        · rename_i c; rw [if_pos c]
          exact bind_mono (ih.arg _) (fun r r' h => map_mono (fun r h => next_mono (fun j r h => ih.msg _ _ _ _ h) h) h) h
        · rename_i c; rw [if_neg c]
          split at h
          · rename_i c; rw [if_pos c]
            exact map_mono (ih.msg _ _ _) h
          · rename_i c; rw [if_neg c]; exact h
    · rw [argF] at h ⊢
      split at h
      · rename_i c; rw [if_pos c]; exact h
      · rename_i c; rw [if_neg c]
        refine map_mono (fun r h => ?_) h
        split at h
        · rename_i c; rw [if_pos c]; exact h
        · rename_i c; rw [if_neg c]
          refine next_mono (fun j r h => ?_) h
          split at h
          · rename_i c; rw [if_pos c]; exact h
          · rename_i c; rw [if_neg c]; exact map_mono (ih.typ _ _ _) h
    · rw [typedF] at h ⊢
      split at h
      · rename_i c; rw [if_pos c]
        exact next_mono (fun j r h => next_mono (fun j r h => ih.cas _ _ _ _ h) h) h
      · rename_i c; rw [if_neg c]
        split at h
        · rename_i c; rw [if_pos c]; exact next_mono (fun j r h => ih.cas _ _ _ _ h) h
        · rename_i c; rw [if_neg c]
          split at h
          · rename_i c; rw [if_pos c]; exact next_mono (fun j r h => ih.cho _ _ _ h) h
          · rename_i c; rw [if_neg c]; exact h
    · rw [casesF] at h ⊢
      split at h
      · rename_i c; rw [if_pos c]; exact h
      · rename_i c; rw [if_neg c]
        split at h
        · rename_i c; rw [if_pos c]; exact h
        · rename_i c; rw [if_neg c]
          exact next_mono (fun j r h => next_mono (fun j r h => bind_mono (ih.msg _ _ _) (fun r r' h => next_mono (fun j r h => next_mono (fun j r h => ih.cas _ _ _ _ h) h) h) h) h) h
    · rw [choiceF] at h ⊢
      split at h
      · rename_i c; rw [if_pos c]
        refine next_mono (fun j r h => bind_mono (ih.msg _ _ _) (fun r r' h => next_mono (fun j r h => ?_) h) h) h
        split at h
        · rename_i c; rw [if_pos c]; exact h
        · rename_i c; rw [if_neg c]; exact map_mono (ih.cho _ _) h
      · rename_i c; rw [if_neg c]; exact h
theorem msg_mono {s : ByteArray} {m : Int} {k k' : Nat} (hk : k ≤ k') {sort op : Int} {i : Nat} {r : R} (h : msgF s m k sort op i = some r) : msgF s m k' sort op i = some r := by
  obtain ⟨d, rfl⟩ := Nat.exists_eq_add_of_le hk
  induction d with
  | zero => exact h
  | succ d ih => exact (monos s m _).msg _ _ _ _ (ih (by omega))

/-- The second way says what the first one said. -/
theorem lex_says {s : ByteArray} {j : Nat} {ts : List Tk} {al : List Nat} (h : lexR s 1 = .ok j ts al) : ∃ j' ts', lexR ⟨(autoL s al 0).toArray⟩ 2 = .ok j' ts' [] ∧ Sm ts ts' := by
  obtain ⟨h1, h2⟩ := lexR_rise h
  have hr : Rise s 0 s.size (al ++ []) := Rise.append (show Rise s j s.size [] from h2) h1
  rw [List.append_nil] at hr
  have hc : Corr s ⟨(autoL s al 0).toArray⟩ (al ++ []) 0 0 := by rw [List.append_nil]; exact ⟨Nat.zero_le _, by simp, hr⟩
  generalize (⟨(autoL s al 0).toArray⟩ : ByteArray) = t at *
  have hs := msg_mono (k' := 2 * s.size + 2 + (2 * t.size + 2)) (by omega) (lexR_some s 1)
  have ht := msg_mono (k' := 2 * s.size + 2 + (2 * t.size + 2)) (by omega) (lexR_some t 2)
  rw [h] at hs
  obtain ⟨j', ts', m1, m2, m3⟩ := (sims (s := s) (t := t) _).msg 0 (-1) (-1) 0 0 rfl j ts al [] hs h2 hc
  rw [ht] at m1
  exact ⟨j', ts', Option.some.inj m1, m3⟩

end Go.Proofs.YtcnhklcbibpjpaaGreatDoor
