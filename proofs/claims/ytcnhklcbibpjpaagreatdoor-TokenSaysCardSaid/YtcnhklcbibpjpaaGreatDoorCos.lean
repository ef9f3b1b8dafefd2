/- Quotes, texts and styles of the two texts. -/
import Derived.Test.YtcnhklcbibpjpaaGreatDoorCop
set_option linter.unusedVariables false
set_option linter.unusedSimpArgs false
namespace Go.Proofs.YtcnhklcbibpjpaaGreatDoor
open P

section
variable {s t : ByteArray}
theorem byte_eq {i i' : Nat} (h : i < s.size) (h' : i' < t.size) (e : b8 s i = b8 t i') : s[i]'h = t[i']'h' := by
  rw [b8_at s i h, b8_at t i' h'] at e
  exact UInt8.toNat_inj.1 e

theorem quoteE_sim {al : List Nat} {i : Nat} : ∀ {i' : Nat}, Corr s t al i i' → Rise s (quoteE s i).2 s.size al → (quoteE t i').1 = (quoteE s i).1 ∧ Corr s t al (quoteE s i).2 (quoteE t i').2 := by
  induction i using quoteE.induct s with
  | case1 i h h1 h2 ih =>
    intro i' hc hr
    have e : quoteE s i = (39 :: (quoteE s (i + 2)).1, (quoteE s (i + 2)).2) := by rw [quoteE, dif_pos h, if_pos h1, if_pos h2]
    rw [e] at hr ⊢
    have hg := quoteE_ge s (i + 2)
    simp only at hr ⊢
    have c1 := hc.move (j := i + 1) (by omega) (Rise.low (by omega) hr)
    have c2 := hc.move (j := i + 2) (by omega) (Rise.low (by omega) hr)
    rw [show i + 1 - i = 1 from by omega] at c1
    rw [show i + 2 - i = 2 from by omega] at c2
    have h' := hc.lt.1 h
    obtain ⟨k1, k2⟩ := ih c2 hr
    have e' : quoteE t i' = (39 :: (quoteE t (i' + 2)).1, (quoteE t (i' + 2)).2) := by rw [quoteE, dif_pos h', if_pos (by rw [← hc.b8]; exact h1), if_pos (by rw [← c1.b8]; exact h2)]
    rw [e']
    exact ⟨by simp only [k1], k2⟩
  | case2 i h h1 h2 =>
    intro i' hc hr
    have e : quoteE s i = ([], i + 1) := by rw [quoteE, dif_pos h, if_pos h1, if_neg h2]
    rw [e] at hr ⊢
    have c1 := hc.move (j := i + 1) (by omega) hr
    rw [show i + 1 - i = 1 from by omega] at c1
    have e' : quoteE t i' = ([], i' + 1) := by rw [quoteE, dif_pos (hc.lt.1 h), if_pos (by rw [← hc.b8]; exact h1), if_neg (by rw [← c1.b8]; exact h2)]
    rw [e']
    exact ⟨rfl, c1⟩
  | case3 i h h1 ih =>
    intro i' hc hr
    have e : quoteE s i = (s[i]'h :: (quoteE s (i + 1)).1, (quoteE s (i + 1)).2) := by rw [quoteE, dif_pos h, if_neg h1]
    rw [e] at hr ⊢
    have hg := quoteE_ge s (i + 1)
    simp only at hr ⊢
    have c1 := hc.move (j := i + 1) (by omega) (Rise.low (by omega) hr)
    rw [show i + 1 - i = 1 from by omega] at c1
    obtain ⟨k1, k2⟩ := ih c1 hr
    have e' : quoteE t i' = (t[i']'(hc.lt.1 h) :: (quoteE t (i' + 1)).1, (quoteE t (i' + 1)).2) := by rw [quoteE, dif_pos (hc.lt.1 h), if_neg (by rw [← hc.b8]; exact h1)]
    rw [e']
    exact ⟨by simp only [k1, byte_eq h (hc.lt.1 h) hc.b8], k2⟩
  | case4 i h =>
    intro i' hc hr
    have e : quoteE s i = ([], i) := by rw [quoteE, dif_neg h]
    have e' : quoteE t i' = ([], i') := by rw [quoteE, dif_neg (fun h' => h (hc.lt.2 h'))]
    rw [e, e']
    exact ⟨rfl, hc⟩

theorem aposE_sim (sort : Int) {al2 : List Nat} {i i' : Nat} (h : i < s.size) (h39 : b8 s i = 39) (hc : Corr s t ((aposE s 1 sort i).2.2 ++ al2) i i') (hr : Rise s (aposE s 1 sort i).2.1 s.size al2) :
    (aposE t 2 sort i').1 = (aposE s 1 sort i).1 ∧ (aposE t 2 sort i').2.2 = [] ∧ Corr s t al2 (aposE s 1 sort i).2.1 (aposE t 2 sort i').2.1 := by
  by_cases h1 : b8 s (i + 1) = 39
  · have e : aposE s 1 sort i = ([39], i + 2, []) := by rw [aposE, if_pos h1]
    rw [e] at hc hr ⊢
    have c1 := hc.move (j := i + 1) (by omega) (Rise.low (by simp) hr)
    have c2 := hc.move (j := i + 2) (by omega) hr
    rw [show i + 1 - i = 1 from by omega] at c1
    rw [show i + 2 - i = 2 from by omega] at c2
    have e' : aposE t 2 sort i' = ([39], i' + 2, []) := by rw [aposE, if_pos (by rw [← c1.b8]; exact h1)]
    rw [e']
    exact ⟨rfl, rfl, c2⟩
  · by_cases h2 : ((1 : Int) == 2 || (decide (i + 1 < s.size) && synB (b8 s (i + 1)) sort)) = true
    · have e : aposE s 1 sort i = ((quoteE s (i + 1)).1, (quoteE s (i + 1)).2, []) := by rw [aposE, if_neg h1, if_pos h2]
      rw [e] at hc hr ⊢
      have hg := quoteE_ge s (i + 1)
      simp only at hr ⊢
      have c1 := hc.move (j := i + 1) (by omega) (Rise.low (by omega) hr)
      rw [show i + 1 - i = 1 from by omega] at c1
      have e' : aposE t 2 sort i' = ((quoteE t (i' + 1)).1, (quoteE t (i' + 1)).2, []) := by rw [aposE, if_neg (by rw [← c1.b8]; exact h1), if_pos (by rfl)]
      rw [e']
      obtain ⟨k1, k2⟩ := quoteE_sim c1 hr
      exact ⟨k1, rfl, k2⟩
    · have e : aposE s 1 sort i = ([39], i + 1, [i]) := by rw [aposE, if_neg h1, if_neg h2]
      rw [e] at hc hr ⊢
      obtain ⟨a1, a2, a3, a4⟩ := hc.alone
      have e' : aposE t 2 sort i' = ([39], i' + 2, []) := by rw [aposE, if_pos a3]
      rw [e']
      exact ⟨rfl, rfl, a4⟩

theorem textE_sim (sort : Int) (outer : Bool) {i : Nat} : ∀ {i' : Nat} {al2 : List Nat}, Corr s t ((textE s 1 sort outer i).2.2 ++ al2) i i' → Rise s (textE s 1 sort outer i).2.1 s.size al2 →
    (textE t 2 sort outer i').1 = (textE s 1 sort outer i).1 ∧ (textE t 2 sort outer i').2.2 = [] ∧ Corr s t al2 (textE s 1 sort outer i).2.1 (textE t 2 sort outer i').2.1 := by
  induction i using textE.induct s 1 sort outer with
  | case1 i h h1 ih =>
    intro i' al2 hc hr
    have e : textE s 1 sort outer i = ((aposE s 1 sort i).1 ++ (textE s 1 sort outer (aposE s 1 sort i).2.1).1, (textE s 1 sort outer (aposE s 1 sort i).2.1).2.1, (aposE s 1 sort i).2.2 ++ (textE s 1 sort outer (aposE s 1 sort i).2.1).2.2) := by
      rw [textE, dif_pos h, if_pos h1]
    rw [e] at hc hr ⊢
    simp only [List.append_assoc] at hc hr ⊢
    obtain ⟨a1, a2, a3⟩ := aposE_sim sort h h1 hc (Rise.append hr (textE_rise s 1 sort outer _))
    obtain ⟨k1, k2, k3⟩ := ih a3 hr
    have e' : textE t 2 sort outer i' = ((aposE t 2 sort i').1 ++ (textE t 2 sort outer (aposE t 2 sort i').2.1).1, (textE t 2 sort outer (aposE t 2 sort i').2.1).2.1, (aposE t 2 sort i').2.2 ++ (textE t 2 sort outer (aposE t 2 sort i').2.1).2.2) := by
      rw [textE, dif_pos (hc.lt.1 h), if_pos (by rw [← hc.b8]; exact h1)]
    rw [e']
    exact ⟨by simp only [a1, k1], by simp only [a2, k2]; rfl, k3⟩
  | case2 i h h1 h2 =>
    intro i' al2 hc hr
    have e : textE s 1 sort outer i = ([], i, []) := by rw [textE, dif_pos h, if_neg h1, if_pos h2]
    rw [e] at hc hr ⊢
    have e' : textE t 2 sort outer i' = ([], i', []) := by rw [textE, dif_pos (hc.lt.1 h), if_neg (by rw [← hc.b8]; exact h1), if_pos (by rw [← hc.b8]; exact h2)]
    rw [e']
    exact ⟨rfl, rfl, hc⟩
  | case3 i h h1 h2 ih =>
    intro i' al2 hc hr
    have e : textE s 1 sort outer i = (s[i]'h :: (textE s 1 sort outer (i + 1)).1, (textE s 1 sort outer (i + 1)).2) := by rw [textE, dif_pos h, if_neg h1, if_neg h2]
    rw [e] at hc hr ⊢
    simp only at hc hr ⊢
    have c1 := hc.move (j := i + 1) (by omega) (Rise.append hr (textE_rise s 1 sort outer _))
    rw [show i + 1 - i = 1 from by omega] at c1
    obtain ⟨k1, k2, k3⟩ := ih c1 hr
    have e' : textE t 2 sort outer i' = (t[i']'(hc.lt.1 h) :: (textE t 2 sort outer (i' + 1)).1, (textE t 2 sort outer (i' + 1)).2) := by
      rw [textE, dif_pos (hc.lt.1 h), if_neg (by rw [← hc.b8]; exact h1), if_neg (by rw [← hc.b8]; exact h2)]
    rw [e']
    exact ⟨by simp only [k1, byte_eq h (hc.lt.1 h) hc.b8], k2, k3⟩
  | case4 i h =>
    intro i' al2 hc hr
    have e : textE s 1 sort outer i = ([], i, []) := by rw [textE, dif_neg h]
    rw [e] at hc hr ⊢
    have e' : textE t 2 sort outer i' = ([], i', []) := by rw [textE, dif_neg (fun h' => h (hc.lt.2 h'))]
    rw [e']
    exact ⟨rfl, rfl, hc⟩

theorem styleGo_ge (op : Int) (fr i o : Nat) : ∀ j ts al, styleGo s op fr i o = .ok j ts al → i < j ∧ al = [] := by
  induction i, o using styleGo.induct s fr with
  | case1 i o h h1 h2 => intro j ts al e; rw [styleGo, dif_pos h, if_pos h1, if_pos h2] at e; cases e
  | case2 i o h h1 h2 ih => intro j ts al e; rw [styleGo, dif_pos h, if_pos h1, if_neg h2] at e; have := ih _ _ _ e; exact ⟨by omega, this.2⟩
  | case3 i o h h1 h2 ih => intro j ts al e; rw [styleGo, dif_pos h, if_neg h1, if_pos h2] at e; have := ih _ _ _ e; exact ⟨by omega, this.2⟩
  | case4 i o h h1 h2 h3 h4 h5 => intro j ts al e; rw [styleGo, dif_pos h, if_neg h1, if_neg h2, if_pos h3, if_pos h4, if_pos h5] at e; exact absurd e (failR_nok _ _ _ _ _ _)
  | case5 i o h h1 h2 h3 h4 h5 =>
    intro j ts al e
    rw [styleGo, dif_pos h, if_neg h1, if_neg h2, if_pos h3, if_pos h4, if_neg h5] at e
    have := blanks_ge s i
    unfold mustR at e
    split at e
    · simp only [R.pre, R.ok.injEq] at e
      exact ⟨by omega, by rw [← e.2.2]; rfl⟩
    · unfold failR at e
      split at e <;> simp [R.pre] at e
  | case6 i o h h1 h2 h3 h4 ih => intro j ts al e; rw [styleGo, dif_pos h, if_neg h1, if_neg h2, if_pos h3, if_neg h4] at e; have := ih _ _ _ e; exact ⟨by omega, this.2⟩
  | case7 i o h h1 h2 h3 ih => intro j ts al e; rw [styleGo, dif_pos h, if_neg h1, if_neg h2, if_neg h3] at e; have := ih _ _ _ e; exact ⟨by omega, this.2⟩
  | case8 i o h => intro j ts al e; rw [styleGo, dif_neg h] at e; cases e

theorem b8_39 (u : ByteArray) (i k : Nat) : b8 u (i + k) = 39 ↔ (u.data.toList.drop i)[k]? = some 39 := by
  rw [b8_drop]
  cases hq : (u.data.toList.drop i)[k]? with
  | none => simp
  | some c =>
    simp only [Option.map_some, Option.getD_some, Option.some.injEq]
    constructor
    · intro e; exact UInt8.toNat_inj.1 e
    · intro e; rw [e]; rfl

theorem styleGo_sim (op op' : Int) (fr fr' : Nat) {al2 : List Nat} (hf : Corr s t al2 fr fr') (i o : Nat) : ∀ j ts al, fr ≤ i → styleGo s op fr i o = .ok j ts al → Rise s j s.size al2 →
    ∃ j' ts', styleGo t op' fr' (fr' + (i - fr)) o = .ok j' ts' [] ∧ Corr s t al2 j j' ∧ Sm ts ts' := by
  induction i, o using styleGo.induct s fr with
  | case1 i o h h1 h2 => intro j ts al hfi e hr; rw [styleGo, dif_pos h, if_pos h1, if_pos h2] at e; cases e
  | case2 i o h h1 h2 ih =>
    intro j ts al hfi e hr
    rw [styleGo, dif_pos h, if_pos h1, if_neg h2] at e
    have hj := (styleGo_ge _ _ _ _ _ _ _ e).1
    obtain ⟨d, hd⟩ : ∃ d : Nat, Lib.indexByte (s.data.toList.drop (i + 1)) 39 = d := ⟨(Lib.indexByte (s.data.toList.drop (i + 1)) 39).toNat, by omega⟩
    obtain ⟨q1, q2⟩ := Lib.indexByte_some hd
    have hi := hf.move hfi (Rise.low (by omega) hr)
    have hi1 := hf.move (j := i + 1) (by omega) (Rise.low (by omega) hr)
    rw [show fr' + (i + 1 - fr) = fr' + (i - fr) + 1 from by omega] at hi1
    have hdl : d < alike s al2 (i + 1) := by
      have := Rise.alike (i := i + 1) (j := i + 1 + d + 1) (Rise.low (by omega) hr) (by omega)
      omega
    obtain ⟨k1, k2⟩ := index_ag hi1.ag d hdl ((b8_39 _ _ _).2 q1) (fun k hk e => q2 k hk ((b8_39 _ _ _).1 e))
    obtain ⟨j', ts', m1, m2, m3⟩ := ih j ts al (by omega) e hr
    refine ⟨j', ts', ?_, m2, m3⟩
    rw [styleGo, dif_pos (hi.lt.1 h), if_pos (by rw [← hi.b8]; exact h1), if_neg (by rw [k2]; omega), k2]
    rw [k1] at m1
    rw [show fr' + (i + (d : Int).toNat + 2 - fr) = fr' + (i - fr) + (d : Int).toNat + 2 from by omega] at m1
    exact m1
  | case3 i o h h1 h2 ih =>
    intro j ts al hfi e hr
    rw [styleGo, dif_pos h, if_neg h1, if_pos h2] at e
    have hj := (styleGo_ge _ _ _ _ _ _ _ e).1
    have hi := hf.move hfi (Rise.low (by omega) hr)
    obtain ⟨j', ts', m1, m2, m3⟩ := ih j ts al (by omega) e hr
    refine ⟨j', ts', ?_, m2, m3⟩
    rw [styleGo, dif_pos (hi.lt.1 h), if_neg (by rw [← hi.b8]; exact h1), if_pos (by rw [← hi.b8]; exact h2)]
    rwa [show fr' + (i + 1 - fr) = fr' + (i - fr) + 1 from by omega] at m1
  | case4 i o h h1 h2 h3 h4 h5 => intro j ts al hfi e hr; rw [styleGo, dif_pos h, if_neg h1, if_neg h2, if_pos h3, if_pos h4, if_pos h5] at e; exact absurd e (failR_nok _ _ _ _ _ _)
  | case5 i o h h1 h2 h3 h4 h5 =>
    intro j ts al hfi e hr
    have hj := (styleGo_ge _ _ _ _ _ _ _ e).1
    rw [styleGo, dif_pos h, if_neg h1, if_neg h2, if_pos h3, if_pos h4, if_neg h5] at e
    have hi := hf.move hfi (Rise.low (by omega) hr)
    have ht := hf.text hfi hi.ri
    cases hm : mustR s 125 4 op i with
    | er a b => rw [hm] at e; cases e
    | ok j1 ts1 al1 =>
      rw [hm] at e
      simp only [R.pre, R.ok.injEq] at e
      obtain ⟨rfl, rfl, rfl⟩ := e
      have hal1 : al1 = [] := by
        unfold mustR at hm
        split at hm
        · simp only [R.ok.injEq] at hm; exact hm.2.2.symm
        · exact absurd hm (failR_nok _ _ _ _ _ _)
      subst hal1
      obtain ⟨j', ts', m1, m2, m3⟩ := mustR_sim 125 4 op op' i (fr' + (i - fr)) _ _ _ al2 hm hr hi
      refine ⟨j', (8, trimP (t.extract fr' (fr' + (i - fr))), (fr' : Int)) :: ts', ?_, m2, ?_⟩
      · rw [styleGo, dif_pos (hi.lt.1 h), if_neg (by rw [← hi.b8]; exact h1), if_neg (by rw [← hi.b8]; exact h2), if_pos (by rw [← hi.b8]; exact h3), if_pos h4, if_neg (by rw [← ht]; exact h5), m1]
        rfl
      · rw [ht]; exact Sm.app Sm.one m3
  | case6 i o h h1 h2 h3 h4 ih =>
    intro j ts al hfi e hr
    rw [styleGo, dif_pos h, if_neg h1, if_neg h2, if_pos h3, if_neg h4] at e
    have hj := (styleGo_ge _ _ _ _ _ _ _ e).1
    have hi := hf.move hfi (Rise.low (by omega) hr)
    obtain ⟨j', ts', m1, m2, m3⟩ := ih j ts al (by omega) e hr
    refine ⟨j', ts', ?_, m2, m3⟩
    rw [styleGo, dif_pos (hi.lt.1 h), if_neg (by rw [← hi.b8]; exact h1), if_neg (by rw [← hi.b8]; exact h2), if_pos (by rw [← hi.b8]; exact h3), if_neg h4]
    rwa [show fr' + (i + 1 - fr) = fr' + (i - fr) + 1 from by omega] at m1
  | case7 i o h h1 h2 h3 ih =>
    intro j ts al hfi e hr
    rw [styleGo, dif_pos h, if_neg h1, if_neg h2, if_neg h3] at e
    have hj := (styleGo_ge _ _ _ _ _ _ _ e).1
    have hi := hf.move hfi (Rise.low (by omega) hr)
    obtain ⟨j', ts', m1, m2, m3⟩ := ih j ts al (by omega) e hr
    refine ⟨j', ts', ?_, m2, m3⟩
    rw [styleGo, dif_pos (hi.lt.1 h), if_neg (by rw [← hi.b8]; exact h1), if_neg (by rw [← hi.b8]; exact h2), if_neg (by rw [← hi.b8]; exact h3)]
    rwa [show fr' + (i + 1 - fr) = fr' + (i - fr) + 1 from by omega] at m1
  | case8 i o h => intro j ts al hfi e hr; rw [styleGo, dif_neg h] at e; cases e

theorem styleR_sim (op op' : Int) (i i' : Nat) : SimR s t i i' (styleR s op i) (styleR t op' i') := by
  intro j ts al al2 e hr hc
  have hg := styleGo_ge _ _ _ _ _ _ _ e
  obtain rfl := hg.2
  have hb := Corr.blanks (al := [] ++ al2) hc (Rise.low (by omega) hr)
  obtain ⟨j', ts', m1, m2, m3⟩ := styleGo_sim op op' _ _ hb _ _ j ts [] (Nat.le_refl _) e hr
  refine ⟨j', ts', ?_, m2, m3⟩
  simpa [styleR] using m1

end
end Go.Proofs.YtcnhklcbibpjpaaGreatDoor
