/- Lemmas behind the laws of the tokens; no conditions. -/
import Derived.Test.YtcnhklcbibpjpaaGreatDoorZRgm
import Derived.Lib.DecodeN
set_option linter.unusedVariables false
set_option linter.unusedSimpArgs false

namespace Go.Proofs.YtcnhklcbibpjpaaGreatDoor
open P
def StyleEq (s : ByteArray) : Prop := ∀ (op : Int) (j : Nat) (ts : List Tk) (fs : List Fr) (al : List Nat), j ≤ s.size → (styleR s op j).mr ts fs al = match styM s op j ts fs al with | .er k a => .er k a | .ok j2 ts2 fs2 al2 => .ok (j2 + 1) (ts2 ++ [(4, (⟨#[]⟩ : ByteArray), ((j2 : Nat) : Int))]) fs2 al2
section
variable {s : ByteArray} {m : Int}
def RS (s : ByteArray) (m : Int) (r : R) (ts : List Tk) (fs : List Fr) (al : List Nat) (x : MR) : Prop :=
  match r with
  | .er k a => x = .er k a
  | .ok j ts1 al1 => if fs = [] then x = .ok j (ts ++ ts1) fs (al ++ al1) else RunsM s m (synM s j (ts ++ ts1) fs (al ++ al1)) x
theorem RS_pre {r : R} {ts ts1 : List Tk} {fs : List Fr} {al al1 : List Nat} {x : MR} (h : RS s m (R.pre ts1 al1 r) ts fs al x) : RS s m r (ts ++ ts1) fs (al ++ al1) x := by
  cases r with
  | er k a => exact h
  | ok j a b => simpa [RS, R.pre] using h
def Fit (fs : List Fr) (sort op : Int) : Prop := fs = [] ∧ sort = 0 ∧ op < 0 ∨ ∃ fs' f, fs = fs' ++ [f] ∧ f.1 = sort ∧ f.2.2.2.1 = true ∧ innerF f = op ∧ 0 ≤ op
structure Sims (s : ByteArray) (m : Int) (k : Nat) : Prop where
  msg : ∀ sort op i r ts fs al x, i ≤ s.size → msgF s m k sort op i = some r → Fit fs sort op → RS s m r ts fs al x → Runs s m i ts fs al x
  arg : ∀ i r ts fs al x, i < s.size → argF s m k i = some r → RunsM s m (r.mr ts fs al) x → RunsM s m (argM s i ts fs al) x
  typ : ∀ w op i r ts fs al x, 0 ≤ op → i ≤ s.size → typedF s m k w op i = some r → RunsM s m (r.mr ts fs al) x → RunsM s m (argM4 s op w (blanks s i) ts fs al) x
  cas : ∀ b op i r ts fs al x i' opn, i ≤ s.size → casesF s m k b op i = some r → blanks s i' = blanks s i → RunsM s m (r.mr ts fs al) x → Runs s m i' ts (fs ++ [(if b = true then 1 else 0, b, op, false, opn)]) al x
  cho : ∀ op i r ts fs al x i', 0 ≤ op → i ≤ s.size → choiceF s m k op i = some r → blanks s i' = blanks s i → RunsM s m (r.mr ts fs al) x → RunsM s m ((limF s op i').mr ts (fs ++ [(2, false, op, true, 0)]) al) x
theorem sim_msg (k : Nat) (ih : Sims s m k) : ∀ sort op i r ts fs al x, i ≤ s.size → msgF s m (k + 1) sort op i = some r → Fit fs sort op → RS s m r ts fs al x → Runs s m i ts fs al x := by
  intro sort op i r ts fs al x hi h hF hR
  have hs := textE_stop (s := s) (m := m) sort (decide (op < 0)) i hi
  rw [msgF] at h
  rcases hF with ⟨rfl, rfl, hop⟩ | ⟨fs', f, rfl, hfs, hfi, hin, hop⟩
  · have ho : decide (op < 0) = true := by simpa using hop
    rw [ho] at h hs
    have hM : msgM s m i ts [] al = .ok (textE s m 0 true i).2.1 (ts ++ tokL (textE s m 0 true i).1 i) [] (al ++ (textE s m 0 true i).2.2) := rfl
    generalize textE s m 0 true i = te at h hs hM
    obtain ⟨t1, p, a1⟩ := te
    simp only at h hs hM
    split at h
    · rename_i hp
      cases Option.some.inj h
      refine runs_top hM ?_
      rw [if_pos (by omega)]
      exact hR
    · rename_i hne
      rcases hs with hs | hs
      · exact absurd hs hne
      split at h
      · rename_i h123
        rw [Option.bind_eq_some_iff] at h
        obtain ⟨ra, hra, hrn⟩ := h
        rw [Option.map_eq_some_iff] at hrn
        obtain ⟨rb, hrb, rfl⟩ := hrn
        have hR := RS_pre hR
        refine runs_top hM ?_
        rw [if_neg (by omega), synM, if_pos h123]
        refine ih.arg _ _ _ _ _ _ hs.1 hra ?_
        cases ra with
        | er e a => rw [R.next_er hrb] at hR; exact hR
        | ok j t2 a2 =>
          obtain ⟨rc, hrc, rfl⟩ := R.next_ok hrb
          exact ih.msg _ _ _ _ _ _ _ _ ((withs k).arg _ _ hs.1 hra _ _ _ rfl).2 hrc (.inl ⟨rfl, rfl, hop⟩) (RS_pre hR)
      · split at h
        · rename_i h123 h35
          rw [Option.map_eq_some_iff] at h
          obtain ⟨rb, hrb, rfl⟩ := h
          have hR := RS_pre hR
          refine runs_top hM ?_
          rw [if_neg (by omega), synM, if_neg h123, if_pos h35]
          exact ih.msg _ _ _ _ _ _ _ _ (by omega) hrb (.inl ⟨rfl, rfl, hop⟩) (by simpa using hR)
        · rename_i h123 h35
          exfalso
          have h5 := hs.2.2
          have h6 := hs.2.1
          unfold synB at h6
          simp at h6 h5
          omega
  · have ho : decide (op < 0) = false := by simp; omega
    rw [ho] at h hs
    have hne0 : fs' ++ [f] ≠ [] := by simp
    have hM : msgM s m i ts (fs' ++ [f]) al = if (textE s m sort false i).2.1 = s.size then .er 190 op else .ok (textE s m sort false i).2.1 (ts ++ tokL (textE s m sort false i).1 i) (fs' ++ [f]) (al ++ (textE s m sort false i).2.2) := by
      rw [msgM]
      simp only [List.getLast?_append, List.getLast?_singleton, Option.some_or]
      rw [hfs, hin]
    have hF : Fit (fs' ++ [f]) sort op := .inr ⟨fs', f, rfl, hfs, hfi, hin, hop⟩
    generalize textE s m sort false i = te at h hs hM
    obtain ⟨t1, p, a1⟩ := te
    simp only at h hs hM
    refine runs_msg hfi ?_
    rw [hM]
    split at h
    · rename_i hp
      rw [if_neg (by omega)] at h
      cases Option.some.inj h
      rw [if_pos hp]
      rw [failR, if_pos (by omega)] at hR
      exact hR
    · rename_i hne
      rcases hs with hs | hs
      · exact absurd hs hne
      rw [if_neg hne]
      refine ⟨by omega, ?_⟩
      split at h
      · rename_i h123
        rw [Option.bind_eq_some_iff] at h
        obtain ⟨ra, hra, hrn⟩ := h
        rw [Option.map_eq_some_iff] at hrn
        obtain ⟨rb, hrb, rfl⟩ := hrn
        have hR := RS_pre hR
        rw [synM, if_pos h123]
        refine ih.arg _ _ _ _ _ _ hs.1 hra ?_
        cases ra with
        | er e a => rw [R.next_er hrb] at hR; exact hR
        | ok j t2 a2 =>
          obtain ⟨rc, hrc, rfl⟩ := R.next_ok hrb
          exact ih.msg _ _ _ _ _ _ _ _ ((withs k).arg _ _ hs.1 hra _ _ _ rfl).2 hrc hF (RS_pre hR)
      · split at h
        · rename_i h123 h35
          rw [Option.map_eq_some_iff] at h
          obtain ⟨rb, hrb, rfl⟩ := h
          have hR := RS_pre hR
          rw [synM, if_neg h123, if_pos h35]
          exact ih.msg _ _ _ _ _ _ _ _ (by omega) hrb hF (by simpa using hR)
        · cases Option.some.inj h
          simp only [RS] at hR
          rw [if_neg hne0] at hR
          exact hR
theorem sim_arg (k : Nat) (ih : Sims s m k) : ∀ i r ts fs al x, i < s.size → argF s m (k + 1) i = some r → RunsM s m (r.mr ts fs al) x → RunsM s m (argM s i ts fs al) x := by
  intro i r ts fs al x hi h hR
  have hb := blanks_bd s (i + 1) (by omega)
  have hb2 := wordEnd_bd s _ hb.2
  have hb3 := blanks_bd s _ hb2.2
  have hid := blanks_idem s (wordEnd s (blanks s (i + 1)))
  rw [argF] at h
  rw [argM]
  generalize wordAt s (blanks s (i + 1)) = nm at *
  generalize blanks s (wordEnd s (blanks s (i + 1))) = c at *
  generalize ((blanks s (i + 1) : Nat) : Int) = b1 at *
  split at h
  · rename_i h0
    cases Option.some.inj h
    rw [if_pos h0]
    exact hR
  · rename_i h0
    rw [if_neg h0]
    rw [Option.map_eq_some_iff] at h
    obtain ⟨rb, h4, rfl⟩ := h
    rw [mr_pre, List.append_nil] at hR
    have hte : ts ++ [(3, (⟨#[]⟩ : ByteArray), ((i : Nat) : Int))] ++ [(5, nm, b1)] = ts ++ [(3, (⟨#[]⟩ : ByteArray), (i : Int)), (5, nm, b1)] := by simp
    rw [hte]
    generalize ts ++ [(3, (⟨#[]⟩ : ByteArray), (i : Int)), (5, nm, b1)] = ts2 at *
    rw [argM2]
    split at h4
    · rename_i h125
      cases Option.some.inj h4
      rw [if_pos h125]
      rw [mustR, hid, if_pos h125] at hR
      simpa [R.mr] using hR
    · rename_i h125
      rw [if_neg h125]
      by_cases h44 : at1 s c 44 = true
      · rw [if_pos h44, argM3]
        rw [mustR, hid, if_pos h44] at h4
        obtain ⟨rc, h5, rfl⟩ := R.next_ok h4
        rw [mr_pre, List.append_nil] at hR
        generalize ts2 ++ [(6, (⟨#[]⟩ : ByteArray), (c : Int))] = ts3 at *
        have hlt := at1_lt _ _ _ h44
        have hb4 := blanks_bd s (c + 1) (by omega)
        have hb5 := letEnd_bd s _ hb4.2
        split at h5
        · rename_i hl
          cases Option.some.inj h5
          rw [if_pos hl]
          exact hR
        · rename_i hl
          rw [if_neg hl]
          rw [Option.map_eq_some_iff] at h5
          obtain ⟨rd, h6, rfl⟩ := h5
          rw [mr_pre, List.append_nil] at hR
          exact ih.typ _ _ _ _ _ _ _ _ (by omega) hb5.2 h6 hR
      · rw [if_neg h44]
        rw [mustR, hid, if_neg h44, failR_next] at h4
        cases Option.some.inj h4
        rw [failR_mr _ _ _ _ ts2 _ fs _ al]
        exact hR
theorem sim_typ (hS : StyleEq s) (k : Nat) (ih : Sims s m k) : ∀ w op i r ts fs al x, 0 ≤ op → i ≤ s.size → typedF s m (k + 1) w op i = some r → RunsM s m (r.mr ts fs al) x → RunsM s m (argM4 s op w (blanks s i) ts fs al) x := by
  intro w op i r ts fs al x hop hi h hR
  have hb := blanks_bd s i hi
  have hid := blanks_idem s i
  rw [typedF] at h
  rw [argM4]
  generalize blanks s i = c at *
  split at h
  · rename_i hw
    rw [if_pos hw, cplxM]
    by_cases h44 : at1 s c 44 = true
    · rw [if_pos h44]
      rw [mustR, hid, if_pos h44] at h
      obtain ⟨rc, h5, rfl⟩ := R.next_ok h
      rw [mr_pre, List.append_nil] at hR
      simp only [if_true]
      have hlt := at1_lt _ _ _ h44
      have hw := offsetR_within s op (c + 1) (by omega)
      cases ho : offsetR s op (c + 1) with
      | er k a => rw [ho] at h5; rw [R.next_er h5] at hR; exact hR
      | ok j2 t2 a2 =>
        rw [ho] at h5 hw
        have := offsetR_al ho
        subst this
        obtain ⟨rd, h6, rfl⟩ := R.next_ok h5
        rw [mr_pre, List.append_nil] at hR
        simp only [Bool.false_eq_true, if_false]
        exact ih.cas true op j2 rd _ _ _ _ j2 0 (hw _ _ _ rfl).2 h6 rfl hR
    · rw [if_neg h44]
      rw [mustR, hid, if_neg h44, failR_next] at h
      cases Option.some.inj h
      exact hR
  · rename_i hw
    rw [if_neg hw]
    split at h
    · rename_i hw2
      rw [if_pos hw2, cplxM]
      by_cases h44 : at1 s c 44 = true
      · rw [if_pos h44]
        rw [mustR, hid, if_pos h44] at h
        obtain ⟨rc, h5, rfl⟩ := R.next_ok h
        rw [mr_pre, List.append_nil] at hR
        have hlt := at1_lt _ _ _ h44
        simp only [Bool.false_eq_true, if_false, List.append_nil]
        exact ih.cas false op (c + 1) rc _ _ _ _ (blanks s (c + 1)) 0 (by omega) h5 (blanks_idem _ _) hR
      · rw [if_neg h44]
        rw [mustR, hid, if_neg h44, failR_next] at h
        cases Option.some.inj h
        exact hR
    · rename_i hw2
      rw [if_neg hw2]
      split at h
      · rename_i hw3
        rw [if_pos hw3, cplxM]
        by_cases h44 : at1 s c 44 = true
        · rw [if_pos h44]
          rw [mustR, hid, if_pos h44] at h
          obtain ⟨rc, h5, rfl⟩ := R.next_ok h
          rw [mr_pre, List.append_nil] at hR
          have hlt := at1_lt _ _ _ h44
          simp only [Bool.false_eq_true, if_false, if_true, List.append_nil]
          exact ih.cho op (c + 1) rc _ _ _ _ (blanks s (c + 1)) hop (by omega) h5 (blanks_idem _ _) hR
        · rw [if_neg h44]
          rw [mustR, hid, if_neg h44, failR_next] at h
          cases Option.some.inj h
          exact hR
      · rename_i hw3
        rw [if_neg hw3]
        split at h
        · rename_i h125
          cases Option.some.inj h
          rw [if_pos h125]
          rw [mustR, hid, if_pos h125] at hR
          simpa [R.mr] using hR
        · rename_i h125
          rw [if_neg h125]
          by_cases h44 : at1 s c 44 = true
          · rw [if_pos h44]
            rw [mustR, hid, if_pos h44] at h
            obtain ⟨rc, h5, rfl⟩ := R.next_ok h
            cases Option.some.inj h5
            rw [mr_pre, List.append_nil] at hR
            have hlt := at1_lt _ _ _ h44
            rw [hS _ _ _ _ _ (by omega)] at hR
            exact hR
          · rw [if_neg h44]
            rw [mustR, hid, if_neg h44, failR_next] at h
            cases Option.some.inj h
            rw [failR_mr _ _ _ _ ts _ fs _ al]
            exact hR
theorem gb8' (s : ByteArray) (i : Nat) : (s.get! i).toNat = b8 s i := by
  unfold b8
  split
  · rename_i h
    rw [show s.get! i = s[i]'h from by
      show s.data[i]! = s.data[i]'h
      rw [getElem!_pos]]
  · rename_i h
    show (s.data[i]!).toNat = 0
    rw [getElem!_neg _ _ (by simpa using h)]
    rfl
theorem blanks_125' {T : ByteArray} {i : Nat} (h : i < T.size) (hb : b8 T i = 125) : blanks T i = i := by
  have hd : Utf8.decode T i = (125, 1) := by
    rw [Lib.decode_at, gb8', hb]
    unfold Lib.decodeN
    rw [if_pos (by omega)]
  rw [blanks, dif_pos h, hd, if_neg (by decide)]
theorem mustR_125' (op : Int) {i : Nat} (h : i < s.size) (hb : b8 s i = 125) : mustR s 125 4 op i = .ok (i + 1) [(4, ⟨#[]⟩, (i : Int))] [] := by
  rw [mustR, blanks_125' h hb, if_pos (by simp [at1, h, hb])]
theorem sim_cas (k : Nat) (ih : Sims s m k) : ∀ b op i r ts fs al x i' opn, i ≤ s.size → casesF s m (k + 1) b op i = some r → blanks s i' = blanks s i → RunsM s m (r.mr ts fs al) x → Runs s m i' ts (fs ++ [(if b = true then 1 else 0, b, op, false, opn)]) al x := by
  intro b op i r ts fs al x i' opn hi h hi' hR
  have hb := blanks_bd s i hi
  have hid := blanks_idem s i
  refine runs_key rfl ?_
  rw [keyM, hi']
  rw [casesF] at h
  generalize blanks s i = c at *
  simp only
  split at h
  · rename_i h125
    cases Option.some.inj h
    rw [if_pos h125]
    rw [mustR, hid, if_pos h125] at hR
    simpa [R.mr] using hR
  · rename_i h125
    rw [if_neg h125]
    split at h
    · rename_i hc
      cases Option.some.inj h
      rw [keyR_end b op c (by omega)]
      obtain ⟨kk, aa, hf⟩ := failR_cases s c op
      rw [hf] at hR ⊢
      exact hR
    · cases hk : keyR s b op c with
      | er kk aa => rw [hk] at h; rw [R.next_er h] at hR; exact hR
      | ok j t1 a1 =>
        have hkw := keyR_within s b op c hb.2
        rw [hk] at h hkw
        have := keyR_al hk
        subst this
        obtain ⟨rb, h2, rfl⟩ := R.next_ok h
        rw [mr_pre, List.append_nil] at hR
        have hj := (hkw _ _ _ rfl).2
        have hmw := mustR_within s 123 3 op j hj
        rw [mustR_idem] at h2
        simp only
        cases hm : mustR s 123 3 op j with
        | er kk aa => rw [hm] at h2; rw [R.next_er h2] at hR; exact hR
        | ok j2 t2 a2 =>
          rw [hm] at h2 hmw
          have ha2 : a2 = [] := by
            unfold mustR at hm
            split at hm
            · cases hm; rfl
            · exact absurd hm (failR_ne _ _ _ _ _ _)
          subst ha2
          obtain ⟨rc, h3, rfl⟩ := R.next_ok h2
          rw [mr_pre, List.append_nil] at hR
          have hj2 := (hmw _ _ _ rfl).2
          rw [Option.bind_eq_some_iff] at h3
          obtain ⟨ra, h7, h8⟩ := h3
          simp only [R.mr, List.append_nil]
          refine ih.msg _ _ _ _ _ _ _ _ hj2 h7 (.inr ⟨_, _, rfl, rfl, rfl, ?_, by omega⟩) ?_
          · cases b <;> rfl
          · cases ra with
            | er e a => rw [R.next_er h8] at hR; exact hR
            | ok j3 t3 a3 =>
              have hst := msg_stop (by omega) hj2 h7
              obtain ⟨rd, h9, rfl⟩ := R.next_ok h8
              rw [mr_pre] at hR
              have h125 : b8 s j3 = 125 := by
                have := hst.2.2.2
                unfold synB at this
                cases b <;> simp at this <;> omega
              rw [mustR_125' _ hst.1 h125] at h9
              obtain ⟨re, h10, rfl⟩ := R.next_ok h9
              rw [mr_pre, List.append_nil] at hR
              simp only [RS]
              rw [if_neg (by simp), synM, if_neg (by omega), if_neg (by omega)]
              simp only [List.getLast?_append, List.getLast?_singleton, Option.some_or, List.dropLast_concat]
              rw [if_neg (by omega), if_neg (by cases b <;> simp)]
              exact ih.cas _ _ _ _ _ _ _ _ _ (-1) (by omega) h10 rfl hR
theorem sim_cho (k : Nat) (ih : Sims s m k) : ∀ op i r ts fs al x i', 0 ≤ op → i ≤ s.size → choiceF s m (k + 1) op i = some r → blanks s i' = blanks s i → RunsM s m (r.mr ts fs al) x → RunsM s m ((limF s op i').mr ts (fs ++ [(2, false, op, true, 0)]) al) x := by
  intro op i r ts fs al x i' hop hi h hi' hR
  have hb := blanks_bd s i hi
  rw [limF, hi']
  rw [choiceF] at h
  have hl := limR_within s op (blanks s i) hb.2
  generalize blanks s i = c at *
  split at h
  · rename_i hok
    rw [if_pos hok]
    have h' : (limR s op c).next (fun j => (msgF s m k 2 op j).bind fun r => r.next fun j2 => if at1 s j2 125 = true then some (mustR s 125 4 op j2) else (choiceF s m k op (j2 + 1)).map (R.pre [(12, ⟨#[]⟩, (j2 : Int))] [])) = some r := h
    clear h
    have hal : ∀ j t1 a1, limR s op c = .ok j t1 a1 → a1 = [] := by
      intro j t1 a1 e
      unfold limR at e
      split at e
      · cases e; rfl
      · split at e
        · cases e; rfl
        · split at e
          · cases e; rfl
          · exact absurd e (failR_ne _ _ _ _ _ _)
    cases hL : limR s op c with
    | er kk aa => rw [hL] at h'; rw [R.next_er h'] at hR; exact hR
    | ok j t1 a1 =>
      have := hal _ _ _ hL
      subst this
      rw [hL] at h' hl
      obtain ⟨rb, h3, rfl⟩ := R.next_ok h'
      rw [mr_pre] at hR
      have hj := (hl _ _ _ rfl).2
      rw [Option.bind_eq_some_iff] at h3
      obtain ⟨ra, h7, h8⟩ := h3
      simp only [R.mr]
      refine ih.msg _ _ _ _ _ _ _ _ hj h7 (.inr ⟨_, _, rfl, rfl, rfl, rfl, hop⟩) ?_
      cases ra with
      | er e a => rw [R.next_er h8] at hR; exact hR
      | ok j2 t2 a2 =>
        have hst := msg_stop hop hj h7
        obtain ⟨rc, h9, rfl⟩ := R.next_ok h8
        rw [mr_pre] at hR
        simp only [RS]
        rw [if_neg (by simp), synM, if_neg (by omega), if_neg (by omega)]
        simp only [List.getLast?_append, List.getLast?_singleton, Option.some_or, List.dropLast_concat]
        split at h9
        · rename_i h125
          have h125' : b8 s j2 = 125 := by unfold at1 at h125; simp at h125; exact h125.2
          rw [if_neg (by omega), if_pos trivial]
          rw [mustR_125' _ hst.1 h125'] at h9
          cases Option.some.inj h9
          simpa [R.mr] using hR
        · rename_i h125
          have h124 : b8 s j2 = 124 := by
            have h1 := hst.2.2.2
            have h2 : b8 s j2 ≠ 125 := fun e => h125 (by simp [at1, hst.1, e])
            unfold synB at h1
            simp at h1
            omega
          rw [if_pos h124]
          rw [Option.map_eq_some_iff] at h9
          obtain ⟨rd, h10, rfl⟩ := h9
          rw [mr_pre, List.append_nil] at hR
          exact ih.cho _ _ _ _ _ _ _ _ hop (by omega) h10 rfl hR
  · rename_i hok
    rw [if_neg hok]
    cases Option.some.inj h
    rw [failR_mr _ _ _ _ ts _ fs _ al]
    exact hR
theorem sims (hS : StyleEq s) : ∀ k, Sims s m k := by
  intro k
  induction k with
  | zero =>
    refine ⟨?_, ?_, ?_, ?_, ?_⟩
    · intro sort op i r ts fs al x _ h; simp [msgF] at h
    · intro i r ts fs al x _ h; simp [argF] at h
    · intro w op i r ts fs al x _ _ h; simp [typedF] at h
    · intro b op i r ts fs al x i' opn _ h; simp [casesF] at h
    · intro op i r ts fs al x i' _ _ h; simp [choiceF] at h
  | succ k ih => exact ⟨sim_msg k ih, sim_arg k ih, sim_typ hS k ih, sim_cas k ih, sim_cho k ih⟩
def lexM (s : ByteArray) (m : Int) : MR :=
  match lexR s m with
  | .er k a => .er k a
  | .ok j ts al => .ok j ts [] al
theorem lex_runs (hS : StyleEq s) : Runs s m 0 [] [] [] (lexM s m) := by
  refine (sims hS _).msg 0 (-1) 0 _ _ _ _ _ (Nat.zero_le _) (lexR_some s m) (.inl ⟨rfl, rfl, by decide⟩) ?_
  unfold lexM
  cases lexR s m with
  | er k a => rfl
  | ok j ts al => simp [RS]
end
end Go.Proofs.YtcnhklcbibpjpaaGreatDoor
