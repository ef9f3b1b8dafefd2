/- How many parts a message has, how deep it is: what the counting functions tell, in plain Lean. -/
import Derived.Test.YtcpglgoiienhkaaGreatDoorZPMsgx3
import Derived.Test.YtcpglgoiienhkaaGreatDoorZPMsgx4
set_option linter.unusedVariables false
set_option linter.unusedSimpArgs false

namespace Go.Proofs.YtcpglgoiienhkaaGreatDoor
open Go.RowKit Go.Proofs.YtcpglgoiienhkaaGreatDoorW.PrintWords
mutual
def tL : List PMsg.S42 → Nat
  | [] => 0
  | p :: r => tP p + tL r
def tP : PMsg.S42 → Nat
  | ⟨_, _, _, _, _, _, cs⟩ => 1 + tC cs
def tC : List PMsg.S47 → Nat
  | [] => 0
  | c :: r => tK c + tC r
def tK : PMsg.S47 → Nat
  | ⟨_, _, m⟩ => tM m
def tM : PMsg.S24 → Nat
  | ⟨ps⟩ => tL ps
end
mutual
def dL : List PMsg.S42 → Nat
  | [] => 0
  | p :: r => max (dP p) (dL r)
def dP : PMsg.S42 → Nat
  | ⟨_, _, _, _, _, _, cs⟩ => dC cs
def dC : List PMsg.S47 → Nat
  | [] => 0
  | c :: r => max (dK c) (dC r)
def dK : PMsg.S47 → Nat
  | ⟨_, _, m⟩ => dM m
def dM : PMsg.S24 → Nat
  | ⟨ps⟩ => 1 + dL ps
end
theorem tP_eq (p : PMsg.S42) : tP p = 1 + tC p.f6 := by cases p; simp [tP]
theorem tK_eq (c : PMsg.S47) : tK c = tL c.f2.f0 := by obtain ⟨_, _, ⟨ps⟩⟩ := c; simp [tK, tM]
theorem dP_eq (p : PMsg.S42) : dP p = dC p.f6 := by cases p; simp [dP]
theorem dK_eq (c : PMsg.S47) : dK c = 1 + dL c.f2.f0 := by obtain ⟨_, _, ⟨ps⟩⟩ := c; simp [dK, dM]
theorem tL_cons (p : PMsg.S42) (r : List PMsg.S42) : tL (p :: r) = 1 + tC p.f6 + tL r := by rw [tL, tP_eq]
theorem tC_cons (c : PMsg.S47) (r : List PMsg.S47) : tC (c :: r) = tL c.f2.f0 + tC r := by rw [tC, tK_eq]
theorem dL_cons (p : PMsg.S42) (r : List PMsg.S42) : dL (p :: r) = max (dC p.f6) (dL r) := by rw [dL, dP_eq]
theorem dC_cons (c : PMsg.S47) (r : List PMsg.S47) : dC (c :: r) = max (1 + dL c.f2.f0) (dC r) := by rw [dC, dK_eq]
theorem tC_le : ∀ {cs : List PMsg.S47} {c : PMsg.S47}, c ∈ cs → tL c.f2.f0 ≤ tC cs
  | d :: r, c, h => by
    rw [tC_cons]
    rcases List.mem_cons.1 h with rfl | h
    · omega
    · have := tC_le h
      omega
theorem tL_le : ∀ {ps : List PMsg.S42} {p : PMsg.S42}, p ∈ ps → tC p.f6 < tL ps
  | d :: r, c, h => by
    rw [tL_cons]
    rcases List.mem_cons.1 h with rfl | h
    · omega
    · have := tL_le h
      omega
inductive OkT : List PMsg.S42 → Prop where
  | mk (ps : List PMsg.S42) (h : ps.length ≤ 9223372036854775807) (hc : ∀ p, p ∈ ps → p.f6.length ≤ 9223372036854775807) (hk : ∀ p, p ∈ ps → ∀ c, c ∈ p.f6 → OkT c.f2.f0) : OkT ps
theorem OkT.len {ps : List PMsg.S42} (h : OkT ps) : ps.length ≤ 9223372036854775807 := by cases h; assumption
theorem OkT.cases_ {ps : List PMsg.S42} (h : OkT ps) {p : PMsg.S42} (hp : p ∈ ps) : p.f6.length ≤ 9223372036854775807 := by cases h with | mk _ h hc hk => exact hc p hp
theorem OkT.sub {ps : List PMsg.S42} (h : OkT ps) {p : PMsg.S42} (hp : p ∈ ps) {c : PMsg.S47} (hc : c ∈ p.f6) : OkT c.f2.f0 := by cases h with | mk _ h hc' hk => exact hk p hp c hc
theorem okT_of : ∀ (n : Nat) (ps : List PMsg.S42), tL ps ≤ n → ∀ {w : World} {A : Option Addr} {m : Nat}, Kd.C PMsg.k42 w A m ps → OkT ps := by
  intro n
  induction n with
  | zero =>
    intro ps hn w A m h
    cases ps with
    | nil => exact ⟨_, by simp, (fun p hp => nomatch hp), (fun p hp => nomatch hp)⟩
    | cons p r => rw [tL_cons] at hn; omega
  | succ n ih =>
    intro ps hn w A m h
    have hm := Kd.C_max h
    have hl := Kd.C_len h
    have part : ∀ p, p ∈ ps → ∃ A6, Kd.C PMsg.k47 w A6 p.f6.length p.f6 := by
      intro p hp
      obtain ⟨i, hi, rfl⟩ := List.getElem_of_mem hp
      obtain ⟨ad, A6, c6, _, _, _, _, _, _, _, _, _, h6⟩ := PMsg.at_T42 h (i : Int) (by omega) (by omega)
      have : PMsg.rd_T42 ps (i : Int) = ps[i] := by unfold PMsg.rd_T42; simp [hi]
      rw [this] at h6
      exact ⟨A6, h6⟩
    refine ⟨_, by omega, fun p hp => ?_, fun p hp c hc => ?_⟩
    · obtain ⟨A6, h6⟩ := part p hp
      exact Kd.C_max h6
    · obtain ⟨A6, h6⟩ := part p hp
      obtain ⟨i, hi, rfl⟩ := List.getElem_of_mem hc
      obtain ⟨ad, A2, c2, _, _, _, _, _, h2⟩ := PMsg.at_T47 h6 (i : Int) (by omega) (by omega)
      have e : PMsg.rd_T47 p.f6 (i : Int) = p.f6[i] := by unfold PMsg.rd_T47; simp [hi]
      rw [e] at h2
      refine ih _ ?_ h2
      have h3 := tL_le hp
      have h4 := tC_le hc
      omega
theorem wrap_next {i : Nat} (h : i < 9223372036854775807) : wrap64 ((i : Int) + 1) = ((i + 1 : Nat) : Int) := by unfold wrap64; omega
theorem rdp {ps : List PMsg.S42} {i : Nat} (h : i < ps.length) : PMsg.rd_T42 ps (i : Int) = ps[i] := by unfold PMsg.rd_T42; simp [h]
theorem rdc {cs : List PMsg.S47} {i : Nat} (h : i < cs.length) : PMsg.rd_T47 cs (i : Int) = cs[i] := by unfold PMsg.rd_T47; simp [h]
theorem counted_l1 (ps : List PMsg.S42) (n : Int) (i : Nat) (cs : List PMsg.S47) (hlen : cs.length ≤ 9223372036854775807)
    (hsub : ∀ c, c ∈ cs → ∀ had : Nat, had ≤ 4096 → Ev (fun k => PMsg.tree_counted.f k c.f2.f0 (had : Int)) ((min (had + tL c.f2.f0) 4097 : Nat) : Int)) {r : Int} :
    ∀ (d j : Nat), j + d = cs.length → ∀ had : Nat, had ≤ 4096 →
      (had + tC (cs.drop j) ≤ 4096 → Ev (fun k => PMsg.tree_counted.l0 k ((had + tC (cs.drop j) : Nat) : Int) ps n (wrap64 ((i : Int) + 1))) r) → (4096 < had + tC (cs.drop j) → r = 4097) →
      Ev (fun k => PMsg.tree_counted.l1 k (had : Int) ps n (i : Int) cs (cs.length : Int) (j : Int)) r := by
  intro d
  induction d with
  | zero =>
    intro j hj had hh h1 h2
    have hd : cs.drop j = [] := List.drop_eq_nil_of_le (by omega)
    rw [hd] at h1
    simp only [tC, Nat.add_zero] at h1
    refine Ev.step (fun k => ?_) (h1 hh)
    rw [PMsg.tree_counted.l1, if_neg (by omega)]
  | succ d ih =>
    intro j hj had hh h1 h2
    have hlt : j < cs.length := by omega
    have hd : cs.drop j = cs[j] :: cs.drop (j + 1) := List.drop_eq_getElem_cons hlt
    rw [hd, tC_cons] at h1 h2
    have hs := hsub cs[j] (List.getElem_mem hlt) had hh
    by_cases hov : had + tL cs[j].f2.f0 ≤ 4096
    · rw [Nat.min_eq_left (by omega)] at hs
      have ih2 := ih (j + 1) (by omega) (had + tL cs[j].f2.f0) hov (fun h => by rw [show had + tL cs[j].f2.f0 + tC (cs.drop (j + 1)) = had + (tL cs[j].f2.f0 + tC (cs.drop (j + 1))) by omega]; exact h1 (by omega)) (fun h => h2 (by omega))
      refine Ev.step (fun k => ?_) (Ev.bind hs (f := fun k t => if t > 4096 then some t else PMsg.tree_counted.l1 k t ps n (i : Int) cs (cs.length : Int) (wrap64 ((j : Int) + 1))) ?_)
      · rw [PMsg.tree_counted.l1, if_pos (by omega), if_pos (by omega), if_pos (by omega), rdc hlt]
      · rw [wrap_next (by omega)]
        refine Ev.congr (fun k => ?_) ih2
        rw [if_neg (by omega)]
    · rw [Nat.min_eq_right (by omega)] at hs
      have hr := h2 (by omega)
      subst hr
      refine Ev.step (fun k => ?_) (Ev.bind hs (f := fun k t => if t > 4096 then some t else PMsg.tree_counted.l1 k t ps n (i : Int) cs (cs.length : Int) (wrap64 ((j : Int) + 1))) ?_)
      · rw [PMsg.tree_counted.l1, if_pos (by omega), if_pos (by omega), if_pos (by omega), rdc hlt]
      · exact Ev.now _
theorem counted_l0 (ps : List PMsg.S42) (hok : OkT ps)
    (hsub : ∀ p, p ∈ ps → ∀ c, c ∈ p.f6 → ∀ had : Nat, had ≤ 4096 → Ev (fun k => PMsg.tree_counted.f k c.f2.f0 (had : Int)) ((min (had + tL c.f2.f0) 4097 : Nat) : Int)) :
    ∀ (d i : Nat), i + d = ps.length → ∀ had : Nat, had ≤ 4096 → Ev (fun k => PMsg.tree_counted.l0 k (had : Int) ps (ps.length : Int) (i : Int)) ((min (had + tL (ps.drop i)) 4097 : Nat) : Int) := by
  have hlen := hok.len
  intro d
  induction d with
  | zero =>
    intro i hi had hh
    have hd : ps.drop i = [] := List.drop_eq_nil_of_le (by omega)
    rw [hd]
    simp only [tL, Nat.add_zero]
    rw [Nat.min_eq_left (by omega)]
    refine Ev.step (fun k => ?_) (Ev.now _)
    rw [PMsg.tree_counted.l0, if_neg (by omega)]
  | succ d ih =>
    intro i hi had hh
    have hlt : i < ps.length := by omega
    have hd : ps.drop i = ps[i] :: ps.drop (i + 1) := List.drop_eq_getElem_cons hlt
    have hm := List.getElem_mem hlt
    rw [hd, tL_cons]
    have hw : wrap64 ((had : Int) + 1) = ((had + 1 : Nat) : Int) := wrap_next (by omega)
    by_cases h96 : had = 4096
    · rw [Nat.min_eq_right (by omega)]
      refine Ev.step (fun k => ?_) (Ev.now _)
      rw [PMsg.tree_counted.l0, if_pos (by omega), if_pos (by omega), if_pos (by omega), hw, if_pos (by omega), h96]
    · refine Ev.step (f := fun k => PMsg.tree_counted.l1 k ((had + 1 : Nat) : Int) ps (ps.length : Int) (i : Int) ps[i].f6 (ps[i].f6.length : Int) ((0 : Nat) : Int)) (fun k => ?_) ?_
      · rw [PMsg.tree_counted.l0, if_pos (by omega), if_pos (by omega), if_pos (by omega), hw, if_neg (by omega), rdp hlt]
        rfl
      · refine counted_l1 ps _ i ps[i].f6 (hok.cases_ hm) (fun c hc => hsub _ hm c hc) ps[i].f6.length 0 (by omega) (had + 1) (by omega) (fun h => ?_) (fun h => ?_)
        · rw [List.drop_zero] at h ⊢
          rw [wrap_next (by omega)]
          have := ih (i + 1) (by omega) (had + 1 + tC ps[i].f6) h
          rw [show had + (1 + tC ps[i].f6 + tL (ps.drop (i + 1))) = had + 1 + tC ps[i].f6 + tL (ps.drop (i + 1)) by omega]
          exact this
        · rw [List.drop_zero] at h
          rw [Nat.min_eq_right (by omega)]
          rfl
theorem counted_f : ∀ (n : Nat) (ps : List PMsg.S42), tL ps ≤ n → OkT ps → ∀ had : Nat, had ≤ 4096 → Ev (fun k => PMsg.tree_counted.f k ps (had : Int)) ((min (had + tL ps) 4097 : Nat) : Int) := by
  intro n
  induction n with
  | zero =>
    intro ps hn hok had hh
    refine Ev.step (f := fun k => PMsg.tree_counted.l0 k (had : Int) ps (ps.length : Int) ((0 : Nat) : Int)) (fun k => by rw [PMsg.tree_counted.f]; rfl) ?_
    have := counted_l0 ps hok (fun p hp c hc => by have := tL_le hp; omega) ps.length 0 (by omega) had hh
    rwa [List.drop_zero] at this
  | succ n ih =>
    intro ps hn hok had hh
    refine Ev.step (f := fun k => PMsg.tree_counted.l0 k (had : Int) ps (ps.length : Int) ((0 : Nat) : Int)) (fun k => by rw [PMsg.tree_counted.f]; rfl) ?_
    have := counted_l0 ps hok (fun p hp c hc had hh => ih _ (by have := tL_le hp; have := tC_le hc; omega) (hok.sub hp hc) had hh) ps.length 0 (by omega) had hh
    rwa [List.drop_zero] at this
theorem count_f (ps : List PMsg.S42) (hok : OkT ps) : Ev (fun k => PMsg.tree_Count.f k ps) ((min (tL ps) 4097 : Nat) : Int) := by
  have h := counted_f _ ps (Nat.le_refl _) hok 0 (Nat.zero_le _)
  rw [Nat.zero_add] at h
  exact Ev.bind (f := fun k t => some t) h (Ev.now _)
theorem mx_nat (a b : Nat) : mx (a : Int) (b : Int) = ((max a b : Nat) : Int) := by unfold mx; split <;> omega
theorem deep_l1 (ps : List PMsg.S42) (n : Int) (i : Nat) (at_ : Nat) (hat : at_ ≤ 33) (cs : List PMsg.S47) (hlen : cs.length ≤ 9223372036854775807)
    (hsub : ∀ c, c ∈ cs → ∀ a : Nat, a ≤ 33 → Ev (fun k => PMsg.tree_deep.f k c.f2.f0 (a : Int)) ((min (a + dL c.f2.f0) 33 : Nat) : Int)) {r : Int} :
    ∀ (d j : Nat), j + d = cs.length → ∀ most : Nat, at_ ≤ most → most ≤ 33 →
      (Ev (fun k => PMsg.tree_deep.l0 k (at_ : Int) ((min (max most (at_ + dC (cs.drop j))) 33 : Nat) : Int) ps n (wrap64 ((i : Int) + 1))) r) → (33 ≤ max most (at_ + dC (cs.drop j)) → r = 33) →
      Ev (fun k => PMsg.tree_deep.l1 k (at_ : Int) (most : Int) ps n (i : Int) cs (cs.length : Int) (j : Int)) r := by
  intro d
  induction d with
  | zero =>
    intro j hj most hm1 hm2 h1 h2
    have hd : cs.drop j = [] := List.drop_eq_nil_of_le (by omega)
    rw [hd] at h1
    simp only [dC, Nat.add_zero] at h1
    rw [Nat.max_eq_left hm1, Nat.min_eq_left hm2] at h1
    refine Ev.step (fun k => ?_) h1
    rw [PMsg.tree_deep.l1, if_neg (by omega)]
  | succ d ih =>
    intro j hj most hm1 hm2 h1 h2
    have hlt : j < cs.length := by omega
    have hd : cs.drop j = cs[j] :: cs.drop (j + 1) := List.drop_eq_getElem_cons hlt
    rw [hd, dC_cons] at h1 h2
    by_cases h32 : at_ ≤ 32 ∧ most ≤ 32
    · have hs := hsub cs[j] (List.getElem_mem hlt) (at_ + 1) (by omega)
      have hw : wrap64 ((at_ : Int) + 1) = ((at_ + 1 : Nat) : Int) := wrap_next (by omega)
      have ih2 := ih (j + 1) (by omega) (max most (min (at_ + 1 + dL cs[j].f2.f0) 33)) (by omega) (by omega) (by
        have e : min (max (max most (min (at_ + 1 + dL cs[j].f2.f0) 33)) (at_ + dC (cs.drop (j + 1)))) 33 = min (max most (at_ + max (1 + dL cs[j].f2.f0) (dC (cs.drop (j + 1))))) 33 := by omega
        rw [e]; exact h1) (fun h => h2 (by omega))
      refine Ev.step (fun k => ?_) (Ev.bind hs (f := fun k t => PMsg.tree_deep.l1 k (at_ : Int) (mx (most : Int) t) ps n (i : Int) cs (cs.length : Int) (wrap64 ((j : Int) + 1))) ?_)
      · rw [PMsg.tree_deep.l1, if_pos (by omega), if_pos (by omega), if_pos (by omega), if_neg (by omega), if_neg (by omega), rdc hlt, hw]
      · rw [wrap_next (by omega), mx_nat]
        exact ih2
    · have hr := h2 (by omega)
      subst hr
      refine Ev.step (fun k => ?_) (Ev.now _)
      rw [PMsg.tree_deep.l1, if_pos (by omega), if_pos (by omega), if_pos (by omega)]
      by_cases h1' : (at_ : Int) > 32
      · rw [if_pos h1']
      · rw [if_neg h1', if_pos (by omega)]
theorem deep_l0 (ps : List PMsg.S42) (hok : OkT ps) (at_ : Nat) (hat : at_ ≤ 33)
    (hsub : ∀ p, p ∈ ps → ∀ c, c ∈ p.f6 → ∀ a : Nat, a ≤ 33 → Ev (fun k => PMsg.tree_deep.f k c.f2.f0 (a : Int)) ((min (a + dL c.f2.f0) 33 : Nat) : Int)) :
    ∀ (d i : Nat), i + d = ps.length → ∀ most : Nat, at_ ≤ most → most ≤ 33 → Ev (fun k => PMsg.tree_deep.l0 k (at_ : Int) (most : Int) ps (ps.length : Int) (i : Int)) ((min (max most (at_ + dL (ps.drop i))) 33 : Nat) : Int) := by
  have hlen := hok.len
  intro d
  induction d with
  | zero =>
    intro i hi most hm1 hm2
    have hd : ps.drop i = [] := List.drop_eq_nil_of_le (by omega)
    rw [hd]
    simp only [dL, Nat.add_zero]
    rw [Nat.max_eq_left hm1, Nat.min_eq_left hm2]
    refine Ev.step (fun k => ?_) (Ev.now _)
    rw [PMsg.tree_deep.l0, if_neg (by omega)]
  | succ d ih =>
    intro i hi most hm1 hm2
    have hlt : i < ps.length := by omega
    have hd : ps.drop i = ps[i] :: ps.drop (i + 1) := List.drop_eq_getElem_cons hlt
    have hm := List.getElem_mem hlt
    rw [hd, dL_cons]
    refine Ev.step (f := fun k => PMsg.tree_deep.l1 k (at_ : Int) (most : Int) ps (ps.length : Int) (i : Int) ps[i].f6 (ps[i].f6.length : Int) ((0 : Nat) : Int)) (fun k => ?_) ?_
    · rw [PMsg.tree_deep.l0, if_pos (by omega), if_pos (by omega), if_pos (by omega), rdp hlt]
      rfl
    · refine deep_l1 ps _ i at_ hat ps[i].f6 (hok.cases_ hm) (fun c hc => hsub _ hm c hc) ps[i].f6.length 0 (by omega) most hm1 hm2 ?_ (fun h => ?_)
      · rw [List.drop_zero, wrap_next (by omega)]
        have := ih (i + 1) (by omega) (min (max most (at_ + dC ps[i].f6)) 33) (by omega) (by omega)
        have e : min (max (min (max most (at_ + dC ps[i].f6)) 33) (at_ + dL (ps.drop (i + 1)))) 33 = min (max most (at_ + max (dC ps[i].f6) (dL (ps.drop (i + 1))))) 33 := by omega
        rw [e] at this
        exact this
      · rw [List.drop_zero] at h
        have e : min (max most (at_ + max (dC ps[i].f6) (dL (ps.drop (i + 1))))) 33 = 33 := by omega
        rw [e]
        rfl
theorem deep_f : ∀ (n : Nat) (ps : List PMsg.S42), tL ps ≤ n → OkT ps → ∀ a : Nat, a ≤ 33 → Ev (fun k => PMsg.tree_deep.f k ps (a : Int)) ((min (a + dL ps) 33 : Nat) : Int) := by
  intro n
  induction n with
  | zero =>
    intro ps hn hok a ha
    refine Ev.step (f := fun k => PMsg.tree_deep.l0 k (a : Int) (a : Int) ps (ps.length : Int) ((0 : Nat) : Int)) (fun k => by rw [PMsg.tree_deep.f]; rfl) ?_
    have := deep_l0 ps hok a ha (fun p hp c hc => by have := tL_le hp; omega) ps.length 0 (by omega) a (Nat.le_refl _) ha
    rw [List.drop_zero, Nat.max_eq_right (Nat.le_add_right _ _)] at this
    exact this
  | succ n ih =>
    intro ps hn hok a ha
    refine Ev.step (f := fun k => PMsg.tree_deep.l0 k (a : Int) (a : Int) ps (ps.length : Int) ((0 : Nat) : Int)) (fun k => by rw [PMsg.tree_deep.f]; rfl) ?_
    have := deep_l0 ps hok a ha (fun p hp c hc a ha => ih _ (by have := tL_le hp; have := tC_le hc; omega) (hok.sub hp hc) a ha) ps.length 0 (by omega) a (Nat.le_refl _) ha
    rw [List.drop_zero, Nat.max_eq_right (Nat.le_add_right _ _)] at this
    exact this
def depthN (ps : List PMsg.S42) : Nat := if 4096 < tL ps then 33 else min (1 + dL ps) 33
theorem depth_f (ps : List PMsg.S42) (hok : OkT ps) : Ev (fun k => PMsg.tree_Depth.f k ps) ((depthN ps : Nat) : Int) := by
  have h := count_f ps hok
  unfold depthN
  refine Ev.bind (f := fun k t => if t > 4096 then some 33 else (PMsg.tree_deep.f k ps 1).bind fun t => some (mn t 33)) h ?_
  by_cases hov : 4096 < tL ps
  · rw [if_pos hov]
    refine Ev.congr (fun k => ?_) (Ev.now _)
    rw [if_pos (by omega)]
    rfl
  · rw [if_neg hov]
    have h2 := deep_f _ ps (Nat.le_refl _) hok 1 (by decide)
    refine Ev.congr (g := fun k => if ((min (tL ps) 4097 : Nat) : Int) > 4096 then some 33 else (PMsg.tree_deep.f k ps 1).bind fun t => some (mn t 33)) (fun k => if_neg (by omega)) (Ev.bind (f := fun k t => some (mn t 33)) h2 (Ev.congr (fun k => ?_) (Ev.now _)))
    have : mn ((min (1 + dL ps) 33 : Nat) : Int) 33 = ((min (1 + dL ps) 33 : Nat) : Int) := by unfold mn; split <;> omega
    rw [this]
end Go.Proofs.YtcpglgoiienhkaaGreatDoor
