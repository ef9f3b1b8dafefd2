/- The reference's count and depth are the program's. -/
import Derived.Test.YtcpglgoiienhkaaGreatDoorZTcn
set_option linter.unusedVariables false
set_option linter.unusedSimpArgs false

namespace Go.Proofs.YtcpglgoiienhkaaGreatDoor
open Go.RowKit Go.Proofs.YtcpglgoiienhkaaGreatDoorW.PrintWords
theorem d_le : ∀ (n : Nat) (ps : List PMsg.S42), tL ps ≤ n → dL ps ≤ tL ps := by
  intro n
  induction n with
  | zero =>
    intro ps hn
    cases ps with
    | nil => simp [dL]
    | cons p r => rw [tL_cons] at hn; omega
  | succ n ih =>
    intro ps
    induction ps with
    | nil => intro _; simp [dL]
    | cons p r ihr =>
      intro hn
      rw [tL_cons] at hn ⊢
      rw [dL_cons]
      have h1 := ihr (by omega)
      have h2 : ∀ cs : List PMsg.S47, tC cs ≤ n → dC cs ≤ 1 + tC cs := by
        intro cs
        induction cs with
        | nil => intro _; simp [dC]
        | cons c q ihc =>
          intro hq
          rw [tC_cons] at hq ⊢
          rw [dC_cons]
          have := ihc (by omega)
          have := ih c.f2.f0 (by omega)
          omega
      have := h2 p.f6 (by omega)
      omega
def WalkR (g : Nat → Option (Int × Int)) (had t : Nat) (deep : Int) (d : Nat) : Prop :=
  ∃ D : Int, Ev g (((min (had + t) 4097 : Nat) : Int), D) ∧ (had + t ≤ 4096 → ∀ dn : Nat, deep = dn → 1 ≤ dn → D = ((max dn (1 + d) : Nat) : Int))
theorem walk_l1 (ps : List PMsg.S42) (hok : OkT ps) (i : Nat) (hi : i < ps.length)
    (hsub : ∀ c, c ∈ ps[i].f6 → ∀ had : Nat, had ≤ 4096 → WalkR (fun k => PMsg.idiomref20_walk.f k c.f2.f0 (had : Int)) had (tL c.f2.f0) 1 (dL c.f2.f0))
    (h0 : ∀ (had : Nat), had ≤ 4097 → ∀ deep : Int, WalkR (fun k => PMsg.idiomref20_walk.l0 k (had : Int) deep ((i + 1 : Nat) : Int) ps) had (tL (ps.drop (i + 1))) deep (dL (ps.drop (i + 1)))) :
    ∀ (d j : Nat), j + d = ps[i].f6.length → ∀ had : Nat, had ≤ 4097 → ∀ deep : Int,
      WalkR (fun k => PMsg.idiomref20_walk.l1 k (had : Int) deep (i : Int) (j : Int) ps) had (tC (ps[i].f6.drop j) + tL (ps.drop (i + 1))) deep (max (dC (ps[i].f6.drop j)) (dL (ps.drop (i + 1)))) := by
  have hlen := hok.len
  have hcl := hok.cases_ (List.getElem_mem hi)
  have hnx : wrap64 ((i : Int) + 1) = ((i + 1 : Nat) : Int) := wrap_next (by omega)
  intro d
  induction d with
  | zero =>
    intro j hj had hh deep
    have hd : ps[i].f6.drop j = [] := List.drop_eq_nil_of_le (by omega)
    rw [hd]
    simp only [tC, dC, Nat.zero_add, Nat.zero_max]
    obtain ⟨D, h1, h2⟩ := h0 had hh deep
    refine ⟨D, Ev.step (fun k => ?_) h1, h2⟩
    rw [PMsg.idiomref20_walk.l1, if_pos (by omega), if_pos (by omega), rdp hi, if_neg (by omega), hnx]
  | succ d ih =>
    intro j hj had hh deep
    have hlt : j < ps[i].f6.length := by omega
    have hd : ps[i].f6.drop j = ps[i].f6[j] :: ps[i].f6.drop (j + 1) := List.drop_eq_getElem_cons hlt
    rw [hd, tC_cons, dC_cons]
    by_cases h97 : had = 4097
    · obtain ⟨D, h1, h2⟩ := h0 had hh deep
      refine ⟨D, ?_, fun h => by omega⟩
      have e : min (had + (tL ps[i].f6[j].f2.f0 + tC (ps[i].f6.drop (j + 1)) + tL (ps.drop (i + 1)))) 4097 = min (had + tL (ps.drop (i + 1))) 4097 := by omega
      rw [e]
      refine Ev.step (fun k => ?_) h1
      rw [PMsg.idiomref20_walk.l1, if_pos (by omega), if_pos (by omega), rdp hi, if_pos (by omega), if_neg (by omega), hnx]
    · obtain ⟨D1, h1, h2⟩ := hsub ps[i].f6[j] (List.getElem_mem hlt) had (by omega)
      obtain ⟨D2, h3, h4⟩ := ih (j + 1) (by omega) (min (had + tL ps[i].f6[j].f2.f0) 4097) (by omega) (mx deep (wrap64 (D1 + 1)))
      refine ⟨D2, ?_, fun h dn hdn h1n => ?_⟩
      · have e : min (had + (tL ps[i].f6[j].f2.f0 + tC (ps[i].f6.drop (j + 1)) + tL (ps.drop (i + 1)))) 4097 = min (min (had + tL ps[i].f6[j].f2.f0) 4097 + (tC (ps[i].f6.drop (j + 1)) + tL (ps.drop (i + 1)))) 4097 := by omega
        rw [e]
        refine Ev.step (fun k => ?_) (Ev.bind h1 (f := fun k (t : Int × Int) => PMsg.idiomref20_walk.l1 k t.1 (mx deep (wrap64 (t.2 + 1))) (i : Int) (wrap64 ((j : Int) + 1)) ps) ?_)
        · rw [PMsg.idiomref20_walk.l1, if_pos (by omega), if_pos (by omega), rdp hi, if_pos (by omega), if_pos (by omega), if_pos (by omega), rdc hlt]
        · rw [wrap_next (by omega)]
          exact h3
      · have hD1 := h2 (by omega) 1 rfl (Nat.le_refl _)
        have hdl := d_le _ ps[i].f6[j].f2.f0 (Nat.le_refl _)
        rw [Nat.max_eq_right (by omega)] at hD1
        have hw : wrap64 (D1 + 1) = ((2 + dL ps[i].f6[j].f2.f0 : Nat) : Int) := by rw [hD1]; unfold wrap64; omega
        have := h4 (by omega) (max dn (2 + dL ps[i].f6[j].f2.f0)) (by rw [hw, hdn, mx_nat]) (by omega)
        rw [this]
        congr 1
        omega
theorem walk_l0 (ps : List PMsg.S42) (hok : OkT ps)
    (hsub : ∀ p, p ∈ ps → ∀ c, c ∈ p.f6 → ∀ had : Nat, had ≤ 4096 → WalkR (fun k => PMsg.idiomref20_walk.f k c.f2.f0 (had : Int)) had (tL c.f2.f0) 1 (dL c.f2.f0)) :
    ∀ (d i : Nat), i + d = ps.length → ∀ had : Nat, had ≤ 4097 → ∀ deep : Int, WalkR (fun k => PMsg.idiomref20_walk.l0 k (had : Int) deep (i : Int) ps) had (tL (ps.drop i)) deep (dL (ps.drop i)) := by
  have hlen := hok.len
  intro d
  induction d with
  | zero =>
    intro i hi had hh deep
    have hd : ps.drop i = [] := List.drop_eq_nil_of_le (by omega)
    rw [hd]
    simp only [tL, dL]
    refine ⟨deep, ?_, fun _ dn hdn h1 => by rw [hdn]; congr 1; omega⟩
    rw [Nat.add_zero, Nat.min_eq_left hh]
    refine Ev.step (f := fun k => PMsg.idiomref20_walk.j1 k (had : Int) deep (i : Int) false ps) (fun k => ?_) (Ev.step (fun k => ?_) (Ev.now _))
    · rw [PMsg.idiomref20_walk.l0, if_neg (by omega)]
    · rw [PMsg.idiomref20_walk.j1, if_neg (by decide)]
  | succ d ih =>
    intro i hi had hh deep
    have hlt : i < ps.length := by omega
    have hd : ps.drop i = ps[i] :: ps.drop (i + 1) := List.drop_eq_getElem_cons hlt
    have hm := List.getElem_mem hlt
    rw [hd, tL_cons, dL_cons]
    by_cases h97 : had = 4097
    · refine ⟨deep, ?_, fun h => by omega⟩
      rw [Nat.min_eq_right (by omega), h97]
      refine Ev.step (f := fun k => PMsg.idiomref20_walk.j1 k ((4097 : Nat) : Int) deep (i : Int) false ps) (fun k => ?_) (Ev.step (fun k => ?_) (Ev.now _))
      · rw [PMsg.idiomref20_walk.l0, if_pos (by omega)]
        rfl
      · rw [PMsg.idiomref20_walk.j1, if_neg (by decide)]
    · have hw : wrap64 ((had : Int) + 1) = ((had + 1 : Nat) : Int) := wrap_next (by omega)
      obtain ⟨D, h1, h2⟩ := walk_l1 ps hok i hlt (fun c hc => hsub _ hm c hc) (fun had hh deep => ih (i + 1) (by omega) had hh deep) ps[i].f6.length 0 (by omega) (had + 1) (by omega) deep
      rw [List.drop_zero] at h1 h2
      refine ⟨D, ?_, fun h dn hdn h1n => h2 (by omega) dn hdn h1n⟩
      rw [show had + (1 + tC ps[i].f6 + tL (ps.drop (i + 1))) = had + 1 + (tC ps[i].f6 + tL (ps.drop (i + 1))) by omega]
      refine Ev.step (f := fun k => PMsg.idiomref20_walk.j1 k (had : Int) deep (i : Int) true ps) (fun k => ?_) (Ev.step (fun k => ?_) h1)
      · have : decide ((had : Int) ≤ 4096) = true := decide_eq_true (by omega)
        rw [PMsg.idiomref20_walk.l0, if_pos (by omega), this]
      · rw [PMsg.idiomref20_walk.j1, if_pos rfl, hw]
        rfl
theorem walk_f : ∀ (n : Nat) (ps : List PMsg.S42), tL ps ≤ n → OkT ps → ∀ had : Nat, had ≤ 4096 → WalkR (fun k => PMsg.idiomref20_walk.f k ps (had : Int)) had (tL ps) 1 (dL ps) := by
  intro n
  induction n with
  | zero =>
    intro ps hn hok had hh
    obtain ⟨D, h1, h2⟩ := walk_l0 ps hok (fun p hp c hc => by have := tL_le hp; omega) ps.length 0 (by omega) had (by omega) 1
    rw [List.drop_zero] at h1 h2
    exact ⟨D, Ev.step (fun k => by rw [PMsg.idiomref20_walk.f]; rfl) h1, h2⟩
  | succ n ih =>
    intro ps hn hok had hh
    obtain ⟨D, h1, h2⟩ := walk_l0 ps hok (fun p hp c hc had hh => ih _ (by have := tL_le hp; have := tC_le hc; omega) (hok.sub hp hc) had hh) ps.length 0 (by omega) had (by omega) 1
    rw [List.drop_zero] at h1 h2
    exact ⟨D, Ev.step (fun k => by rw [PMsg.idiomref20_walk.f]; rfl) h1, h2⟩
theorem mn_nat (a b : Nat) : mn (a : Int) (b : Int) = ((min a b : Nat) : Int) := by unfold mn; split <;> omega
theorem rcount_f (ps : List PMsg.S42) (hok : OkT ps) : Ev (fun k => PMsg.idiomref20_Count.f k ps) ((min (tL ps) 4097 : Nat) : Int) := by
  obtain ⟨D, h1, h2⟩ := walk_f _ ps (Nat.le_refl _) hok 0 (Nat.zero_le _)
  rw [Nat.zero_add] at h1
  refine Ev.bind (f := fun k (t : Int × Int) => some (mn t.1 4097)) h1 (Ev.congr (fun k => ?_) (Ev.now _))
  have := mn_nat (min (tL ps) 4097) 4097
  rw [Nat.min_assoc, Nat.min_self] at this
  exact congrArg some this
theorem rdepth_f (ps : List PMsg.S42) (hok : OkT ps) : Ev (fun k => PMsg.idiomref20_Depth.f k ps) ((depthN ps : Nat) : Int) := by
  obtain ⟨D, h1, h2⟩ := walk_f _ ps (Nat.le_refl _) hok 0 (Nat.zero_le _)
  rw [Nat.zero_add] at h1 h2
  refine Ev.bind (f := fun k (t : Int × Int) => if t.1 > 4096 then some 33 else some (mn t.2 33)) h1 (Ev.congr (fun k => ?_) (Ev.now _))
  unfold depthN
  by_cases hov : 4096 < tL ps
  · rw [if_pos hov]
    exact if_pos (by show ((min (tL ps) 4097 : Nat) : Int) > 4096; omega)
  · rw [if_neg hov]
    have hD := h2 (by omega) 1 rfl (Nat.le_refl _)
    rw [Nat.max_eq_right (by omega)] at hD
    subst hD
    refine (if_neg (by show ¬ ((min (tL ps) 4097 : Nat) : Int) > 4096; omega)).trans ?_
    exact congrArg some (mn_nat _ 33)
end Go.Proofs.YtcpglgoiienhkaaGreatDoor
