/- The reader of messages: its parts, one by one. -/
import Derived.Test.YtcpglgoiienhkaaGreatDoorZTrw
import Derived.Deep.RegionHeld3
import Derived.Deep.RegionLaw
set_option linter.unusedVariables false
set_option linter.unusedSimpArgs false

namespace Go.Proofs.YtcpglgoiienhkaaGreatDoor
open Go.RowKit Go.Shelf P Ext Go.Proofs.YtcpglgoiienhkaaGreatDoorW.PrintWords
theorem TR.bind_ok {α β : Type} {q : Option (TR α)} {f : Nat → Nat → α → Option (TR β)} {i n : Nat} {x : β} (h : (q.bind fun r => r.bind f) = some (.ok i n x)) : ∃ i1 n1 x1, q = some (.ok i1 n1 x1) ∧ f i1 n1 x1 = some (.ok i n x) := by
  rw [Option.bind_eq_some_iff] at h
  obtain ⟨r, h1, h2⟩ := h
  cases r with
  | ok i1 n1 x1 => exact ⟨i1, n1, x1, h1, h2⟩
  | er e a => simp [TR.bind] at h2
structure GrT (ts : List Tk) (k : Nat) : Prop where
  msg : ∀ i n d acc i2 n2 x, msgT ts k i n d acc = some (.ok i2 n2 x) → n ≤ n2
  arg : ∀ i n d i2 n2 x, argT ts k i n d = some (.ok i2 n2 x) → n ≤ n2
  cas : ∀ i n d acc i2 n2 x, casT ts k i n d acc = some (.ok i2 n2 x) → n ≤ n2
  one : ∀ i n had d i2 n2 x, oneT ts k i n had d = some (.ok i2 n2 x) → n ≤ n2
theorem grT (ts : List Tk) : ∀ k, GrT ts k := by
  intro k
  induction k with
  | zero => exact ⟨fun _ _ _ _ _ _ _ h => by simp [msgT] at h, fun _ _ _ _ _ _ h => by simp [argT] at h, fun _ _ _ _ _ _ _ h => by simp [casT] at h, fun _ _ _ _ _ _ _ h => by simp [oneT] at h⟩
  | succ k ih =>
    refine ⟨?_, ?_, ?_, ?_⟩
    · intro i n d acc i2 n2 x h
      rw [msgT] at h
      split at h
      · cases h; exact Nat.le_refl _
      · split at h
        · split at h
          · cases h
          · split at h
            · obtain ⟨i1, n1, x1, h1, h2⟩ := TR.bind_ok h
              have := ih.arg _ _ _ _ _ _ h1
              have := ih.msg _ _ _ _ _ _ _ h2
              omega
            · have := ih.msg _ _ _ _ _ _ _ h
              omega
        · cases h; exact Nat.le_refl _
    · intro i n d i2 n2 x h
      rw [argT] at h
      rw [Option.bind_eq_some_iff] at h
      obtain ⟨nm, _, h⟩ := h
      split at h
      · cases h; exact Nat.le_refl _
      · rw [Option.bind_eq_some_iff] at h
        obtain ⟨_, _, h⟩ := h
        rw [Option.bind_eq_some_iff] at h
        obtain ⟨t, _, h⟩ := h
        split at h
        · split at h
          · cases h
          · rw [Option.map_eq_some_iff] at h
            obtain ⟨q, _, h⟩ := h
            cases h
            exact Nat.le_refl _
        · rw [Option.bind_eq_some_iff] at h
          obtain ⟨_, _, h⟩ := h
          obtain ⟨i1, n1, x1, h1, h2⟩ := TR.bind_ok h
          have := ih.cas _ _ _ _ _ _ _ h1
          split at h2
          · cases h2
          · rw [Option.map_eq_some_iff] at h2
            obtain ⟨_, _, h2⟩ := h2
            cases h2
            omega
    · intro i n d acc i2 n2 x h
      rw [casT] at h
      split at h
      · obtain ⟨i1, n1, x1, h1, h2⟩ := TR.bind_ok h
        have := ih.one _ _ _ _ _ _ _ h1
        have := ih.cas _ _ _ _ _ _ _ h2
        omega
      · cases h; exact Nat.le_refl _
    · intro i n had d i2 n2 x h
      rw [oneT] at h
      rw [Option.bind_eq_some_iff] at h
      obtain ⟨t, _, h⟩ := h
      split at h
      · cases h
      · rw [Option.bind_eq_some_iff] at h
        obtain ⟨hd, _, h⟩ := h
        split at h
        · cases h
        · obtain ⟨i1, n1, x1, h1, h2⟩ := TR.bind_ok h
          have := ih.msg _ _ _ _ _ _ _ h1
          rw [Option.map_eq_some_iff] at h2
          obtain ⟨_, _, h2⟩ := h2
          cases h2
          omega
abbrev ptV (p : Pt) (u : Value) : Value := .agg #[.int .i64 p.f0, .string p.f1, .string p.f2, .int .i64 p.f3, .string p.f4, .string p.f5, u]
abbrev ctV (c : Ct) (u : Value) : Value := .agg #[.string c.f0, .bool c.f1, u]
abbrev allOk : Nat → Prop := fun _ => True
def TEnd {α : Type} (X : Nat) (v : Value) (ts : List Tk) (r : TR α) (x : α) (W : World) : Prop :=
  match r with
  | .ok i n y => x = y ∧ Rd X v ts i n 0 0 W
  | .er e a => e ≠ 0 ∧ ∃ i n, Rd X v ts i n a e W
def TMsgC (X : Nat) (v : Value) (ts : List Tk) (k : Nat) : Prop := ∀ (i n d : Nat) (W : World) (r : TR (List Pt)), msgT ts k i n d [] = some r → Rd X v ts i n 0 0 W → d ≤ 32 →
  Calls Tryz.prog 52 #[.pointer (some ⟨X, 0, none⟩), .int .i64 d] W fun e W' => ∃ (ps : List Pt) (u : Value), e = .returned (.agg #[u]) ∧ PMsg.k42.R 42 W' W.heap.size allOk u ps ∧ TEnd X v ts r ps W' ∧ Stp X W W'
def TArgC (X : Nat) (v : Value) (ts : List Tk) (k : Nat) : Prop := ∀ (i n d : Nat) (t : Tk) (W : World) (r : TR Pt), argT ts k i n d = some r → Rd X v ts i n 0 0 W → d ≤ 32 →
  Calls Tryz.prog 252 #[.agg #[.pointer (some ⟨X, 0, none⟩)], tkV t, .int .i64 d] W fun e W' => ∃ (p : Pt) (u : Value), e = .returned (ptV p u) ∧ PMsg.k47.R 47 W' W.heap.size allOk u p.f6 ∧ TEnd X v ts r p W' ∧ Stp X W W'
def TOneC (X : Nat) (v : Value) (ts : List Tk) (k : Nat) : Prop := ∀ (i n had d : Nat) (W : World) (r : TR Ct), oneT ts k i n had d = some r → Rd X v ts i n 0 0 W → d ≤ 32 → had ≤ 64 →
  Calls Tryz.prog 253 #[.pointer (some ⟨X, 0, none⟩), .int .i64 had, .int .i64 d] W fun e W' => ∃ (c : Ct) (u : Value), e = .returned (ctV c u) ∧ PMsg.k42.R 42 W' W.heap.size allOk u c.f2.f0 ∧ TEnd X v ts r c W' ∧ Stp X W W'
structure MI (X : Nat) (v : Value) (ts : List Tk) (W0 : World) (i n : Nat) (pl e : Int) (acc : List Pt) (u : Value) (W : World) : Prop where
  rd : Rd X v ts i n pl e W
  st : Stp X W0 W
  x0 : X < W0.heap.size
  v0 : ∀ k, v.ownBlock = some k → k < W0.heap.size
  res : W.heap[W0.heap.size]? = some (.cells #[.slice none 0 0] 24 (0, 0))
  box : W.heap[W0.heap.size + 1]? = some (.cells #[u] 24 (0, 0))
  row : PMsg.k42.R 42 W W0.heap.size allOk u acc
theorem R_stp {α : Type} {d : Kd α} {e base X : Nat} {W W' : World} {u : Value} {xs : List α} (h : d.R e W base allOk u xs) (hs : Stp X W W') (hX : X < base) : d.R e W' base allOk u xs :=
  Kd.R_mono (Kd.R_grown (Kd.R_bound h) hs fun k hk e => by cases e; have := hk.2.1; omega) fun _ _ => trivial
section
variable {X : Nat} {v : Value} {ts : List Tk} {W0 W W' : World} {i n : Nat} {pl e : Int} {acc : List Pt} {u : Value}
theorem MI.stp (h : MI X v ts W0 i n pl e acc u W) (hs : Stp X W W') {i' n' : Nat} {pl' e' : Int} (hr : Rd X v ts i' n' pl' e' W') : MI X v ts W0 i' n' pl' e' acc u W' :=
  have hx := h.x0
  ⟨hr, h.st.trans hs, h.x0, h.v0, blk_grown h.res hs (by simp; omega), blk_grown h.box hs (by simp; omega), R_stp h.row hs h.x0⟩
theorem MI.below (h : MI X v ts W0 i n pl e acc u W) (hb : Below W.heap.size W W') : MI X v ts W0 i n pl e acc u W' := h.stp (Stp.of_below hb) (h.rd.below hb)
theorem MI.size (h : MI X v ts W0 i n pl e acc u W) : W0.heap.size + 1 < W.heap.size := blk_lt h.box
theorem MI.set (h : MI X v ts W0 i n pl e acc u W) {w1 : World} {u1 : Value} {acc1 : List Pt} (hg : W.grownBy w1 u.ownBlock) (hr : PMsg.k42.R 42 w1 W0.heap.size allOk u1 acc1) : MI X v ts W0 i n pl e acc1 u1 (w1.setCell ⟨W0.heap.size + 1, 0, none⟩ u1) := by
  have hx := h.x0
  have hsz := h.size
  have hbase := Kd.R_base h.row
  have hb1 := blk_grown h.box hg (Kd.R_ne h.row h.box (by decide))
  have hg2 : w1.grownBy (w1.setCell ⟨W0.heap.size + 1, 0, none⟩ u1) (some (W0.heap.size + 1)) := Stp.setCell _ _ _ _
  have hrd : Rd X v ts i n pl e w1 := h.rd.keep hg fun k hk => by
    have := hbase k hk
    exact .inr ⟨by omega, fun e => by have := h.v0 k e.symm; omega⟩
  refine ⟨hrd.keep hg2 fun k hk => ?_, ?_, h.x0, h.v0, ?_, blk_set hb1 0 u1, Kd.R_set hr hb1 (by decide) 0 u1⟩
  · cases hk
    exact .inr ⟨by omega, fun e => by have := h.v0 _ e.symm; omega⟩
  · exact (h.st.grown hg hbase).grown hg2 fun k hk => by cases hk; omega
  · exact blk_grown (blk_grown h.res hg (Kd.R_ne h.row h.res (by decide))) hg2 (by simp)
theorem MI.start (h : Rd X v ts i n pl e W) : MI X v ts W i n pl e [] (.slice none 0 0) ((W.alloc (.cells #[.slice none 0 0] 24)).alloc (.cells #[.slice none 0 0] 24)) := by
  have hb1 : Below W.heap.size W (W.alloc (.cells #[.slice none 0 0] 24)) := (Below.refl _ W).alloc (Nat.le_refl _) _
  have h1 := World.alloc_heap_new W (.cells #[.slice none 0 0] 24)
  have hs1 : (W.alloc (.cells #[.slice none 0 0] 24)).heap.size = W.heap.size + 1 := by simp
  generalize W.alloc (.cells #[.slice none 0 0] 24) = w1 at *
  have hb2 : Below w1.heap.size w1 (w1.alloc (.cells #[.slice none 0 0] 24)) := (Below.refl _ w1).alloc (Nat.le_refl _) _
  have h2 := World.alloc_heap_new w1 (.cells #[.slice none 0 0] 24)
  generalize w1.alloc (.cells #[.slice none 0 0] 24) = w2 at *
  rw [hs1] at h2
  exact ⟨(h.below hb1).below hb2, (Stp.of_below hb1).below hb2, h.lt, h.vlt, (hb2.block _ (by omega)).trans h1, h2, Kd.R_nil _ _ _ _ _⟩
theorem MI.row_cell (h : MI X v ts W0 i n pl e acc u W) : W.cell? ⟨W0.heap.size + 1, 0, none⟩ = some u ∧ W.frozen? ⟨W0.heap.size + 1, 0, none⟩ = false ∧ W.frozen? ⟨W0.heap.size, 0, none⟩ = false := ⟨blk_cell h.box 0, blk_frozen h.box 0, blk_frozen h.res 0⟩
end
section
variable {X : Nat} {v : Value} {ts : List Tk}
theorem by_leaf (W : World) (k : Int) (hk : k = 1 ∨ k = 2) : Calls Tryz.prog 76 #[.pointer (some ⟨X, 0, none⟩), .int .i64 k] W fun e W' => e = .returned (.iface 137 (.agg #[])) ∧ W = W' := by
  rcases hk with rfl | rfl
  · go_enter Tryz.func76, Tryz.ntmps76
    go_wp2
    go_ret
    exact ⟨rfl, rfl⟩
  · go_enter Tryz.func76, Tryz.ntmps76
    go_wp2
    go_ret
    exact ⟨rfl, rfl⟩
theorem by_open (W : World) : Calls Tryz.prog 76 #[.pointer (some ⟨X, 0, none⟩), .int .i64 3] W fun e W' => e = .returned (.iface 139 (.agg #[.pointer (some ⟨X, 0, none⟩)])) ∧ W = W' := by
  go_enter Tryz.func76, Tryz.ntmps76
  go_wp2
  go_ret
  exact ⟨rfl, rfl⟩
theorem by_none (W : World) (k : Int) (h1 : (k == 1) = false) (h2 : (k == 2) = false) (h3 : (k == 3) = false) : Calls Tryz.prog 76 #[.pointer (some ⟨X, 0, none⟩), .int .i64 k] W fun e W' => e = .returned .nilIface ∧ W = W' := by
  go_enter Tryz.func76, Tryz.ntmps76
  go_wp2
  go_ret
  exact ⟨rfl, rfl⟩
theorem last3 (W : World) (o1 o2 o3 : Obj) : (((W.alloc o1).alloc o2).alloc o3).heap[W.heap.size + 1 + 1]? = some o3 := by
  have h := World.alloc_heap_new ((W.alloc o1).alloc o2) o3
  have hs : ((W.alloc o1).alloc o2).heap.size = W.heap.size + 1 + 1 := by simp
  rw [hs] at h
  exact h
theorem size3 (W : World) (o1 o2 o3 : Obj) : (((W.alloc o1).alloc o2).alloc o3).heap.size = W.heap.size + 3 := by simp
theorem first3 (W : World) (o1 o2 o3 : Obj) : (((W.alloc o1).alloc o2).alloc o3).heap[W.heap.size]? = some o1 := by
  have hs1 : (W.alloc o1).heap.size = W.heap.size + 1 := by simp
  have hs2 : ((W.alloc o1).alloc o2).heap.size = W.heap.size + 2 := by simp
  exact blk_alloc (blk_alloc (World.alloc_heap_new W o1) o2) o3
theorem last3_below (W : World) (o1 o2 o3 : Obj) : Below W.heap.size W (((W.alloc o1).alloc o2).alloc o3) :=
  ((((Below.refl _ W).alloc (Nat.le_refl _) o1).alloc (by simp) o2).alloc (by simp; omega) o3)
theorem leaf_any (W : World) (t : Tk) (d : Int) : Calls Tryz.prog 251 #[.agg #[], tkV t, .int .i64 d] W fun e W' => e = .returned (ptV (leafP t) (.slice none 0 0)) ∧ Below W.heap.size W W' := by
  obtain ⟨k, x, a⟩ := t
  by_cases hk : k = 2
  · subst hk
    have HP : Hid (ptV (leafP (2, x, a)) (.slice none 0 0) = .agg #[.int .i64 2, .string ⟨#[]⟩, .string ⟨#[]⟩, .int .i64 0, .string ⟨#[]⟩, .string ⟨#[]⟩, .slice none 0 0]) := Lib.hid rfl
    dsimp only [tkV]
    go_enter Tryz.func251, Tryz.ntmps251
    go_wp2
    refine bodyPost_ret (results_row rfl rfl (last3 _ _ _ _) Tryz.underlying42 rfl (by kernel_rfl)) rfl ⟨by rw [HP.out], last3_below _ _ _ _⟩
  · have e1 : (k == 2) = false := by simpa using hk
    have HP : Hid (ptV (leafP (k, x, a)) (.slice none 0 0) = .agg #[.int .i64 1, .string x, .string ⟨#[]⟩, .int .i64 0, .string ⟨#[]⟩, .string ⟨#[]⟩, .slice none 0 0]) := Lib.hid (by rw [leafP, if_neg hk]; rfl)
    clear hk
    dsimp only [tkV]
    go_enter Tryz.func251, Tryz.ntmps251
    go_wp2
    refine bodyPost_ret (results_row rfl rfl (last3 _ _ _ _) Tryz.underlying42 rfl (by kernel_rfl)) rfl ⟨by rw [HP.out], last3_below _ _ _ _⟩
theorem leaf_M (t : Tk) (W : World) (base : Nat) : PMsg.k47.R 47 W base allOk (.slice none 0 0) (leafP t).f6 := by
  have : (leafP t).f6 = [] := by unfold leafP; split <;> rfl
  rw [this]
  exact Kd.R_nil _ _ _ _ _
theorem kdAt_of' {i : Nat} {t : Tk} (h : ts[i]? = some t) : kdAt ts i = t.1 := by rw [kdAt, h]
def MTodo (ts : List Tk) (g i n d : Nat) (pl e : Int) (acc : List Pt) (r : TR (List Pt)) : Prop :=
  (e = 0 ∧ pl = 0 ∧ acc.length ≤ n ∧ msgT ts g i n d acc = some r) ∨ (e ≠ 0 ∧ r = .er e pl)
theorem kindV_err {i : Nat} {e : Int} (h : e ≠ 0) : kindV ts i e = 0 := if_neg h
theorem kindV_ok {i : Nat} : kindV ts i 0 = kdAt ts i := if_pos rfl
theorem MTodo.stop {g i n d : Nat} {pl e : Int} {acc : List Pt} {r : TR (List Pt)} (h : MTodo ts g i n d pl e acc r) (hk : ¬ (kindV ts i e = 1 ∨ kindV ts i e = 2 ∨ kindV ts i e = 3)) {W : World} (hr : Rd X v ts i n pl e W) : TEnd X v ts r acc W := by
  rcases h with ⟨rfl, rfl, _, h⟩ | ⟨h, rfl⟩
  · rw [kindV_ok] at hk
    cases g with
    | zero => simp [msgT] at h
    | succ g =>
      rw [msgT] at h
      cases ht : ts[i]? with
      | none => rw [ht] at h; cases h; exact ⟨rfl, hr⟩
      | some t =>
        rw [ht] at h
        simp only at h
        rw [kdAt, ht] at hk
        rw [if_neg hk] at h
        cases h
        exact ⟨rfl, hr⟩
  · exact ⟨h, _, _, hr⟩
theorem MTodo.part {g i n d : Nat} {pl e : Int} {acc : List Pt} {r : TR (List Pt)} (h : MTodo ts g i n d pl e acc r) (hk : kindV ts i e = 1 ∨ kindV ts i e = 2 ∨ kindV ts i e = 3) :
    e = 0 ∧ pl = 0 ∧ acc.length ≤ n ∧ ∃ t g', g = g' + 1 ∧ ts[i]? = some t ∧ t.1 = kindV ts i e ∧ ((n = 4096 ∧ r = .er 5 t.2.2) ∨ (n ≠ 4096 ∧ ((t.1 = 3 ∧ (argT ts g' (i + 1) (n + 1) d).bind (fun q => q.bind fun i2 n2 p => msgT ts g' i2 n2 d (acc ++ [p])) = some r) ∨ (t.1 ≠ 3 ∧ msgT ts g' (i + 1) (n + 1) d (acc ++ [leafP t]) = some r)))) := by
  rcases h with ⟨rfl, rfl, hl, h⟩ | ⟨h, rfl⟩
  · rw [kindV_ok] at hk ⊢
    cases g with
    | zero => simp [msgT] at h
    | succ g =>
      rw [msgT] at h
      cases ht : ts[i]? with
      | none => rw [kdAt, ht] at hk; simp at hk
      | some t =>
        rw [ht] at h
        simp only at h
        have hkd := kdAt_of' ht
        rw [hkd] at hk ⊢
        rw [if_pos hk] at h
        refine ⟨rfl, rfl, hl, t, g, rfl, rfl, rfl, ?_⟩
        split at h
        · cases h; exact .inl ⟨by assumption, rfl⟩
        · refine .inr ⟨by assumption, ?_⟩
          split at h
          · exact .inl ⟨by assumption, h⟩
          · exact .inr ⟨by assumption, h⟩
  · rw [kindV_err h] at hk; simp at hk
theorem part_M {W0 W W' : World} {i n : Nat} {pl e : Int} {acc : List Pt} {u u6 : Value} {p : Pt} (h : MI X v ts W0 i n pl e acc u W) (hu : PMsg.k47.R 47 W' W.heap.size allOk u6 p.f6) :
    PMsg.k42.M W' W0.heap.size (fun k => allOk k ∧ some k ≠ u.ownBlock) p [.int .i64 p.f0, .string p.f1, .string p.f2, .int .i64 p.f3, .string p.f4, .string p.f5, u6] := by
  have hl := Kd.R_lt h.row
  refine PMsg.k42_mkM W' _ _ p (Kd.R_lower (Kd.R_mono (Kd.R_bound hu) fun k hk => ⟨trivial, fun e => ?_⟩) (by have := h.size; omega))
  have := hl k e.symm
  have := hk.2.1
  omega
theorem TEnd.todo {g i n d : Nat} {acc : List Pt} {r : TR (List Pt)} {ra : TR Pt} {p : Pt} {W : World} (hacc : acc.length ≤ n) (hra : argT ts g i (n + 1) d = some ra) (h : ra.bind (fun i2 n2 p => msgT ts g i2 n2 d (acc ++ [p])) = some r) (he : TEnd X v ts ra p W) :
    ∃ i3 n3 pl3 e3, Rd X v ts i3 n3 pl3 e3 W ∧ Hid (MTodo ts g i3 n3 d pl3 e3 (acc ++ [p]) r) := by
  cases ra with
  | er e a =>
    obtain ⟨h1, i3, n3, h2⟩ := he
    exact ⟨i3, n3, a, e, h2, Lib.hid (.inr ⟨h1, (Option.some.inj h).symm⟩)⟩
  | ok i3 n3 x =>
    obtain ⟨rfl, h2⟩ := he
    have := (grT ts g).arg _ _ _ _ _ _ hra
    exact ⟨i3, n3, 0, 0, h2, Lib.hid (.inl ⟨rfl, rfl, by simp only [List.length_append, List.length_singleton]; omega, h⟩)⟩
set_option maxRecDepth 100000 in
set_option maxHeartbeats 8000000 in
theorem tmsg_step (k : Nat) (hA : ∀ j, j ≤ k → TArgC X v ts j) : TMsgC X v ts (k + 1) := by
  intro i n d W r hm h hd
  have HA := Lib.hid hA
  have HM0 : Hid (MTodo ts (k + 1) i n d 0 0 [] r) := Lib.hid (.inl ⟨rfl, rfl, Nat.zero_le _, hm⟩)
  clear hm hA
  have HS := MI.start h
  have qn : ∀ w, (binOp .eql 113 (.nilIface) (.nilIface)).run Tryz.prog w = .ok (.bool true) w := fun w => by rfl
  have q1 : ∀ w, (binOp .eql 113 (.iface 137 (.agg #[])) (.nilIface)).run Tryz.prog w = .ok (.bool false) w := fun w => by rfl
  have q3 : ∀ w X, (binOp .eql 113 (.iface 139 (.agg #[.pointer (some ⟨X, 0, none⟩)])) (.nilIface)).run Tryz.prog w = .ok (.bool false) w := fun w X => by rfl
  go_enter Tryz.func52, Tryz.ntmps52
  go_wp2
  generalize (W.alloc (.cells #[.slice none 0 0] 24)).alloc (.cells #[.slice none 0 0] 24) = W1 at *
  go_loopg [6] (k + 1) (fun g _ wr => ∃ (i2 n2 : Nat) (pl e : Int) (acc : List Pt) (u : Value), g ≤ k + 1 ∧ Hid (MTodo ts g i2 n2 d pl e acc r) ∧ MI X v ts W i2 n2 pl e acc u wr)
  case atStart => exact ⟨i, n, 0, 0, [], _, Nat.le_refl _, HM0, HS⟩
  case round =>
    obtain ⟨i2, n2, pl, e, acc, u, hgk, HM, h1⟩ := hrel
    clear HS HM0
    have HKA := Lib.hid (kind_any h1.rd)
    by_cases hk : kindV ts i2 e = 1 ∨ kindV ts i2 e = 2 ∨ kindV ts i2 e = 3
    · obtain ⟨rfl, rfl, hacc, t, g', hg', ht, htk, hcase⟩ := HM.out.part hk
      have HC := Lib.hid hcase
      have HN := Lib.hid (fun (W' : World) (hr : Rd X v ts i2 n2 0 0 W') => next_any hr ht)
      have HT := Lib.hid htk
      rw [← htk] at hk
      by_cases h3 : t.1 = 3
      · skip
        have HB := Lib.hid (fun W' => by_open (X := X) W')
        have hkv : kindV ts i2 0 = 3 := HT.out.symm.trans h3
        have hm1 : ∀ w, (method 350 139 (.agg #[.pointer (some ⟨X, 0, none⟩)]) "idiom/tree.read").run Tryz.prog w = .ok (252, .agg #[.pointer (some ⟨X, 0, none⟩)]) w := fun w => by kernel_rfl
        rw [hkv] at HKA
        have H3 := Lib.hid h3
        clear hk hcase ht htk hkv h3
        go_wp2_with fail
        refine HKA.out.mono ?_
        rintro e' W2 ⟨rfl, hd2⟩
        have h2 := h1.below hd2.below
        go_wp2_with fail
        refine (HB.out _).mono ?_
        rintro e' W3 ⟨rfl, rfl⟩
        go_wp2_with fail
        refine (HN.out _ h2.rd).mono ?_
        rintro e' W3 ⟨rfl, hr3, hs3⟩
        have h30 := h2.stp hs3 hr3
        clear h1 h2 hr3 hs3 hd2 HKA
        dsimp only [tkV]
        have hcap := h30.rd.cap
        have hlen := h30.rd.len
        have hfit := h30.rd.fit
        by_cases hn : n2 = 4096
        · have e1 : ((n2 : Int) == 4096) = true := by simp; omega
          have HF : Hid (r = .er 5 t.2.2) := Lib.hid (by rcases HC.out with h | h; exact h.2; exact absurd hn h.1)
          clear HC hn
          go_upto_region 6 with (fail)
          have h4 := h30.below ((Below.refl _ W3).alloc (Nat.le_refl _) (.cells #[.int .i64 t.1, .string t.2.1, .int .i64 t.2.2] 111))
          have tb := World.alloc_heap_new W3 (.cells #[.int .i64 t.1, .string t.2.1, .int .i64 t.2.2] 111)
          generalize W3.alloc (.cells #[.int .i64 t.1, .string t.2.1, .int .i64 t.2.2] 111) = W4 at *
          generalize W3.heap.size = TB at *
          clear h30
          obtain ⟨c0, c1, c2, c3, c4, f⟩ := h4.rd.cells
          have t2 : W4.cell? ⟨TB, 2, none⟩ = some (.int .i64 t.2.2) := blk_cell tb 2
          go_wp2_with fail
          refine (fails_rd h4.rd 5 t.2.2).mono ?_
          rintro e' W5 ⟨rfl, hr5, hs5⟩
          have h2 := h4.stp hs5 hr5
          clear c0 c1 c2 c3 c4 f t2 tb
          obtain ⟨c0, f0, f1⟩ := h2.row_cell
          have r0 : W5.cell? ⟨W.heap.size, 0, none⟩ = some (.slice none 0 0) := blk_cell h2.res 0
          obtain ⟨A, cu, rfl⟩ := Kd.R_slice h2.row
          go_wp2_with fail
          have hst := Stp.setCell W.heap.size 0 (.slice A acc.length cu) W5
          refine bodyPost_ret (results_row rfl rfl (blk_set h2.res 0 _) Tryz.underlying24 rfl (by kernel_rfl)) rfl ?_
          have hrd : Rd X v ts (i2 + 1) n2 t.2.2 5 (W5.setCell ⟨W.heap.size, 0, none⟩ (.slice A acc.length cu)) := h2.rd.keep hst fun k hk => by
            cases hk
            have := h2.x0
            exact .inr ⟨by omega, fun e => by have := h2.v0 _ e.symm; omega⟩
          exact ⟨acc, _, rfl, Kd.R_set h2.row h2.res (by decide) 0 _, by rw [HF.out]; exact ⟨by decide, _, _, hrd⟩, h2.st.grown hst fun k hk => by cases hk; exact Nat.le_refl _⟩
        · have e1 : ((n2 : Int) == 4096) = false := by simp; omega
          have HCA : ∃ ra, argT ts g' (i2 + 1) (n2 + 1) d = some ra ∧ ra.bind (fun i2 n2 p => msgT ts g' i2 n2 d (acc ++ [p])) = some r := by
            rcases HC.out with h | ⟨_, h | h⟩
            · exact absurd h.1 hn
            · exact Option.bind_eq_some_iff.1 h.2
            · exact absurd H3.out h.1
          obtain ⟨ra, hra, hrr⟩ := HCA
          have HRA := Lib.hid hra
          have HRR := Lib.hid hrr
          have HAR := Lib.hid (fun W' (hr : Rd X v ts (i2 + 1) (n2 + 1) 0 0 W') => HA.out g' (by omega) (i2 + 1) (n2 + 1) d t W' ra hra hr hd)
          dsimp only [tkV] at HAR
          clear HC hra hrr
          go_upto_region 6 with (fail)
          have h4 := h30.below ((Below.refl _ W3).alloc (Nat.le_refl _) (.cells #[.int .i64 t.1, .string t.2.1, .int .i64 t.2.2] 111))
          have tb := World.alloc_heap_new W3 (.cells #[.int .i64 t.1, .string t.2.1, .int .i64 t.2.2] 111)
          have htb := h30.size
          generalize W3.alloc (.cells #[.int .i64 t.1, .string t.2.1, .int .i64 t.2.2] 111) = W4 at *
          generalize W3.heap.size = TB at *
          clear h30
          obtain ⟨c0, c1, c2, c3, c4, f⟩ := h4.rd.cells
          go_upto_region 10 with (fail)
          have hst : Stp X W4 (W4.setCell ⟨X, 2, none⟩ (.int .i64 ((n2 : Int) + 1))) := Stp.setCell X 2 _ W4
          have h5 : MI X v ts W (i2 + 1) (n2 + 1) 0 0 acc u (W4.setCell ⟨X, 2, none⟩ (.int .i64 ((n2 : Int) + 1))) := h4.stp hst (h4.rd.set hst (blk_set h4.rd.blk 2 _) h4.rd.fit (by omega))
          have tb5 := blk_grown tb hst (by have := h4.x0; simp; omega)
          generalize W4.setCell ⟨X, 2, none⟩ (.int .i64 ((n2 : Int) + 1)) = W5 at *
          clear h4 hst tb c0 c1 c2 c3 c4 f
          obtain ⟨c0, f0, f1⟩ := h5.row_cell
          have t0 : W5.cell? ⟨TB, 0, none⟩ = some (.int .i64 t.1) := blk_cell tb5 0
          have t1 : W5.cell? ⟨TB, 1, none⟩ = some (.string t.2.1) := blk_cell tb5 1
          have t2 : W5.cell? ⟨TB, 2, none⟩ = some (.int .i64 t.2.2) := blk_cell tb5 2
          have HX5 := h5.below (Below.drew' (Below.refl _ W5))
          go_region_law (first
              | (refine Kd.R_append_step PMsg.k42 (w0 := W6) W.heap.size (by rfl) (.tmp 35) (.tmp 40) 22 42 (.agg #[.int .i64 0, .string ⟨#[]⟩, .string ⟨#[]⟩, .int .i64 0, .string ⟨#[]⟩, .string ⟨#[]⟩, .slice none 0 0]) 104 rfl Tryz.underlying22 PMsg.info42 rfl (by decide) (by omega) u acc p [.int .i64 p.f0, .string p.f1, .string p.f2, .int .i64 p.f3, .string p.f4, .string p.f5, (.slice A6 p.f6.length cu6)] allOk (fun k => allOk k ∧ some k ≠ u.ownBlock) rfl rfl (part_M HX5 hr6) (fun _ hk => hk) (fun _ _ => trivial) h6.row (Below.refl _ _) (by have := h6.size; omega) (by omega) ?_; intro u7 W7 hr7 _ hg7 _; obtain ⟨A7, cu7, rfl⟩ := Kd.R_slice hr7; have f7 := blk_frozen (blk_grown h6.box hg7 (Kd.R_ne h6.row h6.box (by decide))) 0; have c7 : W7.cell? ⟨W.heap.size + 1, 0, none⟩ = some u := blk_cell (blk_grown h6.box hg7 (Kd.R_ne h6.row h6.box (by decide))) 0)
              | (go_simp; go_at_call 252; refine (HAR.out _ HX5.rd).mono ?_; rintro e' W6 ⟨p, u6, rfl, hr6, hte, hs6⟩; obtain ⟨i3, n3, pl3, e3, hrd6, HG⟩ := TEnd.todo hacc HRA.out HRR.out hte; have h6 := HX5.stp hs6 hrd6; obtain ⟨c6, g6, _⟩ := h6.row_cell; have hz6 := h6.size; obtain ⟨A6, cu6, rfl⟩ := Kd.R_slice hr6))
          all_goals
            have h8 := h6.set hg7 hr7
            rw [List.length_append, List.length_singleton] at h8
            go_wp2_with fail
            go_roundg g'
            case measure => omega
            case rel => exact ⟨i3, n3, pl3, e3, _, _, by omega, HG, h8⟩
      · skip
        have hk2 : t.1 = 1 ∨ t.1 = 2 := by rcases hk with h | h | h <;> simp_all
        have HB := Lib.hid (fun W' => by_leaf (X := X) W' t.1 hk2)
        have HL := Lib.hid (fun W' => leaf_any W' t d)
        dsimp only [tkV] at HL
        have hm1 : ∀ w, (method 350 137 (.agg #[]) "idiom/tree.read").run Tryz.prog w = .ok (251, .agg #[]) w := fun w => by kernel_rfl
        rw [HT.out] at HB
        clear hk hk2 hcase ht htk
        generalize kindV ts i2 0 = kv at *
        go_wp2_with fail
        refine HKA.out.mono ?_
        rintro e' W2 ⟨rfl, hd2⟩
        have h2 := h1.below hd2.below
        go_wp2_with fail
        refine (HB.out _).mono ?_
        rintro e' W3 ⟨rfl, rfl⟩
        go_wp2_with fail
        refine (HN.out _ h2.rd).mono ?_
        rintro e' W3 ⟨rfl, hr3, hs3⟩
        have h30 := h2.stp hs3 hr3
        clear h1 h2 hr3 hs3 hd2 HKA
        dsimp only [tkV]
        have hcap := h30.rd.cap
        have hlen := h30.rd.len
        have hfit := h30.rd.fit
        by_cases hn : n2 = 4096
        · have e1 : ((n2 : Int) == 4096) = true := by simp; omega
          have HF : Hid (r = .er 5 t.2.2) := Lib.hid (by rcases HC.out with h | h; exact h.2; exact absurd hn h.1)
          clear HC hn
          go_upto_region 6 with (fail)
          have h4 := h30.below ((Below.refl _ W3).alloc (Nat.le_refl _) (.cells #[.int .i64 t.1, .string t.2.1, .int .i64 t.2.2] 111))
          have tb := World.alloc_heap_new W3 (.cells #[.int .i64 t.1, .string t.2.1, .int .i64 t.2.2] 111)
          generalize W3.alloc (.cells #[.int .i64 t.1, .string t.2.1, .int .i64 t.2.2] 111) = W4 at *
          generalize W3.heap.size = TB at *
          clear h30
          obtain ⟨c0, c1, c2, c3, c4, f⟩ := h4.rd.cells
          have t2 : W4.cell? ⟨TB, 2, none⟩ = some (.int .i64 t.2.2) := blk_cell tb 2
          go_wp2_with fail
          refine (fails_rd h4.rd 5 t.2.2).mono ?_
          rintro e' W5 ⟨rfl, hr5, hs5⟩
          have h2 := h4.stp hs5 hr5
          clear c0 c1 c2 c3 c4 f t2 tb
          obtain ⟨c0, f0, f1⟩ := h2.row_cell
          have r0 : W5.cell? ⟨W.heap.size, 0, none⟩ = some (.slice none 0 0) := blk_cell h2.res 0
          obtain ⟨A, cu, rfl⟩ := Kd.R_slice h2.row
          go_wp2_with fail
          have hst := Stp.setCell W.heap.size 0 (.slice A acc.length cu) W5
          refine bodyPost_ret (results_row rfl rfl (blk_set h2.res 0 _) Tryz.underlying24 rfl (by kernel_rfl)) rfl ?_
          have hrd : Rd X v ts (i2 + 1) n2 t.2.2 5 (W5.setCell ⟨W.heap.size, 0, none⟩ (.slice A acc.length cu)) := h2.rd.keep hst fun k hk => by
            cases hk
            have := h2.x0
            exact .inr ⟨by omega, fun e => by have := h2.v0 _ e.symm; omega⟩
          exact ⟨acc, _, rfl, Kd.R_set h2.row h2.res (by decide) 0 _, by rw [HF.out]; exact ⟨by decide, _, _, hrd⟩, h2.st.grown hst fun k hk => by cases hk; exact Nat.le_refl _⟩
        · have e1 : ((n2 : Int) == 4096) = false := by simp; omega
          have HG : Hid (MTodo ts g' (i2 + 1) (n2 + 1) d 0 0 (acc ++ [leafP t]) r) := by
            rcases HC.out with h | ⟨_, h | h⟩
            · exact absurd h.1 hn
            · exact absurd h.1 h3
            · exact Lib.hid (.inl ⟨rfl, rfl, by simp only [List.length_append, List.length_singleton]; omega, h.2⟩)
          clear HC
          go_upto_region 6 with (fail)
          have h4 := h30.below ((Below.refl _ W3).alloc (Nat.le_refl _) (.cells #[.int .i64 t.1, .string t.2.1, .int .i64 t.2.2] 111))
          have tb := World.alloc_heap_new W3 (.cells #[.int .i64 t.1, .string t.2.1, .int .i64 t.2.2] 111)
          have htb := h30.size
          generalize W3.alloc (.cells #[.int .i64 t.1, .string t.2.1, .int .i64 t.2.2] 111) = W4 at *
          generalize W3.heap.size = TB at *
          clear h30
          obtain ⟨c0, c1, c2, c3, c4, f⟩ := h4.rd.cells
          go_upto_region 10 with (fail)
          have hst : Stp X W4 (W4.setCell ⟨X, 2, none⟩ (.int .i64 ((n2 : Int) + 1))) := Stp.setCell X 2 _ W4
          have h5 : MI X v ts W (i2 + 1) (n2 + 1) 0 0 acc u (W4.setCell ⟨X, 2, none⟩ (.int .i64 ((n2 : Int) + 1))) := h4.stp hst (h4.rd.set hst (blk_set h4.rd.blk 2 _) h4.rd.fit (by omega))
          have tb5 := blk_grown tb hst (by have := h4.x0; simp; omega)
          generalize W4.setCell ⟨X, 2, none⟩ (.int .i64 ((n2 : Int) + 1)) = W5 at *
          clear h4 hst tb c0 c1 c2 c3 c4 f
          obtain ⟨c0, f0, f1⟩ := h5.row_cell
          have t0 : W5.cell? ⟨TB, 0, none⟩ = some (.int .i64 t.1) := blk_cell tb5 0
          have t1 : W5.cell? ⟨TB, 1, none⟩ = some (.string t.2.1) := blk_cell tb5 1
          have t2 : W5.cell? ⟨TB, 2, none⟩ = some (.int .i64 t.2.2) := blk_cell tb5 2
          have HX5 := h5.below (Below.drew' (Below.refl _ W5))
          go_region_law (first
              | (refine Kd.R_append_step PMsg.k42 (w0 := W6) W.heap.size (by rfl) (.tmp 35) (.tmp 40) 22 42 (.agg #[.int .i64 0, .string ⟨#[]⟩, .string ⟨#[]⟩, .int .i64 0, .string ⟨#[]⟩, .string ⟨#[]⟩, .slice none 0 0]) 104 rfl Tryz.underlying22 PMsg.info42 rfl (by decide) (by omega) u acc (leafP t) [.int .i64 (leafP t).f0, .string (leafP t).f1, .string (leafP t).f2, .int .i64 (leafP t).f3, .string (leafP t).f4, .string (leafP t).f5, (.slice none 0 0)] allOk (fun k => allOk k ∧ some k ≠ u.ownBlock) rfl rfl (part_M h5 (leaf_M t _ _)) (fun _ hk => hk) (fun _ _ => trivial) h6.row (Below.refl _ _) (by have := h6.size; omega) (by omega) ?_; intro u7 W7 hr7 _ hg7 _; obtain ⟨A7, cu7, rfl⟩ := Kd.R_slice hr7; have f7 := blk_frozen (blk_grown h6.box hg7 (Kd.R_ne h6.row h6.box (by decide))) 0; have c7 : W7.cell? ⟨W.heap.size + 1, 0, none⟩ = some u := blk_cell (blk_grown h6.box hg7 (Kd.R_ne h6.row h6.box (by decide))) 0)
              | (go_simp; go_at_call 251; refine (HL.out _).mono ?_; rintro e' W6 ⟨rfl, hb6⟩; have h6 := HX5.below hb6; obtain ⟨c6, g6, _⟩ := h6.row_cell; have hz6 := h6.size))
          all_goals
            have h8 := h6.set hg7 hr7
            rw [List.length_append, List.length_singleton] at h8
            go_wp2_with fail
            go_roundg g'
            case measure => omega
            case rel => exact ⟨i2 + 1, n2 + 1, 0, 0, _, _, by omega, HG, h8⟩
    · have HP := Lib.hid (fun W' (hr : Rd X v ts i2 n2 pl e W') => HM.out.stop hk hr)
      have k1 : (kindV ts i2 e == 1) = false := by simpa using fun e => hk (.inl e)
      have k2 : (kindV ts i2 e == 2) = false := by simpa using fun e => hk (.inr (.inl e))
      have k3 : (kindV ts i2 e == 3) = false := by simpa using fun e => hk (.inr (.inr e))
      have HB := Lib.hid (fun W' => by_none (X := X) W' _ k1 k2 k3)
      clear hk k1 k2 k3
      generalize kindV ts i2 e = kv at *
      go_wp2_with fail
      refine HKA.out.mono ?_
      rintro e' W2 ⟨rfl, hd2⟩
      have h2 := h1.below hd2.below
      go_wp2_with fail
      refine (HB.out _).mono ?_
      rintro e' W3 ⟨rfl, rfl⟩
      obtain ⟨c0, f0, f1⟩ := h2.row_cell
      have r0 : W2.cell? ⟨W.heap.size, 0, none⟩ = some (.slice none 0 0) := blk_cell h2.res 0
      obtain ⟨A, cu, rfl⟩ := Kd.R_slice h2.row
      go_wp2_with fail
      have hst := Stp.setCell W.heap.size 0 (.slice A acc.length cu) W2
      refine bodyPost_ret (results_row rfl rfl (blk_set h2.res 0 _) Tryz.underlying24 rfl (by kernel_rfl)) rfl ?_
      have hrd : Rd X v ts i2 n2 pl e (W2.setCell ⟨W.heap.size, 0, none⟩ (.slice A acc.length cu)) := h2.rd.keep hst fun k hk => by
        cases hk
        have := h2.x0
        exact .inr ⟨by omega, fun e => by have := h2.v0 _ e.symm; omega⟩
      exact ⟨acc, _, rfl, Kd.R_set h2.row h2.res (by decide) 0 _, HP.out _ hrd, h2.st.grown hst fun k hk => by cases hk; exact Nat.le_refl _⟩
end
end Go.Proofs.YtcpglgoiienhkaaGreatDoor
