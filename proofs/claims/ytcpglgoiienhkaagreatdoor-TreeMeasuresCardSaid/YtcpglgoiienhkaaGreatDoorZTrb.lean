/- The reader of an argument. -/
import Derived.Test.YtcpglgoiienhkaaGreatDoorZTra
import Derived.Test.YtcpglgoiienhkaaGreatDoorZTtp
import Derived.Deep.DeepCutAuto
import Derived.Deep.CutBlock
import Derived.Deep.CutRange
set_option linter.unusedVariables false
set_option linter.unusedSimpArgs false

namespace Go.Proofs.YtcpglgoiienhkaaGreatDoor
open Go.RowKit Go.Shelf P Ext Go.Proofs.YtcpglgoiienhkaaGreatDoorW.PrintWords
abbrev zPt : Array Value := #[.int .i64 0, .string ⟨#[]⟩, .string ⟨#[]⟩, .int .i64 0, .string ⟨#[]⟩, .string ⟨#[]⟩, .slice none 0 0]
structure AI (X : Nat) (v : Value) (ts : List Tk) (W0 : World) (RB NB PB : Nat) (nm : Tk) (i n : Nat) (pl e : Int) (pc : Array Value) (W : World) : Prop where
  ri : RI X v ts W0 i n pl e W
  res : W.heap[RB]? = some (.cells zPt 42 (0, 0))
  nmb : W.heap[NB]? = some (.cells #[.int .i64 nm.1, .string nm.2.1, .int .i64 nm.2.2] 111 (0, 0))
  box : W.heap[PB]? = some (.cells pc 42 (0, 0))
  o1 : W0.heap.size ≤ RB
  o2 : W0.heap.size ≤ NB
  o3 : W0.heap.size ≤ PB
  d1 : RB ≠ PB
  d2 : NB ≠ PB
section
variable {X : Nat} {v : Value} {ts : List Tk} {W0 W W' : World} {RB NB PB : Nat} {nm : Tk} {i n : Nat} {pl e : Int} {pc : Array Value}
theorem AI.stp (h : AI X v ts W0 RB NB PB nm i n pl e pc W) (hs : Stp X W W') {i' n' : Nat} {pl' e' : Int} (hr : Rd X v ts i' n' pl' e' W') : AI X v ts W0 RB NB PB nm i' n' pl' e' pc W' := by
  have hx := h.ri.x0
  have h1 := h.o1
  have h2 := h.o2
  have h3 := h.o3
  exact ⟨h.ri.stp hs hr, blk_stp h.res hs (by omega), blk_stp h.nmb hs (by omega), blk_stp h.box hs (by omega), h1, h2, h3, h.d1, h.d2⟩
theorem AI.below (h : AI X v ts W0 RB NB PB nm i n pl e pc W) (hb : Below W.heap.size W W') : AI X v ts W0 RB NB PB nm i n pl e pc W' := h.stp (Stp.of_below hb) (h.ri.rd.below hb)
theorem AI.alloc (h : AI X v ts W0 RB NB PB nm i n pl e pc W) (o : Obj) : AI X v ts W0 RB NB PB nm i n pl e pc (W.alloc o) := h.below ((Below.refl _ W).alloc (Nat.le_refl _) _)
theorem AI.drew (h : AI X v ts W0 RB NB PB nm i n pl e pc W) : AI X v ts W0 RB NB PB nm i n pl e pc W.drew := h.below (Below.drew' (Below.refl _ W))
theorem AI.set (h : AI X v ts W0 RB NB PB nm i n pl e pc W) (j : Nat) (u : Value) : AI X v ts W0 RB NB PB nm i n pl e (pc.setIfInBounds j u) (W.setCell ⟨PB, j, none⟩ u) :=
  ⟨h.ri.set h.o3 j u, blk_set_far h.res h.d1 j u, blk_set_far h.nmb h.d2 j u, blk_set h.box j u, h.o1, h.o2, h.o3, h.d1, h.d2⟩
theorem AI.lt (h : AI X v ts W0 RB NB PB nm i n pl e pc W) : RB < W.heap.size ∧ NB < W.heap.size ∧ PB < W.heap.size ∧ X < W.heap.size := ⟨blk_lt h.res, blk_lt h.nmb, blk_lt h.box, h.ri.rd.lt⟩
theorem AI.grown (h : AI X v ts W0 RB NB PB nm i n pl e pc W) {row : Option Nat} (hg : W.grownBy W' row) {base : Nat} (hr : ∀ k, row = some k → base ≤ k) (b1 : RB < base) (b2 : NB < base) (b3 : PB < base) (b4 : W0.heap.size ≤ base) : AI X v ts W0 RB NB PB nm i n pl e pc W' := by
  have hx := h.ri.x0
  have ne : ∀ b, b < base → some b ≠ row := fun b hb e => by have := hr b e.symm; omega
  refine ⟨⟨h.ri.rd.keep hg fun k hk => ?_, h.ri.st.grown hg fun k hk => by have := hr k hk; omega, h.ri.x0, h.ri.v0⟩, blk_grown h.res hg (ne _ b1), blk_grown h.nmb hg (ne _ b2), blk_grown h.box hg (ne _ b3), h.o1, h.o2, h.o3, h.d1, h.d2⟩
  have := hr k hk
  exact .inr ⟨by omega, fun e => by have := h.ri.v0 _ e.symm; omega⟩
theorem AI.done (h : AI X v ts W0 RB NB PB nm i n pl e pc W) (hs : W.grownBy W' (some RB)) : RI X v ts W0 i n pl e W' := h.ri.own hs h.o1
end
section
variable {X : Nat} {v : Value} {ts : List Tk}
def CTodo (ts : List Tk) (g i n d : Nat) (pl e : Int) (acc : List Ct) (r : TR (List Ct)) : Prop :=
  (e = 0 ∧ pl = 0 ∧ acc.length ≤ 64 ∧ casT ts g i n d acc = some r) ∨ (e ≠ 0 ∧ r = .er e pl)
theorem CTodo.stop {g i n d : Nat} {pl e : Int} {acc : List Ct} {r : TR (List Ct)} (h : CTodo ts g i n d pl e acc r) (hk : ¬ (kindV ts i e = 10 ∨ kindV ts i e = 11)) : (e = 0 ∧ pl = 0 ∧ r = .ok i n acc) ∨ (e ≠ 0 ∧ r = .er e pl) := by
  rcases h with ⟨rfl, rfl, _, h⟩ | h
  · rw [kindV_ok] at hk
    cases g with
    | zero => simp [casT] at h
    | succ g =>
      rw [casT, if_neg hk] at h
      cases h
      exact .inl ⟨rfl, rfl, rfl⟩
  · exact .inr h
theorem CTodo.case {g i n d : Nat} {pl e : Int} {acc : List Ct} {r : TR (List Ct)} (h : CTodo ts g i n d pl e acc r) (hk : kindV ts i e = 10 ∨ kindV ts i e = 11) :
    e = 0 ∧ pl = 0 ∧ acc.length ≤ 64 ∧ ∃ g' ro, g = g' + 1 ∧ oneT ts g' i n acc.length d = some ro ∧ ro.bind (fun i2 n2 c => casT ts g' i2 n2 d (acc ++ [c])) = some r := by
  rcases h with ⟨rfl, rfl, hl, h⟩ | ⟨h, rfl⟩
  · rw [kindV_ok] at hk
    cases g with
    | zero => simp [casT] at h
    | succ g =>
      rw [casT, if_pos hk, Option.bind_eq_some_iff] at h
      obtain ⟨ro, h1, h2⟩ := h
      exact ⟨rfl, rfl, hl, g, ro, rfl, h1, h2⟩
  · rw [kindV_err h] at hk; simp at hk
theorem one_lt {g i n had d i2 n2 : Nat} {c : Ct} (h : oneT ts g i n had d = some (.ok i2 n2 c)) : had ≠ 64 := by
  intro e
  cases g with
  | zero => simp [oneT] at h
  | succ g =>
    rw [oneT, Option.bind_eq_some_iff] at h
    obtain ⟨t, _, h⟩ := h
    rw [if_pos e] at h
    cases h
theorem TEnd.ctodo {g i n d : Nat} {acc : List Ct} {r : TR (List Ct)} {ro : TR Ct} {c : Ct} {W : World} (hacc : acc.length ≤ 64) (hro : oneT ts g i n acc.length d = some ro) (h : ro.bind (fun i2 n2 c => casT ts g i2 n2 d (acc ++ [c])) = some r) (he : TEnd X v ts ro c W) :
    ∃ i3 n3 pl3 e3, Rd X v ts i3 n3 pl3 e3 W ∧ Hid (CTodo ts g i3 n3 d pl3 e3 (acc ++ [c]) r) := by
  cases ro with
  | er e a =>
    obtain ⟨h1, i3, n3, h2⟩ := he
    exact ⟨i3, n3, a, e, h2, Lib.hid (.inr ⟨h1, (Option.some.inj h).symm⟩)⟩
  | ok i3 n3 x =>
    obtain ⟨rfl, h2⟩ := he
    have := one_lt hro
    exact ⟨i3, n3, 0, 0, h2, Lib.hid (.inl ⟨rfl, rfl, by simp only [List.length_append, List.length_singleton]; omega, h⟩)⟩
theorem case_M {W W' : World} {base : Nat} {cs : List Ct} {u u6 : Value} {c : Ct} (hr : PMsg.k47.R 47 W base allOk u cs) (hu : PMsg.k42.R 42 W' W.heap.size allOk u6 c.f2.f0) (hb : base ≤ W.heap.size) :
    PMsg.k47.M W' base (fun k => allOk k ∧ some k ≠ u.ownBlock) c [.string c.f0, .bool c.f1, u6] := by
  have hl := Kd.R_lt hr
  refine PMsg.k47_mkM W' _ _ c (Kd.R_lower (Kd.R_mono (Kd.R_bound hu) fun k hk => ⟨trivial, fun e => ?_⟩) hb)
  have := hl k e.symm
  have := hk.2.1
  omega
theorem kd_some {i : Nat} {c : Int} (h : kdAt ts i = c) (hc : c ≠ 0) : ∃ t, ts[i]? = some t := by
  cases ht : ts[i]? with
  | none => rw [kdAt, ht] at h; exact absurd h.symm hc
  | some t => exact ⟨t, rfl⟩
theorem offTok_no {i : Nat} (h : kdAt ts i ≠ 9) : offTok ts i = (i, e0) := by
  unfold offTok
  unfold kdAt at h
  split
  · rename_i t ht
    rw [ht] at h
    rw [if_neg h]
  · rfl
theorem offTok_yes {i : Nat} {t : Tk} (ht : ts[i]? = some t) (h : kdAt ts i = 9) : offTok ts i = (i + 1, t.2.1) := by
  unfold offTok
  unfold kdAt at h
  rw [ht] at h ⊢
  simp only
  rw [if_pos h]
set_option maxRecDepth 100000 in
set_option maxHeartbeats 16000000 in
theorem targ_step (k : Nat) (hO : ∀ j, j ≤ k → TOneC X v ts j) : TArgC X v ts (k + 1) := by
  intro i n d t0 W r hm h hd
  rw [argT, Option.bind_eq_some_iff] at hm
  obtain ⟨nm, hnm, hm⟩ := hm
  have HO := Lib.hid hO
  have HC := Lib.hid hm
  have HNM := Lib.hid hnm
  have hx := h.lt
  have hf1 := fieldTok1
  clear hm hO hnm
  dsimp only [tkV]
  go_enter Tryz.func252, Tryz.ntmps252
  go_upto_region 1 with (fail)
  have a0 := (RI.start h).below (last3_below W (.cells #[.pointer (some ⟨X, 0, none⟩)] 139) (.cells #[.int .i64 t0.1, .string t0.2.1, .int .i64 t0.2.2] 111) (.cells zPt 42))
  have rb := last3 W (.cells #[.pointer (some ⟨X, 0, none⟩)] 139) (.cells #[.int .i64 t0.1, .string t0.2.1, .int .i64 t0.2.2] 111) (.cells zPt 42)
  have ab := first3 W (.cells #[.pointer (some ⟨X, 0, none⟩)] 139) (.cells #[.int .i64 t0.1, .string t0.2.1, .int .i64 t0.2.2] 111) (.cells zPt 42)
  have hz := size3 W (.cells #[.pointer (some ⟨X, 0, none⟩)] 139) (.cells #[.int .i64 t0.1, .string t0.2.1, .int .i64 t0.2.2] 111) (.cells zPt 42)
  have HZ := Lib.hid hz
  clear hz
  generalize ((W.alloc (.cells #[.pointer (some ⟨X, 0, none⟩)] 139)).alloc (.cells #[.int .i64 t0.1, .string t0.2.1, .int .i64 t0.2.2] 111)).alloc (.cells zPt 42) = W1 at *
  have z0 : W1.cell? ⟨W.heap.size, 0, none⟩ = some (.pointer (some ⟨X, 0, none⟩)) := blk_cell ab 0
  go_upto_region 2 with (fail)
  clear z0 ab
  have HRB : ∃ RB, RB = W.heap.size + 1 + 1 := ⟨_, rfl⟩
  obtain ⟨RB, hRB⟩ := HRB
  have HRBH := Lib.hid hRB
  rw [← hRB] at rb
  have hgoalRB := hRB
  clear hRB
  rw [← hgoalRB]
  clear hgoalRB
  go_wp2_with fail
  refine (next_any a0.rd HNM.out).mono ?_
  rintro e' W2 ⟨rfl, hr2, hs2⟩
  have a2 := a0.stp hs2 hr2
  have hRB := HRBH.out
  have rb2 := blk_stp rb hs2 (by omega)
  have hz2 := hs2.size
  rw [HZ.out] at hz2
  have hrb1 : W.heap.size ≤ RB := by omega
  have hrb2 : RB < W2.heap.size := by omega
  clear hRB HRBH hz2 HZ a0 rb hs2 hr2
  dsimp only [tkV]
  go_upto_region 3 with (fail)
  have a3 := a2.alloc (.cells #[.int .i64 nm.1, .string nm.2.1, .int .i64 nm.2.2] 111)
  have nb := World.alloc_heap_new W2 (.cells #[.int .i64 nm.1, .string nm.2.1, .int .i64 nm.2.2] 111)
  have rb3 := blk_alloc rb2 (.cells #[.int .i64 nm.1, .string nm.2.1, .int .i64 nm.2.2] 111)
  have hz3 : (W2.alloc (.cells #[.int .i64 nm.1, .string nm.2.1, .int .i64 nm.2.2] 111)).heap.size = W2.heap.size + 1 := by simp
  have HZ3 := Lib.hid hz3
  have hw2 := a2.size
  clear hz3
  generalize W2.alloc (.cells #[.int .i64 nm.1, .string nm.2.1, .int .i64 nm.2.2] 111) = W3 at *
  generalize W2.heap.size = NB at *
  clear a2 rb2
  have z1 : W3.cell? ⟨NB, 1, none⟩ = some (.string nm.2.1) := blk_cell nb 1
  go_upto_region 4 with (fail)
  clear z1
  have h4 : AI X v ts W RB NB W3.heap.size nm (i + 1) n 0 0 #[.int .i64 3, .string ⟨#[]⟩, .string nm.2.1, .int .i64 1, .string ⟨#[]⟩, .string ⟨#[]⟩, .slice none 0 0] (W3.alloc (.cells #[.int .i64 3, .string ⟨#[]⟩, .string nm.2.1, .int .i64 1, .string ⟨#[]⟩, .string ⟨#[]⟩, .slice none 0 0] 42)) :=
    ⟨a3.alloc _, blk_alloc rb3 _, blk_alloc nb _, World.alloc_heap_new W3 _, hrb1, hw2, by rw [HZ3.out]; omega, by rw [HZ3.out]; omega, by rw [HZ3.out]; omega⟩
  generalize W3.alloc (.cells #[.int .i64 3, .string ⟨#[]⟩, .string nm.2.1, .int .i64 1, .string ⟨#[]⟩, .string ⟨#[]⟩, .slice none 0 0] 42) = W4 at *
  generalize W3.heap.size = PB at *
  clear a3 nb rb3 HZ3 hrb1 hrb2 hw2
  have HKA := kind_any h4.ri.rd
  rw [kindV_ok] at HKA
  by_cases h14 : kdAt ts (i + 1) = 4
  · rw [h14] at HKA
    obtain ⟨t1, ht1⟩ := kd_some h14 (by decide)
    have HF : Hid (r = .ok (i + 2) n ⟨3, e0, nm.2.1, 1, e0, e0, []⟩) := Lib.hid (Option.some.inj ((if_pos h14).symm.trans HC.out)).symm
    have HT1 := Lib.hid ht1
    have HKH := Lib.hid HKA
    clear HC h14 ht1 HKA
    go_wp2_with fail
    refine HKH.out.mono ?_
    rintro e' W5 ⟨rfl, hd5⟩
    have h5 := h4.below hd5.below
    clear h4 hd5
    go_wp2_with fail
    refine (next_any h5.ri.rd HT1.out).mono ?_
    rintro e' W6 ⟨rfl, hr6, hs6⟩
    have h6 := h5.stp hs6 hr6
    clear h5 hs6 hr6
    dsimp only [tkV]
    have z0 : W6.cell? ⟨PB, 0, none⟩ = some (.int .i64 3) := blk_cell h6.box 0
    have z1 : W6.cell? ⟨PB, 1, none⟩ = some (.string ⟨#[]⟩) := blk_cell h6.box 1
    have z2 : W6.cell? ⟨PB, 2, none⟩ = some (.string nm.2.1) := blk_cell h6.box 2
    have z3 : W6.cell? ⟨PB, 3, none⟩ = some (.int .i64 1) := blk_cell h6.box 3
    have z4 : W6.cell? ⟨PB, 4, none⟩ = some (.string ⟨#[]⟩) := blk_cell h6.box 4
    have z5 : W6.cell? ⟨PB, 5, none⟩ = some (.string ⟨#[]⟩) := blk_cell h6.box 5
    have z6 : W6.cell? ⟨PB, 6, none⟩ = some (.slice none 0 0) := blk_cell h6.box 6
    have HB := Lib.hid h6.res
    go_wp2_with ((with_reducible refine gate_store (t := 42) (p := 6) rfl ?_); refine wp_row HB.out rfl rfl rfl rfl rfl (by kernel_rfl) rfl (by simp [Value.oneCell']) ?_; intro W9 s9 b9)
    refine bodyPost_ret (results_row rfl rfl b9 Tryz.underlying42 rfl (by kernel_rfl)) rfl ?_
    have h9 := h6.done s9
    exact ⟨⟨3, e0, nm.2.1, 1, e0, e0, []⟩, _, rfl, Kd.R_nil _ _ _ _ _, by rw [HF.out]; exact ⟨rfl, h9.rd⟩, h9.st⟩
  · have HC2 := (if_neg h14).symm.trans HC.out
    rw [Option.bind_eq_some_iff] at HC2
    obtain ⟨cm, hcm, hm⟩ := HC2
    rw [Option.bind_eq_some_iff] at hm
    obtain ⟨t, ht, hm⟩ := hm
    have e14 : (kdAt ts (i + 1) == 4) = false := by simpa using h14
    have HCM := Lib.hid hcm
    have HT := Lib.hid ht
    have HC3 := Lib.hid hm
    have HKH := Lib.hid HKA
    clear HC hcm ht hm h14 HKA
    generalize kdAt ts (i + 1) = kv at *
    go_wp2_with fail
    refine HKH.out.mono ?_
    rintro e' W5 ⟨rfl, hd5⟩
    have h5 := h4.below hd5.below
    clear h4 hd5
    go_wp2_with fail
    refine (next_any h5.ri.rd HCM.out).mono ?_
    rintro e' W6 ⟨rfl, hr6, hs6⟩
    have h6 := h5.stp hs6 hr6
    clear h5 hs6 hr6
    dsimp only [tkV]
    go_wp2_with fail
    refine (next_any h6.ri.rd HT.out).mono ?_
    rintro e' W7 ⟨rfl, hr7, hs7⟩
    have h7 := h6.stp hs7 hr7
    clear h6 hs7 hr7
    dsimp only [tkV]
    go_upto_region 9 with (fail)
    have h8 := h7.alloc (.cells #[.int .i64 t.1, .string t.2.1, .int .i64 t.2.2] 111)
    have tb := World.alloc_heap_new W7 (.cells #[.int .i64 t.1, .string t.2.1, .int .i64 t.2.2] 111)
    have htb := h7.lt.2.2.1
    have htx := h7.lt.2.2.2
    generalize W7.alloc (.cells #[.int .i64 t.1, .string t.2.1, .int .i64 t.2.2] 111) = W8 at *
    generalize W7.heap.size = TB at *
    clear h7
    have y1 : W8.cell? ⟨TB, 1, none⟩ = some (.string t.2.1) := blk_cell tb 1
    have hwl : t.2.1.toList = t.2.1.data.toList := ByteArray.toList_eq _
    have z0 : W8.cell? ⟨PB, 0, none⟩ = some (.int .i64 3) := blk_cell h8.box 0
    have g0 := blk_frozen h8.box 0
    go_upto_block 0 with (fail)
    go_cut [59] from 32 to 70 (fun _ wx => ∃ kd : Int, kd ≠ 0 ∧ Hid (manyKind t.2.1 = kd) ∧ AI X v ts W RB NB PB nm (i + 1 + 1 + 1) n 0 0 #[.int .i64 kd, .string ⟨#[]⟩, .string nm.2.1, .int .i64 1, .string ⟨#[]⟩, .string ⟨#[]⟩, .slice none 0 0] wx)
    case first =>
      by_cases hp4 : t.2.1.data.toList = wPlural
      · have e4 : (t.2.1.toList == [112, 108, 117, 114, 97, 108]) = true := by rw [hwl, hp4]; rfl
        have HMK : Hid (manyKind t.2.1 = 4) := Lib.hid (by unfold manyKind; rw [if_pos hp4])
        clear HC3 hwl hp4
        have h9 := h8.set 0 (.int .i64 4)
        go_wp2_with fail
        go_meet
        case rel => exact ⟨4, by decide, HMK, h9⟩
      · have e4 : (t.2.1.toList == [112, 108, 117, 114, 97, 108]) = false := by rw [hwl]; exact beq_eq_false_iff_ne.2 hp4
        by_cases hp5 : t.2.1.data.toList = wOrdinal
        · have e5 : (t.2.1.toList == [115, 101, 108, 101, 99, 116, 111, 114, 100, 105, 110, 97, 108]) = true := by rw [hwl, hp5]; rfl
          have HMK : Hid (manyKind t.2.1 = 5) := Lib.hid (by unfold manyKind; rw [if_neg hp4]; rw [if_pos hp5])
          clear HC3 hwl hp4 hp5
          have h9 := h8.set 0 (.int .i64 5)
          go_wp2_with fail
          go_meet
          case rel => exact ⟨5, by decide, HMK, h9⟩
        · have e5 : (t.2.1.toList == [115, 101, 108, 101, 99, 116, 111, 114, 100, 105, 110, 97, 108]) = false := by rw [hwl]; exact beq_eq_false_iff_ne.2 hp5
          by_cases hp6 : t.2.1.data.toList = wSelect
          · have e6 : (t.2.1.toList == [115, 101, 108, 101, 99, 116]) = true := by rw [hwl, hp6]; rfl
            have HMK : Hid (manyKind t.2.1 = 6) := Lib.hid (by unfold manyKind; rw [if_neg hp4]; rw [if_neg hp5]; rw [if_pos hp6])
            clear HC3 hwl hp4 hp5 hp6
            have h9 := h8.set 0 (.int .i64 6)
            go_wp2_with fail
            go_meet
            case rel => exact ⟨6, by decide, HMK, h9⟩
          · have e6 : (t.2.1.toList == [115, 101, 108, 101, 99, 116]) = false := by rw [hwl]; exact beq_eq_false_iff_ne.2 hp6
            by_cases hp7 : t.2.1.data.toList = wChoice
            · have e7 : (t.2.1.toList == [99, 104, 111, 105, 99, 101]) = true := by rw [hwl, hp7]; rfl
              have HMK : Hid (manyKind t.2.1 = 7) := Lib.hid (by unfold manyKind; rw [if_neg hp4]; rw [if_neg hp5]; rw [if_neg hp6]; rw [if_pos hp7])
              clear HC3 hwl hp4 hp5 hp6 hp7
              have h9 := h8.set 0 (.int .i64 7)
              go_wp2_with fail
              go_meet
              case rel => exact ⟨7, by decide, HMK, h9⟩
            · have e7 : (t.2.1.toList == [99, 104, 111, 105, 99, 101]) = false := by rw [hwl]; exact beq_eq_false_iff_ne.2 hp7
              have HMK : Hid (manyKind t.2.1 = 0) := Lib.hid (by unfold manyKind; rw [if_neg hp4, if_neg hp5, if_neg hp6, if_neg hp7])
              have HC4 := (if_pos HMK.out).symm.trans HC3.out
              clear HC3 HMK hp4 hp5 hp6 hp7 hwl
              by_cases hb : byType t.2.1 = 0
              · have HF : Hid (r = .er 200 t.2.2) := Lib.hid (Option.some.inj ((if_pos hb).symm.trans HC4)).symm
                have HBT := ByType_any t.2.1
                rw [hb] at HBT
                have HBH := Lib.hid HBT
                clear HC4 hb HBT
                have y2 : W8.cell? ⟨TB, 2, none⟩ = some (.int .i64 t.2.2) := blk_cell tb 2
                go_wp2_with fail
                refine (HBH.out _).mono ?_
                rintro e' W9 ⟨rfl, hb9⟩
                have h9 := h8.below hb9
                have tb9 := blk_below tb hb9
                clear h8 tb hb9 y1 y2
                have y2 : W9.cell? ⟨TB, 2, none⟩ = some (.int .i64 t.2.2) := blk_cell tb9 2
                have ez : decide ((0 : Nat) ≠ 0) = false := rfl
                go_wp2_with fail
                refine (fails_rd h9.ri.rd 200 t.2.2).mono ?_
                rintro e' W10 ⟨rfl, hr10, hs10⟩
                have h10 := h9.stp hs10 hr10
                clear h9 tb9 y2 hs10 hr10
                have z0 : W10.cell? ⟨PB, 0, none⟩ = some (.int .i64 3) := blk_cell h10.box 0
                have z1 : W10.cell? ⟨PB, 1, none⟩ = some (.string ⟨#[]⟩) := blk_cell h10.box 1
                have z2 : W10.cell? ⟨PB, 2, none⟩ = some (.string nm.2.1) := blk_cell h10.box 2
                have z3 : W10.cell? ⟨PB, 3, none⟩ = some (.int .i64 1) := blk_cell h10.box 3
                have z4 : W10.cell? ⟨PB, 4, none⟩ = some (.string ⟨#[]⟩) := blk_cell h10.box 4
                have z5 : W10.cell? ⟨PB, 5, none⟩ = some (.string ⟨#[]⟩) := blk_cell h10.box 5
                have z6 : W10.cell? ⟨PB, 6, none⟩ = some (.slice none 0 0) := blk_cell h10.box 6
                have HB := Lib.hid h10.res
                go_wp2_with ((with_reducible refine gate_store (t := 42) (p := 6) rfl ?_); refine wp_row HB.out rfl rfl rfl rfl rfl (by kernel_rfl) rfl (by simp [Value.oneCell']) ?_; intro W11 s11 b11)
                refine bodyPost_ret (results_row rfl rfl b11 Tryz.underlying42 rfl (by kernel_rfl)) rfl ?_
                have h11 := h10.done s11
                exact ⟨⟨3, e0, nm.2.1, 1, e0, e0, []⟩, _, rfl, Kd.R_nil _ _ _ _ _, by rw [HF.out]; exact ⟨by decide, _, _, h11.rd⟩, h11.st⟩
              · have HC5 := (if_neg hb).symm.trans HC4
                rw [Option.map_eq_some_iff] at HC5
                obtain ⟨q, hq, hrq⟩ := HC5
                have HF := Lib.hid hrq.symm
                have HQ := Lib.hid hq
                have HBT := ByType_any t.2.1
                have eb : decide (byType t.2.1 ≠ 0) = true := decide_eq_true hb
                rw [eb] at HBT
                have HBH := Lib.hid HBT
                clear HC4 hb HBT hq hrq eb
                generalize byType t.2.1 = bt at *
                go_wp2_with fail
                refine (HBH.out _).mono ?_
                rintro e' W9 ⟨rfl, hb9⟩
                have h9 := h8.below hb9
                clear h8 tb hb9 y1
                have z3 : W9.cell? ⟨PB, 3, none⟩ = some (.int .i64 1) := blk_cell h9.box 3
                have g3 := blk_frozen h9.box 3
                go_upto_region 15 with (fail)
                have h10 := h9.set 3 (.int .i64 bt)
                clear z3 g3
                generalize W9.setCell ⟨PB, 3, none⟩ (.int .i64 bt) = W10 at *
                clear h9
                have HKA := kind_any h10.ri.rd
                rw [kindV_ok] at HKA
                by_cases h6 : kdAt ts (i + 3) = 6
                · have HS : ∃ cm3 st cl, ts[i + 3]? = some cm3 ∧ ts[i + 4]? = some st ∧ ts[i + 5]? = some cl ∧ q = (i + 6, st.2.1) := by
                    have := HQ.out
                    unfold simpleEnd at this
                    rw [if_pos h6, Option.bind_eq_some_iff] at this
                    obtain ⟨st, h1, h2⟩ := this
                    rw [Option.map_eq_some_iff] at h2
                    obtain ⟨cl, h3, h4⟩ := h2
                    obtain ⟨cm3, h5⟩ := kd_some h6 (by decide)
                    exact ⟨cm3, st, cl, h5, h1, h3, h4.symm⟩
                  obtain ⟨cm3, st, cl, h1, h2, h3, rfl⟩ := HS
                  have H1 := Lib.hid h1
                  have H2 := Lib.hid h2
                  have H3 := Lib.hid h3
                  rw [show (i + 1 + 1 + 1) = i + 3 from rfl, h6] at HKA
                  have HKH := Lib.hid HKA
                  clear HQ h6 h1 h2 h3 HKA
                  go_wp2_with fail
                  refine HKH.out.mono ?_
                  rintro e' Wa ⟨rfl, hda⟩
                  have ha := h10.below hda.below
                  clear h10 hda HKH
                  go_wp2_with fail
                  refine (next_any ha.ri.rd H1.out).mono ?_
                  rintro e' Wb ⟨rfl, hrb, hsb⟩
                  have hb := ha.stp hsb hrb
                  clear ha hsb hrb
                  dsimp only [tkV]
                  go_wp2_with fail
                  refine (next_any hb.ri.rd H2.out).mono ?_
                  rintro e' Wc ⟨rfl, hrc, hsc⟩
                  have hc := hb.stp hsc hrc
                  clear hb hsc hrc
                  dsimp only [tkV]
                  have z4 : Wc.cell? ⟨PB, 4, none⟩ = some (.string ⟨#[]⟩) := blk_cell hc.box 4
                  have g4 := blk_frozen hc.box 4
                  go_upto_region 18 with (fail)
                  have h12 := hc.set 4 (.string st.2.1)
                  clear z4 g4
                  generalize Wc.setCell ⟨PB, 4, none⟩ (.string st.2.1) = W12 at *
                  clear hc
                  go_wp2_with fail
                  refine (next_any h12.ri.rd H3.out).mono ?_
                  rintro e' Wd ⟨rfl, hrd, hsd⟩
                  have hd4 := h12.stp hsd hrd
                  clear h12 hsd hrd
                  dsimp only [tkV]
                  have z0 : Wd.cell? ⟨PB, 0, none⟩ = some (.int .i64 3) := blk_cell hd4.box 0
                  have z1 : Wd.cell? ⟨PB, 1, none⟩ = some (.string ⟨#[]⟩) := blk_cell hd4.box 1
                  have z2 : Wd.cell? ⟨PB, 2, none⟩ = some (.string nm.2.1) := blk_cell hd4.box 2
                  have z3 : Wd.cell? ⟨PB, 3, none⟩ = some (.int .i64 bt) := blk_cell hd4.box 3
                  have z4 : Wd.cell? ⟨PB, 4, none⟩ = some (.string st.2.1) := blk_cell hd4.box 4
                  have z5 : Wd.cell? ⟨PB, 5, none⟩ = some (.string ⟨#[]⟩) := blk_cell hd4.box 5
                  have z6 : Wd.cell? ⟨PB, 6, none⟩ = some (.slice none 0 0) := blk_cell hd4.box 6
                  have HB := Lib.hid hd4.res
                  go_wp2_with ((with_reducible refine gate_store (t := 42) (p := 6) rfl ?_); refine wp_row HB.out rfl rfl rfl rfl rfl (by kernel_rfl) rfl (by simp [Value.oneCell']) ?_; intro W11 s11 b11)
                  refine bodyPost_ret (results_row rfl rfl b11 Tryz.underlying42 rfl (by kernel_rfl)) rfl ?_
                  have h11 := hd4.done s11
                  exact ⟨⟨3, e0, nm.2.1, (bt : Nat), st.2.1, e0, []⟩, _, rfl, Kd.R_nil _ _ _ _ _, by rw [HF.out]; exact ⟨rfl, h11.rd⟩, h11.st⟩
                · have HS : ∃ cl, ts[i + 3]? = some cl ∧ q = (i + 4, e0) := by
                    have := HQ.out
                    unfold simpleEnd at this
                    rw [if_neg h6, Option.map_eq_some_iff] at this
                    obtain ⟨cl, h3, h4⟩ := this
                    exact ⟨cl, h3, h4.symm⟩
                  obtain ⟨cl, h3, rfl⟩ := HS
                  have H3 := Lib.hid h3
                  have e6 : (kdAt ts (i + 1 + 1 + 1) == 6) = false := by simpa using h6
                  have HKH := Lib.hid HKA
                  clear HQ h6 h3 HKA
                  generalize kdAt ts (i + 1 + 1 + 1) = kv6 at *
                  go_wp2_with fail
                  refine HKH.out.mono ?_
                  rintro e' Wa ⟨rfl, hda⟩
                  have ha := h10.below hda.below
                  clear h10 hda HKH
                  go_wp2_with fail
                  refine (next_any ha.ri.rd H3.out).mono ?_
                  rintro e' Wd ⟨rfl, hrd, hsd⟩
                  have hd4 := ha.stp hsd hrd
                  clear ha hsd hrd
                  dsimp only [tkV]
                  have z0 : Wd.cell? ⟨PB, 0, none⟩ = some (.int .i64 3) := blk_cell hd4.box 0
                  have z1 : Wd.cell? ⟨PB, 1, none⟩ = some (.string ⟨#[]⟩) := blk_cell hd4.box 1
                  have z2 : Wd.cell? ⟨PB, 2, none⟩ = some (.string nm.2.1) := blk_cell hd4.box 2
                  have z3 : Wd.cell? ⟨PB, 3, none⟩ = some (.int .i64 bt) := blk_cell hd4.box 3
                  have z4 : Wd.cell? ⟨PB, 4, none⟩ = some (.string ⟨#[]⟩) := blk_cell hd4.box 4
                  have z5 : Wd.cell? ⟨PB, 5, none⟩ = some (.string ⟨#[]⟩) := blk_cell hd4.box 5
                  have z6 : Wd.cell? ⟨PB, 6, none⟩ = some (.slice none 0 0) := blk_cell hd4.box 6
                  have HB := Lib.hid hd4.res
                  go_wp2_with ((with_reducible refine gate_store (t := 42) (p := 6) rfl ?_); refine wp_row HB.out rfl rfl rfl rfl rfl (by kernel_rfl) rfl (by simp [Value.oneCell']) ?_; intro W11 s11 b11)
                  refine bodyPost_ret (results_row rfl rfl b11 Tryz.underlying42 rfl (by kernel_rfl)) rfl ?_
                  have h11 := hd4.done s11
                  exact ⟨⟨3, e0, nm.2.1, (bt : Nat), e0, e0, []⟩, _, rfl, Kd.R_nil _ _ _ _ _, by rw [HF.out]; exact ⟨rfl, h11.rd⟩, h11.st⟩
    case rest =>
      obtain ⟨kd, hkd, HMK, h9⟩ := hcut
      have HC4 := (if_neg (by rw [HMK.out]; exact hkd)).symm.trans HC3.out
      rw [Option.bind_eq_some_iff] at HC4
      obtain ⟨cm2, hcm2, hm⟩ := HC4
      rw [Option.bind_eq_some_iff] at hm
      obtain ⟨rc, hrc, hm⟩ := hm
      rw [HMK.out] at hm
      have HCM2 := Lib.hid hcm2
      have HRC := Lib.hid hrc
      have HC5 := Lib.hid hm
      clear HC3 hcm2 hrc hm HMK hkd y1 hwl z0 g0 tb h8 htb htx
      generalize wc = W9 at *
      have z3 : W9.cell? ⟨PB, 3, none⟩ = some (.int .i64 1) := blk_cell h9.box 3
      have g3 := blk_frozen h9.box 3
      go_upto_region 29 with (fail)
      have h10 := h9.set 3 (.int .i64 0)
      clear z3 g3
      generalize W9.setCell ⟨PB, 3, none⟩ (.int .i64 0) = W10 at *
      clear h9
      go_wp2_with fail
      refine (next_any h10.ri.rd HCM2.out).mono ?_
      rintro e' W11 ⟨rfl, hr11, hs11⟩
      have h11 := h10.stp hs11 hr11
      clear h10 hs11 hr11
      dsimp only [tkV]
      have HKA := kind_any h11.ri.rd
      rw [kindV_ok] at HKA
      have HKV : ∃ kv, kdAt ts (i + 1 + 1 + 1 + 1) = kv := ⟨_, rfl⟩
      obtain ⟨kv9, hkv⟩ := HKV
      rw [hkv] at HKA
      have HKV := Lib.hid hkv
      have HKH := Lib.hid HKA
      clear HKA hkv
      go_wp2_with fail
      refine HKH.out.mono ?_
      rintro e' Wa ⟨rfl, hda⟩
      have ha := h11.below hda.below
      clear h11 hda HKH
      go_upto_if 76 with (fail)
      go_cut [77] from 77 to 80 (fun _ wx => ∃ (i5 : Nat) (off : ByteArray), Hid (offTok ts (i + 4) = (i5, off)) ∧ AI X v ts W RB NB PB nm i5 n 0 0 #[.int .i64 kd, .string ⟨#[]⟩, .string nm.2.1, .int .i64 0, .string ⟨#[]⟩, .string off, .slice none 0 0] wx)
      case first =>
        by_cases h9k : kv9 = 9
        · have e9 : (kv9 == 9) = true := by simpa using h9k
          obtain ⟨tq, htq⟩ := kd_some (HKV.out.trans h9k) (by decide)
          have HOF : Hid (offTok ts (i + 4) = (i + 5, tq.2.1)) := Lib.hid (offTok_yes (i := i + 4) htq (HKV.out.trans h9k))
          have HTO := Lib.hid htq
          clear h9k htq
          go_wp2_with fail
          refine (next_any ha.ri.rd HTO.out).mono ?_
          rintro e' Wb ⟨rfl, hrb, hsb⟩
          have hb := ha.stp hsb hrb
          dsimp only [tkV]
          have z5 : Wb.cell? ⟨PB, 5, none⟩ = some (.string ⟨#[]⟩) := blk_cell hb.box 5
          have g5 := blk_frozen hb.box 5
          have h12 := hb.set 5 (.string tq.2.1)
          go_wp2_with fail
          go_meet
          case rel => exact ⟨i + 5, tq.2.1, HOF, h12⟩
        · have e9 : (kv9 == 9) = false := by simpa using h9k
          have HOF : Hid (offTok ts (i + 4) = (i + 4, e0)) := Lib.hid (offTok_no (i := i + 4) (by rw [show i + 4 = i + 1 + 1 + 1 + 1 from rfl, HKV.out]; exact h9k))
          go_wp2_with fail
          go_meet
          case rel => exact ⟨i + 4, e0, HOF, ha⟩
      case rest =>
        obtain ⟨i5, off, HOF, h12⟩ := hcut
        have hof1 : (offTok ts (i + 4)).1 = i5 := by rw [HOF.out]
        have hof2 : (offTok ts (i + 4)).2 = off := by rw [HOF.out]
        rw [hof1] at HRC
        rw [hof2] at HC5
        clear hof1 hof2 HOF ha HKV
        generalize wc = W12 at *
        have HBS : Hid (RB < W12.heap.size ∧ NB < W12.heap.size ∧ PB < W12.heap.size ∧ X < W12.heap.size ∧ W.heap.size ≤ W12.heap.size) := Lib.hid ⟨h12.lt.1, h12.lt.2.1, h12.lt.2.2.1, h12.lt.2.2.2, h12.ri.size⟩
        have HBW : Hid (W12.heap.size ≤ W12.heap.size) := Lib.hid (Nat.le_refl _)
        generalize hBS : W12.heap.size = BS at *
        have HBE := Lib.hid hBS
        clear hBS
        go_wp2_with fail
        go_loopg [81] k (fun g _ wr => ∃ (i2 n2 : Nat) (pl e : Int) (cs : List Ct) (u : Value), g ≤ k ∧ Hid (CTodo ts g i2 n2 d pl e cs rc) ∧ AI X v ts W RB NB PB nm i2 n2 pl e #[.int .i64 kd, .string ⟨#[]⟩, .string nm.2.1, .int .i64 0, .string ⟨#[]⟩, .string off, u] wr ∧ PMsg.k47.R 47 wr BS allOk u cs ∧ BS ≤ wr.heap.size)
        case atStart => exact ⟨_, n, 0, 0, [], _, Nat.le_refl k, Lib.hid (.inl ⟨rfl, rfl, Nat.zero_le _, HRC.out⟩), h12, Kd.R_nil _ _ _ _ _, Nat.le_of_eq HBE.out.symm⟩
        case round =>
          obtain ⟨i2, n2, pl, e, cs, u, hgk, HM, h13, hrow, hbw⟩ := hrel
          clear HRC h12 HBE HBW
          obtain ⟨Au, cu, rfl⟩ := Kd.R_slice hrow
          have HKV : ∃ kv, kindV ts i2 e = kv := ⟨_, rfl⟩
          obtain ⟨kv2, hkv⟩ := HKV
          have HKV := Lib.hid hkv
          clear hkv
          have HK : Hid (∀ W', Rd X v ts i2 n2 pl e W' → Calls Tryz.prog 77 #[.pointer (some ⟨X, 0, none⟩)] W' fun e' W'' => e' = .returned (.int .i64 kv2) ∧ Drawn0 W' W'') := Lib.hid (fun W' h => by have := kind_any h; rw [HKV.out] at this; exact this)
          go_upto_region 32 with (fail)
          go_cut [88] from 81 to 99 (fun s88 wx => ∃ bq : Bool, s88 = .bool bq ∧ Hid (bq = ((kv2 == 10) || (kv2 == 11))) ∧ AI X v ts W RB NB PB nm i2 n2 pl e #[.int .i64 kd, .string ⟨#[]⟩, .string nm.2.1, .int .i64 0, .string ⟨#[]⟩, .string off, (.slice Au cs.length cu)] wx ∧ PMsg.k47.R 47 wx BS allOk (.slice Au cs.length cu) cs ∧ BS ≤ wx.heap.size)
          case first =>
            cases e10 : (kv2 == 10) with
            | true =>
              go_wp2_with fail
              refine (HK.out _ h13.ri.rd).mono ?_
              rintro e' W14 ⟨rfl, hd14⟩
              go_wp2_with fail
              go_meet
              case rel => exact ⟨_, rfl, Lib.hid (by rw [e10]; rfl), h13.below hd14.below, Kd.R_below hrow hd14.below, Nat.le_trans hbw hd14.below.size⟩
            | false =>
              go_wp2_with fail
              refine (HK.out _ h13.ri.rd).mono ?_
              rintro e' W14 ⟨rfl, hd14⟩
              have h14 := h13.below hd14.below
              have hrow2 := Kd.R_below hrow hd14.below
              have hbw2 := Nat.le_trans hbw hd14.below.size
              clear h13 hrow hbw hd14
              go_wp2_with fail
              refine (HK.out _ h14.ri.rd).mono ?_
              rintro e' W15 ⟨rfl, hd15⟩
              go_wp2_with fail
              go_meet
              case rel => exact ⟨_, rfl, Lib.hid (by rw [e10]; rfl), h14.below hd15.below, Kd.R_below hrow2 hd15.below, Nat.le_trans hbw2 hd15.below.size⟩
          case rest =>
            obtain ⟨bq, rfl, HBQ, h14, hrow2, hbw2⟩ := hcut
            clear h13 hrow hbw HK
            generalize wc = W14 at *
            by_cases hk : kv2 = 10 ∨ kv2 = 11
            · obtain ⟨rfl, rfl, hcs, g', ro, hg', hro, hrr⟩ := HM.out.case (by rw [HKV.out]; exact hk)
              have HRO := Lib.hid hro
              have HRR := Lib.hid hrr
              have HON := Lib.hid (fun W' (hr : Rd X v ts i2 n2 0 0 W') => HO.out g' (by omega) i2 n2 cs.length d W' ro hro hr hd hcs)
              obtain rfl : bq = true := HBQ.out.trans (by rcases hk with h | h <;> rw [h] <;> decide)
              clear hro hrr HM hk
              have hzz : BS ≤ W14.heap.size := hbw2
              have hbRB := HBS.out
              have z6 : W14.cell? ⟨PB, 6, none⟩ = some (.slice Au cs.length cu) := blk_cell h14.box 6
              go_upto_region 33 with (fail)
              have HX14 := h14.drew
              have HR14 := Kd.R_below hrow2 (Below.drew' (Below.refl _ W14))
              go_region_law (first
                | (refine Kd.R_append_step PMsg.k47 (w0 := W15) BS (by rfl) (.tmp 90) (.tmp 97) 40 47 (.agg #[(.string ⟨#[]⟩), (.bool false), (.slice none 0 0)]) 48 rfl Tryz.underlying40 PMsg.info47 rfl (by decide) (by omega) (.slice Au cs.length cu) cs c [.string c.f0, .bool c.f1, .slice A6 c.f2.f0.length cu6] allOk (fun k => allOk k ∧ some k ≠ (Value.slice Au cs.length cu).ownBlock) rfl rfl (case_M HR14 hr15 hzz) (fun _ hk => hk) (fun _ _ => trivial) hrow3 (Below.refl _ _) (Nat.le_trans hzz hs15.size) (by omega) ?_; intro u7 W16 hr16 _ hg16 _; obtain ⟨A7, cu7, rfl⟩ := Kd.R_slice hr16; have h16 := h15.grown hg16 (Kd.R_base hrow3) hbRB.1 hbRB.2.1 hbRB.2.2.1 hbRB.2.2.2.2; have f7 := blk_frozen h16.box 6; have c7 : W16.cell? ⟨PB, 6, none⟩ = some (.slice Au cs.length cu) := blk_cell h16.box 6)
                | (go_simp; go_at_call 253; refine (HON.out _ HX14.ri.rd).mono ?_; rintro e' W15 ⟨c, u6, rfl, hr15, hte, hs15⟩; obtain ⟨i3, n3, pl3, e3, hrd15, HG⟩ := TEnd.ctodo hcs HRO.out HRR.out hte; have h15 := HX14.stp hs15 hrd15; have hrow3 := R_stp HR14 hs15 hbRB.2.2.2.1; obtain ⟨A6, cu6, rfl⟩ := Kd.R_slice hr15; have c6 : W15.cell? ⟨PB, 6, none⟩ = some (.slice Au cs.length cu) := blk_cell h15.box 6; have hz15 := h15.lt.2.2.1))
              all_goals
                have h17 := h16.set 6 (.slice A7 (cs ++ [c]).length cu7)
                have hrow4 := R_stp hr16 (Stp.setCell PB 6 (.slice A7 (cs ++ [c]).length cu7) W16) hbRB.2.2.1
                have hbw4 : BS ≤ (W16.setCell ⟨PB, 6, none⟩ (.slice A7 (cs ++ [c]).length cu7)).heap.size := Nat.le_trans (Nat.le_trans (Nat.le_trans hzz hs15.size) hg16.size) (Stp.setCell PB 6 _ W16).size
                rw [List.length_append, List.length_singleton] at h17 hrow4 hbw4
                go_wp2_with fail
                go_roundg g'
                case measure => omega
                case rel => exact ⟨i3, n3, pl3, e3, cs ++ [c], _, by omega, HG, h17, hrow4, hbw4⟩
            · have HST := Lib.hid (HM.out.stop (by rw [HKV.out]; exact hk))
              obtain rfl : bq = false := HBQ.out.trans (by
                rw [Bool.or_eq_false_iff]
                exact ⟨by simpa using fun e => hk (.inl e), by simpa using fun e => hk (.inr e)⟩)
              clear HM hk HKV
              obtain ⟨c0, c1, c2, c3, c4, f⟩ := h14.ri.rd.cells
              have hbRB := HBS.out
              by_cases he : e = 0
              · have HST2 : r = (if cs = [] then TR.er 200 nm.2.2 else r) ∧ pl = 0 ∧ (cs ≠ [] → ∃ cl, ts[i2]? = some cl ∧ r = .ok (i2 + 1) n2 ⟨kd, e0, nm.2.1, 0, e0, off, cs⟩) := by
                  rcases HST.out with ⟨_, h1, h2⟩ | ⟨h1, _⟩
                  · have h3 := HC5.out
                    rw [h2] at h3
                    simp only [TR.bind] at h3
                    split at h3
                    · rename_i hcs0
                      rw [if_pos hcs0]
                      exact ⟨(Option.some.inj h3).symm, h1, fun h => absurd hcs0 h⟩
                    · rename_i hcs0
                      rw [if_neg hcs0]
                      rw [Option.map_eq_some_iff] at h3
                      obtain ⟨cl, h4, h5⟩ := h3
                      exact ⟨rfl, h1, fun _ => ⟨cl, h4, h5.symm⟩⟩
                  · exact absurd he h1
                obtain ⟨hr0, hpl, hr1⟩ := HST2
                subst he hpl
                have ee : ((0 : Int) != 0) = false := rfl
                have z6 : W14.cell? ⟨PB, 6, none⟩ = some (.slice Au cs.length cu) := blk_cell h14.box 6
                by_cases hcs0 : cs = []
                · have HF : Hid (r = .er 200 nm.2.2) := Lib.hid (by rw [if_pos hcs0] at hr0; exact hr0)
                  have el : ((cs.length : Int) == 0) = true := by rw [hcs0]; rfl
                  clear HST HC5 hr0 hr1 hcs0
                  have y2 : W14.cell? ⟨NB, 2, none⟩ = some (.int .i64 nm.2.2) := blk_cell h14.nmb 2
                  go_wp2_with fail
                  refine (fails_rd h14.ri.rd 200 nm.2.2).mono ?_
                  rintro e' W15 ⟨rfl, hr15, hs15⟩
                  have h15 := h14.stp hs15 hr15
                  have hrow3 := R_stp hrow2 hs15 hbRB.2.2.2.1
                  clear c0 c1 c2 c3 c4 f z6 y2 h14 hrow2 hs15 hr15
                  have z0 : W15.cell? ⟨PB, 0, none⟩ = some (.int .i64 kd) := blk_cell h15.box 0
                  have z1 : W15.cell? ⟨PB, 1, none⟩ = some (.string ⟨#[]⟩) := blk_cell h15.box 1
                  have z2 : W15.cell? ⟨PB, 2, none⟩ = some (.string nm.2.1) := blk_cell h15.box 2
                  have z3 : W15.cell? ⟨PB, 3, none⟩ = some (.int .i64 0) := blk_cell h15.box 3
                  have z4 : W15.cell? ⟨PB, 4, none⟩ = some (.string ⟨#[]⟩) := blk_cell h15.box 4
                  have z5 : W15.cell? ⟨PB, 5, none⟩ = some (.string off) := blk_cell h15.box 5
                  have z6 : W15.cell? ⟨PB, 6, none⟩ = some (.slice Au cs.length cu) := blk_cell h15.box 6
                  have HB := Lib.hid h15.res
                  go_wp2_with ((with_reducible refine gate_store (t := 42) (p := 6) rfl ?_); refine wp_row HB.out rfl rfl rfl rfl rfl (by kernel_rfl) rfl (by simp [Value.oneCell']) ?_; intro W16 s16 b16)
                  refine bodyPost_ret (results_row rfl rfl b16 Tryz.underlying42 rfl (by kernel_rfl)) rfl ?_
                  have h16 := h15.done s16
                  exact ⟨⟨kd, e0, nm.2.1, 0, e0, off, cs⟩, _, rfl, Kd.R_lower (R_stp hrow3 s16 hbRB.1) hbRB.2.2.2.2, by rw [HF.out]; exact ⟨by decide, _, _, h16.rd⟩, h16.st⟩
                · have el : ((cs.length : Int) == 0) = false := by
                    have : cs.length ≠ 0 := fun h => hcs0 (List.length_eq_zero_iff.1 h)
                    simp; omega
                  obtain ⟨cl, hcl, hF⟩ := hr1 hcs0
                  have HF := Lib.hid hF
                  have HCL := Lib.hid hcl
                  clear HST HC5 hr0 hr1 hcs0 hcl hF
                  go_wp2_with fail
                  refine (next_any h14.ri.rd HCL.out).mono ?_
                  rintro e' W15 ⟨rfl, hr15, hs15⟩
                  have h15 := h14.stp hs15 hr15
                  have hrow3 := R_stp hrow2 hs15 hbRB.2.2.2.1
                  clear c0 c1 c2 c3 c4 f z6 h14 hrow2 hs15 hr15
                  dsimp only [tkV]
                  have z0 : W15.cell? ⟨PB, 0, none⟩ = some (.int .i64 kd) := blk_cell h15.box 0
                  have z1 : W15.cell? ⟨PB, 1, none⟩ = some (.string ⟨#[]⟩) := blk_cell h15.box 1
                  have z2 : W15.cell? ⟨PB, 2, none⟩ = some (.string nm.2.1) := blk_cell h15.box 2
                  have z3 : W15.cell? ⟨PB, 3, none⟩ = some (.int .i64 0) := blk_cell h15.box 3
                  have z4 : W15.cell? ⟨PB, 4, none⟩ = some (.string ⟨#[]⟩) := blk_cell h15.box 4
                  have z5 : W15.cell? ⟨PB, 5, none⟩ = some (.string off) := blk_cell h15.box 5
                  have z6 : W15.cell? ⟨PB, 6, none⟩ = some (.slice Au cs.length cu) := blk_cell h15.box 6
                  have HB := Lib.hid h15.res
                  go_wp2_with ((with_reducible refine gate_store (t := 42) (p := 6) rfl ?_); refine wp_row HB.out rfl rfl rfl rfl rfl (by kernel_rfl) rfl (by simp [Value.oneCell']) ?_; intro W16 s16 b16)
                  refine bodyPost_ret (results_row rfl rfl b16 Tryz.underlying42 rfl (by kernel_rfl)) rfl ?_
                  have h16 := h15.done s16
                  exact ⟨⟨kd, e0, nm.2.1, 0, e0, off, cs⟩, _, rfl, Kd.R_lower (R_stp hrow3 s16 hbRB.1) hbRB.2.2.2.2, by rw [HF.out]; exact ⟨rfl, h16.rd⟩, h16.st⟩
              · have ee : (e != 0) = true := by simpa using he
                have HF : Hid (e ≠ 0 ∧ r = .er e pl) := Lib.hid (by
                  rcases HST.out with ⟨h1, _⟩ | ⟨_, h2⟩
                  · exact absurd h1 he
                  · have h3 := HC5.out
                    rw [h2] at h3
                    exact ⟨he, (Option.some.inj h3).symm⟩)
                clear HST HC5 he
                have z0 : W14.cell? ⟨PB, 0, none⟩ = some (.int .i64 kd) := blk_cell h14.box 0
                have z1 : W14.cell? ⟨PB, 1, none⟩ = some (.string ⟨#[]⟩) := blk_cell h14.box 1
                have z2 : W14.cell? ⟨PB, 2, none⟩ = some (.string nm.2.1) := blk_cell h14.box 2
                have z3 : W14.cell? ⟨PB, 3, none⟩ = some (.int .i64 0) := blk_cell h14.box 3
                have z4 : W14.cell? ⟨PB, 4, none⟩ = some (.string ⟨#[]⟩) := blk_cell h14.box 4
                have z5 : W14.cell? ⟨PB, 5, none⟩ = some (.string off) := blk_cell h14.box 5
                have z6 : W14.cell? ⟨PB, 6, none⟩ = some (.slice Au cs.length cu) := blk_cell h14.box 6
                have HB := Lib.hid h14.res
                go_wp2_with ((with_reducible refine gate_store (t := 42) (p := 6) rfl ?_); refine wp_row HB.out rfl rfl rfl rfl rfl (by kernel_rfl) rfl (by simp [Value.oneCell']) ?_; intro W16 s16 b16)
                refine bodyPost_ret (results_row rfl rfl b16 Tryz.underlying42 rfl (by kernel_rfl)) rfl ?_
                have h16 := h14.done s16
                exact ⟨⟨kd, e0, nm.2.1, 0, e0, off, cs⟩, _, rfl, Kd.R_lower (R_stp hrow2 s16 hbRB.1) hbRB.2.2.2.2, by rw [HF.out.2]; exact ⟨HF.out.1, _, _, h16.rd⟩, h16.st⟩
end
end Go.Proofs.YtcpglgoiienhkaaGreatDoor
