/- The reader of a case. -/
import Derived.Test.YtcpglgoiienhkaaGreatDoorZTrr
set_option linter.unusedVariables false
set_option linter.unusedSimpArgs false

namespace Go.Proofs.YtcpglgoiienhkaaGreatDoor
open Go.RowKit Go.Shelf P Ext Go.Proofs.YtcpglgoiienhkaaGreatDoorW.PrintWords
structure RI (X : Nat) (v : Value) (ts : List Tk) (W0 : World) (i n : Nat) (pl e : Int) (W : World) : Prop where
  rd : Rd X v ts i n pl e W
  st : Stp X W0 W
  x0 : X < W0.heap.size
  v0 : ∀ k, v.ownBlock = some k → k < W0.heap.size
section
variable {X : Nat} {v : Value} {ts : List Tk} {W0 W W' : World} {i n : Nat} {pl e : Int}
theorem RI.start (h : Rd X v ts i n pl e W) : RI X v ts W i n pl e W := ⟨h, Stp.refl _ _, h.lt, h.vlt⟩
theorem RI.stp (h : RI X v ts W0 i n pl e W) (hs : Stp X W W') {i' n' : Nat} {pl' e' : Int} (hr : Rd X v ts i' n' pl' e' W') : RI X v ts W0 i' n' pl' e' W' := ⟨hr, h.st.trans hs, h.x0, h.v0⟩
theorem RI.below (h : RI X v ts W0 i n pl e W) (hb : Below W.heap.size W W') : RI X v ts W0 i n pl e W' := h.stp (Stp.of_below hb) (h.rd.below hb)
theorem RI.alloc (h : RI X v ts W0 i n pl e W) (o : Obj) : RI X v ts W0 i n pl e (W.alloc o) := h.below ((Below.refl _ W).alloc (Nat.le_refl _) _)
theorem RI.drew (h : RI X v ts W0 i n pl e W) : RI X v ts W0 i n pl e W.drew := h.below (Below.drew' (Below.refl _ W))
theorem RI.own (h : RI X v ts W0 i n pl e W) {b : Nat} (hg : W.grownBy W' (some b)) (hb : W0.heap.size ≤ b) : RI X v ts W0 i n pl e W' := by
  have hx := h.x0
  refine ⟨h.rd.keep hg fun k hk => ?_, h.st.grown hg fun k hk => by cases hk; exact hb, h.x0, h.v0⟩
  cases hk
  exact .inr ⟨by omega, fun e => by have := h.v0 _ e.symm; omega⟩
theorem RI.set (h : RI X v ts W0 i n pl e W) {b : Nat} (hb : W0.heap.size ≤ b) (j : Nat) (u : Value) : RI X v ts W0 i n pl e (W.setCell ⟨b, j, none⟩ u) := h.own (Stp.setCell b j u W) hb
theorem RI.size (h : RI X v ts W0 i n pl e W) : W0.heap.size ≤ W.heap.size := h.st.size
theorem blk_stp {b : Nat} {o : Obj} (hb : W.heap[b]? = some o) (hs : Stp X W W') (hne : b ≠ X) : W'.heap[b]? = some o := blk_grown hb hs (by simpa using hne)
theorem blk_set_far {b c : Nat} {o : Obj} (hb : W.heap[b]? = some o) (hne : b ≠ c) (j : Nat) (u : Value) : (W.setCell ⟨c, j, none⟩ u).heap[b]? = some o := blk_stp hb (Stp.setCell c j u W) hne
end
section
variable {X : Nat} {v : Value} {ts : List Tk}
theorem fieldTok1 (w : World) (a b c : Value) : (Instr.field 111 (.agg #[a, b, c]) 1).run Tryz.prog w = .ok b w := by kernel_rfl
theorem fieldTok2 (w : World) (a b c : Value) : (Instr.field 111 (.agg #[a, b, c]) 2).run Tryz.prog w = .ok c w := by kernel_rfl
theorem kindV_of {i : Nat} {t : Tk} (h : ts[i]? = some t) : kindV ts i 0 = t.1 := by rw [kindV_ok, kdAt_of' h]
set_option maxRecDepth 100000 in
set_option maxHeartbeats 8000000 in
theorem tone_step (k : Nat) (hM : ∀ j, j ≤ k → TMsgC X v ts j) : TOneC X v ts (k + 1) := by
  intro i n had d W r hm h hd hhad
  rw [oneT, Option.bind_eq_some_iff] at hm
  obtain ⟨t, ht, hm⟩ := hm
  have HM := Lib.hid hM
  have HC := Lib.hid hm
  have HTT := Lib.hid ht
  have hx := h.lt
  have hf2 := fieldTok2
  clear hm hM ht
  go_enter Tryz.func253, Tryz.ntmps253
  have h0 := (RI.start h).alloc (.cells #[.string ⟨#[]⟩, .bool false, .slice none 0 0] 47)
  have rb := World.alloc_heap_new W (.cells #[.string ⟨#[]⟩, .bool false, .slice none 0 0] 47)
  have hz0 : (W.alloc (.cells #[.string ⟨#[]⟩, .bool false, .slice none 0 0] 47)).heap.size = W.heap.size + 1 := by simp
  go_upto_region 1 with (fail)
  generalize W.alloc (.cells #[.string ⟨#[]⟩, .bool false, .slice none 0 0] 47) = W1 at *
  have HZ := Lib.hid hz0
  clear hz0
  go_wp2_with fail
  refine (next_any h0.rd HTT.out).mono ?_
  rintro e' W2 ⟨rfl, hr2, hs2⟩
  have h2 := h0.stp hs2 hr2
  have rb2 := blk_stp rb hs2 (by omega)
  have hz2 := hs2.size
  rw [HZ.out] at hz2
  clear h0 rb hs2 hr2
  dsimp only [tkV]
  go_upto_region 2 with (fail)
  have h3 := h2.alloc (.cells #[.int .i64 t.1, .string t.2.1, .int .i64 t.2.2] 111)
  have tb := World.alloc_heap_new W2 (.cells #[.int .i64 t.1, .string t.2.1, .int .i64 t.2.2] 111)
  have rb3 := blk_alloc rb2 (.cells #[.int .i64 t.1, .string t.2.1, .int .i64 t.2.2] 111)
  have hz3 : (W2.alloc (.cells #[.int .i64 t.1, .string t.2.1, .int .i64 t.2.2] 111)).heap.size = W2.heap.size + 1 := by simp
  have HZ3 := Lib.hid hz3
  clear hz3
  generalize W2.alloc (.cells #[.int .i64 t.1, .string t.2.1, .int .i64 t.2.2] 111) = W3 at *
  generalize W2.heap.size = TB at *
  clear h2 rb2 HZ
  have t0 : W3.cell? ⟨TB, 0, none⟩ = some (.int .i64 t.1) := blk_cell tb 0
  have t1 : W3.cell? ⟨TB, 1, none⟩ = some (.string t.2.1) := blk_cell tb 1
  have t2 : W3.cell? ⟨TB, 2, none⟩ = some (.int .i64 t.2.2) := blk_cell tb 2
  by_cases hh : had = 64
  · have e1 : ((had : Int) == 64) = true := by simp; omega
    have HF : Hid (r = .er 5 t.2.2) := Lib.hid (Option.some.inj ((if_pos hh).symm.trans HC.out)).symm
    clear HC hh
    go_wp2_with fail
    refine (fails_rd h3.rd 5 t.2.2).mono ?_
    rintro e' W4 ⟨rfl, hr4, hs4⟩
    have h4 := h3.stp hs4 hr4
    have rb4 := blk_stp rb3 hs4 (by omega)
    clear t0 t1 t2 tb
    have HB := Lib.hid rb4
    clear rb4
    go_wp2_with ((with_reducible refine gate_store (t := 47) (p := 6) rfl ?_); refine wp_row HB.out rfl rfl rfl rfl rfl (by kernel_rfl) rfl (by simp [Value.oneCell']) ?_; intro W5 s5 b5)
    refine bodyPost_ret (results_row rfl rfl b5 Tryz.underlying47 rfl (by kernel_rfl)) rfl ?_
    have h5 := h4.own s5 (Nat.le_refl _)
    exact ⟨⟨e0, false, ⟨[]⟩⟩, .slice none 0 0, rfl, Kd.R_nil _ _ _ _ _, by rw [HF.out]; exact ⟨by decide, _, _, h5.rd⟩, h5.st⟩
  · have e1 : ((had : Int) == 64) = false := by simp; omega
    have HC2 := (if_neg hh).symm.trans HC.out
    rw [Option.bind_eq_some_iff] at HC2
    obtain ⟨hdd, hhd, hm⟩ := HC2
    have HH := Lib.hid hhd
    have HC3 := Lib.hid hm
    clear HC hh hhd hm
    by_cases hk : t.1 = 10
    · have ek : (t.1 == 10) = true := by simpa using hk
      have HU : ∃ u, ts[i + 1]? = some u ∧ hdd = (i + 2, u.2.2, t.2.1, false) := by
        have := HH.out
        unfold caseHead at this
        rw [if_pos hk, Option.map_eq_some_iff] at this
        obtain ⟨u, h1, h2⟩ := this
        exact ⟨u, h1, h2.symm⟩
      obtain ⟨u, hu, rfl⟩ := HU
      have hdk : decide (t.1 = 10) = true := decide_eq_true hk
      have HU := Lib.hid hu
      have HC4 : Hid ((if d = 32 then some (TR.er 201 u.2.2) else (msgT ts k (i + 2) n (d + 1) []).bind fun r => r.bind fun i2 n2 ps => (caseEnd ts true i2).map fun i3 => TR.ok i3 n2 (⟨t.2.1, false, ⟨ps⟩⟩ : Ct)) = some r) := Lib.hid (by have := HC3.out; rw [hdk] at this; exact this)
      clear hu HH HC3 hdk hk
      go_upto_region 5 with (fail)
      have HX3 := h3.drew
      have hzb := h3.size
      go_region_held3 (fun w' => w'.cell? ⟨TB, 0, none⟩ = some (.int .i64 t.1) ∧ w'.cell? ⟨TB, 1, none⟩ = some (.string t.2.1) ∧ w'.cell? ⟨TB, 2, none⟩ = some (.int .i64 t.2.2)) (first | go_keep) (first | fail)
      clear t0 t1 t2
      have h4 := h3.below (Below.drew' ((Below.refl _ W3).alloc (Nat.le_refl _) (.cells #[.string t.2.1, .bool false, .slice none 0 0] 47)))
      have cb := blk_drew (World.alloc_heap_new W3 (.cells #[.string t.2.1, .bool false, .slice none 0 0] 47))
      have tb4 := blk_drew (blk_alloc tb (.cells #[.string t.2.1, .bool false, .slice none 0 0] 47))
      have rb4 := blk_drew (blk_alloc rb3 (.cells #[.string t.2.1, .bool false, .slice none 0 0] 47))
      have hcb0 : W.heap.size + 2 ≤ W3.heap.size := by rw [HZ3.out]; omega
      have hcb1 : TB < W3.heap.size := by rw [HZ3.out]; omega
      generalize (W3.alloc (.cells #[.string t.2.1, .bool false, .slice none 0 0] 47)).drew = W4 at *
      generalize W3.heap.size = CB at *
      clear h3 HX3 hzb tb rb3 HZ3
      go_wp2_with fail
      refine (next_any h4.rd HU.out).mono ?_
      rintro e' W5 ⟨rfl, hr5, hs5⟩
      have h5 := h4.stp hs5 hr5
      have cb5 := blk_stp cb hs5 (by omega)
      have rb5 := blk_stp rb4 hs5 (by omega)
      have hw5 := h5.size
      clear h4 cb rb4 tb4 hs5 hr5
      have hne : W.heap.size < CB := by omega
      clear hcb0 hcb1
      have hcb0 : W.heap.size ≤ CB := by omega
      dsimp only [tkV]
      by_cases hd32 : d = 32
      · have e4 : ((d : Int) == 32) = true := by simp; omega
        have HF : Hid (r = .er 201 u.2.2) := Lib.hid (Option.some.inj ((if_pos hd32).symm.trans HC4.out)).symm
        clear HC4 hd32
        go_wp2_with fail
        refine (fails_rd h5.rd 201 u.2.2).mono ?_
        rintro e' W6 ⟨rfl, hr6, hs6⟩
        have h6 := h5.stp hs6 hr6
        have rb6 := blk_stp rb5 hs6 (by omega)
        have cb6 := blk_stp cb5 hs6 (by omega)
        clear h5 rb5 cb5
        have q0 : W6.cell? ⟨CB, 0, none⟩ = some (.string t.2.1) := blk_cell cb6 0
        have q1 : W6.cell? ⟨CB, 1, none⟩ = some (.bool false) := blk_cell cb6 1
        have q2 : W6.cell? ⟨CB, 2, none⟩ = some (.slice none 0 0) := blk_cell cb6 2
        have HB := Lib.hid rb6
        clear rb6
        go_wp2_with ((with_reducible refine gate_store (t := 47) (p := 6) rfl ?_); refine wp_row HB.out rfl rfl rfl rfl rfl (by kernel_rfl) rfl (by simp [Value.oneCell']) ?_; intro W7 s7 b7)
        refine bodyPost_ret (results_row rfl rfl b7 Tryz.underlying47 rfl (by kernel_rfl)) rfl ?_
        have h7 := h6.own s7 (Nat.le_refl _)
        exact ⟨⟨t.2.1, false, ⟨[]⟩⟩, .slice none 0 0, rfl, Kd.R_nil _ _ _ _ _, by rw [HF.out]; exact ⟨by decide, _, _, h7.rd⟩, h7.st⟩
      · have e4 : ((d : Int) == 32) = false := by simp; omega
        have HC5 := (if_neg hd32).symm.trans HC4.out
        rw [Option.bind_eq_some_iff] at HC5
        obtain ⟨rm, hrm, hm⟩ := HC5
        have HMM := Lib.hid (HM.out k (Nat.le_refl _) (i + 2) n (d + 1) W5 rm hrm h5.rd (by omega))
        have hd1 : ((d + 1 : Nat) : Int) = (d : Int) + 1 := by omega
        rw [hd1] at HMM
        have HC6 := Lib.hid hm
        clear HC4 hd32 hrm hm hd1
        go_wp2_with fail
        refine HMM.out.mono ?_
        rintro e' W6 ⟨ps, uu, rfl, hr6, hte, hs6⟩
        obtain ⟨A6, c6, rfl⟩ := Kd.R_slice hr6
        have cb6 := blk_stp cb5 hs6 (by omega)
        have rb6 := blk_stp rb5 hs6 (by omega)
        have cbl := blk_lt cb5
        have rbl := blk_lt rb5
        have q2 : W6.cell? ⟨CB, 2, none⟩ = some (.slice none 0 0) := blk_cell cb6 2
        have f2 := blk_frozen cb6 2
        cases rm with
        | er e a =>
          obtain ⟨he0, i6, n6, hrd6⟩ := hte
          have HF : Hid (r = .er e a) := Lib.hid (Option.some.inj HC6.out).symm
          have h6 := h5.stp hs6 hrd6
          have hr7 := R_stp hr6 (Stp.setCell CB 2 (.slice A6 ps.length c6) W6) cbl
          have h7 := h6.set hcb0 2 (.slice A6 ps.length c6)
          have cb7 := blk_set cb6 2 (.slice A6 ps.length c6)
          have rb7 := blk_set_far rb6 (by omega : W.heap.size ≠ CB) 2 (.slice A6 ps.length c6)
          have ke : (e == 0) = false := by simpa using he0
          have HE0 := Lib.hid he0
          have HKV := Lib.hid (kindV_err (ts := ts) (i := i6) he0)
          clear HC6 hr6 hs6 cb6 rb6 h6 h5 cb5 rb5 he0 hrd6
          go_upto_region 14 with (fail)
          clear q2 f2
          generalize W6.setCell ⟨CB, 2, none⟩ (.slice A6 ps.length c6) = W7 at *
          obtain ⟨c0, c1, c2, c3, c4, f⟩ := h7.rd.cells
          have HKA := kind_any h7.rd
          rw [HKV.out] at HKA
          have HKH := Lib.hid HKA
          clear HKA
          go_wp2_with fail
          refine HKH.out.mono ?_
          rintro e' W8 ⟨rfl, hd8⟩
          have h8 := h7.below hd8.below
          have cb8 := blk_below cb7 hd8.below
          have rb8 := blk_below rb7 hd8.below
          have hr8 := Kd.R_below hr7 hd8.below
          clear c0 c1 c2 c3 c4 f h7 cb7 rb7 hr7 hd8
          have q0 : W8.cell? ⟨CB, 0, none⟩ = some (.string t.2.1) := blk_cell cb8 0
          have q1 : W8.cell? ⟨CB, 1, none⟩ = some (.bool false) := blk_cell cb8 1
          have q2 : W8.cell? ⟨CB, 2, none⟩ = some (.slice A6 ps.length c6) := blk_cell cb8 2
          have HB := Lib.hid rb8
          clear rb8
          go_wp2_with ((with_reducible refine gate_store (t := 47) (p := 6) rfl ?_); refine wp_row HB.out rfl rfl rfl rfl rfl (by kernel_rfl) rfl (by simp [Value.oneCell']) ?_; intro W9 s9 b9)
          refine bodyPost_ret (results_row rfl rfl b9 Tryz.underlying47 rfl (by kernel_rfl)) rfl ?_
          have h9 := h8.own s9 (Nat.le_refl _)
          exact ⟨⟨t.2.1, false, ⟨ps⟩⟩, _, rfl, Kd.R_lower (R_stp hr8 s9 rbl) hw5, by rw [HF.out]; exact ⟨HE0.out, _, _, h9.rd⟩, h9.st⟩
        | ok i6 n6 xs =>
          obtain ⟨rfl, hrd6⟩ := hte
          have h6 := h5.stp hs6 hrd6
          have hr7 := R_stp hr6 (Stp.setCell CB 2 (.slice A6 ps.length c6) W6) cbl
          have h7 := h6.set hcb0 2 (.slice A6 ps.length c6)
          have cb7 := blk_set cb6 2 (.slice A6 ps.length c6)
          have rb7 := blk_set_far rb6 (by omega : W.heap.size ≠ CB) 2 (.slice A6 ps.length c6)
          have HCE : ∃ i8, caseEnd ts true i6 = some i8 ∧ r = .ok i8 n6 ⟨t.2.1, false, ⟨ps⟩⟩ := by
            have := HC6.out
            simp only [TR.bind] at this
            rw [Option.map_eq_some_iff] at this
            obtain ⟨i8, h1, h2⟩ := this
            exact ⟨i8, h1, h2.symm⟩
          obtain ⟨i8, hce, hrr⟩ := HCE
          have HF := Lib.hid hrr
          clear HC6 hr6 hs6 cb6 rb6 h6 h5 cb5 rb5 hrd6 hrr
          go_upto_region 14 with (fail)
          clear q2 f2
          generalize W6.setCell ⟨CB, 2, none⟩ (.slice A6 ps.length c6) = W7 at *
          obtain ⟨c0, c1, c2, c3, c4, f⟩ := h7.rd.cells
          have HT6 : ∃ t6, ts[i6]? = some t6 ∧ i8 = i6 + 1 := by
            unfold caseEnd at hce
            rw [if_pos rfl, Option.map_eq_some_iff] at hce
            obtain ⟨t6, h1, h2⟩ := hce
            exact ⟨t6, h1, h2.symm⟩
          obtain ⟨t6, ht6, rfl⟩ := HT6
          have HT6 := Lib.hid ht6
          clear hce ht6
          go_wp2_with fail
          refine (next_any h7.rd HT6.out).mono ?_
          rintro e' W8 ⟨rfl, hrd8, hs8⟩
          have h8 := h7.stp hs8 hrd8
          have cb8 := blk_stp cb7 hs8 (by omega)
          have rb8 := blk_stp rb7 hs8 (by omega)
          have hr8 := R_stp hr7 hs8 (by omega)
          clear c0 c1 c2 c3 c4 f h7 cb7 rb7 hr7
          have q0 : W8.cell? ⟨CB, 0, none⟩ = some (.string t.2.1) := blk_cell cb8 0
          have q1 : W8.cell? ⟨CB, 1, none⟩ = some (.bool false) := blk_cell cb8 1
          have q2 : W8.cell? ⟨CB, 2, none⟩ = some (.slice A6 ps.length c6) := blk_cell cb8 2
          have HB := Lib.hid rb8
          clear rb8
          go_wp2_with ((with_reducible refine gate_store (t := 47) (p := 6) rfl ?_); refine wp_row HB.out rfl rfl rfl rfl rfl (by kernel_rfl) rfl (by simp [Value.oneCell']) ?_; intro W9 s9 b9)
          refine bodyPost_ret (results_row rfl rfl b9 Tryz.underlying47 rfl (by kernel_rfl)) rfl ?_
          have h9 := h8.own s9 (Nat.le_refl _)
          exact ⟨⟨t.2.1, false, ⟨ps⟩⟩, _, rfl, Kd.R_lower (R_stp hr8 s9 rbl) hw5, by rw [HF.out]; exact ⟨rfl, h9.rd⟩, h9.st⟩
    · have hsm := h3.rd.small t (List.mem_of_getElem? HTT.out)
      have ek : (t.1 == 10) = false := by simpa using hk
      have HU : t.2.1.size ≠ 0 ∧ hdd = (i + 1, t.2.2, t.2.1.extract 0 (t.2.1.size - 1), b8 t.2.1 (t.2.1.size - 1) == 60) := by
        have := HH.out
        unfold caseHead at this
        rw [if_neg hk] at this
        split at this
        · cases this
        · exact ⟨by assumption, (Option.some.inj this).symm⟩
      obtain ⟨hsz, rfl⟩ := HU
      have hdk : decide (t.1 = 10) = false := decide_eq_false hk
      have HC4 : Hid ((if d = 32 then some (TR.er 201 t.2.2) else (msgT ts k (i + 1) n (d + 1) []).bind fun r => r.bind fun i2 n2 ps => (caseEnd ts false i2).map fun i3 => TR.ok i3 n2 (⟨t.2.1.extract 0 (t.2.1.size - 1), b8 t.2.1 (t.2.1.size - 1) == 60, ⟨ps⟩⟩ : Ct)) = some r) := Lib.hid (by have := HC3.out; rw [hdk] at this; exact this)
      clear HH HC3 hdk hk
      go_upto_region 5 with (fail)
      have HX3 := h3.drew
      have hzb := h3.size
      go_region_held3 (fun w' => w'.cell? ⟨TB, 0, none⟩ = some (.int .i64 t.1) ∧ w'.cell? ⟨TB, 1, none⟩ = some (.string t.2.1) ∧ w'.cell? ⟨TB, 2, none⟩ = some (.int .i64 t.2.2)) (first | go_keep) (first | fail)
      clear t0 t1 t2
      have h4 := h3.below (Below.drew' ((Below.refl _ W3).alloc (Nat.le_refl _) (.cells #[.string t.2.1, .bool false, .slice none 0 0] 47)))
      have cb := blk_drew (World.alloc_heap_new W3 (.cells #[.string t.2.1, .bool false, .slice none 0 0] 47))
      have tb4 := blk_drew (blk_alloc tb (.cells #[.string t.2.1, .bool false, .slice none 0 0] 47))
      have rb4 := blk_drew (blk_alloc rb3 (.cells #[.string t.2.1, .bool false, .slice none 0 0] 47))
      have hcb0 : W.heap.size + 2 ≤ W3.heap.size := by rw [HZ3.out]; omega
      have hcb1 : TB < W3.heap.size := by rw [HZ3.out]; omega
      generalize (W3.alloc (.cells #[.string t.2.1, .bool false, .slice none 0 0] 47)).drew = W4 at *
      generalize W3.heap.size = CB at *
      clear h3 HX3 hzb tb rb3 HZ3
      have hne : W.heap.size < CB := by omega
      have t1 : W4.cell? ⟨TB, 1, none⟩ = some (.string t.2.1) := blk_cell tb4 1
      have q0 : W4.cell? ⟨CB, 0, none⟩ = some (.string t.2.1) := blk_cell cb 0
      have q1 : W4.cell? ⟨CB, 1, none⟩ = some (.bool false) := blk_cell cb 1
      have g0 := blk_frozen cb 0
      have g1 := blk_frozen cb 1
      have hz1 : 0 < t.2.1.size := by omega
      go_upto_region 9 with (fail)
      have hb0 : (0 : Int) ≤ (t.2.1.size : Int) - 1 := by omega
      have hb1 : (t.2.1.size : Int) - 1 < (t.2.1.size : Int) := by omega
      have hb2 : (t.2.1.size : Int) - 1 ≤ (t.2.1.size : Int) := by omega
      have hb3 : (1 : Int) ≤ (t.2.1.size : Int) := by omega
      have hb4 : ((t.2.1.size : Int) - 1).toNat = t.2.1.size - 1 := by omega
      have hb5 : t.2.1.size - 1 < t.2.1.size := by omega
      have hne2 : TB ≠ CB := by omega
      have HE60 : Hid (((((t.2.1[t.2.1.size - 1]'hb5).toNat : Nat) : Int) == 60) = (b8 t.2.1 (t.2.1.size - 1) == 60)) := Lib.hid (by
        rw [b8, dif_pos hb5, Bool.eq_iff_iff]
        simp only [beq_iff_eq]
        omega)
      have k0 : ∀ j x, (W4.setCell ⟨CB, j, none⟩ x).cell? ⟨TB, 1, none⟩ = some (.string t.2.1) := fun j x => blk_cell (blk_set_far tb4 hne2 j x) 1
      have k1 : ∀ j x i y, ((W4.setCell ⟨CB, j, none⟩ x).setCell ⟨CB, i, none⟩ y).cell? ⟨TB, 1, none⟩ = some (.string t.2.1) := fun j x i y => blk_cell (blk_set_far (blk_set_far tb4 hne2 j x) hne2 i y) 1
      go_region_held3 (fun w' => w'.cell? ⟨TB, 1, none⟩ = some (.string t.2.1)) (first | go_keep | (go_simp; done) | (simp [k0, k1]; done)) (first | fail)
      all_goals
        try clear hHeld
        try clear hb0 hb1 hb2 hb3
        try clear k0 k1
        try clear t1 q0 q1 g0 g1
        generalize hBB : ((((t.2.1[t.2.1.size - 1]'hb5).toNat : Nat) : Int) == 60) = bb at *
        have HBB := Lib.hid hBB
        have HE := Lib.hid HE60.out.symm
        clear hBB HE60
        first
          | (refine (?_ : Exit.then _ _ _ _ (((W4.setCell ⟨CB, 0, none⟩ (.string (t.2.1.extract 0 (t.2.1.size - 1)))).setCell ⟨CB, 1, none⟩ (.bool bb)).drew)); have h5 := ((h4.set (b := CB) (by omega) 0 (.string (t.2.1.extract 0 (t.2.1.size - 1)))).set (b := CB) (by omega) 1 (.bool bb)).drew; have cb5 := blk_drew (blk_set (blk_set cb 0 (.string (t.2.1.extract 0 (t.2.1.size - 1)))) 1 (.bool bb)); have rb5 := blk_drew (blk_set_far (blk_set_far rb4 (by omega : W.heap.size ≠ CB) 0 (.string (t.2.1.extract 0 (t.2.1.size - 1)))) (by omega : W.heap.size ≠ CB) 1 (.bool bb)); generalize ((W4.setCell ⟨CB, 0, none⟩ (.string (t.2.1.extract 0 (t.2.1.size - 1)))).setCell ⟨CB, 1, none⟩ (.bool bb)).drew = W5 at *)
          | (refine (?_ : Exit.then _ _ _ _ (((W4.setCell ⟨CB, 1, none⟩ (.bool bb)).setCell ⟨CB, 0, none⟩ (.string (t.2.1.extract 0 (t.2.1.size - 1)))).drew)); have h5 := ((h4.set (b := CB) (by omega) 1 (.bool bb)).set (b := CB) (by omega) 0 (.string (t.2.1.extract 0 (t.2.1.size - 1)))).drew; have cb5 := blk_drew (blk_set (blk_set cb 1 (.bool bb)) 0 (.string (t.2.1.extract 0 (t.2.1.size - 1)))); have rb5 := blk_drew (blk_set_far (blk_set_far rb4 (by omega : W.heap.size ≠ CB) 1 (.bool bb)) (by omega : W.heap.size ≠ CB) 0 (.string (t.2.1.extract 0 (t.2.1.size - 1)))); generalize ((W4.setCell ⟨CB, 1, none⟩ (.bool bb)).setCell ⟨CB, 0, none⟩ (.string (t.2.1.extract 0 (t.2.1.size - 1)))).drew = W5 at *)
        rw [HE.out] at HC4
        have hw5 := h5.size
        clear hcb1 hne2 HE HBB
        replace hcb0 : W.heap.size ≤ CB := by omega
        try clear h4 cb rb4 tb4
        by_cases hd32 : d = 32
        · have e4 : ((d : Int) == 32) = true := by simp; omega
          have HF : Hid (r = .er 201 t.2.2) := Lib.hid (Option.some.inj ((if_pos hd32).symm.trans HC4.out)).symm
          clear HC4 hd32
          go_wp2_with fail
          refine (fails_rd h5.rd 201 t.2.2).mono ?_
          rintro e' W6 ⟨rfl, hr6, hs6⟩
          have h6 := h5.stp hs6 hr6
          have rb6 := blk_stp rb5 hs6 (by omega)
          have cb6 := blk_stp cb5 hs6 (by omega)
          clear h5 rb5 cb5
          have q0 : W6.cell? ⟨CB, 0, none⟩ = some (.string (t.2.1.extract 0 (t.2.1.size - 1))) := blk_cell cb6 0
          have q1 : W6.cell? ⟨CB, 1, none⟩ = some (.bool bb) := blk_cell cb6 1
          have q2 : W6.cell? ⟨CB, 2, none⟩ = some (.slice none 0 0) := blk_cell cb6 2
          have HB := Lib.hid rb6
          clear rb6
          go_wp2_with ((with_reducible refine gate_store (t := 47) (p := 6) rfl ?_); refine wp_row HB.out rfl rfl rfl rfl rfl (by kernel_rfl) rfl (by simp [Value.oneCell']) ?_; intro W7 s7 b7)
          refine bodyPost_ret (results_row rfl rfl b7 Tryz.underlying47 rfl (by kernel_rfl)) rfl ?_
          have h7 := h6.own s7 (Nat.le_refl _)
          exact ⟨⟨(t.2.1.extract 0 (t.2.1.size - 1)), bb, ⟨[]⟩⟩, .slice none 0 0, rfl, Kd.R_nil _ _ _ _ _, by rw [HF.out]; exact ⟨by decide, _, _, h7.rd⟩, h7.st⟩
        · have e4 : ((d : Int) == 32) = false := by simp; omega
          have HC5 := (if_neg hd32).symm.trans HC4.out
          rw [Option.bind_eq_some_iff] at HC5
          obtain ⟨rm, hrm, hm⟩ := HC5
          have HMM := Lib.hid (HM.out k (Nat.le_refl _) (i + 1) n (d + 1) W5 rm hrm h5.rd (by omega))
          have hd1 : ((d + 1 : Nat) : Int) = (d : Int) + 1 := by omega
          rw [hd1] at HMM
          have HC6 := Lib.hid hm
          clear HC4 hd32 hrm hm hd1
          go_wp2_with fail
          refine HMM.out.mono ?_
          rintro e' W6 ⟨ps, uu, rfl, hr6, hte, hs6⟩
          obtain ⟨A6, c6, rfl⟩ := Kd.R_slice hr6
          have cb6 := blk_stp cb5 hs6 (by omega)
          have rb6 := blk_stp rb5 hs6 (by omega)
          have cbl := blk_lt cb5
          have rbl := blk_lt rb5
          have q2 : W6.cell? ⟨CB, 2, none⟩ = some (.slice none 0 0) := blk_cell cb6 2
          have f2 := blk_frozen cb6 2
          cases rm with
          | er e a =>
            obtain ⟨he0, i6, n6, hrd6⟩ := hte
            have HF : Hid (r = .er e a) := Lib.hid (Option.some.inj HC6.out).symm
            have h6 := h5.stp hs6 hrd6
            have hr7 := R_stp hr6 (Stp.setCell CB 2 (.slice A6 ps.length c6) W6) cbl
            have h7 := h6.set hcb0 2 (.slice A6 ps.length c6)
            have cb7 := blk_set cb6 2 (.slice A6 ps.length c6)
            have rb7 := blk_set_far rb6 (by omega : W.heap.size ≠ CB) 2 (.slice A6 ps.length c6)
            have ke : (e == 0) = false := by simpa using he0
            have HE0 := Lib.hid he0
            have HKV := Lib.hid (kindV_err (ts := ts) (i := i6) he0)
            clear HC6 hr6 hs6 cb6 rb6 h6 h5 cb5 rb5 he0 hrd6
            go_upto_region 14 with (fail)
            clear q2 f2
            generalize W6.setCell ⟨CB, 2, none⟩ (.slice A6 ps.length c6) = W7 at *
            obtain ⟨c0, c1, c2, c3, c4, f⟩ := h7.rd.cells
            have HKA := kind_any h7.rd
            rw [HKV.out] at HKA
            have HKH := Lib.hid HKA
            clear HKA
            go_wp2_with fail
            refine HKH.out.mono ?_
            rintro e' W8 ⟨rfl, hd8⟩
            have h8 := h7.below hd8.below
            have cb8 := blk_below cb7 hd8.below
            have rb8 := blk_below rb7 hd8.below
            have hr8 := Kd.R_below hr7 hd8.below
            clear c0 c1 c2 c3 c4 f h7 cb7 rb7 hr7 hd8
            have q0 : W8.cell? ⟨CB, 0, none⟩ = some (.string (t.2.1.extract 0 (t.2.1.size - 1))) := blk_cell cb8 0
            have q1 : W8.cell? ⟨CB, 1, none⟩ = some (.bool bb) := blk_cell cb8 1
            have q2 : W8.cell? ⟨CB, 2, none⟩ = some (.slice A6 ps.length c6) := blk_cell cb8 2
            have HB := Lib.hid rb8
            clear rb8
            go_wp2_with ((with_reducible refine gate_store (t := 47) (p := 6) rfl ?_); refine wp_row HB.out rfl rfl rfl rfl rfl (by kernel_rfl) rfl (by simp [Value.oneCell']) ?_; intro W9 s9 b9)
            refine bodyPost_ret (results_row rfl rfl b9 Tryz.underlying47 rfl (by kernel_rfl)) rfl ?_
            have h9 := h8.own s9 (Nat.le_refl _)
            exact ⟨⟨(t.2.1.extract 0 (t.2.1.size - 1)), bb, ⟨ps⟩⟩, _, rfl, Kd.R_lower (R_stp hr8 s9 rbl) hw5, by rw [HF.out]; exact ⟨HE0.out, _, _, h9.rd⟩, h9.st⟩
          | ok i6 n6 xs =>
            obtain ⟨rfl, hrd6⟩ := hte
            have h6 := h5.stp hs6 hrd6
            have hr7 := R_stp hr6 (Stp.setCell CB 2 (.slice A6 ps.length c6) W6) cbl
            have h7 := h6.set hcb0 2 (.slice A6 ps.length c6)
            have cb7 := blk_set cb6 2 (.slice A6 ps.length c6)
            have rb7 := blk_set_far rb6 (by omega : W.heap.size ≠ CB) 2 (.slice A6 ps.length c6)
            have HCE : ∃ i8, caseEnd ts false i6 = some i8 ∧ r = .ok i8 n6 ⟨(t.2.1.extract 0 (t.2.1.size - 1)), bb, ⟨ps⟩⟩ := by
              have := HC6.out
              simp only [TR.bind] at this
              rw [Option.map_eq_some_iff] at this
              obtain ⟨i8, h1, h2⟩ := this
              exact ⟨i8, h1, h2.symm⟩
            obtain ⟨i8, hce, hrr⟩ := HCE
            have HF := Lib.hid hrr
            clear HC6 hr6 hs6 cb6 rb6 h6 h5 cb5 rb5 hrd6 hrr
            go_upto_region 14 with (fail)
            clear q2 f2
            generalize W6.setCell ⟨CB, 2, none⟩ (.slice A6 ps.length c6) = W7 at *
            obtain ⟨c0, c1, c2, c3, c4, f⟩ := h7.rd.cells
            have HKA := kind_any h7.rd
            rw [kindV_ok] at HKA
            by_cases h12 : kdAt ts i6 = 12
            · have hi8 : i8 = i6 + 1 := by
                unfold caseEnd at hce
                rw [if_neg (by decide), if_pos h12] at hce
                exact (Option.some.inj hce).symm
              subst hi8
              rw [h12] at HKA
              have HT6 : ∃ t6, ts[i6]? = some t6 := by
                cases h : ts[i6]? with
                | none => rw [kdAt, h] at h12; simp at h12
                | some t6 => exact ⟨t6, rfl⟩
              obtain ⟨t6, ht6⟩ := HT6
              have HT6 := Lib.hid ht6
              have HKH := Lib.hid HKA
              clear hce ht6 HKA h12
              go_wp2_with fail
              refine HKH.out.mono ?_
              rintro e' Wk ⟨rfl, hdk⟩
              have hk7 := h7.below hdk.below
              have cbk := blk_below cb7 hdk.below
              have rbk := blk_below rb7 hdk.below
              have hrk := Kd.R_below hr7 hdk.below
              clear c0 c1 c2 c3 c4 f h7 cb7 rb7 hr7 hdk
              go_wp2_with fail
              refine (next_any hk7.rd HT6.out).mono ?_
              rintro e' W8 ⟨rfl, hrd8, hs8⟩
              have h8 := hk7.stp hs8 hrd8
              have cb8 := blk_stp cbk hs8 (by omega)
              have rb8 := blk_stp rbk hs8 (by omega)
              have hr8 := R_stp hrk hs8 (by omega)
              clear hk7 cbk rbk hrk
              have q0 : W8.cell? ⟨CB, 0, none⟩ = some (.string (t.2.1.extract 0 (t.2.1.size - 1))) := blk_cell cb8 0
              have q1 : W8.cell? ⟨CB, 1, none⟩ = some (.bool bb) := blk_cell cb8 1
              have q2 : W8.cell? ⟨CB, 2, none⟩ = some (.slice A6 ps.length c6) := blk_cell cb8 2
              have HB := Lib.hid rb8
              clear rb8
              go_wp2_with ((with_reducible refine gate_store (t := 47) (p := 6) rfl ?_); refine wp_row HB.out rfl rfl rfl rfl rfl (by kernel_rfl) rfl (by simp [Value.oneCell']) ?_; intro W9 s9 b9)
              refine bodyPost_ret (results_row rfl rfl b9 Tryz.underlying47 rfl (by kernel_rfl)) rfl ?_
              have h9 := h8.own s9 (Nat.le_refl _)
              exact ⟨⟨(t.2.1.extract 0 (t.2.1.size - 1)), bb, ⟨ps⟩⟩, _, rfl, Kd.R_lower (R_stp hr8 s9 rbl) hw5, by rw [HF.out]; exact ⟨rfl, h9.rd⟩, h9.st⟩
            · have hi8 : i8 = i6 := by
                unfold caseEnd at hce
                rw [if_neg (by decide), if_neg h12] at hce
                exact (Option.some.inj hce).symm
              subst hi8
              have ek : (kdAt ts i8 == 12) = false := by simpa using h12
              have HKH := Lib.hid HKA
              clear hce HKA h12
              generalize kdAt ts i8 = kv at *
              go_wp2_with fail
              refine HKH.out.mono ?_
              rintro e' W8 ⟨rfl, hdk⟩
              have h8 := h7.below hdk.below
              have cb8 := blk_below cb7 hdk.below
              have rb8 := blk_below rb7 hdk.below
              have hr8 := Kd.R_below hr7 hdk.below
              clear c0 c1 c2 c3 c4 f h7 cb7 rb7 hr7 hdk
              have q0 : W8.cell? ⟨CB, 0, none⟩ = some (.string (t.2.1.extract 0 (t.2.1.size - 1))) := blk_cell cb8 0
              have q1 : W8.cell? ⟨CB, 1, none⟩ = some (.bool bb) := blk_cell cb8 1
              have q2 : W8.cell? ⟨CB, 2, none⟩ = some (.slice A6 ps.length c6) := blk_cell cb8 2
              have HB := Lib.hid rb8
              clear rb8
              go_wp2_with ((with_reducible refine gate_store (t := 47) (p := 6) rfl ?_); refine wp_row HB.out rfl rfl rfl rfl rfl (by kernel_rfl) rfl (by simp [Value.oneCell']) ?_; intro W9 s9 b9)
              refine bodyPost_ret (results_row rfl rfl b9 Tryz.underlying47 rfl (by kernel_rfl)) rfl ?_
              have h9 := h8.own s9 (Nat.le_refl _)
              exact ⟨⟨(t.2.1.extract 0 (t.2.1.size - 1)), bb, ⟨ps⟩⟩, _, rfl, Kd.R_lower (R_stp hr8 s9 rbl) hw5, by rw [HF.out]; exact ⟨rfl, h9.rd⟩, h9.st⟩
end
end Go.Proofs.YtcpglgoiienhkaaGreatDoor
