/- The tree's reader, whole; Parse. -/
import Derived.Test.YtcpglgoiienhkaaGreatDoorZTrb
import Derived.Test.YtcpglgoiienhkaaGreatDoorZTrq
import Derived.Test.YtcpglgoiienhkaaGreatDoorZTsm
set_option linter.unusedVariables false
set_option linter.unusedSimpArgs false

namespace Go.Proofs.YtcpglgoiienhkaaGreatDoor
open Go.RowKit Go.Shelf P Ext Go.Proofs.YtcpglgoiienhkaaGreatDoorW.PrintWords
section
variable {X : Nat} {v : Value} {ts : List Tk}
theorem tree_pieces : ∀ k j : Nat, j ≤ k → TMsgC X v ts j ∧ TArgC X v ts j ∧ TOneC X v ts j := by
  have hz : TMsgC X v ts 0 ∧ TArgC X v ts 0 ∧ TOneC X v ts 0 :=
    ⟨fun i n d W r h => by simp [msgT] at h, fun i n d t W r h => by simp [argT] at h, fun i n had d W r h => by simp [oneT] at h⟩
  intro k
  induction k with
  | zero => intro j hj; obtain rfl : j = 0 := by omega
            exact hz
  | succ k ih =>
    intro j hj
    cases j with
    | zero => exact hz
    | succ j =>
      have ih' : ∀ i, i ≤ j → _ := fun i hi => ih i (by omega)
      exact ⟨tmsg_step j fun i hi => (ih' i hi).2.1, targ_step j fun i hi => (ih' i hi).2.2, tone_step j fun i hi => (ih' i hi).1⟩
theorem tmsg_any (k : Nat) : TMsgC X v ts k := (tree_pieces k k (Nat.le_refl _)).1
end
theorem msgT_one {ts : List Tk} {k k' i n d : Nat} {acc : List Pt} {r r' : TR (List Pt)} (h : msgT ts k i n d acc = some r) (h' : msgT ts k' i n d acc = some r') : r = r' := by
  have h1 := msgT_le (Nat.le_max_left k k') h
  have h2 := msgT_le (Nat.le_max_right k k') h'
  exact Option.some.inj (h1.symm.trans h2)
noncomputable def treeR (ts : List Tk) : TR (List Pt) := (msgT ts (Classical.epsilon fun k => ∃ r, msgT ts k 0 0 1 [] = some r) 0 0 1 []).getD (.er 0 0)
theorem treeR_eq {ts : List Tk} {k : Nat} {r : TR (List Pt)} (h : msgT ts k 0 0 1 [] = some r) : treeR ts = r := by
  have he : ∃ r', msgT ts (Classical.epsilon fun k => ∃ r, msgT ts k 0 0 1 [] = some r) 0 0 1 [] = some r' := Classical.epsilon_spec (p := fun k => ∃ r, msgT ts k 0 0 1 [] = some r) ⟨k, r, h⟩
  obtain ⟨r', h'⟩ := he
  rw [treeR, h', msgT_one h' h]
  rfl
noncomputable def parseO (s : ByteArray) (m : Int) : TR (List Pt) :=
  match lexO s m with
  | .er k a => .er k a
  | .ok _ ts _ => treeR ts
def ParsePost (n0 : Nat) (r : TR (List Pt)) (e : Ending) (W' : World) : Prop :=
  match r with
  | .ok _ _ ps => ∃ u, e = .returned (.tuple #[.agg #[u], .int .i64 0, .int .i64 0]) ∧ PMsg.k42.R 42 W' n0 allOk u ps
  | .er k a => e = .returned (.tuple #[.agg #[.slice none 0 0], .int .i64 a, .int .i64 k])
theorem lexO_ok {s : ByteArray} {m : Int} {j : Nat} {ts : List Tk} {al : List Nat} (h : lexO s m = .ok j ts al) : s.size ≤ 65536 ∧ lexR s m = .ok j ts al := by
  unfold lexO at h
  split at h
  · cases h
  · split at h
    · exact ⟨by omega, h⟩
    · cases h
theorem infoRdr : (Tryz.prog.info? 74).map (fun i => (i.zero, i.size, i.bytes)) = some (some (.agg #[.slice none 0 0, .int .i64 0, .int .i64 0, .int .i64 0, .int .i64 0]), 5, 56) := by kernel_rfl
theorem lexR_count {s : ByteArray} {m : Int} {j : Nat} {ts : List Tk} {al : List Nat} (h : lexR s m = .ok j ts al) : ts.length ≤ s.size := by
  have h1 := lexR_some s m
  rw [h] at h1
  have h2 := (counts s m _).msg _ _ _ _ h1
  obtain ⟨r, h3, h4⟩ := (enough s m (2 * s.size + 2)).msg 0 (-1) 0 (Nat.zero_le _) (by omega)
  rw [h3] at h1
  cases Option.some.inj h1
  have := h4 _ _ _ rfl
  simp only [R.cnt] at h2
  omega
theorem results_row3 {fn : Func} {p q1 q2 : Tmp} {T : TypeId} (hf : fn.results = #[.cell p T, .tmp q1, .tmp q2]) {tmps : Array Value} {W : World} {R : Nat} {cs : Array Value} {d : TypeDesc} {v1 v2 : Value} (hp : tmps.getD p undef = .pointer (some ⟨R, 0, none⟩)) (h1 : tmps.getD q1 undef = v1) (h2 : tmps.getD q2 undef = v2) (hb : W.heap[R]? = some (.cells cs T (0, 0)))
    (hu : Tryz.prog.underlying T = some d) (hd : (match d with | .struct _ | .array _ _ => true | _ => false) = true) (hi : (Tryz.prog.info? T).map (·.size) = some cs.size) : (results fn tmps).run Tryz.prog W = .ok (.tuple #[.agg cs, v1, v2]) W := by
  have hp' : tmps[p]?.getD undef = .pointer (some ⟨R, 0, none⟩) := by simpa using hp
  have h1' : tmps[q1]?.getD undef = v1 := by simpa using h1
  have h2' : tmps[q2]?.getD undef = v2 := by simpa using h2
  have hr : ∀ w : World, w = W → True := fun _ _ => trivial
  have hl := run_loadVar_row (P := Tryz.prog) W R T T cs (0, 0) d hb hu (by cases d <;> first | rfl | exact hd) hi
  simp [results, hf, hp', h1', h2', asAddr, hl]
theorem lexO_er {s : ByteArray} {m k a : Int} (h : lexO s m = .er k a) : k ≠ 0 := by
  unfold lexO at h
  split at h
  · cases h; decide
  · split at h
    · exact lexR_ne h
    · cases h; decide
set_option maxRecDepth 100000 in
set_option maxHeartbeats 8000000 in
theorem TParse_any (s : ByteArray) (m : Int) (w : World) (hG : GlH w) :
    Calls Tryz.prog 30 #[.string s, .int .i64 m] w fun e w' => ParsePost w.heap.size (parseO s m) e w' ∧ Below w.heap.size w w' := by
  have rb := World.alloc_heap_new w (.cells #[.slice none 0 0] 24)
  have hb0 : Below w.heap.size w (w.alloc (.cells #[.slice none 0 0] 24)) := (Below.refl _ w).alloc (Nat.le_refl _) _
  have hz0 : (w.alloc (.cells #[.slice none 0 0] 24)).heap.size = w.heap.size + 1 := by simp
  have HZ := Lib.hid hz0
  clear hz0
  go_enter Tryz.func30, Tryz.ntmps30
  go_upto_region 1 with (fail)
  generalize w.alloc (.cells #[.slice none 0 0] 24) = W0 at *
  have HL := Lib.hid (Lex_any s m W0 (hG.bel hb0))
  cases hl : lexO s m with
  | er k a =>
    have HF : Hid (parseO s m = .er k a) := Lib.hid (by rw [parseO, hl])
    have hk : (k != 0) = true := by simpa using lexO_er hl
    rw [hl] at HL
    clear hl
    go_wp2_with fail
    refine HL.out.mono ?_
    rintro e w1 ⟨he, hb1⟩
    obtain rfl := he
    have rb1 := blk_below rb hb1
    have z0 : w1.cell? ⟨w.heap.size, 0, none⟩ = some (.slice none 0 0) := blk_cell rb1 0
    have g0 := blk_frozen rb1 0
    have hb := hb0.trans (hb1.mono (by rw [HZ.out]; omega))
    go_wp2_with fail
    have rb2 := blk_set rb1 0 (.slice none 0 0)
    refine bodyPost_ret (v := .tuple #[.agg #[.slice none 0 0], .int .i64 a, .int .i64 k]) (results_row3 rfl rfl rfl rfl rb2 Tryz.underlying24 rfl (by kernel_rfl)) rfl ?_
    rw [HF.out]
    exact ⟨rfl, hb.setCell (p := ⟨w.heap.size, 0, none⟩) (Nat.le_refl _) _⟩
  | ok j ts al =>
    obtain ⟨hs, hlr⟩ := lexO_ok hl
    obtain ⟨K, r, hr⟩ := tree_total hlr
    have HF : Hid (parseO s m = r) := Lib.hid (by rw [parseO, hl]; exact treeR_eq hr)
    rw [hl] at HL
    have HSM := Lib.hid (lexR_sml hlr)
    have HR := Lib.hid hr
    have HLR := Lib.hid hlr
    clear hl hlr hr
    go_wp2_with fail
    refine HL.out.mono ?_
    rintro e w1 ⟨⟨vv, rfl, ho⟩, hb1⟩
    have rb1 := blk_below rb hb1
    have hb := hb0.trans (hb1.mono (by rw [HZ.out]; omega))
    obtain ⟨Av, cv, rfl⟩ := own_slice ho
    have HLN := Lib.hid (lexR_count HLR.out)
    go_upto_region 5 with (fail)
    have hb2 : Below w1.heap.size w1 (w1.alloc (.cells #[.slice Av ts.length cv, .int .i64 0, .int .i64 0, .int .i64 0, .int .i64 0] 74)) := (Below.refl _ w1).alloc (Nat.le_refl _) _
    have xb := World.alloc_heap_new w1 (.cells #[.slice Av ts.length cv, .int .i64 0, .int .i64 0, .int .i64 0, .int .i64 0] 74)
    have hX0 : w.heap.size < w1.heap.size := blk_lt rb1
    have rb2 := blk_below rb1 hb2
    have ho2 := pw_own_below ho hb2
    have hb3 := hb.trans (hb2.mono (by omega))
    generalize w1.alloc (.cells #[.slice Av ts.length cv, .int .i64 0, .int .i64 0, .int .i64 0, .int .i64 0] 74) = w2 at *
    generalize w1.heap.size = X at *
    have hrd : Rd X (.slice Av ts.length cv) ts 0 0 0 0 w2 := ⟨xb, ⟨_, ho2⟩, by have := HLN.out; omega, Nat.zero_le _, Nat.zero_le _, fun t ht => by have := HSM.out t ht; omega⟩
    have HMM := Lib.hid (tmsg_any K 0 0 1 w2 r HR.out hrd (by decide))
    clear ho ho2 hb1 hb2 rb1 xb hb hrd
    go_wp2_with fail
    refine HMM.out.mono ?_
    rintro e' w3 ⟨ps, u, rfl, hrow, hte, hst⟩
    obtain ⟨Au, cu, rfl⟩ := Kd.R_slice hrow
    have rb3 := blk_grown rb2 hst (by simp; omega)
    have hb4 : Below w.heap.size w w3 := hb3.grown hst hb3.size fun k hk => by cases hk; omega
    have hz2 := hb3.size
    have hrow2 : PMsg.k42.R 42 w3 w.heap.size allOk (.slice Au ps.length cu) ps := Kd.R_lower hrow hz2
    go_upto_region 6 with (fail)
    have hb5 : Below w3.heap.size w3 (w3.alloc (.cells #[.slice Au ps.length cu] 24)) := (Below.refl _ w3).alloc (Nat.le_refl _) _
    have mb := World.alloc_heap_new w3 (.cells #[.slice Au ps.length cu] 24)
    have rb4 := blk_below rb3 hb5
    have hb6 := hb4.trans (hb5.mono hb4.size)
    have hrow3 := Kd.R_below hrow2 hb5
    have hte2 : TEnd X (.slice Av ts.length cv) ts r ps (w3.alloc (.cells #[.slice Au ps.length cu] 24)) := by
      cases r with
      | ok i n x => exact ⟨hte.1, hte.2.below hb5⟩
      | er e a => obtain ⟨h1, i, n, h2⟩ := hte; exact ⟨h1, i, n, h2.below hb5⟩
    generalize w3.alloc (.cells #[.slice Au ps.length cu] 24) = w4 at *
    generalize w3.heap.size = MB at *
    clear hrow hrow2 hte hb5 hb4 rb3 rb2 hb3 hst HMM
    cases r with
    | ok i n x =>
      obtain ⟨rfl, hrd⟩ := hte2
      obtain ⟨c0, c1, c2, c3, c4, f⟩ := hrd.cells
      have z0 : w4.cell? ⟨MB, 0, none⟩ = some (.slice Au ps.length cu) := blk_cell mb 0
      have y0 : w4.cell? ⟨w.heap.size, 0, none⟩ = some (.slice none 0 0) := blk_cell rb4 0
      have g0 := blk_frozen rb4 0
      go_wp2_with fail
      refine bodyPost_ret (v := .tuple #[.agg #[.slice Au ps.length cu], .int .i64 0, .int .i64 0]) (results_row3 rfl rfl rfl rfl (blk_set rb4 0 _) Tryz.underlying24 rfl (by kernel_rfl)) rfl ?_
      rw [HF.out]
      exact ⟨⟨_, rfl, Kd.R_set hrow3 rb4 (by decide) 0 _⟩, hb6.setCell (p := ⟨w.heap.size, 0, none⟩) (Nat.le_refl _) _⟩
    | er k a =>
      obtain ⟨hk0, i, n, hrd⟩ := hte2
      obtain ⟨c0, c1, c2, c3, c4, f⟩ := hrd.cells
      have hk : (k != 0) = true := by simpa using hk0
      have y0 : w4.cell? ⟨w.heap.size, 0, none⟩ = some (.slice none 0 0) := blk_cell rb4 0
      have g0 := blk_frozen rb4 0
      have k3 : ∀ j x, (w4.setCell ⟨w.heap.size, j, none⟩ x).cell? ⟨X, 3, none⟩ = some (.int .i64 a) := fun j x => blk_cell (blk_set_far hrd.blk (by omega : X ≠ w.heap.size) j x) 3
      have k4 : ∀ j x, (w4.setCell ⟨w.heap.size, j, none⟩ x).cell? ⟨X, 4, none⟩ = some (.int .i64 k) := fun j x => blk_cell (blk_set_far hrd.blk (by omega : X ≠ w.heap.size) j x) 4
      clear c0 c1 c2
      go_wp2_with fail
      go_region_held3 (fun w' => w'.cell? ⟨X, 3, none⟩ = some (.int .i64 a) ∧ w'.cell? ⟨X, 4, none⟩ = some (.int .i64 k)) (first | go_keep | (go_simp; done) | (simp [k3, k4]; done)) (first | fail)
      go_wp2_with fail
      refine bodyPost_ret (v := .tuple #[.agg #[.slice none 0 0], .int .i64 a, .int .i64 k]) (results_row3 rfl rfl rfl rfl (blk_drew (blk_set rb4 0 (.slice none 0 0))) Tryz.underlying24 rfl (by kernel_rfl)) rfl ?_
      rw [HF.out]
      exact ⟨rfl, Below.drew' (hb6.setCell (p := ⟨w.heap.size, 0, none⟩) (Nat.le_refl _) _)⟩
end Go.Proofs.YtcpglgoiienhkaaGreatDoor
