/- Lemmas behind the laws of the tokens; no conditions. -/
import Derived.Test.YtcnhklcbibpjpaaGreatDoorZRfv
set_option linter.unusedVariables false
set_option linter.unusedSimpArgs false

namespace Go.Proofs.YtcnhklcbibpjpaaGreatDoor
open Go.RowKit P Ext PRfa
section
variable {A : World} {s : ByteArray} {m : Int} {ts : List Tk} {fs : List Fr} {al : List Nat} {gl go ga : Option Addr} {cl co ca nl no na : Nat} {w : World}
theorem bx_ret2 {fn : Func} {p u : Tmp} (hf : fn.results = #[.cell p 49, .tmp u]) {tmps : Array Value} {W : World} {R : Nat} (hp : tmps.getD p undef = .pointer (some ⟨R, 0, none⟩)) {s : ByteArray} {m i : Int} {vl vo : Value} {e a : Int} {va : Value} (h : Bx R s m i vl vo e a va W) :
    (results fn tmps).run Tryz.prog W = .ok (.tuple #[.agg #[.string s, .int .i64 m, .int .i64 i, vl, vo, .int .i64 e, .int .i64 a, va], tmps.getD u undef]) W :=
  Go.Proofs.YtcnhklcbibpjpaaGreatDoorW.PrintWords.results_ct hf _ _ R 49 _ (0, 0) _ hp h Tryz.underlying49 rfl (by kernel_rfl)
@[reducible] def fill8 (X : Nat) (s : ByteArray) (m i : Int) (vl vo : Value) (e a : Int) (va : Value) (W : World) : World :=
  (((((((W.setCell ⟨X, 0, none⟩ (.string s)).setCell ⟨X, 1, none⟩ (.int .i64 m)).setCell ⟨X, 2, none⟩ (.int .i64 i)).setCell ⟨X, 3, none⟩ vl).setCell ⟨X, 4, none⟩ vo).setCell ⟨X, 5, none⟩ (.int .i64 e)).setCell ⟨X, 6, none⟩ (.int .i64 a)).setCell ⟨X, 7, none⟩ va
theorem fin8 {fb : Bool} {W0 W : World} {X : Nat} {s0 : ByteArray} {m0 i0 : Int} {vl0 vo0 : Value} {e0 a0 : Int} {va0 : Value} (s : ByteArray) (m i : Int) (vl vo : Value) (e a : Int) (va : Value) (h : RO A ts fs al gl cl go co ga ca W) (hr : Bx X s0 m0 i0 vl0 vo0 e0 a0 va0 W) (hk : KR fb W0 W) (hA : A.heap.size ≤ X) (h0 : W0.heap.size ≤ X) :
    Bx X s m i vl vo e a va (fill8 X s m i vl vo e a va W) ∧ RO A ts fs al gl cl go co ga ca (fill8 X s m i vl vo e a va W) ∧ KR fb W0 (fill8 X s m i vl vo e a va W) := by
  have r0 := hr.set0 s
  have r1 := r0.set1 m
  have r2 := r1.set2 i
  have r3 := r2.set3 vl
  have r4 := r3.set4 vo
  have r5 := r4.set5 e
  have r6 := r5.set6 a
  exact ⟨r6.set7 va, (((((((h.bx hr hA _ _).bx r0 hA _ _).bx r1 hA _ _).bx r2 hA _ _).bx r3 hA _ _).bx r4 hA _ _).bx r5 hA _ _).bx r6 hA _ _, (((((((hk.set h0 _ _).set h0 _ _).set h0 _ _).set h0 _ _).set h0 _ _).set h0 _ _).set h0 _ _).set h0 _ _⟩
structure SX (fb : Bool) (A w : World) (X : Nat) (s : ByteArray) (m i : Int) (ts : List Tk) (fs : List Fr) (al : List Nat) (gl : Option Addr) (cl : Nat) (go : Option Addr) (co : Nat) (ga : Option Addr) (ca : Nat) (W : World) : Prop where
  ro : RO A ts fs al gl cl go co ga ca W
  bx : Bx X s m i (.slice gl ts.length cl) (.slice go fs.length co) 0 0 (.slice ga al.length ca) W
  rx : ∃ s0 m0 i0 vl0 vo0 e0 a0 va0, Bx (X + 1) s0 m0 i0 vl0 vo0 e0 a0 va0 W
  kr : KR fb w W
  hA : A.heap.size ≤ X
  hw : w.heap.size ≤ X
theorem SB.sx {fb : Bool} {X : Nat} {i : Int} {w0 W : World} (h : SB fb A w0 X s m i ts fs al gl cl go co ga ca W) (hA : A.heap.size ≤ X) (hw : w0.heap.size ≤ X) : SX fb A w0 X s m i ts fs al gl cl go co ga ca W := ⟨h.ro, h.bx, ⟨_, _, _, _, _, _, _, _, h.rb⟩, h.kr, hA, hw⟩
theorem SX.later {fb : Bool} {X : Nat} {i : Int} {w0 W W' : World} (h : SX fb A w0 X s m i ts fs al gl cl go co ga ca W) (hb : Below W.heap.size W W') : SX fb A w0 X s m i ts fs al gl cl go co ga ca W' := by
  obtain ⟨a1, a2, a3, a4, a5, a6, a7, a8, hr⟩ := h.rx
  exact ⟨h.ro.later hb, h.bx.kr (KR.ofBelow (fb := true) hb), ⟨_, _, _, _, _, _, _, _, hr.kr (KR.ofBelow (fb := true) hb)⟩, h.kr.trans (KR.ofBelow hb), h.hA, h.hw⟩
theorem SX.drew {fb : Bool} {X : Nat} {i : Int} {w0 W : World} (h : SX fb A w0 X s m i ts fs al gl cl go co ga ca W) : SX fb A w0 X s m i ts fs al gl cl go co ga ca W.drew := h.later (Below.refl _ W).drew
theorem SX.fin {fb : Bool} {X : Nat} {i : Int} {w0 W : World} (h : SX fb A w0 X s m i ts fs al gl cl go co ga ca W) (s' : ByteArray) (m' i' : Int) (vl vo : Value) (e a : Int) (va : Value) :
    Bx (X + 1) s' m' i' vl vo e a va (fill8 (X + 1) s' m' i' vl vo e a va W) ∧ RO A ts fs al gl cl go co ga ca (fill8 (X + 1) s' m' i' vl vo e a va W) ∧ KR fb w0 (fill8 (X + 1) s' m' i' vl vo e a va W) := by
  obtain ⟨a1, a2, a3, a4, a5, a6, a7, a8, hr⟩ := h.rx
  have := h.hA
  have := h.hw
  exact Go.Proofs.YtcnhklcbibpjpaaGreatDoor.fin8 s' m' i' vl vo e a va h.ro hr h.kr (by omega) (by omega)
theorem SX.fill {fb : Bool} {X : Nat} {i : Int} {w0 W : World} (h : SX fb A w0 X s m i ts fs al gl cl go co ga ca W) (s' : ByteArray) (m' i' : Int) (vl vo : Value) (e a : Int) (va : Value) :
    SX fb A w0 X s m i ts fs al gl cl go co ga ca (fill8 (X + 1) s' m' i' vl vo e a va W) := by
  obtain ⟨f1, f2, f3⟩ := h.fin s' m' i' vl vo e a va
  have hne : X + 1 ≠ X := by omega
  exact ⟨f2, (((((((h.bx.other hne _ _).other hne _ _).other hne _ _).other hne _ _).other hne _ _).other hne _ _).other hne _ _).other hne _ _, ⟨_, _, _, _, _, _, _, _, f1⟩, f3, h.hA, h.hw⟩
theorem SX.s9 {fb : Bool} {X : Nat} {i : Int} {w0 W : World} (h : SX fb A w0 X s m i ts fs al gl cl go co ga ca W) :
    W.cell? ⟨X, 0, none⟩ = some (.string s) ∧ W.cell? ⟨X, 1, none⟩ = some (.int .i64 m) ∧ W.cell? ⟨X, 2, none⟩ = some (.int .i64 i) ∧ W.cell? ⟨X, 3, none⟩ = some (.slice gl ts.length cl) ∧ W.cell? ⟨X, 4, none⟩ = some (.slice go fs.length co) ∧ W.cell? ⟨X, 5, none⟩ = some (.int .i64 0) ∧ W.cell? ⟨X, 6, none⟩ = some (.int .i64 0) ∧ W.cell? ⟨X, 7, none⟩ = some (.slice ga al.length ca) ∧ SX fb A w0 X s m i ts fs al gl cl go co ga ca W := by
  obtain ⟨h0, h1, h2, h3, h4, h5, h6, h7⟩ := h.bx.cells
  exact ⟨h0, h1, h2, h3, h4, h5, h6, h7, h⟩
theorem SB.cast {fb : Bool} {X : Nat} {i i' : Int} {w0 W : World} (h : SB fb A w0 X s m i ts fs al gl cl go co ga ca W) (e : i = i') : SB fb A w0 X s m i' ts fs al gl cl go co ga ca W := e ▸ h
theorem SB.pos {fb : Bool} {X : Nat} {i : Nat} {w0 W : World} (h : SB fb A w0 X s m (i : Int) ts fs al gl cl go co ga ca W) : posOf X W = i := by
  unfold posOf
  rw [h.bx.cells.2.2.1]
  rfl
set_option maxRecDepth 100000 in
set_option maxHeartbeats 1000000 in
theorem rinner_any (i : Int) {f : Fr} (hl : fs.length ≤ 100000) (h : RO A ts (fs ++ [f]) al gl cl go co ga ca w) :
    Calls Tryz.prog 51 #[lxV s m i (.slice gl nl cl) (.slice go (fs.length + 1) co) 0 0 (.slice ga na ca)] w fun e w' =>
      e = .returned (.int .i64 (if f.2.2.2.1 && f.1 != 2 then f.2.2.2.2 else f.2.2.1)) ∧ Below w.heap.size w w' := by
  obtain ⟨f1, f2, f3, f4, f5⟩ := f
  have e1 : IntKind.i64.wrap ((fs.length : Int) + 1 - 1) = (fs.length : Int) := by rw [IntWalk.i64_in _ (by omega)]; omega
  obtain ⟨g, rfl, hg, hgA, ⟨cur, hcur⟩, c0, c1, c2, c3, c4⟩ := h.top
  have b0 : ∀ o1 : Obj, (w.alloc o1).heap[g]? = w.heap[g]? := fun o1 => Below.heap_alloc w o1 g hg
  have q0 : ∀ o1 : Obj, (w.alloc o1).cell? ⟨g, fs.length * 5, none⟩ = some (.int .i64 f1) := fun o1 => (World.cell?_of_block (b0 o1)).trans c0
  have q1 : ∀ o1 : Obj, (w.alloc o1).cell? ⟨g, fs.length * 5 + 1, none⟩ = some (.bool f2) := fun o1 => (World.cell?_of_block (b0 o1)).trans c1
  have q2 : ∀ o1 : Obj, (w.alloc o1).cell? ⟨g, fs.length * 5 + 2, none⟩ = some (.int .i64 f3) := fun o1 => (World.cell?_of_block (b0 o1)).trans c2
  have q3 : ∀ o1 : Obj, (w.alloc o1).cell? ⟨g, fs.length * 5 + 3, none⟩ = some (.bool f4) := fun o1 => (World.cell?_of_block (b0 o1)).trans c3
  have q4 : ∀ o1 : Obj, (w.alloc o1).cell? ⟨g, fs.length * 5 + 4, none⟩ = some (.int .i64 f5) := fun o1 => (World.cell?_of_block (b0 o1)).trans c4
  cases f4 with
  | false =>
    go_enter Tryz.func51, Tryz.ntmps51
    go_wp2_with fail
    go_ret
    exact ⟨rfl, ((Below.refl _ w).alloc (Nat.le_refl _) _).alloc (by simp) _⟩
  | true =>
    by_cases hf : f1 = 2
    · subst hf
      go_enter Tryz.func51, Tryz.ntmps51
      go_wp2_with fail
      go_ret
      exact ⟨rfl, ((Below.refl _ w).alloc (Nat.le_refl _) _).alloc (by simp) _⟩
    · have hf1 : (f1 == 2) = false := by simpa using hf
      have hf2 : (f1 != 2) = true := by simpa using hf
      have HR : Hid ((if (true && f1 != 2) = true then f5 else f3) = f5) := Lib.hid (by rw [hf2]; rfl)
      go_enter Tryz.func51, Tryz.ntmps51
      go_wp2_with fail
      all_goals
        go_ret
        exact ⟨by first | rfl | rw [HR.out], ((Below.refl _ w).alloc (Nat.le_refl _) _).alloc (by simp) _⟩
set_option maxRecDepth 100000 in
set_option maxHeartbeats 1000000 in
theorem rword_any (i : Nat) (hG : GlH A) (hz : s.size ≤ 100000) (hi : i ≤ s.size) (h : RO A ts fs al gl cl go co ga ca w) :
    Calls Tryz.prog 45 #[lxV s m (i : Int) (.slice gl ts.length cl) (.slice go fs.length co) 0 0 (.slice ga al.length ca)] w fun e w' =>
      ∃ v, e = .returned (.tuple #[v, .string (wordAt s i)]) ∧ RP false A s m w (P.wordEnd s i : Nat) ts fs al 0 0 v w' := by
  obtain ⟨HS, hA⟩ := boxes_sb (s := s) (m := m) false i h
  go_enter Tryz.func45, Tryz.ntmps45
  go_wp2_with fail
  refine (?_ : Code.wp _ _ _ _ (boxes s m i (.slice gl ts.length cl) (.slice go fs.length co) 0 0 (.slice ga al.length ca) w))
  generalize boxes s m i (.slice gl ts.length cl) (.slice go fs.length co) 0 0 (.slice ga al.length ca) w = W1 at *
  have hne : w.heap.size ≠ w.heap.size + 1 := by omega
  go_loopw [5, 6] (fun _ _ wr => ∃ j : Nat, i ≤ j ∧ j ≤ s.size ∧ Hid (P.wordEnd s i = P.wordEnd s j) ∧ SB false A w w.heap.size s m (j : Int) ts fs al gl cl go co ga ca wr) (fun _ _ wr => s.size - posOf w.heap.size wr)
  case atStart => exact ⟨i, Nat.le_refl _, hi, Lib.hid rfl, HS⟩
  case round =>
    obtain ⟨j, hij, hjs, HW, HS1⟩ := hrel
    clear HS
    obtain ⟨d0, d1, d2, d3, d4, d5, d6, d7⟩ := HS1.bx.cells
    have HE := Lib.hid (fun (W : World) => rends_any (s := s) (m := m) (gl := gl) (nl := ts.length) (cl := cl) (go := go) (no := fs.length) (co := co) (ga := ga) (na := al.length) (ca := ca) (w := W) j 0 0)
    have HK := hG
    by_cases hlt : j < s.size
    rotate_left
    focus
      have eE : decide (s.size ≤ j) = true := by simp; omega
      have HF : Hid (P.wordEnd s i = j) := Lib.hid (by rw [HW.out, P.wordEnd, dif_neg hlt])
      go_wp2_with (go_at_call 32; refine (HE.out _).mono ?_; rintro e' W3 ⟨rfl, hb3⟩; have HS3 := HS1.later hb3; clear d0 d1 d2 d3 d4 d5 d6 d7; obtain ⟨d0, d1, d2, d3, d4, d5, d6, d7⟩ := HS3.bx.cells)
    rotate_left
    have eE : decide (s.size ≤ j) = false := by simp; omega
    go_wp2_with (go_at_call 32; refine (HE.out _).mono ?_; rintro e' W2 ⟨rfl, hb2⟩; have HS2 := HS1.later hb2; clear d0 d1 d2 d3 d4 d5 d6 d7; obtain ⟨d0, d1, d2, d3, d4, d5, d6, d7⟩ := HS2.bx.cells)
    refine (Step_any j (HS2.ro.glh hG) hz hlt).mono ?_
    rintro e' W3 ⟨rfl, hb3⟩
    have HS3 := HS2.later hb3
    clear d0 d1 d2 d3 d4 d5 d6 d7
    obtain ⟨d0, d1, d2, d3, d4, d5, d6, d7⟩ := HS3.bx.cells
    obtain ⟨p1, p2⟩ := stepP_sp s j
    have p3 := stepP_w s j
    have hrl := rune_lt s j
    have hw1 := width_pos s j hlt
    have hw2 := width_le s j hlt
    by_cases hneg : (stepP s j).1 < 0
    focus
      have eN : decide ((stepP s j).1 < 0) = true := by simpa using hneg
      have HF : Hid (P.wordEnd s i = j) := Lib.hid (by
        have hst : stopB s j = true := by
          have : Utf8.decode s j = (65533, 1) := by
            by_cases hd : Utf8.decode s j = (65533, 1)
            · exact hd
            · rw [stepP, if_neg hd] at hneg; simp only at hneg; omega
          unfold stopB; rw [this]; rfl
        rw [HW.out, P.wordEnd, dif_pos hlt, if_pos hst])
      clear p1 p2 p3
      go_wp2_with fail
    rotate_left
    have p4 := p2 (by simpa using hneg)
    have hnb : Utf8.decode s j ≠ (65533, 1) := fun hd => by rw [stepP, if_pos hd] at hneg; exact hneg (by decide)
    have hst : Hid (stopB s j = (spB ((Utf8.decode s j).1 : Int) || syB ((Utf8.decode s j).1 : Int))) := Lib.hid (by
      unfold stopB
      have : ((((Utf8.decode s j).1 : Int) == 65533) && (((Utf8.decode s j).2 : Int) == 1)) = false := by
        rw [Bool.eq_false_iff]
        intro e
        simp only [Bool.and_eq_true, beq_iff_eq] at e
        exact hnb (Prod.ext (by simp only; omega) (by simp only; omega))
      rw [this, Bool.false_or])
    have HWJ : Hid (P.wordEnd s j = if stopB s j = true then j else P.wordEnd s (j + (Utf8.decode s j).2)) := Lib.hid (by rw [P.wordEnd, dif_pos hlt])
    rw [p4]
    clear p1 p2 p3 p4 hneg hnb
    dsimp only
    generalize (Utf8.decode s j).1 = r at *
    generalize (Utf8.decode s j).2 = wd at *
    have eN : decide ((r : Int) < 0) = false := by simp
    have eW : IntKind.i32.wrap (r : Int) = (r : Int) := IntWalk.i32_in _ (by omega)
    have HSp := Lib.hid (fun (W : World) (hG : GlH W) => Space2_any (w := W) (r : Int) hG)
    have HSy := Lib.hid (fun (W : World) (hG : GlH W) => Syntax2_any (w := W) (r : Int) hG)
    rcases hsp : spB (r : Int) with _ | _
    rotate_left
    focus
      have HF : Hid (P.wordEnd s i = j) := Lib.hid (by rw [HW.out, HWJ.out, hst.out, hsp]; rfl)
      rw [hsp] at HSp
      have HS4 := HS3
      clear HS3
      go_wp2_with (go_at_call 71; refine (HSp.out _ (HS4.ro.glh hG)).mono ?_; rintro e' W5 ⟨rfl, hb5⟩; have HS3 := HS4.later hb5; clear d0 d1 d2 d3 d4 d5 d6 d7; obtain ⟨d0, d1, d2, d3, d4, d5, d6, d7⟩ := HS3.bx.cells)
    rotate_right
    rw [hsp] at HSp
    rcases hsy : syB (r : Int) with _ | _
    rotate_left
    focus
      have HF : Hid (P.wordEnd s i = j) := Lib.hid (by rw [HW.out, HWJ.out, hst.out, hsp, hsy]; rfl)
      rw [hsy] at HSy
      have HS4 := HS3
      clear HS3
      go_wp2_with (first
        | (go_at_call 71; refine (HSp.out _ (HS4.ro.glh hG)).mono ?_; rintro e' W5 ⟨rfl, hb5⟩; have HS5 := HS4.later hb5)
        | (go_at_call 72; refine (HSy.out _ (HS5.ro.glh hG)).mono ?_; rintro e' W6 ⟨rfl, hb6⟩; have HS3 := HS5.later hb6; clear d0 d1 d2 d3 d4 d5 d6 d7; obtain ⟨d0, d1, d2, d3, d4, d5, d6, d7⟩ := HS3.bx.cells))
    rotate_right
    focus
      rw [hsy] at HSy
      have HG : Hid (P.wordEnd s i = P.wordEnd s (j + wd)) := Lib.hid (by rw [HW.out, HWJ.out, hst.out, hsp, hsy]; rfl)
      have eS : IntKind.i64.wrap ((j : Int) + (wd : Int)) = ((j + wd : Nat) : Int) := by rw [IntWalk.i64_in _ (by omega)]; omega
      clear d0 d1 d2 d3 d4 d5 d6 d7
      go_wp2_with (first
        | (go_at_call 71; refine (HSp.out _ (HS3.ro.glh hG)).mono ?_; rintro e' W5 ⟨rfl, hb5⟩; have HS5 := HS3.later hb5)
        | (go_at_call 72; refine (HSy.out _ (HS5.ro.glh hG)).mono ?_; rintro e' W6 ⟨rfl, hb6⟩; have HS6 := HS5.later hb6; obtain ⟨d0, d1, d2, d3, d4, d5, d6, d7⟩ := HS6.bx.cells; have df := HS6.bx.free 2))
      have HN : SB false A w w.heap.size s m ((j + wd : Nat) : Int) ts fs al gl cl go co ga ca (W6.setCell ⟨w.heap.size, 2, none⟩ (.int .i64 ((j : Int) + (wd : Int)))) := (HS6.set2 hA (Nat.le_refl _) ((j : Int) + (wd : Int))).cast (by omega)
      go_roundw
      case rel => exact ⟨j + wd, by omega, by omega, HG, HN⟩
      case measure => rw [HS1.pos, HN.pos]; omega
    all_goals
      rename World => W3
      clear HS1 HW d0 d1 d2 d3 d4 d5 d6 d7
      obtain ⟨d0, d1, d2, d3, d4, d5, d6, d7⟩ := HS3.bx.cells
      obtain ⟨q0, q1, q2, q3, q4, q5, q6, q7⟩ := HS3.rb.cells
      have qf := HS3.rb.free
      have hwa : Hid (wordAt s i = s.extract i j) := Lib.hid (by rw [wordAt, HF.out])
      have hij' : (i : Int) ≤ j := by omega
      have hjs' : (j : Int) ≤ s.size := by omega
      obtain ⟨f1, f2, f3⟩ := (HS3.sx hA (Nat.le_refl _)).fin s m (j : Int) (.slice gl ts.length cl) (.slice go fs.length co) 0 0 (.slice ga al.length ca)
      have F1 := Lib.hid f1
      have F2 := Lib.hid f2
      have F3 := Lib.hid f3
      clear f1 f2 f3
      go_region_with (fail)
      all_goals
        go_wp2_with fail
        refine (?_ : bodyPost _ _ _ _ _ (fill8 (w.heap.size + 1) s m (j : Int) (.slice gl ts.length cl) (.slice go fs.length co) 0 0 (.slice ga al.length ca) W3).drew)
        generalize fill8 (w.heap.size + 1) s m (j : Int) (.slice gl ts.length cl) (.slice go fs.length co) 0 0 (.slice ga al.length ca) W3 = Wf at *
        have hbd := (Below.refl Wf.heap.size Wf).drew
        refine bodyPost_ret (bx_ret2 rfl rfl (F1.out.kr (KR.ofBelow (fb := true) hbd))) rfl ?_
        refine ⟨_, by rw [hwa.out]; rfl, gl, cl, go, co, ga, ca, by rw [HF.out], F2.out.later hbd, F3.out.trans (KR.ofBelow hbd)⟩
end
end Go.Proofs.YtcnhklcbibpjpaaGreatDoor
