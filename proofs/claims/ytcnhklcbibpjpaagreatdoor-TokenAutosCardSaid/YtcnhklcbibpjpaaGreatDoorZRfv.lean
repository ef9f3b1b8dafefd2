/- Lemmas behind the laws of the tokens; no conditions. -/
import Derived.Test.YtcnhklcbibpjpaaGreatDoorZRfp
import Derived.Deep.RegionWith
set_option linter.unusedVariables false
set_option linter.unusedSimpArgs false

namespace Go.Proofs.YtcnhklcbibpjpaaGreatDoor
open Go.RowKit P Ext PRfa
section
variable {A : World} {s : ByteArray} {m : Int} {ts : List Tk} {fs : List Fr} {al : List Nat} {gl go ga : Option Addr} {cl co ca nl no na : Nat} {w : World}
theorem RO.glh (h : RO A ts fs al gl cl go co ga ca w) (hG : GlH A) : GlH w := hG.bel h.bel
theorem Step_any (i : Nat) (hG : GlH w) (hz : s.size ≤ 100000) (h : i < s.size) : Calls Tryz.prog 70 #[.string s, .int .i64 (i : Int)] w fun e w' => e = .returned (.tuple #[.int .i64 (stepP s i).1, .int .i64 (stepP s i).2]) ∧ Below w.heap.size w w' :=
  (idiomref01_Step.calls 9 s i _ _ w hG (step_f s i 0 hz h)).mono fun e w' ⟨he, hb⟩ => ⟨he, hb.below⟩
theorem Space2_any (r : Int) (hG : GlH w) : Calls Tryz.prog 71 #[.int .i32 r] w fun e w' => e = .returned (.bool (spB r)) ∧ Below w.heap.size w w' :=
  (idiomref01_Space.calls r _ w hG (space_f r)).mono fun e w' ⟨he, hb⟩ => ⟨he, hb.below⟩
theorem Syntax2_any (r : Int) (hG : GlH w) : Calls Tryz.prog 72 #[.int .i32 r] w fun e w' => e = .returned (.bool (syB r)) ∧ Below w.heap.size w w' :=
  (idiomref01_Syntax.calls 20 r _ w hG (syntax_f r 0)).mono fun e w' ⟨he, hb⟩ => ⟨he, hb⟩
theorem Blank_any (i : Nat) (hG : GlH w) (hz : s.size ≤ 100000) (h : i ≤ 100000) : Calls Tryz.prog 67 #[.string s, .int .i64 (i : Int)] w fun e w' => e = .returned (.int .i64 ((P.blanks s i - i : Nat) : Int)) ∧ Below w.heap.size w w' :=
  (idiomref01_Blank.calls _ s i _ w hG (blank_f s hz i h)).mono fun e w' ⟨he, hb⟩ => ⟨he, hb.below⟩
structure SB (fb : Bool) (A w : World) (X : Nat) (s : ByteArray) (m i : Int) (ts : List Tk) (fs : List Fr) (al : List Nat) (gl : Option Addr) (cl : Nat) (go : Option Addr) (co : Nat) (ga : Option Addr) (ca : Nat) (W : World) : Prop where
  ro : RO A ts fs al gl cl go co ga ca W
  bx : Bx X s m i (.slice gl ts.length cl) (.slice go fs.length co) 0 0 (.slice ga al.length ca) W
  rb : Bx (X + 1) ⟨#[]⟩ 0 0 (.slice none 0 0) (.slice none 0 0) 0 0 (.slice none 0 0) W
  kr : KR fb w W
theorem SB.later {fb : Bool} {X : Nat} {i : Int} {w0 W W' : World} (h : SB fb A w0 X s m i ts fs al gl cl go co ga ca W) (hb : Below W.heap.size W W') : SB fb A w0 X s m i ts fs al gl cl go co ga ca W' :=
  ⟨h.ro.later hb, h.bx.kr (KR.ofBelow (fb := true) hb), h.rb.kr (KR.ofBelow (fb := true) hb), h.kr.trans (KR.ofBelow hb)⟩
theorem SB.drew {fb : Bool} {X : Nat} {i : Int} {w0 W : World} (h : SB fb A w0 X s m i ts fs al gl cl go co ga ca W) : SB fb A w0 X s m i ts fs al gl cl go co ga ca W.drew := h.later (Below.refl _ W).drew
theorem SB.drewN {fb : Bool} {X : Nat} {i : Int} {w0 W : World} (h : SB fb A w0 X s m i ts fs al gl cl go co ga ca W) (k : Nat) : SB fb A w0 X s m i ts fs al gl cl go co ga ca (W.drewN k) := h.later (Below.drewN' (Below.refl _ W) k)
theorem SB.set2 {fb : Bool} {X : Nat} {i : Int} {w0 W : World} (h : SB fb A w0 X s m i ts fs al gl cl go co ga ca W) (hA : A.heap.size ≤ X) (h0 : w0.heap.size ≤ X) (i' : Int) : SB fb A w0 X s m i' ts fs al gl cl go co ga ca (W.setCell ⟨X, 2, none⟩ (.int .i64 i')) :=
  ⟨h.ro.bx h.bx hA _ _, h.bx.set2 _, h.rb.other (by omega) _ _, h.kr.set h0 _ _⟩
theorem boxes_sb (fb : Bool) (i : Int) (h : RO A ts fs al gl cl go co ga ca w) : SB fb A w w.heap.size s m i ts fs al gl cl go co ga ca (boxes s m i (.slice gl ts.length cl) (.slice go fs.length co) 0 0 (.slice ga al.length ca) w) ∧ A.heap.size ≤ w.heap.size := by
  obtain ⟨hro, hx, hr, hk, hA⟩ := boxes_facts (fb := fb) s m i (.slice gl ts.length cl) (.slice go fs.length co) 0 0 (.slice ga al.length ca) h
  exact ⟨⟨hro, hx, hr, hk⟩, hA⟩
set_option maxRecDepth 100000 in
set_option maxHeartbeats 2000000 in
theorem rblanks_any (i : Nat) (hG : GlH A) (hz : s.size ≤ 100000) (hi : i ≤ s.size) (h : RO A ts fs al gl cl go co ga ca w) :
    Calls Tryz.prog 40 #[lxV s m (i : Int) (.slice gl ts.length cl) (.slice go fs.length co) 0 0 (.slice ga al.length ca)] w fun e w' =>
      ∃ v, e = .returned v ∧ RP false A s m w (P.blanks s i : Nat) ts fs al 0 0 v w' := by
  obtain ⟨HS, hA⟩ := boxes_sb (s := s) (m := m) false i h
  have hne : w.heap.size ≠ w.heap.size + 1 := by omega
  have hbd := blanks_bd s i hi
  have ew : IntKind.i64.wrap ((i : Int) + ((P.blanks s i - i : Nat) : Int)) = ((P.blanks s i : Nat) : Int) := by rw [IntWalk.i64_in _ (by omega)]; omega
  have HB := Lib.hid (fun (W : World) (hG : GlH W) => Blank_any (s := s) i hG hz (by omega))
  have hwb : 0 ≤ ((P.blanks s i - i : Nat) : Int) := by omega
  generalize P.blanks s i = bl at *
  go_enter Tryz.func40, Tryz.ntmps40
  go_wp2_with fail
  refine (?_ : Code.wp _ _ _ _ (boxes s m i (.slice gl ts.length cl) (.slice go fs.length co) 0 0 (.slice ga al.length ca) w))
  generalize boxes s m i (.slice gl ts.length cl) (.slice go fs.length co) 0 0 (.slice ga al.length ca) w = W1 at *
  obtain ⟨d0, d1, d2, d3, d4, d5, d6, d7⟩ := HS.bx.cells
  have df := HS.bx.free
  go_region_with (go_at_call 67; refine (HB.out _ (HS.drew.ro.glh hG)).mono ?_; rintro e' W2 ⟨rfl, hb2⟩; have HS2 := HS.drew.later hb2; obtain ⟨g0, g1, g2, g3, g4, g5, g6, g7⟩ := HS2.bx.cells; have gf := HS2.bx.free 2)
  all_goals
    have HS3 := HS2.set2 hA (Nat.le_refl _) (bl : Int)
    generalize W2.setCell ⟨w.heap.size, 2, none⟩ (.int .i64 (bl : Int)) = W3 at *
    clear g0 g1 g2 g3 g4 g5 g6 g7 gf d0 d1 d2 d3 d4 d5 d6 d7 df
    obtain ⟨g0, g1, g2, g3, g4, g5, g6, g7⟩ := HS3.bx.cells
    go_wp2_with (with_reducible refine gate_lx rfl ?_; refine wp_fill HS3.rb rfl rfl rfl rfl rfl ?_; intro W4 f4 hr4)
    refine bodyPost_ret (bx_ret rfl rfl hr4) rfl ?_
    exact ⟨_, rfl, gl, cl, go, co, ga, ca, rfl, HS3.ro.fl HS3.rb f4 (by omega), HS3.kr.fl f4 (by omega)⟩
set_option maxRecDepth 100000 in
set_option maxHeartbeats 1000000 in
theorem rlacks_any (i : Nat) (op : Int) (at_ : Nat) (h : RO A ts fs al gl cl go co ga ca w) :
    Calls Tryz.prog 46 #[lxV s m (i : Int) (.slice gl ts.length cl) (.slice go fs.length co) 0 0 (.slice ga al.length ca), .int .i64 op, .int .i64 (at_ : Int)] w fun e w' =>
      ∃ v, e = .returned v ∧ ∃ k a, failR s at_ op = .er k a ∧ RP false A s m w i ts fs al k a v w' := by
  obtain ⟨hro, hx, hr, hk, hA⟩ := boxes_facts (fb := false) s m i (.slice gl ts.length cl) (.slice go fs.length co) 0 0 (.slice ga al.length ca) h
  have hne : w.heap.size ≠ w.heap.size + 1 := by omega
  by_cases hc : s.size ≤ at_
  · have d : decide ((s.size : Int) ≤ (at_ : Int)) = true := by simp; omega
    have HF : Hid (failR s at_ op = .er 190 op) := Lib.hid (by rw [failR, if_pos hc])
    go_enter Tryz.func46, Tryz.ntmps46
    go_wp2_with fail
    refine (?_ : Calls _ _ _ (boxes s m i (.slice gl ts.length cl) (.slice go fs.length co) 0 0 (.slice ga al.length ca) w) _)
    generalize boxes s m i (.slice gl ts.length cl) (.slice go fs.length co) 0 0 (.slice ga al.length ca) w = W1 at *
    refine (rfails_any i 190 op hro).mono ?_
    rintro e' W2 ⟨v, rfl, gl2, cl2, go2, co2, ga2, ca2, rfl, hro2, hk2⟩
    have hr2 := hr.kr hk2
    go_wp2_with (with_reducible refine gate_lx rfl ?_; refine wp_fill hr2 rfl rfl rfl rfl rfl ?_; intro W4 f4 hr4)
    refine bodyPost_ret (bx_ret rfl rfl hr4) rfl ?_
    exact ⟨_, rfl, _, _, HF.out, gl2, cl2, go2, co2, ga2, ca2, rfl, hro2.fl hr2 f4 (by omega), (hk.trans hk2).fl f4 (by omega)⟩
  · have d : decide ((s.size : Int) ≤ (at_ : Int)) = false := by simp; omega
    have HF : Hid (failR s at_ op = .er 191 (at_ : Int)) := Lib.hid (by rw [failR, if_neg hc])
    go_enter Tryz.func46, Tryz.ntmps46
    go_wp2_with fail
    refine (?_ : Calls _ _ _ (boxes s m i (.slice gl ts.length cl) (.slice go fs.length co) 0 0 (.slice ga al.length ca) w) _)
    generalize boxes s m i (.slice gl ts.length cl) (.slice go fs.length co) 0 0 (.slice ga al.length ca) w = W1 at *
    refine (rfails_any i 191 at_ hro).mono ?_
    rintro e' W2 ⟨v, rfl, gl2, cl2, go2, co2, ga2, ca2, rfl, hro2, hk2⟩
    have hr2 := hr.kr hk2
    go_wp2_with (with_reducible refine gate_lx rfl ?_; refine wp_fill hr2 rfl rfl rfl rfl rfl ?_; intro W4 f4 hr4)
    refine bodyPost_ret (bx_ret rfl rfl hr4) rfl ?_
    exact ⟨_, rfl, _, _, HF.out, gl2, cl2, go2, co2, ga2, ca2, rfl, hro2.fl hr2 f4 (by omega), (hk.trans hk2).fl f4 (by omega)⟩
set_option maxRecDepth 100000 in
set_option maxHeartbeats 1000000 in
theorem rinside_any (i : Nat) (o : Int) {f : Fr} (hl : fs.length ≤ 100000) (h : RO A ts (fs ++ [f]) al gl cl go co ga ca w) :
    Calls Tryz.prog 48 #[lxV s m (i : Int) (.slice gl ts.length cl) (.slice go (fs.length + 1) co) 0 0 (.slice ga al.length ca), .int .i64 o] w fun e w' =>
      ∃ v, e = .returned v ∧ RP true A s m w i ts (fs ++ [(f.1, f.2.1, f.2.2.1, decide (0 ≤ o), o)]) al 0 0 v w' := by
  have e1 : IntKind.i64.wrap ((fs.length : Int) + 1 - 1) = (fs.length : Int) := by rw [IntWalk.i64_in _ (by omega)]; omega
  obtain ⟨g, rfl, hg, hgA, ⟨cur, hcur⟩, c0, c1, c2, c3, c4⟩ := h.top
  have hAw := h.bel.size
  have h2 := h.setTop rfl (decide (0 ≤ o)) o
  have hk2 := (KR.setFr (KR.refl true w) hcur (fs.length * 5 + 3) (.bool (decide (0 ≤ o)))).setFr (heap_setCell hcur (j := fs.length * 5 + 3) (.bool (decide (0 ≤ o)))) (fs.length * 5 + 4) (.int .i64 o)
  obtain ⟨HS, hA⟩ := boxes_sb (s := s) (m := m) true i h2
  rw [show ((w.setCell ⟨g, fs.length * 5 + 3, none⟩ (.bool (decide (0 ≤ o)))).setCell ⟨g, fs.length * 5 + 4, none⟩ (.int .i64 o)).heap.size = w.heap.size from by simp] at HS
  rw [List.length_append, List.length_singleton] at HS
  have hrb := HS.rb
  have b0 : ∀ o1 o2 : Obj, ((w.alloc o1).alloc o2).heap[g]? = w.heap[g]? := fun o1 o2 => by
    rw [Below.heap_alloc _ o2 g (by simp; omega), Below.heap_alloc w o1 g hg]
  have ca3 : ∀ o1 o2 : Obj, ((w.alloc o1).alloc o2).cell? ⟨g, fs.length * 5 + 3, none⟩ = some (.bool f.2.2.2.1) := fun o1 o2 => (World.cell?_of_block (b0 o1 o2)).trans c3
  have ca4 : ∀ o1 o2 : Obj, ((w.alloc o1).alloc o2).cell? ⟨g, fs.length * 5 + 4, none⟩ = some (.int .i64 f.2.2.2.2) := fun o1 o2 => (World.cell?_of_block (b0 o1 o2)).trans c4
  have cf : ∀ j : Nat, w.frozen? ⟨g, j, none⟩ = false := Lib.frozen_of_heap hcur
  go_enter Tryz.func48, Tryz.ntmps48
  go_wp2_with (with_reducible refine gate_lx rfl ?_; refine wp_fill hrb rfl rfl rfl rfl rfl ?_; intro W4 f4 hr4)
  refine bodyPost_ret (bx_ret rfl rfl hr4) rfl ?_
  exact ⟨_, rfl, gl, cl, _, co, ga, ca, by rw [List.length_append, List.length_singleton], HS.ro.fl hrb f4 (by omega), (hk2.trans HS.kr).fl f4 (by omega)⟩
end
end Go.Proofs.YtcnhklcbibpjpaaGreatDoor
