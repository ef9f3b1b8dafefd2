/- Lemmas behind the laws of the tokens; no conditions. -/
import Derived.Test.YtcnhklcbibpjpaaGreatDoorZRfy
set_option linter.unusedVariables false
set_option linter.unusedSimpArgs false

namespace Go.Proofs.YtcnhklcbibpjpaaGreatDoor
open Go.RowKit P Ext PRfa
section
variable {A : World} {s : ByteArray} {m : Int} {ts : List Tk} {fs : List Fr} {al : List Nat} {gl go ga : Option Addr} {cl co ca nl no na : Nat} {w : World}
def RQ (A : World) (s : ByteArray) (m : Int) (w : World) (ts : List Tk) (fs : List Fr) (al : List Nat) (r : R) (v : Value) (W : World) : Prop :=
  match r with
  | .ok j ts1 al1 => RP true A s m w (j : Nat) (ts ++ ts1) fs (al ++ al1) 0 0 v W
  | .er k a => ∃ (i : Int) (ts2 : List Tk) (fs2 : List Fr) (al2 : List Nat), RP true A s m w i ts2 fs2 al2 k a v W
theorem here_ext (s : ByteArray) (u : Nat) (w : List UInt8) (h : u + w.length ≤ s.size) : ((s.extract u (u + w.length)).toList == w) = hereB s u w := by
  have hl : (s.extract u (u + w.length)).toList = (s.data.toList.drop u).take w.length := by
    rw [ByteArray.toList_eq]
    simp only [ByteArray.data_extract, Array.toList_extract, List.extract_eq_take_drop]
    congr 1
    omega
  rw [hl, hereB, Lib.hasPrefix, Bool.eq_iff_iff, beq_iff_eq, List.isPrefixOf_iff_prefix, List.prefix_iff_eq_take]
  exact ⟨fun e => e.symm, fun e => e.symm⟩
def limF (s : ByteArray) (op : Int) (i : Nat) : R := if numOk s (P.blanks s i) then limR s op (P.blanks s i) else failR s (P.blanks s i) op
theorem SB.next {fb : Bool} {X : Nat} {i : Int} {w0 W1 W2 W3 : World} (h : SB fb A w0 X s m i ts fs al gl cl go co ga ca W1) (hA : A.heap.size ≤ X) (h0 : w0.heap.size ≤ X) {i2 : Int} {ts2 : List Tk} {fs2 : List Fr} {al2 : List Nat} {gl2 go2 ga2 : Option Addr} {cl2 co2 ca2 : Nat}
    (hro : RO A ts2 fs2 al2 gl2 cl2 go2 co2 ga2 ca2 W2) (hk : KR fb W1 W2) (f : Fl X W2 W3) (hx : Bx X s m i2 (.slice gl2 ts2.length cl2) (.slice go2 fs2.length co2) 0 0 (.slice ga2 al2.length ca2) W3) : SB fb A w0 X s m i2 ts2 fs2 al2 gl2 cl2 go2 co2 ga2 ca2 W3 :=
  ⟨hro.fl (h.bx.kr hk) f hA, hx, (h.rb.kr hk).fl f (by omega), (h.kr.trans hk).fl f h0⟩
def FX (F : Nat) (f : Fr) (W : World) : Prop := W.heap[F]? = some (.cells #[.int .i64 f.1, .bool f.2.1, .int .i64 f.2.2.1, .bool f.2.2.2.1, .int .i64 f.2.2.2.2] 65 (0, 0))
theorem FX.kr {F : Nat} {f : Fr} {W W' : World} (h : FX F f W) (k : KR false W W') : FX F f W' := k.same _ _ _ _ h (by decide) (fun e => by cases e) (by decide)
theorem FX.fl {F X : Nat} {f : Fr} {W W' : World} (h : FX F f W) (k : Fl X W W') (hne : F ≠ X) : FX F f W' := (k.same F hne).trans h
theorem FX.later {F : Nat} {f : Fr} {W W' : World} (h : FX F f W) (hb : Below W.heap.size W W') : FX F f W' := (hb.block F (Array.getElem?_eq_some_iff.1 h).1).trans h
theorem FX.set {F b : Nat} {f : Fr} {W : World} (h : FX F f W) (hne : F ≠ b) (j : Nat) (v : Value) : FX F f (W.setCell ⟨b, j, none⟩ v) := by
  unfold FX
  rw [Below.heap_setCell _ _ _ _ (fun e' => by dsimp only at e'; exact hne e')]
  exact h
theorem FX.cells {F : Nat} {f : Fr} {W : World} (h : FX F f W) : W.cell? ⟨F, 0, none⟩ = some (.int .i64 f.1) ∧ W.cell? ⟨F, 1, none⟩ = some (.bool f.2.1) ∧ W.cell? ⟨F, 2, none⟩ = some (.int .i64 f.2.2.1) ∧ W.cell? ⟨F, 3, none⟩ = some (.bool f.2.2.2.1) ∧ W.cell? ⟨F, 4, none⟩ = some (.int .i64 f.2.2.2.2) := by
  refine ⟨?_, ?_, ?_, ?_, ?_⟩ <;> (rw [Lib.cell_of_heap h]; rfl)
set_option maxRecDepth 100000 in
set_option maxHeartbeats 400000 in
theorem rlimit_any (HP : ParseC) (i : Nat) (hG : GlH A) (hz : s.size ≤ 90000) (hi : i ≤ s.size) (f : Fr) (hl : ts.length ≤ 90000) (hf : fs.length ≤ 90000) (fs' : List Fr) (hfs : Hid (fs' = fs ++ [f])) (h : RO A ts fs' al gl cl go co ga ca w) :
    Calls Tryz.prog 53 #[lxV s m (i : Int) (.slice gl ts.length cl) (.slice go fs'.length co) 0 0 (.slice ga al.length ca)] w fun e w' =>
      ∃ v, e = .returned v ∧ RQ A s m w ts (fs ++ [(f.1, f.2.1, f.2.2.1, true, 0)]) al (limF s f.2.2.1 i) v w' := by
  obtain ⟨HS0, hA⟩ := boxes_sb (s := s) (m := m) true i h
  have hsz : (boxes s m (i : Int) (.slice gl ts.length cl) (.slice go fs'.length co) 0 0 (.slice ga al.length ca) w).heap.size = w.heap.size + 1 + 1 := by simp [boxes]
  obtain ⟨g, rfl, hg, hgA, ⟨cur, hcur⟩, c0, c1, c2, c3, c4⟩ := (hfs.out ▸ h : RO A ts (fs ++ [f]) al gl cl go co ga ca w).top
  have hlen : fs'.length = fs.length + 1 := by rw [hfs.out]; simp
  have e1 : IntKind.i64.wrap ((fs'.length : Int) - 1) = (fs.length : Int) := by rw [IntWalk.i64_in _ (by omega)]; omega
  have e2 : (fs.length : Int) < fs'.length := by omega
  have HLEN := Lib.hid hlen
  have b0 : ∀ o1 o2 : Obj, ((w.alloc o1).alloc o2).heap[g]? = w.heap[g]? := fun o1 o2 => by
    rw [Below.heap_alloc _ o2 g (by simp; omega), Below.heap_alloc w o1 g hg]
  have q0 : ∀ o1 o2 : Obj, ((w.alloc o1).alloc o2).cell? ⟨g, fs.length * 5, none⟩ = some (.int .i64 f.1) := fun o1 o2 => (World.cell?_of_block (b0 o1 o2)).trans c0
  have q1 : ∀ o1 o2 : Obj, ((w.alloc o1).alloc o2).cell? ⟨g, fs.length * 5 + 1, none⟩ = some (.bool f.2.1) := fun o1 o2 => (World.cell?_of_block (b0 o1 o2)).trans c1
  have q2 : ∀ o1 o2 : Obj, ((w.alloc o1).alloc o2).cell? ⟨g, fs.length * 5 + 2, none⟩ = some (.int .i64 f.2.2.1) := fun o1 o2 => (World.cell?_of_block (b0 o1 o2)).trans c2
  have q3 : ∀ o1 o2 : Obj, ((w.alloc o1).alloc o2).cell? ⟨g, fs.length * 5 + 3, none⟩ = some (.bool f.2.2.2.1) := fun o1 o2 => (World.cell?_of_block (b0 o1 o2)).trans c3
  have q4 : ∀ o1 o2 : Obj, ((w.alloc o1).alloc o2).cell? ⟨g, fs.length * 5 + 4, none⟩ = some (.int .i64 f.2.2.2.2) := fun o1 o2 => (World.cell?_of_block (b0 o1 o2)).trans c4
  have hFn := World.alloc_heap_new (boxes s m (i : Int) (.slice gl ts.length cl) (.slice (some ⟨g, 0, none⟩) fs'.length co) 0 0 (.slice ga al.length ca) w) (.cells #[.int .i64 f.1, .bool f.2.1, .int .i64 f.2.2.1, .bool f.2.2.2.1, .int .i64 f.2.2.2.2] 65)
  rw [hsz] at hFn
  have hF1 : FX (w.heap.size + 1 + 1) f ((boxes s m (i : Int) (.slice gl ts.length cl) (.slice (some ⟨g, 0, none⟩) fs'.length co) 0 0 (.slice ga al.length ca) w).alloc (.cells #[.int .i64 f.1, .bool f.2.1, .int .i64 f.2.2.1, .bool f.2.2.2.1, .int .i64 f.2.2.2.2] 65)) := hFn
  have HS1 := HS0.later ((Below.refl _ _).alloc (Nat.le_refl _) (.cells #[.int .i64 f.1, .bool f.2.1, .int .i64 f.2.2.1, .bool f.2.2.2.1, .int .i64 f.2.2.2.2] 65))
  clear HS0 hsz hFn hlen
  have bb := blanks_bd s i hi
  have hl1 : ts.length ≤ 100000 := by omega
  have nb := numEnd_bd s _ bb.2
  have ub := blanks_bd s _ nb.2
  go_enter Tryz.func53, Tryz.ntmps53
  go_wp2_with fail
  refine (?_ : Calls _ _ _ ((boxes s m (i : Int) (.slice gl ts.length cl) (.slice (some ⟨g, 0, none⟩) fs'.length co) 0 0 (.slice ga al.length ca) w).alloc (.cells #[.int .i64 f.1, .bool f.2.1, .int .i64 f.2.2.1, .bool f.2.2.2.1, .int .i64 f.2.2.2.2] 65)) _)
  generalize (boxes s m (i : Int) (.slice gl ts.length cl) (.slice (some ⟨g, 0, none⟩) fs'.length co) 0 0 (.slice ga al.length ca) w).alloc (.cells #[.int .i64 f.1, .bool f.2.1, .int .i64 f.2.2.1, .bool f.2.2.2.1, .int .i64 f.2.2.2.2] 65) = W1 at *
  clear q0 q1 q2 q3 q4 b0 c0 c1 c2 c3 c4
  refine (rblanks_any i hG (by omega) hi HS1.ro).mono ?_
  rintro e' W2 ⟨v, rfl, gl2, cl2, go2, co2, ga2, ca2, rfl, hro2, hk2⟩
  go_wp2_with (with_reducible refine gate_lx (p := 1) rfl ?_; refine wp_fill (HS1.bx.kr hk2) rfl rfl rfl rfl rfl ?_; intro W3 f3 hx3; have HS3 := HS1.next hA (Nat.le_refl _) hro2 hk2.mono f3 hx3; have hF3 := (hF1.kr hk2).fl f3 (by omega); obtain ⟨d0, d1, d2, d3, d4, d5, d6, d7⟩ := HS3.bx.cells)
  refine (rnumber_any HP (P.blanks s i) hG (by omega) bb.2 HS3.ro).mono ?_
  rintro e' W4 ⟨v, rfl, gl4, cl4, go4, co4, ga4, ca4, rfl, hro4, hk4⟩
  cases hok : numOk s (P.blanks s i) with
  | false =>
    have HR : Hid (limF s f.2.2.1 i = failR s (P.blanks s i) f.2.2.1) := Lib.hid (by rw [limF, hok]; rfl)
    go_wp2_with (with_reducible refine gate_lx (p := 1) rfl ?_; refine wp_fill (HS3.bx.kr hk4) rfl rfl rfl rfl rfl ?_; intro W5 f5 hx5; have HS5 := HS3.next hA (Nat.le_refl _) hro4 hk4.mono f5 hx5; have hF5 := (hF3.kr hk4).fl f5 (by omega); clear d0 d1 d2 d3 d4 d5 d6 d7; obtain ⟨d0, d1, d2, d3, d4, d5, d6, d7⟩ := HS5.bx.cells; have df := HS5.bx.free 2; obtain ⟨k0, k1, k2, k3, k4⟩ := hF5.cells)
    refine (rlacks_any (P.numEnd s (P.blanks s i)) f.2.2.1 (P.blanks s i) HS5.ro).mono ?_
    rintro e' W6 ⟨v, rfl, kk, aa, hfl, gl6, cl6, go6, co6, ga6, ca6, rfl, hro6, hk6⟩
    have HFL := Lib.hid hfl
    clear hfl
    go_wp2_with (with_reducible refine gate_lx (p := 2) rfl ?_; refine wp_fill (HS5.rb.kr hk6) rfl rfl rfl rfl rfl ?_; intro W7 f7 hr7)
    refine bodyPost_ret (bx_ret rfl rfl hr7) rfl ?_
    refine ⟨_, rfl, ?_⟩
    rw [HR.out, HFL.out]
    exact ⟨_, _, _, _, gl6, cl6, go6, co6, ga6, ca6, rfl, hro6.fl (HS5.rb.kr hk6) f7 (by omega), (HS5.kr.trans hk6.mono).fl f7 (by omega)⟩
  | true =>
    have HR : Hid (limF s f.2.2.1 i = limR s f.2.2.1 (P.blanks s i)) := Lib.hid (by rw [limF, hok]; rfl)
    go_wp2_with (with_reducible refine gate_lx (p := 1) rfl ?_; refine wp_fill (HS3.bx.kr hk4) rfl rfl rfl rfl rfl ?_; intro W5 f5 hx5; have HS5 := HS3.next hA (Nat.le_refl _) hro4 hk4.mono f5 hx5; have hF5 := (hF3.kr hk4).fl f5 (by omega); clear d0 d1 d2 d3 d4 d5 d6 d7; obtain ⟨d0, d1, d2, d3, d4, d5, d6, d7⟩ := HS5.bx.cells; have df := HS5.bx.free 2; obtain ⟨k0, k1, k2, k3, k4⟩ := hF5.cells)
    refine (rblanks_any (P.numEnd s (P.blanks s i)) hG (by omega) nb.2 HS5.ro).mono ?_
    rintro e' W6 ⟨v, rfl, gl6, cl6, go6, co6, ga6, ca6, rfl, hro6, hk6⟩
    go_wp2_with (with_reducible refine gate_lx (p := 1) rfl ?_; refine wp_fill (HS5.bx.kr hk6) rfl rfl rfl rfl rfl ?_; intro W7 f7 hx7; have HS7 := HS5.next hA (Nat.le_refl _) hro6 hk6.mono f7 hx7; have hF7 := (hF5.kr hk6).fl f7 (by omega); clear d0 d1 d2 d3 d4 d5 d6 d7; obtain ⟨d0, d1, d2, d3, d4, d5, d6, d7⟩ := HS7.bx.cells; have df := HS7.bx.free 2; obtain ⟨k0, k1, k2, k3, k4⟩ := hF7.cells)
    have hul := ub.2
    have hns : (numAt s (P.blanks s i)).size + 1 ≤ 9223372036854775807 := by
      have : (numAt s (P.blanks s i)).size ≤ s.size := by rw [numAt]; simp [ByteArray.size_extract]; omega
      omega
    have HH := Lib.hid (fun (c : Nat) (W : World) => rhere_any (s := s) (m := m) (gl := gl6) (nl := ts.length) (cl := cl6) (go := go6) (no := fs'.length) (co := co6) (ga := ga6) (na := al.length) (ca := ca6) (w := W) (P.blanks s (P.numEnd s (P.blanks s i))) 0 0 c (by omega))
    rcases h35 : at1 s (P.blanks s (P.numEnd s (P.blanks s i))) 35 with _ | _
    rotate_left
    focus
      have HL : Hid (limR s f.2.2.1 (P.blanks s i) = .ok (P.blanks s (P.numEnd s (P.blanks s i)) + 1) [(11, numAt s (P.blanks s i) ++ (⟨#[35]⟩ : ByteArray), (P.blanks s i : Int))] []) := Lib.hid (by rw [limR, if_pos h35])
      go_wp2_with (go_at_call_of 41 (Value.int IntKind.u8 35); refine (HH.out 35 _).mono ?_; rw [h35]; rintro e' W8 ⟨rfl, hb8⟩; have HS8 := HS7.later hb8; clear d0 d1 d2 d3 d4 d5 d6 d7 df; obtain ⟨d0, d1, d2, d3, d4, d5, d6, d7⟩ := HS8.bx.cells; have df := HS8.bx.free 2)
      have hput := rput_any (s := s) (m := m) (P.blanks s (P.numEnd s (P.blanks s i)) : Nat) 11 (numAt s (P.blanks s i) ++ (⟨#[35]⟩ : ByteArray)) (P.blanks s i : Nat) HS8.ro hl1
      generalize hts : ts ++ [(11, numAt s (P.blanks s i) ++ (⟨#[35]⟩ : ByteArray), (P.blanks s i : Int))] = ts2 at hput
      have HTS := Lib.hid hts
      clear hts
      refine hput.mono ?_
      rintro e' W20 ⟨v, rfl, gl20, cl20, go20, co20, ga20, ca20, rfl, hro20, hk20⟩
      have eS : IntKind.i64.wrap (((P.blanks s (P.numEnd s (P.blanks s i)) : Nat) : Int) + 1) = ((P.blanks s (P.numEnd s (P.blanks s i)) + 1 : Nat) : Int) := by rw [IntWalk.i64_in _ (by omega)]; omega
      clear df
      have df : True := trivial
      go_wp2_with (with_reducible refine gate_lx (p := 1) rfl ?_; refine wp_fill (HS8.bx.kr hk20) rfl rfl rfl rfl rfl ?_; intro W21 f21 hx21; have HS21 := HS8.next hA (Nat.le_refl _) hro20 hk20.mono f21 hx21; clear d0 d1 d2 d3 d4 d5 d6 d7; obtain ⟨d0, d1, d2, d3, d4, d5, d6, d7⟩ := HS21.bx.cells; have df := HS21.bx.free 2)
      have HS22 : SB true A w w.heap.size s m ((P.blanks s (P.numEnd s (P.blanks s i)) + 1 : Nat) : Int) ts2 fs' al gl20 cl20 go20 co20 ga20 ca20 (W21.setCell ⟨w.heap.size, 2, none⟩ (.int .i64 (((P.blanks s (P.numEnd s (P.blanks s i)) : Nat) : Int) + 1))) := (HS21.set2 hA (Nat.le_refl _) (((P.blanks s (P.numEnd s (P.blanks s i)) : Nat) : Int) + 1)).cast (by omega)
      generalize W21.setCell ⟨w.heap.size, 2, none⟩ (.int .i64 (((P.blanks s (P.numEnd s (P.blanks s i)) : Nat) : Int) + 1)) = W22 at *
      have hin := rinside_any (fs := fs) (s := s) (m := m) (P.blanks s (P.numEnd s (P.blanks s i)) + 1) 0 (f := f) (by omega) (by have := HS22.ro; rw [hfs.out] at this; exact this)
      rw [← HLEN.out] at hin
      refine hin.mono ?_
      rintro e' W23 ⟨v, rfl, gl23, cl23, go23, co23, ga23, ca23, rfl, hro23, hk23⟩
      go_wp2_with (with_reducible refine gate_lx (p := 2) rfl ?_; refine wp_fill (HS22.rb.kr hk23) rfl rfl rfl rfl rfl ?_; intro W24 f24 hr24)
      refine bodyPost_ret (bx_ret rfl rfl hr24) rfl ?_
      refine ⟨_, rfl, ?_⟩
      rw [HR.out, HL.out]
      show RP true A s m w _ (ts ++ [_]) _ (al ++ []) 0 0 _ _
      rw [HTS.out, List.append_nil]
      exact ⟨gl23, cl23, go23, co23, ga23, ca23, by simp, hro23.fl (HS22.rb.kr hk23) f24 (by omega), (HS22.kr.trans hk23).fl f24 (by omega)⟩
    rotate_right
    rcases h60 : at1 s (P.blanks s (P.numEnd s (P.blanks s i))) 60 with _ | _
    rotate_left
    focus
      have HL : Hid (limR s f.2.2.1 (P.blanks s i) = .ok (P.blanks s (P.numEnd s (P.blanks s i)) + 1) [(11, numAt s (P.blanks s i) ++ (⟨#[60]⟩ : ByteArray), (P.blanks s i : Int))] []) := Lib.hid (by rw [limR, if_neg (by rw [h35]; decide), if_pos h60])
      go_wp2_with (first
        | (go_at_call_of 41 (Value.int IntKind.u8 35); refine (HH.out 35 _).mono ?_; rw [h35]; rintro e' W8 ⟨rfl, hb8⟩; have HS8 := HS7.later hb8; clear d0 d1 d2 d3 d4 d5 d6 d7 df; obtain ⟨d0, d1, d2, d3, d4, d5, d6, d7⟩ := HS8.bx.cells; have df := HS8.bx.free 2)
        | (go_at_call_of 41 (Value.int IntKind.u8 60); refine (HH.out 60 _).mono ?_; rw [h60]; rintro e' W9 ⟨rfl, hb9⟩; have HS9 := HS8.later hb9; clear d0 d1 d2 d3 d4 d5 d6 d7 df; obtain ⟨d0, d1, d2, d3, d4, d5, d6, d7⟩ := HS9.bx.cells; have df := HS9.bx.free 2))
      have hput := rput_any (s := s) (m := m) (P.blanks s (P.numEnd s (P.blanks s i)) : Nat) 11 (numAt s (P.blanks s i) ++ (⟨#[60]⟩ : ByteArray)) (P.blanks s i : Nat) HS9.ro hl1
      generalize hts : ts ++ [(11, numAt s (P.blanks s i) ++ (⟨#[60]⟩ : ByteArray), (P.blanks s i : Int))] = ts2 at hput
      have HTS := Lib.hid hts
      clear hts
      refine hput.mono ?_
      rintro e' W20 ⟨v, rfl, gl20, cl20, go20, co20, ga20, ca20, rfl, hro20, hk20⟩
      have eS : IntKind.i64.wrap (((P.blanks s (P.numEnd s (P.blanks s i)) : Nat) : Int) + 1) = ((P.blanks s (P.numEnd s (P.blanks s i)) + 1 : Nat) : Int) := by rw [IntWalk.i64_in _ (by omega)]; omega
      clear df
      have df : True := trivial
      go_wp2_with (with_reducible refine gate_lx (p := 1) rfl ?_; refine wp_fill (HS9.bx.kr hk20) rfl rfl rfl rfl rfl ?_; intro W21 f21 hx21; have HS21 := HS9.next hA (Nat.le_refl _) hro20 hk20.mono f21 hx21; clear d0 d1 d2 d3 d4 d5 d6 d7; obtain ⟨d0, d1, d2, d3, d4, d5, d6, d7⟩ := HS21.bx.cells; have df := HS21.bx.free 2)
      have HS22 : SB true A w w.heap.size s m ((P.blanks s (P.numEnd s (P.blanks s i)) + 1 : Nat) : Int) ts2 fs' al gl20 cl20 go20 co20 ga20 ca20 (W21.setCell ⟨w.heap.size, 2, none⟩ (.int .i64 (((P.blanks s (P.numEnd s (P.blanks s i)) : Nat) : Int) + 1))) := (HS21.set2 hA (Nat.le_refl _) (((P.blanks s (P.numEnd s (P.blanks s i)) : Nat) : Int) + 1)).cast (by omega)
      generalize W21.setCell ⟨w.heap.size, 2, none⟩ (.int .i64 (((P.blanks s (P.numEnd s (P.blanks s i)) : Nat) : Int) + 1)) = W22 at *
      have hin := rinside_any (fs := fs) (s := s) (m := m) (P.blanks s (P.numEnd s (P.blanks s i)) + 1) 0 (f := f) (by omega) (by have := HS22.ro; rw [hfs.out] at this; exact this)
      rw [← HLEN.out] at hin
      refine hin.mono ?_
      rintro e' W23 ⟨v, rfl, gl23, cl23, go23, co23, ga23, ca23, rfl, hro23, hk23⟩
      go_wp2_with (with_reducible refine gate_lx (p := 2) rfl ?_; refine wp_fill (HS22.rb.kr hk23) rfl rfl rfl rfl rfl ?_; intro W24 f24 hr24)
      refine bodyPost_ret (bx_ret rfl rfl hr24) rfl ?_
      refine ⟨_, rfl, ?_⟩
      rw [HR.out, HL.out]
      show RP true A s m w _ (ts ++ [_]) _ (al ++ []) 0 0 _ _
      rw [HTS.out, List.append_nil]
      exact ⟨gl23, cl23, go23, co23, ga23, ca23, by simp, hro23.fl (HS22.rb.kr hk23) f24 (by omega), (HS22.kr.trans hk23).fl f24 (by omega)⟩
    rotate_right
    by_cases h3 : P.blanks s (P.numEnd s (P.blanks s i)) + 3 ≤ s.size
    · have d3 : decide ((3 : Int) ≤ ((s.size - (P.blanks s (P.numEnd s (P.blanks s i))) : Nat) : Int)) = true := by simp; omega
      have ew : IntKind.i64.wrap ((s.size : Int) - ((P.blanks s (P.numEnd s (P.blanks s i)) : Nat) : Int)) = ((s.size - (P.blanks s (P.numEnd s (P.blanks s i))) : Nat) : Int) := by rw [IntWalk.i64_in _ (by omega)]; omega
      have ew3 : IntKind.i64.wrap (((P.blanks s (P.numEnd s (P.blanks s i)) : Nat) : Int) + 3) = ((P.blanks s (P.numEnd s (P.blanks s i)) + 3 : Nat) : Int) := by rw [IntWalk.i64_in _ (by omega)]; omega
      have hx3 : ((s.extract (P.blanks s (P.numEnd s (P.blanks s i))) (P.blanks s (P.numEnd s (P.blanks s i)) + 3)).toList == [226, 137, 164]) = hereB s (P.blanks s (P.numEnd s (P.blanks s i))) [226, 137, 164] := here_ext s (P.blanks s (P.numEnd s (P.blanks s i))) [226, 137, 164] h3
      cases hh : hereB s (P.blanks s (P.numEnd s (P.blanks s i))) [226, 137, 164] with
      | true =>
        rw [hh] at hx3
        have HL : Hid (limR s f.2.2.1 (P.blanks s i) = .ok (P.blanks s (P.numEnd s (P.blanks s i)) + 3) [(11, numAt s (P.blanks s i) ++ (⟨#[35]⟩ : ByteArray), (P.blanks s i : Int))] []) := Lib.hid (by rw [limR, if_neg (by rw [h35]; decide), if_neg (by rw [h60]; decide), if_pos hh])
        go_wp2_with (first
        | (go_at_call_of 41 (Value.int IntKind.u8 35); refine (HH.out 35 _).mono ?_; rw [h35]; rintro e' W8 ⟨rfl, hb8⟩; have HS8 := HS7.later hb8; have hF8 := hF7.later hb8; clear d0 d1 d2 d3 d4 d5 d6 d7 df k0 k1 k2 k3 k4; obtain ⟨d0, d1, d2, d3, d4, d5, d6, d7⟩ := HS8.bx.cells; have df := HS8.bx.free 2; obtain ⟨k0, k1, k2, k3, k4⟩ := hF8.cells)
        | (go_at_call_of 41 (Value.int IntKind.u8 60); refine (HH.out 60 _).mono ?_; rw [h60]; rintro e' W9 ⟨rfl, hb9⟩; have HS9 := HS8.later hb9; have hF9 := hF8.later hb9; clear d0 d1 d2 d3 d4 d5 d6 d7 df k0 k1 k2 k3 k4; obtain ⟨d0, d1, d2, d3, d4, d5, d6, d7⟩ := HS9.bx.cells; have df := HS9.bx.free 2; obtain ⟨k0, k1, k2, k3, k4⟩ := hF9.cells))
        have hput := rput_any (s := s) (m := m) (P.blanks s (P.numEnd s (P.blanks s i)) : Nat) 11 (numAt s (P.blanks s i) ++ (⟨#[35]⟩ : ByteArray)) (P.blanks s i : Nat) HS9.ro hl1
        generalize hts : ts ++ [(11, numAt s (P.blanks s i) ++ (⟨#[35]⟩ : ByteArray), (P.blanks s i : Int))] = ts2 at hput
        have HTS := Lib.hid hts
        clear hts
        refine hput.mono ?_
        rintro e' W20 ⟨v, rfl, gl20, cl20, go20, co20, ga20, ca20, rfl, hro20, hk20⟩
        have eS : IntKind.i64.wrap (((P.blanks s (P.numEnd s (P.blanks s i)) : Nat) : Int) + 3) = ((P.blanks s (P.numEnd s (P.blanks s i)) + 3 : Nat) : Int) := by rw [IntWalk.i64_in _ (by omega)]; omega
        clear df
        have df : True := trivial
        go_wp2_with (with_reducible refine gate_lx (p := 1) rfl ?_; refine wp_fill (HS9.bx.kr hk20) rfl rfl rfl rfl rfl ?_; intro W21 f21 hx21; have HS21 := HS9.next hA (Nat.le_refl _) hro20 hk20.mono f21 hx21; clear d0 d1 d2 d3 d4 d5 d6 d7; obtain ⟨d0, d1, d2, d3, d4, d5, d6, d7⟩ := HS21.bx.cells; have df := HS21.bx.free 2)
        have HS22 : SB true A w w.heap.size s m ((P.blanks s (P.numEnd s (P.blanks s i)) + 3 : Nat) : Int) ts2 fs' al gl20 cl20 go20 co20 ga20 ca20 (W21.setCell ⟨w.heap.size, 2, none⟩ (.int .i64 (((P.blanks s (P.numEnd s (P.blanks s i)) : Nat) : Int) + 3))) := (HS21.set2 hA (Nat.le_refl _) (((P.blanks s (P.numEnd s (P.blanks s i)) : Nat) : Int) + 3)).cast (by omega)
        generalize W21.setCell ⟨w.heap.size, 2, none⟩ (.int .i64 (((P.blanks s (P.numEnd s (P.blanks s i)) : Nat) : Int) + 3)) = W22 at *
        have hin := rinside_any (fs := fs) (s := s) (m := m) (P.blanks s (P.numEnd s (P.blanks s i)) + 3) 0 (f := f) (by omega) (by have := HS22.ro; rw [hfs.out] at this; exact this)
        rw [← HLEN.out] at hin
        refine hin.mono ?_
        rintro e' W23 ⟨v, rfl, gl23, cl23, go23, co23, ga23, ca23, rfl, hro23, hk23⟩
        go_wp2_with (with_reducible refine gate_lx (p := 2) rfl ?_; refine wp_fill (HS22.rb.kr hk23) rfl rfl rfl rfl rfl ?_; intro W24 f24 hr24)
        refine bodyPost_ret (bx_ret rfl rfl hr24) rfl ?_
        refine ⟨_, rfl, ?_⟩
        rw [HR.out, HL.out]
        show RP true A s m w _ (ts ++ [_]) _ (al ++ []) 0 0 _ _
        rw [HTS.out, List.append_nil]
        exact ⟨gl23, cl23, go23, co23, ga23, ca23, by simp, hro23.fl (HS22.rb.kr hk23) f24 (by omega), (HS22.kr.trans hk23).fl f24 (by omega)⟩

      | false =>
        rw [hh] at hx3
        have HL : Hid (limR s f.2.2.1 (P.blanks s i) = failR s (P.blanks s (P.numEnd s (P.blanks s i))) f.2.2.1) := Lib.hid (by rw [limR, if_neg (by rw [h35]; decide), if_neg (by rw [h60]; decide), if_neg (by rw [hh]; decide)])
        go_wp2_with (first
        | (go_at_call_of 41 (Value.int IntKind.u8 35); refine (HH.out 35 _).mono ?_; rw [h35]; rintro e' W8 ⟨rfl, hb8⟩; have HS8 := HS7.later hb8; have hF8 := hF7.later hb8; clear d0 d1 d2 d3 d4 d5 d6 d7 df k0 k1 k2 k3 k4; obtain ⟨d0, d1, d2, d3, d4, d5, d6, d7⟩ := HS8.bx.cells; have df := HS8.bx.free 2; obtain ⟨k0, k1, k2, k3, k4⟩ := hF8.cells)
        | (go_at_call_of 41 (Value.int IntKind.u8 60); refine (HH.out 60 _).mono ?_; rw [h60]; rintro e' W9 ⟨rfl, hb9⟩; have HS9 := HS8.later hb9; have hF9 := hF8.later hb9; clear d0 d1 d2 d3 d4 d5 d6 d7 df k0 k1 k2 k3 k4; obtain ⟨d0, d1, d2, d3, d4, d5, d6, d7⟩ := HS9.bx.cells; have df := HS9.bx.free 2; obtain ⟨k0, k1, k2, k3, k4⟩ := hF9.cells))
        refine (rlacks_any (P.blanks s (P.numEnd s (P.blanks s i))) f.2.2.1 (P.blanks s (P.numEnd s (P.blanks s i))) HS9.ro).mono ?_
        rintro e' W16 ⟨v, rfl, kk, aa, hfl, gl16, cl16, go16, co16, ga16, ca16, rfl, hro16, hk16⟩
        have HFL := Lib.hid hfl
        clear hfl
        go_wp2_with (with_reducible refine gate_lx (p := 2) rfl ?_; refine wp_fill (HS9.rb.kr hk16) rfl rfl rfl rfl rfl ?_; intro W17 f17 hr17)
        refine bodyPost_ret (bx_ret rfl rfl hr17) rfl ?_
        refine ⟨_, rfl, ?_⟩
        rw [HR.out, HL.out, HFL.out]
        exact ⟨_, _, _, _, gl16, cl16, go16, co16, ga16, ca16, rfl, hro16.fl (HS9.rb.kr hk16) f17 (by omega), (HS9.kr.trans hk16.mono).fl f17 (by omega)⟩

    · have d3 : decide ((3 : Int) ≤ ((s.size - (P.blanks s (P.numEnd s (P.blanks s i))) : Nat) : Int)) = false := by simp; omega
      have ew : IntKind.i64.wrap ((s.size : Int) - ((P.blanks s (P.numEnd s (P.blanks s i)) : Nat) : Int)) = ((s.size - (P.blanks s (P.numEnd s (P.blanks s i))) : Nat) : Int) := by rw [IntWalk.i64_in _ (by omega)]; omega
      have hh : hereB s (P.blanks s (P.numEnd s (P.blanks s i))) [226, 137, 164] = false := by
        cases hh : hereB s (P.blanks s (P.numEnd s (P.blanks s i))) [226, 137, 164] with
        | false => rfl
        | true => have := hereB_len _ _ _ hh (by decide); simp at this; omega
      have HL : Hid (limR s f.2.2.1 (P.blanks s i) = failR s (P.blanks s (P.numEnd s (P.blanks s i))) f.2.2.1) := Lib.hid (by rw [limR, if_neg (by rw [h35]; decide), if_neg (by rw [h60]; decide), if_neg (by rw [hh]; decide)])
      go_wp2_with (first
        | (go_at_call_of 41 (Value.int IntKind.u8 35); refine (HH.out 35 _).mono ?_; rw [h35]; rintro e' W8 ⟨rfl, hb8⟩; have HS8 := HS7.later hb8; have hF8 := hF7.later hb8; clear d0 d1 d2 d3 d4 d5 d6 d7 df k0 k1 k2 k3 k4; obtain ⟨d0, d1, d2, d3, d4, d5, d6, d7⟩ := HS8.bx.cells; have df := HS8.bx.free 2; obtain ⟨k0, k1, k2, k3, k4⟩ := hF8.cells)
        | (go_at_call_of 41 (Value.int IntKind.u8 60); refine (HH.out 60 _).mono ?_; rw [h60]; rintro e' W9 ⟨rfl, hb9⟩; have HS9 := HS8.later hb9; have hF9 := hF8.later hb9; clear d0 d1 d2 d3 d4 d5 d6 d7 df k0 k1 k2 k3 k4; obtain ⟨d0, d1, d2, d3, d4, d5, d6, d7⟩ := HS9.bx.cells; have df := HS9.bx.free 2; obtain ⟨k0, k1, k2, k3, k4⟩ := hF9.cells))
      refine (rlacks_any (P.blanks s (P.numEnd s (P.blanks s i))) f.2.2.1 (P.blanks s (P.numEnd s (P.blanks s i))) HS9.ro).mono ?_
      rintro e' W16 ⟨v, rfl, kk, aa, hfl, gl16, cl16, go16, co16, ga16, ca16, rfl, hro16, hk16⟩
      have HFL := Lib.hid hfl
      clear hfl
      go_wp2_with (with_reducible refine gate_lx (p := 2) rfl ?_; refine wp_fill (HS9.rb.kr hk16) rfl rfl rfl rfl rfl ?_; intro W17 f17 hr17)
      refine bodyPost_ret (bx_ret rfl rfl hr17) rfl ?_
      refine ⟨_, rfl, ?_⟩
      rw [HR.out, HL.out, HFL.out]
      exact ⟨_, _, _, _, gl16, cl16, go16, co16, ga16, ca16, rfl, hro16.fl (HS9.rb.kr hk16) f17 (by omega), (HS9.kr.trans hk16.mono).fl f17 (by omega)⟩
end
end Go.Proofs.YtcnhklcbibpjpaaGreatDoor
