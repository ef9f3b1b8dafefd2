/- Lemmas behind the laws of the tokens; no conditions. -/
import Derived.Test.YtcnhklcbibpjpaaGreatDoorZRgb
set_option linter.unusedVariables false
set_option linter.unusedSimpArgs false

namespace Go.Proofs.YtcnhklcbibpjpaaGreatDoor
open Go.RowKit P Ext PRfa
section
variable {A : World} {s : ByteArray} {m : Int} {ts : List Tk} {fs : List Fr} {al : List Nat} {gl go ga : Option Addr} {cl co ca nl no na : Nat} {w : World}
inductive MR where
  | ok (i : Nat) (ts : List Tk) (fs : List Fr) (al : List Nat)
  | er (k a : Int)
def R.mr (r : R) (ts : List Tk) (fs : List Fr) (al : List Nat) : MR :=
  match r with
  | .ok j ts1 al1 => .ok j (ts ++ ts1) fs (al ++ al1)
  | .er k a => .er k a
def RM (A : World) (s : ByteArray) (m : Int) (w : World) (r : MR) (v : Value) (W : World) : Prop :=
  match r with
  | .ok i ts fs al => RP true A s m w (i : Nat) ts fs al 0 0 v W
  | .er k a => ∃ (i : Int) (ts2 : List Tk) (fs2 : List Fr) (al2 : List Nat), RP true A s m w i ts2 fs2 al2 k a v W
theorem RQ.rm {r : R} {v : Value} {W : World} (h : RQ A s m w ts fs al r v W) : RM A s m w (r.mr ts fs al) v W := by cases r <;> exact h
theorem RM.kr {w0 : World} {r : MR} {v : Value} {W : World} (h : RM A s m w r v W) (k : KR true w0 w) : RM A s m w0 r v W := by
  cases r with
  | ok i ts fs al => obtain ⟨gl, cl, go, co, ga, ca, e, ho, hk⟩ := h; exact ⟨gl, cl, go, co, ga, ca, e, ho, k.trans hk⟩
  | er kk a => obtain ⟨i, ts2, fs2, al2, gl, cl, go, co, ga, ca, e, ho, hk⟩ := h; exact ⟨i, ts2, fs2, al2, gl, cl, go, co, ga, ca, e, ho, k.trans hk⟩
theorem RM.val {r : MR} {v : Value} {W : World} (h : RM A s m w r v W) : ∃ (s' : ByteArray) (m' i : Int) (gl go ga : Option Addr) (nl cl no co na ca : Nat) (e a : Int), v = .agg #[.string s', .int .i64 m', .int .i64 i, .slice gl nl cl, .slice go no co, .int .i64 e, .int .i64 a, .slice ga na ca] ∧ KR true w W := by
  cases r with
  | ok i ts fs al => obtain ⟨gl, cl, go, co, ga, ca, e, ho, hk⟩ := h; exact ⟨_, _, _, _, _, _, _, _, _, _, _, _, _, _, e, hk⟩
  | er kk a => obtain ⟨i, ts2, fs2, al2, gl, cl, go, co, ga, ca, e, ho, hk⟩ := h; exact ⟨_, _, _, _, _, _, _, _, _, _, _, _, _, _, e, hk⟩
theorem RM.fl {r : MR} {v : Value} {W W' : World} (h : RM A s m w r v W) {X : Nat} {s0 : ByteArray} {m0 i0 : Int} {vl0 vo0 : Value} {e0 a0 : Int} {va0 : Value} (hb : Bx X s0 m0 i0 vl0 vo0 e0 a0 va0 W) (f : Fl X W W') (hA : A.heap.size ≤ X) (h0 : w.heap.size ≤ X) : RM A s m w r v W' := by
  cases r with
  | ok i ts fs al => obtain ⟨gl, cl, go, co, ga, ca, e, ho, hk⟩ := h; exact ⟨gl, cl, go, co, ga, ca, e, ho.fl hb f hA, hk.fl f h0⟩
  | er kk a => obtain ⟨i, ts2, fs2, al2, gl, cl, go, co, ga, ca, e, ho, hk⟩ := h; exact ⟨i, ts2, fs2, al2, gl, cl, go, co, ga, ca, e, ho.fl hb f hA, hk.fl f h0⟩
theorem blanks_idem (s : ByteArray) (i : Nat) : P.blanks s (P.blanks s i) = P.blanks s i := by
  induction i using P.blanks.induct s with
  | case1 i h hs ih =>
    have e : P.blanks s i = P.blanks s (i + (Utf8.decode s i).2) := by rw [P.blanks, dif_pos h, if_pos hs]
    rw [e]; exact ih
  | case2 i h hs =>
    have e : P.blanks s i = i := by rw [P.blanks, dif_pos h, if_neg hs]
    rw [e, e]
  | case3 i h =>
    have e : P.blanks s i = i := by rw [P.blanks, dif_neg h]
    rw [e, e]
theorem infoFr : (Tryz.prog.info? 65).map (fun i => (i.zero, i.size, i.bytes)) = some (some (.agg #[.int .i64 0, .bool false, .int .i64 0, .bool false, .int .i64 0]), 5, 40) := by kernel_rfl
theorem SB.pushFr {X : Nat} {i : Int} {w0 W W' : World} (h : SB true A w0 X s m i ts fs al gl cl go co ga ca W) (hA : A.heap.size ≤ X) (h0 : w0.heap.size ≤ X) {v' : Value} {f : Fr} (hgrow : W.grownBy W' (Value.slice go fs.length co).ownBlock)
    (hown : W'.ownsRow A.heap.size 65 5 v' (fs.length + 1) (frCells fs ++ [.int .i64 f.1, .bool f.2.1, .int .i64 f.2.2.1, .bool f.2.2.2.1, .int .i64 f.2.2.2.2])) :
    ∃ go' co', v' = .slice go' (fs ++ [f]).length co' ∧ Bx X s m i (.slice gl ts.length cl) (.slice go fs.length co) 0 0 (.slice ga al.length ca) W' ∧ SB true A w0 X s m i ts (fs ++ [f]) al gl cl go' co' ga ca (W'.setCell ⟨X, 4, none⟩ (.slice go' (fs ++ [f]).length co')) := by
  obtain ⟨go', co', e, hro, hk⟩ := h.ro.pushFr hgrow hown
  have hb := h.bx.kr hk
  exact ⟨go', co', e, hb, hro.bx hb hA _ _, hb.set4 _, (h.rb.kr hk).other (by omega) _ _, (h.kr.trans hk).set h0 _ _⟩
def cplxM (s : ByteArray) (many ch : Bool) (op : Int) (i : Nat) (ts : List Tk) (fs : List Fr) (al : List Nat) : MR :=
  if at1 s i 44 then
    match (if many then offsetR s op (i + 1) else .ok (P.blanks s (i + 1)) [] []) with
    | .er k a => .er k a
    | .ok j ts1 _ =>
      if ch then (limF s op j).mr (ts ++ [(6, (⟨#[]⟩ : ByteArray), ((i : Nat) : Int))] ++ ts1) (fs ++ [(2, false, op, true, 0)]) al
      else .ok j (ts ++ [(6, (⟨#[]⟩ : ByteArray), ((i : Nat) : Int))] ++ ts1) (fs ++ [(if many then 1 else 0, many, op, false, 0)]) al
  else (failR s i op).mr ts fs al
set_option maxRecDepth 100000 in
set_option maxHeartbeats 1000000 in
theorem rcplx_any (HP : ParseC) (i : Nat) (hG : GlH A) (hz : s.size ≤ 90000) (hi : i ≤ s.size) (t : ByteArray) (many ch : Bool) (hmc : (many && ch) = false) (op : Int) (ht : (t.toList == [99, 104, 111, 105, 99, 101]) = ch) (hl : ts.length ≤ 80000) (hf : fs.length ≤ 80000) (h : RO A ts fs al gl cl go co ga ca w) :
    Calls Tryz.prog 74 #[lxV s m (i : Int) (.slice gl ts.length cl) (.slice go fs.length co) 0 0 (.slice ga al.length ca), .string t, .bool many, .int .i64 op] w fun e w' =>
      ∃ v, e = .returned v ∧ RM A s m w (cplxM s many ch op i ts fs al) v w' := by
  obtain ⟨i0, hii, hz0, hz1, hz2⟩ := info_parts infoFr
  obtain ⟨HS1, hA⟩ := boxes_sb (s := s) (m := m) true i h
  go_enter Tryz.func74, Tryz.ntmps74
  go_wp2_with fail
  refine (?_ : Calls _ _ _ (boxes s m (i : Int) (.slice gl ts.length cl) (.slice go fs.length co) 0 0 (.slice ga al.length ca) w) _)
  generalize (boxes s m (i : Int) (.slice gl ts.length cl) (.slice go fs.length co) 0 0 (.slice ga al.length ca) w) = W1 at *
  refine (rhere_any i 0 0 44 (by omega)).mono ?_
  rintro e' W2 ⟨rfl, hb2⟩
  have HS2 := HS1.later hb2
  obtain ⟨d0, d1, d2, d3, d4, d5, d6, d7⟩ := HS2.bx.cells; have df := HS2.bx.free
  cases h44 : at1 s i 44 with
  | false =>
    have HR : Hid (cplxM s many ch op i ts fs al = (failR s i op).mr ts fs al) := Lib.hid (by rw [cplxM, h44]; rfl)
    go_wp2_with fail
    refine (rlacks_any (i) (op) (i) HS2.ro).mono ?_
    rintro e' W90 ⟨v, rfl, kk, aa, hfl, gl90, cl90, go90, co90, ga90, ca90, rfl, hro90, hk90⟩
    have HFL := Lib.hid hfl
    clear hfl
    go_wp2_with (with_reducible refine gate_lx (p := 8) rfl ?_; refine wp_fill (HS2.rb.kr hk90) rfl rfl rfl rfl rfl ?_; intro W91 f91 hr91)
    refine bodyPost_ret (bx_ret rfl rfl hr91) rfl ?_
    refine ⟨_, rfl, ?_⟩
    rw [HR.out, HFL.out]
    exact ⟨_, _, _, _, gl90, cl90, go90, co90, ga90, ca90, rfl, hro90.fl (HS2.rb.kr hk90) f91 (by omega), (HS2.kr.trans hk90.mono).fl f91 (by omega)⟩
  | true =>
    have hlt := at1_lt _ _ _ h44
    have eS : IntKind.i64.wrap (((i : Nat) : Int) + 1) = ((i + 1 : Nat) : Int) := by rw [IntWalk.i64_in _ (by omega)]; omega
    go_wp2_with fail
    have hput := rput_any (s := s) (m := m) (i : Nat) 6 (⟨#[]⟩ : ByteArray) (i : Nat) HS2.ro (by omega)
    generalize hts2 : ts ++ [(6, (⟨#[]⟩ : ByteArray), ((i : Nat) : Int))] = ts2 at hput
    have hl_ts2 : ts2.length ≤ 80001 := by rw [← hts2]; simp; omega
    have Hts2 := Lib.hid hts2
    clear hts2
    refine hput.mono ?_
    rintro e' W3 ⟨v, rfl, gl3, cl3, go3, co3, ga3, ca3, rfl, hro3, hk3⟩
    clear df
    have df : True := trivial
    cases many with
    | true =>
      have hch : ch = false := hmc
      subst hch
      go_wp2_with (first
              | (with_reducible refine gate_lx (p := 4) rfl ?_; refine wp_fill (HS2.bx.kr hk3) rfl rfl rfl rfl rfl ?_; intro W4 f4 hx4; have HS4 := HS2.next hA (Nat.le_refl _) hro3 hk3.mono f4 hx4; clear d0 d1 d2 d3 d4 d5 d6 d7 df; obtain ⟨d0, d1, d2, d3, d4, d5, d6, d7⟩ := HS4.bx.cells; have df := HS4.bx.free; have HS5 : SB true A w w.heap.size s m ((i + 1 : Nat) : Int) ts2 fs al gl3 cl3 go3 co3 ga3 ca3 (W4.setCell ⟨w.heap.size, 2, none⟩ (.int .i64 ((i : Int) + 1))) := (HS4.set2 hA (Nat.le_refl _) ((i : Int) + 1)).cast (by omega); have hne : w.heap.size ≠ W4.heap.size := (by have := HS4.bx.lt; omega); have qx : ∀ o : Obj, ((W4.setCell ⟨w.heap.size, 2, none⟩ (.int .i64 ((i : Int) + 1))).alloc o).cell? ⟨w.heap.size, 4, none⟩ = some (.slice go3 fs.length co3) := fun o => (HS5.later ((Below.refl _ _).alloc (Nat.le_refl _) _)).bx.cells.2.2.2.2.1)
              | (at_builtin; have HS6 : SB true A w w.heap.size s m ((i + 1 : Nat) : Int) ts2 fs al gl3 cl3 go3 co3 ga3 ca3 (((W4.setCell ⟨w.heap.size, 2, none⟩ (.int .i64 ((i : Int) + 1))).alloc (.cells #[.int .i64 1, .bool true, .int .i64 op, .bool false, .int .i64 0] 65)).alloc (.cells #[.int .i64 1, .bool true, .int .i64 op, .bool false, .int .i64 0] 65)) := (HS5.later ((Below.refl _ _).alloc (Nat.le_refl _) _)).later ((Below.refl _ _).alloc (Nat.le_refl _) _); refine wpList_append_own _ rfl _ _ 47 rfl A.heap.size 65 i0 (.agg #[.int .i64 0, .bool false, .int .i64 0, .bool false, .int .i64 0]) 5 40 Tryz.underlying47 hii hz0 hz1 hz2 rfl (by decide) _ _ _ rfl HS6.ro.fr ⟨W4.heap.size + 1, 0, none⟩ 1 1 [.int .i64 1, .bool true, .int .i64 op, .bool false, .int .i64 0] rfl rfl ?c1 ?c2 ?c3 ?c4 ?c5 ?_))
      case c1 =>
        intro j u hj
        have hq : ∀ j : Nat, (((W4.setCell ⟨w.heap.size, 2, none⟩ (.int .i64 ((i : Int) + 1))).alloc (.cells #[.int .i64 1, .bool true, .int .i64 op, .bool false, .int .i64 0] 65)).alloc (.cells #[.int .i64 1, .bool true, .int .i64 op, .bool false, .int .i64 0] 65)).cell? ⟨W4.heap.size + 1, j, none⟩ = (#[.int .i64 1, .bool true, .int .i64 op, .bool false, .int .i64 0] : Array Value)[j]? := fun j => by
          have h1 := World.alloc_heap_new ((W4.setCell ⟨w.heap.size, 2, none⟩ (.int .i64 ((i : Int) + 1))).alloc (.cells #[.int .i64 1, .bool true, .int .i64 op, .bool false, .int .i64 0] 65)) (.cells #[.int .i64 1, .bool true, .int .i64 op, .bool false, .int .i64 0] 65)
          have hs : ((W4.setCell ⟨w.heap.size, 2, none⟩ (.int .i64 ((i : Int) + 1))).alloc (.cells #[.int .i64 1, .bool true, .int .i64 op, .bool false, .int .i64 0] 65)).heap.size = W4.heap.size + 1 := by simp
          rw [hs] at h1
          exact Lib.cell_of_heap h1 j
        rw [show (⟨W4.heap.size + 1, 0, none⟩ : Addr).add j = ⟨W4.heap.size + 1, j, none⟩ from by rw [Addr.add]; split <;> simp_all, hq]
        exact (Array.getElem?_toList (xs := (#[.int .i64 1, .bool true, .int .i64 op, .bool false, .int .i64 0] : Array Value)) (i := j)).symm.trans hj
      case c2 => intro u hu; simp only [List.mem_cons, List.not_mem_nil, or_false] at hu; rcases hu with rfl | rfl | rfl | rfl | rfl <;> rfl
      case c3 => unfold maxLen; omega
      case c4 => omega
      case c5 => have := HS4.bx.lt; simp; omega
      intro v' w1 hown' hgrow _
      obtain ⟨go7, co7, hv7, hb7, HS7⟩ := HS6.pushFr hA (Nat.le_refl _) (f := (1, true, op, false, 0)) hgrow hown'
      have hl_fs2 : (fs ++ [((1, true, op, false, 0) : Fr)]).length ≤ 80001 := by simp; omega
      generalize hfs2 : fs ++ [((1, true, op, false, 0) : Fr)] = fs2 at hv7 HS7 hl_fs2
      have HFS := Lib.hid hfs2
      clear hfs2 qx
      subst hv7
      obtain ⟨d0, d1, d2, d3, d4, d5, d6, d7⟩ := hb7.cells
      have df := hb7.free
      obtain ⟨x0, x1, x2, x3, x4, x5, x6, x7⟩ := HS7.bx.cells
      go_wp2_with fail
      generalize w1.setCell ⟨w.heap.size, 4, none⟩ (.slice go7 fs2.length co7) = W7 at *
      refine (rblanks_any (i + 1) hG (by omega) (by omega) HS7.ro).mono ?_
      clear d0 d1 d2 d3 d4 d5 d6 d7 df x0 x1 x2 x3 x4 x5 x6 x7 hb7
      have d0 : True := trivial
      have d1 : True := trivial
      have d2 : True := trivial
      have d3 : True := trivial
      have d4 : True := trivial
      have d5 : True := trivial
      have d6 : True := trivial
      have d7 : True := trivial
      have df : True := trivial
      rintro e' W8 ⟨v, rfl, gl8, cl8, go8, co8, ga8, ca8, rfl, hro8, hk8⟩
      have bb := blanks_bd s (i + 1) (by omega)
      by_cases h7 : P.blanks s (i + 1) + 7 ≤ s.size
      · have e7 : decide ((7 : Int) ≤ ((s.size - (P.blanks s (i + 1)) : Nat) : Int)) = true := by simp; omega
        have ew : IntKind.i64.wrap ((s.size : Int) - ((P.blanks s (i + 1) : Nat) : Int)) = ((s.size - (P.blanks s (i + 1)) : Nat) : Int) := by rw [IntWalk.i64_in _ (by omega)]; omega
        have ew7 : IntKind.i64.wrap (((P.blanks s (i + 1) : Nat) : Int) + 7) = ((P.blanks s (i + 1) + 7 : Nat) : Int) := by rw [IntWalk.i64_in _ (by omega)]; omega
        have hx7 : ((s.extract (P.blanks s (i + 1)) (P.blanks s (i + 1) + 7)).toList == [111, 102, 102, 115, 101, 116, 58]) = hereB s (P.blanks s (i + 1)) wOffset := here_ext s (P.blanks s (i + 1)) wOffset h7
        cases hh : hereB s (P.blanks s (i + 1)) wOffset with
        | false =>
          rw [hh] at hx7
          have HR : Hid (cplxM s true false op i ts fs al = .ok (P.blanks s (i + 1)) ts2 fs2 al) := Lib.hid (by rw [cplxM, h44, ← Hts2.out, ← HFS.out]; simp only [if_true, if_neg Bool.false_ne_true, offsetR, blanks_idem]; rw [if_neg (by rw [hh]; decide)]; simp)
          go_wp2_with (first
                  | (with_reducible refine gate_lx (p := 4) rfl ?_; refine wp_fill (HS7.bx.kr hk8) rfl rfl rfl rfl rfl ?_; intro W9 f9 hx9; have HS9 := HS7.next hA (Nat.le_refl _) hro8 hk8.mono f9 hx9; clear d0 d1 d2 d3 d4 d5 d6 d7 df; obtain ⟨d0, d1, d2, d3, d4, d5, d6, d7⟩ := HS9.bx.cells; have df := HS9.bx.free)
                  | (with_reducible refine gate_lx (p := 8) rfl ?_; refine wp_fill HS9.rb rfl rfl rfl rfl rfl ?_; intro W10 f10 hr10))
          refine bodyPost_ret (bx_ret rfl rfl hr10) rfl ?_
          refine ⟨_, rfl, ?_⟩
          rw [HR.out]
          exact ⟨gl8, cl8, go8, co8, ga8, ca8, rfl, HS9.ro.fl HS9.rb f10 (by omega), HS9.kr.fl f10 (by omega)⟩
        | true =>
          rw [hh] at hx7
          have cb := blanks_bd s (P.blanks s (i + 1) + 7) h7
          have nb := numEnd_bd s (P.blanks s (P.blanks s (i + 1) + 7)) cb.2
          go_wp2_with (with_reducible refine gate_lx (p := 4) rfl ?_; refine wp_fill (HS7.bx.kr hk8) rfl rfl rfl rfl rfl ?_; intro W9 f9 hx9; have HS9 := HS7.next hA (Nat.le_refl _) hro8 hk8.mono f9 hx9; clear d0 d1 d2 d3 d4 d5 d6 d7 df; obtain ⟨d0, d1, d2, d3, d4, d5, d6, d7⟩ := HS9.bx.cells; have df := HS9.bx.free)
          have HS10 : SB true A w w.heap.size s m ((P.blanks s (i + 1) + 7 : Nat) : Int) ts2 fs2 al gl8 cl8 go8 co8 ga8 ca8 (W9.setCell ⟨w.heap.size, 2, none⟩ (.int .i64 (((P.blanks s (i + 1) : Nat) : Int) + 7))) := (HS9.set2 hA (Nat.le_refl _) (((P.blanks s (i + 1) : Nat) : Int) + 7)).cast (by omega)
          generalize W9.setCell ⟨w.heap.size, 2, none⟩ (.int .i64 (((P.blanks s (i + 1) : Nat) : Int) + 7)) = W10 at *
          refine (rblanks_any (P.blanks s (i + 1) + 7) hG (by omega) (by omega) HS10.ro).mono ?_
          rintro e' W11 ⟨v, rfl, gl11, cl11, go11, co11, ga11, ca11, rfl, hro11, hk11⟩
          go_wp2_with (with_reducible refine gate_lx (p := 4) rfl ?_; refine wp_fill (HS10.bx.kr hk11) rfl rfl rfl rfl rfl ?_; intro W12 f12 hx12; have HS12 := HS10.next hA (Nat.le_refl _) hro11 hk11.mono f12 hx12; clear d0 d1 d2 d3 d4 d5 d6 d7 df; obtain ⟨d0, d1, d2, d3, d4, d5, d6, d7⟩ := HS12.bx.cells; have df := HS12.bx.free)
          refine (rnumber_any HP (P.blanks s (P.blanks s (i + 1) + 7)) hG (by omega) cb.2 HS12.ro).mono ?_
          rintro e' W13 ⟨v, rfl, gl13, cl13, go13, co13, ga13, ca13, rfl, hro13, hk13⟩
          cases hok : numOk s (P.blanks s (P.blanks s (i + 1) + 7)) with
          | false =>
            have HR : Hid (cplxM s true false op i ts fs al = (failR s (P.blanks s (P.blanks s (i + 1) + 7)) op).mr ts fs al) := Lib.hid (by
              rw [cplxM, h44]
              simp only [if_true, offsetR, blanks_idem]
              rw [if_pos hh, hok, if_neg Bool.false_ne_true]
              unfold failR
              by_cases h9 : s.size ≤ P.blanks s (P.blanks s (i + 1) + 7) <;> simp only [h9, if_true, if_false] <;> rfl)
            go_wp2_with (with_reducible refine gate_lx (p := 4) rfl ?_; refine wp_fill (HS12.bx.kr hk13) rfl rfl rfl rfl rfl ?_; intro W14 f14 hx14; have HS14 := HS12.next hA (Nat.le_refl _) hro13 hk13.mono f14 hx14; clear d0 d1 d2 d3 d4 d5 d6 d7 df; obtain ⟨d0, d1, d2, d3, d4, d5, d6, d7⟩ := HS14.bx.cells; have df := HS14.bx.free)
            refine (rlacks_any (P.numEnd s (P.blanks s (P.blanks s (i + 1) + 7))) (op) (P.blanks s (P.blanks s (i + 1) + 7)) HS14.ro).mono ?_
            rintro e' W90 ⟨v, rfl, kk, aa, hfl, gl90, cl90, go90, co90, ga90, ca90, rfl, hro90, hk90⟩
            have HFL := Lib.hid hfl
            clear hfl
            go_wp2_with (with_reducible refine gate_lx (p := 8) rfl ?_; refine wp_fill (HS14.rb.kr hk90) rfl rfl rfl rfl rfl ?_; intro W91 f91 hr91)
            refine bodyPost_ret (bx_ret rfl rfl hr91) rfl ?_
            refine ⟨_, rfl, ?_⟩
            rw [HR.out, HFL.out]
            exact ⟨_, _, _, _, gl90, cl90, go90, co90, ga90, ca90, rfl, hro90.fl (HS14.rb.kr hk90) f91 (by omega), (HS14.kr.trans hk90.mono).fl f91 (by omega)⟩
          | true =>
            go_wp2_with (with_reducible refine gate_lx (p := 4) rfl ?_; refine wp_fill (HS12.bx.kr hk13) rfl rfl rfl rfl rfl ?_; intro W14 f14 hx14; have HS14 := HS12.next hA (Nat.le_refl _) hro13 hk13.mono f14 hx14; clear d0 d1 d2 d3 d4 d5 d6 d7 df; obtain ⟨d0, d1, d2, d3, d4, d5, d6, d7⟩ := HS14.bx.cells; have df := HS14.bx.free)
            have hput := rput_any (s := s) (m := m) (P.numEnd s (P.blanks s (P.blanks s (i + 1) + 7)) : Nat) 9 (numAt s (P.blanks s (P.blanks s (i + 1) + 7))) (P.blanks s (i + 1) : Nat) HS14.ro (by omega)
            generalize hts3 : ts2 ++ [(9, (numAt s (P.blanks s (P.blanks s (i + 1) + 7))), ((P.blanks s (i + 1) : Nat) : Int))] = ts3 at hput
            have hl_ts3 : ts3.length ≤ 80002 := by rw [← hts3]; simp; omega
            have Hts3 := Lib.hid hts3
            clear hts3
            refine hput.mono ?_
            rintro e' W15 ⟨v, rfl, gl15, cl15, go15, co15, ga15, ca15, rfl, hro15, hk15⟩
            have HR : Hid (cplxM s true false op i ts fs al = .ok (P.numEnd s (P.blanks s (P.blanks s (i + 1) + 7))) ts3 fs2 al) := Lib.hid (by
              rw [cplxM, h44, ← Hts3.out, ← Hts2.out, ← HFS.out]
              simp only [if_true, offsetR, blanks_idem]
              rw [if_pos hh, hok, if_pos rfl]
              simp)
            go_wp2_with (first
                    | (with_reducible refine gate_lx (p := 4) rfl ?_; refine wp_fill (HS14.bx.kr hk15) rfl rfl rfl rfl rfl ?_; intro W16 f16 hx16; have HS16 := HS14.next hA (Nat.le_refl _) hro15 hk15.mono f16 hx16; clear d0 d1 d2 d3 d4 d5 d6 d7 df; obtain ⟨d0, d1, d2, d3, d4, d5, d6, d7⟩ := HS16.bx.cells; have df := HS16.bx.free)
                    | (with_reducible refine gate_lx (p := 8) rfl ?_; refine wp_fill HS16.rb rfl rfl rfl rfl rfl ?_; intro W17 f17 hr17))
            refine bodyPost_ret (bx_ret rfl rfl hr17) rfl ?_
            refine ⟨_, rfl, ?_⟩
            rw [HR.out]
            exact ⟨gl15, cl15, go15, co15, ga15, ca15, rfl, HS16.ro.fl HS16.rb f17 (by omega), HS16.kr.fl f17 (by omega)⟩
      · have e7 : decide ((7 : Int) ≤ ((s.size - (P.blanks s (i + 1)) : Nat) : Int)) = false := by simp; omega
        have ew : IntKind.i64.wrap ((s.size : Int) - ((P.blanks s (i + 1) : Nat) : Int)) = ((s.size - (P.blanks s (i + 1)) : Nat) : Int) := by rw [IntWalk.i64_in _ (by omega)]; omega
        have hh : hereB s (P.blanks s (i + 1)) wOffset = false := by
          cases hh : hereB s (P.blanks s (i + 1)) wOffset with
          | false => rfl
          | true => have := hereB_len _ _ _ hh (by decide); simp [wOffset] at this; omega
        have HR : Hid (cplxM s true false op i ts fs al = .ok (P.blanks s (i + 1)) ts2 fs2 al) := Lib.hid (by rw [cplxM, h44, ← Hts2.out, ← HFS.out]; simp only [if_true, if_neg Bool.false_ne_true, offsetR, blanks_idem]; rw [if_neg (by rw [hh]; decide)]; simp)
        go_wp2_with (first
                | (with_reducible refine gate_lx (p := 4) rfl ?_; refine wp_fill (HS7.bx.kr hk8) rfl rfl rfl rfl rfl ?_; intro W9 f9 hx9; have HS9 := HS7.next hA (Nat.le_refl _) hro8 hk8.mono f9 hx9; clear d0 d1 d2 d3 d4 d5 d6 d7 df; obtain ⟨d0, d1, d2, d3, d4, d5, d6, d7⟩ := HS9.bx.cells; have df := HS9.bx.free)
                | (with_reducible refine gate_lx (p := 8) rfl ?_; refine wp_fill HS9.rb rfl rfl rfl rfl rfl ?_; intro W10 f10 hr10))
        refine bodyPost_ret (bx_ret rfl rfl hr10) rfl ?_
        refine ⟨_, rfl, ?_⟩
        rw [HR.out]
        exact ⟨gl8, cl8, go8, co8, ga8, ca8, rfl, HS9.ro.fl HS9.rb f10 (by omega), HS9.kr.fl f10 (by omega)⟩
    | false =>
      cases ch with
      | true =>
        go_wp2_with (first
                | (with_reducible refine gate_lx (p := 4) rfl ?_; refine wp_fill (HS2.bx.kr hk3) rfl rfl rfl rfl rfl ?_; intro W4 f4 hx4; have HS4 := HS2.next hA (Nat.le_refl _) hro3 hk3.mono f4 hx4; clear d0 d1 d2 d3 d4 d5 d6 d7 df; obtain ⟨d0, d1, d2, d3, d4, d5, d6, d7⟩ := HS4.bx.cells; have df := HS4.bx.free; have HS5 : SB true A w w.heap.size s m ((i + 1 : Nat) : Int) ts2 fs al gl3 cl3 go3 co3 ga3 ca3 (W4.setCell ⟨w.heap.size, 2, none⟩ (.int .i64 ((i : Int) + 1))) := (HS4.set2 hA (Nat.le_refl _) ((i : Int) + 1)).cast (by omega); have hne : w.heap.size ≠ W4.heap.size := (by have := HS4.bx.lt; omega); have qx : ∀ o : Obj, ((W4.setCell ⟨w.heap.size, 2, none⟩ (.int .i64 ((i : Int) + 1))).alloc o).cell? ⟨w.heap.size, 4, none⟩ = some (.slice go3 fs.length co3) := fun o => (HS5.later ((Below.refl _ _).alloc (Nat.le_refl _) _)).bx.cells.2.2.2.2.1)
                | (at_builtin; have HS6 : SB true A w w.heap.size s m ((i + 1 : Nat) : Int) ts2 fs al gl3 cl3 go3 co3 ga3 ca3 (((W4.setCell ⟨w.heap.size, 2, none⟩ (.int .i64 ((i : Int) + 1))).alloc (.cells #[.int .i64 2, .bool false, .int .i64 op, .bool false, .int .i64 0] 65)).alloc (.cells #[.int .i64 2, .bool false, .int .i64 op, .bool false, .int .i64 0] 65)) := (HS5.later ((Below.refl _ _).alloc (Nat.le_refl _) _)).later ((Below.refl _ _).alloc (Nat.le_refl _) _); refine wpList_append_own _ rfl _ _ 47 rfl A.heap.size 65 i0 (.agg #[.int .i64 0, .bool false, .int .i64 0, .bool false, .int .i64 0]) 5 40 Tryz.underlying47 hii hz0 hz1 hz2 rfl (by decide) _ _ _ rfl HS6.ro.fr ⟨W4.heap.size + 1, 0, none⟩ 1 1 [.int .i64 2, .bool false, .int .i64 op, .bool false, .int .i64 0] rfl rfl ?c1 ?c2 ?c3 ?c4 ?c5 ?_))
        case c1 =>
          intro j u hj
          have hq : ∀ j : Nat, (((W4.setCell ⟨w.heap.size, 2, none⟩ (.int .i64 ((i : Int) + 1))).alloc (.cells #[.int .i64 2, .bool false, .int .i64 op, .bool false, .int .i64 0] 65)).alloc (.cells #[.int .i64 2, .bool false, .int .i64 op, .bool false, .int .i64 0] 65)).cell? ⟨W4.heap.size + 1, j, none⟩ = (#[.int .i64 2, .bool false, .int .i64 op, .bool false, .int .i64 0] : Array Value)[j]? := fun j => by
            have h1 := World.alloc_heap_new ((W4.setCell ⟨w.heap.size, 2, none⟩ (.int .i64 ((i : Int) + 1))).alloc (.cells #[.int .i64 2, .bool false, .int .i64 op, .bool false, .int .i64 0] 65)) (.cells #[.int .i64 2, .bool false, .int .i64 op, .bool false, .int .i64 0] 65)
            have hs : ((W4.setCell ⟨w.heap.size, 2, none⟩ (.int .i64 ((i : Int) + 1))).alloc (.cells #[.int .i64 2, .bool false, .int .i64 op, .bool false, .int .i64 0] 65)).heap.size = W4.heap.size + 1 := by simp
            rw [hs] at h1
            exact Lib.cell_of_heap h1 j
          rw [show (⟨W4.heap.size + 1, 0, none⟩ : Addr).add j = ⟨W4.heap.size + 1, j, none⟩ from by rw [Addr.add]; split <;> simp_all, hq]
          exact (Array.getElem?_toList (xs := (#[.int .i64 2, .bool false, .int .i64 op, .bool false, .int .i64 0] : Array Value)) (i := j)).symm.trans hj
        case c2 => intro u hu; simp only [List.mem_cons, List.not_mem_nil, or_false] at hu; rcases hu with rfl | rfl | rfl | rfl | rfl <;> rfl
        case c3 => unfold maxLen; omega
        case c4 => omega
        case c5 => have := HS4.bx.lt; simp; omega
        intro v' w1 hown' hgrow _
        obtain ⟨go7, co7, hv7, hb7, HS7⟩ := HS6.pushFr hA (Nat.le_refl _) (f := (2, false, op, false, 0)) hgrow hown'
        have hl_fs2 : (fs ++ [((2, false, op, false, 0) : Fr)]).length ≤ 80001 := by simp; omega
        generalize hfs2 : fs ++ [((2, false, op, false, 0) : Fr)] = fs2 at hv7 HS7 hl_fs2
        have HFS := Lib.hid hfs2
        clear hfs2 qx
        subst hv7
        obtain ⟨d0, d1, d2, d3, d4, d5, d6, d7⟩ := hb7.cells
        have df := hb7.free
        obtain ⟨x0, x1, x2, x3, x4, x5, x6, x7⟩ := HS7.bx.cells
        go_wp2_with fail
        generalize w1.setCell ⟨w.heap.size, 4, none⟩ (.slice go7 fs2.length co7) = W7 at *
        refine (rblanks_any (i + 1) hG (by omega) (by omega) HS7.ro).mono ?_
        clear d0 d1 d2 d3 d4 d5 d6 d7 df x0 x1 x2 x3 x4 x5 x6 x7 hb7
        have d0 : True := trivial
        have d1 : True := trivial
        have d2 : True := trivial
        have d3 : True := trivial
        have d4 : True := trivial
        have d5 : True := trivial
        have d6 : True := trivial
        have d7 : True := trivial
        have df : True := trivial
        rintro e' W8 ⟨v, rfl, gl8, cl8, go8, co8, ga8, ca8, rfl, hro8, hk8⟩
        have bb := blanks_bd s (i + 1) (by omega)
        have HR : Hid (cplxM s false true op i ts fs al = (limF s op (P.blanks s (i + 1))).mr ts2 (fs ++ [(2, false, op, true, 0)]) al) := Lib.hid (by rw [cplxM, h44, ← Hts2.out]; simp)
        go_wp2_with (with_reducible refine gate_lx (p := 4) rfl ?_; refine wp_fill (HS7.bx.kr hk8) rfl rfl rfl rfl rfl ?_; intro W9 f9 hx9; have HS9 := HS7.next hA (Nat.le_refl _) hro8 hk8.mono f9 hx9; clear d0 d1 d2 d3 d4 d5 d6 d7 df; obtain ⟨d0, d1, d2, d3, d4, d5, d6, d7⟩ := HS9.bx.cells; have df := HS9.bx.free)
        refine (rlimit_any HP (P.blanks s (i + 1)) hG hz bb.2 (2, false, op, false, 0) (by omega) (by omega) fs2 (Lib.hid HFS.out.symm) HS9.ro).mono ?_
        rintro e' W10 ⟨v, rfl, hq⟩
        have hm := (RQ.rm hq).kr HS9.kr
        obtain ⟨s', m', i', gl', go', ga', nl', cl', no', co', na', ca', ee', aa', hv, hkv⟩ := (RQ.rm hq).val
        subst hv
        go_wp2_with (with_reducible refine gate_lx (p := 8) rfl ?_; refine wp_fill (HS9.rb.kr hkv) rfl rfl rfl rfl rfl ?_; intro W11 f11 hr11)
        refine bodyPost_ret (bx_ret rfl rfl hr11) rfl ?_
        refine ⟨_, rfl, ?_⟩
        rw [HR.out]
        exact hm.fl (HS9.rb.kr hkv) f11 (by omega) (by omega)
      | false =>
        go_wp2_with (first
                | (with_reducible refine gate_lx (p := 4) rfl ?_; refine wp_fill (HS2.bx.kr hk3) rfl rfl rfl rfl rfl ?_; intro W4 f4 hx4; have HS4 := HS2.next hA (Nat.le_refl _) hro3 hk3.mono f4 hx4; clear d0 d1 d2 d3 d4 d5 d6 d7 df; obtain ⟨d0, d1, d2, d3, d4, d5, d6, d7⟩ := HS4.bx.cells; have df := HS4.bx.free; have HS5 : SB true A w w.heap.size s m ((i + 1 : Nat) : Int) ts2 fs al gl3 cl3 go3 co3 ga3 ca3 (W4.setCell ⟨w.heap.size, 2, none⟩ (.int .i64 ((i : Int) + 1))) := (HS4.set2 hA (Nat.le_refl _) ((i : Int) + 1)).cast (by omega); have hne : w.heap.size ≠ W4.heap.size := (by have := HS4.bx.lt; omega); have qx : ∀ o : Obj, ((W4.setCell ⟨w.heap.size, 2, none⟩ (.int .i64 ((i : Int) + 1))).alloc o).cell? ⟨w.heap.size, 4, none⟩ = some (.slice go3 fs.length co3) := fun o => (HS5.later ((Below.refl _ _).alloc (Nat.le_refl _) _)).bx.cells.2.2.2.2.1)
                | (at_builtin; have HS6 : SB true A w w.heap.size s m ((i + 1 : Nat) : Int) ts2 fs al gl3 cl3 go3 co3 ga3 ca3 (((W4.setCell ⟨w.heap.size, 2, none⟩ (.int .i64 ((i : Int) + 1))).alloc (.cells #[.int .i64 0, .bool false, .int .i64 op, .bool false, .int .i64 0] 65)).alloc (.cells #[.int .i64 0, .bool false, .int .i64 op, .bool false, .int .i64 0] 65)) := (HS5.later ((Below.refl _ _).alloc (Nat.le_refl _) _)).later ((Below.refl _ _).alloc (Nat.le_refl _) _); refine wpList_append_own _ rfl _ _ 47 rfl A.heap.size 65 i0 (.agg #[.int .i64 0, .bool false, .int .i64 0, .bool false, .int .i64 0]) 5 40 Tryz.underlying47 hii hz0 hz1 hz2 rfl (by decide) _ _ _ rfl HS6.ro.fr ⟨W4.heap.size + 1, 0, none⟩ 1 1 [.int .i64 0, .bool false, .int .i64 op, .bool false, .int .i64 0] rfl rfl ?c1 ?c2 ?c3 ?c4 ?c5 ?_))
        case c1 =>
          intro j u hj
          have hq : ∀ j : Nat, (((W4.setCell ⟨w.heap.size, 2, none⟩ (.int .i64 ((i : Int) + 1))).alloc (.cells #[.int .i64 0, .bool false, .int .i64 op, .bool false, .int .i64 0] 65)).alloc (.cells #[.int .i64 0, .bool false, .int .i64 op, .bool false, .int .i64 0] 65)).cell? ⟨W4.heap.size + 1, j, none⟩ = (#[.int .i64 0, .bool false, .int .i64 op, .bool false, .int .i64 0] : Array Value)[j]? := fun j => by
            have h1 := World.alloc_heap_new ((W4.setCell ⟨w.heap.size, 2, none⟩ (.int .i64 ((i : Int) + 1))).alloc (.cells #[.int .i64 0, .bool false, .int .i64 op, .bool false, .int .i64 0] 65)) (.cells #[.int .i64 0, .bool false, .int .i64 op, .bool false, .int .i64 0] 65)
            have hs : ((W4.setCell ⟨w.heap.size, 2, none⟩ (.int .i64 ((i : Int) + 1))).alloc (.cells #[.int .i64 0, .bool false, .int .i64 op, .bool false, .int .i64 0] 65)).heap.size = W4.heap.size + 1 := by simp
            rw [hs] at h1
            exact Lib.cell_of_heap h1 j
          rw [show (⟨W4.heap.size + 1, 0, none⟩ : Addr).add j = ⟨W4.heap.size + 1, j, none⟩ from by rw [Addr.add]; split <;> simp_all, hq]
          exact (Array.getElem?_toList (xs := (#[.int .i64 0, .bool false, .int .i64 op, .bool false, .int .i64 0] : Array Value)) (i := j)).symm.trans hj
        case c2 => intro u hu; simp only [List.mem_cons, List.not_mem_nil, or_false] at hu; rcases hu with rfl | rfl | rfl | rfl | rfl <;> rfl
        case c3 => unfold maxLen; omega
        case c4 => omega
        case c5 => have := HS4.bx.lt; simp; omega
        intro v' w1 hown' hgrow _
        obtain ⟨go7, co7, hv7, hb7, HS7⟩ := HS6.pushFr hA (Nat.le_refl _) (f := (0, false, op, false, 0)) hgrow hown'
        have hl_fs2 : (fs ++ [((0, false, op, false, 0) : Fr)]).length ≤ 80001 := by simp; omega
        generalize hfs2 : fs ++ [((0, false, op, false, 0) : Fr)] = fs2 at hv7 HS7 hl_fs2
        have HFS := Lib.hid hfs2
        clear hfs2 qx
        subst hv7
        obtain ⟨d0, d1, d2, d3, d4, d5, d6, d7⟩ := hb7.cells
        have df := hb7.free
        obtain ⟨x0, x1, x2, x3, x4, x5, x6, x7⟩ := HS7.bx.cells
        go_wp2_with fail
        generalize w1.setCell ⟨w.heap.size, 4, none⟩ (.slice go7 fs2.length co7) = W7 at *
        refine (rblanks_any (i + 1) hG (by omega) (by omega) HS7.ro).mono ?_
        clear d0 d1 d2 d3 d4 d5 d6 d7 df x0 x1 x2 x3 x4 x5 x6 x7 hb7
        have d0 : True := trivial
        have d1 : True := trivial
        have d2 : True := trivial
        have d3 : True := trivial
        have d4 : True := trivial
        have d5 : True := trivial
        have d6 : True := trivial
        have d7 : True := trivial
        have df : True := trivial
        rintro e' W8 ⟨v, rfl, gl8, cl8, go8, co8, ga8, ca8, rfl, hro8, hk8⟩
        have bb := blanks_bd s (i + 1) (by omega)
        have HR : Hid (cplxM s false false op i ts fs al = .ok (P.blanks s (i + 1)) ts2 fs2 al) := Lib.hid (by rw [cplxM, h44, ← Hts2.out, ← HFS.out]; simp)
        go_wp2_with (first
                | (with_reducible refine gate_lx (p := 4) rfl ?_; refine wp_fill (HS7.bx.kr hk8) rfl rfl rfl rfl rfl ?_; intro W9 f9 hx9; have HS9 := HS7.next hA (Nat.le_refl _) hro8 hk8.mono f9 hx9; clear d0 d1 d2 d3 d4 d5 d6 d7 df; obtain ⟨d0, d1, d2, d3, d4, d5, d6, d7⟩ := HS9.bx.cells; have df := HS9.bx.free)
                | (with_reducible refine gate_lx (p := 8) rfl ?_; refine wp_fill HS9.rb rfl rfl rfl rfl rfl ?_; intro W10 f10 hr10))
        refine bodyPost_ret (bx_ret rfl rfl hr10) rfl ?_
        refine ⟨_, rfl, ?_⟩
        rw [HR.out]
        exact ⟨gl8, cl8, go8, co8, ga8, ca8, rfl, HS9.ro.fl HS9.rb f10 (by omega), HS9.kr.fl f10 (by omega)⟩
end
end Go.Proofs.YtcnhklcbibpjpaaGreatDoor
